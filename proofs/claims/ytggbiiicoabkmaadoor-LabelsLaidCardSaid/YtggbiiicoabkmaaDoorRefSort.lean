/-
  The document's Sort of labels. No condition.
-/
import Derived.Test.YtggbiiicoabkmaaDoorVl
import Derived.Test.YtggbiiicoabkmaaDoorSortP
namespace Go.Fl
open Go.Proofs Go.RowKit
set_option maxRecDepth 10000
set_option maxHeartbeats 4000000

theorem rSort (L : List Lab) (a : Option Addr) (c : Nat) (hc : L.length ≤ c) : Con Tryd.prog 27 [.slice a L.length c] [] (fun w => LabAt w a L)
    (fun v bs => ∃ u, v = .tuple #[u, .int .i64 (schk L).1, .int .i64 (schk L).2] ∧ OutAt (if (schk L).1 = 0 then L.foldl putL [] else []) u bs) := by
  refine con_start1 Tryd.func27 rfl rfl rfl (fun w0 hw => ?_)
  refine vstart [(0, .raw (.slice a L.length c))] [] [] ?_
  refine vwith (pt := .run _) _ _ [] tabOk lent_nil fun go => ?_
  apply go 300
  repeat' (first | apply And.intro | intro _)
  all_goals try (first | (show Here _ _ _ _; try (exfalso; omega)) | exact trivial | omega | kernel_rfl | exact rfl)
  · refine vc3 (bs := []) rfl rfl rfl rfl (List.nil_sublist _) ?_
    have := schk_many (L := L) (by omega)
    rw [this]
    exact ⟨_, rfl, Or.inl ⟨rfl, rfl, rfl⟩⟩
  have h8 : L.length ≤ 8 := by omega
  refine vrounds (fun s : Nat × Go.Value × Hs => s.1 ≤ L.length ∧ (∀ j, j < s.1 → sbad L j = 0) ∧ OutAt ((L.take s.1).foldl putL []) s.2.1 s.2.2) (fun s => L.length - s.1) (fun s => [(0, .raw (.slice a L.length c)), (5, .raw s.2.1), (6, .nat s.1)]) (fun _ => []) (fun s => s.2.2)
    (0, .slice none 0 0, []) (fun s hI ih => ?_) ⟨Nat.zero_le _, by omega, Or.inl ⟨rfl, rfl, rfl⟩⟩ ⟨rfl, rfl, rfl, trivial⟩ (List.Sublist.refl _)
  obtain ⟨i, u, bs⟩ := s
  obtain ⟨hi, hI, hO⟩ := hI
  simp only at hi hI hO ih ⊢
  by_cases hl : i < L.length
  · obtain ⟨b, off, rfl⟩ := hw.is (by rintro rfl; simp at hl)
    have hR := hw.go b off rfl
    refine vre [(0, .sl false 0 b off 2 none L.length c), (5, .raw u), (6, .nat i)] rfl ?_
    refine vwith (pt := .run _) _ _ [⟨b, off, .arr cdL L⟩] tabOk (lent_lab lent_nil List.not_mem_nil hR) fun go => ?_
    apply go 300
    repeat' (first | apply And.intro | intro _)
    all_goals try (first | (show Here _ _ _ _; try (exfalso; omega)) | exact trivial | omega | kernel_rfl | exact rfl)
    rename_i x hx
    refine vcall (v := .bd (oneL x = true) inferInstance) rfl rfl (by kernel_rfl) (rone x).bd (by exact fun _ _ => trivial) ?_
    apply go 300
    repeat' (first | apply And.intro | intro _)
    all_goals try (first | (show Here _ _ _ _; try (exfalso; omega)) | exact trivial | omega | kernel_rfl | exact rfl)
    · refine vc3 (bs := []) rfl rfl rfl rfl (List.nil_sublist _) ?_
      rw [schk_bad h8 hl hI (c := 12) (by simp [sbad, List.getD_eq_getElem?_getD, hx]; simp_all) (by decide)]
      exact ⟨_, rfl, Or.inl ⟨rfl, rfl, rfl⟩⟩
    have ho : oneL x = true := by simp_all
    have hG := rGetT L (some ⟨b, off, none⟩) c i x.1 hi (by omega)
    have hsb : sbad L i = if (getL (L.take i) x.1).isSome = true then 9 else 0 := by simp [sbad, List.getD_eq_getElem?_getD, hx, ho]
    refine vdraw (flagsOf _) (by kernel_rfl) (by decide +kernel) (flags_len _) ?_
    apply go 300
    repeat' (first | apply And.intro | intro _)
    all_goals try (first | (show Here _ _ _ _; try (exfalso; omega)) | exact trivial | omega | kernel_rfl | exact rfl)
    rename_i x' hx'
    rw [hx] at hx'
    cases hx'
    cases hg : getL (L.take i) x.1 with
    | some y =>
      rw [hg] at hG hsb
      refine vcallD (v := .tup [.str y.2, .bl true]) rfl rfl (by kernel_rfl) hG (by exact fun _ h => hw.st h) ?_
      apply go 300
      repeat' (first | apply And.intro | intro _)
      all_goals try (first | (show Here _ _ _ _; try (exfalso; omega)) | exact trivial | omega | kernel_rfl | exact rfl)
      refine vc3 (bs := []) rfl rfl rfl rfl (List.nil_sublist _) ?_
      rw [schk_bad h8 hl hI (c := 9) hsb (by decide)]
      exact ⟨_, rfl, Or.inl ⟨rfl, rfl, rfl⟩⟩
    | none =>
      rw [hg] at hG hsb
      refine vcallD (v := .tup [.str ⟨#[]⟩, .bl false]) rfl rfl (by kernel_rfl) hG (by exact fun _ h => hw.st h) ?_
      apply go 300
      repeat' (first | apply And.intro | intro _)
      all_goals try (first | (show Here _ _ _ _; try (exfalso; omega)) | exact trivial | omega | kernel_rfl | exact rfl)
      rename_i x' hx'
      rw [hx] at hx'
      cases hx'
      obtain ⟨a', c', rfl, hle, hrd⟩ := outAt_lab hO
      refine vcc rfl rfl (by kernel_rfl) (put ((L.take i).foldl putL []) x a' c' (by rw [foldl_putL_len, List.length_take]; simp; omega)) (by exact fun w' hst => hrd _ _ _ _ (fun y hy => List.mem_append_right _ hy) hst) ?_
      intro v' bs' hO'
      refine ⟨.raw v', rfl, ?_⟩
      apply go 300
      repeat' (first | apply And.intro | intro _)
      all_goals try (first | (show Here _ _ _ _; try (exfalso; omega)) | exact trivial | omega | kernel_rfl | exact rfl)
      refine vweak _ _ _ (ih (i + 1, v', bs') ⟨by simp only; omega, sbad_step hI hsb, ?_⟩ (by simp only; omega)) ⟨rfl, rfl, rfl, trivial⟩ (List.sublist_append_left _ _)
      rw [List.take_add_one, hx, List.foldl_append]
      exact hO'
  · apply go 300
    repeat' (first | apply And.intro | intro _)
    all_goals try (first | (show Here _ _ _ _; try (exfalso; omega)) | exact trivial | omega | kernel_rfl | exact rfl)
    obtain rfl : i = L.length := by omega
    refine vc3 (bs := bs) rfl rfl rfl rfl (List.Sublist.refl _) ?_
    rw [schk_ok h8 hI]
    exact ⟨_, rfl, by simpa [V.val] using hO⟩
end Go.Fl
