/-
  The statement LabelsSorted, walked. No condition beyond the list's size.
-/
import Derived.Test.YtggbiiicoabkmaaDoorCommon
import Derived.Test.YtggbiiicoabkmaaDoorMergeP
import Derived.Test.YtggbiiicoabkmaaDoorWorks02
import Derived.Test.YtggbiiicoabkmaaDoorLabG
namespace Go.Fl
open Go.Proofs Go.RowKit
set_option maxRecDepth 10000
set_option maxHeartbeats 4000000

/-! plain: what is in order stays, and is well formed -/
theorem schk_zero {L : List Lab} (h : (schk L).1 = 0) : L.length ≤ 8 ∧ ∀ j, j < L.length → sbad L j = 0 := by
  by_cases h8 : 8 < L.length
  · rw [schk_many h8] at h; simp at h
  · refine ⟨by omega, fun j hj => ?_⟩
    unfold schk at h
    rw [if_neg h8] at h
    split at h
    · rename_i hf
      have := List.find?_eq_none.1 hf j (by simpa using hj)
      simpa using this
    · rename_i i hf
      have h1 := List.find?_some hf
      simp only at h
      simp [h] at h1
theorem schk_dist {L : List Lab} (h : (schk L).1 = 0) : (∀ x ∈ L, oneL x = true) ∧ L.Pairwise fun a b => tl a.1 ≠ tl b.1 := by
  obtain ⟨_, hb⟩ := schk_zero h
  have key : ∀ i (hi : i < L.length), oneL L[i] = true ∧ getL (L.take i) L[i].1 = none := by
    intro i hi
    have h1 := hb i hi
    have e1 : L.getD i default = L[i] := by rw [List.getD_eq_getElem?_getD, List.getElem?_eq_getElem hi]; rfl
    unfold sbad at h1
    rw [e1] at h1
    split at h1
    · cases h1
    · rename_i h2
      split at h1
      · cases h1
      · rename_i h3
        exact ⟨by simpa using h2, by simpa using h3⟩
  constructor
  · intro x hx
    obtain ⟨i, hi, rfl⟩ := List.mem_iff_getElem.1 hx
    exact (key i hi).1
  · refine List.pairwise_iff_getElem.2 fun i j hi hj hij => ?_
    have := getL_none.1 (key j hj).2 L[i] (List.mem_iff_getElem.2 ⟨i, by rw [List.length_take]; omega, by rw [List.getElem_take]⟩)
    exact this
theorem putL_perm (x : Lab) : ∀ S : List Lab, (putL S x).Perm (x :: S)
  | [] => List.Perm.refl _
  | y :: S => by
    unfold putL
    split
    · exact List.Perm.refl _
    · exact ((putL_perm x S).cons y).trans (List.Perm.swap x y S)
theorem foldl_putL_perm : ∀ L S : List Lab, (L.foldl putL S).Perm (L ++ S)
  | [], S => List.Perm.refl _
  | x :: L, S => ((foldl_putL_perm L (putL S x)).trans ((putL_perm x S).append_left L)).trans List.perm_middle
theorem chk_of {S : List Lab} (h8 : S.length ≤ 8) (h1 : ∀ x ∈ S, oneL x = true) (h2 : S.Pairwise Str) : chk S = (0, -1) := by
  refine chk_ok h8 fun j hj => ?_
  have e1 : S.getD j default = S[j] := by rw [List.getD_eq_getElem?_getD, List.getElem?_eq_getElem hj]; rfl
  by_cases h0 : 0 < j
  · have hj' : j - 1 < S.length := by omega
    have e2 : S.getD (j - 1) default = S[j - 1] := by rw [List.getD_eq_getElem?_getD, List.getElem?_eq_getElem hj']; rfl
    have hs : Str S[j - 1] S[j] := List.pairwise_iff_getElem.1 h2 (j - 1) j hj' hj (by omega)
    rw [bad_eq e1 e2, if_neg (by rw [h1 _ (List.getElem_mem hj)]; decide), if_neg (fun h => hs.1 h.2.symm), if_neg (fun h => by have := hs.2; unfold ltL at this; rw [h.2] at this; cases this)]
  · rw [bad_eq e1 rfl, if_neg (by rw [h1 _ (List.getElem_mem hj)]; decide), if_neg (fun h => h0 h.1), if_neg (fun h => h0 h.1)]
theorem sorted_facts {L : List Lab} (h : (schk L).1 = 0) : (L.foldl putL []).length = L.length ∧ chk (L.foldl putL []) = (0, -1) ∧ schk (L.foldl putL []) = (0, -1) ∧ (L.foldl putL []).foldl putL [] = L.foldl putL [] ∧ (L.foldl putL []).Perm L := by
  obtain ⟨h8, _⟩ := schk_zero h
  obtain ⟨h1, h2⟩ := schk_dist h
  have hp : (L.foldl putL []).Perm L := by have := foldl_putL_perm L []; rwa [List.append_nil] at this
  have hl := hp.length_eq
  have ho : Ordered (L.foldl putL []) := by have := (isort_put L _ L.length rfl (Nat.le_refl _)).2; rwa [List.take_length] at this
  have h1' : ∀ x ∈ L.foldl putL [], oneL x = true := fun x hx => h1 x (hp.mem_iff.1 hx)
  have h2' : (L.foldl putL []).Pairwise fun a b => tl a.1 ≠ tl b.1 := hp.symm.pairwise h2 (fun {_ _} h => Ne.symm h)
  refine ⟨hl, chk_of (by omega) h1' (h2'.and ho), schk_ok (by omega) fun j hj => sbad_zero h1' h2' hj, ?_, hp⟩
  rw [foldl_ord _ [] ho]; rfl
theorem match_sub {A B : List Lab} (h : ∀ x ∈ A, x ∈ B) : matchL A B = true := by
  have : commonL A B = A := List.filter_eq_self.2 fun x hx => List.any_eq_true.2 ⟨x, h x hx, by simp [isLab]⟩
  unfold matchL
  rw [this]
  simp
theorem same_self : ∀ L : List Lab, sameL L L = true
  | [] => rfl
  | x :: L => by simp [sameL, eqLab, same_self L]

theorem law02Sorted (L : List Lab) (a : Option Addr) (c : Nat) (hc : L.length ≤ c) (hn : L.length * 32 ≤ 140737488351232) : RetIf Tryd.prog 10 [.slice a L.length c] (fun w => LabAt w a L) (.bool true) := by
  refine ret_start1 Tryd.func10 rfl rfl rfl (fun w0 hw => ?_)
  refine vstart [(0, .raw (.slice a L.length c))] [] [] ?_
  refine vwith (pt := .run _) _ _ [] tabOk lent_nil fun go => ?_
  apply go 300
  repeat' (first | apply And.intro | intro _)
  all_goals try (first | (show Here _ _ _ _; try (exfalso; omega)) | exact trivial | omega | kernel_rfl | exact rfl)
  refine vcc rfl rfl (by kernel_rfl) (SortC L a c hc) (by exact fun _ h => hw.st h) ?_
  intro v1 b1 hp1
  have hnone : a = none → L = [] := by rintro rfl; exact LabAt.none' hw
  obtain ⟨u1, rfl, ho1⟩ := sort_out2 hnone hp1
  by_cases h0 : (schk L).1 = 0
  · have he : errOf (schk L) = .nilIface := by unfold errOf; rw [if_pos h0]
    rw [if_pos h0] at ho1
    rw [he]
    obtain ⟨hl, hk, hsk, hf, hperm⟩ := sorted_facts h0
    have h8 := (schk_zero h0).1
    obtain ⟨a1, c1, rfl, hc1, hr1⟩ := outAt_lab ho1
    refine ⟨.tup [.raw (.slice a1 (L.foldl putL []).length c1), .raw .nilIface], rfl, ?_⟩
    apply go 300
    repeat' (first | apply And.intro | intro _)
    all_goals try (first | (show Here _ _ _ _; try (exfalso; omega)) | exact trivial | omega | kernel_rfl | exact rfl)
    refine vcall (v := .bl true) rfl rfl (by kernel_rfl) works02 (by exact fun _ _ => trivial) ?_
    apply go 300
    repeat' (first | apply And.intro | intro _)
    all_goals try (first | (show Here _ _ _ _; try (exfalso; omega)) | exact trivial | omega | kernel_rfl | exact rfl)
    refine vcc rfl rfl (by kernel_rfl) (SortC (L.foldl putL []) a1 c1 hc1) (by exact fun _ h => hr1 _ _ _ _ (fun x hx => by simp [hx]) h) ?_
    intro v2 b2 hp2
    have hnone2 : a1 = none → L.foldl putL [] = [] := by
      rintro rfl
      rcases ho1 with ⟨h, _, _⟩ | ⟨g, cap, spare, h, _⟩
      · exact h
      · cases h
    obtain ⟨u2, rfl, ho2⟩ := sort_out2 hnone2 hp2
    rw [hsk, if_pos rfl, hf] at ho2
    rw [hsk, show errOf (0, -1) = .nilIface from rfl]
    obtain ⟨a2, c2, rfl, hc2, hr2⟩ := outAt_lab ho2
    refine ⟨.tup [.raw (.slice a2 (L.foldl putL []).length c2), .raw .nilIface], rfl, ?_⟩
    have hC := Check (L.foldl putL []) a1 c1
    rw [hk, show errOf (0, -1) = .nilIface from rfl] at hC
    have hS := SameLabels (L.foldl putL []) (L.foldl putL []) a2 a1 c2 c1 (by omega)
    rw [same_self] at hS
    have hM1 := Matches (L.foldl putL []) L a1 a c1 c (by omega) (by omega)
    have hM2 := Matches L (L.foldl putL []) a a1 c c1 (by omega) (by omega)
    rw [match_sub (fun x hx => hperm.mem_iff.1 hx)] at hM1
    rw [match_sub (fun x hx => hperm.mem_iff.2 hx)] at hM2
    apply go 300
    repeat' (first | apply And.intro | intro _)
    all_goals try (first | (show Here _ _ _ _; try (exfalso; omega)) | exact trivial | omega | kernel_rfl | exact rfl)
    refine vcall (v := .raw .nilIface) rfl rfl (by kernel_rfl) hC (by exact fun _ h => hr1 _ _ _ _ (fun x hx => by simp [hx]) h) ?_
    apply go 300
    repeat' (first | apply And.intro | intro _)
    all_goals try (first | (show Here _ _ _ _; try (exfalso; omega)) | exact trivial | omega | kernel_rfl | exact rfl)
    refine vcall (v := .bl true) rfl rfl (by kernel_rfl) hS (by exact fun _ h => ⟨hr2 _ _ _ _ (fun x hx => by simp [hx]) h, hr1 _ _ _ _ (fun x hx => by simp [hx]) h⟩) ?_
    apply go 300
    repeat' (first | apply And.intro | intro _)
    all_goals try (first | (show Here _ _ _ _; try (exfalso; omega)) | exact trivial | omega | kernel_rfl | exact rfl)
    refine vcall (v := .bl true) rfl rfl (by kernel_rfl) hM1 (by exact fun _ h => ⟨hr1 _ _ _ _ (fun x hx => by simp [hx]) h, hw.st h⟩) ?_
    apply go 300
    repeat' (first | apply And.intro | intro _)
    all_goals try (first | (show Here _ _ _ _; try (exfalso; omega)) | exact trivial | omega | kernel_rfl | exact rfl)
    refine vcall (v := .bl true) rfl rfl (by kernel_rfl) hM2 (by exact fun _ h => ⟨hw.st h, hr1 _ _ _ _ (fun x hx => by simp [hx]) h⟩) ?_
    apply go 300
    repeat' (first | apply And.intro | intro _)
    all_goals try (first | (show Here _ _ _ _; try (exfalso; omega)) | exact trivial | omega | kernel_rfl | exact rfl)
    exact vr1 rfl rfl rfl
  · rw [if_neg h0] at ho1
    obtain ⟨a1, c1, rfl, hc1, hr1⟩ := outAt_lab ho1
    have hE : ∃ n : Int, errOf (schk L) = errno n ∨ ∃ k, errOf (schk L) = fault n k := by
      unfold errOf
      rw [if_neg h0]
      split
      · exact ⟨_, Or.inl rfl⟩
      · exact ⟨_, Or.inr ⟨_, rfl⟩⟩
    obtain ⟨n, he | ⟨k, he⟩⟩ := hE
    · rw [he]
      refine ⟨.tup [.raw (.slice a1 ([] : List Lab).length c1), .ifc 63 (.int .i64 n)], rfl, ?_⟩
      apply go 300
      repeat' (first | apply And.intro | intro _)
      all_goals try (first | (show Here _ _ _ _; try (exfalso; omega)) | exact trivial | omega | kernel_rfl | exact rfl)
      refine vcall (v := .bl true) rfl rfl (by kernel_rfl) works02 (by exact fun _ _ => trivial) ?_
      apply go 300
      repeat' (first | apply And.intro | intro _)
      all_goals try (first | (show Here _ _ _ _; try (exfalso; omega)) | exact trivial | omega | kernel_rfl | exact rfl)
      refine vcall (v := .bl true) rfl rfl (by kernel_rfl) works02 (by exact fun _ _ => trivial) ?_
      apply go 300
      repeat' (first | apply And.intro | intro _)
      all_goals try (first | (show Here _ _ _ _; try (exfalso; omega)) | exact trivial | omega | kernel_rfl | exact rfl)
      exact vr1 rfl rfl rfl
    · rw [he]
      refine ⟨.tup [.raw (.slice a1 ([] : List Lab).length c1), .ifc 67 (.agg [.int .i64 n, .int .i64 k])], rfl, ?_⟩
      apply go 300
      repeat' (first | apply And.intro | intro _)
      all_goals try (first | (show Here _ _ _ _; try (exfalso; omega)) | exact trivial | omega | kernel_rfl | exact rfl)
      refine vcall (v := .bl true) rfl rfl (by kernel_rfl) works02 (by exact fun _ _ => trivial) ?_
      apply go 300
      repeat' (first | apply And.intro | intro _)
      all_goals try (first | (show Here _ _ _ _; try (exfalso; omega)) | exact trivial | omega | kernel_rfl | exact rfl)
      refine vcall (v := .bl true) rfl rfl (by kernel_rfl) works02 (by exact fun _ _ => trivial) ?_
      apply go 300
      repeat' (first | apply And.intro | intro _)
      all_goals try (first | (show Here _ _ _ _; try (exfalso; omega)) | exact trivial | omega | kernel_rfl | exact rfl)
      exact vr1 rfl rfl rfl
end Go.Fl
