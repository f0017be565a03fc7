/-
  The statement LabelsChecked, walked. No condition beyond the list's size.
-/
import Derived.Test.YtggbiiicoabkmaaDoorRefSort
import Derived.Test.YtggbiiicoabkmaaDoorTold
import Derived.Test.YtggbiiicoabkmaaDoorLentK
namespace Go.Fl
open Go.Proofs Go.RowKit
set_option maxRecDepth 10000
set_option maxHeartbeats 4000000

theorem sameL_id : ∀ L : List Lab, sameL L L = true
  | [] => rfl
  | x :: L => by simp [sameL, eqLab, sameL_id L]
/-- Numbers and places as errors have them. -/
def Right (x : Int × Int) : Prop := (x.1 = 0 ∧ x.2 < 0) ∨ (1 ≤ x.1 ∧ x.1 ≤ 36 ∧ x.2 < 0) ∨ (1 ≤ x.1 ∧ x.1 ≤ 36 ∧ 0 ≤ x.2)
theorem told_ok (x : Int × Int) (h : Right x) : RetIf Tryd.prog 25 [errOf x, .int .i64 x.1, .int .i64 x.2] Laid (.bool true) := by
  obtain ⟨n, k⟩ := x
  rcases h with ⟨h1, h2⟩ | ⟨h1, h2, h3⟩ | ⟨h1, h2, h3⟩
  · simp only at h1 h2; subst h1
    exact toldN 0 k h2
  · simp only at h1 h2 h3
    have := toldE n n k h3
    rw [num_id ⟨h1, h2⟩] at this
    simp only [decide_true] at this
    have e : errOf (n, k) = errno n := by unfold errOf; rw [if_neg (by simp only; omega), if_pos h3]
    rw [e]; exact this
  · simp only at h1 h2 h3
    have e : errOf (n, k) = fault n k := by unfold errOf; rw [if_neg (by simp only; omega), if_neg (by simp only; omega)]
    rw [e]; exact toldF n k ⟨h1, h2⟩ h3
theorem chk_right (L : List Lab) : Right (chk L) := by
  by_cases h8 : 8 < L.length
  · rw [chk_many h8]; exact Or.inr (Or.inl (by decide))
  · unfold chk
    rw [if_neg h8]
    split
    · exact Or.inl (by decide)
    · rename_i i hf
      have h1 := List.find?_some hf
      simp only [bne_iff_ne, ne_eq] at h1
      have h2 : bad L i = 12 ∨ bad L i = 9 ∨ bad L i = 4 ∨ bad L i = 0 := by unfold bad; (repeat' split) <;> simp
      refine Or.inr (Or.inr ?_)
      simp only
      omega
theorem schk_right (L : List Lab) : Right (schk L) := by
  by_cases h8 : 8 < L.length
  · rw [schk_many h8]; exact Or.inr (Or.inl (by decide))
  · unfold schk
    rw [if_neg h8]
    split
    · exact Or.inl (by decide)
    · rename_i i hf
      have h1 := List.find?_some hf
      simp only [bne_iff_ne, ne_eq] at h1
      have h2 : sbad L i = 12 ∨ sbad L i = 9 ∨ sbad L i = 0 := by unfold sbad; (repeat' split) <;> simp
      refine Or.inr (Or.inr ?_)
      simp only
      omega

/-- What both answer. -/
def sorted (L : List Lab) : List Lab := if (schk L).1 = 0 then L.foldl putL [] else []
theorem sorted_len (L : List Lab) : (sorted L).length ≤ 8 := by
  unfold sorted
  split
  · rename_i h
    by_cases h8 : 8 < L.length
    · rw [schk_many h8] at h; simp at h
    · rw [foldl_putL_len]; simp; omega
  · simp
theorem sort_out {L : List Lab} {a : Option Addr} {v : Go.Value} {bs : Hs} (h : SortPost L a v bs) : ∃ u, v = .tuple #[u, errOf (schk L)] ∧ OutAt (sorted L) u bs ∨ a = none := by
  rcases h with ⟨h1, rfl, rfl⟩ | ⟨h1, h2⟩
  · exact ⟨_, Or.inl ⟨rfl, by unfold sorted; rw [if_neg h1]; exact Or.inl ⟨rfl, rfl, rfl⟩⟩⟩
  · have he : errOf (schk L) = .nilIface := by unfold errOf; rw [if_pos h1]
    have hs : sorted L = isortL L.length L 1 := by unfold sorted; rw [if_pos h1, isort_is]
    have hl : (isortL L.length L 1).length = L.length := isortL_length _ _ _ _ rfl
    rcases h2 with ⟨ha, _, _⟩ | ⟨g, cap, spare, rfl, rfl, hg⟩
    · exact ⟨.nilIface, Or.inr ha⟩
    · refine ⟨_, Or.inl ⟨by rw [he], ?_⟩⟩
      rw [hs]
      exact Or.inr ⟨g, cap, spare, by rw [hl], rfl, by rw [hl]; exact hg⟩

theorem law02Checked (L : List Lab) (a : Option Addr) (c : Nat) (hc : L.length ≤ c) (hn : L.length * 32 ≤ 140737488351232) : RetIf Tryd.prog 7 [.slice a L.length c] (fun w => LabAt w a L ∧ Laid w) (.bool true) := by
  refine ret_start1 Tryd.func7 rfl rfl rfl (fun w0 hw => ?_)
  obtain ⟨hw, hL⟩ := hw
  refine vstart [(0, .raw (.slice a L.length c))] [] [] ?_
  refine vwith (pt := .run _) _ _ [] tabOk lent_nil fun go => ?_
  apply go 300
  repeat' (first | apply And.intro | intro _)
  all_goals try (first | (show Here _ _ _ _; try (exfalso; omega)) | exact trivial | omega | kernel_rfl | exact rfl)
  refine vcc rfl rfl (by kernel_rfl) (Lent L a c (by omega)) (by exact fun _ h => hw.st h) ?_
  rintro _ bx ⟨g, cap, rfl, hX⟩
  refine ⟨.raw (.slice (some ⟨g, 0, none⟩) L.length cap), rfl, ?_⟩
  have hml : (L ++ marks 90 16).length = L.length + 16 := by rw [List.length_append, marks_length]
  obtain ⟨aX, cX, hvX, hleX, hrX⟩ := outAt_lab hX
  rw [hml] at hvX hleX
  cases hvX
  have hrL : ∀ (W0 w : World) (own : List Nat) (hs : Hs), (∀ x ∈ bx, x ∈ hs) → St W0 own hs w → LabAt w (some ⟨g, 0, none⟩) L := fun W0 w own hs h1 h2 => by
    have := (hrX W0 w own hs h1 h2).take L.length
    rwa [List.take_left] at this
  rw [List.append_nil]
  apply go 300
  repeat' (first | apply And.intro | intro _)
  all_goals try (first | (show Here _ _ _ _; try (exfalso; omega)) | exact trivial | omega | kernel_rfl | exact rfl)
  refine vcall (v := .tup [.int .i64 (chk L).1, .int .i64 (chk L).2]) rfl rfl (by kernel_rfl) (rCheck L a c) (by exact fun _ h => hw.st h) ?_
  apply go 300
  repeat' (first | apply And.intro | intro _)
  all_goals try (first | (show Here _ _ _ _; try (exfalso; omega)) | exact trivial | omega | kernel_rfl | exact rfl)
  refine vcall (v := .raw (errOf (chk L))) rfl rfl (by kernel_rfl) (Check L (some ⟨g, 0, none⟩) cap) (by exact fun _ h => hrL _ _ _ _ (fun x hx => List.mem_append_right _ hx) h) ?_
  apply go 300
  repeat' (first | apply And.intro | intro _)
  all_goals try (first | (show Here _ _ _ _; try (exfalso; omega)) | exact trivial | omega | kernel_rfl | exact rfl)
  refine vcall (v := .bl true) rfl rfl (by kernel_rfl) (told_ok (chk L) (chk_right L)) (by exact fun _ h => hL.st h) ?_
  apply go 300
  repeat' (first | apply And.intro | intro _)
  all_goals try (first | (show Here _ _ _ _; try (exfalso; omega)) | exact trivial | omega | kernel_rfl | exact rfl)
  refine vcc rfl rfl (by kernel_rfl) (SortC L (some ⟨g, 0, none⟩) cap (by omega)) (by exact fun _ h => hrL _ _ _ _ (fun x hx => List.mem_append_right _ hx) h) ?_
  intro v1 b1 hp1
  obtain ⟨u1, ⟨rfl, ho1⟩ | h⟩ := sort_out hp1
  rotate_left
  · cases h
  refine ⟨.tup [.raw u1, .raw (errOf (schk L))], rfl, ?_⟩
  apply go 300
  repeat' (first | apply And.intro | intro _)
  all_goals try (first | (show Here _ _ _ _; try (exfalso; omega)) | exact trivial | omega | kernel_rfl | exact rfl)
  refine vcc rfl rfl (by kernel_rfl) (SortC L (some ⟨g, 0, none⟩) cap (by omega)) (by exact fun _ h => hrL _ _ _ _ (fun x hx => List.mem_append_right _ (List.mem_append_right _ hx)) h) ?_
  intro v2 b2 hp2
  obtain ⟨u2, ⟨rfl, ho2⟩ | h⟩ := sort_out hp2
  rotate_left
  · cases h
  refine ⟨.tup [.raw u2, .raw (errOf (schk L))], rfl, ?_⟩
  apply go 300
  repeat' (first | apply And.intro | intro _)
  all_goals try (first | (show Here _ _ _ _; try (exfalso; omega)) | exact trivial | omega | kernel_rfl | exact rfl)
  refine vcc rfl rfl (by kernel_rfl) (rSort L a c hc) (by exact fun _ h => hw.st h) ?_
  rintro _ b3 ⟨u3, rfl, ho3⟩
  obtain ⟨a1, c1, rfl, hc1, hr1⟩ := outAt_lab ho1
  obtain ⟨a2, c2, rfl, hc2, hr2⟩ := outAt_lab ho2
  obtain ⟨a3, c3, rfl, hc3, hr3⟩ := outAt_lab ho3
  refine ⟨.tup [.raw (.slice a3 (sorted L).length c3), .int .i64 (schk L).1, .int .i64 (schk L).2], rfl, ?_⟩
  have h8 := sorted_len L
  have hS1 := SameLabels (sorted L) (sorted L) a1 a3 c1 c3 (by omega)
  have hS2 := SameLabels (sorted L) (sorted L) a2 a3 c2 c3 (by omega)
  rw [sameL_id] at hS1 hS2
  apply go 300
  repeat' (first | apply And.intro | intro _)
  all_goals try (first | (show Here _ _ _ _; try (exfalso; omega)) | exact trivial | omega | kernel_rfl | exact rfl)
  refine vcall (v := .bl true) rfl rfl (by kernel_rfl) hS1 (by exact fun _ h => ⟨hr1 _ _ _ _ (fun x hx => by simp [hx]) h, hr3 _ _ _ _ (fun x hx => by simp [hx]) h⟩) ?_
  apply go 300
  repeat' (first | apply And.intro | intro _)
  all_goals try (first | (show Here _ _ _ _; try (exfalso; omega)) | exact trivial | omega | kernel_rfl | exact rfl)
  refine vcall (v := .bl true) rfl rfl (by kernel_rfl) hS2 (by exact fun _ h => ⟨hr2 _ _ _ _ (fun x hx => by simp [hx]) h, hr3 _ _ _ _ (fun x hx => by simp [hx]) h⟩) ?_
  apply go 300
  repeat' (first | apply And.intro | intro _)
  all_goals try (first | (show Here _ _ _ _; try (exfalso; omega)) | exact trivial | omega | kernel_rfl | exact rfl)
  refine vcall (v := .bl true) rfl rfl (by kernel_rfl) (told_ok (schk L) (schk_right L)) (by exact fun _ h => hL.st h) ?_
  apply go 300
  repeat' (first | apply And.intro | intro _)
  all_goals try (first | (show Here _ _ _ _; try (exfalso; omega)) | exact trivial | omega | kernel_rfl | exact rfl)
  refine vcall (v := .bl true) rfl rfl (by kernel_rfl) (told_ok (schk L) (schk_right L)) (by exact fun _ h => hL.st h) ?_
  apply go 300
  repeat' (first | apply And.intro | intro _)
  all_goals try (first | (show Here _ _ _ _; try (exfalso; omega)) | exact trivial | omega | kernel_rfl | exact rfl)
  rename_i bo
  refine vccp (qs := b3 ++ bx) rfl rfl (by kernel_rfl) ?_ (Apart2 _ _ a1 a2 c1 c2 bo b1 b2 ho1 ho2 (by omega) (by omega)) (by exact fun _ _ => trivial) ?_
  · refine List.Perm.cons _ ?_
    show ((b1 ++ b2) ++ (b3 ++ bx)).Perm (b3 ++ (b2 ++ (b1 ++ bx)))
    have h := ((List.perm_append_comm (l₁ := b1 ++ b2) (l₂ := b3)).trans ((List.perm_append_comm (l₁ := b1) (l₂ := b2)).append_left b3)).append_right bx
    simpa only [List.append_assoc] using h
  rintro v b' rfl
  refine ⟨.bl true, rfl, ?_⟩
  apply go 300
  repeat' (first | apply And.intro | intro _)
  all_goals try (first | (show Here _ _ _ _; try (exfalso; omega)) | exact trivial | omega | kernel_rfl | exact rfl)
  refine vcall (v := .bl true) rfl rfl (by kernel_rfl) (KeptLabels L a c g cap (by omega) (by omega)) (by exact fun _ h => ⟨hrX _ _ _ _ (fun x hx => by simp [hx]) h, hw.st h⟩) ?_
  apply go 300
  repeat' (first | apply And.intro | intro _)
  all_goals try (first | (show Here _ _ _ _; try (exfalso; omega)) | exact trivial | omega | kernel_rfl | exact rfl)
  exact vr1 rfl rfl rfl
end Go.Fl
