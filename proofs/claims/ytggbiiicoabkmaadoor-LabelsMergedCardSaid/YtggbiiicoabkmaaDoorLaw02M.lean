/-
  The statement LabelsMerged, walked. No condition beyond the lists' sizes.
-/
import Derived.Test.YtggbiiicoabkmaaDoorMerge
import Derived.Test.YtggbiiicoabkmaaDoorLentK
import Derived.Test.YtggbiiicoabkmaaDoorErrAs
namespace Go.Fl
open Go.Proofs Go.RowKit
set_option maxRecDepth 10000
set_option maxHeartbeats 4000000

theorem sameL_me : ∀ L : List Lab, sameL L L = true
  | [] => rfl
  | x :: L => by simp [sameL, eqLab, sameL_me L]
theorem chk_is (L : List Lab) : (chk L).1 = 0 ∨ (chk L).1 = 5 ∨ (chk L).1 = 12 ∨ (chk L).1 = 9 ∨ (chk L).1 = 4 := by
  by_cases h8 : 8 < L.length
  · rw [chk_many h8]; exact Or.inr (Or.inl rfl)
  · unfold chk
    rw [if_neg h8]
    split
    · exact Or.inl rfl
    · rename_i i hf
      have h2 : bad L i = 12 ∨ bad L i = 9 ∨ bad L i = 4 ∨ bad L i = 0 := by unfold bad; (repeat' split) <;> simp
      simp only
      omega
theorem mergeE_is (A B : List Lab) : mergeE A B = 0 ∨ mergeE A B = 5 ∨ mergeE A B = 12 ∨ mergeE A B = 9 ∨ mergeE A B = 4 := by
  unfold mergeE
  have := chk_is A
  have := chk_is B
  split
  · assumption
  · split
    · assumption
    · split
      · exact Or.inr (Or.inl rfl)
      · exact Or.inl rfl
theorem plainM (n : Int) (h : n = 0 ∨ n = 5 ∨ n = 12 ∨ n = 9 ∨ n = 4) : RetIf Tryd.prog 16 [if n = 0 then .nilIface else errno n, .int .i64 n] Laid (.bool true) := by
  rcases h with rfl | rfl | rfl | rfl | rfl
  · exact (plainN 0).mono fun _ _ => trivial
  · have := plainE 5 5; rw [show num 5 = 5 by decide] at this; exact this
  · have := plainE 12 12; rw [show num 12 = 12 by decide] at this; exact this
  · have := plainE 9 9; rw [show num 9 = 9 by decide] at this; exact this
  · have := plainE 4 4; rw [show num 4 = 4 by decide] at this; exact this
theorem mergeL_len (A B : List Lab) : (mergeL A B).length ≤ 8 := by
  unfold mergeL
  split
  · rename_i h
    unfold mergeE at h
    split at h
    · rename_i h2; exact absurd h h2
    · split at h
      · rename_i h2; exact absurd h h2
      · split at h
        · cases h
        · rename_i h3
          rw [foldl_putL_len]
          rw [List.length_append] at h3
          omega
  · simp

theorem law02Merged (A B : List Lab) (a b : Option Addr) (ca cb : Nat) (hA : A.length ≤ ca) (hB : B.length ≤ cb) (hna : A.length * 32 ≤ 140737488351232) (hnb : B.length * 32 ≤ 140737488351232) :
    RetIf Tryd.prog 8 [.slice a A.length ca, .slice b B.length cb] (fun w => (LabAt w a A ∧ LabAt w b B) ∧ Laid w) (.bool true) := by
  refine ret_start2 Tryd.func8 rfl rfl rfl (fun w0 hw => ?_)
  obtain ⟨⟨hwa, hwb⟩, hL⟩ := hw
  refine vstart [(0, .raw (.slice a A.length ca)), (1, .raw (.slice b B.length cb))] [] [] ?_
  refine vwith (pt := .run _) _ _ [] tabOk lent_nil fun go => ?_
  apply go 300
  repeat' (first | apply And.intro | intro _)
  all_goals try (first | (show Here _ _ _ _; try (exfalso; omega)) | exact trivial | omega | kernel_rfl | exact rfl)
  refine vcc rfl rfl (by kernel_rfl) (Lent A a ca (by omega)) (by exact fun _ h => hwa.st h) ?_
  rintro _ bx ⟨g, cap, rfl, hX⟩
  refine ⟨.raw (.slice (some ⟨g, 0, none⟩) A.length cap), rfl, ?_⟩
  have hml : (A ++ marks 90 16).length = A.length + 16 := by rw [List.length_append, marks_length]
  obtain ⟨aX, cX, hvX, hleX, hrX⟩ := outAt_lab hX
  rw [hml] at hvX hleX
  cases hvX
  have hrA : ∀ (W0 w : World) (own : List Nat) (hs : Hs), (∀ x ∈ bx, x ∈ hs) → St W0 own hs w → LabAt w (some ⟨g, 0, none⟩) A := fun W0 w own hs h1 h2 => by
    have := (hrX W0 w own hs h1 h2).take A.length
    rwa [List.take_left] at this
  apply go 300
  repeat' (first | apply And.intro | intro _)
  all_goals try (first | (show Here _ _ _ _; try (exfalso; omega)) | exact trivial | omega | kernel_rfl | exact rfl)
  refine vcc rfl rfl (by kernel_rfl) (Lent B b cb (by omega)) (by exact fun _ h => hwb.st h) ?_
  rintro _ by_ ⟨g2, cap2, rfl, hY⟩
  refine ⟨.raw (.slice (some ⟨g2, 0, none⟩) B.length cap2), rfl, ?_⟩
  have hml2 : (B ++ marks 90 16).length = B.length + 16 := by rw [List.length_append, marks_length]
  obtain ⟨aY, cY, hvY, hleY, hrY⟩ := outAt_lab hY
  rw [hml2] at hvY hleY
  cases hvY
  have hrB : ∀ (W0 w : World) (own : List Nat) (hs : Hs), (∀ x ∈ by_, x ∈ hs) → St W0 own hs w → LabAt w (some ⟨g2, 0, none⟩) B := fun W0 w own hs h1 h2 => by
    have := (hrY W0 w own hs h1 h2).take B.length
    rwa [List.take_left] at this
  apply go 300
  repeat' (first | apply And.intro | intro _)
  all_goals try (first | (show Here _ _ _ _; try (exfalso; omega)) | exact trivial | omega | kernel_rfl | exact rfl)
  refine vcc rfl rfl (by kernel_rfl) (MergeC A B (some ⟨g, 0, none⟩) (some ⟨g2, 0, none⟩) cap cap2 (by omega) (by omega)) (by exact fun _ h => ⟨hrA _ _ _ _ (fun x hx => by simp [hx]) h, hrB _ _ _ _ (fun x hx => by simp [hx]) h, hL.st h⟩) ?_
  rintro _ b1 ⟨u1, rfl, ho1⟩
  obtain ⟨a1, c1, rfl, hc1, hr1⟩ := outAt_lab ho1
  refine ⟨.tup [.raw (.slice a1 (mergeL A B).length c1), .raw (if mergeE A B = 0 then .nilIface else errno (mergeE A B))], rfl, ?_⟩
  apply go 300
  repeat' (first | apply And.intro | intro _)
  all_goals try (first | (show Here _ _ _ _; try (exfalso; omega)) | exact trivial | omega | kernel_rfl | exact rfl)
  refine vcc rfl rfl (by kernel_rfl) (MergeC A B (some ⟨g, 0, none⟩) (some ⟨g2, 0, none⟩) cap cap2 (by omega) (by omega)) (by exact fun _ h => ⟨hrA _ _ _ _ (fun x hx => by simp [hx]) h, hrB _ _ _ _ (fun x hx => by simp [hx]) h, hL.st h⟩) ?_
  rintro _ b2 ⟨u2, rfl, ho2⟩
  obtain ⟨a2, c2, rfl, hc2, hr2⟩ := outAt_lab ho2
  refine ⟨.tup [.raw (.slice a2 (mergeL A B).length c2), .raw (if mergeE A B = 0 then .nilIface else errno (mergeE A B))], rfl, ?_⟩
  apply go 300
  repeat' (first | apply And.intro | intro _)
  all_goals try (first | (show Here _ _ _ _; try (exfalso; omega)) | exact trivial | omega | kernel_rfl | exact rfl)
  refine vcc rfl rfl (by kernel_rfl) (rMerge A B a b ca cb hA hB) (by exact fun _ h => ⟨hwa.st h, hwb.st h⟩) ?_
  rintro _ b3 ⟨u3, rfl, ho3⟩
  obtain ⟨a3, c3, rfl, hc3, hr3⟩ := outAt_lab ho3
  refine ⟨.tup [.raw (.slice a3 (mergeL A B).length c3), .int .i64 (mergeE A B)], rfl, ?_⟩
  have h8 := mergeL_len A B
  have hS1 := SameLabels (mergeL A B) (mergeL A B) a1 a3 c1 c3 (by omega)
  have hS2 := SameLabels (mergeL A B) (mergeL A B) a2 a3 c2 c3 (by omega)
  rw [sameL_me] at hS1 hS2
  have hP := plainM _ (mergeE_is A B)
  apply go 300
  repeat' (first | apply And.intro | intro _)
  all_goals try (first | (show Here _ _ _ _; try (exfalso; omega)) | exact trivial | omega | kernel_rfl | exact rfl)
  refine vcall (v := .bl true) rfl rfl (by kernel_rfl) hS1 (by exact fun _ h => ⟨hr1 _ _ _ _ (fun x hx => by simp [hx]) h, hr3 _ _ _ _ (fun x hx => by simp [hx]) h⟩) ?_
  apply go 300
  repeat' (first | apply And.intro | intro _)
  all_goals try (first | (show Here _ _ _ _; try (exfalso; omega)) | exact trivial | omega | kernel_rfl | exact rfl)
  refine vcall (v := .bl true) rfl rfl (by kernel_rfl) hS2 (by exact fun _ h => ⟨hr2 _ _ _ _ (fun x hx => by simp [hx]) h, hr3 _ _ _ _ (fun x hx => by simp [hx]) h⟩) ?_
  apply go 300
  repeat' (first | apply And.intro | intro _)
  all_goals try (first | (show Here _ _ _ _; try (exfalso; omega)) | exact trivial | omega | kernel_rfl | exact rfl)
  refine vcall (v := .bl true) rfl rfl (by kernel_rfl) hP (by exact fun _ h => hL.st h) ?_
  apply go 300
  repeat' (first | apply And.intro | intro _)
  all_goals try (first | (show Here _ _ _ _; try (exfalso; omega)) | exact trivial | omega | kernel_rfl | exact rfl)
  refine vcall (v := .bl true) rfl rfl (by kernel_rfl) hP (by exact fun _ h => hL.st h) ?_
  apply go 300
  repeat' (first | apply And.intro | intro _)
  all_goals try (first | (show Here _ _ _ _; try (exfalso; omega)) | exact trivial | omega | kernel_rfl | exact rfl)
  rename_i bo
  refine vccp (qs := b3 ++ (by_ ++ bx)) rfl rfl (by kernel_rfl) ?_ (Apart2 _ _ a1 a2 c1 c2 bo b1 b2 ho1 ho2 (by omega) (by omega)) (by exact fun _ _ => trivial) ?_
  · refine List.Perm.cons _ ?_
    show ((b1 ++ b2) ++ (b3 ++ (by_ ++ bx))).Perm (b3 ++ (b2 ++ (b1 ++ (by_ ++ (bx ++ [])))))
    have h := ((List.perm_append_comm (l₁ := b1 ++ b2) (l₂ := b3)).trans ((List.perm_append_comm (l₁ := b1) (l₂ := b2)).append_left b3)).append_right (by_ ++ bx)
    simpa only [List.append_assoc, List.append_nil] using h
  rintro v b' rfl
  refine ⟨.bl true, rfl, ?_⟩
  apply go 300
  repeat' (first | apply And.intro | intro _)
  all_goals try (first | (show Here _ _ _ _; try (exfalso; omega)) | exact trivial | omega | kernel_rfl | exact rfl)
  refine vcall (v := .bl true) rfl rfl (by kernel_rfl) (KeptLabels A a ca g cap (by omega) (by omega)) (by exact fun _ h => ⟨hrX _ _ _ _ (fun x hx => by simp [hx]) h, hwa.st h⟩) ?_
  apply go 300
  repeat' (first | apply And.intro | intro _)
  all_goals try (first | (show Here _ _ _ _; try (exfalso; omega)) | exact trivial | omega | kernel_rfl | exact rfl)
  refine vcall (v := .bl true) rfl rfl (by kernel_rfl) (KeptLabels B b cb g2 cap2 (by omega) (by omega)) (by exact fun _ h => ⟨hrY _ _ _ _ (fun x hx => by simp [hx]) h, hwb.st h⟩) ?_
  apply go 300
  repeat' (first | apply And.intro | intro _)
  all_goals try (first | (show Here _ _ _ _; try (exfalso; omega)) | exact trivial | omega | kernel_rfl | exact rfl)
  exact vr1 rfl rfl rfl
end Go.Fl
