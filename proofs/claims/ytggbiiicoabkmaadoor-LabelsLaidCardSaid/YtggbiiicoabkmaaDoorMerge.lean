/-
  Labels laid over others: the program's and the document's. No condition beyond the lists' sizes.
-/
import Derived.Test.YtggbiiicoabkmaaDoorRefSort
import Derived.Test.YtggbiiicoabkmaaDoorErrNo
import Derived.Test.YtggbiiicoabkmaaDoorMergeP
namespace Go.Fl
open Go.Proofs Go.RowKit
set_option maxRecDepth 10000
set_option maxHeartbeats 4000000

theorem LabAt.none {w : World} {L : List Lab} (h : LabAt w none L) : L = [] := by
  cases L with
  | nil => rfl
  | cons x L => obtain ⟨b, off, h⟩ := h.is (by simp); cases h

theorem CopyLabels (L : List Lab) (a : Option Addr) (c : Nat) (hn : L.length ≤ 4398046511000) : Con Tryd.prog 59 [.slice a L.length c] [] (fun w => LabAt w a L) (fun v bs => OutAt L v bs) := by
  refine con_start1 Tryd.func59 rfl rfl rfl (fun w0 hw => ?_)
  refine vstart [(0, .raw (.slice a L.length c))] [] [] ?_
  refine vwith (pt := .run _) _ _ [] tabOk lent_nil fun go => ?_
  apply go 300
  repeat' (first | apply And.intro | intro _)
  all_goals try (first | (show Here _ _ _ _; try (exfalso; omega)) | exact trivial | omega | kernel_rfl | exact rfl)
  refine vrounds (fun s : Nat × Go.Value × Hs => s.1 ≤ L.length ∧ OutAt (L.take s.1) s.2.1 s.2.2) (fun s => L.length - s.1) (fun s => [(0, .raw (.slice a L.length c)), (3, .raw s.2.1), (4, .nat s.1)]) (fun _ => []) (fun s => s.2.2)
    (0, .slice none 0 0, []) (fun s hI ih => ?_) ⟨Nat.zero_le _, Or.inl ⟨rfl, rfl, rfl⟩⟩ ⟨rfl, rfl, rfl, trivial⟩ (List.Sublist.refl _)
  obtain ⟨i, u, bs⟩ := s
  obtain ⟨hi, hO⟩ := hI
  simp only at hi hO ih ⊢
  by_cases hl : i < L.length
  · obtain ⟨b, off, rfl⟩ := hw.is (by rintro rfl; simp at hl)
    have hR := hw.go b off rfl
    refine vre [(0, .sl false 0 b off 2 none L.length c), (3, .raw u), (4, .nat i)] rfl ?_
    refine vwith (pt := .run _) _ _ [⟨b, off, .arr cdL L⟩] tabOk (lent_lab lent_nil List.not_mem_nil hR) fun go => ?_
    apply go 300
    repeat' (first | apply And.intro | intro _)
    all_goals try (first | (show Here _ _ _ _; try (exfalso; omega)) | exact trivial | omega | kernel_rfl | exact rfl)
    rename_i x hx bx
    refine vapL [] (l := x) (qs := []) tabOk hO (by rw [List.length_take]; omega) rfl rfl rfl rfl rfl (List.append_nil _).symm ?_
    intro v' bs' hO'
    rw [List.append_nil]
    apply go 300
    repeat' (first | apply And.intro | intro _)
    all_goals try (first | (show Here _ _ _ _; try (exfalso; omega)) | exact trivial | omega | kernel_rfl | exact rfl)
    refine vweak _ _ _ (ih (i + 1, v', bs') ⟨by simp only; omega, ?_⟩ (by simp only; omega)) ⟨rfl, rfl, rfl, trivial⟩ (List.Sublist.refl _)
    rw [List.take_add_one, hx]
    exact hO'
  · apply go 300
    repeat' (first | apply And.intro | intro _)
    all_goals try (first | (show Here _ _ _ _; try (exfalso; omega)) | exact trivial | omega | kernel_rfl | exact rfl)
    obtain rfl : i = L.length := by omega
    refine vc1 (bs := bs) rfl rfl (List.Sublist.refl _) ?_
    simpa [V.val] using hO

theorem newL_step {A B : List Lab} {i : Nat} {x : Lab} (hx : A[i]? = some x) : newL (A.take (i + 1)) B = newL (A.take i) B ++ (if (getL B x.1).isNone = true then [x] else []) := by
  unfold newL
  rw [List.take_add_one, hx, List.filter_append]
  congr 1
  cases hg : getL B x.1 <;> simp [hg]
theorem newL_len (A B : List Lab) : (newL A B).length ≤ A.length := List.length_filter_le _ _

def mergeR (A B : List Lab) : Int × Int := (mergeE A B, -1)
theorem rMerge (A B : List Lab) (a b : Option Addr) (ca cb : Nat) (hA : A.length ≤ ca) (_ : B.length ≤ cb) : Con Tryd.prog 30 [.slice a A.length ca, .slice b B.length cb] [] (fun w => LabAt w a A ∧ LabAt w b B)
    (fun v bs => ∃ u, v = .tuple #[u, .int .i64 (mergeE A B)] ∧ OutAt (mergeL A B) u bs) := by
  refine con_start2 Tryd.func30 rfl rfl rfl (fun w0 hw => ?_)
  obtain ⟨hwa, hwb⟩ := hw
  refine vstart [(0, .raw (.slice a A.length ca)), (1, .raw (.slice b B.length cb))] [] [] ?_
  refine vwith (pt := .run _) _ _ [] tabOk lent_nil fun go => ?_
  apply go 300
  repeat' (first | apply And.intro | intro _)
  all_goals try (first | (show Here _ _ _ _; try (exfalso; omega)) | exact trivial | omega | kernel_rfl | exact rfl)
  refine vcall (v := .tup [.int .i64 (chk A).1, .int .i64 (chk A).2]) rfl rfl (by kernel_rfl) (rCheck A a ca) (by exact fun _ h => hwa.st h) ?_
  apply go 300
  repeat' (first | apply And.intro | intro _)
  all_goals try (first | (show Here _ _ _ _; try (exfalso; omega)) | exact trivial | omega | kernel_rfl | exact rfl)
  · rename_i h
    have h : (chk A).1 ≠ 0 := h
    have hE : mergeE A B = (chk A).1 := by unfold mergeE; rw [if_pos h]
    refine vc2 (bs := []) rfl rfl rfl (List.nil_sublist _) ⟨.slice none 0 0, by rw [hE]; rfl, Or.inl ⟨by unfold mergeL; rw [if_neg (by rw [hE]; exact h)], rfl, rfl⟩⟩
  rename_i hA0
  have hA0 : (chk A).1 = 0 := Classical.not_not.1 hA0
  refine vcall (v := .tup [.int .i64 (chk B).1, .int .i64 (chk B).2]) rfl rfl (by kernel_rfl) (rCheck B b cb) (by exact fun _ h => hwb.st h) ?_
  apply go 300
  repeat' (first | apply And.intro | intro _)
  all_goals try (first | (show Here _ _ _ _; try (exfalso; omega)) | exact trivial | omega | kernel_rfl | exact rfl)
  · rename_i h
    have h : (chk B).1 ≠ 0 := h
    have hE : mergeE A B = (chk B).1 := by unfold mergeE; rw [if_neg (by rw [hA0]; simp), if_pos h]
    refine vc2 (bs := []) rfl rfl rfl (List.nil_sublist _) ⟨.slice none 0 0, by rw [hE]; rfl, Or.inl ⟨by unfold mergeL; rw [if_neg (by rw [hE]; exact h)], rfl, rfl⟩⟩
  rename_i hB0
  have hB0 : (chk B).1 = 0 := Classical.not_not.1 hB0
  have hA8 := (chk_zero hA0).1
  have hB8 := (chk_zero hB0).1
  have hE : mergeE A B = if 8 < (B ++ newL A B).length then 5 else 0 := by unfold mergeE; rw [if_neg (by rw [hA0]; simp), if_neg (by rw [hB0]; simp)]
  refine vcc rfl rfl (by kernel_rfl) (CopyLabels B b cb (by omega)) (by exact fun _ h => hwb.st h) ?_
  intro v0 bs0 hO0
  refine ⟨.raw v0, rfl, ?_⟩
  rw [List.append_nil]
  apply go 300
  repeat' (first | apply And.intro | intro _)
  all_goals try (first | (show Here _ _ _ _; try (exfalso; omega)) | exact trivial | omega | kernel_rfl | exact rfl)
  refine vrounds (fun s : Nat × Go.Value × Hs => s.1 ≤ A.length ∧ OutAt ((newL (A.take s.1) B).foldl putL B) s.2.1 s.2.2) (fun s => A.length - s.1) (fun s => [(0, .raw (.slice a A.length ca)), (1, .raw (.slice b B.length cb)), (8, .raw s.2.1), (9, .nat s.1)]) (fun _ => []) (fun s => s.2.2)
    (0, v0, bs0) (fun s hI ih => ?_) ⟨Nat.zero_le _, hO0⟩ ⟨rfl, rfl, rfl, rfl, trivial⟩ (List.Sublist.refl _)
  obtain ⟨i, u, bs⟩ := s
  obtain ⟨hi, hO⟩ := hI
  simp only at hi hO ih ⊢
  by_cases hl : i < A.length
  · obtain ⟨ba, offa, rfl⟩ := hwa.is (by rintro rfl; simp at hl)
    have hR := hwa.go ba offa rfl
    refine vre [(0, .sl false 0 ba offa 2 none A.length ca), (1, .raw (.slice b B.length cb)), (8, .raw u), (9, .nat i)] rfl ?_
    refine vwith (pt := .run _) _ _ [⟨ba, offa, .arr cdL A⟩] tabOk (lent_lab lent_nil List.not_mem_nil hR) fun go => ?_
    obtain ⟨x, hx⟩ : ∃ x, A[i]? = some x := ⟨_, List.getElem?_eq_getElem hl⟩
    have hst := newL_step (B := B) hx
    have hG := rGet B b cb x.1 (by omega)
    apply go 300
    repeat' (first | apply And.intro | intro _)
    all_goals try (first | (show Here _ _ _ _; try (exfalso; omega)) | exact trivial | omega | kernel_rfl | exact rfl)
    rename_i x' hx'
    rw [hx] at hx'
    cases hx'
    cases hg : getL B x.1 with
    | some y =>
      rw [hg] at hG hst
      refine vcall (v := .tup [.str y.2, .bl true]) rfl rfl (by kernel_rfl) hG (by exact fun _ h => hwb.st h) ?_
      apply go 300
      repeat' (first | apply And.intro | intro _)
      all_goals try (first | (show Here _ _ _ _; try (exfalso; omega)) | exact trivial | omega | kernel_rfl | exact rfl)
      refine vweak _ _ _ (ih (i + 1, u, bs) ⟨by simp only; omega, ?_⟩ (by simp only; omega)) ⟨rfl, rfl, rfl, rfl, trivial⟩ (List.Sublist.refl _)
      rw [hst]
      simpa using hO
    | none =>
      rw [hg] at hG hst
      refine vcall (v := .tup [.str ⟨#[]⟩, .bl false]) rfl rfl (by kernel_rfl) hG (by exact fun _ h => hwb.st h) ?_
      apply go 300
      repeat' (first | apply And.intro | intro _)
      all_goals try (first | (show Here _ _ _ _; try (exfalso; omega)) | exact trivial | omega | kernel_rfl | exact rfl)
      rename_i x' hx'
      rw [hx] at hx'
      cases hx'
      obtain ⟨a', c', rfl, hle, hrd⟩ := outAt_lab hO
      have hnl := newL_len (A.take i) B
      refine vcc rfl rfl (by kernel_rfl) (put _ x a' c' (by rw [foldl_putL_len]; rw [List.length_take] at hnl; omega)) (by exact fun w' hst => hrd _ _ _ _ (fun y hy => List.mem_append_right _ hy) hst) ?_
      intro v' bs' hO'
      refine ⟨.raw v', rfl, ?_⟩
      apply go 300
      repeat' (first | apply And.intro | intro _)
      all_goals try (first | (show Here _ _ _ _; try (exfalso; omega)) | exact trivial | omega | kernel_rfl | exact rfl)
      refine vweak _ _ _ (ih (i + 1, v', bs') ⟨by simp only; omega, ?_⟩ (by simp only; omega)) ⟨rfl, rfl, rfl, rfl, trivial⟩ (List.sublist_append_left _ _)
      rw [hst]
      simpa [List.foldl_append] using hO'
  · obtain rfl : i = A.length := by omega
    rw [List.take_length] at hO
    obtain ⟨a', c', rfl, hle, hrd⟩ := outAt_lab hO
    have hlen : ((newL A B).foldl putL B).length = (B ++ newL A B).length := by rw [foldl_putL_len, List.length_append]
    apply go 300
    repeat' (first | apply And.intro | intro _)
    all_goals try (first | (show Here _ _ _ _; try (exfalso; omega)) | exact trivial | omega | kernel_rfl | exact rfl)
    · rename_i h
      have h5 : mergeE A B = 5 := by rw [hE, if_pos (by omega)]
      refine vc2 (bs := []) rfl rfl rfl (List.nil_sublist _) ⟨.slice none 0 0, by rw [h5]; rfl, Or.inl ⟨by unfold mergeL; rw [if_neg (by rw [h5]; decide)], rfl, rfl⟩⟩
    · rename_i h
      have h5 : mergeE A B = 0 := by rw [hE, if_neg (by omega)]
      refine vc2 (bs := bs) rfl rfl rfl (List.Sublist.refl _) ⟨_, by rw [h5]; rfl, ?_⟩
      unfold mergeL
      rw [if_pos h5]
      exact hO

theorem errOf_is (x : Int × Int) (h : x.1 ≠ 0) : errOf x = errno x.1 ∨ errOf x = fault x.1 x.2 := by
  unfold errOf
  rw [if_neg h]
  split
  · exact Or.inl rfl
  · exact Or.inr rfl

theorem MergeC (A B : List Lab) (a b : Option Addr) (ca cb : Nat) (hA : A.length ≤ ca) (_ : B.length ≤ cb) : Con Tryd.prog 29 [.slice a A.length ca, .slice b B.length cb] [] (fun w => LabAt w a A ∧ LabAt w b B ∧ Laid w)
    (fun v bs => ∃ u, v = .tuple #[u, if mergeE A B = 0 then .nilIface else errno (mergeE A B)] ∧ OutAt (mergeL A B) u bs) := by
  refine con_start2 Tryd.func29 rfl rfl rfl (fun w0 hw => ?_)
  obtain ⟨hwa, hwb, hL⟩ := hw
  refine vstart [(0, .raw (.slice a A.length ca)), (1, .raw (.slice b B.length cb))] [] [] ?_
  refine vwith (pt := .run _) _ _ [] tabOk lent_nil fun go => ?_
  have fail : ∀ c : Int, mergeE A B = c → c ≠ 0 → ∃ u, Go.Value.tuple #[.slice none 0 0, errno c] = .tuple #[u, if mergeE A B = 0 then .nilIface else errno (mergeE A B)] ∧ OutAt (mergeL A B) u [] := by
    intro c h1 h2
    refine ⟨.slice none 0 0, by rw [h1, if_neg h2], Or.inl ⟨by unfold mergeL; rw [if_neg (by rw [h1]; exact h2)], rfl, rfl⟩⟩
  apply go 300
  repeat' (first | apply And.intro | intro _)
  all_goals try (first | (show Here _ _ _ _; try (exfalso; omega)) | exact trivial | omega | kernel_rfl | exact rfl)
  have hCA := Check A a ca
  by_cases hA0 : (chk A).1 = 0
  rotate_left
  · have hE : mergeE A B = (chk A).1 := by unfold mergeE; rw [if_pos hA0]
    have hbare := bare_of hA0
    rcases errOf_is _ hA0 with he | he
    · rw [he] at hCA hbare
      refine vcall (v := .ifc 63 (.int .i64 (chk A).1)) rfl rfl (by kernel_rfl) hCA (by exact fun _ h => hwa.st h) ?_
      apply go 300
      repeat' (first | apply And.intro | intro _)
      all_goals try (first | (show Here _ _ _ _; try (exfalso; omega)) | exact trivial | omega | kernel_rfl | exact rfl)
      refine vcall (v := .ifc 63 (.int .i64 (chk A).1)) rfl rfl (by kernel_rfl) hbare (by exact fun _ h => hL.st h) ?_
      apply go 300
      repeat' (first | apply And.intro | intro _)
      all_goals try (first | (show Here _ _ _ _; try (exfalso; omega)) | exact trivial | omega | kernel_rfl | exact rfl)
      exact vc2 (bs := []) rfl rfl rfl (List.nil_sublist _) (fail _ hE hA0)
    · rw [he] at hCA hbare
      refine vcall (v := .ifc 67 (.agg [.int .i64 (chk A).1, .int .i64 (chk A).2])) rfl rfl (by kernel_rfl) hCA (by exact fun _ h => hwa.st h) ?_
      apply go 300
      repeat' (first | apply And.intro | intro _)
      all_goals try (first | (show Here _ _ _ _; try (exfalso; omega)) | exact trivial | omega | kernel_rfl | exact rfl)
      refine vcall (v := .ifc 63 (.int .i64 (chk A).1)) rfl rfl (by kernel_rfl) hbare (by exact fun _ h => hL.st h) ?_
      apply go 300
      repeat' (first | apply And.intro | intro _)
      all_goals try (first | (show Here _ _ _ _; try (exfalso; omega)) | exact trivial | omega | kernel_rfl | exact rfl)
      exact vc2 (bs := []) rfl rfl rfl (List.nil_sublist _) (fail _ hE hA0)
  have heA : errOf (chk A) = .nilIface := by unfold errOf; rw [if_pos hA0]
  rw [heA] at hCA
  refine vcall (v := .raw .nilIface) rfl rfl (by kernel_rfl) hCA (by exact fun _ h => hwa.st h) ?_
  apply go 300
  repeat' (first | apply And.intro | intro _)
  all_goals try (first | (show Here _ _ _ _; try (exfalso; omega)) | exact trivial | omega | kernel_rfl | exact rfl)
  have hCB := Check B b cb
  by_cases hB0 : (chk B).1 = 0
  rotate_left
  · have hE : mergeE A B = (chk B).1 := by unfold mergeE; rw [if_neg (by rw [hA0]; simp), if_pos hB0]
    have hbare := bare_of hB0
    rcases errOf_is _ hB0 with he | he
    · rw [he] at hCB hbare
      refine vcall (v := .ifc 63 (.int .i64 (chk B).1)) rfl rfl (by kernel_rfl) hCB (by exact fun _ h => hwb.st h) ?_
      apply go 300
      repeat' (first | apply And.intro | intro _)
      all_goals try (first | (show Here _ _ _ _; try (exfalso; omega)) | exact trivial | omega | kernel_rfl | exact rfl)
      refine vcall (v := .ifc 63 (.int .i64 (chk B).1)) rfl rfl (by kernel_rfl) hbare (by exact fun _ h => hL.st h) ?_
      apply go 300
      repeat' (first | apply And.intro | intro _)
      all_goals try (first | (show Here _ _ _ _; try (exfalso; omega)) | exact trivial | omega | kernel_rfl | exact rfl)
      exact vc2 (bs := []) rfl rfl rfl (List.nil_sublist _) (fail _ hE hB0)
    · rw [he] at hCB hbare
      refine vcall (v := .ifc 67 (.agg [.int .i64 (chk B).1, .int .i64 (chk B).2])) rfl rfl (by kernel_rfl) hCB (by exact fun _ h => hwb.st h) ?_
      apply go 300
      repeat' (first | apply And.intro | intro _)
      all_goals try (first | (show Here _ _ _ _; try (exfalso; omega)) | exact trivial | omega | kernel_rfl | exact rfl)
      refine vcall (v := .ifc 63 (.int .i64 (chk B).1)) rfl rfl (by kernel_rfl) hbare (by exact fun _ h => hL.st h) ?_
      apply go 300
      repeat' (first | apply And.intro | intro _)
      all_goals try (first | (show Here _ _ _ _; try (exfalso; omega)) | exact trivial | omega | kernel_rfl | exact rfl)
      exact vc2 (bs := []) rfl rfl rfl (List.nil_sublist _) (fail _ hE hB0)
  have heB : errOf (chk B) = .nilIface := by unfold errOf; rw [if_pos hB0]
  rw [heB] at hCB
  refine vcall (v := .raw .nilIface) rfl rfl (by kernel_rfl) hCB (by exact fun _ h => hwb.st h) ?_
  have hA8 := (chk_zero hA0).1
  have hB8 := (chk_zero hB0).1
  have hE : mergeE A B = if 8 < (B ++ newL A B).length then 5 else 0 := by unfold mergeE; rw [if_neg (by rw [hA0]; simp), if_neg (by rw [hB0]; simp)]
  obtain ⟨hms, hmf⟩ := merge_sort hA0 hB0
  apply go 300
  repeat' (first | apply And.intro | intro _)
  all_goals try (first | (show Here _ _ _ _; try (exfalso; omega)) | exact trivial | omega | kernel_rfl | exact rfl)
  refine vcc rfl rfl (by kernel_rfl) (Clone B b cb (by omega)) (by exact fun _ h => hwb.st h) ?_
  intro v0 bs0 hp0
  have hO0 : OutAt B v0 bs0 := by
    rcases hp0 with ⟨rfl, rfl, rfl⟩ | ⟨g, cap, spare, rfl, rfl, hg⟩
    · exact Or.inl ⟨hwb.none, rfl, rfl⟩
    · exact Or.inr ⟨g, cap, spare, rfl, rfl, hg⟩
  refine ⟨.raw v0, rfl, ?_⟩
  rw [List.append_nil]
  apply go 300
  repeat' (first | apply And.intro | intro _)
  all_goals try (first | (show Here _ _ _ _; try (exfalso; omega)) | exact trivial | omega | kernel_rfl | exact rfl)
  refine vrounds (fun s : Nat × Go.Value × Hs => s.1 ≤ A.length ∧ OutAt (B ++ newL (A.take s.1) B) s.2.1 s.2.2) (fun s => A.length - s.1) (fun s => [(1, .raw (.slice b B.length cb)), (8, .raw s.2.1), (27, .raw (.slice a A.length ca)), (28, .nat A.length), (29, .nat s.1)]) (fun _ => []) (fun s => s.2.2)
    (0, v0, bs0) (fun s hI ih => ?_) ⟨Nat.zero_le _, by simpa [newL] using hO0⟩ ⟨rfl, rfl, rfl, rfl, rfl, trivial⟩ (List.Sublist.refl _)
  obtain ⟨i, u, bs⟩ := s
  obtain ⟨hi, hO⟩ := hI
  simp only at hi hO ih ⊢
  by_cases hl : i < A.length
  · obtain ⟨ba, offa, rfl⟩ := hwa.is (by rintro rfl; simp at hl)
    have hR := hwa.go ba offa rfl
    refine vre [(1, .raw (.slice b B.length cb)), (8, .raw u), (27, .sl false 0 ba offa 2 none A.length ca), (28, .nat A.length), (29, .nat i)] rfl ?_
    refine vwith (pt := .run _) _ _ [⟨ba, offa, .arr cdL A⟩] tabOk (lent_lab lent_nil List.not_mem_nil hR) fun go => ?_
    obtain ⟨x, hx⟩ : ∃ x, A[i]? = some x := ⟨_, List.getElem?_eq_getElem hl⟩
    have hst := newL_step (B := B) hx
    have hG := Get B b cb x.1 (by omega)
    apply go 300
    repeat' (first | apply And.intro | intro _)
    all_goals try (first | (show Here _ _ _ _; try (exfalso; omega)) | exact trivial | omega | kernel_rfl | exact rfl)
    rename_i x' hx' bx
    rw [hx] at hx'
    cases hx'
    cases hg : getL B x.1 with
    | some y =>
      rw [hg] at hG hst
      refine vcall (v := .tup [.str y.2, .bl true]) rfl rfl (by kernel_rfl) hG (by exact fun _ h => hwb.st (h.sub (List.nil_sublist _))) ?_
      apply go 300
      repeat' (first | apply And.intro | intro _)
      all_goals try (first | (show Here _ _ _ _; try (exfalso; omega)) | exact trivial | omega | kernel_rfl | exact rfl)
      refine vweak _ _ _ (ih (i + 1, u, bs) ⟨by simp only; omega, ?_⟩ (by simp only; omega)) ⟨rfl, rfl, rfl, rfl, rfl, trivial⟩ (List.Sublist.cons _ (List.Sublist.refl _))
      rw [hst]
      simpa using hO
    | none =>
      rw [hg] at hG hst
      refine vcall (v := .tup [.str ⟨#[]⟩, .bl false]) rfl rfl (by kernel_rfl) hG (by exact fun _ h => hwb.st (h.sub (List.nil_sublist _))) ?_
      apply go 300
      repeat' (first | apply And.intro | intro _)
      all_goals try (first | (show Here _ _ _ _; try (exfalso; omega)) | exact trivial | omega | kernel_rfl | exact rfl)
      rename_i bt
      have hnl := newL_len (A.take i) B
      refine vapL [⟨bx, 62, .var [.str x.1, .str x.2], []⟩] (l := x) (qs := []) tabOk hO (by rw [List.length_append]; rw [List.length_take] at hnl; omega) rfl rfl rfl rfl rfl (List.append_nil _).symm ?_
      intro v' bs' hO'
      rw [List.append_nil]
      apply go 300
      repeat' (first | apply And.intro | intro _)
      all_goals try (first | (show Here _ _ _ _; try (exfalso; omega)) | exact trivial | omega | kernel_rfl | exact rfl)
      refine vweak _ _ _ (ih (i + 1, v', bs') ⟨by simp only; omega, ?_⟩ (by simp only; omega)) ⟨rfl, rfl, rfl, rfl, rfl, trivial⟩ (List.Sublist.cons _ (List.Sublist.refl _))
      rw [hst]
      simpa using hO'
  · obtain rfl : i = A.length := by omega
    rw [List.take_length] at hO
    obtain ⟨a', c', rfl, hle, hrd⟩ := outAt_lab hO
    apply go 300
    repeat' (first | apply And.intro | intro _)
    all_goals try (first | (show Here _ _ _ _; try (exfalso; omega)) | exact trivial | omega | kernel_rfl | exact rfl)
    refine vcc rfl rfl (by kernel_rfl) (SortC (B ++ newL A B) a' c' hle) (by exact fun w' hst => hrd _ _ _ _ (fun y hy => List.mem_append_right _ hy) hst) ?_
    intro v1 b1 hp1
    have hnone : a' = none → B ++ newL A B = [] := by
      rintro rfl
      rcases hO with ⟨h, _, _⟩ | ⟨g, cap, spare, h, _⟩
      · exact h
      · cases h
    obtain ⟨u1, rfl, ho1⟩ := sort_out2 hnone hp1
    refine ⟨.tup [.raw u1, .raw (errOf (schk (B ++ newL A B)))], rfl, ?_⟩
    apply go 300
    repeat' (first | apply And.intro | intro _)
    all_goals try (first | (show Here _ _ _ _; try (exfalso; omega)) | exact trivial | omega | kernel_rfl | exact rfl)
    refine vc2 (bs := b1) rfl rfl rfl (List.sublist_append_left _ _) ⟨u1, ?_, ?_⟩
    · rw [hms, hE]
      by_cases h9 : 8 < (B ++ newL A B).length
      · rw [if_pos h9, if_pos h9]; rfl
      · rw [if_neg h9, if_neg h9]; rfl
    · rw [hms, hmf] at ho1
      unfold mergeL
      rw [hE]
      by_cases h9 : 8 < (B ++ newL A B).length
      · rw [if_pos h9] at ho1 ⊢; exact ho1
      · rw [if_neg h9] at ho1 ⊢; exact ho1
end Go.Fl
