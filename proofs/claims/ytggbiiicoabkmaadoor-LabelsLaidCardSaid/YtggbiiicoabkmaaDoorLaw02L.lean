/-
  The statement LabelsLaid, walked. No condition beyond the lists' sizes.
-/
import Derived.Test.YtggbiiicoabkmaaDoorLaw02S
import Derived.Test.YtggbiiicoabkmaaDoorMerge
import Derived.Test.YtggbiiicoabkmaaDoorLaidH
namespace Go.Fl
open Go.Proofs Go.RowKit
set_option maxRecDepth 10000
set_option maxHeartbeats 4000000

section
open Go.Proofs.YtggbiiicoabkmaaDoor Go.ChangeShapes Go.WideShapes
theorem laid_err {W : World} {l : List (String × DataW Unit)} (h : laidMetH Tryd.prog l W) (hf : l.filter (fun x => x.1 == "errors.errorType") = [("errors.errorType", Rows.laid_errors_errorType)]) : Laid W := by
  have h1 := h.filter (fun x => x.1 == "errors.errorType")
  rw [hf] at h1
  have h' : laidMet Tryd.prog [] W ∧ handlesMet Tryd.prog [("errors.errorType", Rows.laid_errors_errorType)] W := h1
  exact laid_of_handle h'.2 (List.mem_singleton.2 rfl)
end

/-! plain -/
theorem getL_in {M : List Lab} {y : Lab} {k : ByteArray} (hd : M.Pairwise fun a b => tl a.1 ≠ tl b.1) (hy : y ∈ M) (hk : tl y.1 = tl k) : getL M k = some y := by
  induction M with
  | nil => cases hy
  | cons x M ih =>
    obtain ⟨h1, h2⟩ := List.pairwise_cons.1 hd
    unfold getL
    rw [List.find?_cons]
    rcases List.mem_cons.1 hy with rfl | hm
    · simp [hk]
    · have : decide (tl x.1 = tl k) = false := decide_eq_false fun h => h1 y hm (h.trans hk.symm)
      rw [this]
      exact ih h2 hm
/-- Is there a key of the first i in others? -/
def shL (A B : List Lab) : Bool := A.any fun x => (getL B x.1).isSome
theorem sh_step {A B : List Lab} {i : Nat} {x : Lab} (hx : A[i]? = some x) : shL (A.take (i + 1)) B = (shL (A.take i) B || (getL B x.1).isSome) := by
  unfold shL
  rw [List.take_add_one, hx, List.any_append]
  simp
theorem laid_facts {A B : List Lab} (h : mergeE A B = 0) : (mergeL A B).length ≤ 8 ∧ chk (mergeL A B) = (0, -1) ∧ (mergeL A B).Perm (B ++ newL A B) ∧ (mergeL A B).Pairwise (fun a b => tl a.1 ≠ tl b.1) := by
  have hm := h
  unfold mergeE at h
  split at h
  · rename_i h1; exact absurd h h1
  · split at h
    · rename_i h1; exact absurd h h1
    · rename_i hA hB
      split at h
      · cases h
      · rename_i h8
        have hA := Classical.not_not.1 hA
        have hB := Classical.not_not.1 hB
        obtain ⟨h1, h2⟩ := merge_sort hA hB
        rw [if_neg h8] at h1
        have h0 : (schk (B ++ newL A B)).1 = 0 := by rw [h1]
        obtain ⟨f1, f2, f3, f4, f5⟩ := sorted_facts h0
        have e : mergeL A B = (B ++ newL A B).foldl putL [] := by unfold mergeL; rw [if_pos hm, h2]
        rw [e]
        refine ⟨by omega, f2, f5, (chk_strict (by rw [f2])).1.imp fun h => h.1⟩
theorem laid_get {A B : List Lab} (h : mergeE A B = 0) {x : Lab} (hx : x ∈ A) : getL (mergeL A B) x.1 = some ((getL B x.1).getD x) := by
  obtain ⟨_, _, hp, hd⟩ := laid_facts h
  cases hg : getL B x.1 with
  | some y =>
    have h1 := List.mem_of_find?_eq_some hg
    have h2 : tl y.1 = tl x.1 := by simpa using List.find?_some hg
    exact getL_in hd (hp.mem_iff.2 (List.mem_append_left _ h1)) h2
  | none =>
    refine getL_in hd (hp.mem_iff.2 (List.mem_append_right _ (List.mem_filter.2 ⟨hx, ?_⟩))) rfl
    show (getL B x.1).isNone = true
    rw [hg]; rfl
theorem laid_all {A B : List Lab} (h : mergeE A B = 0) (hs : shL A B = false) : (∀ x ∈ A, x ∈ mergeL A B) ∧ (mergeL A B).length = A.length + B.length := by
  obtain ⟨_, _, hp, _⟩ := laid_facts h
  have hn : newL A B = A := List.filter_eq_self.2 fun x hx => by
    have := List.any_eq_false.1 hs x hx
    cases hg : getL B x.1 with
    | none => rfl
    | some y => rw [hg] at this; simp at this
  refine ⟨fun x hx => hp.mem_iff.2 (List.mem_append_right _ (by rw [hn]; exact hx)), ?_⟩
  rw [hp.length_eq, List.length_append, hn]; omega
theorem labNone (w : World) : LabAt w none [] := ⟨(fun b off h => by cases h), fun h => absurd rfl h⟩
theorem match_nil (A : List Lab) : matchL A [] = decide (A.length = 0) := by
  have : commonL A [] = [] := List.filter_eq_nil_iff.2 fun x _ => by simp [inL]
  unfold matchL
  rw [this]
  exact decide_eq_decide.2 (by rw [List.length_nil]; omega)
theorem errOf_v (x : Int × Int) : x.1 = 0 ∧ errOf x = .nilIface ∨ x.1 ≠ 0 ∧ (errOf x = errno x.1 ∨ errOf x = fault x.1 x.2) := by
  by_cases h : x.1 = 0
  · exact Or.inl ⟨h, by unfold errOf; rw [if_pos h]⟩
  · exact Or.inr ⟨h, errOf_is x h⟩

theorem law02Laid (A B : List Lab) (a b : Option Addr) (ca cb : Nat) (hA : A.length ≤ ca) (hB : B.length ≤ cb) (hna : A.length * 32 ≤ 140737488351232) (hnb : B.length * 32 ≤ 140737488351232) :
    RetIf Tryd.prog 13 [.slice a A.length ca, .slice b B.length cb] (fun w => (LabAt w a A ∧ LabAt w b B) ∧ Laid w) (.bool true) := by
  refine ret_start2 Tryd.func13 rfl rfl rfl (fun w0 hw => ?_)
  obtain ⟨⟨hwa, hwb⟩, hL⟩ := hw
  refine vstart [(0, .raw (.slice a A.length ca)), (1, .raw (.slice b B.length cb))] [] [] ?_
  refine vwith (pt := .run _) _ _ [] tabOk lent_nil fun go => ?_
  have hM1 := Matches [] A none a 0 ca (by simp) (by omega)
  have hM2 := Matches A A a a ca ca (by omega) (by omega)
  have hM3 := Matches A [] a none ca 0 (by omega) (by simp)
  rw [match_sub (by simp)] at hM1
  rw [match_sub (fun _ h => h)] at hM2
  rw [match_nil] at hM3
  apply go 300
  repeat' (first | apply And.intro | intro _)
  all_goals try (first | (show Here _ _ _ _; try (exfalso; omega)) | exact trivial | omega | kernel_rfl | exact rfl)
  refine vcall (v := .bl true) rfl rfl (by kernel_rfl) works02 (by exact fun _ _ => trivial) ?_
  apply go 300
  repeat' (first | apply And.intro | intro _)
  all_goals try (first | (show Here _ _ _ _; try (exfalso; omega)) | exact trivial | omega | kernel_rfl | exact rfl)
  refine vcall (v := .bl true) rfl rfl (by kernel_rfl) hM1 (by exact fun w h => ⟨labNone w, hwa.st h⟩) ?_
  apply go 300
  repeat' (first | apply And.intro | intro _)
  all_goals try (first | (show Here _ _ _ _; try (exfalso; omega)) | exact trivial | omega | kernel_rfl | exact rfl)
  refine vcall (v := .bl true) rfl rfl (by kernel_rfl) hM2 (by exact fun w h => ⟨hwa.st h, hwa.st h⟩) ?_
  apply go 300
  repeat' (first | apply And.intro | intro _)
  all_goals try (first | (show Here _ _ _ _; try (exfalso; omega)) | exact trivial | omega | kernel_rfl | exact rfl)
  refine vcall (v := .bd (A.length = 0) inferInstance) rfl rfl (by kernel_rfl) hM3 (by exact fun w h => ⟨hwa.st h, labNone w⟩) ?_
  apply go 300
  repeat' (first | apply And.intro | intro _)
  all_goals try (first | (show Here _ _ _ _; try (exfalso; omega)) | exact trivial | omega | kernel_rfl | exact rfl)
  refine vcc rfl rfl (by kernel_rfl) (MergeC A B a b ca cb hA hB) (by exact fun _ h => ⟨hwa.st h, hwb.st h, hL.st h⟩) ?_
  rintro _ b1 ⟨u1, rfl, ho1⟩
  obtain ⟨a1, c1, rfl, hc1, hr1⟩ := outAt_lab ho1
  by_cases h0 : mergeE A B = 0
  rotate_left
  · rw [if_neg h0]
    refine ⟨.tup [.raw (.slice a1 (mergeL A B).length c1), .ifc 63 (.int .i64 (mergeE A B))], rfl, ?_⟩
    apply go 300
    repeat' (first | apply And.intro | intro _)
    all_goals try (first | (show Here _ _ _ _; try (exfalso; omega)) | exact trivial | omega | kernel_rfl | exact rfl)
    have hCA := Check A a ca
    rcases errOf_v (chk A) with ⟨hA0, he⟩ | ⟨hA0, he | he⟩
    · rw [he] at hCA
      refine vcall (v := .raw .nilIface) rfl rfl (by kernel_rfl) hCA (by exact fun _ h => hwa.st (h.sub (List.nil_sublist _))) ?_
      apply go 300
      repeat' (first | apply And.intro | intro _)
      all_goals try (first | (show Here _ _ _ _; try (exfalso; omega)) | exact trivial | omega | kernel_rfl | exact rfl)
      have hCB := Check B b cb
      rcases errOf_v (chk B) with ⟨hB0, he2⟩ | ⟨hB0, he2 | he2⟩
      · rw [he2] at hCB
        refine vcall (v := .raw .nilIface) rfl rfl (by kernel_rfl) hCB (by exact fun _ h => hwb.st (h.sub (List.nil_sublist _))) ?_
        have h8 : 8 < A.length + B.length := by
          have hnl := newL_len A B
          unfold mergeE at h0
          rw [if_neg (fun h => h hA0), if_neg (fun h => h hB0)] at h0
          split at h0
          · rename_i h; rw [List.length_append] at h; omega
          · exact absurd rfl h0
        apply go 300
        repeat' (first | apply And.intro | intro _)
        all_goals try (first | (show Here _ _ _ _; try (exfalso; omega)) | exact trivial | omega | kernel_rfl | exact rfl)
        all_goals exact vr1 rfl rfl (by simp [V.val]; omega)
      · rw [he2] at hCB
        refine vcall (v := .ifc 63 (.int .i64 (chk B).1)) rfl rfl (by kernel_rfl) hCB (by exact fun _ h => hwb.st (h.sub (List.nil_sublist _))) ?_
        apply go 300
        repeat' (first | apply And.intro | intro _)
        all_goals try (first | (show Here _ _ _ _; try (exfalso; omega)) | exact trivial | omega | kernel_rfl | exact rfl)
        exact vr1 rfl rfl rfl
      · rw [he2] at hCB
        refine vcall (v := .ifc 67 (.agg [.int .i64 (chk B).1, .int .i64 (chk B).2])) rfl rfl (by kernel_rfl) hCB (by exact fun _ h => hwb.st (h.sub (List.nil_sublist _))) ?_
        apply go 300
        repeat' (first | apply And.intro | intro _)
        all_goals try (first | (show Here _ _ _ _; try (exfalso; omega)) | exact trivial | omega | kernel_rfl | exact rfl)
        exact vr1 rfl rfl rfl
    · rw [he] at hCA
      refine vcall (v := .ifc 63 (.int .i64 (chk A).1)) rfl rfl (by kernel_rfl) hCA (by exact fun _ h => hwa.st (h.sub (List.nil_sublist _))) ?_
      apply go 300
      repeat' (first | apply And.intro | intro _)
      all_goals try (first | (show Here _ _ _ _; try (exfalso; omega)) | exact trivial | omega | kernel_rfl | exact rfl)
      exact vr1 rfl rfl rfl
    · rw [he] at hCA
      refine vcall (v := .ifc 67 (.agg [.int .i64 (chk A).1, .int .i64 (chk A).2])) rfl rfl (by kernel_rfl) hCA (by exact fun _ h => hwa.st (h.sub (List.nil_sublist _))) ?_
      apply go 300
      repeat' (first | apply And.intro | intro _)
      all_goals try (first | (show Here _ _ _ _; try (exfalso; omega)) | exact trivial | omega | kernel_rfl | exact rfl)
      exact vr1 rfl rfl rfl
  rw [if_pos h0]
  obtain ⟨h8, hk, hperm, hd⟩ := laid_facts h0
  have hCM := Check (mergeL A B) a1 c1
  rw [hk, show errOf (0, -1) = .nilIface from rfl] at hCM
  have hB8 : B.length ≤ 8 := by have := hperm.length_eq; rw [List.length_append] at this; omega
  have hMB := Matches B (mergeL A B) b a1 cb c1 (by omega) (by omega)
  rw [match_sub (fun x hx => hperm.mem_iff.2 (List.mem_append_left _ hx))] at hMB
  refine ⟨.tup [.raw (.slice a1 (mergeL A B).length c1), .raw .nilIface], rfl, ?_⟩
  apply go 300
  repeat' (first | apply And.intro | intro _)
  all_goals try (first | (show Here _ _ _ _; try (exfalso; omega)) | exact trivial | omega | kernel_rfl | exact rfl)
  refine vrounds (fun i : Nat => i ≤ A.length) (fun i => A.length - i) (fun i => [(0, .raw (.slice a A.length ca)), (1, .raw (.slice b B.length cb)), (5, .raw (.slice a1 (mergeL A B).length c1)), (7, .bl (shL (A.take i) B)), (8, .nat i)]) (fun _ => []) (fun _ => b1)
    0 (fun i hi ih => ?_) (Nat.zero_le _) ⟨rfl, rfl, rfl, rfl, rfl, trivial⟩ (by simp)
  by_cases hl : i < A.length
  · obtain ⟨ba, offa, rfl⟩ := hwa.is (by rintro rfl; simp at hl)
    have hR := hwa.go ba offa rfl
    obtain ⟨x, hx⟩ : ∃ x, A[i]? = some x := ⟨_, List.getElem?_eq_getElem hl⟩
    have hst := sh_step (B := B) hx
    have hG := Get B b cb x.1 (by omega)
    have hGM := Get (mergeL A B) a1 c1 x.1 (by omega)
    rw [laid_get h0 (List.mem_of_getElem? hx)] at hGM
    cases hsh : shL (A.take i) B <;> cases hg : getL B x.1 with
    | some y =>
      rw [hg] at hG hst hGM
      rw [hsh] at hst
      refine vre [(0, .sl false 0 ba offa 2 none A.length ca), (1, .raw (.slice b B.length cb)), (5, .raw (.slice a1 (mergeL A B).length c1)), (7, .bl _), (8, .nat i)] rfl ?_
      refine vwith (pt := .run _) _ _ [⟨ba, offa, .arr cdL A⟩] tabOk (lent_lab lent_nil List.not_mem_nil hR) fun go => ?_
      apply go 300
      repeat' (first | apply And.intro | intro _)
      all_goals try (first | (show Here _ _ _ _; try (exfalso; omega)) | exact trivial | omega | kernel_rfl | exact rfl)
      rename_i x' hx'
      rw [hx] at hx'
      cases hx'
      refine vcall (v := .tup [.str y.2, .bl true]) rfl rfl (by kernel_rfl) hG (by exact fun _ h => hwb.st h) ?_
      apply go 300
      repeat' (first | apply And.intro | intro _)
      all_goals try (first | (show Here _ _ _ _; try (exfalso; omega)) | exact trivial | omega | kernel_rfl | exact rfl)
      rename_i x' hx'
      rw [hx] at hx'
      cases hx'
      refine vcall (v := .tup [.str y.2, .bl true]) rfl rfl (by kernel_rfl) hGM (by exact fun _ h => hr1 _ _ _ _ (fun x hx => by simp [hx]) h) ?_
      apply go 300
      repeat' (first | apply And.intro | intro _)
      all_goals try (first | (show Here _ _ _ _; try (exfalso; omega)) | exact trivial | omega | kernel_rfl | exact rfl)
      · exact absurd rfl ‹tl y.2 ≠ tl y.2›
      · have ih' := ih (i + 1) (by omega) (by omega)
        rw [hst] at ih'
        exact vweak _ _ _ ih' ⟨rfl, rfl, rfl, rfl, rfl, trivial⟩ (List.Sublist.refl _)
    | none =>
      rw [hg] at hG hst hGM
      rw [hsh] at hst
      refine vre [(0, .sl false 0 ba offa 2 none A.length ca), (1, .raw (.slice b B.length cb)), (5, .raw (.slice a1 (mergeL A B).length c1)), (7, .bl _), (8, .nat i)] rfl ?_
      refine vwith (pt := .run _) _ _ [⟨ba, offa, .arr cdL A⟩] tabOk (lent_lab lent_nil List.not_mem_nil hR) fun go => ?_
      apply go 300
      repeat' (first | apply And.intro | intro _)
      all_goals try (first | (show Here _ _ _ _; try (exfalso; omega)) | exact trivial | omega | kernel_rfl | exact rfl)
      rename_i x' hx'
      rw [hx] at hx'
      cases hx'
      refine vcall (v := .tup [.str ⟨#[]⟩, .bl false]) rfl rfl (by kernel_rfl) hG (by exact fun _ h => hwb.st h) ?_
      apply go 300
      repeat' (first | apply And.intro | intro _)
      all_goals try (first | (show Here _ _ _ _; try (exfalso; omega)) | exact trivial | omega | kernel_rfl | exact rfl)
      rename_i x' hx'
      rw [hx] at hx'
      cases hx'
      refine vcall (v := .tup [.str x.2, .bl true]) rfl rfl (by kernel_rfl) hGM (by exact fun _ h => hr1 _ _ _ _ (fun x hx => by simp [hx]) h) ?_
      apply go 300
      repeat' (first | apply And.intro | intro _)
      all_goals try (first | (show Here _ _ _ _; try (exfalso; omega)) | exact trivial | omega | kernel_rfl | exact rfl)
      · rename_i y' hy' hne
        rw [hx] at hy'
        cases hy'
        exact absurd rfl hne
      · have ih' := ih (i + 1) (by omega) (by omega)
        rw [hst] at ih'
        exact vweak _ _ _ ih' ⟨rfl, rfl, rfl, rfl, rfl, trivial⟩ (List.Sublist.refl _)
  · obtain rfl : i = A.length := by omega
    rw [List.take_length]
    cases hsh : shL A B
    · obtain ⟨hsub, hlen⟩ := laid_all h0 hsh
      have hMA := Matches A (mergeL A B) a a1 ca c1 (by omega) (by omega)
      rw [match_sub hsub] at hMA
      apply go 300
      repeat' (first | apply And.intro | intro _)
      all_goals try (first | (show Here _ _ _ _; try (exfalso; omega)) | exact trivial | omega | kernel_rfl | exact rfl)
      refine vcall (v := .raw .nilIface) rfl rfl (by kernel_rfl) hCM (by exact fun _ h => hr1 _ _ _ _ (fun x hx => by simp [hx]) h) ?_
      apply go 300
      repeat' (first | apply And.intro | intro _)
      all_goals try (first | (show Here _ _ _ _; try (exfalso; omega)) | exact trivial | omega | kernel_rfl | exact rfl)
      refine vcall (v := .bl true) rfl rfl (by kernel_rfl) hMB (by exact fun _ h => ⟨hwb.st h, hr1 _ _ _ _ (fun x hx => by simp [hx]) h⟩) ?_
      apply go 300
      repeat' (first | apply And.intro | intro _)
      all_goals try (first | (show Here _ _ _ _; try (exfalso; omega)) | exact trivial | omega | kernel_rfl | exact rfl)
      refine vcall (v := .bl true) rfl rfl (by kernel_rfl) hMA (by exact fun _ h => ⟨hwa.st h, hr1 _ _ _ _ (fun x hx => by simp [hx]) h⟩) ?_
      apply go 300
      repeat' (first | apply And.intro | intro _)
      all_goals try (first | (show Here _ _ _ _; try (exfalso; omega)) | exact trivial | omega | kernel_rfl | exact rfl)
      exact vr1 rfl rfl (by simp [V.val, hlen])
    · apply go 300
      repeat' (first | apply And.intro | intro _)
      all_goals try (first | (show Here _ _ _ _; try (exfalso; omega)) | exact trivial | omega | kernel_rfl | exact rfl)
      refine vcall (v := .raw .nilIface) rfl rfl (by kernel_rfl) hCM (by exact fun _ h => hr1 _ _ _ _ (fun x hx => by simp [hx]) h) ?_
      apply go 300
      repeat' (first | apply And.intro | intro _)
      all_goals try (first | (show Here _ _ _ _; try (exfalso; omega)) | exact trivial | omega | kernel_rfl | exact rfl)
      refine vcall (v := .bl true) rfl rfl (by kernel_rfl) hMB (by exact fun _ h => ⟨hwb.st h, hr1 _ _ _ _ (fun x hx => by simp [hx]) h⟩) ?_
      apply go 300
      repeat' (first | apply And.intro | intro _)
      all_goals try (first | (show Here _ _ _ _; try (exfalso; omega)) | exact trivial | omega | kernel_rfl | exact rfl)
      exact vr1 rfl rfl rfl
end Go.Fl
