/-
  The document's objects: what is filled in; whether one may be made; whether two are alike. No condition beyond their sizes.
-/
import Derived.Test.YtiepomeokhjcfaaGreatDoorRB
import Derived.Test.YtiepomeokhjcfaaGreatDoorErrAs
namespace Go.Fl
open Go.Proofs Go.RowKit
set_option maxRecDepth 10000
set_option maxHeartbeats 40000000

theorem chk_parts (o : Oj) : chkO o = if headO o ≠ 0 then headO o else if o.kind = 1 ∨ o.kind = 2 ∨ o.kind = 3 then (if podsO o = 0 ∧ ¬ okS o then 14 else podsO o)
    else if o.kind = 0 then chkNode o else if o.kind = 4 then chkBudget o else chkLease o := by
  unfold chkO headO
  by_cases hk : ¬ inN o.kind 0 5
  · rw [if_pos hk, if_pos hk, if_pos (by decide)]
  rw [if_neg hk, if_neg hk]
  by_cases hn : nameL (tl o.name) = false
  · rw [if_pos hn, if_pos hn, if_pos (by decide)]
  rw [if_neg hn, if_neg hn]
  by_cases hb : o.born < 0 ∨ o.ver < o.born
  · rw [if_pos hb, if_pos hb, if_pos (by decide)]
  rw [if_neg hb, if_neg hb]
  by_cases hs : ¬ sameP o (ownO o)
  · rw [if_pos hs, if_pos hs, if_pos (by decide)]
  rw [if_neg hs, if_neg hs]
  by_cases hl : (chk o.labs).1 ≠ 0
  · rw [if_pos hl, if_pos hl, if_pos (by decide)]
  rw [if_neg hl, if_neg hl, if_neg (show ¬ (0 : Int) ≠ 0 by decide)]
  have hk := Classical.not_not.1 hk
  have hc : o.kind = 0 ∨ o.kind = 1 ∨ o.kind = 2 ∨ o.kind = 3 ∨ o.kind = 4 ∨ o.kind = 5 := by unfold inN at hk; omega
  clear hs hl hb hn
  unfold chkLikes chkRest podsO
  clear hk
  by_cases hs : okS o
  all_goals by_cases hr : ¬ rightA o.ncpu o.nmem
  all_goals by_cases hv : ¬ (valueL (tl o.image) = true ∧ inN o.rise 1 8 ∧ inN o.fall 1 8)
  all_goals first | rw [if_pos hr, if_pos hr] | rw [if_neg hr, if_neg hr]
  all_goals try first | rw [if_pos hv, if_pos hv] | rw [if_neg hv, if_neg hv]
  all_goals clear hr hv
  all_goals rcases hc with h | h | h | h | h | h <;> simp [h, hs] <;> grind
theorem rCheckO (o : Oj) (a a' : Option Addr) (c c' : Nat) (hn : o.labs.length ≤ 4398046511000) (hn' : o.sel.length ≤ 4398046511000) (hz : SzT o) (hzM : SzM o) : RetIf Tryz.prog 12 [(ov o a c a' c').val] (fun w => LabAt w a o.labs ∧ LabAt w a' o.sel) (.int .i64 (chkO o)) := by
  have hcx := chk_parts o
  have hkx : headO o = 0 → inN o.kind 0 5 := by unfold headO; grind
  refine ret_start1 Tryz.func12 rfl rfl rfl (fun w0 hw => ?_)
  obtain ⟨hw, hw'⟩ := hw
  refine vstart [(0, ov o a c a' c')] [] [] ?_
  refine vwith (pt := .run _) _ _ [] tabOk lent_nil fun go => ?_
  apply go 300
  repeat' (first | apply And.intro | intro _)
  all_goals try (first | (show Here _ _ _ _; try (exfalso; omega)) | exact trivial | omega | kernel_rfl | exact rfl)
  refine vcall (v := .int .i64 (headO o)) rfl rfl (by kernel_rfl) (rhead o a a' c c' hn hn' hz) (by exact fun _ h => ⟨hw.st h, hw'.st h⟩) ?_
  apply go 300
  repeat' (first | apply And.intro | intro _)
  all_goals try (first | (show Here _ _ _ _; try (exfalso; omega)) | exact trivial | omega | kernel_rfl | exact rfl)
  · exact vr1 rfl rfl (congrArg (Go.Value.int .i64) (show chkO o = headO o from by grind))
  have hh : headO o = 0 := by grind
  have hk := hkx hh
  replace hcx : chkO o = if o.kind = 1 ∨ o.kind = 2 ∨ o.kind = 3 then (if podsO o = 0 ∧ ¬ okS o then 14 else podsO o)
    else if o.kind = 0 then chkNode o else if o.kind = 4 then chkBudget o else chkLease o := by rw [hcx, if_neg (by simp [hh])]
  refine vcall (v := .bd (o.kind = 1 ∨ o.kind = 2 ∨ o.kind = 3) inferInstance) rfl rfl (by kernel_rfl) (rlikes o.kind) (by exact fun _ _ => trivial) ?_
  apply go 300
  repeat' (first | apply And.intro | intro _)
  all_goals try (first | (show Here _ _ _ _; try (exfalso; omega)) | exact trivial | omega | kernel_rfl | exact rfl)
  · rename_i hl
    rw [if_pos hl] at hcx
    refine vcall (v := .int .i64 (podsO o)) rfl rfl (by kernel_rfl) (rpods o a a' c c' hz) (by exact fun _ _ => trivial) ?_
    apply go 300
    repeat' (first | apply And.intro | intro _)
    all_goals try (first | (show Here _ _ _ _; try (exfalso; omega)) | exact trivial | omega | kernel_rfl | exact rfl)
    · have hC : RetIf Tryz.prog 52 [(ov o a c a' c').val] (fun w => LabAt w a o.labs) (V.bd (okS o) inferInstance).val := by
        rcases hl with h | h | h
        · exact (rcounts1 o a a' c c' h).mono fun _ _ => trivial
        · exact (rcounts2 o a a' c c' h).mono fun _ _ => trivial
        · exact rcounts3 o a a' c c' (by omega) (by omega) h hzM
      refine vcall (v := .bd (okS o) inferInstance) rfl rfl (by kernel_rfl) hC (by exact fun _ h => hw.st h) ?_
      apply go 300
      repeat' (first | apply And.intro | intro _)
      all_goals try (first | (show Here _ _ _ _; try (exfalso; omega)) | exact trivial | omega | kernel_rfl | exact rfl)
      · exact vr1 rfl rfl (congrArg (Go.Value.int .i64) (show chkO o = 14 from by clear go; grind))
      · exact vr1 rfl rfl (congrArg (Go.Value.int .i64) (show chkO o = podsO o from by clear go; grind))
    · exact vr1 rfl rfl (congrArg (Go.Value.int .i64) (show chkO o = podsO o from by clear go; grind))
  all_goals (rw [if_neg (show ¬ (o.kind = 1 ∨ o.kind = 2 ∨ o.kind = 3) by assumption)] at hcx)
  repeat' first
    | (refine vcall (v := .bd (rightA o.rcpu o.rmem) inferInstance) rfl rfl (by kernel_rfl) (rRight o.rcpu o.rmem) (by exact fun _ _ => trivial) ?_; (apply go 300; (repeat' (first | apply And.intro | intro _)); (all_goals try (first | (show Here _ _ _ _; try (exfalso; omega)) | exact trivial | omega | kernel_rfl | exact rfl))))
    | (refine vcall (v := .bd ((chk o.sel).1 = 0) inferInstance) rfl rfl (by kernel_rfl) (rmay o.sel a' c') (by exact fun _ h => hw'.st h) ?_; (apply go 300; (repeat' (first | apply And.intro | intro _)); (all_goals try (first | (show Here _ _ _ _; try (exfalso; omega)) | exact trivial | omega | kernel_rfl | exact rfl))))
    | (refine vcall (v := .bd (inN o.least 0 64) inferInstance) rfl rfl (by kernel_rfl) (rfrom o.least 0 64) (by exact fun _ _ => trivial) ?_; (apply go 300; (repeat' (first | apply And.intro | intro _)); (all_goals try (first | (show Here _ _ _ _; try (exfalso; omega)) | exact trivial | omega | kernel_rfl | exact rfl))))
    | (refine vcall (v := .bd (nameL (tl o.holder) = true) inferInstance) rfl rfl (by kernel_rfl) (rName o.holder (by have := hz.2.2.2.2; omega)).bd (by exact fun _ _ => trivial) ?_; (apply go 300; (repeat' (first | apply And.intro | intro _)); (all_goals try (first | (show Here _ _ _ _; try (exfalso; omega)) | exact trivial | omega | kernel_rfl | exact rfl))))
    | (refine vr1 rfl rfl (congrArg (Go.Value.int .i64) (show chkO o = 13 from ?_)); clear go; unfold chkNode chkBudget chkLease at hcx; grind)
    | (refine vr1 rfl rfl (congrArg (Go.Value.int .i64) (show chkO o = 12 from ?_)); clear go; unfold chkNode chkBudget chkLease at hcx; grind)
    | (refine vr1 rfl rfl (congrArg (Go.Value.int .i64) (show chkO o = 8 from ?_)); clear go; unfold chkNode chkBudget chkLease at hcx; grind)
    | (refine vr1 rfl rfl (congrArg (Go.Value.int .i64) (show chkO o = 1 from ?_)); clear go; unfold chkNode chkBudget chkLease at hcx; grind)
    | (refine vr1 rfl rfl (congrArg (Go.Value.int .i64) (show chkO o = 0 from ?_)); clear go; unfold chkNode chkBudget chkLease at hcx; grind)
end Go.Fl

namespace Go.Fl
open Go.Proofs Go.RowKit
set_option maxRecDepth 10000
set_option maxHeartbeats 40000000

theorem opost_def {o : Oj} {v : Go.Value} {x x' : Option Addr} {d d' : Nat} {q : Hs} (hv : v = (ov (defO o) x d x' d').val) (hd : o.labs.length ≤ d) (hd2 : o.sel.length ≤ d' ∧ Owns o x d x' d' q) (hr : RdL x o.labs q) (hr2 : RdL x' o.sel q) : OPost (defO o) v q := by
  refine ⟨x, d, x', d', hv, by rw [def_labs]; exact hd, ⟨by rw [def_sel]; exact hd2.1, ?_⟩, by rw [def_labs]; exact hr, by rw [def_sel]; exact hr2⟩
  have h := hd2.2
  unfold Owns at h ⊢
  rw [def_labs, def_sel]
  exact h
theorem rDefault (o : Oj) (a a' : Option Addr) (c c' : Nat) (h1 : o.labs.length ≤ 4398046511000) (h2 : o.sel.length ≤ 4398046511000) (hzM : SzM o) : Con Tryz.prog 15 [(ov o a c a' c').val] [] (fun w => LabAt w a o.labs ∧ LabAt w a' o.sel) (OPost (defO o)) := by
  refine con_start1 Tryz.func15 rfl rfl rfl (fun w0 hw => ?_)
  refine vstart [(0, ov o a c a' c')] [] [] ?_
  refine vwith (pt := .run _) _ _ [] tabOk lent_nil fun go => ?_
  apply go 300
  repeat' (first | apply And.intro | intro _)
  all_goals try (first | (show Here _ _ _ _; try (exfalso; omega)) | exact trivial | omega | kernel_rfl | exact rfl)
  refine vcc rfl rfl (by kernel_rfl) (CopyObject o a a' c c' h1 h2) (by exact fun _ h => ⟨hw.1.st h, hw.2.st h⟩) ?_
  rintro _ q1 ⟨x1, d1, x2, d2, rfl, hd1, hd2, hr1, hr2⟩
  refine ⟨ov o x1 d1 x2 d2, rfl, ?_⟩
  apply go 300
  repeat' (first | apply And.intro | intro _)
  all_goals try (first | (show Here _ _ _ _; try (exfalso; omega)) | exact trivial | omega | kernel_rfl | exact rfl)
  refine vcall (v := .bd (o.kind = 1 ∨ o.kind = 2 ∨ o.kind = 3) inferInstance) rfl rfl (by kernel_rfl) (rlikes o.kind) (by exact fun _ _ => trivial) ?_
  apply go 300
  repeat' (first | apply And.intro | intro _)
  all_goals try (first | (show Here _ _ _ _; try (exfalso; omega)) | exact trivial | omega | kernel_rfl | exact rfl)
  repeat' first
    | (refine vcall (v := .int .u64 (templH { o with rise := 1, fall := 1 })) rfl rfl (by kernel_rfl) (rTemplate ({ o with rise := 1, fall := 1 }) x1 x2 d1 d2 hzM) (by exact fun w hst => hr1 _ _ _ _ (fun y hy => by simp [hy]) hst) ?_; (apply go 300; (repeat' (first | apply And.intro | intro _)); (all_goals try (first | (show Here _ _ _ _; try (exfalso; omega)) | exact trivial | omega | kernel_rfl | exact rfl))))
    | (refine vcall (v := .int .u64 (templH { o with rise := 1 })) rfl rfl (by kernel_rfl) (rTemplate ({ o with rise := 1 }) x1 x2 d1 d2 hzM) (by exact fun w hst => hr1 _ _ _ _ (fun y hy => by simp [hy]) hst) ?_; (apply go 300; (repeat' (first | apply And.intro | intro _)); (all_goals try (first | (show Here _ _ _ _; try (exfalso; omega)) | exact trivial | omega | kernel_rfl | exact rfl))))
    | (refine vcall (v := .int .u64 (templH { o with fall := 1 })) rfl rfl (by kernel_rfl) (rTemplate ({ o with fall := 1 }) x1 x2 d1 d2 hzM) (by exact fun w hst => hr1 _ _ _ _ (fun y hy => by simp [hy]) hst) ?_; (apply go 300; (repeat' (first | apply And.intro | intro _)); (all_goals try (first | (show Here _ _ _ _; try (exfalso; omega)) | exact trivial | omega | kernel_rfl | exact rfl))))
    | (refine vcall (v := .int .u64 (templH o)) rfl rfl (by kernel_rfl) (rTemplate (o) x1 x2 d1 d2 hzM) (by exact fun w hst => hr1 _ _ _ _ (fun y hy => by simp [hy]) hst) ?_; (apply go 300; (repeat' (first | apply And.intro | intro _)); (all_goals try (first | (show Here _ _ _ _; try (exfalso; omega)) | exact trivial | omega | kernel_rfl | exact rfl))))
    | (refine vcc1 (bs := q1) tabOk (by exact rfl) (by exact rfl) (by exact rfl) (by exact rfl) (by exact rfl) (by first | exact List.sublist_append_right _ _ | (rw [List.append_nil]; exact List.sublist_append_right _ _)) ?_; exact opost_def (by rw [show defO o = { o with rise := 1, fall := 1 } from by clear go hr1 hr2 hd2 hd1; unfold defO or1; cases o; grind] <;> rfl) hd1 hd2 hr1 hr2)
    | (refine vcc1 (bs := q1) tabOk (by exact rfl) (by exact rfl) (by exact rfl) (by exact rfl) (by exact rfl) (by first | exact List.sublist_append_right _ _ | (rw [List.append_nil]; exact List.sublist_append_right _ _)) ?_; exact opost_def (by rw [show defO o = { o with rise := 1, fall := 1, surge := 1 } from by clear go hr1 hr2 hd2 hd1; unfold defO or1; cases o; grind] <;> rfl) hd1 hd2 hr1 hr2)
    | (refine vcc1 (bs := q1) tabOk (by exact rfl) (by exact rfl) (by exact rfl) (by exact rfl) (by exact rfl) (by first | exact List.sublist_append_right _ _ | (rw [List.append_nil]; exact List.sublist_append_right _ _)) ?_; exact opost_def (by rw [show defO o = { o with rise := 1, fall := 1, hash := (templH { o with rise := 1, fall := 1 }) } from by clear go hr1 hr2 hd2 hd1; unfold defO or1; cases o; grind] <;> rfl) hd1 hd2 hr1 hr2)
    | (refine vcc1 (bs := q1) tabOk (by exact rfl) (by exact rfl) (by exact rfl) (by exact rfl) (by exact rfl) (by first | exact List.sublist_append_right _ _ | (rw [List.append_nil]; exact List.sublist_append_right _ _)) ?_; exact opost_def (by rw [show defO o = { o with rise := 1 } from by clear go hr1 hr2 hd2 hd1; unfold defO or1; cases o; grind] <;> rfl) hd1 hd2 hr1 hr2)
    | (refine vcc1 (bs := q1) tabOk (by exact rfl) (by exact rfl) (by exact rfl) (by exact rfl) (by exact rfl) (by first | exact List.sublist_append_right _ _ | (rw [List.append_nil]; exact List.sublist_append_right _ _)) ?_; exact opost_def (by rw [show defO o = { o with rise := 1, surge := 1 } from by clear go hr1 hr2 hd2 hd1; unfold defO or1; cases o; grind] <;> rfl) hd1 hd2 hr1 hr2)
    | (refine vcc1 (bs := q1) tabOk (by exact rfl) (by exact rfl) (by exact rfl) (by exact rfl) (by exact rfl) (by first | exact List.sublist_append_right _ _ | (rw [List.append_nil]; exact List.sublist_append_right _ _)) ?_; exact opost_def (by rw [show defO o = { o with rise := 1, hash := (templH { o with rise := 1 }) } from by clear go hr1 hr2 hd2 hd1; unfold defO or1; cases o; grind] <;> rfl) hd1 hd2 hr1 hr2)
    | (refine vcc1 (bs := q1) tabOk (by exact rfl) (by exact rfl) (by exact rfl) (by exact rfl) (by exact rfl) (by first | exact List.sublist_append_right _ _ | (rw [List.append_nil]; exact List.sublist_append_right _ _)) ?_; exact opost_def (by rw [show defO o = { o with fall := 1 } from by clear go hr1 hr2 hd2 hd1; unfold defO or1; cases o; grind] <;> rfl) hd1 hd2 hr1 hr2)
    | (refine vcc1 (bs := q1) tabOk (by exact rfl) (by exact rfl) (by exact rfl) (by exact rfl) (by exact rfl) (by first | exact List.sublist_append_right _ _ | (rw [List.append_nil]; exact List.sublist_append_right _ _)) ?_; exact opost_def (by rw [show defO o = { o with fall := 1, surge := 1 } from by clear go hr1 hr2 hd2 hd1; unfold defO or1; cases o; grind] <;> rfl) hd1 hd2 hr1 hr2)
    | (refine vcc1 (bs := q1) tabOk (by exact rfl) (by exact rfl) (by exact rfl) (by exact rfl) (by exact rfl) (by first | exact List.sublist_append_right _ _ | (rw [List.append_nil]; exact List.sublist_append_right _ _)) ?_; exact opost_def (by rw [show defO o = { o with fall := 1, hash := (templH { o with fall := 1 }) } from by clear go hr1 hr2 hd2 hd1; unfold defO or1; cases o; grind] <;> rfl) hd1 hd2 hr1 hr2)
    | (refine vcc1 (bs := q1) tabOk (by exact rfl) (by exact rfl) (by exact rfl) (by exact rfl) (by exact rfl) (by first | exact List.sublist_append_right _ _ | (rw [List.append_nil]; exact List.sublist_append_right _ _)) ?_; exact opost_def (by rw [show defO o = o from by clear go hr1 hr2 hd2 hd1; unfold defO or1; cases o; grind] <;> rfl) hd1 hd2 hr1 hr2)
    | (refine vcc1 (bs := q1) tabOk (by exact rfl) (by exact rfl) (by exact rfl) (by exact rfl) (by exact rfl) (by first | exact List.sublist_append_right _ _ | (rw [List.append_nil]; exact List.sublist_append_right _ _)) ?_; exact opost_def (by rw [show defO o = { o with surge := 1 } from by clear go hr1 hr2 hd2 hd1; unfold defO or1; cases o; grind] <;> rfl) hd1 hd2 hr1 hr2)
    | (refine vcc1 (bs := q1) tabOk (by exact rfl) (by exact rfl) (by exact rfl) (by exact rfl) (by exact rfl) (by first | exact List.sublist_append_right _ _ | (rw [List.append_nil]; exact List.sublist_append_right _ _)) ?_; exact opost_def (by rw [show defO o = { o with hash := (templH o) } from by clear go hr1 hr2 hd2 hd1; unfold defO or1; cases o; grind] <;> rfl) hd1 hd2 hr1 hr2)
    | fail
theorem def_szT (o : Oj) (h : SzT o) : SzT (defO o) := by unfold SzT defO at *; (repeat' split) <;> exact h
theorem def_szM (o : Oj) (h : SzM o) : SzM (defO o) := by unfold SzM defO at *; (repeat' split) <;> exact h
theorem rNewO (o : Oj) (a a' : Option Addr) (c c' : Nat) (hn : o.labs.length ≤ 4398046511000) (hn' : o.sel.length ≤ 4398046511000) (hz : SzT o) (hzM : SzM o) : RetIf Tryz.prog 14 [(ov o a c a' c').val] (fun w => LabAt w a o.labs ∧ LabAt w a' o.sel) (.int .i64 (newO o)) := by
  have ht0 : tl (⟨#[]⟩ : ByteArray) = [] := rfl
  refine ret_start1 Tryz.func14 rfl rfl rfl (fun w0 hw => ?_)
  obtain ⟨hw, hw'⟩ := hw
  refine vstart [(0, ov o a c a' c')] [] [] ?_
  refine vwith (pt := .run _) _ _ [] tabOk lent_nil fun go => ?_
  apply go 300
  repeat' (first | apply And.intro | intro _)
  all_goals try (first | (show Here _ _ _ _; try (exfalso; omega)) | exact trivial | omega | kernel_rfl | exact rfl)
  · exact vr1 rfl rfl (congrArg (Go.Value.int .i64) (show newO o = 11 from by unfold newO; rw [if_pos ‹_›]))
  have h5 : ¬ o.kind = 5 := ‹_›
  have e1 : newO o = if chkO (defO o) ≠ 0 then chkO (defO o) else if fresh o then 0 else 14 := by unfold newO; rw [if_neg h5]
  unfold fresh at e1
  refine vcc rfl rfl (by kernel_rfl) (rDefault o a a' c c' hn hn' hzM) (by exact fun _ h => ⟨hw.st h, hw'.st h⟩) ?_
  rintro _ q1 ⟨x1, d1, x2, d2, rfl, hd1, hd2, hr1, hr2⟩
  refine ⟨ov (defO o) x1 d1 x2 d2, rfl, ?_⟩
  apply go 300
  repeat' (first | apply And.intro | intro _)
  all_goals try (first | (show Here _ _ _ _; try (exfalso; omega)) | exact trivial | omega | kernel_rfl | exact rfl)
  refine vcall (v := .int .i64 (chkO (defO o))) rfl rfl (by kernel_rfl) (rCheckO (defO o) x1 x2 d1 d2 (by rw [def_labs]; exact hn) (by rw [def_sel]; exact hn') (def_szT o hz) (def_szM o hzM)) (by exact fun _ h => ⟨hr1 _ _ _ _ (fun y hy => by simp [hy]) h, hr2 _ _ _ _ (fun y hy => by simp [hy]) h⟩) ?_
  apply go 400
  repeat' (first | apply And.intro | intro _)
  all_goals try (first | (show Here _ _ _ _; try (exfalso; omega)) | exact trivial | omega | kernel_rfl | exact rfl)
  all_goals clear hr1 hr2 hd2 go
  all_goals first
    | exact vr1 rfl rfl (congrArg (Go.Value.int .i64) (show newO o = chkO (defO o) from by grind))
    | exact vr1 rfl rfl (congrArg (Go.Value.int .i64) (show newO o = 14 from by grind))
    | exact vr1 rfl rfl (congrArg (Go.Value.int .i64) (show newO o = 0 from by grind))
    | skip
theorem rng_ite {p : Prop} [Decidable p] {a b : Int} (ha : 0 ≤ a ∧ a ≤ 36) (hb : 0 ≤ b ∧ b ≤ 36) : 0 ≤ (if p then a else b) ∧ (if p then a else b) ≤ 36 := by
  split <;> assumption
theorem chk_range (o : Oj) : 0 ≤ chkO o ∧ chkO o ≤ 36 := by
  unfold chkO chkNode chkBudget chkLease chkLikes chkRest
  repeat' apply rng_ite
  all_goals decide
theorem new_range (o : Oj) : 0 ≤ newO o ∧ newO o ≤ 36 := by
  have := chk_range (defO o)
  unfold newO
  repeat' apply rng_ite
  all_goals first | decide | exact this
theorem plainW (n : Int) (h : 0 ≤ n ∧ n ≤ 36) : RetIf Tryz.prog 10 [errN n, .int .i64 n] Laid (.bool true) := by
  unfold errN
  by_cases h0 : n = 0
  · subst h0
    exact (plainN 0).mono fun _ _ => trivial
  · rw [if_neg h0]
    have hn : num n = n := by unfold num; rw [if_pos ⟨by omega, h.2⟩]
    have := plainE n n
    rw [hn, decide_eq_true rfl] at this
    exact this
theorem szOf {o : Oj} (h : SzM o) : Sz o := ⟨by have := h.1; omega, fun x hx => by have := h.2.2 x hx; omega⟩
theorem same_self (o : Oj) (x y x' y' : Option Addr) (c d c' d' : Nat) (h1 : o.labs.length ≤ 4398046511000) (h2 : o.sel.length ≤ 4398046511000) : RetIf Tryz.prog 16 [(ov o x c y d).val, (ov o x' c' y' d').val]
    (fun w => (LabAt w x o.labs ∧ LabAt w y o.sel) ∧ LabAt w x' o.labs ∧ LabAt w y' o.sel) (V.bl true).val := by
  have := SameObject o o x y x' y' c d c' d' h1 h2
  rw [bd_t (sameP_id o)] at this
  exact this
end Go.Fl
