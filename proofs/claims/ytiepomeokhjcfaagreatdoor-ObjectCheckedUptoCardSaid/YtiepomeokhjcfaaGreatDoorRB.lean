/-
  The document's objects: what is wrong with one. No condition beyond its sizes.
-/
import Derived.Test.YtiepomeokhjcfaaGreatDoorObjN
import Derived.Test.YtiepomeokhjcfaaGreatDoorRT
import Derived.Test.YtiepomeokhjcfaaGreatDoorWordsN
import Derived.Test.YtiepomeokhjcfaaGreatDoorObjK
namespace Go.Fl
open Go.Proofs Go.RowKit
set_option maxRecDepth 10000
set_option maxHeartbeats 40000000

theorem rlikes (k : Int) : RetIf Tryz.prog 50 [.int .i64 k] (fun _ => True) (V.bd (k = 1 ∨ k = 2 ∨ k = 3) inferInstance).val := by
  refine ret_start1 Tryz.func50 rfl rfl rfl (fun w0 hw => ?_)
  refine vstart [(0, .int .i64 k)] [] [] ?_
  refine vwith (pt := .run _) _ _ [] tabOk lent_nil fun go => ?_
  apply go 300
  repeat' (first | apply And.intro | intro _)
  all_goals try (first | (show Here _ _ _ _; try (exfalso; omega)) | exact trivial | omega | kernel_rfl | exact rfl)
  all_goals exact vr1 rfl rfl (by first | (refine bd_bd ?_; omega) | (refine bd_t ?_; omega) | (refine bd_f ?_; omega))
theorem rfrom (n low high : Int) : RetIf Tryz.prog 55 [.int .i64 n, .int .i64 low, .int .i64 high] (fun _ => True) (V.bd (inN n low high) inferInstance).val := by
  refine ret_start3 Tryz.func55 rfl rfl rfl (fun w0 hw => ?_)
  refine vstart [(0, .int .i64 n), (1, .int .i64 low), (2, .int .i64 high)] [] [] ?_
  refine vwith (pt := .run _) _ _ [] tabOk lent_nil fun go => ?_
  apply go 300
  repeat' (first | apply And.intro | intro _)
  all_goals try (first | (show Here _ _ _ _; try (exfalso; omega)) | exact trivial | omega | kernel_rfl | exact rfl)
  all_goals exact vr1 rfl rfl (by first | (refine bd_bd ?_; unfold inN; omega) | (refine bd_t ?_; unfold inN; omega) | (refine bd_f ?_; unfold inN; omega))
theorem rright (n : Int) : RetIf Tryz.prog 118 [.int .i64 n] (fun _ => True) (V.bd (0 ≤ n ∧ n ≤ 1099511627776) inferInstance).val := by
  refine ret_start1 Tryz.func118 rfl rfl rfl (fun w0 hw => ?_)
  refine vstart [(0, .int .i64 n)] [] [] ?_
  refine vwith (pt := .run _) _ _ [] tabOk lent_nil fun go => ?_
  apply go 300
  repeat' (first | apply And.intro | intro _)
  all_goals try (first | (show Here _ _ _ _; try (exfalso; omega)) | exact trivial | omega | kernel_rfl | exact rfl)
  all_goals exact vr1 rfl rfl (by first | (refine bd_bd ?_; omega) | (refine bd_t ?_; omega) | (refine bd_f ?_; omega))
theorem rRight (c m : Int) : RetIf Tryz.prog 53 [.agg #[.int .i64 c, .int .i64 m]] (fun _ => True) (V.bd (rightA c m) inferInstance).val := by
  refine ret_start1 Tryz.func53 rfl rfl rfl (fun w0 hw => ?_)
  refine vstart [(0, .agg [.int .i64 c, .int .i64 m])] [] [] ?_
  refine vwith (pt := .run _) _ _ [] tabOk lent_nil fun go => ?_
  apply go 300
  repeat' (first | apply And.intro | intro _)
  all_goals try (first | (show Here _ _ _ _; try (exfalso; omega)) | exact trivial | omega | kernel_rfl | exact rfl)
  refine vcall (v := .bd (0 ≤ c ∧ c ≤ 1099511627776) inferInstance) rfl rfl (by kernel_rfl) (rright c) (by exact fun _ _ => trivial) ?_
  apply go 300
  repeat' (first | apply And.intro | intro _)
  all_goals try (first | (show Here _ _ _ _; try (exfalso; omega)) | exact trivial | omega | kernel_rfl | exact rfl)
  · refine vcall (v := .bd (0 ≤ m ∧ m ≤ 1099511627776) inferInstance) rfl rfl (by kernel_rfl) (rright m) (by exact fun _ _ => trivial) ?_
    apply go 300
    repeat' (first | apply And.intro | intro _)
    all_goals try (first | (show Here _ _ _ _; try (exfalso; omega)) | exact trivial | omega | kernel_rfl | exact rfl)
    all_goals exact vr1 rfl rfl (by first | (refine bd_bd ?_; unfold rightA; omega) | (refine bd_t ?_; unfold rightA; omega) | (refine bd_f ?_; unfold rightA; omega))
  · exact vr1 rfl rfl (by first | (refine bd_bd ?_; unfold rightA; omega) | (refine bd_t ?_; unfold rightA; omega) | (refine bd_f ?_; unfold rightA; omega))
theorem rmay (L : List Lab) (a : Option Addr) (c : Nat) : RetIf Tryz.prog 54 [.slice a L.length c] (fun w => LabAt w a L) (V.bd ((chk L).1 = 0) inferInstance).val := by
  refine ret_start1 Tryz.func54 rfl rfl rfl (fun w0 hw => ?_)
  refine vstart [(0, labV L a c)] [] [] ?_
  refine vwith (pt := .run _) _ _ [] tabOk lent_nil fun go => ?_
  apply go 300
  repeat' (first | apply And.intro | intro _)
  all_goals try (first | (show Here _ _ _ _; try (exfalso; omega)) | exact trivial | omega | kernel_rfl | exact rfl)
  refine vcall (v := .tup [.int .i64 (chk L).1, .int .i64 (chk L).2]) rfl rfl (by kernel_rfl) (rCheck L a c) (by exact fun _ h => hw.st h) ?_
  apply go 300
  repeat' (first | apply And.intro | intro _)
  all_goals try (first | (show Here _ _ _ _; try (exfalso; omega)) | exact trivial | omega | kernel_rfl | exact rfl)
  exact vr1 rfl rfl rfl
theorem rown0 (o : Oj) (a a' : Option Addr) (c c' : Nat) (h : o.kind = 0) : RetIf Tryz.prog 116 [(ov o a c a' c').val] (fun _ => True) (ownV o a c a' c').val := by
  have hX : ownO o = { base o with rcpu := o.rcpu, rmem := o.rmem, cord := o.cord, drain := o.drain, lost := o.lost, beat := o.beat } := by unfold ownO; rw [if_pos h]
  have e : ownV o a c a' c' = .agg (ocs ({ base o with rcpu := o.rcpu, rmem := o.rmem, cord := o.cord, drain := o.drain, lost := o.lost, beat := o.beat }) (labV o.labs a c) (.raw (.slice none 0 0))) := by unfold ownV; rw [hX, if_neg (by omega), if_neg (by omega)]
  rw [e]
  refine ret_start1 Tryz.func116 rfl rfl rfl (fun w0 hw => ?_)
  refine vstart [(0, ov o a c a' c')] [] [] ?_
  refine vwith (pt := .run _) _ _ [] tabOk lent_nil fun go => ?_
  apply go 300
  repeat' (first | apply And.intro | intro _)
  all_goals try (first | (show Here _ _ _ _; try (exfalso; omega)) | exact trivial | omega | kernel_rfl | exact rfl)
  refine vcall (v := .bd (o.kind = 1 ∨ o.kind = 2 ∨ o.kind = 3) inferInstance) rfl rfl (by kernel_rfl) (rlikes o.kind) (by exact fun _ _ => trivial) ?_
  apply go 300
  repeat' (first | apply And.intro | intro _)
  all_goals try (first | (show Here _ _ _ _; try (exfalso; omega)) | exact trivial | omega | kernel_rfl | exact rfl)
  exact vrc1 tabOk (by exact rfl) (by exact rfl) (by exact rfl) (by exact rfl) (by exact rfl) (by exact rfl)
theorem rown4 (o : Oj) (a a' : Option Addr) (c c' : Nat) (h : o.kind = 4) : RetIf Tryz.prog 116 [(ov o a c a' c').val] (fun _ => True) (ownV o a c a' c').val := by
  have hX : ownO o = { base o with sel := o.sel, least := o.least } := by unfold ownO; rw [if_neg (by omega), if_pos h]
  have e : ownV o a c a' c' = .agg (ocs ({ base o with sel := o.sel, least := o.least }) (labV o.labs a c) (labV o.sel a' c')) := by unfold ownV; rw [hX, if_neg (by omega), if_pos h]
  rw [e]
  refine ret_start1 Tryz.func116 rfl rfl rfl (fun w0 hw => ?_)
  refine vstart [(0, ov o a c a' c')] [] [] ?_
  refine vwith (pt := .run _) _ _ [] tabOk lent_nil fun go => ?_
  apply go 300
  repeat' (first | apply And.intro | intro _)
  all_goals try (first | (show Here _ _ _ _; try (exfalso; omega)) | exact trivial | omega | kernel_rfl | exact rfl)
  refine vcall (v := .bd (o.kind = 1 ∨ o.kind = 2 ∨ o.kind = 3) inferInstance) rfl rfl (by kernel_rfl) (rlikes o.kind) (by exact fun _ _ => trivial) ?_
  apply go 300
  repeat' (first | apply And.intro | intro _)
  all_goals try (first | (show Here _ _ _ _; try (exfalso; omega)) | exact trivial | omega | kernel_rfl | exact rfl)
  exact vrc1 tabOk (by exact rfl) (by exact rfl) (by exact rfl) (by exact rfl) (by exact rfl) (by exact rfl)
theorem rown5 (o : Oj) (a a' : Option Addr) (c c' : Nat) (h : o.kind = 5) : RetIf Tryz.prog 116 [(ov o a c a' c').val] (fun _ => True) (ownV o a c a' c').val := by
  have hX : ownO o = { base o with labs := [], holder := o.holder, term := o.term, till := o.till } := by unfold ownO; rw [if_neg (by omega), if_neg (by omega), if_pos h]
  have e : ownV o a c a' c' = .agg (ocs ({ base o with labs := [], holder := o.holder, term := o.term, till := o.till }) (.raw (.slice none 0 0)) (.raw (.slice none 0 0))) := by unfold ownV; rw [hX, if_pos h, if_neg (by omega)]
  rw [e]
  refine ret_start1 Tryz.func116 rfl rfl rfl (fun w0 hw => ?_)
  refine vstart [(0, ov o a c a' c')] [] [] ?_
  refine vwith (pt := .run _) _ _ [] tabOk lent_nil fun go => ?_
  apply go 300
  repeat' (first | apply And.intro | intro _)
  all_goals try (first | (show Here _ _ _ _; try (exfalso; omega)) | exact trivial | omega | kernel_rfl | exact rfl)
  refine vcall (v := .bd (o.kind = 1 ∨ o.kind = 2 ∨ o.kind = 3) inferInstance) rfl rfl (by kernel_rfl) (rlikes o.kind) (by exact fun _ _ => trivial) ?_
  apply go 300
  repeat' (first | apply And.intro | intro _)
  all_goals try (first | (show Here _ _ _ _; try (exfalso; omega)) | exact trivial | omega | kernel_rfl | exact rfl)
  exact vrc1 tabOk (by exact rfl) (by exact rfl) (by exact rfl) (by exact rfl) (by exact rfl) (by exact rfl)
theorem rown1 (o : Oj) (a a' : Option Addr) (c c' : Nat) (h : o.kind = 1) : RetIf Tryz.prog 116 [(ov o a c a' c').val] (fun _ => True) (ownV o a c a' c').val := by
  have hX : ownO o = { base o with dep := o.dep, set := o.set, node := o.node, phase := o.phase, ready := o.ready, ending := o.ending, ncpu := o.ncpu, nmem := o.nmem, image := o.image, rise := o.rise, fall := o.fall } := by unfold ownO; rw [if_neg (by omega), if_neg (by omega), if_neg (by omega), if_pos h]
  have e : ownV o a c a' c' = .agg (ocs ({ base o with dep := o.dep, set := o.set, node := o.node, phase := o.phase, ready := o.ready, ending := o.ending, ncpu := o.ncpu, nmem := o.nmem, image := o.image, rise := o.rise, fall := o.fall }) (labV o.labs a c) (.raw (.slice none 0 0))) := by unfold ownV; rw [hX, if_neg (by omega), if_neg (by omega)]
  rw [e]
  refine ret_start1 Tryz.func116 rfl rfl rfl (fun w0 hw => ?_)
  refine vstart [(0, ov o a c a' c')] [] [] ?_
  refine vwith (pt := .run _) _ _ [] tabOk lent_nil fun go => ?_
  apply go 300
  repeat' (first | apply And.intro | intro _)
  all_goals try (first | (show Here _ _ _ _; try (exfalso; omega)) | exact trivial | omega | kernel_rfl | exact rfl)
  refine vcall (v := .bd (o.kind = 1 ∨ o.kind = 2 ∨ o.kind = 3) inferInstance) rfl rfl (by kernel_rfl) (rlikes o.kind) (by exact fun _ _ => trivial) ?_
  apply go 300
  repeat' (first | apply And.intro | intro _)
  all_goals try (first | (show Here _ _ _ _; try (exfalso; omega)) | exact trivial | omega | kernel_rfl | exact rfl)
  exact vrc1 tabOk (by exact rfl) (by exact rfl) (by exact rfl) (by exact rfl) (by exact rfl) (by exact rfl)
theorem rown2 (o : Oj) (a a' : Option Addr) (c c' : Nat) (h : o.kind = 2) : RetIf Tryz.prog 116 [(ov o a c a' c').val] (fun _ => True) (ownV o a c a' c').val := by
  have hX : ownO o = { base o with surge := o.surge, slack := o.slack, paused := o.paused, count := o.count, ncpu := o.ncpu, nmem := o.nmem, image := o.image, rise := o.rise, fall := o.fall } := by unfold ownO; rw [if_neg (by omega), if_neg (by omega), if_neg (by omega), if_neg (by omega), if_pos h]
  have e : ownV o a c a' c' = .agg (ocs ({ base o with surge := o.surge, slack := o.slack, paused := o.paused, count := o.count, ncpu := o.ncpu, nmem := o.nmem, image := o.image, rise := o.rise, fall := o.fall }) (labV o.labs a c) (.raw (.slice none 0 0))) := by unfold ownV; rw [hX, if_neg (by omega), if_neg (by omega)]
  rw [e]
  refine ret_start1 Tryz.func116 rfl rfl rfl (fun w0 hw => ?_)
  refine vstart [(0, ov o a c a' c')] [] [] ?_
  refine vwith (pt := .run _) _ _ [] tabOk lent_nil fun go => ?_
  apply go 300
  repeat' (first | apply And.intro | intro _)
  all_goals try (first | (show Here _ _ _ _; try (exfalso; omega)) | exact trivial | omega | kernel_rfl | exact rfl)
  refine vcall (v := .bd (o.kind = 1 ∨ o.kind = 2 ∨ o.kind = 3) inferInstance) rfl rfl (by kernel_rfl) (rlikes o.kind) (by exact fun _ _ => trivial) ?_
  apply go 300
  repeat' (first | apply And.intro | intro _)
  all_goals try (first | (show Here _ _ _ _; try (exfalso; omega)) | exact trivial | omega | kernel_rfl | exact rfl)
  exact vrc1 tabOk (by exact rfl) (by exact rfl) (by exact rfl) (by exact rfl) (by exact rfl) (by exact rfl)
theorem rown3 (o : Oj) (a a' : Option Addr) (c c' : Nat) (h : o.kind = 3) : RetIf Tryz.prog 116 [(ov o a c a' c').val] (fun _ => True) (ownV o a c a' c').val := by
  have hX : ownO o = { base o with dep := o.dep, hash := o.hash, count := o.count, ncpu := o.ncpu, nmem := o.nmem, image := o.image, rise := o.rise, fall := o.fall } := by unfold ownO; rw [if_neg (by omega), if_neg (by omega), if_neg (by omega), if_neg (by omega), if_neg (by omega), if_pos h]
  have e : ownV o a c a' c' = .agg (ocs ({ base o with dep := o.dep, hash := o.hash, count := o.count, ncpu := o.ncpu, nmem := o.nmem, image := o.image, rise := o.rise, fall := o.fall }) (labV o.labs a c) (.raw (.slice none 0 0))) := by unfold ownV; rw [hX, if_neg (by omega), if_neg (by omega)]
  rw [e]
  refine ret_start1 Tryz.func116 rfl rfl rfl (fun w0 hw => ?_)
  refine vstart [(0, ov o a c a' c')] [] [] ?_
  refine vwith (pt := .run _) _ _ [] tabOk lent_nil fun go => ?_
  apply go 300
  repeat' (first | apply And.intro | intro _)
  all_goals try (first | (show Here _ _ _ _; try (exfalso; omega)) | exact trivial | omega | kernel_rfl | exact rfl)
  refine vcall (v := .bd (o.kind = 1 ∨ o.kind = 2 ∨ o.kind = 3) inferInstance) rfl rfl (by kernel_rfl) (rlikes o.kind) (by exact fun _ _ => trivial) ?_
  apply go 300
  repeat' (first | apply And.intro | intro _)
  all_goals try (first | (show Here _ _ _ _; try (exfalso; omega)) | exact trivial | omega | kernel_rfl | exact rfl)
  exact vrc1 tabOk (by exact rfl) (by exact rfl) (by exact rfl) (by exact rfl) (by exact rfl) (by exact rfl)
theorem rownX (o : Oj) (a a' : Option Addr) (c c' : Nat) (h : ¬ (o.kind = 0 ∨ o.kind = 4 ∨ o.kind = 5 ∨ o.kind = 1 ∨ o.kind = 2 ∨ o.kind = 3)) : RetIf Tryz.prog 116 [(ov o a c a' c').val] (fun _ => True) (ownV o a c a' c').val := by
  have hX : ownO o = base o := by unfold ownO; rw [if_neg (by omega), if_neg (by omega), if_neg (by omega), if_neg (by omega), if_neg (by omega), if_neg (by omega)]
  have e : ownV o a c a' c' = .agg (ocs (base o) (labV o.labs a c) (.raw (.slice none 0 0))) := by unfold ownV; rw [hX, if_neg (by omega), if_neg (by omega)]
  rw [e]
  refine ret_start1 Tryz.func116 rfl rfl rfl (fun w0 hw => ?_)
  refine vstart [(0, ov o a c a' c')] [] [] ?_
  refine vwith (pt := .run _) _ _ [] tabOk lent_nil fun go => ?_
  apply go 300
  repeat' (first | apply And.intro | intro _)
  all_goals try (first | (show Here _ _ _ _; try (exfalso; omega)) | exact trivial | omega | kernel_rfl | exact rfl)
  refine vcall (v := .bd (o.kind = 1 ∨ o.kind = 2 ∨ o.kind = 3) inferInstance) rfl rfl (by kernel_rfl) (rlikes o.kind) (by exact fun _ _ => trivial) ?_
  apply go 300
  repeat' (first | apply And.intro | intro _)
  all_goals try (first | (show Here _ _ _ _; try (exfalso; omega)) | exact trivial | omega | kernel_rfl | exact rfl)
  exact vrc1 tabOk (by exact rfl) (by exact rfl) (by exact rfl) (by exact rfl) (by exact rfl) (by exact rfl)
theorem rown (o : Oj) (a a' : Option Addr) (c c' : Nat) : RetIf Tryz.prog 116 [(ov o a c a' c').val] (fun _ => True) (ownV o a c a' c').val := by
  by_cases h : ¬ (o.kind = 0 ∨ o.kind = 4 ∨ o.kind = 5 ∨ o.kind = 1 ∨ o.kind = 2 ∨ o.kind = 3)
  · exact rownX o a a' c c' h
  rcases Classical.not_not.1 h with h | h | h | h | h | h
  · exact rown0 o a a' c c' h
  · exact rown4 o a a' c c' h
  · exact rown5 o a a' c c' h
  · exact rown1 o a a' c c' h
  · exact rown2 o a a' c c' h
  · exact rown3 o a a' c c' h
end Go.Fl

namespace Go.Fl
open Go.Proofs Go.RowKit
set_option maxRecDepth 10000
set_option maxHeartbeats 40000000

def SzT (o : Oj) : Prop := o.name.size ≤ 1048576 ∧ o.dep.size ≤ 1048576 ∧ o.set.size ≤ 1048576 ∧ o.node.size ≤ 1048576 ∧ o.holder.size ≤ 1048576
def headO (o : Oj) : Int :=
  if ¬ inN o.kind 0 5 then 11 else if nameL (tl o.name) = false then 8 else if o.born < 0 ∨ o.ver < o.born then 1 else if ¬ sameP o (ownO o) then 14 else if (chk o.labs).1 ≠ 0 then 12 else 0
def podsO (o : Oj) : Int :=
  if o.kind = 1 ∧ (nameL (tl o.dep) = false ∨ nameL (tl o.set) = false ∨ (tl o.node ≠ [] ∧ nameL (tl o.node) = false)) then 8
  else if o.kind = 3 ∧ nameL (tl o.dep) = false then 8 else if o.kind = 2 ∧ 20 < o.name.size then 8
  else if ¬ rightA o.ncpu o.nmem then 13 else if ¬ (valueL (tl o.image) = true ∧ inN o.rise 1 8 ∧ inN o.fall 1 8) then 14 else 0
theorem rhead (o : Oj) (a a' : Option Addr) (c c' : Nat) (hn : o.labs.length ≤ 4398046511000) (hn' : o.sel.length ≤ 4398046511000) (hz : SzT o) : RetIf Tryz.prog 49 [(ov o a c a' c').val] (fun w => LabAt w a o.labs ∧ LabAt w a' o.sel) (.int .i64 (headO o)) := by
  refine ret_start1 Tryz.func49 rfl rfl rfl (fun w0 hw => ?_)
  obtain ⟨hw, hw'⟩ := hw
  obtain ⟨x, d, x', d', he, hrd⟩ := own_out o a a' c c'
  have hO := rown o a a' c c'
  rw [he] at hO
  refine vstart [(0, ov o a c a' c')] [] [] ?_
  refine vwith (pt := .run _) _ _ [] tabOk lent_nil fun go => ?_
  apply go 300
  repeat' (first | apply And.intro | intro _)
  all_goals try (first | (show Here _ _ _ _; try (exfalso; omega)) | exact trivial | omega | kernel_rfl | exact rfl)
  refine vcall (v := .bd (inN o.kind 0 5) inferInstance) rfl rfl (by kernel_rfl) (rfrom o.kind 0 5) (by exact fun _ _ => trivial) ?_
  apply go 300
  repeat' (first | apply And.intro | intro _)
  all_goals try (first | (show Here _ _ _ _; try (exfalso; omega)) | exact trivial | omega | kernel_rfl | exact rfl)
  · exact vr1 rfl rfl (by rw [show headO o = 11 from by unfold headO; rw [if_pos ‹_›]]; rfl)
  have hk : inN o.kind 0 5 := Classical.not_not.1 ‹_›
  have e1 : headO o = if nameL (tl o.name) = false then 8 else if o.born < 0 ∨ o.ver < o.born then 1 else if ¬ sameP o (ownO o) then 14 else if (chk o.labs).1 ≠ 0 then 12 else 0 := by
    unfold headO; rw [if_neg (not_not_intro hk)]
  refine vcall (v := .bd (nameL (tl o.name) = true) inferInstance) rfl rfl (by kernel_rfl) (rName o.name (by have := hz.1; omega)).bd (by exact fun _ _ => trivial) ?_
  apply go 300
  repeat' (first | apply And.intro | intro _)
  all_goals try (first | (show Here _ _ _ _; try (exfalso; omega)) | exact trivial | omega | kernel_rfl | exact rfl)
  · exact vr1 rfl rfl (by rw [e1, if_pos (by simpa using ‹¬ nameL (tl o.name) = true›)]; rfl)
  · exact vr1 rfl rfl (by rw [e1, if_neg (by simp_all), if_pos (by omega)]; rfl)
  · exact vr1 rfl rfl (by rw [e1, if_neg (by simp_all), if_pos (by omega)]; rfl)
  have e2 : headO o = if ¬ sameP o (ownO o) then 14 else if (chk o.labs).1 ≠ 0 then 12 else 0 := by
    rw [e1, if_neg (by simp_all), if_neg (by omega)]
  refine vdraw (flagsOf _) (by kernel_rfl) (by decide +kernel) (flags_len _) ?_
  apply go 300
  repeat' (first | apply And.intro | intro _)
  all_goals try (first | (show Here _ _ _ _; try (exfalso; omega)) | exact trivial | omega | kernel_rfl | exact rfl)
  refine vcallD (v := ov (ownO o) x d x' d') rfl rfl (by kernel_rfl) hO (by exact fun _ _ => trivial) ?_
  apply go 300
  repeat' (first | apply And.intro | intro _)
  all_goals try (first | (show Here _ _ _ _; try (exfalso; omega)) | exact trivial | omega | kernel_rfl | exact rfl)
  refine vcallD (v := .bd (sameP o (ownO o)) inferInstance) rfl rfl (by kernel_rfl) (SameObject o (ownO o) a a' x x' c c' d d' hn hn') (by exact fun _ h => ⟨⟨hw.st h, hw'.st h⟩, hrd _ (hw.st h) (hw'.st h)⟩) ?_
  apply go 300
  repeat' (first | apply And.intro | intro _)
  all_goals try (first | (show Here _ _ _ _; try (exfalso; omega)) | exact trivial | omega | kernel_rfl | exact rfl)
  · exact vr1 rfl rfl (by rw [e2, if_pos ‹_›]; rfl)
  have e3 : headO o = if (chk o.labs).1 ≠ 0 then 12 else 0 := by
    rw [e2, if_neg ‹_›]
  refine vcall (v := .bd ((chk o.labs).1 = 0) inferInstance) rfl rfl (by kernel_rfl) (rmay o.labs a c) (by exact fun _ h => hw.st h) ?_
  apply go 300
  repeat' (first | apply And.intro | intro _)
  all_goals try (first | (show Here _ _ _ _; try (exfalso; omega)) | exact trivial | omega | kernel_rfl | exact rfl)
  · exact vr1 rfl rfl (by rw [e3, if_pos ‹_›]; rfl)
  · exact vr1 rfl rfl (by rw [e3, if_neg ‹_›]; rfl)
theorem rpods (o : Oj) (a a' : Option Addr) (c c' : Nat) (hz : SzT o) : RetIf Tryz.prog 51 [(ov o a c a' c').val] (fun _ => True) (.int .i64 (podsO o)) := by
  obtain ⟨hz1, hz2, hz3, hz4, hz5⟩ := hz
  have ht0 : tl (⟨#[]⟩ : ByteArray) = [] := rfl
  refine ret_start1 Tryz.func51 rfl rfl rfl (fun w0 hw => ?_)
  refine vstart [(0, ov o a c a' c')] [] [] ?_
  refine vwith (pt := .run _) _ _ [] tabOk lent_nil fun go => ?_
  apply go 300
  repeat' (first | apply And.intro | intro _)
  all_goals try (first | (show Here _ _ _ _; try (exfalso; omega)) | exact trivial | omega | kernel_rfl | exact rfl)
  repeat' first
    | (refine vcall (v := .bd (nameL (tl o.dep) = true) inferInstance) rfl rfl (by kernel_rfl) (rName o.dep (by omega)).bd (by exact fun _ _ => trivial) ?_; (apply go 300; (repeat' (first | apply And.intro | intro _)); (all_goals try (first | (show Here _ _ _ _; try (exfalso; omega)) | exact trivial | omega | kernel_rfl | exact rfl))))
    | (refine vcall (v := .bd (nameL (tl o.set) = true) inferInstance) rfl rfl (by kernel_rfl) (rName o.set (by omega)).bd (by exact fun _ _ => trivial) ?_; (apply go 300; (repeat' (first | apply And.intro | intro _)); (all_goals try (first | (show Here _ _ _ _; try (exfalso; omega)) | exact trivial | omega | kernel_rfl | exact rfl))))
    | (refine vcall (v := .bd (nameL (tl o.node) = true) inferInstance) rfl rfl (by kernel_rfl) (rName o.node (by omega)).bd (by exact fun _ _ => trivial) ?_; (apply go 300; (repeat' (first | apply And.intro | intro _)); (all_goals try (first | (show Here _ _ _ _; try (exfalso; omega)) | exact trivial | omega | kernel_rfl | exact rfl))))
    | (refine vcall (v := .bd (rightA o.ncpu o.nmem) inferInstance) rfl rfl (by kernel_rfl) (rRight o.ncpu o.nmem) (by exact fun _ _ => trivial) ?_; (apply go 300; (repeat' (first | apply And.intro | intro _)); (all_goals try (first | (show Here _ _ _ _; try (exfalso; omega)) | exact trivial | omega | kernel_rfl | exact rfl))))
    | (refine vcall (v := .bd (valueL (tl o.image) = true) inferInstance) rfl rfl (by kernel_rfl) (rValue o.image).bd (by exact fun _ _ => trivial) ?_; (apply go 300; (repeat' (first | apply And.intro | intro _)); (all_goals try (first | (show Here _ _ _ _; try (exfalso; omega)) | exact trivial | omega | kernel_rfl | exact rfl))))
    | (refine vcall (v := .bd (inN o.rise 1 8) inferInstance) rfl rfl (by kernel_rfl) (rfrom o.rise 1 8) (by exact fun _ _ => trivial) ?_; (apply go 300; (repeat' (first | apply And.intro | intro _)); (all_goals try (first | (show Here _ _ _ _; try (exfalso; omega)) | exact trivial | omega | kernel_rfl | exact rfl))))
    | (refine vcall (v := .bd (inN o.fall 1 8) inferInstance) rfl rfl (by kernel_rfl) (rfrom o.fall 1 8) (by exact fun _ _ => trivial) ?_; (apply go 300; (repeat' (first | apply And.intro | intro _)); (all_goals try (first | (show Here _ _ _ _; try (exfalso; omega)) | exact trivial | omega | kernel_rfl | exact rfl))))
    | (refine vr1 rfl rfl (congrArg (Go.Value.int .i64) (show podsO o = 8 from ?_)); clear go; unfold podsO; grind)
    | (refine vr1 rfl rfl (congrArg (Go.Value.int .i64) (show podsO o = 13 from ?_)); clear go; unfold podsO; grind)
    | (refine vr1 rfl rfl (congrArg (Go.Value.int .i64) (show podsO o = 14 from ?_)); clear go; unfold podsO; grind)
    | (refine vr1 rfl rfl (congrArg (Go.Value.int .i64) (show podsO o = 0 from ?_)); clear go; unfold podsO; grind)
theorem rcounts1 (o : Oj) (a a' : Option Addr) (c c' : Nat) (h : o.kind = 1) : RetIf Tryz.prog 52 [(ov o a c a' c').val] (fun _ => True) (V.bd (okS o) inferInstance).val := by
  have ht0 : tl (⟨#[]⟩ : ByteArray) = [] := rfl
  refine ret_start1 Tryz.func52 rfl rfl rfl (fun w0 hw => ?_)
  refine vstart [(0, ov o a c a' c')] [] [] ?_
  refine vwith (pt := .run _) _ _ [] tabOk lent_nil fun go => ?_
  apply go 300
  repeat' (first | apply And.intro | intro _)
  all_goals try (first | (show Here _ _ _ _; try (exfalso; omega)) | exact trivial | omega | kernel_rfl | exact rfl)
  refine vcall (v := .bd (inN o.phase 0 1) inferInstance) rfl rfl (by kernel_rfl) (rfrom o.phase 0 1) (by exact fun _ _ => trivial) ?_
  apply go 300
  repeat' (first | apply And.intro | intro _)
  all_goals try (first | (show Here _ _ _ _; try (exfalso; omega)) | exact trivial | omega | kernel_rfl | exact rfl)
  all_goals clear go
  all_goals exact vr1 rfl rfl (by first | (refine bd_bd ?_; unfold okS; grind) | (refine bd_t ?_; unfold okS; grind) | (refine bd_f ?_; unfold okS; grind))
theorem rcounts2 (o : Oj) (a a' : Option Addr) (c c' : Nat) (h : o.kind = 2) : RetIf Tryz.prog 52 [(ov o a c a' c').val] (fun _ => True) (V.bd (okS o) inferInstance).val := by
  refine ret_start1 Tryz.func52 rfl rfl rfl (fun w0 hw => ?_)
  refine vstart [(0, ov o a c a' c')] [] [] ?_
  refine vwith (pt := .run _) _ _ [] tabOk lent_nil fun go => ?_
  apply go 300
  repeat' (first | apply And.intro | intro _)
  all_goals try (first | (show Here _ _ _ _; try (exfalso; omega)) | exact trivial | omega | kernel_rfl | exact rfl)
  repeat' first
    | (refine vcall (v := .bd (inN o.count 0 16) inferInstance) rfl rfl (by kernel_rfl) (rfrom o.count 0 16) (by exact fun _ _ => trivial) ?_; (apply go 300; (repeat' (first | apply And.intro | intro _)); (all_goals try (first | (show Here _ _ _ _; try (exfalso; omega)) | exact trivial | omega | kernel_rfl | exact rfl))))
    | (refine vcall (v := .bd (inN o.surge 0 16) inferInstance) rfl rfl (by kernel_rfl) (rfrom o.surge 0 16) (by exact fun _ _ => trivial) ?_; (apply go 300; (repeat' (first | apply And.intro | intro _)); (all_goals try (first | (show Here _ _ _ _; try (exfalso; omega)) | exact trivial | omega | kernel_rfl | exact rfl))))
    | (refine vcall (v := .bd (inN o.slack 0 16) inferInstance) rfl rfl (by kernel_rfl) (rfrom o.slack 0 16) (by exact fun _ _ => trivial) ?_; (apply go 300; (repeat' (first | apply And.intro | intro _)); (all_goals try (first | (show Here _ _ _ _; try (exfalso; omega)) | exact trivial | omega | kernel_rfl | exact rfl))))
    | (clear go; exact vr1 rfl rfl (by first | (refine bd_bd ?_; unfold okS; grind) | (refine bd_t ?_; unfold okS; grind) | (refine bd_f ?_; unfold okS; grind)))
theorem rcounts3 (o : Oj) (a a' : Option Addr) (c c' : Nat) (h1 : o.kind ≠ 1) (h2 : o.kind ≠ 2) (h : o.kind = 3) (hz : SzM o) : RetIf Tryz.prog 52 [(ov o a c a' c').val] (fun w => LabAt w a o.labs) (V.bd (okS o) inferInstance).val := by
  refine ret_start1 Tryz.func52 rfl rfl rfl (fun w0 hw => ?_)
  refine vstart [(0, ov o a c a' c')] [] [] ?_
  refine vwith (pt := .run _) _ _ [] tabOk lent_nil fun go => ?_
  apply go 300
  repeat' (first | apply And.intro | intro _)
  all_goals try (first | (show Here _ _ _ _; try (exfalso; omega)) | exact trivial | omega | kernel_rfl | exact rfl)
  refine vdraw (flagsOf _) (by kernel_rfl) (by decide +kernel) (flags_len _) ?_
  apply go 300
  repeat' (first | apply And.intro | intro _)
  all_goals try (first | (show Here _ _ _ _; try (exfalso; omega)) | exact trivial | omega | kernel_rfl | exact rfl)
  refine vcallD (v := .bd (inN o.count 0 16) inferInstance) rfl rfl (by kernel_rfl) (rfrom o.count 0 16) (by exact fun _ _ => trivial) ?_
  apply go 300
  repeat' (first | apply And.intro | intro _)
  all_goals try (first | (show Here _ _ _ _; try (exfalso; omega)) | exact trivial | omega | kernel_rfl | exact rfl)
  · refine vcallD (v := .int .u64 (templH o)) rfl rfl (by kernel_rfl) (rTemplate o a a' c c' hz) (by exact fun _ h => hw.st h) ?_
    apply go 300
    repeat' (first | apply And.intro | intro _)
    all_goals try (first | (show Here _ _ _ _; try (exfalso; omega)) | exact trivial | omega | kernel_rfl | exact rfl)
    all_goals clear go
    all_goals exact vr1 rfl rfl (by first | (refine bd_bd ?_; unfold okS; grind) | (refine bd_t ?_; unfold okS; grind) | (refine bd_f ?_; unfold okS; grind))
  · clear go
    exact vr1 rfl rfl (by first | (refine bd_bd ?_; unfold okS; grind) | (refine bd_t ?_; unfold okS; grind) | (refine bd_f ?_; unfold okS; grind))
end Go.Fl
