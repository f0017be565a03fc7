/-
  What a statement of labels is told of an error: its number and its place. No condition.
-/
import Derived.Test.YtggbiiicoabkmaaDoorVl
import Derived.Test.YtggbiiicoabkmaaDoorErrHit
namespace Go.Fl
open Go.Proofs Go.RowKit
set_option maxRecDepth 10000
set_option maxHeartbeats 4000000

theorem num_id {n : Int} (h : 1 ≤ n ∧ n ≤ 36) : num n = n := if_pos h
theorem AtF (n k : Int) (hn : 1 ≤ n ∧ n ≤ 36) : RetIf Tryd.prog 51 [fault n k, .int .i64 n, .int .i64 k] Laid (.bool true) := by
  refine ret_start3 Tryd.func51 rfl rfl rfl (fun w hL => ?_)
  refine vstart [(0, .ifc 67 (.agg [.int .i64 n, .int .i64 k])), (1, .int .i64 n), (2, .int .i64 k)] [] [] ?_
  refine vwith (pt := .run _) _ _ [] tabOk lent_nil fun go => ?_
  apply go 300
  repeat' (first | apply And.intro | intro _)
  all_goals try (first | (show Here _ _ _ _; try (exfalso; omega)) | exact trivial | omega | kernel_rfl | exact rfl)
  refine vcall (v := .tup [.int .i64 k, .bd (n = num n) inferInstance]) rfl rfl (by kernel_rfl) (PlaceF n k) (by exact fun _ h => hL.st h) ?_
  apply go 300
  repeat' (first | apply And.intro | intro _)
  all_goals try (first | (show Here _ _ _ _; try (exfalso; omega)) | exact trivial | omega | kernel_rfl | exact rfl)
  refine vcall (v := .int .i64 (num n)) rfl rfl (by kernel_rfl) (Num _ _ n (isF n k)) (by exact fun _ _ => trivial) ?_
  rw [num_id hn]
  apply go 300
  repeat' (first | apply And.intro | intro _)
  all_goals try (first | (show Here _ _ _ _; try (exfalso; omega)) | exact trivial | omega | kernel_rfl | exact rfl)
  all_goals first
    | exact vr1 rfl rfl (by simp [V.val])
    | exact absurd rfl ‹_›
theorem toldN (no at_ : Int) (h : at_ < 0) : RetIf Tryd.prog 25 [.nilIface, .int .i64 no, .int .i64 at_] Laid (.bool (decide (0 = no))) := by
  refine ret_start3 Tryd.func25 rfl rfl rfl (fun w hL => ?_)
  refine vstart [(0, .raw .nilIface), (1, .int .i64 no), (2, .int .i64 at_)] [] [] ?_
  refine vwith (pt := .run _) _ _ [] tabOk lent_nil fun go => ?_
  apply go 300
  repeat' (first | apply And.intro | intro _)
  all_goals try (first | (show Here _ _ _ _; try (exfalso; omega)) | exact trivial | omega | kernel_rfl | exact rfl)
  refine vcall (v := .bd (0 = no) inferInstance) rfl rfl (by kernel_rfl) (plainN no) (by exact fun _ h => trivial) ?_
  apply go 300
  repeat' (first | apply And.intro | intro _)
  all_goals try (first | (show Here _ _ _ _; try (exfalso; omega)) | exact trivial | omega | kernel_rfl | exact rfl)
  exact vr1 rfl rfl rfl
theorem toldE (n no at_ : Int) (h : at_ < 0) : RetIf Tryd.prog 25 [errno n, .int .i64 no, .int .i64 at_] Laid (.bool (decide (num n = no))) := by
  refine ret_start3 Tryd.func25 rfl rfl rfl (fun w hL => ?_)
  refine vstart [(0, .ifc 63 (.int .i64 n)), (1, .int .i64 no), (2, .int .i64 at_)] [] [] ?_
  refine vwith (pt := .run _) _ _ [] tabOk lent_nil fun go => ?_
  apply go 300
  repeat' (first | apply And.intro | intro _)
  all_goals try (first | (show Here _ _ _ _; try (exfalso; omega)) | exact trivial | omega | kernel_rfl | exact rfl)
  refine vcall (v := .bd (num n = no) inferInstance) rfl rfl (by kernel_rfl) (plainE n no) (by exact fun _ h => hL.st h) ?_
  apply go 300
  repeat' (first | apply And.intro | intro _)
  all_goals try (first | (show Here _ _ _ _; try (exfalso; omega)) | exact trivial | omega | kernel_rfl | exact rfl)
  exact vr1 rfl rfl rfl
theorem toldF (n k : Int) (hn : 1 ≤ n ∧ n ≤ 36) (h : 0 ≤ k) : RetIf Tryd.prog 25 [fault n k, .int .i64 n, .int .i64 k] Laid (.bool true) := by
  refine ret_start3 Tryd.func25 rfl rfl rfl (fun w hL => ?_)
  refine vstart [(0, .ifc 67 (.agg [.int .i64 n, .int .i64 k])), (1, .int .i64 n), (2, .int .i64 k)] [] [] ?_
  refine vwith (pt := .run _) _ _ [] tabOk lent_nil fun go => ?_
  apply go 300
  repeat' (first | apply And.intro | intro _)
  all_goals try (first | (show Here _ _ _ _; try (exfalso; omega)) | exact trivial | omega | kernel_rfl | exact rfl)
  refine vcall (v := .bl true) rfl rfl (by kernel_rfl) (AtF n k hn) (by exact fun _ h => hL.st h) ?_
  apply go 300
  repeat' (first | apply And.intro | intro _)
  all_goals try (first | (show Here _ _ _ _; try (exfalso; omega)) | exact trivial | omega | kernel_rfl | exact rfl)
  exact vr1 rfl rfl rfl
end Go.Fl
