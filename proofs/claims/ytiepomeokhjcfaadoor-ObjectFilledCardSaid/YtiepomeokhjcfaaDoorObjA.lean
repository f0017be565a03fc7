/-
  Objects: small functions. No condition.
-/
import Derived.Test.YtiepomeokhjcfaaDoorObj
import Derived.Test.YtiepomeokhjcfaaDoorVr
import Derived.Test.YtiepomeokhjcfaaDoorCloneW
namespace Go.Fl
open Go.Proofs Go.RowKit
set_option maxRecDepth 10000
set_option maxHeartbeats 4000000

theorem within (n low high : Int) : RetIf Tryd.prog 74 [.int .i64 n, .int .i64 low, .int .i64 high] (fun _ => True) (V.bd (inN n low high) inferInstance).val := by
  refine ret_start3 Tryd.func74 rfl rfl rfl (fun w0 hw => ?_)
  refine vstart [(0, .int .i64 n), (1, .int .i64 low), (2, .int .i64 high)] [] [] ?_
  refine vwith (pt := .run _) _ _ [] tabOk lent_nil fun go => ?_
  apply go 300
  repeat' (first | apply And.intro | intro _)
  all_goals try (first | (show Here _ _ _ _; try (exfalso; omega)) | exact trivial | omega | kernel_rfl | exact rfl)
  all_goals exact vr1 rfl rfl (by first | (refine bd_bd ?_; unfold inN; omega) | (refine bd_t ?_; unfold inN; omega) | (refine bd_f ?_; unfold inN; omega))
theorem RightA (c m : Int) : RetIf Tryd.prog 105 [.agg #[.int .i64 c, .int .i64 m]] (fun _ => True) (V.bd (rightA c m) inferInstance).val := by
  refine ret_start1 Tryd.func105 rfl rfl rfl (fun w0 hw => ?_)
  refine vstart [(0, .agg [.int .i64 c, .int .i64 m])] [] [] ?_
  refine vwith (pt := .run _) _ _ [] tabOk lent_nil fun go => ?_
  apply go 300
  repeat' (first | apply And.intro | intro _)
  all_goals try (first | (show Here _ _ _ _; try (exfalso; omega)) | exact trivial | omega | kernel_rfl | exact rfl)
  all_goals exact vr1 rfl rfl (by first | (refine bd_bd ?_; unfold rightA; omega) | (refine bd_t ?_; unfold rightA; omega) | (refine bd_f ?_; unfold rightA; omega))
theorem KeyOf (o : Oj) (x y : Option Addr) (c d : Nat) : RetIf Tryd.prog 21 [(ov o x c y d).val] (fun _ => True) (V.agg [.int .i64 o.kind, .str o.name]).val := by
  refine ret_start1 Tryd.func21 rfl rfl rfl (fun w0 hw => ?_)
  refine vstart [(0, ov o x c y d)] [] [] ?_
  refine vwith (pt := .run _) _ _ [] tabOk lent_nil fun go => ?_
  apply go 300
  repeat' (first | apply And.intro | intro _)
  all_goals try (first | (show Here _ _ _ _; try (exfalso; omega)) | exact trivial | omega | kernel_rfl | exact rfl)
  all_goals exact vrc1 tabOk (by exact rfl) (by exact rfl) (by exact rfl) (by exact rfl) (by exact rfl) (by exact rfl)
theorem or2 (x : Int) (b : Nat) : RetIf Tryd.prog 42 [.slice (some ⟨b, 0, none⟩) 2 2] (fun w => Reads w ⟨b, 0, none⟩ [.int .i64 x, .int .i64 1]) (.int .i64 (or1 x)) := by
  refine ret_start1 Tryd.func42 rfl rfl rfl (fun w0 hw => ?_)
  refine vstart [(0, .sl false 0 b 0 1 none 2 2)] [] [] ?_
  refine vwith (pt := .run _) _ _ [⟨b, 0, .var [.int .i64 x, .int .i64 1]⟩] tabOk (lent_cons List.not_mem_nil hw lent_nil) fun go => ?_
  apply go 300
  repeat' (first | apply And.intro | intro _)
  all_goals try (first | (show Here _ _ _ _; try (exfalso; omega)) | exact trivial | omega | kernel_rfl | exact rfl)
  refine vloop ?_
  apply go 300
  repeat' (first | apply And.intro | intro _)
  all_goals try (first | (show Here _ _ _ _; try (exfalso; omega)) | exact trivial | omega | kernel_rfl | exact rfl)
  · rename_i h
    exact vr1 rfl rfl (by unfold or1; rw [if_pos (show x ≠ 0 from h)]; rfl)
  rename_i h
  refine vagain ?_
  apply go 300
  repeat' (first | apply And.intro | intro _)
  all_goals try (first | (show Here _ _ _ _; try (exfalso; omega)) | exact trivial | omega | kernel_rfl | exact rfl)
  exact vr1 rfl rfl (by unfold or1; rw [if_neg (show ¬ x ≠ 0 from h)]; rfl)
theorem bare (a b : Oj) (x y x' y' : Option Addr) (c d c' d' : Nat) : RetIf Tryd.prog 45 [(ov a x c y d).val, (ov b x' c' y' d').val] (fun _ => True) (V.bd (bareP a b) inferInstance).val := by
  refine ret_start2 Tryd.func45 rfl rfl rfl (fun w0 hw => ?_)
  refine vstart [(0, ov a x c y d), (1, ov b x' c' y' d')] [] [] ?_
  refine vwith (pt := .run _) _ _ [] tabOk lent_nil fun go => ?_
  apply go 700
  repeat' (first | apply And.intro | intro _)
  all_goals try (first | (show Here _ _ _ _; try (exfalso; omega)) | exact trivial | omega | kernel_rfl | exact rfl)
  all_goals exact vr1 rfl rfl (by first | (refine bd_bd ?_; unfold bareP; simp_all) | (refine bd_t ?_; unfold bareP; simp_all) | (refine bd_f ?_; unfold bareP; simp_all))
end Go.Fl
