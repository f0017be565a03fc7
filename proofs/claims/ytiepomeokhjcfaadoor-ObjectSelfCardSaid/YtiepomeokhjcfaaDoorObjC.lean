/-
  What is wrong with an object: its parts. No condition.
-/
import Derived.Test.YtiepomeokhjcfaaDoorObjA
import Derived.Test.YtiepomeokhjcfaaDoorObjT
import Derived.Test.YtiepomeokhjcfaaDoorErrW
namespace Go.Fl
open Go.Proofs Go.RowKit
set_option maxRecDepth 10000
set_option maxHeartbeats 40000000

theorem tl_empty : tl ⟨#[]⟩ = [] := rfl
/-- An object's error, or none. -/
def wV (n : Int) (t : ByteArray) : Go.Value := if n = 0 then .nilIface else wrongV n t
def WPost (n : Int) (v : Go.Value) (_ : Hs) : Prop := ∃ t, v = wV n t
theorem wpost0 {n : Int} {bs : Hs} (h : n = 0) : WPost n (V.raw .nilIface).val bs := ⟨⟨#[]⟩, by unfold wV; rw [if_pos h]; rfl⟩
theorem wpost1 {n m : Int} {bs : Hs} {t : ByteArray} (h : m = n) (h0 : n ≠ 0) : WPost m (V.ifc 81 (.agg [.int .i64 n, .str t])).val bs := ⟨t, by unfold wV; rw [h, if_neg h0]; rfl⟩
theorem checkNode (o : Oj) (a a' : Option Addr) (c c' : Nat) : Con Tryd.prog 77 [(ov o a c a' c').val] [] (fun _ => True) (WPost (chkNode o)) := by
  refine con_start1 Tryd.func77 rfl rfl rfl (fun w0 hw => ?_)
  refine vstart [(0, ov o a c a' c')] [] [] ?_
  refine vwith (pt := .run _) _ _ [] tabOk lent_nil fun go => ?_
  apply go 300
  repeat' (first | apply And.intro | intro _)
  all_goals try (first | (show Here _ _ _ _; try (exfalso; omega)) | exact trivial | omega | kernel_rfl | exact rfl)
  all_goals repeat' (first
    | (refine vcall (v := .bd (rightA o.rcpu o.rmem) inferInstance) rfl rfl (by kernel_rfl) (RightA o.rcpu o.rmem) (by exact fun _ _ => trivial) ?_; apply go 300; repeat' (first | apply And.intro | intro _); all_goals try (first | (show Here _ _ _ _; try (exfalso; omega)) | exact trivial | omega | kernel_rfl | exact rfl))
    | exact vc1 (bs := []) rfl rfl (List.nil_sublist _) (wpost0 (by unfold chkNode; simp_all))
    | exact vc1 (bs := []) rfl rfl (List.nil_sublist _) (wpost1 (n := 13) (by unfold chkNode; simp_all) (by decide))
    | exact vc1 (bs := []) rfl rfl (List.nil_sublist _) (wpost1 (n := 1) (by unfold chkNode; simp_all) (by decide)))
theorem errOf_cases (x : Int × Int) : (x.1 = 0 ∧ errOf x = (V.raw .nilIface).val) ∨ (x.1 ≠ 0 ∧ ((∃ n, errOf x = (V.ifc 79 (.int .i64 n)).val) ∨ ∃ n k, errOf x = (V.ifc 87 (.agg [.int .i64 n, .int .i64 k])).val)) := by
  unfold errOf
  by_cases h : x.1 = 0
  · rw [if_pos h]; exact Or.inl ⟨h, rfl⟩
  · rw [if_neg h]
    split
    · exact Or.inr ⟨h, Or.inl ⟨_, rfl⟩⟩
    · exact Or.inr ⟨h, Or.inr ⟨_, _, rfl⟩⟩
theorem checkBudget (o : Oj) (a a' : Option Addr) (c c' : Nat) : Con Tryd.prog 78 [(ov o a c a' c').val] [] (fun w => LabAt w a' o.sel) (WPost (chkBudget o)) := by
  refine con_start1 Tryd.func78 rfl rfl rfl (fun w0 hw => ?_)
  have hC := Check o.sel a' c'
  refine vstart [(0, ov o a c a' c')] [] [] ?_
  refine vwith (pt := .run _) _ _ [] tabOk lent_nil fun go => ?_
  apply go 300
  repeat' (first | apply And.intro | intro _)
  all_goals try (first | (show Here _ _ _ _; try (exfalso; omega)) | exact trivial | omega | kernel_rfl | exact rfl)
  rcases errOf_cases (chk o.sel) with ⟨h0, he⟩ | ⟨h0, ⟨n, he⟩ | ⟨n, k, he⟩⟩ <;> rw [he] at hC
  all_goals repeat' (first
    | (refine vcall (v := .raw .nilIface) rfl rfl (by kernel_rfl) hC (by exact fun _ h => hw.st h) ?_; apply go 300; repeat' (first | apply And.intro | intro _); all_goals try (first | (show Here _ _ _ _; try (exfalso; omega)) | exact trivial | omega | kernel_rfl | exact rfl))
    | (refine vcall (v := .ifc 79 (.int .i64 n)) rfl rfl (by kernel_rfl) hC (by exact fun _ h => hw.st h) ?_; apply go 300; repeat' (first | apply And.intro | intro _); all_goals try (first | (show Here _ _ _ _; try (exfalso; omega)) | exact trivial | omega | kernel_rfl | exact rfl))
    | (refine vcall (v := .ifc 87 (.agg [.int .i64 n, .int .i64 k])) rfl rfl (by kernel_rfl) hC (by exact fun _ h => hw.st h) ?_; apply go 300; repeat' (first | apply And.intro | intro _); all_goals try (first | (show Here _ _ _ _; try (exfalso; omega)) | exact trivial | omega | kernel_rfl | exact rfl))
    | (refine vcall (v := .bd (inN o.least 0 64) inferInstance) rfl rfl (by kernel_rfl) (within o.least 0 64) (by exact fun _ _ => trivial) ?_; apply go 300; repeat' (first | apply And.intro | intro _); all_goals try (first | (show Here _ _ _ _; try (exfalso; omega)) | exact trivial | omega | kernel_rfl | exact rfl))
    | exact vc1 (bs := []) rfl rfl (List.nil_sublist _) (wpost0 (by unfold chkBudget; simp_all))
    | exact vc1 (bs := []) rfl rfl (List.nil_sublist _) (wpost1 (n := 12) (by unfold chkBudget; simp_all) (by decide))
    | exact vc1 (bs := []) rfl rfl (List.nil_sublist _) (wpost1 (n := 1) (by unfold chkBudget; simp_all) (by decide)))
theorem checkLease (o : Oj) (a a' : Option Addr) (c c' : Nat) : Con Tryd.prog 79 [(ov o a c a' c').val] [] (fun _ => True) (WPost (chkLease o)) := by
  refine con_start1 Tryd.func79 rfl rfl rfl (fun w0 hw => ?_)
  refine vstart [(0, ov o a c a' c')] [] [] ?_
  refine vwith (pt := .run _) _ _ [] tabOk lent_nil fun go => ?_
  apply go 300
  repeat' (first | apply And.intro | intro _)
  all_goals try (first | (show Here _ _ _ _; try (exfalso; omega)) | exact trivial | omega | kernel_rfl | exact rfl)
  all_goals repeat' (first
    | (refine vcall (v := .bd (nameL (tl o.holder) = true) inferInstance) rfl rfl (by kernel_rfl) ((NameA o.holder).bd) (by exact fun _ _ => trivial) ?_; apply go 300; repeat' (first | apply And.intro | intro _); all_goals try (first | (show Here _ _ _ _; try (exfalso; omega)) | exact trivial | omega | kernel_rfl | exact rfl))
    | exact vc1 (bs := []) rfl rfl (List.nil_sublist _) (wpost0 (by unfold chkLease; simp_all))
    | exact vc1 (bs := []) rfl rfl (List.nil_sublist _) (wpost1 (n := 8) (by unfold chkLease; simp_all) (by decide))
    | exact vc1 (bs := []) rfl rfl (List.nil_sublist _) (wpost1 (n := 1) (by unfold chkLease; simp_all) (by decide)))
end Go.Fl
