/-
  What is wrong with an object: what is like pods. No condition.
-/
import Derived.Test.YtiepomeokhjcfaaGreatDoorObjA
import Derived.Test.YtiepomeokhjcfaaGreatDoorObjT
import Derived.Test.YtiepomeokhjcfaaGreatDoorErrW
namespace Go.Fl
open Go.Proofs Go.RowKit
set_option maxRecDepth 10000
set_option maxHeartbeats 40000000

theorem tl_empty : tl ⟨#[]⟩ = [] := rfl
/-- An object's error, or none. -/
def wV (n : Int) (t : ByteArray) : Go.Value := if n = 0 then .nilIface else wrongV n t
def WPost (n : Int) (v : Go.Value) (_ : Hs) : Prop := ∃ t, v = wV n t
theorem wpost0 {n : Int} {bs : Hs} (h : n = 0) : WPost n (V.raw .nilIface).val bs := ⟨⟨#[]⟩, by unfold wV; rw [if_pos h]; rfl⟩
theorem wpost1 {n m : Int} {bs : Hs} {t : ByteArray} (h : m = n) (h0 : n ≠ 0) : WPost m (V.ifc 86 (.agg [.int .i64 n, .str t])).val bs := ⟨t, by unfold wV; rw [h, if_neg h0]; rfl⟩
theorem checkNode (o : Oj) (a a' : Option Addr) (c c' : Nat) : Con Tryz.prog 112 [(ov o a c a' c').val] [] (fun _ => True) (WPost (chkNode o)) := by
  refine con_start1 Tryz.func112 rfl rfl rfl (fun w0 hw => ?_)
  refine vstart [(0, ov o a c a' c')] [] [] ?_
  refine vwith (pt := .run _) _ _ [] tabOk lent_nil fun go => ?_
  apply go 300
  repeat' (first | apply And.intro | intro _)
  all_goals try (first | (show Here _ _ _ _; try (exfalso; omega)) | exact trivial | omega | kernel_rfl | exact rfl)
  all_goals repeat' (first
    | (refine vcall (v := .bd (rightA o.rcpu o.rmem) inferInstance) rfl rfl (by kernel_rfl) (RightA o.rcpu o.rmem) (by exact fun _ _ => trivial) ?_; apply go 300; repeat' (first | apply And.intro | intro _); all_goals try (first | (show Here _ _ _ _; try (exfalso; omega)) | exact trivial | omega | kernel_rfl | exact rfl))
    | exact vc1 (bs := []) rfl rfl (List.nil_sublist _) (wpost0 (by unfold chkNode; simp_all))
    | exact vc1 (bs := []) rfl rfl (List.nil_sublist _) (wpost1 (n := 13) (by unfold chkNode; simp_all) (by decide))
    | exact vc1 (bs := []) rfl rfl (List.nil_sublist _) (wpost1 (n := 1) (by unfold chkNode; simp_all) (by decide)))
theorem errOf_cases (x : Int × Int) : (x.1 = 0 ∧ errOf x = (V.raw .nilIface).val) ∨ (x.1 ≠ 0 ∧ ((∃ n, errOf x = (V.ifc 79 (.int .i64 n)).val) ∨ ∃ n k, errOf x = (V.ifc 81 (.agg [.int .i64 n, .int .i64 k])).val)) := by
  unfold errOf
  by_cases h : x.1 = 0
  · rw [if_pos h]; exact Or.inl ⟨h, rfl⟩
  · rw [if_neg h]
    split
    · exact Or.inr ⟨h, Or.inl ⟨_, rfl⟩⟩
    · exact Or.inr ⟨h, Or.inr ⟨_, _, rfl⟩⟩
theorem checkBudget (o : Oj) (a a' : Option Addr) (c c' : Nat) : Con Tryz.prog 113 [(ov o a c a' c').val] [] (fun w => LabAt w a' o.sel) (WPost (chkBudget o)) := by
  refine con_start1 Tryz.func113 rfl rfl rfl (fun w0 hw => ?_)
  have hC := Check o.sel a' c'
  refine vstart [(0, ov o a c a' c')] [] [] ?_
  refine vwith (pt := .run _) _ _ [] tabOk lent_nil fun go => ?_
  apply go 300
  repeat' (first | apply And.intro | intro _)
  all_goals try (first | (show Here _ _ _ _; try (exfalso; omega)) | exact trivial | omega | kernel_rfl | exact rfl)
  rcases errOf_cases (chk o.sel) with ⟨h0, he⟩ | ⟨h0, ⟨n, he⟩ | ⟨n, k, he⟩⟩ <;> rw [he] at hC
  all_goals repeat' (first
    | (refine vcall (v := .raw .nilIface) rfl rfl (by kernel_rfl) hC (by exact fun _ h => hw.st h) ?_; apply go 300; repeat' (first | apply And.intro | intro _); all_goals try (first | (show Here _ _ _ _; try (exfalso; omega)) | exact trivial | omega | kernel_rfl | exact rfl))
    | (refine vcall (v := .ifc 79 (.int .i64 n)) rfl rfl (by kernel_rfl) hC (by exact fun _ h => hw.st h) ?_; apply go 300; repeat' (first | apply And.intro | intro _); all_goals try (first | (show Here _ _ _ _; try (exfalso; omega)) | exact trivial | omega | kernel_rfl | exact rfl))
    | (refine vcall (v := .ifc 81 (.agg [.int .i64 n, .int .i64 k])) rfl rfl (by kernel_rfl) hC (by exact fun _ h => hw.st h) ?_; apply go 300; repeat' (first | apply And.intro | intro _); all_goals try (first | (show Here _ _ _ _; try (exfalso; omega)) | exact trivial | omega | kernel_rfl | exact rfl))
    | (refine vcall (v := .bd (inN o.least 0 64) inferInstance) rfl rfl (by kernel_rfl) (within o.least 0 64) (by exact fun _ _ => trivial) ?_; apply go 300; repeat' (first | apply And.intro | intro _); all_goals try (first | (show Here _ _ _ _; try (exfalso; omega)) | exact trivial | omega | kernel_rfl | exact rfl))
    | exact vc1 (bs := []) rfl rfl (List.nil_sublist _) (wpost0 (by unfold chkBudget; simp_all))
    | exact vc1 (bs := []) rfl rfl (List.nil_sublist _) (wpost1 (n := 12) (by unfold chkBudget; simp_all) (by decide))
    | exact vc1 (bs := []) rfl rfl (List.nil_sublist _) (wpost1 (n := 1) (by unfold chkBudget; simp_all) (by decide)))
theorem checkLease (o : Oj) (a a' : Option Addr) (c c' : Nat) : Con Tryz.prog 114 [(ov o a c a' c').val] [] (fun _ => True) (WPost (chkLease o)) := by
  refine con_start1 Tryz.func114 rfl rfl rfl (fun w0 hw => ?_)
  refine vstart [(0, ov o a c a' c')] [] [] ?_
  refine vwith (pt := .run _) _ _ [] tabOk lent_nil fun go => ?_
  apply go 300
  repeat' (first | apply And.intro | intro _)
  all_goals try (first | (show Here _ _ _ _; try (exfalso; omega)) | exact trivial | omega | kernel_rfl | exact rfl)
  all_goals repeat' (first
    | (refine vcall (v := .bd (nameL (tl o.holder) = true) inferInstance) rfl rfl (by kernel_rfl) ((NameA o.holder).bd) (by exact fun _ _ => trivial) ?_; apply go 300; repeat' (first | apply And.intro | intro _); all_goals try (first | (show Here _ _ _ _; try (exfalso; omega)) | exact trivial | omega | kernel_rfl | exact rfl))
    | exact vc1 (bs := []) rfl rfl (List.nil_sublist _) (wpost0 (by unfold chkLease; simp_all))
    | exact vc1 (bs := []) rfl rfl (List.nil_sublist _) (wpost1 (n := 8) (by unfold chkLease; simp_all) (by decide))
    | exact vc1 (bs := []) rfl rfl (List.nil_sublist _) (wpost1 (n := 1) (by unfold chkLease; simp_all) (by decide)))
end Go.Fl

namespace Go.Fl
open Go.Proofs Go.RowKit
set_option maxRecDepth 10000
set_option maxHeartbeats 40000000

theorem likes1 (o : Oj) (a a' : Option Addr) (c c' : Nat) (hn : o.labs.length ≤ 4398046511000) (hsz : Sz o) (h : o.kind = 1) : Con Tryz.prog 115 [(ov o a c a' c').val] [] (fun w => LabAt w a o.labs) (WPost (chkLikes o)) := by
  have e : chkLikes o = (if nameL (tl o.set) = false ∨ (tl o.node ≠ [] ∧ nameL (tl o.node) = false) then 8 else if nameL (tl o.dep) = false then 8 else chkRest o) := by unfold chkLikes; rw [if_pos h]
  have ek : okS o ↔ ((o.phase = 0 ∧ o.ready = false) ∨ (o.phase = 1 ∧ tl o.node ≠ [] ∧ ¬ (o.ready = true ∧ o.ending = true))) := by unfold okS; rw [if_pos h]
  rw [e]
  unfold chkRest
  refine con_start1 Tryz.func115 rfl rfl rfl (fun w0 hw => ?_)
  refine vstart [(0, ov o a c a' c')] [] [] ?_
  refine vwith (pt := .run _) _ _ [] tabOk lent_nil fun go => ?_
  apply go 300
  repeat' (first | apply And.intro | intro _)
  all_goals try (first | (show Here _ _ _ _; try (exfalso; omega)) | exact trivial | omega | kernel_rfl | exact rfl)
  all_goals repeat' (first
    | (refine vcall (v := .bd (nameL (tl o.set) = true) inferInstance) rfl rfl (by kernel_rfl) ((NameA o.set).bd) (by exact fun _ _ => trivial) ?_; apply go 300; repeat' (first | apply And.intro | intro _); all_goals try (first | (show Here _ _ _ _; try (exfalso; omega)) | exact trivial | omega | kernel_rfl | exact rfl))
    | (refine vcall (v := .bd (nameL (tl o.node) = true) inferInstance) rfl rfl (by kernel_rfl) ((NameA o.node).bd) (by exact fun _ _ => trivial) ?_; apply go 300; repeat' (first | apply And.intro | intro _); all_goals try (first | (show Here _ _ _ _; try (exfalso; omega)) | exact trivial | omega | kernel_rfl | exact rfl))
    | (refine vcall (v := .bd (nameL (tl o.dep) = true) inferInstance) rfl rfl (by kernel_rfl) ((NameA o.dep).bd) (by exact fun _ _ => trivial) ?_; apply go 300; repeat' (first | apply And.intro | intro _); all_goals try (first | (show Here _ _ _ _; try (exfalso; omega)) | exact trivial | omega | kernel_rfl | exact rfl))
    | (refine vcall (v := .bd (rightA o.ncpu o.nmem) inferInstance) rfl rfl (by kernel_rfl) (RightA o.ncpu o.nmem) (by exact fun _ _ => trivial) ?_; apply go 300; repeat' (first | apply And.intro | intro _); all_goals try (first | (show Here _ _ _ _; try (exfalso; omega)) | exact trivial | omega | kernel_rfl | exact rfl))
    | (refine vcall (v := .bd (valueL (tl o.image) = true) inferInstance) rfl rfl (by kernel_rfl) ((Value o.image).bd) (by exact fun _ _ => trivial) ?_; apply go 300; repeat' (first | apply And.intro | intro _); all_goals try (first | (show Here _ _ _ _; try (exfalso; omega)) | exact trivial | omega | kernel_rfl | exact rfl))
    | (refine vcall (v := .bd (inN o.rise 1 8) inferInstance) rfl rfl (by kernel_rfl) (within o.rise 1 8) (by exact fun _ _ => trivial) ?_; apply go 300; repeat' (first | apply And.intro | intro _); all_goals try (first | (show Here _ _ _ _; try (exfalso; omega)) | exact trivial | omega | kernel_rfl | exact rfl))
    | (refine vcall (v := .bd (inN o.fall 1 8) inferInstance) rfl rfl (by kernel_rfl) (within o.fall 1 8) (by exact fun _ _ => trivial) ?_; apply go 300; repeat' (first | apply And.intro | intro _); all_goals try (first | (show Here _ _ _ _; try (exfalso; omega)) | exact trivial | omega | kernel_rfl | exact rfl))
    | (refine vcall (v := .bd (inN o.count 0 16) inferInstance) rfl rfl (by kernel_rfl) (within o.count 0 16) (by exact fun _ _ => trivial) ?_; apply go 300; repeat' (first | apply And.intro | intro _); all_goals try (first | (show Here _ _ _ _; try (exfalso; omega)) | exact trivial | omega | kernel_rfl | exact rfl))
    | (refine vcall (v := .bd (inN o.surge 0 16) inferInstance) rfl rfl (by kernel_rfl) (within o.surge 0 16) (by exact fun _ _ => trivial) ?_; apply go 300; repeat' (first | apply And.intro | intro _); all_goals try (first | (show Here _ _ _ _; try (exfalso; omega)) | exact trivial | omega | kernel_rfl | exact rfl))
    | (refine vcall (v := .bd (inN o.slack 0 16) inferInstance) rfl rfl (by kernel_rfl) (within o.slack 0 16) (by exact fun _ _ => trivial) ?_; apply go 300; repeat' (first | apply And.intro | intro _); all_goals try (first | (show Here _ _ _ _; try (exfalso; omega)) | exact trivial | omega | kernel_rfl | exact rfl))
    | (refine vdraw (flagsOf _) (by kernel_rfl) (by decide +kernel) (flags_len _) ?_; apply go 300; repeat' (first | apply And.intro | intro _); all_goals try (first | (show Here _ _ _ _; try (exfalso; omega)) | exact trivial | omega | kernel_rfl | exact rfl))
    | (refine vcallD (v := .int .u64 (templH o)) rfl rfl (by kernel_rfl) (Template o a a' c c' hn hsz) (by exact fun _ h => hw.st h) ?_; apply go 300; repeat' (first | apply And.intro | intro _); all_goals try (first | (show Here _ _ _ _; try (exfalso; omega)) | exact trivial | omega | kernel_rfl | exact rfl))
    | (unfold inI64; omega)
    | exact vc1 (bs := []) rfl rfl (List.nil_sublist _) (wpost0 (by (repeat' split) <;> first | rfl | (exfalso; omega) | (simp only [ek, tl_empty] at *; first | (exfalso; omega) | (exfalso; simp_all; done) | (exfalso; simp_all; omega))))
    | exact vc1 (bs := []) rfl rfl (List.nil_sublist _) (wpost1 (n := 8) (by (repeat' split) <;> first | rfl | (exfalso; omega) | (simp only [ek, tl_empty] at *; first | (exfalso; omega) | (exfalso; simp_all; done) | (exfalso; simp_all; omega))) (by decide))
    | exact vc1 (bs := []) rfl rfl (List.nil_sublist _) (wpost1 (n := 13) (by (repeat' split) <;> first | rfl | (exfalso; omega) | (simp only [ek, tl_empty] at *; first | (exfalso; omega) | (exfalso; simp_all; done) | (exfalso; simp_all; omega))) (by decide))
    | exact vc1 (bs := []) rfl rfl (List.nil_sublist _) (wpost1 (n := 14) (by (repeat' split) <;> first | rfl | (exfalso; omega) | (simp only [ek, tl_empty] at *; first | (exfalso; omega) | (exfalso; simp_all; done) | (exfalso; simp_all; omega))) (by decide)))
theorem likes3 (o : Oj) (a a' : Option Addr) (c c' : Nat) (hn : o.labs.length ≤ 4398046511000) (hsz : Sz o) (h : o.kind = 3) : Con Tryz.prog 115 [(ov o a c a' c').val] [] (fun w => LabAt w a o.labs) (WPost (chkLikes o)) := by
  have e : chkLikes o = (if nameL (tl o.dep) = false then 8 else chkRest o) := by unfold chkLikes; rw [if_neg (by omega), if_pos h]
  have ek : okS o ↔ (inN o.count 0 16 ∧ o.hash = templH o) := by unfold okS; rw [if_neg (by omega), if_neg (by omega), if_pos h]
  rw [e]
  unfold chkRest
  refine con_start1 Tryz.func115 rfl rfl rfl (fun w0 hw => ?_)
  refine vstart [(0, ov o a c a' c')] [] [] ?_
  refine vwith (pt := .run _) _ _ [] tabOk lent_nil fun go => ?_
  apply go 300
  repeat' (first | apply And.intro | intro _)
  all_goals try (first | (show Here _ _ _ _; try (exfalso; omega)) | exact trivial | omega | kernel_rfl | exact rfl)
  all_goals repeat' (first
    | (refine vcall (v := .bd (nameL (tl o.set) = true) inferInstance) rfl rfl (by kernel_rfl) ((NameA o.set).bd) (by exact fun _ _ => trivial) ?_; apply go 300; repeat' (first | apply And.intro | intro _); all_goals try (first | (show Here _ _ _ _; try (exfalso; omega)) | exact trivial | omega | kernel_rfl | exact rfl))
    | (refine vcall (v := .bd (nameL (tl o.node) = true) inferInstance) rfl rfl (by kernel_rfl) ((NameA o.node).bd) (by exact fun _ _ => trivial) ?_; apply go 300; repeat' (first | apply And.intro | intro _); all_goals try (first | (show Here _ _ _ _; try (exfalso; omega)) | exact trivial | omega | kernel_rfl | exact rfl))
    | (refine vcall (v := .bd (nameL (tl o.dep) = true) inferInstance) rfl rfl (by kernel_rfl) ((NameA o.dep).bd) (by exact fun _ _ => trivial) ?_; apply go 300; repeat' (first | apply And.intro | intro _); all_goals try (first | (show Here _ _ _ _; try (exfalso; omega)) | exact trivial | omega | kernel_rfl | exact rfl))
    | (refine vcall (v := .bd (rightA o.ncpu o.nmem) inferInstance) rfl rfl (by kernel_rfl) (RightA o.ncpu o.nmem) (by exact fun _ _ => trivial) ?_; apply go 300; repeat' (first | apply And.intro | intro _); all_goals try (first | (show Here _ _ _ _; try (exfalso; omega)) | exact trivial | omega | kernel_rfl | exact rfl))
    | (refine vcall (v := .bd (valueL (tl o.image) = true) inferInstance) rfl rfl (by kernel_rfl) ((Value o.image).bd) (by exact fun _ _ => trivial) ?_; apply go 300; repeat' (first | apply And.intro | intro _); all_goals try (first | (show Here _ _ _ _; try (exfalso; omega)) | exact trivial | omega | kernel_rfl | exact rfl))
    | (refine vcall (v := .bd (inN o.rise 1 8) inferInstance) rfl rfl (by kernel_rfl) (within o.rise 1 8) (by exact fun _ _ => trivial) ?_; apply go 300; repeat' (first | apply And.intro | intro _); all_goals try (first | (show Here _ _ _ _; try (exfalso; omega)) | exact trivial | omega | kernel_rfl | exact rfl))
    | (refine vcall (v := .bd (inN o.fall 1 8) inferInstance) rfl rfl (by kernel_rfl) (within o.fall 1 8) (by exact fun _ _ => trivial) ?_; apply go 300; repeat' (first | apply And.intro | intro _); all_goals try (first | (show Here _ _ _ _; try (exfalso; omega)) | exact trivial | omega | kernel_rfl | exact rfl))
    | (refine vcall (v := .bd (inN o.count 0 16) inferInstance) rfl rfl (by kernel_rfl) (within o.count 0 16) (by exact fun _ _ => trivial) ?_; apply go 300; repeat' (first | apply And.intro | intro _); all_goals try (first | (show Here _ _ _ _; try (exfalso; omega)) | exact trivial | omega | kernel_rfl | exact rfl))
    | (refine vcall (v := .bd (inN o.surge 0 16) inferInstance) rfl rfl (by kernel_rfl) (within o.surge 0 16) (by exact fun _ _ => trivial) ?_; apply go 300; repeat' (first | apply And.intro | intro _); all_goals try (first | (show Here _ _ _ _; try (exfalso; omega)) | exact trivial | omega | kernel_rfl | exact rfl))
    | (refine vcall (v := .bd (inN o.slack 0 16) inferInstance) rfl rfl (by kernel_rfl) (within o.slack 0 16) (by exact fun _ _ => trivial) ?_; apply go 300; repeat' (first | apply And.intro | intro _); all_goals try (first | (show Here _ _ _ _; try (exfalso; omega)) | exact trivial | omega | kernel_rfl | exact rfl))
    | (refine vdraw (flagsOf _) (by kernel_rfl) (by decide +kernel) (flags_len _) ?_; apply go 300; repeat' (first | apply And.intro | intro _); all_goals try (first | (show Here _ _ _ _; try (exfalso; omega)) | exact trivial | omega | kernel_rfl | exact rfl))
    | (refine vcallD (v := .int .u64 (templH o)) rfl rfl (by kernel_rfl) (Template o a a' c c' hn hsz) (by exact fun _ h => hw.st h) ?_; apply go 300; repeat' (first | apply And.intro | intro _); all_goals try (first | (show Here _ _ _ _; try (exfalso; omega)) | exact trivial | omega | kernel_rfl | exact rfl))
    | (unfold inI64; omega)
    | exact vc1 (bs := []) rfl rfl (List.nil_sublist _) (wpost0 (by (repeat' split) <;> first | rfl | (exfalso; omega) | (simp only [ek, tl_empty] at *; first | (exfalso; omega) | (exfalso; simp_all; done) | (exfalso; simp_all; omega))))
    | exact vc1 (bs := []) rfl rfl (List.nil_sublist _) (wpost1 (n := 8) (by (repeat' split) <;> first | rfl | (exfalso; omega) | (simp only [ek, tl_empty] at *; first | (exfalso; omega) | (exfalso; simp_all; done) | (exfalso; simp_all; omega))) (by decide))
    | exact vc1 (bs := []) rfl rfl (List.nil_sublist _) (wpost1 (n := 13) (by (repeat' split) <;> first | rfl | (exfalso; omega) | (simp only [ek, tl_empty] at *; first | (exfalso; omega) | (exfalso; simp_all; done) | (exfalso; simp_all; omega))) (by decide))
    | exact vc1 (bs := []) rfl rfl (List.nil_sublist _) (wpost1 (n := 14) (by (repeat' split) <;> first | rfl | (exfalso; omega) | (simp only [ek, tl_empty] at *; first | (exfalso; omega) | (exfalso; simp_all; done) | (exfalso; simp_all; omega))) (by decide)))
theorem likes2 (o : Oj) (a a' : Option Addr) (c c' : Nat) (hn : o.labs.length ≤ 4398046511000) (hsz : Sz o) (h : o.kind = 2) : Con Tryz.prog 115 [(ov o a c a' c').val] [] (fun w => LabAt w a o.labs) (WPost (chkLikes o)) := by
  have e : chkLikes o = (if 20 < o.name.size then 8 else chkRest o) := by unfold chkLikes; rw [if_neg (by omega), if_neg (by omega), if_pos h]
  have ek : okS o ↔ (inN o.count 0 16 ∧ inN o.surge 0 16 ∧ inN o.slack 0 16 ∧ 0 < o.surge + o.slack) := by unfold okS; rw [if_neg (by omega), if_pos h]
  rw [e]
  unfold chkRest
  refine con_start1 Tryz.func115 rfl rfl rfl (fun w0 hw => ?_)
  refine vstart [(0, ov o a c a' c')] [] [] ?_
  refine vwith (pt := .run _) _ _ [] tabOk lent_nil fun go => ?_
  apply go 300
  repeat' (first | apply And.intro | intro _)
  all_goals try (first | (show Here _ _ _ _; try (exfalso; omega)) | exact trivial | omega | kernel_rfl | exact rfl)
  all_goals repeat' (first
    | (refine vcall (v := .bd (nameL (tl o.set) = true) inferInstance) rfl rfl (by kernel_rfl) ((NameA o.set).bd) (by exact fun _ _ => trivial) ?_; apply go 300; repeat' (first | apply And.intro | intro _); all_goals try (first | (show Here _ _ _ _; try (exfalso; omega)) | exact trivial | omega | kernel_rfl | exact rfl))
    | (refine vcall (v := .bd (nameL (tl o.node) = true) inferInstance) rfl rfl (by kernel_rfl) ((NameA o.node).bd) (by exact fun _ _ => trivial) ?_; apply go 300; repeat' (first | apply And.intro | intro _); all_goals try (first | (show Here _ _ _ _; try (exfalso; omega)) | exact trivial | omega | kernel_rfl | exact rfl))
    | (refine vcall (v := .bd (nameL (tl o.dep) = true) inferInstance) rfl rfl (by kernel_rfl) ((NameA o.dep).bd) (by exact fun _ _ => trivial) ?_; apply go 300; repeat' (first | apply And.intro | intro _); all_goals try (first | (show Here _ _ _ _; try (exfalso; omega)) | exact trivial | omega | kernel_rfl | exact rfl))
    | (refine vcall (v := .bd (rightA o.ncpu o.nmem) inferInstance) rfl rfl (by kernel_rfl) (RightA o.ncpu o.nmem) (by exact fun _ _ => trivial) ?_; apply go 300; repeat' (first | apply And.intro | intro _); all_goals try (first | (show Here _ _ _ _; try (exfalso; omega)) | exact trivial | omega | kernel_rfl | exact rfl))
    | (refine vcall (v := .bd (valueL (tl o.image) = true) inferInstance) rfl rfl (by kernel_rfl) ((Value o.image).bd) (by exact fun _ _ => trivial) ?_; apply go 300; repeat' (first | apply And.intro | intro _); all_goals try (first | (show Here _ _ _ _; try (exfalso; omega)) | exact trivial | omega | kernel_rfl | exact rfl))
    | (refine vcall (v := .bd (inN o.rise 1 8) inferInstance) rfl rfl (by kernel_rfl) (within o.rise 1 8) (by exact fun _ _ => trivial) ?_; apply go 300; repeat' (first | apply And.intro | intro _); all_goals try (first | (show Here _ _ _ _; try (exfalso; omega)) | exact trivial | omega | kernel_rfl | exact rfl))
    | (refine vcall (v := .bd (inN o.fall 1 8) inferInstance) rfl rfl (by kernel_rfl) (within o.fall 1 8) (by exact fun _ _ => trivial) ?_; apply go 300; repeat' (first | apply And.intro | intro _); all_goals try (first | (show Here _ _ _ _; try (exfalso; omega)) | exact trivial | omega | kernel_rfl | exact rfl))
    | (refine vcall (v := .bd (inN o.count 0 16) inferInstance) rfl rfl (by kernel_rfl) (within o.count 0 16) (by exact fun _ _ => trivial) ?_; apply go 300; repeat' (first | apply And.intro | intro _); all_goals try (first | (show Here _ _ _ _; try (exfalso; omega)) | exact trivial | omega | kernel_rfl | exact rfl))
    | (refine vcall (v := .bd (inN o.surge 0 16) inferInstance) rfl rfl (by kernel_rfl) (within o.surge 0 16) (by exact fun _ _ => trivial) ?_; apply go 300; repeat' (first | apply And.intro | intro _); all_goals try (first | (show Here _ _ _ _; try (exfalso; omega)) | exact trivial | omega | kernel_rfl | exact rfl))
    | (refine vcall (v := .bd (inN o.slack 0 16) inferInstance) rfl rfl (by kernel_rfl) (within o.slack 0 16) (by exact fun _ _ => trivial) ?_; apply go 300; repeat' (first | apply And.intro | intro _); all_goals try (first | (show Here _ _ _ _; try (exfalso; omega)) | exact trivial | omega | kernel_rfl | exact rfl))
    | (refine vdraw (flagsOf _) (by kernel_rfl) (by decide +kernel) (flags_len _) ?_; apply go 300; repeat' (first | apply And.intro | intro _); all_goals try (first | (show Here _ _ _ _; try (exfalso; omega)) | exact trivial | omega | kernel_rfl | exact rfl))
    | (refine vcallD (v := .int .u64 (templH o)) rfl rfl (by kernel_rfl) (Template o a a' c c' hn hsz) (by exact fun _ h => hw.st h) ?_; apply go 300; repeat' (first | apply And.intro | intro _); all_goals try (first | (show Here _ _ _ _; try (exfalso; omega)) | exact trivial | omega | kernel_rfl | exact rfl))
    | (unfold inI64; omega)
    | exact vc1 (bs := []) rfl rfl (List.nil_sublist _) (wpost0 (by (repeat' split) <;> first | rfl | (exfalso; omega) | (simp only [ek, tl_empty] at *; first | (exfalso; omega) | (exfalso; simp_all; done) | (exfalso; simp_all; omega))))
    | exact vc1 (bs := []) rfl rfl (List.nil_sublist _) (wpost1 (n := 8) (by (repeat' split) <;> first | rfl | (exfalso; omega) | (simp only [ek, tl_empty] at *; first | (exfalso; omega) | (exfalso; simp_all; done) | (exfalso; simp_all; omega))) (by decide))
    | exact vc1 (bs := []) rfl rfl (List.nil_sublist _) (wpost1 (n := 13) (by (repeat' split) <;> first | rfl | (exfalso; omega) | (simp only [ek, tl_empty] at *; first | (exfalso; omega) | (exfalso; simp_all; done) | (exfalso; simp_all; omega))) (by decide))
    | exact vc1 (bs := []) rfl rfl (List.nil_sublist _) (wpost1 (n := 14) (by (repeat' split) <;> first | rfl | (exfalso; omega) | (simp only [ek, tl_empty] at *; first | (exfalso; omega) | (exfalso; simp_all; done) | (exfalso; simp_all; omega))) (by decide)))
theorem likes0 (o : Oj) (a a' : Option Addr) (c c' : Nat) (hn : o.labs.length ≤ 4398046511000) (hsz : Sz o) (h : ¬ (o.kind = 1 ∨ o.kind = 2 ∨ o.kind = 3)) : Con Tryz.prog 115 [(ov o a c a' c').val] [] (fun w => LabAt w a o.labs) (WPost (chkLikes o)) := by
  have e : chkLikes o = (chkRest o) := by unfold chkLikes; rw [if_neg (by omega), if_neg (by omega), if_neg (by omega)]
  have ek : okS o ↔ (inN o.count 0 16) := by unfold okS; rw [if_neg (by omega), if_neg (by omega), if_neg (by omega)]
  rw [e]
  unfold chkRest
  refine con_start1 Tryz.func115 rfl rfl rfl (fun w0 hw => ?_)
  refine vstart [(0, ov o a c a' c')] [] [] ?_
  refine vwith (pt := .run _) _ _ [] tabOk lent_nil fun go => ?_
  apply go 300
  repeat' (first | apply And.intro | intro _)
  all_goals try (first | (show Here _ _ _ _; try (exfalso; omega)) | exact trivial | omega | kernel_rfl | exact rfl)
  all_goals repeat' (first
    | (refine vcall (v := .bd (nameL (tl o.set) = true) inferInstance) rfl rfl (by kernel_rfl) ((NameA o.set).bd) (by exact fun _ _ => trivial) ?_; apply go 300; repeat' (first | apply And.intro | intro _); all_goals try (first | (show Here _ _ _ _; try (exfalso; omega)) | exact trivial | omega | kernel_rfl | exact rfl))
    | (refine vcall (v := .bd (nameL (tl o.node) = true) inferInstance) rfl rfl (by kernel_rfl) ((NameA o.node).bd) (by exact fun _ _ => trivial) ?_; apply go 300; repeat' (first | apply And.intro | intro _); all_goals try (first | (show Here _ _ _ _; try (exfalso; omega)) | exact trivial | omega | kernel_rfl | exact rfl))
    | (refine vcall (v := .bd (nameL (tl o.dep) = true) inferInstance) rfl rfl (by kernel_rfl) ((NameA o.dep).bd) (by exact fun _ _ => trivial) ?_; apply go 300; repeat' (first | apply And.intro | intro _); all_goals try (first | (show Here _ _ _ _; try (exfalso; omega)) | exact trivial | omega | kernel_rfl | exact rfl))
    | (refine vcall (v := .bd (rightA o.ncpu o.nmem) inferInstance) rfl rfl (by kernel_rfl) (RightA o.ncpu o.nmem) (by exact fun _ _ => trivial) ?_; apply go 300; repeat' (first | apply And.intro | intro _); all_goals try (first | (show Here _ _ _ _; try (exfalso; omega)) | exact trivial | omega | kernel_rfl | exact rfl))
    | (refine vcall (v := .bd (valueL (tl o.image) = true) inferInstance) rfl rfl (by kernel_rfl) ((Value o.image).bd) (by exact fun _ _ => trivial) ?_; apply go 300; repeat' (first | apply And.intro | intro _); all_goals try (first | (show Here _ _ _ _; try (exfalso; omega)) | exact trivial | omega | kernel_rfl | exact rfl))
    | (refine vcall (v := .bd (inN o.rise 1 8) inferInstance) rfl rfl (by kernel_rfl) (within o.rise 1 8) (by exact fun _ _ => trivial) ?_; apply go 300; repeat' (first | apply And.intro | intro _); all_goals try (first | (show Here _ _ _ _; try (exfalso; omega)) | exact trivial | omega | kernel_rfl | exact rfl))
    | (refine vcall (v := .bd (inN o.fall 1 8) inferInstance) rfl rfl (by kernel_rfl) (within o.fall 1 8) (by exact fun _ _ => trivial) ?_; apply go 300; repeat' (first | apply And.intro | intro _); all_goals try (first | (show Here _ _ _ _; try (exfalso; omega)) | exact trivial | omega | kernel_rfl | exact rfl))
    | (refine vcall (v := .bd (inN o.count 0 16) inferInstance) rfl rfl (by kernel_rfl) (within o.count 0 16) (by exact fun _ _ => trivial) ?_; apply go 300; repeat' (first | apply And.intro | intro _); all_goals try (first | (show Here _ _ _ _; try (exfalso; omega)) | exact trivial | omega | kernel_rfl | exact rfl))
    | (refine vcall (v := .bd (inN o.surge 0 16) inferInstance) rfl rfl (by kernel_rfl) (within o.surge 0 16) (by exact fun _ _ => trivial) ?_; apply go 300; repeat' (first | apply And.intro | intro _); all_goals try (first | (show Here _ _ _ _; try (exfalso; omega)) | exact trivial | omega | kernel_rfl | exact rfl))
    | (refine vcall (v := .bd (inN o.slack 0 16) inferInstance) rfl rfl (by kernel_rfl) (within o.slack 0 16) (by exact fun _ _ => trivial) ?_; apply go 300; repeat' (first | apply And.intro | intro _); all_goals try (first | (show Here _ _ _ _; try (exfalso; omega)) | exact trivial | omega | kernel_rfl | exact rfl))
    | (refine vdraw (flagsOf _) (by kernel_rfl) (by decide +kernel) (flags_len _) ?_; apply go 300; repeat' (first | apply And.intro | intro _); all_goals try (first | (show Here _ _ _ _; try (exfalso; omega)) | exact trivial | omega | kernel_rfl | exact rfl))
    | (refine vcallD (v := .int .u64 (templH o)) rfl rfl (by kernel_rfl) (Template o a a' c c' hn hsz) (by exact fun _ h => hw.st h) ?_; apply go 300; repeat' (first | apply And.intro | intro _); all_goals try (first | (show Here _ _ _ _; try (exfalso; omega)) | exact trivial | omega | kernel_rfl | exact rfl))
    | (unfold inI64; omega)
    | exact vc1 (bs := []) rfl rfl (List.nil_sublist _) (wpost0 (by (repeat' split) <;> first | rfl | (exfalso; omega) | (simp only [ek, tl_empty] at *; first | (exfalso; omega) | (exfalso; simp_all; done) | (exfalso; simp_all; omega))))
    | exact vc1 (bs := []) rfl rfl (List.nil_sublist _) (wpost1 (n := 8) (by (repeat' split) <;> first | rfl | (exfalso; omega) | (simp only [ek, tl_empty] at *; first | (exfalso; omega) | (exfalso; simp_all; done) | (exfalso; simp_all; omega))) (by decide))
    | exact vc1 (bs := []) rfl rfl (List.nil_sublist _) (wpost1 (n := 13) (by (repeat' split) <;> first | rfl | (exfalso; omega) | (simp only [ek, tl_empty] at *; first | (exfalso; omega) | (exfalso; simp_all; done) | (exfalso; simp_all; omega))) (by decide))
    | exact vc1 (bs := []) rfl rfl (List.nil_sublist _) (wpost1 (n := 14) (by (repeat' split) <;> first | rfl | (exfalso; omega) | (simp only [ek, tl_empty] at *; first | (exfalso; omega) | (exfalso; simp_all; done) | (exfalso; simp_all; omega))) (by decide)))
theorem checkLikes (o : Oj) (a a' : Option Addr) (c c' : Nat) (hn : o.labs.length ≤ 4398046511000) (hsz : Sz o) : Con Tryz.prog 115 [(ov o a c a' c').val] [] (fun w => LabAt w a o.labs) (WPost (chkLikes o)) := by
  by_cases h : ¬ (o.kind = 1 ∨ o.kind = 2 ∨ o.kind = 3)
  · exact likes0 o a a' c c' hn hsz h
  rcases Classical.not_not.1 h with h | h | h
  · exact likes1 o a a' c c' hn hsz h
  · exact likes2 o a a' c c' hn hsz h
  · exact likes3 o a a' c c' hn hsz h
end Go.Fl
