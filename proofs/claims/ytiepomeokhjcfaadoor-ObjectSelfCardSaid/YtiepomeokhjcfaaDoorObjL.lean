/-
  What is wrong with an object: what is like pods. No condition.
-/
import Derived.Test.YtiepomeokhjcfaaDoorObjA
import Derived.Test.YtiepomeokhjcfaaDoorObjT
import Derived.Test.YtiepomeokhjcfaaDoorErrW
import Derived.Test.YtiepomeokhjcfaaDoorObjC
namespace Go.Fl
open Go.Proofs Go.RowKit
set_option maxRecDepth 10000
set_option maxHeartbeats 40000000

theorem likes1 (o : Oj) (a a' : Option Addr) (c c' : Nat) (hn : o.labs.length ≤ 4398046511000) (hsz : Sz o) (h : o.kind = 1) : Con Tryd.prog 80 [(ov o a c a' c').val] [] (fun w => LabAt w a o.labs) (WPost (chkLikes o)) := by
  have e : chkLikes o = (if nameL (tl o.set) = false ∨ (tl o.node ≠ [] ∧ nameL (tl o.node) = false) then 8 else if nameL (tl o.dep) = false then 8 else chkRest o) := by unfold chkLikes; rw [if_pos h]
  have ek : okS o ↔ ((o.phase = 0 ∧ o.ready = false) ∨ (o.phase = 1 ∧ tl o.node ≠ [] ∧ ¬ (o.ready = true ∧ o.ending = true))) := by unfold okS; rw [if_pos h]
  rw [e]
  unfold chkRest
  refine con_start1 Tryd.func80 rfl rfl rfl (fun w0 hw => ?_)
  refine vstart [(0, ov o a c a' c')] [] [] ?_
  refine vwith (pt := .run _) _ _ [] tabOk lent_nil fun go => ?_
  apply go 300
  repeat' (first | apply And.intro | intro _)
  all_goals try (first | (show Here _ _ _ _; try (exfalso; omega)) | exact trivial | omega | kernel_rfl | exact rfl)
  all_goals repeat' (first
    | (refine vcall (v := .bd (nameL (tl o.set) = true) inferInstance) rfl rfl (by kernel_rfl) ((NameA o.set).bd) (by exact fun _ _ => trivial) ?_; apply go 300; repeat' (first | apply And.intro | intro _); all_goals try (first | (show Here _ _ _ _; try (exfalso; omega)) | exact trivial | omega | kernel_rfl | exact rfl))
    | (refine vcall (v := .bd (nameL (tl o.node) = true) inferInstance) rfl rfl (by kernel_rfl) ((NameA o.node).bd) (by exact fun _ _ => trivial) ?_; apply go 300; repeat' (first | apply And.intro | intro _); all_goals try (first | (show Here _ _ _ _; try (exfalso; omega)) | exact trivial | omega | kernel_rfl | exact rfl))
    | (refine vcall (v := .bd (nameL (tl o.dep) = true) inferInstance) rfl rfl (by kernel_rfl) ((NameA o.dep).bd) (by exact fun _ _ => trivial) ?_; apply go 300; repeat' (first | apply And.intro | intro _); all_goals try (first | (show Here _ _ _ _; try (exfalso; omega)) | exact trivial | omega | kernel_rfl | exact rfl))
    | (refine vcall (v := .bd (rightA o.ncpu o.nmem) inferInstance) rfl rfl (by kernel_rfl) (RightA o.ncpu o.nmem) (by exact fun _ _ => trivial) ?_; apply go 300; repeat' (first | apply And.intro | intro _); all_goals try (first | (show Here _ _ _ _; try (exfalso; omega)) | exact trivial | omega | kernel_rfl | exact rfl))
    | (refine vcall (v := .bd (valueL (tl o.image) = true) inferInstance) rfl rfl (by kernel_rfl) ((Value o.image).bd) (by exact fun _ _ => trivial) ?_; apply go 300; repeat' (first | apply And.intro | intro _); all_goals try (first | (show Here _ _ _ _; try (exfalso; omega)) | exact trivial | omega | kernel_rfl | exact rfl))
    | (refine vcall (v := .bd (inN o.rise 1 8) inferInstance) rfl rfl (by kernel_rfl) (within o.rise 1 8) (by exact fun _ _ => trivial) ?_; apply go 300; repeat' (first | apply And.intro | intro _); all_goals try (first | (show Here _ _ _ _; try (exfalso; omega)) | exact trivial | omega | kernel_rfl | exact rfl))
    | (refine vcall (v := .bd (inN o.fall 1 8) inferInstance) rfl rfl (by kernel_rfl) (within o.fall 1 8) (by exact fun _ _ => trivial) ?_; apply go 300; repeat' (first | apply And.intro | intro _); all_goals try (first | (show Here _ _ _ _; try (exfalso; omega)) | exact trivial | omega | kernel_rfl | exact rfl))
    | (refine vcall (v := .bd (inN o.count 0 16) inferInstance) rfl rfl (by kernel_rfl) (within o.count 0 16) (by exact fun _ _ => trivial) ?_; apply go 300; repeat' (first | apply And.intro | intro _); all_goals try (first | (show Here _ _ _ _; try (exfalso; omega)) | exact trivial | omega | kernel_rfl | exact rfl))
    | (refine vcall (v := .bd (inN o.surge 0 16) inferInstance) rfl rfl (by kernel_rfl) (within o.surge 0 16) (by exact fun _ _ => trivial) ?_; apply go 300; repeat' (first | apply And.intro | intro _); all_goals try (first | (show Here _ _ _ _; try (exfalso; omega)) | exact trivial | omega | kernel_rfl | exact rfl))
    | (refine vcall (v := .bd (inN o.slack 0 16) inferInstance) rfl rfl (by kernel_rfl) (within o.slack 0 16) (by exact fun _ _ => trivial) ?_; apply go 300; repeat' (first | apply And.intro | intro _); all_goals try (first | (show Here _ _ _ _; try (exfalso; omega)) | exact trivial | omega | kernel_rfl | exact rfl))
    | (refine vdraw (flagsOf _) (by kernel_rfl) (by decide +kernel) (flags_len _) ?_; apply go 300; repeat' (first | apply And.intro | intro _); all_goals try (first | (show Here _ _ _ _; try (exfalso; omega)) | exact trivial | omega | kernel_rfl | exact rfl))
    | (refine vcallD (v := .int .u64 (templH o)) rfl rfl (by kernel_rfl) (Template o a a' c c' hn hsz) (by exact fun _ h => hw.st h) ?_; apply go 300; repeat' (first | apply And.intro | intro _); all_goals try (first | (show Here _ _ _ _; try (exfalso; omega)) | exact trivial | omega | kernel_rfl | exact rfl))
    | (unfold inI64; omega)
    | exact vc1 (bs := []) rfl rfl (List.nil_sublist _) (wpost0 (by (repeat' split) <;> first | rfl | (exfalso; omega) | (simp only [ek, tl_empty] at *; first | (exfalso; omega) | (exfalso; simp_all; done) | (exfalso; simp_all; omega))))
    | exact vc1 (bs := []) rfl rfl (List.nil_sublist _) (wpost1 (n := 8) (by (repeat' split) <;> first | rfl | (exfalso; omega) | (simp only [ek, tl_empty] at *; first | (exfalso; omega) | (exfalso; simp_all; done) | (exfalso; simp_all; omega))) (by decide))
    | exact vc1 (bs := []) rfl rfl (List.nil_sublist _) (wpost1 (n := 13) (by (repeat' split) <;> first | rfl | (exfalso; omega) | (simp only [ek, tl_empty] at *; first | (exfalso; omega) | (exfalso; simp_all; done) | (exfalso; simp_all; omega))) (by decide))
    | exact vc1 (bs := []) rfl rfl (List.nil_sublist _) (wpost1 (n := 14) (by (repeat' split) <;> first | rfl | (exfalso; omega) | (simp only [ek, tl_empty] at *; first | (exfalso; omega) | (exfalso; simp_all; done) | (exfalso; simp_all; omega))) (by decide)))
theorem likes3 (o : Oj) (a a' : Option Addr) (c c' : Nat) (hn : o.labs.length ≤ 4398046511000) (hsz : Sz o) (h : o.kind = 3) : Con Tryd.prog 80 [(ov o a c a' c').val] [] (fun w => LabAt w a o.labs) (WPost (chkLikes o)) := by
  have e : chkLikes o = (if nameL (tl o.dep) = false then 8 else chkRest o) := by unfold chkLikes; rw [if_neg (by omega), if_pos h]
  have ek : okS o ↔ (inN o.count 0 16 ∧ o.hash = templH o) := by unfold okS; rw [if_neg (by omega), if_neg (by omega), if_pos h]
  rw [e]
  unfold chkRest
  refine con_start1 Tryd.func80 rfl rfl rfl (fun w0 hw => ?_)
  refine vstart [(0, ov o a c a' c')] [] [] ?_
  refine vwith (pt := .run _) _ _ [] tabOk lent_nil fun go => ?_
  apply go 300
  repeat' (first | apply And.intro | intro _)
  all_goals try (first | (show Here _ _ _ _; try (exfalso; omega)) | exact trivial | omega | kernel_rfl | exact rfl)
  all_goals repeat' (first
    | (refine vcall (v := .bd (nameL (tl o.set) = true) inferInstance) rfl rfl (by kernel_rfl) ((NameA o.set).bd) (by exact fun _ _ => trivial) ?_; apply go 300; repeat' (first | apply And.intro | intro _); all_goals try (first | (show Here _ _ _ _; try (exfalso; omega)) | exact trivial | omega | kernel_rfl | exact rfl))
    | (refine vcall (v := .bd (nameL (tl o.node) = true) inferInstance) rfl rfl (by kernel_rfl) ((NameA o.node).bd) (by exact fun _ _ => trivial) ?_; apply go 300; repeat' (first | apply And.intro | intro _); all_goals try (first | (show Here _ _ _ _; try (exfalso; omega)) | exact trivial | omega | kernel_rfl | exact rfl))
    | (refine vcall (v := .bd (nameL (tl o.dep) = true) inferInstance) rfl rfl (by kernel_rfl) ((NameA o.dep).bd) (by exact fun _ _ => trivial) ?_; apply go 300; repeat' (first | apply And.intro | intro _); all_goals try (first | (show Here _ _ _ _; try (exfalso; omega)) | exact trivial | omega | kernel_rfl | exact rfl))
    | (refine vcall (v := .bd (rightA o.ncpu o.nmem) inferInstance) rfl rfl (by kernel_rfl) (RightA o.ncpu o.nmem) (by exact fun _ _ => trivial) ?_; apply go 300; repeat' (first | apply And.intro | intro _); all_goals try (first | (show Here _ _ _ _; try (exfalso; omega)) | exact trivial | omega | kernel_rfl | exact rfl))
    | (refine vcall (v := .bd (valueL (tl o.image) = true) inferInstance) rfl rfl (by kernel_rfl) ((Value o.image).bd) (by exact fun _ _ => trivial) ?_; apply go 300; repeat' (first | apply And.intro | intro _); all_goals try (first | (show Here _ _ _ _; try (exfalso; omega)) | exact trivial | omega | kernel_rfl | exact rfl))
    | (refine vcall (v := .bd (inN o.rise 1 8) inferInstance) rfl rfl (by kernel_rfl) (within o.rise 1 8) (by exact fun _ _ => trivial) ?_; apply go 300; repeat' (first | apply And.intro | intro _); all_goals try (first | (show Here _ _ _ _; try (exfalso; omega)) | exact trivial | omega | kernel_rfl | exact rfl))
    | (refine vcall (v := .bd (inN o.fall 1 8) inferInstance) rfl rfl (by kernel_rfl) (within o.fall 1 8) (by exact fun _ _ => trivial) ?_; apply go 300; repeat' (first | apply And.intro | intro _); all_goals try (first | (show Here _ _ _ _; try (exfalso; omega)) | exact trivial | omega | kernel_rfl | exact rfl))
    | (refine vcall (v := .bd (inN o.count 0 16) inferInstance) rfl rfl (by kernel_rfl) (within o.count 0 16) (by exact fun _ _ => trivial) ?_; apply go 300; repeat' (first | apply And.intro | intro _); all_goals try (first | (show Here _ _ _ _; try (exfalso; omega)) | exact trivial | omega | kernel_rfl | exact rfl))
    | (refine vcall (v := .bd (inN o.surge 0 16) inferInstance) rfl rfl (by kernel_rfl) (within o.surge 0 16) (by exact fun _ _ => trivial) ?_; apply go 300; repeat' (first | apply And.intro | intro _); all_goals try (first | (show Here _ _ _ _; try (exfalso; omega)) | exact trivial | omega | kernel_rfl | exact rfl))
    | (refine vcall (v := .bd (inN o.slack 0 16) inferInstance) rfl rfl (by kernel_rfl) (within o.slack 0 16) (by exact fun _ _ => trivial) ?_; apply go 300; repeat' (first | apply And.intro | intro _); all_goals try (first | (show Here _ _ _ _; try (exfalso; omega)) | exact trivial | omega | kernel_rfl | exact rfl))
    | (refine vdraw (flagsOf _) (by kernel_rfl) (by decide +kernel) (flags_len _) ?_; apply go 300; repeat' (first | apply And.intro | intro _); all_goals try (first | (show Here _ _ _ _; try (exfalso; omega)) | exact trivial | omega | kernel_rfl | exact rfl))
    | (refine vcallD (v := .int .u64 (templH o)) rfl rfl (by kernel_rfl) (Template o a a' c c' hn hsz) (by exact fun _ h => hw.st h) ?_; apply go 300; repeat' (first | apply And.intro | intro _); all_goals try (first | (show Here _ _ _ _; try (exfalso; omega)) | exact trivial | omega | kernel_rfl | exact rfl))
    | (unfold inI64; omega)
    | exact vc1 (bs := []) rfl rfl (List.nil_sublist _) (wpost0 (by (repeat' split) <;> first | rfl | (exfalso; omega) | (simp only [ek, tl_empty] at *; first | (exfalso; omega) | (exfalso; simp_all; done) | (exfalso; simp_all; omega))))
    | exact vc1 (bs := []) rfl rfl (List.nil_sublist _) (wpost1 (n := 8) (by (repeat' split) <;> first | rfl | (exfalso; omega) | (simp only [ek, tl_empty] at *; first | (exfalso; omega) | (exfalso; simp_all; done) | (exfalso; simp_all; omega))) (by decide))
    | exact vc1 (bs := []) rfl rfl (List.nil_sublist _) (wpost1 (n := 13) (by (repeat' split) <;> first | rfl | (exfalso; omega) | (simp only [ek, tl_empty] at *; first | (exfalso; omega) | (exfalso; simp_all; done) | (exfalso; simp_all; omega))) (by decide))
    | exact vc1 (bs := []) rfl rfl (List.nil_sublist _) (wpost1 (n := 14) (by (repeat' split) <;> first | rfl | (exfalso; omega) | (simp only [ek, tl_empty] at *; first | (exfalso; omega) | (exfalso; simp_all; done) | (exfalso; simp_all; omega))) (by decide)))
theorem likes2 (o : Oj) (a a' : Option Addr) (c c' : Nat) (hn : o.labs.length ≤ 4398046511000) (hsz : Sz o) (h : o.kind = 2) : Con Tryd.prog 80 [(ov o a c a' c').val] [] (fun w => LabAt w a o.labs) (WPost (chkLikes o)) := by
  have e : chkLikes o = (if 20 < o.name.size then 8 else chkRest o) := by unfold chkLikes; rw [if_neg (by omega), if_neg (by omega), if_pos h]
  have ek : okS o ↔ (inN o.count 0 16 ∧ inN o.surge 0 16 ∧ inN o.slack 0 16 ∧ 0 < o.surge + o.slack) := by unfold okS; rw [if_neg (by omega), if_pos h]
  rw [e]
  unfold chkRest
  refine con_start1 Tryd.func80 rfl rfl rfl (fun w0 hw => ?_)
  refine vstart [(0, ov o a c a' c')] [] [] ?_
  refine vwith (pt := .run _) _ _ [] tabOk lent_nil fun go => ?_
  apply go 300
  repeat' (first | apply And.intro | intro _)
  all_goals try (first | (show Here _ _ _ _; try (exfalso; omega)) | exact trivial | omega | kernel_rfl | exact rfl)
  all_goals repeat' (first
    | (refine vcall (v := .bd (nameL (tl o.set) = true) inferInstance) rfl rfl (by kernel_rfl) ((NameA o.set).bd) (by exact fun _ _ => trivial) ?_; apply go 300; repeat' (first | apply And.intro | intro _); all_goals try (first | (show Here _ _ _ _; try (exfalso; omega)) | exact trivial | omega | kernel_rfl | exact rfl))
    | (refine vcall (v := .bd (nameL (tl o.node) = true) inferInstance) rfl rfl (by kernel_rfl) ((NameA o.node).bd) (by exact fun _ _ => trivial) ?_; apply go 300; repeat' (first | apply And.intro | intro _); all_goals try (first | (show Here _ _ _ _; try (exfalso; omega)) | exact trivial | omega | kernel_rfl | exact rfl))
    | (refine vcall (v := .bd (nameL (tl o.dep) = true) inferInstance) rfl rfl (by kernel_rfl) ((NameA o.dep).bd) (by exact fun _ _ => trivial) ?_; apply go 300; repeat' (first | apply And.intro | intro _); all_goals try (first | (show Here _ _ _ _; try (exfalso; omega)) | exact trivial | omega | kernel_rfl | exact rfl))
    | (refine vcall (v := .bd (rightA o.ncpu o.nmem) inferInstance) rfl rfl (by kernel_rfl) (RightA o.ncpu o.nmem) (by exact fun _ _ => trivial) ?_; apply go 300; repeat' (first | apply And.intro | intro _); all_goals try (first | (show Here _ _ _ _; try (exfalso; omega)) | exact trivial | omega | kernel_rfl | exact rfl))
    | (refine vcall (v := .bd (valueL (tl o.image) = true) inferInstance) rfl rfl (by kernel_rfl) ((Value o.image).bd) (by exact fun _ _ => trivial) ?_; apply go 300; repeat' (first | apply And.intro | intro _); all_goals try (first | (show Here _ _ _ _; try (exfalso; omega)) | exact trivial | omega | kernel_rfl | exact rfl))
    | (refine vcall (v := .bd (inN o.rise 1 8) inferInstance) rfl rfl (by kernel_rfl) (within o.rise 1 8) (by exact fun _ _ => trivial) ?_; apply go 300; repeat' (first | apply And.intro | intro _); all_goals try (first | (show Here _ _ _ _; try (exfalso; omega)) | exact trivial | omega | kernel_rfl | exact rfl))
    | (refine vcall (v := .bd (inN o.fall 1 8) inferInstance) rfl rfl (by kernel_rfl) (within o.fall 1 8) (by exact fun _ _ => trivial) ?_; apply go 300; repeat' (first | apply And.intro | intro _); all_goals try (first | (show Here _ _ _ _; try (exfalso; omega)) | exact trivial | omega | kernel_rfl | exact rfl))
    | (refine vcall (v := .bd (inN o.count 0 16) inferInstance) rfl rfl (by kernel_rfl) (within o.count 0 16) (by exact fun _ _ => trivial) ?_; apply go 300; repeat' (first | apply And.intro | intro _); all_goals try (first | (show Here _ _ _ _; try (exfalso; omega)) | exact trivial | omega | kernel_rfl | exact rfl))
    | (refine vcall (v := .bd (inN o.surge 0 16) inferInstance) rfl rfl (by kernel_rfl) (within o.surge 0 16) (by exact fun _ _ => trivial) ?_; apply go 300; repeat' (first | apply And.intro | intro _); all_goals try (first | (show Here _ _ _ _; try (exfalso; omega)) | exact trivial | omega | kernel_rfl | exact rfl))
    | (refine vcall (v := .bd (inN o.slack 0 16) inferInstance) rfl rfl (by kernel_rfl) (within o.slack 0 16) (by exact fun _ _ => trivial) ?_; apply go 300; repeat' (first | apply And.intro | intro _); all_goals try (first | (show Here _ _ _ _; try (exfalso; omega)) | exact trivial | omega | kernel_rfl | exact rfl))
    | (refine vdraw (flagsOf _) (by kernel_rfl) (by decide +kernel) (flags_len _) ?_; apply go 300; repeat' (first | apply And.intro | intro _); all_goals try (first | (show Here _ _ _ _; try (exfalso; omega)) | exact trivial | omega | kernel_rfl | exact rfl))
    | (refine vcallD (v := .int .u64 (templH o)) rfl rfl (by kernel_rfl) (Template o a a' c c' hn hsz) (by exact fun _ h => hw.st h) ?_; apply go 300; repeat' (first | apply And.intro | intro _); all_goals try (first | (show Here _ _ _ _; try (exfalso; omega)) | exact trivial | omega | kernel_rfl | exact rfl))
    | (unfold inI64; omega)
    | exact vc1 (bs := []) rfl rfl (List.nil_sublist _) (wpost0 (by (repeat' split) <;> first | rfl | (exfalso; omega) | (simp only [ek, tl_empty] at *; first | (exfalso; omega) | (exfalso; simp_all; done) | (exfalso; simp_all; omega))))
    | exact vc1 (bs := []) rfl rfl (List.nil_sublist _) (wpost1 (n := 8) (by (repeat' split) <;> first | rfl | (exfalso; omega) | (simp only [ek, tl_empty] at *; first | (exfalso; omega) | (exfalso; simp_all; done) | (exfalso; simp_all; omega))) (by decide))
    | exact vc1 (bs := []) rfl rfl (List.nil_sublist _) (wpost1 (n := 13) (by (repeat' split) <;> first | rfl | (exfalso; omega) | (simp only [ek, tl_empty] at *; first | (exfalso; omega) | (exfalso; simp_all; done) | (exfalso; simp_all; omega))) (by decide))
    | exact vc1 (bs := []) rfl rfl (List.nil_sublist _) (wpost1 (n := 14) (by (repeat' split) <;> first | rfl | (exfalso; omega) | (simp only [ek, tl_empty] at *; first | (exfalso; omega) | (exfalso; simp_all; done) | (exfalso; simp_all; omega))) (by decide)))
theorem likes0 (o : Oj) (a a' : Option Addr) (c c' : Nat) (hn : o.labs.length ≤ 4398046511000) (hsz : Sz o) (h : ¬ (o.kind = 1 ∨ o.kind = 2 ∨ o.kind = 3)) : Con Tryd.prog 80 [(ov o a c a' c').val] [] (fun w => LabAt w a o.labs) (WPost (chkLikes o)) := by
  have e : chkLikes o = (chkRest o) := by unfold chkLikes; rw [if_neg (by omega), if_neg (by omega), if_neg (by omega)]
  have ek : okS o ↔ (inN o.count 0 16) := by unfold okS; rw [if_neg (by omega), if_neg (by omega), if_neg (by omega)]
  rw [e]
  unfold chkRest
  refine con_start1 Tryd.func80 rfl rfl rfl (fun w0 hw => ?_)
  refine vstart [(0, ov o a c a' c')] [] [] ?_
  refine vwith (pt := .run _) _ _ [] tabOk lent_nil fun go => ?_
  apply go 300
  repeat' (first | apply And.intro | intro _)
  all_goals try (first | (show Here _ _ _ _; try (exfalso; omega)) | exact trivial | omega | kernel_rfl | exact rfl)
  all_goals repeat' (first
    | (refine vcall (v := .bd (nameL (tl o.set) = true) inferInstance) rfl rfl (by kernel_rfl) ((NameA o.set).bd) (by exact fun _ _ => trivial) ?_; apply go 300; repeat' (first | apply And.intro | intro _); all_goals try (first | (show Here _ _ _ _; try (exfalso; omega)) | exact trivial | omega | kernel_rfl | exact rfl))
    | (refine vcall (v := .bd (nameL (tl o.node) = true) inferInstance) rfl rfl (by kernel_rfl) ((NameA o.node).bd) (by exact fun _ _ => trivial) ?_; apply go 300; repeat' (first | apply And.intro | intro _); all_goals try (first | (show Here _ _ _ _; try (exfalso; omega)) | exact trivial | omega | kernel_rfl | exact rfl))
    | (refine vcall (v := .bd (nameL (tl o.dep) = true) inferInstance) rfl rfl (by kernel_rfl) ((NameA o.dep).bd) (by exact fun _ _ => trivial) ?_; apply go 300; repeat' (first | apply And.intro | intro _); all_goals try (first | (show Here _ _ _ _; try (exfalso; omega)) | exact trivial | omega | kernel_rfl | exact rfl))
    | (refine vcall (v := .bd (rightA o.ncpu o.nmem) inferInstance) rfl rfl (by kernel_rfl) (RightA o.ncpu o.nmem) (by exact fun _ _ => trivial) ?_; apply go 300; repeat' (first | apply And.intro | intro _); all_goals try (first | (show Here _ _ _ _; try (exfalso; omega)) | exact trivial | omega | kernel_rfl | exact rfl))
    | (refine vcall (v := .bd (valueL (tl o.image) = true) inferInstance) rfl rfl (by kernel_rfl) ((Value o.image).bd) (by exact fun _ _ => trivial) ?_; apply go 300; repeat' (first | apply And.intro | intro _); all_goals try (first | (show Here _ _ _ _; try (exfalso; omega)) | exact trivial | omega | kernel_rfl | exact rfl))
    | (refine vcall (v := .bd (inN o.rise 1 8) inferInstance) rfl rfl (by kernel_rfl) (within o.rise 1 8) (by exact fun _ _ => trivial) ?_; apply go 300; repeat' (first | apply And.intro | intro _); all_goals try (first | (show Here _ _ _ _; try (exfalso; omega)) | exact trivial | omega | kernel_rfl | exact rfl))
    | (refine vcall (v := .bd (inN o.fall 1 8) inferInstance) rfl rfl (by kernel_rfl) (within o.fall 1 8) (by exact fun _ _ => trivial) ?_; apply go 300; repeat' (first | apply And.intro | intro _); all_goals try (first | (show Here _ _ _ _; try (exfalso; omega)) | exact trivial | omega | kernel_rfl | exact rfl))
    | (refine vcall (v := .bd (inN o.count 0 16) inferInstance) rfl rfl (by kernel_rfl) (within o.count 0 16) (by exact fun _ _ => trivial) ?_; apply go 300; repeat' (first | apply And.intro | intro _); all_goals try (first | (show Here _ _ _ _; try (exfalso; omega)) | exact trivial | omega | kernel_rfl | exact rfl))
    | (refine vcall (v := .bd (inN o.surge 0 16) inferInstance) rfl rfl (by kernel_rfl) (within o.surge 0 16) (by exact fun _ _ => trivial) ?_; apply go 300; repeat' (first | apply And.intro | intro _); all_goals try (first | (show Here _ _ _ _; try (exfalso; omega)) | exact trivial | omega | kernel_rfl | exact rfl))
    | (refine vcall (v := .bd (inN o.slack 0 16) inferInstance) rfl rfl (by kernel_rfl) (within o.slack 0 16) (by exact fun _ _ => trivial) ?_; apply go 300; repeat' (first | apply And.intro | intro _); all_goals try (first | (show Here _ _ _ _; try (exfalso; omega)) | exact trivial | omega | kernel_rfl | exact rfl))
    | (refine vdraw (flagsOf _) (by kernel_rfl) (by decide +kernel) (flags_len _) ?_; apply go 300; repeat' (first | apply And.intro | intro _); all_goals try (first | (show Here _ _ _ _; try (exfalso; omega)) | exact trivial | omega | kernel_rfl | exact rfl))
    | (refine vcallD (v := .int .u64 (templH o)) rfl rfl (by kernel_rfl) (Template o a a' c c' hn hsz) (by exact fun _ h => hw.st h) ?_; apply go 300; repeat' (first | apply And.intro | intro _); all_goals try (first | (show Here _ _ _ _; try (exfalso; omega)) | exact trivial | omega | kernel_rfl | exact rfl))
    | (unfold inI64; omega)
    | exact vc1 (bs := []) rfl rfl (List.nil_sublist _) (wpost0 (by (repeat' split) <;> first | rfl | (exfalso; omega) | (simp only [ek, tl_empty] at *; first | (exfalso; omega) | (exfalso; simp_all; done) | (exfalso; simp_all; omega))))
    | exact vc1 (bs := []) rfl rfl (List.nil_sublist _) (wpost1 (n := 8) (by (repeat' split) <;> first | rfl | (exfalso; omega) | (simp only [ek, tl_empty] at *; first | (exfalso; omega) | (exfalso; simp_all; done) | (exfalso; simp_all; omega))) (by decide))
    | exact vc1 (bs := []) rfl rfl (List.nil_sublist _) (wpost1 (n := 13) (by (repeat' split) <;> first | rfl | (exfalso; omega) | (simp only [ek, tl_empty] at *; first | (exfalso; omega) | (exfalso; simp_all; done) | (exfalso; simp_all; omega))) (by decide))
    | exact vc1 (bs := []) rfl rfl (List.nil_sublist _) (wpost1 (n := 14) (by (repeat' split) <;> first | rfl | (exfalso; omega) | (simp only [ek, tl_empty] at *; first | (exfalso; omega) | (exfalso; simp_all; done) | (exfalso; simp_all; omega))) (by decide)))
theorem checkLikes (o : Oj) (a a' : Option Addr) (c c' : Nat) (hn : o.labs.length ≤ 4398046511000) (hsz : Sz o) : Con Tryd.prog 80 [(ov o a c a' c').val] [] (fun w => LabAt w a o.labs) (WPost (chkLikes o)) := by
  by_cases h : ¬ (o.kind = 1 ∨ o.kind = 2 ∨ o.kind = 3)
  · exact likes0 o a a' c c' hn hsz h
  rcases Classical.not_not.1 h with h | h | h
  · exact likes1 o a a' c c' hn hsz h
  · exact likes2 o a a' c c' hn hsz h
  · exact likes3 o a a' c c' hn hsz h
end Go.Fl
