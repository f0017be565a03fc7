/-
  What is wrong with an object that is to be made; the chapter's example. No condition beyond its sizes.
-/
import Derived.Test.YtiepomeokhjcfaaGreatDoorObjK
import Derived.Test.YtiepomeokhjcfaaGreatDoorObjH
namespace Go.Fl
open Go.Proofs Go.RowKit
set_option maxRecDepth 10000
set_option maxHeartbeats 40000000

theorem def_sz (o : Oj) (h : Sz o) : Sz (defO o) := by
  unfold Sz at h ⊢
  rw [def_labs]
  refine ⟨?_, h.2⟩
  have : (defO o).image = o.image := by unfold defO; (repeat' split) <;> rfl
  rw [this]; exact h.1
theorem New (o : Oj) (a a' : Option Addr) (c c' : Nat) (hn : o.labs.length ≤ 4398046511000) (hn' : o.sel.length ≤ 4398046511000) (hsz : Sz o) : RetIf Tryz.prog 13 [(ov o a c a' c').val] (fun w => (LabAt w a o.labs ∧ LabAt w a' o.sel) ∧ Laid w) (errN (newO o)) := by
  refine ret_start1 Tryz.func13 rfl rfl rfl (fun w0 hw => ?_)
  obtain ⟨⟨hw, hw'⟩, hL⟩ := hw
  refine vstart [(0, ov o a c a' c')] [] [] ?_
  refine vwith (pt := .run _) _ _ [] tabOk lent_nil fun go => ?_
  apply go 300
  repeat' (first | apply And.intro | intro _)
  all_goals try (first | (show Here _ _ _ _; try (exfalso; omega)) | exact trivial | omega | kernel_rfl | exact rfl)
  · refine vr1 rfl rfl ?_
    have : newO o = 11 := by unfold newO; rw [if_pos ‹_›]
    rw [this]; rfl
  have h5 : ¬ o.kind = 5 := ‹_›
  refine vcc rfl rfl (by kernel_rfl) (Default o a a' c c' hn hn' hsz) (by exact fun _ h => ⟨hw.st h, hw'.st h⟩) ?_
  rintro _ q1 ⟨x1, d1, x2, d2, rfl, hd1, hd2, hr1, hr2⟩
  refine ⟨ov (defO o) x1 d1 x2 d2, rfl, ?_⟩
  have hC := CheckO (defO o) x1 x2 d1 d2 (by rw [def_labs]; exact hn) (by rw [def_sel]; exact hn') (def_sz o hsz)
  have e1 : newO o = if chkO (defO o) ≠ 0 then chkO (defO o) else if fresh o then 0 else 14 := by unfold newO; rw [if_neg h5]
  apply go 300
  repeat' (first | apply And.intro | intro _)
  all_goals try (first | (show Here _ _ _ _; try (exfalso; omega)) | exact trivial | omega | kernel_rfl | exact rfl)
  by_cases h0 : chkO (defO o) = 0
  · rw [show errN (chkO (defO o)) = (V.raw .nilIface).val from by unfold errN; rw [if_pos h0]; rfl] at hC
    refine vcall (v := .raw .nilIface) rfl rfl (by kernel_rfl) hC (by exact fun _ h => ⟨⟨hr1 _ _ _ _ (fun y hy => by simp [hy]) h, hr2 _ _ _ _ (fun y hy => by simp [hy]) h⟩, hL.st h⟩) ?_
    apply go 400
    repeat' (first | apply And.intro | intro _)
    all_goals try (first | (show Here _ _ _ _; try (exfalso; omega)) | exact trivial | omega | kernel_rfl | exact rfl)
    all_goals first
      | (refine vr1 rfl rfl ?_; rw [e1, if_neg (not_not_intro h0), if_pos (by unfold fresh; simp_all [tl_empty])]; rfl)
      | (refine vr1 rfl rfl ?_; rw [e1, if_neg (not_not_intro h0), if_neg (by unfold fresh; simp_all [tl_empty])]; rfl)
  · rw [show errN (chkO (defO o)) = (V.ifc 79 (.int .i64 (chkO (defO o)))).val from by unfold errN; rw [if_neg h0]; rfl] at hC
    refine vcall (v := .ifc 79 (.int .i64 (chkO (defO o)))) rfl rfl (by kernel_rfl) hC (by exact fun _ h => ⟨⟨hr1 _ _ _ _ (fun y hy => by simp [hy]) h, hr2 _ _ _ _ (fun y hy => by simp [hy]) h⟩, hL.st h⟩) ?_
    apply go 300
    repeat' (first | apply And.intro | intro _)
    all_goals try (first | (show Here _ _ _ _; try (exfalso; omega)) | exact trivial | omega | kernel_rfl | exact rfl)
    refine vr1 rfl rfl ?_
    rw [e1, if_pos h0]; unfold errN; rw [if_neg h0]; rfl

theorem dep_facts : newO depO = 0 ∧ (defO depO).surge = 1 ∧ (defO depO).rise = 1 ∧ (defO depO).fall = 1 ∧ chkO (defO depO) = 0 := by decide +kernel
theorem works : RetIf Tryz.prog 36 [] Laid (.bool true) := by
  refine ret_start0 Tryz.func36 rfl rfl (fun w0 hL => ?_)
  refine vstart [] [] [] ?_
  refine vwith (pt := .run _) _ _ [] tabOk lent_nil fun go => ?_
  have hsz : Sz depO := ⟨by decide, fun x hx => by cases hx⟩
  obtain ⟨f1, f2, f3, f4, f5⟩ := dep_facts
  apply go 300
  repeat' (first | apply And.intro | intro _)
  all_goals try (first | (show Here _ _ _ _; try (exfalso; omega)) | exact trivial | omega | kernel_rfl | exact rfl)
  refine vcall (v := ov depO none 0 none 0) rfl rfl (by kernel_rfl) deploy (by exact fun _ _ => trivial) ?_
  apply go 300
  repeat' (first | apply And.intro | intro _)
  all_goals try (first | (show Here _ _ _ _; try (exfalso; omega)) | exact trivial | omega | kernel_rfl | exact rfl)
  refine vcc rfl rfl (by kernel_rfl) (Default depO none none 0 0 (by decide) (by decide) hsz) (by exact fun w _ => ⟨labAt_none w, labAt_none w⟩) ?_
  rintro _ q1 ⟨x1, d1, x2, d2, rfl, hd1, hd2, hr1, hr2⟩
  refine ⟨ov (defO depO) x1 d1 x2 d2, rfl, ?_⟩
  have hN := New depO none none 0 0 (by decide) (by decide) hsz
  rw [f1] at hN
  have hC := CheckO (defO depO) x1 x2 d1 d2 (by rw [def_labs]; decide) (by rw [def_sel]; decide) (def_sz _ hsz)
  rw [f5] at hC
  generalize defO depO = dd at *
  apply go 300
  repeat' (first | apply And.intro | intro _)
  all_goals try (first | (show Here _ _ _ _; try (exfalso; omega)) | exact trivial | omega | kernel_rfl | exact rfl)
  refine vcall (v := ov depO none 0 none 0) rfl rfl (by kernel_rfl) deploy (by exact fun _ _ => trivial) ?_
  apply go 300
  repeat' (first | apply And.intro | intro _)
  all_goals try (first | (show Here _ _ _ _; try (exfalso; omega)) | exact trivial | omega | kernel_rfl | exact rfl)
  refine vcall (v := .raw .nilIface) rfl rfl (by kernel_rfl) hN (by exact fun w h => ⟨⟨labAt_none w, labAt_none w⟩, hL.st h⟩) ?_
  apply go 300
  repeat' (first | apply And.intro | intro _)
  all_goals try (first | (show Here _ _ _ _; try (exfalso; omega)) | exact trivial | omega | kernel_rfl | exact rfl)
  refine vcall (v := .raw .nilIface) rfl rfl (by kernel_rfl) hC (by exact fun _ h => ⟨⟨hr1 _ _ _ _ (fun y hy => by simp [hy]) h, hr2 _ _ _ _ (fun y hy => by simp [hy]) h⟩, hL.st h⟩) ?_
  apply go 300
  repeat' (first | apply And.intro | intro _)
  all_goals try (first | (show Here _ _ _ _; try (exfalso; omega)) | exact trivial | omega | kernel_rfl | exact rfl)
  exact vr1 rfl rfl rfl
end Go.Fl
