/-
  Objects: lists held against each other, copies. No condition beyond the lists' sizes.
-/
import Derived.Test.YtiepomeokhjcfaaDoorObjA
namespace Go.Fl
open Go.Proofs Go.RowKit
set_option maxRecDepth 10000
set_option maxHeartbeats 4000000

theorem labAt_none (w : World) : LabAt w none [] := ⟨fun _ _ h => (by cases h), fun h => absurd rfl h⟩
theorem EqualL (L M : List Lab) (a b : Option Addr) (c c' : Nat) (hn : L.length ≤ 4398046511000) : RetIf Tryd.prog 81 [(labV L a c).val, (labV M b c').val] (fun w => LabAt w a L ∧ LabAt w b M) (V.bd (sameL L M = true) inferInstance).val := by
  refine ret_start2 Tryd.func81 rfl rfl rfl (fun w0 hw => ?_)
  obtain ⟨hw, hv⟩ := hw
  refine vstart [(0, labV L a c), (1, labV M b c')] [] [] ?_
  refine vwith (pt := .run _) _ _ [] tabOk lent_nil fun go => ?_
  apply go 300
  repeat' (first | apply And.intro | intro _)
  all_goals try (first | (show Here _ _ _ _; try (exfalso; omega)) | exact trivial | omega | kernel_rfl | exact rfl)
  · rename_i hne
    exact vr1 rfl rfl (bd_f (by rw [sameL_len hne]; decide))
  rename_i hne
  have hlen : L.length = M.length := by omega
  refine vrounds (fun i : Nat => i ≤ L.length ∧ sameL (L.drop i) (M.drop i) = sameL L M) (fun i => L.length - i) (fun i => [(0, labV L a c), (1, labV M b c'), (12, .nat L.length), (13, .nat i)]) (fun _ => []) (fun _ => []) 0 (fun i hI ih => ?_) ⟨Nat.zero_le _, rfl⟩ ⟨rfl, rfl, rfl, rfl, trivial⟩ (List.Sublist.refl _)
  obtain ⟨hi, hI⟩ := hI
  by_cases hl : i < L.length
  · obtain ⟨b1, off1, rfl⟩ := hw.is (by rintro rfl; simp at hl)
    obtain ⟨b2, off2, rfl⟩ := hv.is (by rintro rfl; rw [hlen] at hl; simp at hl)
    have hR := hw.go b1 off1 rfl
    have hV := hv.go b2 off2 rfl
    refine vre [(0, .sl false 0 b1 off1 2 none L.length c), (1, .sl false 1 b2 off2 2 none M.length c'), (12, .nat L.length), (13, .nat i)] rfl ?_
    refine vwith (pt := .run _) _ _ [⟨b1, off1, .arr cdL L⟩, ⟨b2, off2, .arr cdL M⟩] tabOk (lent_lab (lent_lab lent_nil List.not_mem_nil hV) List.not_mem_nil hR) fun go => ?_
    apply go 300
    repeat' (first | apply And.intro | intro _)
    all_goals try (first | (show Here _ _ _ _; try (exfalso; omega)) | exact trivial | omega | kernel_rfl | exact rfl)
    refine vdraw (flagsOf _) (by kernel_rfl) (by decide +kernel) (flags_len _) ?_
    apply go 300
    repeat' (first | apply And.intro | intro _)
    all_goals try (first | (show Here _ _ _ _; try (exfalso; omega)) | exact trivial | omega | kernel_rfl | exact rfl)
    · rename_i y1 h1 y2 h2 h3
      have hs := sameL_drop h1 h2
      refine vr1 rfl rfl (bd_f ?_)
      rw [← hI, hs]
      intro h
      simp [eqLab] at h
      exact h3 ⟨h.1.1, h.1.2, trivial⟩
    · rename_i y1 h1 y2 h2 h3
      have hs := sameL_drop h1 h2
      refine vweak _ _ _ (ih (i + 1) ⟨by omega, ?_⟩ (by omega)) ⟨rfl, rfl, rfl, rfl, trivial⟩ (List.nil_sublist _)
      rw [← hI, hs]
      have : eqLab y1 y2 = true := by
        have h3 := Classical.not_not.1 h3
        simp [eqLab, h3.1, h3.2.1]
      rw [this, Bool.true_and]
  · apply go 300
    repeat' (first | apply And.intro | intro _)
    all_goals try (first | (show Here _ _ _ _; try (exfalso; omega)) | exact trivial | omega | kernel_rfl | exact rfl)
    refine vr1 rfl rfl (bd_t ?_)
    rw [← hI, List.drop_eq_nil_iff.2 (by omega), List.drop_eq_nil_iff.2 (by omega)]; rfl
theorem SameObject (o p : Oj) (x y x' y' : Option Addr) (c d c' d' : Nat) (h1 : o.labs.length ≤ 4398046511000) (h2 : o.sel.length ≤ 4398046511000) : RetIf Tryd.prog 16 [(ov o x c y d).val, (ov p x' c' y' d').val]
    (fun w => (LabAt w x o.labs ∧ LabAt w y o.sel) ∧ LabAt w x' p.labs ∧ LabAt w y' p.sel) (V.bd (sameP o p) inferInstance).val := by
  refine ret_start2 Tryd.func16 rfl rfl rfl (fun w0 hw => ?_)
  obtain ⟨⟨ha, hb⟩, ha', hb'⟩ := hw
  refine vstart [(0, ov o x c y d), (1, ov p x' c' y' d')] [] [] ?_
  refine vwith (pt := .run _) _ _ [] tabOk lent_nil fun go => ?_
  apply go 300
  repeat' (first | apply And.intro | intro _)
  all_goals try (first | (show Here _ _ _ _; try (exfalso; omega)) | exact trivial | omega | kernel_rfl | exact rfl)
  refine vcall (v := .bd (bareP o p) inferInstance) rfl rfl (by kernel_rfl) (bare o p x y x' y' c d c' d') (by exact fun _ _ => trivial) ?_
  apply go 300
  repeat' (first | apply And.intro | intro _)
  all_goals try (first | (show Here _ _ _ _; try (exfalso; omega)) | exact trivial | omega | kernel_rfl | exact rfl)
  · refine vcall (v := .bd (sameL o.labs p.labs = true) inferInstance) rfl rfl (by kernel_rfl) (SameLabels o.labs p.labs x x' c c' (by omega)).bd (by exact fun _ h => ⟨ha.st h, ha'.st h⟩) ?_
    apply go 300
    repeat' (first | apply And.intro | intro _)
    all_goals try (first | (show Here _ _ _ _; try (exfalso; omega)) | exact trivial | omega | kernel_rfl | exact rfl)
    · refine vcall (v := .bd (sameL o.sel p.sel = true) inferInstance) rfl rfl (by kernel_rfl) (SameLabels o.sel p.sel y y' d d' (by omega)).bd (by exact fun _ h => ⟨hb.st h, hb'.st h⟩) ?_
      apply go 300
      repeat' (first | apply And.intro | intro _)
      all_goals try (first | (show Here _ _ _ _; try (exfalso; omega)) | exact trivial | omega | kernel_rfl | exact rfl)
      all_goals exact vr1 rfl rfl (by first | (refine bd_bd ?_; unfold sameP; simp_all) | (refine bd_t ?_; unfold sameP; simp_all) | (refine bd_f ?_; unfold sameP; simp_all))
    · exact vr1 rfl rfl (by first | (refine bd_bd ?_; unfold sameP; simp_all) | (refine bd_t ?_; unfold sameP; simp_all) | (refine bd_f ?_; unfold sameP; simp_all))
  · exact vr1 rfl rfl (by first | (refine bd_bd ?_; unfold sameP; simp_all) | (refine bd_t ?_; unfold sameP; simp_all) | (refine bd_f ?_; unfold sameP; simp_all))
theorem CopyObject (o : Oj) (a a' : Option Addr) (c c' : Nat) (h1 : o.labs.length ≤ 4398046511000) (h2 : o.sel.length ≤ 4398046511000) : Con Tryd.prog 19 [(ov o a c a' c').val] [] (fun w => LabAt w a o.labs ∧ LabAt w a' o.sel) (OPost o) := by
  refine con_start1 Tryd.func19 rfl rfl rfl (fun w0 hw => ?_)
  refine vstart [(0, ov o a c a' c')] [] [] ?_
  refine vwith (pt := .run _) _ _ [] tabOk lent_nil fun go => ?_
  apply go 300
  repeat' (first | apply And.intro | intro _)
  all_goals try (first | (show Here _ _ _ _; try (exfalso; omega)) | exact trivial | omega | kernel_rfl | exact rfl)
  refine vcc rfl rfl (by kernel_rfl) (CopyLabels o.labs a c h1) (by exact fun _ h => hw.1.st h) ?_
  intro v1 q1 hq1
  obtain ⟨x1, d1, rfl, hd1, hr1⟩ := labs_out hq1
  refine ⟨labV o.labs x1 d1, rfl, ?_⟩
  apply go 300
  repeat' (first | apply And.intro | intro _)
  all_goals try (first | (show Here _ _ _ _; try (exfalso; omega)) | exact trivial | omega | kernel_rfl | exact rfl)
  refine vcc rfl rfl (by kernel_rfl) (CopyLabels o.sel a' c' h2) (by exact fun _ h => hw.2.st h) ?_
  intro v2 q2 hq2
  obtain ⟨x2, d2, rfl, hd2, hr2⟩ := labs_out hq2
  refine ⟨labV o.sel x2 d2, rfl, ?_⟩
  apply go 300
  repeat' (first | apply And.intro | intro _)
  all_goals try (first | (show Here _ _ _ _; try (exfalso; omega)) | exact trivial | omega | kernel_rfl | exact rfl)
  refine vcc1 (bs := q2 ++ q1) tabOk (by exact rfl) (by exact rfl) (by exact rfl) (by exact rfl) (by exact rfl) (by rw [List.append_nil]; exact List.sublist_append_right _ _) ?_
  exact ⟨x1, d1, x2, d2, rfl, hd1, hd2, hr1.mono (fun y hy => List.mem_append_right _ hy), hr2.mono (fun y hy => List.mem_append_left _ hy)⟩
/-- The chapter's example of a deployment. -/
def depO : Oj := { base ⟨2, ⟨#[119, 101, 98]⟩, 0, 0, [], 0, 0, false, false, false, 0, ⟨#[]⟩, ⟨#[]⟩, ⟨#[]⟩, 0, false, false, 0, 0, ⟨#[]⟩, 0, 0, 0, 0, 0, false, 0, [], 0, ⟨#[]⟩, 0, 0⟩ with count := 2, ncpu := 100, nmem := 8, image := ⟨#[118, 49]⟩ }
theorem deploy : RetIf Tryd.prog 44 [] (fun _ => True) (ov depO none 0 none 0).val := by
  refine ret_start0 Tryd.func44 rfl rfl (fun w0 hw => ?_)
  refine vstart [] [] [] ?_
  refine vwith (pt := .run _) _ _ [] tabOk lent_nil fun go => ?_
  apply go 300
  repeat' (first | apply And.intro | intro _)
  all_goals try (first | (show Here _ _ _ _; try (exfalso; omega)) | exact trivial | omega | kernel_rfl | exact rfl)
  exact vrc1 tabOk (by exact rfl) (by exact rfl) (by exact rfl) (by exact rfl) (by exact rfl) (by exact rfl)
end Go.Fl
