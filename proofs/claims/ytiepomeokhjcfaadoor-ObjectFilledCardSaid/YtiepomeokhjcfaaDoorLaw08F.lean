/-
  The statement ObjectFilled, walked. No condition beyond the object's sizes.
-/
import Derived.Test.YtiepomeokhjcfaaDoorObjN
namespace Go.Fl
open Go.Proofs Go.RowKit
set_option maxRecDepth 10000
set_option maxHeartbeats 40000000

theorem new_zero {o : Oj} (h : newO o = 0) : chkO (defO o) = 0 := by
  unfold newO at h
  split at h
  · cases h
  · split at h
    · exact h
    · rename_i h1; exact Classical.not_not.1 h1
theorem law08Filled (o : Oj) (a a' : Option Addr) (c c' : Nat) (hn : o.labs.length ≤ 4398046511000) (hn' : o.sel.length ≤ 4398046511000) (hsz : Sz o) : RetIf Tryd.prog 4 [(ov o a c a' c').val] (fun w => (LabAt w a o.labs ∧ LabAt w a' o.sel) ∧ Laid w) (.bool true) := by
  refine ret_start1 Tryd.func4 rfl rfl rfl (fun w0 hw => ?_)
  obtain ⟨⟨hw, hw'⟩, hL⟩ := hw
  refine vstart [(0, ov o a c a' c')] [] [] ?_
  refine vwith (pt := .run _) _ _ [] tabOk lent_nil fun go => ?_
  apply go 300
  repeat' (first | apply And.intro | intro _)
  all_goals try (first | (show Here _ _ _ _; try (exfalso; omega)) | exact trivial | omega | kernel_rfl | exact rfl)
  refine vcc rfl rfl (by kernel_rfl) (Default o a a' c c' hn hn' hsz) (by exact fun _ h => ⟨hw.st h, hw'.st h⟩) ?_
  rintro _ q1 ⟨x1, d1, x2, d2, rfl, hd1, hd2, hr1, hr2⟩
  refine ⟨ov (defO o) x1 d1 x2 d2, rfl, ?_⟩
  have hdl := def_labs o
  have hds := def_sel o
  have hdd := def_def o
  have hdz := def_sz o hsz
  have hback := def_back o
  have hN := New o a a' c c' hn hn' hsz
  have hC := CheckO (defO o) x1 x2 d1 d2 (by rw [def_labs]; exact hn) (by rw [def_sel]; exact hn') hdz
  have hC0 : newO o = 0 → chkO (defO o) = 0 := new_zero
  generalize defO o = d at *
  have hn2 : d.labs.length ≤ 4398046511000 := by rw [hdl]; exact hn
  have hn3 : d.sel.length ≤ 4398046511000 := by rw [hds]; exact hn'
  have hD := Default d x1 x2 d1 d2 hn2 hn3 hdz
  rw [hdd] at hD
  have hS : ∀ x3 x4 d3 d4, RetIf Tryd.prog 16 [(ov d x3 d3 x4 d4).val, (ov d x1 d1 x2 d2).val] (fun w => (LabAt w x3 d.labs ∧ LabAt w x4 d.sel) ∧ LabAt w x1 d.labs ∧ LabAt w x2 d.sel) (.bool true) := fun x3 x4 d3 d4 => by
    have := SameObject d d x3 x4 x1 x2 d3 d4 d1 d2 hn2 hn3
    rw [bd_t (sameP_id d)] at this
    exact this
  apply go 300
  repeat' (first | apply And.intro | intro _)
  all_goals try (first | (show Here _ _ _ _; try (exfalso; omega)) | exact trivial | omega | kernel_rfl | exact rfl)
  rename_i b1 b3
  refine vanyE [0, 1] (ι := Hs) (fun _ => [(1, .ptr true 0 b1 0 1 0 0), (2, .bl false), (3, .ptr true 1 b3 0 1 0 0), (25, .bl false)]) (fun _ => [⟨b1, 38, .var (ocs o (labV o.labs a c) (labV o.sel a' c')), []⟩, ⟨b3, 38, .var (ocs d (labV d.labs x1 d1) (labV d.sel x2 d2)), []⟩]) (fun q => (q1 ++ []) ++ q) (fun _ => True) (by kernel_rfl) rfl ?_ (fun hend => ?_)
  rotate_left
  · by_cases h0 : newO o = 0
    · rw [show errN (newO o) = .nilIface from by unfold errN; rw [if_pos h0]] at hN
      rw [show errN (chkO d) = .nilIface from by unfold errN; rw [if_pos (hC0 h0)]] at hC
      refine any_step [0] (by kernel_rfl) rfl (by kernel_rfl) ?_
      intro i hi
      simp only [List.mem_cons, List.not_mem_nil, or_false] at hi
      subst hi
      refine a3 (xs := []) rfl (by kernel_rfl) rfl works (by exact fun _ h => hL.st h) ?_
      apply any_first 1; exact rfl; exact rfl; exact rfl; exact rfl; kernel_rfl; first | (apply pv; exact rfl; exact rfl) | (first | (apply pv; exact rfl; exact rfl) | (apply p_ls; exact rfl; kernel_rfl) | (apply p_ll; exact rfl; kernel_rfl) | (apply p_ic; exact rfl; omega) | (apply p_s1; exact rfl; omega; omega) | (apply p_sb; exact rfl; exact rfl; omega; omega) | (apply p_ad; exact rfl; exact rfl; omega) | (apply p_be; exact rfl; exact rfl; kernel_rfl) | (apply p_bn; exact rfl; exact rfl; kernel_rfl) | (apply p_en; exact rfl; exact rfl; kernel_rfl) | (apply p_nn; exact rfl; exact rfl; kernel_rfl) | (apply p_cv; exact rfl; exact int_of tabOk rfl; kernel_rfl) | (apply p_mi; exact rfl; exact p_mi_ok (kind_of tabOk rfl) rfl) | (apply p_fa; exact rfl; exact field_of tabOk rfl) | (apply p_nc; exact rfl) | (apply p_bk; exact rfl; omega; omega; kernel_rfl) | (apply p_by; exact rfl; exact rfl; omega; kernel_rfl) | (apply p_ia; exact rfl; exact rfl; exact elem_of tabOk rfl; omega) | (apply p_ar; exact rfl; exact rfl; exact rfl) | (apply p_bd tabOk; exact rfl; exact rfl; exact rfl; exact ⟨rfl, rfl⟩))
      apply any_first 2; exact rfl; exact rfl; exact rfl; exact rfl; kernel_rfl; apply pv; exact rfl; exact rfl
      apply any_firstLG 3; exact rfl; exact rfl; exact rfl; exact rfl; exact rfl; exact rfl; kernel_rfl; first | (apply l1 0; exact shape_of tabOk rfl; exact rfl; exact rfl; exact rfl; exact rfl) | (apply ln 0; exact shape_of tabOk rfl; exact rfl; exact rfl; exact rfl; exact rfl) | (apply l1 1; exact shape_of tabOk rfl; exact rfl; exact rfl; exact rfl; exact rfl) | (apply ln 1; exact shape_of tabOk rfl; exact rfl; exact rfl; exact rfl; exact rfl)
      apply any_firstLG 5; exact rfl; exact rfl; exact rfl; exact rfl; exact rfl; exact rfl; kernel_rfl; first | (apply l1 0; exact shape_of tabOk rfl; exact rfl; exact rfl; exact rfl; exact rfl) | (apply ln 0; exact shape_of tabOk rfl; exact rfl; exact rfl; exact rfl; exact rfl) | (apply l1 1; exact shape_of tabOk rfl; exact rfl; exact rfl; exact rfl; exact rfl) | (apply ln 1; exact shape_of tabOk rfl; exact rfl; exact rfl; exact rfl; exact rfl)
      refine any_step [4] (by kernel_rfl) rfl (by kernel_rfl) ?_
      intro i hi
      simp only [List.mem_cons, List.not_mem_nil, or_false] at hi
      subst hi
      first | (apply agy; exact rfl; exact rfl) | skip
      refine ac (xs := [.tmp 10]) rfl (by kernel_rfl) rfl hD (by exact fun w hst => ⟨hr1 _ _ _ _ (fun y hy => by simp [hy]) hst, hr2 _ _ _ _ (fun y hy => by simp [hy]) hst⟩) ?_
      rintro _ q2 ⟨x3, d3, x4, d4, rfl, hd3, hd4, hr3, hr4⟩
      refine any_step [6] (by kernel_rfl) rfl (by kernel_rfl) ?_
      intro i hi
      simp only [List.mem_cons, List.not_mem_nil, or_false] at hi
      subst hi
      first | (apply agy; exact rfl; exact rfl) | skip
      refine a3 (xs := [.tmp 11, .tmp 12]) rfl (by kernel_rfl) rfl (hS x3 x4 d3 d4) (by exact fun w hst => ⟨⟨hr3 _ _ _ _ (fun y hy => by simp [hy]) hst, hr4 _ _ _ _ (fun y hy => by simp [hy]) hst⟩, hr1 _ _ _ _ (fun y hy => by simp [hy]) hst, hr2 _ _ _ _ (fun y hy => by simp [hy]) hst⟩) ?_
      apply any_firstG 7; exact rfl; exact rfl; exact rfl; exact rfl; exact rfl; exact rfl; kernel_rfl; first | (apply pv; exact rfl; exact rfl) | (first | (apply pv; exact rfl; exact rfl) | (apply p_ls; exact rfl; kernel_rfl) | (apply p_ll; exact rfl; kernel_rfl) | (apply p_ic; exact rfl; omega) | (apply p_s1; exact rfl; omega; omega) | (apply p_sb; exact rfl; exact rfl; omega; omega) | (apply p_ad; exact rfl; exact rfl; omega) | (apply p_be; exact rfl; exact rfl; kernel_rfl) | (apply p_bn; exact rfl; exact rfl; kernel_rfl) | (apply p_en; exact rfl; exact rfl; kernel_rfl) | (apply p_nn; exact rfl; exact rfl; kernel_rfl) | (apply p_cv; exact rfl; exact int_of tabOk rfl; kernel_rfl) | (apply p_mi; exact rfl; exact p_mi_ok (kind_of tabOk rfl) rfl) | (apply p_fa; exact rfl; exact field_of tabOk rfl) | (apply p_nc; exact rfl) | (apply p_bk; exact rfl; omega; omega; kernel_rfl) | (apply p_by; exact rfl; exact rfl; omega; kernel_rfl) | (apply p_ia; exact rfl; exact rfl; exact elem_of tabOk rfl; omega) | (apply p_ar; exact rfl; exact rfl; exact rfl) | (apply p_bd tabOk; exact rfl; exact rfl; exact rfl; exact ⟨rfl, rfl⟩))
      apply any_first 8; exact rfl; exact rfl; exact rfl; exact rfl; kernel_rfl; first | (apply pv; exact rfl; exact rfl) | (first | (apply pv; exact rfl; exact rfl) | (apply p_ls; exact rfl; kernel_rfl) | (apply p_ll; exact rfl; kernel_rfl) | (apply p_ic; exact rfl; omega) | (apply p_s1; exact rfl; omega; omega) | (apply p_sb; exact rfl; exact rfl; omega; omega) | (apply p_ad; exact rfl; exact rfl; omega) | (apply p_be; exact rfl; exact rfl; kernel_rfl) | (apply p_bn; exact rfl; exact rfl; kernel_rfl) | (apply p_en; exact rfl; exact rfl; kernel_rfl) | (apply p_nn; exact rfl; exact rfl; kernel_rfl) | (apply p_cv; exact rfl; exact int_of tabOk rfl; kernel_rfl) | (apply p_mi; exact rfl; exact p_mi_ok (kind_of tabOk rfl) rfl) | (apply p_fa; exact rfl; exact field_of tabOk rfl) | (apply p_nc; exact rfl) | (apply p_bk; exact rfl; omega; omega; kernel_rfl) | (apply p_by; exact rfl; exact rfl; omega; kernel_rfl) | (apply p_ia; exact rfl; exact rfl; exact elem_of tabOk rfl; omega) | (apply p_ar; exact rfl; exact rfl; exact rfl) | (apply p_bd tabOk; exact rfl; exact rfl; exact rfl; exact ⟨rfl, rfl⟩))
      apply any_first 9; exact rfl; exact rfl; exact rfl; exact rfl; kernel_rfl; apply pv; exact rfl; exact rfl
      apply any_firstLG 10; exact rfl; exact rfl; exact rfl; exact rfl; exact rfl; exact rfl; kernel_rfl; first | (apply l1 0; exact shape_of tabOk rfl; exact rfl; exact rfl; exact rfl; exact rfl) | (apply ln 0; exact shape_of tabOk rfl; exact rfl; exact rfl; exact rfl; exact rfl) | (apply l1 1; exact shape_of tabOk rfl; exact rfl; exact rfl; exact rfl; exact rfl) | (apply ln 1; exact shape_of tabOk rfl; exact rfl; exact rfl; exact rfl; exact rfl)
      refine any_step [11] (by kernel_rfl) rfl (by kernel_rfl) ?_
      intro i hi
      simp only [List.mem_cons, List.not_mem_nil, or_false] at hi
      subst hi
      first | (apply agy; exact rfl; exact rfl) | skip
      refine a3 (xs := [.tmp 17]) rfl (by kernel_rfl) rfl hN (by exact fun _ h => ⟨⟨hw.st h, hw'.st h⟩, hL.st h⟩) ?_
      apply any_firstG 12; exact rfl; exact rfl; exact rfl; exact rfl; exact rfl; exact rfl; kernel_rfl; first | (apply pv; exact rfl; exact rfl) | (first | (apply pv; exact rfl; exact rfl) | (apply p_ls; exact rfl; kernel_rfl) | (apply p_ll; exact rfl; kernel_rfl) | (apply p_ic; exact rfl; omega) | (apply p_s1; exact rfl; omega; omega) | (apply p_sb; exact rfl; exact rfl; omega; omega) | (apply p_ad; exact rfl; exact rfl; omega) | (apply p_be; exact rfl; exact rfl; kernel_rfl) | (apply p_bn; exact rfl; exact rfl; kernel_rfl) | (apply p_en; exact rfl; exact rfl; kernel_rfl) | (apply p_nn; exact rfl; exact rfl; kernel_rfl) | (apply p_cv; exact rfl; exact int_of tabOk rfl; kernel_rfl) | (apply p_mi; exact rfl; exact p_mi_ok (kind_of tabOk rfl) rfl) | (apply p_fa; exact rfl; exact field_of tabOk rfl) | (apply p_nc; exact rfl) | (apply p_bk; exact rfl; omega; omega; kernel_rfl) | (apply p_by; exact rfl; exact rfl; omega; kernel_rfl) | (apply p_ia; exact rfl; exact rfl; exact elem_of tabOk rfl; omega) | (apply p_ar; exact rfl; exact rfl; exact rfl) | (apply p_bd tabOk; exact rfl; exact rfl; exact rfl; exact ⟨rfl, rfl⟩))
      apply any_firstG 13; exact rfl; exact rfl; exact rfl; exact rfl; exact rfl; exact rfl; kernel_rfl; first | (apply pv; exact rfl; exact rfl) | (first | (apply pv; exact rfl; exact rfl) | (apply p_ls; exact rfl; kernel_rfl) | (apply p_ll; exact rfl; kernel_rfl) | (apply p_ic; exact rfl; omega) | (apply p_s1; exact rfl; omega; omega) | (apply p_sb; exact rfl; exact rfl; omega; omega) | (apply p_ad; exact rfl; exact rfl; omega) | (apply p_be; exact rfl; exact rfl; kernel_rfl) | (apply p_bn; exact rfl; exact rfl; kernel_rfl) | (apply p_en; exact rfl; exact rfl; kernel_rfl) | (apply p_nn; exact rfl; exact rfl; kernel_rfl) | (apply p_cv; exact rfl; exact int_of tabOk rfl; kernel_rfl) | (apply p_mi; exact rfl; exact p_mi_ok (kind_of tabOk rfl) rfl) | (apply p_fa; exact rfl; exact field_of tabOk rfl) | (apply p_nc; exact rfl) | (apply p_bk; exact rfl; omega; omega; kernel_rfl) | (apply p_by; exact rfl; exact rfl; omega; kernel_rfl) | (apply p_ia; exact rfl; exact rfl; exact elem_of tabOk rfl; omega) | (apply p_ar; exact rfl; exact rfl; exact rfl) | (apply p_bd tabOk; exact rfl; exact rfl; exact rfl; exact ⟨rfl, rfl⟩))
      apply any_firstLG 14; exact rfl; exact rfl; exact rfl; exact rfl; exact rfl; exact rfl; kernel_rfl; first | (apply l1 0; exact shape_of tabOk rfl; exact rfl; exact rfl; exact rfl; exact rfl) | (apply ln 0; exact shape_of tabOk rfl; exact rfl; exact rfl; exact rfl; exact rfl) | (apply l1 1; exact shape_of tabOk rfl; exact rfl; exact rfl; exact rfl; exact rfl) | (apply ln 1; exact shape_of tabOk rfl; exact rfl; exact rfl; exact rfl; exact rfl)
      refine any_step [15] (by kernel_rfl) rfl (by kernel_rfl) ?_
      intro i hi
      simp only [List.mem_cons, List.not_mem_nil, or_false] at hi
      subst hi
      first | (apply agy; exact rfl; exact rfl) | skip
      refine a3 (xs := [.tmp 21]) rfl (by kernel_rfl) rfl hC (by exact fun w hst => ⟨⟨hr1 _ _ _ _ (fun y hy => by simp [hy]) hst, hr2 _ _ _ _ (fun y hy => by simp [hy]) hst⟩, hL.st hst⟩) ?_
      apply any_firstG 16; exact rfl; exact rfl; exact rfl; exact rfl; exact rfl; exact rfl; kernel_rfl; first | (apply pv; exact rfl; exact rfl) | (first | (apply pv; exact rfl; exact rfl) | (apply p_ls; exact rfl; kernel_rfl) | (apply p_ll; exact rfl; kernel_rfl) | (apply p_ic; exact rfl; omega) | (apply p_s1; exact rfl; omega; omega) | (apply p_sb; exact rfl; exact rfl; omega; omega) | (apply p_ad; exact rfl; exact rfl; omega) | (apply p_be; exact rfl; exact rfl; kernel_rfl) | (apply p_bn; exact rfl; exact rfl; kernel_rfl) | (apply p_en; exact rfl; exact rfl; kernel_rfl) | (apply p_nn; exact rfl; exact rfl; kernel_rfl) | (apply p_cv; exact rfl; exact int_of tabOk rfl; kernel_rfl) | (apply p_mi; exact rfl; exact p_mi_ok (kind_of tabOk rfl) rfl) | (apply p_fa; exact rfl; exact field_of tabOk rfl) | (apply p_nc; exact rfl) | (apply p_bk; exact rfl; omega; omega; kernel_rfl) | (apply p_by; exact rfl; exact rfl; omega; kernel_rfl) | (apply p_ia; exact rfl; exact rfl; exact elem_of tabOk rfl; omega) | (apply p_ar; exact rfl; exact rfl; exact rfl) | (apply p_bd tabOk; exact rfl; exact rfl; exact rfl; exact ⟨rfl, rfl⟩))
      apply any_firstG 17; exact rfl; exact rfl; exact rfl; exact rfl; exact rfl; exact rfl; kernel_rfl; first | (apply pv; exact rfl; exact rfl) | (first | (apply pv; exact rfl; exact rfl) | (apply p_ls; exact rfl; kernel_rfl) | (apply p_ll; exact rfl; kernel_rfl) | (apply p_ic; exact rfl; omega) | (apply p_s1; exact rfl; omega; omega) | (apply p_sb; exact rfl; exact rfl; omega; omega) | (apply p_ad; exact rfl; exact rfl; omega) | (apply p_be; exact rfl; exact rfl; kernel_rfl) | (apply p_bn; exact rfl; exact rfl; kernel_rfl) | (apply p_en; exact rfl; exact rfl; kernel_rfl) | (apply p_nn; exact rfl; exact rfl; kernel_rfl) | (apply p_cv; exact rfl; exact int_of tabOk rfl; kernel_rfl) | (apply p_mi; exact rfl; exact p_mi_ok (kind_of tabOk rfl) rfl) | (apply p_fa; exact rfl; exact field_of tabOk rfl) | (apply p_nc; exact rfl) | (apply p_bk; exact rfl; omega; omega; kernel_rfl) | (apply p_by; exact rfl; exact rfl; omega; kernel_rfl) | (apply p_ia; exact rfl; exact rfl; exact elem_of tabOk rfl; omega) | (apply p_ar; exact rfl; exact rfl; exact rfl) | (apply p_bd tabOk; exact rfl; exact rfl; exact rfl; exact ⟨rfl, rfl⟩))
      apply any_first 18; exact rfl; exact rfl; exact rfl; exact rfl; kernel_rfl; first | (apply pv; exact rfl; exact rfl) | (first | (apply pv; exact rfl; exact rfl) | (apply p_ls; exact rfl; kernel_rfl) | (apply p_ll; exact rfl; kernel_rfl) | (apply p_ic; exact rfl; omega) | (apply p_s1; exact rfl; omega; omega) | (apply p_sb; exact rfl; exact rfl; omega; omega) | (apply p_ad; exact rfl; exact rfl; omega) | (apply p_be; exact rfl; exact rfl; kernel_rfl) | (apply p_bn; exact rfl; exact rfl; kernel_rfl) | (apply p_en; exact rfl; exact rfl; kernel_rfl) | (apply p_nn; exact rfl; exact rfl; kernel_rfl) | (apply p_cv; exact rfl; exact int_of tabOk rfl; kernel_rfl) | (apply p_mi; exact rfl; exact p_mi_ok (kind_of tabOk rfl) rfl) | (apply p_fa; exact rfl; exact field_of tabOk rfl) | (apply p_nc; exact rfl) | (apply p_bk; exact rfl; omega; omega; kernel_rfl) | (apply p_by; exact rfl; exact rfl; omega; kernel_rfl) | (apply p_ia; exact rfl; exact rfl; exact elem_of tabOk rfl; omega) | (apply p_ar; exact rfl; exact rfl; exact rfl) | (apply p_bd tabOk; exact rfl; exact rfl; exact rfl; exact ⟨rfl, rfl⟩))
      refine any_end (by kernel_rfl) ?_
      exact hend q2 _ _ trivial ⟨rfl, rfl, rfl, rfl, trivial⟩ (List.Perm.refl _)
    · rw [show errN (newO o) = .iface 79 (.int .i64 (newO o)) from by unfold errN; rw [if_neg h0]; rfl] at hN
      refine any_step [0] (by kernel_rfl) rfl (by kernel_rfl) ?_
      intro i hi
      simp only [List.mem_cons, List.not_mem_nil, or_false] at hi
      subst hi
      refine a3 (xs := []) rfl (by kernel_rfl) rfl works (by exact fun _ h => hL.st h) ?_
      apply any_first 1; exact rfl; exact rfl; exact rfl; exact rfl; kernel_rfl; first | (apply pv; exact rfl; exact rfl) | (first | (apply pv; exact rfl; exact rfl) | (apply p_ls; exact rfl; kernel_rfl) | (apply p_ll; exact rfl; kernel_rfl) | (apply p_ic; exact rfl; omega) | (apply p_s1; exact rfl; omega; omega) | (apply p_sb; exact rfl; exact rfl; omega; omega) | (apply p_ad; exact rfl; exact rfl; omega) | (apply p_be; exact rfl; exact rfl; kernel_rfl) | (apply p_bn; exact rfl; exact rfl; kernel_rfl) | (apply p_en; exact rfl; exact rfl; kernel_rfl) | (apply p_nn; exact rfl; exact rfl; kernel_rfl) | (apply p_cv; exact rfl; exact int_of tabOk rfl; kernel_rfl) | (apply p_mi; exact rfl; exact p_mi_ok (kind_of tabOk rfl) rfl) | (apply p_fa; exact rfl; exact field_of tabOk rfl) | (apply p_nc; exact rfl) | (apply p_bk; exact rfl; omega; omega; kernel_rfl) | (apply p_by; exact rfl; exact rfl; omega; kernel_rfl) | (apply p_ia; exact rfl; exact rfl; exact elem_of tabOk rfl; omega) | (apply p_ar; exact rfl; exact rfl; exact rfl) | (apply p_bd tabOk; exact rfl; exact rfl; exact rfl; exact ⟨rfl, rfl⟩))
      apply any_first 2; exact rfl; exact rfl; exact rfl; exact rfl; kernel_rfl; apply pv; exact rfl; exact rfl
      apply any_firstLG 3; exact rfl; exact rfl; exact rfl; exact rfl; exact rfl; exact rfl; kernel_rfl; first | (apply l1 0; exact shape_of tabOk rfl; exact rfl; exact rfl; exact rfl; exact rfl) | (apply ln 0; exact shape_of tabOk rfl; exact rfl; exact rfl; exact rfl; exact rfl) | (apply l1 1; exact shape_of tabOk rfl; exact rfl; exact rfl; exact rfl; exact rfl) | (apply ln 1; exact shape_of tabOk rfl; exact rfl; exact rfl; exact rfl; exact rfl)
      apply any_firstLG 5; exact rfl; exact rfl; exact rfl; exact rfl; exact rfl; exact rfl; kernel_rfl; first | (apply l1 0; exact shape_of tabOk rfl; exact rfl; exact rfl; exact rfl; exact rfl) | (apply ln 0; exact shape_of tabOk rfl; exact rfl; exact rfl; exact rfl; exact rfl) | (apply l1 1; exact shape_of tabOk rfl; exact rfl; exact rfl; exact rfl; exact rfl) | (apply ln 1; exact shape_of tabOk rfl; exact rfl; exact rfl; exact rfl; exact rfl)
      refine any_step [4] (by kernel_rfl) rfl (by kernel_rfl) ?_
      intro i hi
      simp only [List.mem_cons, List.not_mem_nil, or_false] at hi
      subst hi
      first | (apply agy; exact rfl; exact rfl) | skip
      refine ac (xs := [.tmp 10]) rfl (by kernel_rfl) rfl hD (by exact fun w hst => ⟨hr1 _ _ _ _ (fun y hy => by simp [hy]) hst, hr2 _ _ _ _ (fun y hy => by simp [hy]) hst⟩) ?_
      rintro _ q2 ⟨x3, d3, x4, d4, rfl, hd3, hd4, hr3, hr4⟩
      refine any_step [6] (by kernel_rfl) rfl (by kernel_rfl) ?_
      intro i hi
      simp only [List.mem_cons, List.not_mem_nil, or_false] at hi
      subst hi
      first | (apply agy; exact rfl; exact rfl) | skip
      refine a3 (xs := [.tmp 11, .tmp 12]) rfl (by kernel_rfl) rfl (hS x3 x4 d3 d4) (by exact fun w hst => ⟨⟨hr3 _ _ _ _ (fun y hy => by simp [hy]) hst, hr4 _ _ _ _ (fun y hy => by simp [hy]) hst⟩, hr1 _ _ _ _ (fun y hy => by simp [hy]) hst, hr2 _ _ _ _ (fun y hy => by simp [hy]) hst⟩) ?_
      apply any_firstG 7; exact rfl; exact rfl; exact rfl; exact rfl; exact rfl; exact rfl; kernel_rfl; first | (apply pv; exact rfl; exact rfl) | (first | (apply pv; exact rfl; exact rfl) | (apply p_ls; exact rfl; kernel_rfl) | (apply p_ll; exact rfl; kernel_rfl) | (apply p_ic; exact rfl; omega) | (apply p_s1; exact rfl; omega; omega) | (apply p_sb; exact rfl; exact rfl; omega; omega) | (apply p_ad; exact rfl; exact rfl; omega) | (apply p_be; exact rfl; exact rfl; kernel_rfl) | (apply p_bn; exact rfl; exact rfl; kernel_rfl) | (apply p_en; exact rfl; exact rfl; kernel_rfl) | (apply p_nn; exact rfl; exact rfl; kernel_rfl) | (apply p_cv; exact rfl; exact int_of tabOk rfl; kernel_rfl) | (apply p_mi; exact rfl; exact p_mi_ok (kind_of tabOk rfl) rfl) | (apply p_fa; exact rfl; exact field_of tabOk rfl) | (apply p_nc; exact rfl) | (apply p_bk; exact rfl; omega; omega; kernel_rfl) | (apply p_by; exact rfl; exact rfl; omega; kernel_rfl) | (apply p_ia; exact rfl; exact rfl; exact elem_of tabOk rfl; omega) | (apply p_ar; exact rfl; exact rfl; exact rfl) | (apply p_bd tabOk; exact rfl; exact rfl; exact rfl; exact ⟨rfl, rfl⟩))
      apply any_first 8; exact rfl; exact rfl; exact rfl; exact rfl; kernel_rfl; first | (apply pv; exact rfl; exact rfl) | (first | (apply pv; exact rfl; exact rfl) | (apply p_ls; exact rfl; kernel_rfl) | (apply p_ll; exact rfl; kernel_rfl) | (apply p_ic; exact rfl; omega) | (apply p_s1; exact rfl; omega; omega) | (apply p_sb; exact rfl; exact rfl; omega; omega) | (apply p_ad; exact rfl; exact rfl; omega) | (apply p_be; exact rfl; exact rfl; kernel_rfl) | (apply p_bn; exact rfl; exact rfl; kernel_rfl) | (apply p_en; exact rfl; exact rfl; kernel_rfl) | (apply p_nn; exact rfl; exact rfl; kernel_rfl) | (apply p_cv; exact rfl; exact int_of tabOk rfl; kernel_rfl) | (apply p_mi; exact rfl; exact p_mi_ok (kind_of tabOk rfl) rfl) | (apply p_fa; exact rfl; exact field_of tabOk rfl) | (apply p_nc; exact rfl) | (apply p_bk; exact rfl; omega; omega; kernel_rfl) | (apply p_by; exact rfl; exact rfl; omega; kernel_rfl) | (apply p_ia; exact rfl; exact rfl; exact elem_of tabOk rfl; omega) | (apply p_ar; exact rfl; exact rfl; exact rfl) | (apply p_bd tabOk; exact rfl; exact rfl; exact rfl; exact ⟨rfl, rfl⟩))
      apply any_first 9; exact rfl; exact rfl; exact rfl; exact rfl; kernel_rfl; apply pv; exact rfl; exact rfl
      apply any_firstLG 10; exact rfl; exact rfl; exact rfl; exact rfl; exact rfl; exact rfl; kernel_rfl; first | (apply l1 0; exact shape_of tabOk rfl; exact rfl; exact rfl; exact rfl; exact rfl) | (apply ln 0; exact shape_of tabOk rfl; exact rfl; exact rfl; exact rfl; exact rfl) | (apply l1 1; exact shape_of tabOk rfl; exact rfl; exact rfl; exact rfl; exact rfl) | (apply ln 1; exact shape_of tabOk rfl; exact rfl; exact rfl; exact rfl; exact rfl)
      refine any_step [11] (by kernel_rfl) rfl (by kernel_rfl) ?_
      intro i hi
      simp only [List.mem_cons, List.not_mem_nil, or_false] at hi
      subst hi
      first | (apply agy; exact rfl; exact rfl) | skip
      refine a3 (xs := [.tmp 17]) rfl (by kernel_rfl) rfl hN (by exact fun _ h => ⟨⟨hw.st h, hw'.st h⟩, hL.st h⟩) ?_
      apply any_firstG 12; exact rfl; exact rfl; exact rfl; exact rfl; exact rfl; exact rfl; kernel_rfl; first | (apply pv; exact rfl; exact rfl) | (first | (apply pv; exact rfl; exact rfl) | (apply p_ls; exact rfl; kernel_rfl) | (apply p_ll; exact rfl; kernel_rfl) | (apply p_ic; exact rfl; omega) | (apply p_s1; exact rfl; omega; omega) | (apply p_sb; exact rfl; exact rfl; omega; omega) | (apply p_ad; exact rfl; exact rfl; omega) | (apply p_be; exact rfl; exact rfl; kernel_rfl) | (apply p_bn; exact rfl; exact rfl; kernel_rfl) | (apply p_en; exact rfl; exact rfl; kernel_rfl) | (apply p_nn; exact rfl; exact rfl; kernel_rfl) | (apply p_cv; exact rfl; exact int_of tabOk rfl; kernel_rfl) | (apply p_mi; exact rfl; exact p_mi_ok (kind_of tabOk rfl) rfl) | (apply p_fa; exact rfl; exact field_of tabOk rfl) | (apply p_nc; exact rfl) | (apply p_bk; exact rfl; omega; omega; kernel_rfl) | (apply p_by; exact rfl; exact rfl; omega; kernel_rfl) | (apply p_ia; exact rfl; exact rfl; exact elem_of tabOk rfl; omega) | (apply p_ar; exact rfl; exact rfl; exact rfl) | (apply p_bd tabOk; exact rfl; exact rfl; exact rfl; exact ⟨rfl, rfl⟩))
      apply any_firstG 13; exact rfl; exact rfl; exact rfl; exact rfl; exact rfl; exact rfl; kernel_rfl; first | (apply pv; exact rfl; exact rfl) | (first | (apply pv; exact rfl; exact rfl) | (apply p_ls; exact rfl; kernel_rfl) | (apply p_ll; exact rfl; kernel_rfl) | (apply p_ic; exact rfl; omega) | (apply p_s1; exact rfl; omega; omega) | (apply p_sb; exact rfl; exact rfl; omega; omega) | (apply p_ad; exact rfl; exact rfl; omega) | (apply p_be; exact rfl; exact rfl; kernel_rfl) | (apply p_bn; exact rfl; exact rfl; kernel_rfl) | (apply p_en; exact rfl; exact rfl; kernel_rfl) | (apply p_nn; exact rfl; exact rfl; kernel_rfl) | (apply p_cv; exact rfl; exact int_of tabOk rfl; kernel_rfl) | (apply p_mi; exact rfl; exact p_mi_ok (kind_of tabOk rfl) rfl) | (apply p_fa; exact rfl; exact field_of tabOk rfl) | (apply p_nc; exact rfl) | (apply p_bk; exact rfl; omega; omega; kernel_rfl) | (apply p_by; exact rfl; exact rfl; omega; kernel_rfl) | (apply p_ia; exact rfl; exact rfl; exact elem_of tabOk rfl; omega) | (apply p_ar; exact rfl; exact rfl; exact rfl) | (apply p_bd tabOk; exact rfl; exact rfl; exact rfl; exact ⟨rfl, rfl⟩))
      apply any_firstN 14; exact rfl; exact rfl; exact rfl; exact rfl; exact rfl; exact rfl; exact rfl; kernel_rfl
      apply any_firstN 15; exact rfl; exact rfl; exact rfl; exact rfl; exact rfl; exact rfl; exact rfl; kernel_rfl
      apply any_firstN 16; exact rfl; exact rfl; exact rfl; exact rfl; exact rfl; exact rfl; exact rfl; kernel_rfl
      apply any_firstG 17; exact rfl; exact rfl; exact rfl; exact rfl; exact rfl; exact rfl; kernel_rfl; first | (apply pv; exact rfl; exact rfl) | (first | (apply pv; exact rfl; exact rfl) | (apply p_ls; exact rfl; kernel_rfl) | (apply p_ll; exact rfl; kernel_rfl) | (apply p_ic; exact rfl; omega) | (apply p_s1; exact rfl; omega; omega) | (apply p_sb; exact rfl; exact rfl; omega; omega) | (apply p_ad; exact rfl; exact rfl; omega) | (apply p_be; exact rfl; exact rfl; kernel_rfl) | (apply p_bn; exact rfl; exact rfl; kernel_rfl) | (apply p_en; exact rfl; exact rfl; kernel_rfl) | (apply p_nn; exact rfl; exact rfl; kernel_rfl) | (apply p_cv; exact rfl; exact int_of tabOk rfl; kernel_rfl) | (apply p_mi; exact rfl; exact p_mi_ok (kind_of tabOk rfl) rfl) | (apply p_fa; exact rfl; exact field_of tabOk rfl) | (apply p_nc; exact rfl) | (apply p_bk; exact rfl; omega; omega; kernel_rfl) | (apply p_by; exact rfl; exact rfl; omega; kernel_rfl) | (apply p_ia; exact rfl; exact rfl; exact elem_of tabOk rfl; omega) | (apply p_ar; exact rfl; exact rfl; exact rfl) | (apply p_bd tabOk; exact rfl; exact rfl; exact rfl; exact ⟨rfl, rfl⟩))
      apply any_first 18; exact rfl; exact rfl; exact rfl; exact rfl; kernel_rfl; first | (apply pv; exact rfl; exact rfl) | (first | (apply pv; exact rfl; exact rfl) | (apply p_ls; exact rfl; kernel_rfl) | (apply p_ll; exact rfl; kernel_rfl) | (apply p_ic; exact rfl; omega) | (apply p_s1; exact rfl; omega; omega) | (apply p_sb; exact rfl; exact rfl; omega; omega) | (apply p_ad; exact rfl; exact rfl; omega) | (apply p_be; exact rfl; exact rfl; kernel_rfl) | (apply p_bn; exact rfl; exact rfl; kernel_rfl) | (apply p_en; exact rfl; exact rfl; kernel_rfl) | (apply p_nn; exact rfl; exact rfl; kernel_rfl) | (apply p_cv; exact rfl; exact int_of tabOk rfl; kernel_rfl) | (apply p_mi; exact rfl; exact p_mi_ok (kind_of tabOk rfl) rfl) | (apply p_fa; exact rfl; exact field_of tabOk rfl) | (apply p_nc; exact rfl) | (apply p_bk; exact rfl; omega; omega; kernel_rfl) | (apply p_by; exact rfl; exact rfl; omega; kernel_rfl) | (apply p_ia; exact rfl; exact rfl; exact elem_of tabOk rfl; omega) | (apply p_ar; exact rfl; exact rfl; exact rfl) | (apply p_bd tabOk; exact rfl; exact rfl; exact rfl; exact ⟨rfl, rfl⟩))
      refine any_end (by kernel_rfl) ?_
      exact hend q2 _ _ trivial ⟨rfl, rfl, rfl, rfl, trivial⟩ (List.Perm.refl _)
  intro q _
  refine vwith (pt := .run _) _ _ [] tabOk lent_nil fun go => ?_
  apply go 300
  repeat' (first | apply And.intro | intro _)
  all_goals try (first | (show Here _ _ _ _; try (exfalso; omega)) | exact trivial | omega | kernel_rfl | exact rfl)
  refine vcc rfl rfl (by kernel_rfl) (CopyObject d x1 x2 d1 d2 hn2 hn3) (by exact fun w hst => ⟨hr1 _ _ _ _ (fun y hy => by simp [hy]) hst, hr2 _ _ _ _ (fun y hy => by simp [hy]) hst⟩) ?_
  rintro _ q5 ⟨x5, d5, x6, d6, rfl, hd5, hd6, hr5, hr6⟩
  refine ⟨ov d x5 d5 x6 d6, rfl, ?_⟩
  apply go 300
  repeat' (first | apply And.intro | intro _)
  all_goals try (first | (show Here _ _ _ _; try (exfalso; omega)) | exact trivial | omega | kernel_rfl | exact rfl)
  refine vcall (v := .bd (sameP { d with rise := o.rise, fall := o.fall, surge := o.surge, hash := o.hash } o) inferInstance) rfl rfl (by kernel_rfl) (SameObject { d with rise := o.rise, fall := o.fall, surge := o.surge, hash := o.hash } o x5 x6 a a' d5 d6 c c' hn2 hn3) (by exact fun w hst => ⟨⟨hr5 _ _ _ _ (fun y hy => by simp [hy]) hst, hr6 _ _ _ _ (fun y hy => by simp [hy]) hst⟩, hw.st hst, hw'.st hst⟩) ?_
  apply go 300
  repeat' (first | apply And.intro | intro _)
  all_goals try (first | (show Here _ _ _ _; try (exfalso; omega)) | exact trivial | omega | kernel_rfl | exact rfl)
  exact vr1 rfl rfl (bd_t (by rw [hback]; exact sameP_id o)).symm
end Go.Fl
