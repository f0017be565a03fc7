/-
  What is wrong with an object. No condition beyond its sizes.
-/
import Derived.Test.YtiepomeokhjcfaaGreatDoorObj
import Derived.Test.YtiepomeokhjcfaaGreatDoorVr
import Derived.Test.YtiepomeokhjcfaaGreatDoorCloneW
import Derived.Test.YtiepomeokhjcfaaGreatDoorObjL
import Derived.Test.YtiepomeokhjcfaaGreatDoorObjG
namespace Go.Fl
open Go.Proofs Go.RowKit
set_option maxRecDepth 10000
set_option maxHeartbeats 4000000

def ownV (o : Oj) (a : Option Addr) (c : Nat) (a' : Option Addr) (c' : Nat) : V := .agg (ocs (ownO o) (if o.kind = 5 then .raw (.slice none 0 0) else labV o.labs a c) (if o.kind = 4 then labV o.sel a' c' else .raw (.slice none 0 0)))
theorem own0 (o : Oj) (a a' : Option Addr) (c c' : Nat) (h : o.kind = 0) : RetIf Tryz.prog 110 [(ov o a c a' c').val] (fun _ => True) (ownV o a c a' c').val := by
  have hX : ownO o = { base o with rcpu := o.rcpu, rmem := o.rmem, cord := o.cord, drain := o.drain, lost := o.lost, beat := o.beat } := by unfold ownO; rw [if_pos h]
  have e : ownV o a c a' c' = .agg (ocs ({ base o with rcpu := o.rcpu, rmem := o.rmem, cord := o.cord, drain := o.drain, lost := o.lost, beat := o.beat }) (labV o.labs a c) (.raw (.slice none 0 0))) := by unfold ownV; rw [hX, if_neg (by omega), if_neg (by omega)]
  rw [e]
  refine ret_start1 Tryz.func110 rfl rfl rfl (fun w0 hw => ?_)
  refine vstart [(0, ov o a c a' c')] [] [] ?_
  refine vwith (pt := .run _) _ _ [] tabOk lent_nil fun go => ?_
  apply go 300
  repeat' (first | apply And.intro | intro _)
  all_goals try (first | (show Here _ _ _ _; try (exfalso; omega)) | exact trivial | omega | kernel_rfl | exact rfl)
  rename_i b1 b2 b3 _
  refine vanyE [0] (ι := Unit) (fun _ => [(1, .ptr true 0 b1 0 1 0 0), (2, .ptr true 1 b2 0 1 0 0), (3, .ptr true 2 b3 0 1 0 0)]) (fun _ => [⟨b1, 27, .var (ocs o (labV o.labs a c) (labV o.sel a' c')), []⟩, ⟨b2, 27, .var (cellsV (.raw ((zeroL tab 27).getD undef))), []⟩, ⟨b3, 27, .var (ocs ({ base o with rcpu := o.rcpu, rmem := o.rmem, cord := o.cord, drain := o.drain, lost := o.lost, beat := o.beat }) (labV o.labs a c) (.raw (.slice none 0 0))), []⟩]) (fun _ => []) (fun _ => True) (by kernel_rfl) rfl ?_ (fun hend => ?_)
  rotate_left
  · skip
    apply any_first 0; exact rfl; exact rfl; exact rfl; exact rfl; kernel_rfl; first | (apply pv; exact rfl; exact rfl) | (first | (apply pv; exact rfl; exact rfl) | (apply p_ls; exact rfl; kernel_rfl) | (apply p_ll; exact rfl; kernel_rfl) | (apply p_ic; exact rfl; omega) | (apply p_s1; exact rfl; omega; omega) | (apply p_sb; exact rfl; exact rfl; omega; omega) | (apply p_ad; exact rfl; exact rfl; omega) | (apply p_be; exact rfl; exact rfl; kernel_rfl) | (apply p_bn; exact rfl; exact rfl; kernel_rfl) | (apply p_en; exact rfl; exact rfl; kernel_rfl) | (apply p_nn; exact rfl; exact rfl; kernel_rfl) | (apply p_cv; exact rfl; exact int_of tabOk rfl; kernel_rfl) | (apply p_mi; exact rfl; exact p_mi_ok (kind_of tabOk rfl) rfl) | (apply p_fa; exact rfl; exact field_of tabOk rfl) | (apply p_nc; exact rfl) | (apply p_bk; exact rfl; omega; omega; kernel_rfl) | (apply p_by; exact rfl; exact rfl; omega; kernel_rfl) | (apply p_ia; exact rfl; exact rfl; exact elem_of tabOk rfl; omega) | (apply p_ar; exact rfl; exact rfl; exact rfl) | (apply p_bd tabOk; exact rfl; exact rfl; exact rfl; exact ⟨rfl, rfl⟩))
    apply any_firstL 1; exact rfl; exact rfl; exact rfl; exact rfl; kernel_rfl; first | (apply l1 0; exact shape_of tabOk rfl; exact rfl; exact rfl; exact rfl; exact rfl) | (apply ln 0; exact shape_of tabOk rfl; exact rfl; exact rfl; exact rfl; exact rfl)
    apply any_first 2; exact rfl; exact rfl; exact rfl; exact rfl; kernel_rfl; first | (apply pv; exact rfl; exact rfl) | (first | (apply pv; exact rfl; exact rfl) | (apply p_ls; exact rfl; kernel_rfl) | (apply p_ll; exact rfl; kernel_rfl) | (apply p_ic; exact rfl; omega) | (apply p_s1; exact rfl; omega; omega) | (apply p_sb; exact rfl; exact rfl; omega; omega) | (apply p_ad; exact rfl; exact rfl; omega) | (apply p_be; exact rfl; exact rfl; kernel_rfl) | (apply p_bn; exact rfl; exact rfl; kernel_rfl) | (apply p_en; exact rfl; exact rfl; kernel_rfl) | (apply p_nn; exact rfl; exact rfl; kernel_rfl) | (apply p_cv; exact rfl; exact int_of tabOk rfl; kernel_rfl) | (apply p_mi; exact rfl; exact p_mi_ok (kind_of tabOk rfl) rfl) | (apply p_fa; exact rfl; exact field_of tabOk rfl) | (apply p_nc; exact rfl) | (apply p_bk; exact rfl; omega; omega; kernel_rfl) | (apply p_by; exact rfl; exact rfl; omega; kernel_rfl) | (apply p_ia; exact rfl; exact rfl; exact elem_of tabOk rfl; omega) | (apply p_ar; exact rfl; exact rfl; exact rfl) | (apply p_bd tabOk; exact rfl; exact rfl; exact rfl; exact ⟨rfl, rfl⟩))
    apply any_firstL 3; exact rfl; exact rfl; exact rfl; exact rfl; kernel_rfl; first | (apply l1 0; exact shape_of tabOk rfl; exact rfl; exact rfl; exact rfl; exact rfl) | (apply ln 0; exact shape_of tabOk rfl; exact rfl; exact rfl; exact rfl; exact rfl)
    apply any_first 4; exact rfl; exact rfl; exact rfl; exact rfl; kernel_rfl; first | (apply pv; exact rfl; exact rfl) | (first | (apply pv; exact rfl; exact rfl) | (apply p_ls; exact rfl; kernel_rfl) | (apply p_ll; exact rfl; kernel_rfl) | (apply p_ic; exact rfl; omega) | (apply p_s1; exact rfl; omega; omega) | (apply p_sb; exact rfl; exact rfl; omega; omega) | (apply p_ad; exact rfl; exact rfl; omega) | (apply p_be; exact rfl; exact rfl; kernel_rfl) | (apply p_bn; exact rfl; exact rfl; kernel_rfl) | (apply p_en; exact rfl; exact rfl; kernel_rfl) | (apply p_nn; exact rfl; exact rfl; kernel_rfl) | (apply p_cv; exact rfl; exact int_of tabOk rfl; kernel_rfl) | (apply p_mi; exact rfl; exact p_mi_ok (kind_of tabOk rfl) rfl) | (apply p_fa; exact rfl; exact field_of tabOk rfl) | (apply p_nc; exact rfl) | (apply p_bk; exact rfl; omega; omega; kernel_rfl) | (apply p_by; exact rfl; exact rfl; omega; kernel_rfl) | (apply p_ia; exact rfl; exact rfl; exact elem_of tabOk rfl; omega) | (apply p_ar; exact rfl; exact rfl; exact rfl) | (apply p_bd tabOk; exact rfl; exact rfl; exact rfl; exact ⟨rfl, rfl⟩))
    apply any_firstL 5; exact rfl; exact rfl; exact rfl; exact rfl; kernel_rfl; first | (apply l1 0; exact shape_of tabOk rfl; exact rfl; exact rfl; exact rfl; exact rfl) | (apply ln 0; exact shape_of tabOk rfl; exact rfl; exact rfl; exact rfl; exact rfl)
    apply any_first 6; exact rfl; exact rfl; exact rfl; exact rfl; kernel_rfl; first | (apply pv; exact rfl; exact rfl) | (first | (apply pv; exact rfl; exact rfl) | (apply p_ls; exact rfl; kernel_rfl) | (apply p_ll; exact rfl; kernel_rfl) | (apply p_ic; exact rfl; omega) | (apply p_s1; exact rfl; omega; omega) | (apply p_sb; exact rfl; exact rfl; omega; omega) | (apply p_ad; exact rfl; exact rfl; omega) | (apply p_be; exact rfl; exact rfl; kernel_rfl) | (apply p_bn; exact rfl; exact rfl; kernel_rfl) | (apply p_en; exact rfl; exact rfl; kernel_rfl) | (apply p_nn; exact rfl; exact rfl; kernel_rfl) | (apply p_cv; exact rfl; exact int_of tabOk rfl; kernel_rfl) | (apply p_mi; exact rfl; exact p_mi_ok (kind_of tabOk rfl) rfl) | (apply p_fa; exact rfl; exact field_of tabOk rfl) | (apply p_nc; exact rfl) | (apply p_bk; exact rfl; omega; omega; kernel_rfl) | (apply p_by; exact rfl; exact rfl; omega; kernel_rfl) | (apply p_ia; exact rfl; exact rfl; exact elem_of tabOk rfl; omega) | (apply p_ar; exact rfl; exact rfl; exact rfl) | (apply p_bd tabOk; exact rfl; exact rfl; exact rfl; exact ⟨rfl, rfl⟩))
    apply any_firstL 7; exact rfl; exact rfl; exact rfl; exact rfl; kernel_rfl; first | (apply l1 0; exact shape_of tabOk rfl; exact rfl; exact rfl; exact rfl; exact rfl) | (apply ln 0; exact shape_of tabOk rfl; exact rfl; exact rfl; exact rfl; exact rfl)
    apply any_first 8; exact rfl; exact rfl; exact rfl; exact rfl; kernel_rfl; first | (apply pv; exact rfl; exact rfl) | (first | (apply pv; exact rfl; exact rfl) | (apply p_ls; exact rfl; kernel_rfl) | (apply p_ll; exact rfl; kernel_rfl) | (apply p_ic; exact rfl; omega) | (apply p_s1; exact rfl; omega; omega) | (apply p_sb; exact rfl; exact rfl; omega; omega) | (apply p_ad; exact rfl; exact rfl; omega) | (apply p_be; exact rfl; exact rfl; kernel_rfl) | (apply p_bn; exact rfl; exact rfl; kernel_rfl) | (apply p_en; exact rfl; exact rfl; kernel_rfl) | (apply p_nn; exact rfl; exact rfl; kernel_rfl) | (apply p_cv; exact rfl; exact int_of tabOk rfl; kernel_rfl) | (apply p_mi; exact rfl; exact p_mi_ok (kind_of tabOk rfl) rfl) | (apply p_fa; exact rfl; exact field_of tabOk rfl) | (apply p_nc; exact rfl) | (apply p_bk; exact rfl; omega; omega; kernel_rfl) | (apply p_by; exact rfl; exact rfl; omega; kernel_rfl) | (apply p_ia; exact rfl; exact rfl; exact elem_of tabOk rfl; omega) | (apply p_ar; exact rfl; exact rfl; exact rfl) | (apply p_bd tabOk; exact rfl; exact rfl; exact rfl; exact ⟨rfl, rfl⟩))
    apply any_firstL 9; exact rfl; exact rfl; exact rfl; exact rfl; kernel_rfl; first | (apply l1 0; exact shape_of tabOk rfl; exact rfl; exact rfl; exact rfl; exact rfl) | (apply ln 0; exact shape_of tabOk rfl; exact rfl; exact rfl; exact rfl; exact rfl)
    apply any_first 10; exact rfl; exact rfl; exact rfl; exact rfl; kernel_rfl; first | (apply pv; exact rfl; exact rfl) | (first | (apply pv; exact rfl; exact rfl) | (apply p_ls; exact rfl; kernel_rfl) | (apply p_ll; exact rfl; kernel_rfl) | (apply p_ic; exact rfl; omega) | (apply p_s1; exact rfl; omega; omega) | (apply p_sb; exact rfl; exact rfl; omega; omega) | (apply p_ad; exact rfl; exact rfl; omega) | (apply p_be; exact rfl; exact rfl; kernel_rfl) | (apply p_bn; exact rfl; exact rfl; kernel_rfl) | (apply p_en; exact rfl; exact rfl; kernel_rfl) | (apply p_nn; exact rfl; exact rfl; kernel_rfl) | (apply p_cv; exact rfl; exact int_of tabOk rfl; kernel_rfl) | (apply p_mi; exact rfl; exact p_mi_ok (kind_of tabOk rfl) rfl) | (apply p_fa; exact rfl; exact field_of tabOk rfl) | (apply p_nc; exact rfl) | (apply p_bk; exact rfl; omega; omega; kernel_rfl) | (apply p_by; exact rfl; exact rfl; omega; kernel_rfl) | (apply p_ia; exact rfl; exact rfl; exact elem_of tabOk rfl; omega) | (apply p_ar; exact rfl; exact rfl; exact rfl) | (apply p_bd tabOk; exact rfl; exact rfl; exact rfl; exact ⟨rfl, rfl⟩))
    refine any_step [11] (by kernel_rfl) rfl (by kernel_rfl) ?_
    intro i hi
    simp only [List.mem_cons, List.not_mem_nil, or_false] at hi
    subst hi
    apply aso 2; exact size_of tabOk rfl; exact rfl; exact rfl; exact rfl; exact rfl; exact rfl; exact so_le rfl; exact so_one rfl
    apply any_first 12; exact rfl; exact rfl; exact rfl; exact rfl; kernel_rfl; first | (apply pv; exact rfl; exact rfl) | (first | (apply pv; exact rfl; exact rfl) | (apply p_ls; exact rfl; kernel_rfl) | (apply p_ll; exact rfl; kernel_rfl) | (apply p_ic; exact rfl; omega) | (apply p_s1; exact rfl; omega; omega) | (apply p_sb; exact rfl; exact rfl; omega; omega) | (apply p_ad; exact rfl; exact rfl; omega) | (apply p_be; exact rfl; exact rfl; kernel_rfl) | (apply p_bn; exact rfl; exact rfl; kernel_rfl) | (apply p_en; exact rfl; exact rfl; kernel_rfl) | (apply p_nn; exact rfl; exact rfl; kernel_rfl) | (apply p_cv; exact rfl; exact int_of tabOk rfl; kernel_rfl) | (apply p_mi; exact rfl; exact p_mi_ok (kind_of tabOk rfl) rfl) | (apply p_fa; exact rfl; exact field_of tabOk rfl) | (apply p_nc; exact rfl) | (apply p_bk; exact rfl; omega; omega; kernel_rfl) | (apply p_by; exact rfl; exact rfl; omega; kernel_rfl) | (apply p_ia; exact rfl; exact rfl; exact elem_of tabOk rfl; omega) | (apply p_ar; exact rfl; exact rfl; exact rfl) | (apply p_bd tabOk; exact rfl; exact rfl; exact rfl; exact ⟨rfl, rfl⟩))
    refine any_step [13] (by kernel_rfl) rfl (by kernel_rfl) ?_
    intro i hi
    simp only [List.mem_cons, List.not_mem_nil, or_false] at hi
    subst hi
    apply aso 2; exact size_of tabOk rfl; exact rfl; exact rfl; exact rfl; exact rfl; exact rfl; exact so_le rfl; exact so_one rfl
    apply any_first 14; exact rfl; exact rfl; exact rfl; exact rfl; kernel_rfl; first | (apply pv; exact rfl; exact rfl) | (first | (apply pv; exact rfl; exact rfl) | (apply p_ls; exact rfl; kernel_rfl) | (apply p_ll; exact rfl; kernel_rfl) | (apply p_ic; exact rfl; omega) | (apply p_s1; exact rfl; omega; omega) | (apply p_sb; exact rfl; exact rfl; omega; omega) | (apply p_ad; exact rfl; exact rfl; omega) | (apply p_be; exact rfl; exact rfl; kernel_rfl) | (apply p_bn; exact rfl; exact rfl; kernel_rfl) | (apply p_en; exact rfl; exact rfl; kernel_rfl) | (apply p_nn; exact rfl; exact rfl; kernel_rfl) | (apply p_cv; exact rfl; exact int_of tabOk rfl; kernel_rfl) | (apply p_mi; exact rfl; exact p_mi_ok (kind_of tabOk rfl) rfl) | (apply p_fa; exact rfl; exact field_of tabOk rfl) | (apply p_nc; exact rfl) | (apply p_bk; exact rfl; omega; omega; kernel_rfl) | (apply p_by; exact rfl; exact rfl; omega; kernel_rfl) | (apply p_ia; exact rfl; exact rfl; exact elem_of tabOk rfl; omega) | (apply p_ar; exact rfl; exact rfl; exact rfl) | (apply p_bd tabOk; exact rfl; exact rfl; exact rfl; exact ⟨rfl, rfl⟩))
    refine any_step [15] (by kernel_rfl) rfl (by kernel_rfl) ?_
    intro i hi
    simp only [List.mem_cons, List.not_mem_nil, or_false] at hi
    subst hi
    apply aso 2; exact size_of tabOk rfl; exact rfl; exact rfl; exact rfl; exact rfl; exact rfl; exact so_le rfl; exact so_one rfl
    apply any_first 16; exact rfl; exact rfl; exact rfl; exact rfl; kernel_rfl; first | (apply pv; exact rfl; exact rfl) | (first | (apply pv; exact rfl; exact rfl) | (apply p_ls; exact rfl; kernel_rfl) | (apply p_ll; exact rfl; kernel_rfl) | (apply p_ic; exact rfl; omega) | (apply p_s1; exact rfl; omega; omega) | (apply p_sb; exact rfl; exact rfl; omega; omega) | (apply p_ad; exact rfl; exact rfl; omega) | (apply p_be; exact rfl; exact rfl; kernel_rfl) | (apply p_bn; exact rfl; exact rfl; kernel_rfl) | (apply p_en; exact rfl; exact rfl; kernel_rfl) | (apply p_nn; exact rfl; exact rfl; kernel_rfl) | (apply p_cv; exact rfl; exact int_of tabOk rfl; kernel_rfl) | (apply p_mi; exact rfl; exact p_mi_ok (kind_of tabOk rfl) rfl) | (apply p_fa; exact rfl; exact field_of tabOk rfl) | (apply p_nc; exact rfl) | (apply p_bk; exact rfl; omega; omega; kernel_rfl) | (apply p_by; exact rfl; exact rfl; omega; kernel_rfl) | (apply p_ia; exact rfl; exact rfl; exact elem_of tabOk rfl; omega) | (apply p_ar; exact rfl; exact rfl; exact rfl) | (apply p_bd tabOk; exact rfl; exact rfl; exact rfl; exact ⟨rfl, rfl⟩))
    refine any_step [17] (by kernel_rfl) rfl (by kernel_rfl) ?_
    intro i hi
    simp only [List.mem_cons, List.not_mem_nil, or_false] at hi
    subst hi
    apply aso 2; exact size_of tabOk rfl; exact rfl; exact rfl; exact rfl; exact rfl; exact rfl; exact so_le rfl; exact so_one rfl
    apply any_first 18; exact rfl; exact rfl; exact rfl; exact rfl; kernel_rfl; first | (apply pv; exact rfl; exact rfl) | (first | (apply pv; exact rfl; exact rfl) | (apply p_ls; exact rfl; kernel_rfl) | (apply p_ll; exact rfl; kernel_rfl) | (apply p_ic; exact rfl; omega) | (apply p_s1; exact rfl; omega; omega) | (apply p_sb; exact rfl; exact rfl; omega; omega) | (apply p_ad; exact rfl; exact rfl; omega) | (apply p_be; exact rfl; exact rfl; kernel_rfl) | (apply p_bn; exact rfl; exact rfl; kernel_rfl) | (apply p_en; exact rfl; exact rfl; kernel_rfl) | (apply p_nn; exact rfl; exact rfl; kernel_rfl) | (apply p_cv; exact rfl; exact int_of tabOk rfl; kernel_rfl) | (apply p_mi; exact rfl; exact p_mi_ok (kind_of tabOk rfl) rfl) | (apply p_fa; exact rfl; exact field_of tabOk rfl) | (apply p_nc; exact rfl) | (apply p_bk; exact rfl; omega; omega; kernel_rfl) | (apply p_by; exact rfl; exact rfl; omega; kernel_rfl) | (apply p_ia; exact rfl; exact rfl; exact elem_of tabOk rfl; omega) | (apply p_ar; exact rfl; exact rfl; exact rfl) | (apply p_bd tabOk; exact rfl; exact rfl; exact rfl; exact ⟨rfl, rfl⟩))
    refine any_step [19] (by kernel_rfl) rfl (by kernel_rfl) ?_
    intro i hi
    simp only [List.mem_cons, List.not_mem_nil, or_false] at hi
    subst hi
    apply aso 2; exact size_of tabOk rfl; exact rfl; exact rfl; exact rfl; exact rfl; exact rfl; exact so_le rfl; exact so_one rfl
    refine any_end (by kernel_rfl) ?_
    exact hend () _ _ trivial ⟨rfl, rfl, rfl, trivial⟩ (List.Perm.refl _)
  intro _ _
  refine vwith (pt := .run _) _ _ [] tabOk lent_nil fun go => ?_
  apply go 300
  repeat' (first | apply And.intro | intro _)
  all_goals try (first | (show Here _ _ _ _; try (exfalso; omega)) | exact trivial | omega | kernel_rfl | exact rfl)
  exact vrc1 tabOk (by exact rfl) (by exact rfl) (by exact rfl) (by exact rfl) (by exact rfl) (by exact rfl)
theorem own4 (o : Oj) (a a' : Option Addr) (c c' : Nat) (h : o.kind = 4) : RetIf Tryz.prog 110 [(ov o a c a' c').val] (fun _ => True) (ownV o a c a' c').val := by
  have hX : ownO o = { base o with sel := o.sel, least := o.least } := by unfold ownO; rw [if_neg (by omega), if_pos h]
  have e : ownV o a c a' c' = .agg (ocs ({ base o with sel := o.sel, least := o.least }) (labV o.labs a c) (labV o.sel a' c')) := by unfold ownV; rw [hX, if_neg (by omega), if_pos h]
  rw [e]
  refine ret_start1 Tryz.func110 rfl rfl rfl (fun w0 hw => ?_)
  refine vstart [(0, ov o a c a' c')] [] [] ?_
  refine vwith (pt := .run _) _ _ [] tabOk lent_nil fun go => ?_
  apply go 300
  repeat' (first | apply And.intro | intro _)
  all_goals try (first | (show Here _ _ _ _; try (exfalso; omega)) | exact trivial | omega | kernel_rfl | exact rfl)
  rename_i b1 b2 b3 _ _
  refine vanyE [0] (ι := Unit) (fun _ => [(1, .ptr true 0 b1 0 1 0 0), (2, .ptr true 1 b2 0 1 0 0), (3, .ptr true 2 b3 0 1 0 0)]) (fun _ => [⟨b1, 27, .var (ocs o (labV o.labs a c) (labV o.sel a' c')), []⟩, ⟨b2, 27, .var (cellsV (.raw ((zeroL tab 27).getD undef))), []⟩, ⟨b3, 27, .var (ocs ({ base o with sel := o.sel, least := o.least }) (labV o.labs a c) (labV o.sel a' c')), []⟩]) (fun _ => []) (fun _ => True) (by kernel_rfl) rfl ?_ (fun hend => ?_)
  rotate_left
  · skip
    apply any_first 0; exact rfl; exact rfl; exact rfl; exact rfl; kernel_rfl; first | (apply pv; exact rfl; exact rfl) | (first | (apply pv; exact rfl; exact rfl) | (apply p_ls; exact rfl; kernel_rfl) | (apply p_ll; exact rfl; kernel_rfl) | (apply p_ic; exact rfl; omega) | (apply p_s1; exact rfl; omega; omega) | (apply p_sb; exact rfl; exact rfl; omega; omega) | (apply p_ad; exact rfl; exact rfl; omega) | (apply p_be; exact rfl; exact rfl; kernel_rfl) | (apply p_bn; exact rfl; exact rfl; kernel_rfl) | (apply p_en; exact rfl; exact rfl; kernel_rfl) | (apply p_nn; exact rfl; exact rfl; kernel_rfl) | (apply p_cv; exact rfl; exact int_of tabOk rfl; kernel_rfl) | (apply p_mi; exact rfl; exact p_mi_ok (kind_of tabOk rfl) rfl) | (apply p_fa; exact rfl; exact field_of tabOk rfl) | (apply p_nc; exact rfl) | (apply p_bk; exact rfl; omega; omega; kernel_rfl) | (apply p_by; exact rfl; exact rfl; omega; kernel_rfl) | (apply p_ia; exact rfl; exact rfl; exact elem_of tabOk rfl; omega) | (apply p_ar; exact rfl; exact rfl; exact rfl) | (apply p_bd tabOk; exact rfl; exact rfl; exact rfl; exact ⟨rfl, rfl⟩))
    apply any_firstL 1; exact rfl; exact rfl; exact rfl; exact rfl; kernel_rfl; first | (apply l1 0; exact shape_of tabOk rfl; exact rfl; exact rfl; exact rfl; exact rfl) | (apply ln 0; exact shape_of tabOk rfl; exact rfl; exact rfl; exact rfl; exact rfl)
    apply any_first 2; exact rfl; exact rfl; exact rfl; exact rfl; kernel_rfl; first | (apply pv; exact rfl; exact rfl) | (first | (apply pv; exact rfl; exact rfl) | (apply p_ls; exact rfl; kernel_rfl) | (apply p_ll; exact rfl; kernel_rfl) | (apply p_ic; exact rfl; omega) | (apply p_s1; exact rfl; omega; omega) | (apply p_sb; exact rfl; exact rfl; omega; omega) | (apply p_ad; exact rfl; exact rfl; omega) | (apply p_be; exact rfl; exact rfl; kernel_rfl) | (apply p_bn; exact rfl; exact rfl; kernel_rfl) | (apply p_en; exact rfl; exact rfl; kernel_rfl) | (apply p_nn; exact rfl; exact rfl; kernel_rfl) | (apply p_cv; exact rfl; exact int_of tabOk rfl; kernel_rfl) | (apply p_mi; exact rfl; exact p_mi_ok (kind_of tabOk rfl) rfl) | (apply p_fa; exact rfl; exact field_of tabOk rfl) | (apply p_nc; exact rfl) | (apply p_bk; exact rfl; omega; omega; kernel_rfl) | (apply p_by; exact rfl; exact rfl; omega; kernel_rfl) | (apply p_ia; exact rfl; exact rfl; exact elem_of tabOk rfl; omega) | (apply p_ar; exact rfl; exact rfl; exact rfl) | (apply p_bd tabOk; exact rfl; exact rfl; exact rfl; exact ⟨rfl, rfl⟩))
    apply any_firstL 3; exact rfl; exact rfl; exact rfl; exact rfl; kernel_rfl; first | (apply l1 0; exact shape_of tabOk rfl; exact rfl; exact rfl; exact rfl; exact rfl) | (apply ln 0; exact shape_of tabOk rfl; exact rfl; exact rfl; exact rfl; exact rfl)
    apply any_first 4; exact rfl; exact rfl; exact rfl; exact rfl; kernel_rfl; first | (apply pv; exact rfl; exact rfl) | (first | (apply pv; exact rfl; exact rfl) | (apply p_ls; exact rfl; kernel_rfl) | (apply p_ll; exact rfl; kernel_rfl) | (apply p_ic; exact rfl; omega) | (apply p_s1; exact rfl; omega; omega) | (apply p_sb; exact rfl; exact rfl; omega; omega) | (apply p_ad; exact rfl; exact rfl; omega) | (apply p_be; exact rfl; exact rfl; kernel_rfl) | (apply p_bn; exact rfl; exact rfl; kernel_rfl) | (apply p_en; exact rfl; exact rfl; kernel_rfl) | (apply p_nn; exact rfl; exact rfl; kernel_rfl) | (apply p_cv; exact rfl; exact int_of tabOk rfl; kernel_rfl) | (apply p_mi; exact rfl; exact p_mi_ok (kind_of tabOk rfl) rfl) | (apply p_fa; exact rfl; exact field_of tabOk rfl) | (apply p_nc; exact rfl) | (apply p_bk; exact rfl; omega; omega; kernel_rfl) | (apply p_by; exact rfl; exact rfl; omega; kernel_rfl) | (apply p_ia; exact rfl; exact rfl; exact elem_of tabOk rfl; omega) | (apply p_ar; exact rfl; exact rfl; exact rfl) | (apply p_bd tabOk; exact rfl; exact rfl; exact rfl; exact ⟨rfl, rfl⟩))
    refine any_step [5] (by kernel_rfl) rfl (by kernel_rfl) ?_
    intro i hi
    simp only [List.mem_cons, List.not_mem_nil, or_false] at hi
    subst hi
    apply aso 2; exact size_of tabOk rfl; exact rfl; exact rfl; exact rfl; exact rfl; exact rfl; exact so_le rfl; exact so_one rfl
    apply any_first 6; exact rfl; exact rfl; exact rfl; exact rfl; kernel_rfl; first | (apply pv; exact rfl; exact rfl) | (first | (apply pv; exact rfl; exact rfl) | (apply p_ls; exact rfl; kernel_rfl) | (apply p_ll; exact rfl; kernel_rfl) | (apply p_ic; exact rfl; omega) | (apply p_s1; exact rfl; omega; omega) | (apply p_sb; exact rfl; exact rfl; omega; omega) | (apply p_ad; exact rfl; exact rfl; omega) | (apply p_be; exact rfl; exact rfl; kernel_rfl) | (apply p_bn; exact rfl; exact rfl; kernel_rfl) | (apply p_en; exact rfl; exact rfl; kernel_rfl) | (apply p_nn; exact rfl; exact rfl; kernel_rfl) | (apply p_cv; exact rfl; exact int_of tabOk rfl; kernel_rfl) | (apply p_mi; exact rfl; exact p_mi_ok (kind_of tabOk rfl) rfl) | (apply p_fa; exact rfl; exact field_of tabOk rfl) | (apply p_nc; exact rfl) | (apply p_bk; exact rfl; omega; omega; kernel_rfl) | (apply p_by; exact rfl; exact rfl; omega; kernel_rfl) | (apply p_ia; exact rfl; exact rfl; exact elem_of tabOk rfl; omega) | (apply p_ar; exact rfl; exact rfl; exact rfl) | (apply p_bd tabOk; exact rfl; exact rfl; exact rfl; exact ⟨rfl, rfl⟩))
    refine any_step [7] (by kernel_rfl) rfl (by kernel_rfl) ?_
    intro i hi
    simp only [List.mem_cons, List.not_mem_nil, or_false] at hi
    subst hi
    apply aso 2; exact size_of tabOk rfl; exact rfl; exact rfl; exact rfl; exact rfl; exact rfl; exact so_le rfl; exact so_one rfl
    refine any_end (by kernel_rfl) ?_
    exact hend () _ _ trivial ⟨rfl, rfl, rfl, trivial⟩ (List.Perm.refl _)
  intro _ _
  refine vwith (pt := .run _) _ _ [] tabOk lent_nil fun go => ?_
  apply go 300
  repeat' (first | apply And.intro | intro _)
  all_goals try (first | (show Here _ _ _ _; try (exfalso; omega)) | exact trivial | omega | kernel_rfl | exact rfl)
  exact vrc1 tabOk (by exact rfl) (by exact rfl) (by exact rfl) (by exact rfl) (by exact rfl) (by exact rfl)
theorem own5 (o : Oj) (a a' : Option Addr) (c c' : Nat) (h : o.kind = 5) : RetIf Tryz.prog 110 [(ov o a c a' c').val] (fun _ => True) (ownV o a c a' c').val := by
  have hX : ownO o = { base o with labs := [], holder := o.holder, term := o.term, till := o.till } := by unfold ownO; rw [if_neg (by omega), if_neg (by omega), if_pos h]
  have e : ownV o a c a' c' = .agg (ocs ({ base o with labs := [], holder := o.holder, term := o.term, till := o.till }) (.raw (.slice none 0 0)) (.raw (.slice none 0 0))) := by unfold ownV; rw [hX, if_pos h, if_neg (by omega)]
  rw [e]
  refine ret_start1 Tryz.func110 rfl rfl rfl (fun w0 hw => ?_)
  refine vstart [(0, ov o a c a' c')] [] [] ?_
  refine vwith (pt := .run _) _ _ [] tabOk lent_nil fun go => ?_
  apply go 300
  repeat' (first | apply And.intro | intro _)
  all_goals try (first | (show Here _ _ _ _; try (exfalso; omega)) | exact trivial | omega | kernel_rfl | exact rfl)
  rename_i b1 b2 b3 _ _ _
  refine vanyE [0] (ι := Unit) (fun _ => [(1, .ptr true 0 b1 0 1 0 0), (2, .ptr true 1 b2 0 1 0 0), (3, .ptr true 2 b3 0 1 0 0)]) (fun _ => [⟨b1, 27, .var (ocs o (labV o.labs a c) (labV o.sel a' c')), []⟩, ⟨b2, 27, .var (cellsV (.raw ((zeroL tab 27).getD undef))), []⟩, ⟨b3, 27, .var (ocs ({ base o with labs := [], holder := o.holder, term := o.term, till := o.till }) (.raw (.slice none 0 0)) (.raw (.slice none 0 0))), []⟩]) (fun _ => []) (fun _ => True) (by kernel_rfl) rfl ?_ (fun hend => ?_)
  rotate_left
  · skip
    apply any_first 0; exact rfl; exact rfl; exact rfl; exact rfl; kernel_rfl; first | (apply pv; exact rfl; exact rfl) | (first | (apply pv; exact rfl; exact rfl) | (apply p_ls; exact rfl; kernel_rfl) | (apply p_ll; exact rfl; kernel_rfl) | (apply p_ic; exact rfl; omega) | (apply p_s1; exact rfl; omega; omega) | (apply p_sb; exact rfl; exact rfl; omega; omega) | (apply p_ad; exact rfl; exact rfl; omega) | (apply p_be; exact rfl; exact rfl; kernel_rfl) | (apply p_bn; exact rfl; exact rfl; kernel_rfl) | (apply p_en; exact rfl; exact rfl; kernel_rfl) | (apply p_nn; exact rfl; exact rfl; kernel_rfl) | (apply p_cv; exact rfl; exact int_of tabOk rfl; kernel_rfl) | (apply p_mi; exact rfl; exact p_mi_ok (kind_of tabOk rfl) rfl) | (apply p_fa; exact rfl; exact field_of tabOk rfl) | (apply p_nc; exact rfl) | (apply p_bk; exact rfl; omega; omega; kernel_rfl) | (apply p_by; exact rfl; exact rfl; omega; kernel_rfl) | (apply p_ia; exact rfl; exact rfl; exact elem_of tabOk rfl; omega) | (apply p_ar; exact rfl; exact rfl; exact rfl) | (apply p_bd tabOk; exact rfl; exact rfl; exact rfl; exact ⟨rfl, rfl⟩))
    apply any_firstL 1; exact rfl; exact rfl; exact rfl; exact rfl; kernel_rfl; first | (apply l1 0; exact shape_of tabOk rfl; exact rfl; exact rfl; exact rfl; exact rfl) | (apply ln 0; exact shape_of tabOk rfl; exact rfl; exact rfl; exact rfl; exact rfl)
    apply any_first 2; exact rfl; exact rfl; exact rfl; exact rfl; kernel_rfl; first | (apply pv; exact rfl; exact rfl) | (first | (apply pv; exact rfl; exact rfl) | (apply p_ls; exact rfl; kernel_rfl) | (apply p_ll; exact rfl; kernel_rfl) | (apply p_ic; exact rfl; omega) | (apply p_s1; exact rfl; omega; omega) | (apply p_sb; exact rfl; exact rfl; omega; omega) | (apply p_ad; exact rfl; exact rfl; omega) | (apply p_be; exact rfl; exact rfl; kernel_rfl) | (apply p_bn; exact rfl; exact rfl; kernel_rfl) | (apply p_en; exact rfl; exact rfl; kernel_rfl) | (apply p_nn; exact rfl; exact rfl; kernel_rfl) | (apply p_cv; exact rfl; exact int_of tabOk rfl; kernel_rfl) | (apply p_mi; exact rfl; exact p_mi_ok (kind_of tabOk rfl) rfl) | (apply p_fa; exact rfl; exact field_of tabOk rfl) | (apply p_nc; exact rfl) | (apply p_bk; exact rfl; omega; omega; kernel_rfl) | (apply p_by; exact rfl; exact rfl; omega; kernel_rfl) | (apply p_ia; exact rfl; exact rfl; exact elem_of tabOk rfl; omega) | (apply p_ar; exact rfl; exact rfl; exact rfl) | (apply p_bd tabOk; exact rfl; exact rfl; exact rfl; exact ⟨rfl, rfl⟩))
    apply any_firstL 3; exact rfl; exact rfl; exact rfl; exact rfl; kernel_rfl; first | (apply l1 0; exact shape_of tabOk rfl; exact rfl; exact rfl; exact rfl; exact rfl) | (apply ln 0; exact shape_of tabOk rfl; exact rfl; exact rfl; exact rfl; exact rfl)
    apply any_first 4; exact rfl; exact rfl; exact rfl; exact rfl; kernel_rfl; first | (apply pv; exact rfl; exact rfl) | (first | (apply pv; exact rfl; exact rfl) | (apply p_ls; exact rfl; kernel_rfl) | (apply p_ll; exact rfl; kernel_rfl) | (apply p_ic; exact rfl; omega) | (apply p_s1; exact rfl; omega; omega) | (apply p_sb; exact rfl; exact rfl; omega; omega) | (apply p_ad; exact rfl; exact rfl; omega) | (apply p_be; exact rfl; exact rfl; kernel_rfl) | (apply p_bn; exact rfl; exact rfl; kernel_rfl) | (apply p_en; exact rfl; exact rfl; kernel_rfl) | (apply p_nn; exact rfl; exact rfl; kernel_rfl) | (apply p_cv; exact rfl; exact int_of tabOk rfl; kernel_rfl) | (apply p_mi; exact rfl; exact p_mi_ok (kind_of tabOk rfl) rfl) | (apply p_fa; exact rfl; exact field_of tabOk rfl) | (apply p_nc; exact rfl) | (apply p_bk; exact rfl; omega; omega; kernel_rfl) | (apply p_by; exact rfl; exact rfl; omega; kernel_rfl) | (apply p_ia; exact rfl; exact rfl; exact elem_of tabOk rfl; omega) | (apply p_ar; exact rfl; exact rfl; exact rfl) | (apply p_bd tabOk; exact rfl; exact rfl; exact rfl; exact ⟨rfl, rfl⟩))
    apply any_firstL 5; exact rfl; exact rfl; exact rfl; exact rfl; kernel_rfl; first | (apply l1 0; exact shape_of tabOk rfl; exact rfl; exact rfl; exact rfl; exact rfl) | (apply ln 0; exact shape_of tabOk rfl; exact rfl; exact rfl; exact rfl; exact rfl)
    apply any_first 6; exact rfl; exact rfl; exact rfl; exact rfl; kernel_rfl; first | (apply pv; exact rfl; exact rfl) | (first | (apply pv; exact rfl; exact rfl) | (apply p_ls; exact rfl; kernel_rfl) | (apply p_ll; exact rfl; kernel_rfl) | (apply p_ic; exact rfl; omega) | (apply p_s1; exact rfl; omega; omega) | (apply p_sb; exact rfl; exact rfl; omega; omega) | (apply p_ad; exact rfl; exact rfl; omega) | (apply p_be; exact rfl; exact rfl; kernel_rfl) | (apply p_bn; exact rfl; exact rfl; kernel_rfl) | (apply p_en; exact rfl; exact rfl; kernel_rfl) | (apply p_nn; exact rfl; exact rfl; kernel_rfl) | (apply p_cv; exact rfl; exact int_of tabOk rfl; kernel_rfl) | (apply p_mi; exact rfl; exact p_mi_ok (kind_of tabOk rfl) rfl) | (apply p_fa; exact rfl; exact field_of tabOk rfl) | (apply p_nc; exact rfl) | (apply p_bk; exact rfl; omega; omega; kernel_rfl) | (apply p_by; exact rfl; exact rfl; omega; kernel_rfl) | (apply p_ia; exact rfl; exact rfl; exact elem_of tabOk rfl; omega) | (apply p_ar; exact rfl; exact rfl; exact rfl) | (apply p_bd tabOk; exact rfl; exact rfl; exact rfl; exact ⟨rfl, rfl⟩))
    refine any_step [7] (by kernel_rfl) rfl (by kernel_rfl) ?_
    intro i hi
    simp only [List.mem_cons, List.not_mem_nil, or_false] at hi
    subst hi
    apply aso 2; exact size_of tabOk rfl; exact rfl; exact rfl; exact rfl; exact rfl; exact rfl; exact so_le rfl; exact so_one rfl
    apply any_first 8; exact rfl; exact rfl; exact rfl; exact rfl; kernel_rfl; first | (apply pv; exact rfl; exact rfl) | (first | (apply pv; exact rfl; exact rfl) | (apply p_ls; exact rfl; kernel_rfl) | (apply p_ll; exact rfl; kernel_rfl) | (apply p_ic; exact rfl; omega) | (apply p_s1; exact rfl; omega; omega) | (apply p_sb; exact rfl; exact rfl; omega; omega) | (apply p_ad; exact rfl; exact rfl; omega) | (apply p_be; exact rfl; exact rfl; kernel_rfl) | (apply p_bn; exact rfl; exact rfl; kernel_rfl) | (apply p_en; exact rfl; exact rfl; kernel_rfl) | (apply p_nn; exact rfl; exact rfl; kernel_rfl) | (apply p_cv; exact rfl; exact int_of tabOk rfl; kernel_rfl) | (apply p_mi; exact rfl; exact p_mi_ok (kind_of tabOk rfl) rfl) | (apply p_fa; exact rfl; exact field_of tabOk rfl) | (apply p_nc; exact rfl) | (apply p_bk; exact rfl; omega; omega; kernel_rfl) | (apply p_by; exact rfl; exact rfl; omega; kernel_rfl) | (apply p_ia; exact rfl; exact rfl; exact elem_of tabOk rfl; omega) | (apply p_ar; exact rfl; exact rfl; exact rfl) | (apply p_bd tabOk; exact rfl; exact rfl; exact rfl; exact ⟨rfl, rfl⟩))
    refine any_step [9] (by kernel_rfl) rfl (by kernel_rfl) ?_
    intro i hi
    simp only [List.mem_cons, List.not_mem_nil, or_false] at hi
    subst hi
    apply aso 2; exact size_of tabOk rfl; exact rfl; exact rfl; exact rfl; exact rfl; exact rfl; exact so_le rfl; exact so_one rfl
    apply any_first 10; exact rfl; exact rfl; exact rfl; exact rfl; kernel_rfl; first | (apply pv; exact rfl; exact rfl) | (first | (apply pv; exact rfl; exact rfl) | (apply p_ls; exact rfl; kernel_rfl) | (apply p_ll; exact rfl; kernel_rfl) | (apply p_ic; exact rfl; omega) | (apply p_s1; exact rfl; omega; omega) | (apply p_sb; exact rfl; exact rfl; omega; omega) | (apply p_ad; exact rfl; exact rfl; omega) | (apply p_be; exact rfl; exact rfl; kernel_rfl) | (apply p_bn; exact rfl; exact rfl; kernel_rfl) | (apply p_en; exact rfl; exact rfl; kernel_rfl) | (apply p_nn; exact rfl; exact rfl; kernel_rfl) | (apply p_cv; exact rfl; exact int_of tabOk rfl; kernel_rfl) | (apply p_mi; exact rfl; exact p_mi_ok (kind_of tabOk rfl) rfl) | (apply p_fa; exact rfl; exact field_of tabOk rfl) | (apply p_nc; exact rfl) | (apply p_bk; exact rfl; omega; omega; kernel_rfl) | (apply p_by; exact rfl; exact rfl; omega; kernel_rfl) | (apply p_ia; exact rfl; exact rfl; exact elem_of tabOk rfl; omega) | (apply p_ar; exact rfl; exact rfl; exact rfl) | (apply p_bd tabOk; exact rfl; exact rfl; exact rfl; exact ⟨rfl, rfl⟩))
    refine any_step [11] (by kernel_rfl) rfl (by kernel_rfl) ?_
    intro i hi
    simp only [List.mem_cons, List.not_mem_nil, or_false] at hi
    subst hi
    apply aso 2; exact size_of tabOk rfl; exact rfl; exact rfl; exact rfl; exact rfl; exact rfl; exact so_le rfl; exact so_one rfl
    refine any_end (by kernel_rfl) ?_
    exact hend () _ _ trivial ⟨rfl, rfl, rfl, trivial⟩ (List.Perm.refl _)
  intro _ _
  refine vwith (pt := .run _) _ _ [] tabOk lent_nil fun go => ?_
  apply go 300
  repeat' (first | apply And.intro | intro _)
  all_goals try (first | (show Here _ _ _ _; try (exfalso; omega)) | exact trivial | omega | kernel_rfl | exact rfl)
  exact vrc1 tabOk (by exact rfl) (by exact rfl) (by exact rfl) (by exact rfl) (by exact rfl) (by exact rfl)
theorem own1 (o : Oj) (a a' : Option Addr) (c c' : Nat) (h : o.kind = 1) : RetIf Tryz.prog 110 [(ov o a c a' c').val] (fun _ => True) (ownV o a c a' c').val := by
  have hX : ownO o = { base o with dep := o.dep, set := o.set, node := o.node, phase := o.phase, ready := o.ready, ending := o.ending, ncpu := o.ncpu, nmem := o.nmem, image := o.image, rise := o.rise, fall := o.fall } := by unfold ownO; rw [if_neg (by omega), if_neg (by omega), if_neg (by omega), if_pos h]
  have e : ownV o a c a' c' = .agg (ocs ({ base o with dep := o.dep, set := o.set, node := o.node, phase := o.phase, ready := o.ready, ending := o.ending, ncpu := o.ncpu, nmem := o.nmem, image := o.image, rise := o.rise, fall := o.fall }) (labV o.labs a c) (.raw (.slice none 0 0))) := by unfold ownV; rw [hX, if_neg (by omega), if_neg (by omega)]
  rw [e]
  refine ret_start1 Tryz.func110 rfl rfl rfl (fun w0 hw => ?_)
  refine vstart [(0, ov o a c a' c')] [] [] ?_
  refine vwith (pt := .run _) _ _ [] tabOk lent_nil fun go => ?_
  apply go 300
  repeat' (first | apply And.intro | intro _)
  all_goals try (first | (show Here _ _ _ _; try (exfalso; omega)) | exact trivial | omega | kernel_rfl | exact rfl)
  rename_i b1 b2 b3 _ _ _ _
  refine vanyE [0] (ι := Unit) (fun _ => [(1, .ptr true 0 b1 0 1 0 0), (2, .ptr true 1 b2 0 1 0 0), (3, .ptr true 2 b3 0 1 0 0)]) (fun _ => [⟨b1, 27, .var (ocs o (labV o.labs a c) (labV o.sel a' c')), []⟩, ⟨b2, 27, .var (cellsV (.raw ((zeroL tab 27).getD undef))), []⟩, ⟨b3, 27, .var (ocs ({ base o with dep := o.dep, set := o.set, node := o.node, phase := o.phase, ready := o.ready, ending := o.ending }) (labV o.labs a c) (.raw (.slice none 0 0))), []⟩]) (fun _ => []) (fun _ => True) (by kernel_rfl) rfl ?_ (fun hend => ?_)
  rotate_left
  · skip
    apply any_first 0; exact rfl; exact rfl; exact rfl; exact rfl; kernel_rfl; first | (apply pv; exact rfl; exact rfl) | (first | (apply pv; exact rfl; exact rfl) | (apply p_ls; exact rfl; kernel_rfl) | (apply p_ll; exact rfl; kernel_rfl) | (apply p_ic; exact rfl; omega) | (apply p_s1; exact rfl; omega; omega) | (apply p_sb; exact rfl; exact rfl; omega; omega) | (apply p_ad; exact rfl; exact rfl; omega) | (apply p_be; exact rfl; exact rfl; kernel_rfl) | (apply p_bn; exact rfl; exact rfl; kernel_rfl) | (apply p_en; exact rfl; exact rfl; kernel_rfl) | (apply p_nn; exact rfl; exact rfl; kernel_rfl) | (apply p_cv; exact rfl; exact int_of tabOk rfl; kernel_rfl) | (apply p_mi; exact rfl; exact p_mi_ok (kind_of tabOk rfl) rfl) | (apply p_fa; exact rfl; exact field_of tabOk rfl) | (apply p_nc; exact rfl) | (apply p_bk; exact rfl; omega; omega; kernel_rfl) | (apply p_by; exact rfl; exact rfl; omega; kernel_rfl) | (apply p_ia; exact rfl; exact rfl; exact elem_of tabOk rfl; omega) | (apply p_ar; exact rfl; exact rfl; exact rfl) | (apply p_bd tabOk; exact rfl; exact rfl; exact rfl; exact ⟨rfl, rfl⟩))
    apply any_firstL 1; exact rfl; exact rfl; exact rfl; exact rfl; kernel_rfl; first | (apply l1 0; exact shape_of tabOk rfl; exact rfl; exact rfl; exact rfl; exact rfl) | (apply ln 0; exact shape_of tabOk rfl; exact rfl; exact rfl; exact rfl; exact rfl)
    apply any_first 2; exact rfl; exact rfl; exact rfl; exact rfl; kernel_rfl; first | (apply pv; exact rfl; exact rfl) | (first | (apply pv; exact rfl; exact rfl) | (apply p_ls; exact rfl; kernel_rfl) | (apply p_ll; exact rfl; kernel_rfl) | (apply p_ic; exact rfl; omega) | (apply p_s1; exact rfl; omega; omega) | (apply p_sb; exact rfl; exact rfl; omega; omega) | (apply p_ad; exact rfl; exact rfl; omega) | (apply p_be; exact rfl; exact rfl; kernel_rfl) | (apply p_bn; exact rfl; exact rfl; kernel_rfl) | (apply p_en; exact rfl; exact rfl; kernel_rfl) | (apply p_nn; exact rfl; exact rfl; kernel_rfl) | (apply p_cv; exact rfl; exact int_of tabOk rfl; kernel_rfl) | (apply p_mi; exact rfl; exact p_mi_ok (kind_of tabOk rfl) rfl) | (apply p_fa; exact rfl; exact field_of tabOk rfl) | (apply p_nc; exact rfl) | (apply p_bk; exact rfl; omega; omega; kernel_rfl) | (apply p_by; exact rfl; exact rfl; omega; kernel_rfl) | (apply p_ia; exact rfl; exact rfl; exact elem_of tabOk rfl; omega) | (apply p_ar; exact rfl; exact rfl; exact rfl) | (apply p_bd tabOk; exact rfl; exact rfl; exact rfl; exact ⟨rfl, rfl⟩))
    apply any_firstL 3; exact rfl; exact rfl; exact rfl; exact rfl; kernel_rfl; first | (apply l1 0; exact shape_of tabOk rfl; exact rfl; exact rfl; exact rfl; exact rfl) | (apply ln 0; exact shape_of tabOk rfl; exact rfl; exact rfl; exact rfl; exact rfl)
    apply any_first 4; exact rfl; exact rfl; exact rfl; exact rfl; kernel_rfl; first | (apply pv; exact rfl; exact rfl) | (first | (apply pv; exact rfl; exact rfl) | (apply p_ls; exact rfl; kernel_rfl) | (apply p_ll; exact rfl; kernel_rfl) | (apply p_ic; exact rfl; omega) | (apply p_s1; exact rfl; omega; omega) | (apply p_sb; exact rfl; exact rfl; omega; omega) | (apply p_ad; exact rfl; exact rfl; omega) | (apply p_be; exact rfl; exact rfl; kernel_rfl) | (apply p_bn; exact rfl; exact rfl; kernel_rfl) | (apply p_en; exact rfl; exact rfl; kernel_rfl) | (apply p_nn; exact rfl; exact rfl; kernel_rfl) | (apply p_cv; exact rfl; exact int_of tabOk rfl; kernel_rfl) | (apply p_mi; exact rfl; exact p_mi_ok (kind_of tabOk rfl) rfl) | (apply p_fa; exact rfl; exact field_of tabOk rfl) | (apply p_nc; exact rfl) | (apply p_bk; exact rfl; omega; omega; kernel_rfl) | (apply p_by; exact rfl; exact rfl; omega; kernel_rfl) | (apply p_ia; exact rfl; exact rfl; exact elem_of tabOk rfl; omega) | (apply p_ar; exact rfl; exact rfl; exact rfl) | (apply p_bd tabOk; exact rfl; exact rfl; exact rfl; exact ⟨rfl, rfl⟩))
    apply any_firstL 5; exact rfl; exact rfl; exact rfl; exact rfl; kernel_rfl; first | (apply l1 0; exact shape_of tabOk rfl; exact rfl; exact rfl; exact rfl; exact rfl) | (apply ln 0; exact shape_of tabOk rfl; exact rfl; exact rfl; exact rfl; exact rfl)
    apply any_first 6; exact rfl; exact rfl; exact rfl; exact rfl; kernel_rfl; first | (apply pv; exact rfl; exact rfl) | (first | (apply pv; exact rfl; exact rfl) | (apply p_ls; exact rfl; kernel_rfl) | (apply p_ll; exact rfl; kernel_rfl) | (apply p_ic; exact rfl; omega) | (apply p_s1; exact rfl; omega; omega) | (apply p_sb; exact rfl; exact rfl; omega; omega) | (apply p_ad; exact rfl; exact rfl; omega) | (apply p_be; exact rfl; exact rfl; kernel_rfl) | (apply p_bn; exact rfl; exact rfl; kernel_rfl) | (apply p_en; exact rfl; exact rfl; kernel_rfl) | (apply p_nn; exact rfl; exact rfl; kernel_rfl) | (apply p_cv; exact rfl; exact int_of tabOk rfl; kernel_rfl) | (apply p_mi; exact rfl; exact p_mi_ok (kind_of tabOk rfl) rfl) | (apply p_fa; exact rfl; exact field_of tabOk rfl) | (apply p_nc; exact rfl) | (apply p_bk; exact rfl; omega; omega; kernel_rfl) | (apply p_by; exact rfl; exact rfl; omega; kernel_rfl) | (apply p_ia; exact rfl; exact rfl; exact elem_of tabOk rfl; omega) | (apply p_ar; exact rfl; exact rfl; exact rfl) | (apply p_bd tabOk; exact rfl; exact rfl; exact rfl; exact ⟨rfl, rfl⟩))
    apply any_firstL 7; exact rfl; exact rfl; exact rfl; exact rfl; kernel_rfl; first | (apply l1 0; exact shape_of tabOk rfl; exact rfl; exact rfl; exact rfl; exact rfl) | (apply ln 0; exact shape_of tabOk rfl; exact rfl; exact rfl; exact rfl; exact rfl)
    apply any_first 8; exact rfl; exact rfl; exact rfl; exact rfl; kernel_rfl; first | (apply pv; exact rfl; exact rfl) | (first | (apply pv; exact rfl; exact rfl) | (apply p_ls; exact rfl; kernel_rfl) | (apply p_ll; exact rfl; kernel_rfl) | (apply p_ic; exact rfl; omega) | (apply p_s1; exact rfl; omega; omega) | (apply p_sb; exact rfl; exact rfl; omega; omega) | (apply p_ad; exact rfl; exact rfl; omega) | (apply p_be; exact rfl; exact rfl; kernel_rfl) | (apply p_bn; exact rfl; exact rfl; kernel_rfl) | (apply p_en; exact rfl; exact rfl; kernel_rfl) | (apply p_nn; exact rfl; exact rfl; kernel_rfl) | (apply p_cv; exact rfl; exact int_of tabOk rfl; kernel_rfl) | (apply p_mi; exact rfl; exact p_mi_ok (kind_of tabOk rfl) rfl) | (apply p_fa; exact rfl; exact field_of tabOk rfl) | (apply p_nc; exact rfl) | (apply p_bk; exact rfl; omega; omega; kernel_rfl) | (apply p_by; exact rfl; exact rfl; omega; kernel_rfl) | (apply p_ia; exact rfl; exact rfl; exact elem_of tabOk rfl; omega) | (apply p_ar; exact rfl; exact rfl; exact rfl) | (apply p_bd tabOk; exact rfl; exact rfl; exact rfl; exact ⟨rfl, rfl⟩))
    apply any_firstL 9; exact rfl; exact rfl; exact rfl; exact rfl; kernel_rfl; first | (apply l1 0; exact shape_of tabOk rfl; exact rfl; exact rfl; exact rfl; exact rfl) | (apply ln 0; exact shape_of tabOk rfl; exact rfl; exact rfl; exact rfl; exact rfl)
    apply any_first 10; exact rfl; exact rfl; exact rfl; exact rfl; kernel_rfl; first | (apply pv; exact rfl; exact rfl) | (first | (apply pv; exact rfl; exact rfl) | (apply p_ls; exact rfl; kernel_rfl) | (apply p_ll; exact rfl; kernel_rfl) | (apply p_ic; exact rfl; omega) | (apply p_s1; exact rfl; omega; omega) | (apply p_sb; exact rfl; exact rfl; omega; omega) | (apply p_ad; exact rfl; exact rfl; omega) | (apply p_be; exact rfl; exact rfl; kernel_rfl) | (apply p_bn; exact rfl; exact rfl; kernel_rfl) | (apply p_en; exact rfl; exact rfl; kernel_rfl) | (apply p_nn; exact rfl; exact rfl; kernel_rfl) | (apply p_cv; exact rfl; exact int_of tabOk rfl; kernel_rfl) | (apply p_mi; exact rfl; exact p_mi_ok (kind_of tabOk rfl) rfl) | (apply p_fa; exact rfl; exact field_of tabOk rfl) | (apply p_nc; exact rfl) | (apply p_bk; exact rfl; omega; omega; kernel_rfl) | (apply p_by; exact rfl; exact rfl; omega; kernel_rfl) | (apply p_ia; exact rfl; exact rfl; exact elem_of tabOk rfl; omega) | (apply p_ar; exact rfl; exact rfl; exact rfl) | (apply p_bd tabOk; exact rfl; exact rfl; exact rfl; exact ⟨rfl, rfl⟩))
    apply any_firstL 11; exact rfl; exact rfl; exact rfl; exact rfl; kernel_rfl; first | (apply l1 0; exact shape_of tabOk rfl; exact rfl; exact rfl; exact rfl; exact rfl) | (apply ln 0; exact shape_of tabOk rfl; exact rfl; exact rfl; exact rfl; exact rfl)
    apply any_first 12; exact rfl; exact rfl; exact rfl; exact rfl; kernel_rfl; first | (apply pv; exact rfl; exact rfl) | (first | (apply pv; exact rfl; exact rfl) | (apply p_ls; exact rfl; kernel_rfl) | (apply p_ll; exact rfl; kernel_rfl) | (apply p_ic; exact rfl; omega) | (apply p_s1; exact rfl; omega; omega) | (apply p_sb; exact rfl; exact rfl; omega; omega) | (apply p_ad; exact rfl; exact rfl; omega) | (apply p_be; exact rfl; exact rfl; kernel_rfl) | (apply p_bn; exact rfl; exact rfl; kernel_rfl) | (apply p_en; exact rfl; exact rfl; kernel_rfl) | (apply p_nn; exact rfl; exact rfl; kernel_rfl) | (apply p_cv; exact rfl; exact int_of tabOk rfl; kernel_rfl) | (apply p_mi; exact rfl; exact p_mi_ok (kind_of tabOk rfl) rfl) | (apply p_fa; exact rfl; exact field_of tabOk rfl) | (apply p_nc; exact rfl) | (apply p_bk; exact rfl; omega; omega; kernel_rfl) | (apply p_by; exact rfl; exact rfl; omega; kernel_rfl) | (apply p_ia; exact rfl; exact rfl; exact elem_of tabOk rfl; omega) | (apply p_ar; exact rfl; exact rfl; exact rfl) | (apply p_bd tabOk; exact rfl; exact rfl; exact rfl; exact ⟨rfl, rfl⟩))
    refine any_step [13] (by kernel_rfl) rfl (by kernel_rfl) ?_
    intro i hi
    simp only [List.mem_cons, List.not_mem_nil, or_false] at hi
    subst hi
    apply aso 2; exact size_of tabOk rfl; exact rfl; exact rfl; exact rfl; exact rfl; exact rfl; exact so_le rfl; exact so_one rfl
    apply any_first 14; exact rfl; exact rfl; exact rfl; exact rfl; kernel_rfl; first | (apply pv; exact rfl; exact rfl) | (first | (apply pv; exact rfl; exact rfl) | (apply p_ls; exact rfl; kernel_rfl) | (apply p_ll; exact rfl; kernel_rfl) | (apply p_ic; exact rfl; omega) | (apply p_s1; exact rfl; omega; omega) | (apply p_sb; exact rfl; exact rfl; omega; omega) | (apply p_ad; exact rfl; exact rfl; omega) | (apply p_be; exact rfl; exact rfl; kernel_rfl) | (apply p_bn; exact rfl; exact rfl; kernel_rfl) | (apply p_en; exact rfl; exact rfl; kernel_rfl) | (apply p_nn; exact rfl; exact rfl; kernel_rfl) | (apply p_cv; exact rfl; exact int_of tabOk rfl; kernel_rfl) | (apply p_mi; exact rfl; exact p_mi_ok (kind_of tabOk rfl) rfl) | (apply p_fa; exact rfl; exact field_of tabOk rfl) | (apply p_nc; exact rfl) | (apply p_bk; exact rfl; omega; omega; kernel_rfl) | (apply p_by; exact rfl; exact rfl; omega; kernel_rfl) | (apply p_ia; exact rfl; exact rfl; exact elem_of tabOk rfl; omega) | (apply p_ar; exact rfl; exact rfl; exact rfl) | (apply p_bd tabOk; exact rfl; exact rfl; exact rfl; exact ⟨rfl, rfl⟩))
    refine any_step [15] (by kernel_rfl) rfl (by kernel_rfl) ?_
    intro i hi
    simp only [List.mem_cons, List.not_mem_nil, or_false] at hi
    subst hi
    apply aso 2; exact size_of tabOk rfl; exact rfl; exact rfl; exact rfl; exact rfl; exact rfl; exact so_le rfl; exact so_one rfl
    apply any_first 16; exact rfl; exact rfl; exact rfl; exact rfl; kernel_rfl; first | (apply pv; exact rfl; exact rfl) | (first | (apply pv; exact rfl; exact rfl) | (apply p_ls; exact rfl; kernel_rfl) | (apply p_ll; exact rfl; kernel_rfl) | (apply p_ic; exact rfl; omega) | (apply p_s1; exact rfl; omega; omega) | (apply p_sb; exact rfl; exact rfl; omega; omega) | (apply p_ad; exact rfl; exact rfl; omega) | (apply p_be; exact rfl; exact rfl; kernel_rfl) | (apply p_bn; exact rfl; exact rfl; kernel_rfl) | (apply p_en; exact rfl; exact rfl; kernel_rfl) | (apply p_nn; exact rfl; exact rfl; kernel_rfl) | (apply p_cv; exact rfl; exact int_of tabOk rfl; kernel_rfl) | (apply p_mi; exact rfl; exact p_mi_ok (kind_of tabOk rfl) rfl) | (apply p_fa; exact rfl; exact field_of tabOk rfl) | (apply p_nc; exact rfl) | (apply p_bk; exact rfl; omega; omega; kernel_rfl) | (apply p_by; exact rfl; exact rfl; omega; kernel_rfl) | (apply p_ia; exact rfl; exact rfl; exact elem_of tabOk rfl; omega) | (apply p_ar; exact rfl; exact rfl; exact rfl) | (apply p_bd tabOk; exact rfl; exact rfl; exact rfl; exact ⟨rfl, rfl⟩))
    refine any_step [17] (by kernel_rfl) rfl (by kernel_rfl) ?_
    intro i hi
    simp only [List.mem_cons, List.not_mem_nil, or_false] at hi
    subst hi
    apply aso 2; exact size_of tabOk rfl; exact rfl; exact rfl; exact rfl; exact rfl; exact rfl; exact so_le rfl; exact so_one rfl
    apply any_first 18; exact rfl; exact rfl; exact rfl; exact rfl; kernel_rfl; first | (apply pv; exact rfl; exact rfl) | (first | (apply pv; exact rfl; exact rfl) | (apply p_ls; exact rfl; kernel_rfl) | (apply p_ll; exact rfl; kernel_rfl) | (apply p_ic; exact rfl; omega) | (apply p_s1; exact rfl; omega; omega) | (apply p_sb; exact rfl; exact rfl; omega; omega) | (apply p_ad; exact rfl; exact rfl; omega) | (apply p_be; exact rfl; exact rfl; kernel_rfl) | (apply p_bn; exact rfl; exact rfl; kernel_rfl) | (apply p_en; exact rfl; exact rfl; kernel_rfl) | (apply p_nn; exact rfl; exact rfl; kernel_rfl) | (apply p_cv; exact rfl; exact int_of tabOk rfl; kernel_rfl) | (apply p_mi; exact rfl; exact p_mi_ok (kind_of tabOk rfl) rfl) | (apply p_fa; exact rfl; exact field_of tabOk rfl) | (apply p_nc; exact rfl) | (apply p_bk; exact rfl; omega; omega; kernel_rfl) | (apply p_by; exact rfl; exact rfl; omega; kernel_rfl) | (apply p_ia; exact rfl; exact rfl; exact elem_of tabOk rfl; omega) | (apply p_ar; exact rfl; exact rfl; exact rfl) | (apply p_bd tabOk; exact rfl; exact rfl; exact rfl; exact ⟨rfl, rfl⟩))
    refine any_step [19] (by kernel_rfl) rfl (by kernel_rfl) ?_
    intro i hi
    simp only [List.mem_cons, List.not_mem_nil, or_false] at hi
    subst hi
    apply aso 2; exact size_of tabOk rfl; exact rfl; exact rfl; exact rfl; exact rfl; exact rfl; exact so_le rfl; exact so_one rfl
    apply any_first 20; exact rfl; exact rfl; exact rfl; exact rfl; kernel_rfl; first | (apply pv; exact rfl; exact rfl) | (first | (apply pv; exact rfl; exact rfl) | (apply p_ls; exact rfl; kernel_rfl) | (apply p_ll; exact rfl; kernel_rfl) | (apply p_ic; exact rfl; omega) | (apply p_s1; exact rfl; omega; omega) | (apply p_sb; exact rfl; exact rfl; omega; omega) | (apply p_ad; exact rfl; exact rfl; omega) | (apply p_be; exact rfl; exact rfl; kernel_rfl) | (apply p_bn; exact rfl; exact rfl; kernel_rfl) | (apply p_en; exact rfl; exact rfl; kernel_rfl) | (apply p_nn; exact rfl; exact rfl; kernel_rfl) | (apply p_cv; exact rfl; exact int_of tabOk rfl; kernel_rfl) | (apply p_mi; exact rfl; exact p_mi_ok (kind_of tabOk rfl) rfl) | (apply p_fa; exact rfl; exact field_of tabOk rfl) | (apply p_nc; exact rfl) | (apply p_bk; exact rfl; omega; omega; kernel_rfl) | (apply p_by; exact rfl; exact rfl; omega; kernel_rfl) | (apply p_ia; exact rfl; exact rfl; exact elem_of tabOk rfl; omega) | (apply p_ar; exact rfl; exact rfl; exact rfl) | (apply p_bd tabOk; exact rfl; exact rfl; exact rfl; exact ⟨rfl, rfl⟩))
    refine any_step [21] (by kernel_rfl) rfl (by kernel_rfl) ?_
    intro i hi
    simp only [List.mem_cons, List.not_mem_nil, or_false] at hi
    subst hi
    apply aso 2; exact size_of tabOk rfl; exact rfl; exact rfl; exact rfl; exact rfl; exact rfl; exact so_le rfl; exact so_one rfl
    apply any_first 22; exact rfl; exact rfl; exact rfl; exact rfl; kernel_rfl; first | (apply pv; exact rfl; exact rfl) | (first | (apply pv; exact rfl; exact rfl) | (apply p_ls; exact rfl; kernel_rfl) | (apply p_ll; exact rfl; kernel_rfl) | (apply p_ic; exact rfl; omega) | (apply p_s1; exact rfl; omega; omega) | (apply p_sb; exact rfl; exact rfl; omega; omega) | (apply p_ad; exact rfl; exact rfl; omega) | (apply p_be; exact rfl; exact rfl; kernel_rfl) | (apply p_bn; exact rfl; exact rfl; kernel_rfl) | (apply p_en; exact rfl; exact rfl; kernel_rfl) | (apply p_nn; exact rfl; exact rfl; kernel_rfl) | (apply p_cv; exact rfl; exact int_of tabOk rfl; kernel_rfl) | (apply p_mi; exact rfl; exact p_mi_ok (kind_of tabOk rfl) rfl) | (apply p_fa; exact rfl; exact field_of tabOk rfl) | (apply p_nc; exact rfl) | (apply p_bk; exact rfl; omega; omega; kernel_rfl) | (apply p_by; exact rfl; exact rfl; omega; kernel_rfl) | (apply p_ia; exact rfl; exact rfl; exact elem_of tabOk rfl; omega) | (apply p_ar; exact rfl; exact rfl; exact rfl) | (apply p_bd tabOk; exact rfl; exact rfl; exact rfl; exact ⟨rfl, rfl⟩))
    refine any_step [23] (by kernel_rfl) rfl (by kernel_rfl) ?_
    intro i hi
    simp only [List.mem_cons, List.not_mem_nil, or_false] at hi
    subst hi
    apply aso 2; exact size_of tabOk rfl; exact rfl; exact rfl; exact rfl; exact rfl; exact rfl; exact so_le rfl; exact so_one rfl
    refine any_end (by kernel_rfl) ?_
    exact hend () _ _ trivial ⟨rfl, rfl, rfl, trivial⟩ (List.Perm.refl _)
  intro _ _
  refine vwith (pt := .run _) _ _ [] tabOk lent_nil fun go => ?_
  apply go 300
  repeat' (first | apply And.intro | intro _)
  all_goals try (first | (show Here _ _ _ _; try (exfalso; omega)) | exact trivial | omega | kernel_rfl | exact rfl)
  refine vanyE [0] (ι := Unit) (fun _ => [(1, .ptr true 0 b1 0 1 0 0), (2, .ptr true 1 b2 0 1 0 0), (3, .ptr true 2 b3 0 1 0 0)]) (fun _ => [⟨b1, 27, .var (ocs o (labV o.labs a c) (labV o.sel a' c')), []⟩, ⟨b2, 27, .var (cellsV (.raw ((zeroL tab 27).getD undef))), []⟩, ⟨b3, 27, .var (ocs ({ base o with dep := o.dep, set := o.set, node := o.node, phase := o.phase, ready := o.ready, ending := o.ending, ncpu := o.ncpu, nmem := o.nmem, image := o.image, rise := o.rise, fall := o.fall }) (labV o.labs a c) (.raw (.slice none 0 0))), []⟩]) (fun _ => []) (fun _ => True) (by kernel_rfl) rfl ?_ (fun hend => ?_)
  rotate_left
  · skip
    apply any_first 0; exact rfl; exact rfl; exact rfl; exact rfl; kernel_rfl; first | (apply pv; exact rfl; exact rfl) | (first | (apply pv; exact rfl; exact rfl) | (apply p_ls; exact rfl; kernel_rfl) | (apply p_ll; exact rfl; kernel_rfl) | (apply p_ic; exact rfl; omega) | (apply p_s1; exact rfl; omega; omega) | (apply p_sb; exact rfl; exact rfl; omega; omega) | (apply p_ad; exact rfl; exact rfl; omega) | (apply p_be; exact rfl; exact rfl; kernel_rfl) | (apply p_bn; exact rfl; exact rfl; kernel_rfl) | (apply p_en; exact rfl; exact rfl; kernel_rfl) | (apply p_nn; exact rfl; exact rfl; kernel_rfl) | (apply p_cv; exact rfl; exact int_of tabOk rfl; kernel_rfl) | (apply p_mi; exact rfl; exact p_mi_ok (kind_of tabOk rfl) rfl) | (apply p_fa; exact rfl; exact field_of tabOk rfl) | (apply p_nc; exact rfl) | (apply p_bk; exact rfl; omega; omega; kernel_rfl) | (apply p_by; exact rfl; exact rfl; omega; kernel_rfl) | (apply p_ia; exact rfl; exact rfl; exact elem_of tabOk rfl; omega) | (apply p_ar; exact rfl; exact rfl; exact rfl) | (apply p_bd tabOk; exact rfl; exact rfl; exact rfl; exact ⟨rfl, rfl⟩))
    apply any_firstL 1; exact rfl; exact rfl; exact rfl; exact rfl; kernel_rfl; first | (apply l1 0; exact shape_of tabOk rfl; exact rfl; exact rfl; exact rfl; exact rfl) | (apply ln 0; exact shape_of tabOk rfl; exact rfl; exact rfl; exact rfl; exact rfl)
    apply any_first 2; exact rfl; exact rfl; exact rfl; exact rfl; kernel_rfl; first | (apply pv; exact rfl; exact rfl) | (first | (apply pv; exact rfl; exact rfl) | (apply p_ls; exact rfl; kernel_rfl) | (apply p_ll; exact rfl; kernel_rfl) | (apply p_ic; exact rfl; omega) | (apply p_s1; exact rfl; omega; omega) | (apply p_sb; exact rfl; exact rfl; omega; omega) | (apply p_ad; exact rfl; exact rfl; omega) | (apply p_be; exact rfl; exact rfl; kernel_rfl) | (apply p_bn; exact rfl; exact rfl; kernel_rfl) | (apply p_en; exact rfl; exact rfl; kernel_rfl) | (apply p_nn; exact rfl; exact rfl; kernel_rfl) | (apply p_cv; exact rfl; exact int_of tabOk rfl; kernel_rfl) | (apply p_mi; exact rfl; exact p_mi_ok (kind_of tabOk rfl) rfl) | (apply p_fa; exact rfl; exact field_of tabOk rfl) | (apply p_nc; exact rfl) | (apply p_bk; exact rfl; omega; omega; kernel_rfl) | (apply p_by; exact rfl; exact rfl; omega; kernel_rfl) | (apply p_ia; exact rfl; exact rfl; exact elem_of tabOk rfl; omega) | (apply p_ar; exact rfl; exact rfl; exact rfl) | (apply p_bd tabOk; exact rfl; exact rfl; exact rfl; exact ⟨rfl, rfl⟩))
    apply any_firstL 3; exact rfl; exact rfl; exact rfl; exact rfl; kernel_rfl; first | (apply l1 0; exact shape_of tabOk rfl; exact rfl; exact rfl; exact rfl; exact rfl) | (apply ln 0; exact shape_of tabOk rfl; exact rfl; exact rfl; exact rfl; exact rfl)
    apply any_first 4; exact rfl; exact rfl; exact rfl; exact rfl; kernel_rfl; first | (apply pv; exact rfl; exact rfl) | (first | (apply pv; exact rfl; exact rfl) | (apply p_ls; exact rfl; kernel_rfl) | (apply p_ll; exact rfl; kernel_rfl) | (apply p_ic; exact rfl; omega) | (apply p_s1; exact rfl; omega; omega) | (apply p_sb; exact rfl; exact rfl; omega; omega) | (apply p_ad; exact rfl; exact rfl; omega) | (apply p_be; exact rfl; exact rfl; kernel_rfl) | (apply p_bn; exact rfl; exact rfl; kernel_rfl) | (apply p_en; exact rfl; exact rfl; kernel_rfl) | (apply p_nn; exact rfl; exact rfl; kernel_rfl) | (apply p_cv; exact rfl; exact int_of tabOk rfl; kernel_rfl) | (apply p_mi; exact rfl; exact p_mi_ok (kind_of tabOk rfl) rfl) | (apply p_fa; exact rfl; exact field_of tabOk rfl) | (apply p_nc; exact rfl) | (apply p_bk; exact rfl; omega; omega; kernel_rfl) | (apply p_by; exact rfl; exact rfl; omega; kernel_rfl) | (apply p_ia; exact rfl; exact rfl; exact elem_of tabOk rfl; omega) | (apply p_ar; exact rfl; exact rfl; exact rfl) | (apply p_bd tabOk; exact rfl; exact rfl; exact rfl; exact ⟨rfl, rfl⟩))
    apply any_firstL 5; exact rfl; exact rfl; exact rfl; exact rfl; kernel_rfl; first | (apply l1 0; exact shape_of tabOk rfl; exact rfl; exact rfl; exact rfl; exact rfl) | (apply ln 0; exact shape_of tabOk rfl; exact rfl; exact rfl; exact rfl; exact rfl)
    apply any_first 6; exact rfl; exact rfl; exact rfl; exact rfl; kernel_rfl; first | (apply pv; exact rfl; exact rfl) | (first | (apply pv; exact rfl; exact rfl) | (apply p_ls; exact rfl; kernel_rfl) | (apply p_ll; exact rfl; kernel_rfl) | (apply p_ic; exact rfl; omega) | (apply p_s1; exact rfl; omega; omega) | (apply p_sb; exact rfl; exact rfl; omega; omega) | (apply p_ad; exact rfl; exact rfl; omega) | (apply p_be; exact rfl; exact rfl; kernel_rfl) | (apply p_bn; exact rfl; exact rfl; kernel_rfl) | (apply p_en; exact rfl; exact rfl; kernel_rfl) | (apply p_nn; exact rfl; exact rfl; kernel_rfl) | (apply p_cv; exact rfl; exact int_of tabOk rfl; kernel_rfl) | (apply p_mi; exact rfl; exact p_mi_ok (kind_of tabOk rfl) rfl) | (apply p_fa; exact rfl; exact field_of tabOk rfl) | (apply p_nc; exact rfl) | (apply p_bk; exact rfl; omega; omega; kernel_rfl) | (apply p_by; exact rfl; exact rfl; omega; kernel_rfl) | (apply p_ia; exact rfl; exact rfl; exact elem_of tabOk rfl; omega) | (apply p_ar; exact rfl; exact rfl; exact rfl) | (apply p_bd tabOk; exact rfl; exact rfl; exact rfl; exact ⟨rfl, rfl⟩))
    apply any_firstL 7; exact rfl; exact rfl; exact rfl; exact rfl; kernel_rfl; first | (apply l1 0; exact shape_of tabOk rfl; exact rfl; exact rfl; exact rfl; exact rfl) | (apply ln 0; exact shape_of tabOk rfl; exact rfl; exact rfl; exact rfl; exact rfl)
    apply any_first 8; exact rfl; exact rfl; exact rfl; exact rfl; kernel_rfl; first | (apply pv; exact rfl; exact rfl) | (first | (apply pv; exact rfl; exact rfl) | (apply p_ls; exact rfl; kernel_rfl) | (apply p_ll; exact rfl; kernel_rfl) | (apply p_ic; exact rfl; omega) | (apply p_s1; exact rfl; omega; omega) | (apply p_sb; exact rfl; exact rfl; omega; omega) | (apply p_ad; exact rfl; exact rfl; omega) | (apply p_be; exact rfl; exact rfl; kernel_rfl) | (apply p_bn; exact rfl; exact rfl; kernel_rfl) | (apply p_en; exact rfl; exact rfl; kernel_rfl) | (apply p_nn; exact rfl; exact rfl; kernel_rfl) | (apply p_cv; exact rfl; exact int_of tabOk rfl; kernel_rfl) | (apply p_mi; exact rfl; exact p_mi_ok (kind_of tabOk rfl) rfl) | (apply p_fa; exact rfl; exact field_of tabOk rfl) | (apply p_nc; exact rfl) | (apply p_bk; exact rfl; omega; omega; kernel_rfl) | (apply p_by; exact rfl; exact rfl; omega; kernel_rfl) | (apply p_ia; exact rfl; exact rfl; exact elem_of tabOk rfl; omega) | (apply p_ar; exact rfl; exact rfl; exact rfl) | (apply p_bd tabOk; exact rfl; exact rfl; exact rfl; exact ⟨rfl, rfl⟩))
    refine any_step [9] (by kernel_rfl) rfl (by kernel_rfl) ?_
    intro i hi
    simp only [List.mem_cons, List.not_mem_nil, or_false] at hi
    subst hi
    apply aso 2; exact size_of tabOk rfl; exact rfl; exact rfl; exact rfl; exact rfl; exact rfl; exact so_le rfl; exact so_one rfl
    apply any_first 10; exact rfl; exact rfl; exact rfl; exact rfl; kernel_rfl; first | (apply pv; exact rfl; exact rfl) | (first | (apply pv; exact rfl; exact rfl) | (apply p_ls; exact rfl; kernel_rfl) | (apply p_ll; exact rfl; kernel_rfl) | (apply p_ic; exact rfl; omega) | (apply p_s1; exact rfl; omega; omega) | (apply p_sb; exact rfl; exact rfl; omega; omega) | (apply p_ad; exact rfl; exact rfl; omega) | (apply p_be; exact rfl; exact rfl; kernel_rfl) | (apply p_bn; exact rfl; exact rfl; kernel_rfl) | (apply p_en; exact rfl; exact rfl; kernel_rfl) | (apply p_nn; exact rfl; exact rfl; kernel_rfl) | (apply p_cv; exact rfl; exact int_of tabOk rfl; kernel_rfl) | (apply p_mi; exact rfl; exact p_mi_ok (kind_of tabOk rfl) rfl) | (apply p_fa; exact rfl; exact field_of tabOk rfl) | (apply p_nc; exact rfl) | (apply p_bk; exact rfl; omega; omega; kernel_rfl) | (apply p_by; exact rfl; exact rfl; omega; kernel_rfl) | (apply p_ia; exact rfl; exact rfl; exact elem_of tabOk rfl; omega) | (apply p_ar; exact rfl; exact rfl; exact rfl) | (apply p_bd tabOk; exact rfl; exact rfl; exact rfl; exact ⟨rfl, rfl⟩))
    refine any_step [11] (by kernel_rfl) rfl (by kernel_rfl) ?_
    intro i hi
    simp only [List.mem_cons, List.not_mem_nil, or_false] at hi
    subst hi
    apply aso 2; exact size_of tabOk rfl; exact rfl; exact rfl; exact rfl; exact rfl; exact rfl; exact so_le rfl; exact so_one rfl
    apply any_first 12; exact rfl; exact rfl; exact rfl; exact rfl; kernel_rfl; first | (apply pv; exact rfl; exact rfl) | (first | (apply pv; exact rfl; exact rfl) | (apply p_ls; exact rfl; kernel_rfl) | (apply p_ll; exact rfl; kernel_rfl) | (apply p_ic; exact rfl; omega) | (apply p_s1; exact rfl; omega; omega) | (apply p_sb; exact rfl; exact rfl; omega; omega) | (apply p_ad; exact rfl; exact rfl; omega) | (apply p_be; exact rfl; exact rfl; kernel_rfl) | (apply p_bn; exact rfl; exact rfl; kernel_rfl) | (apply p_en; exact rfl; exact rfl; kernel_rfl) | (apply p_nn; exact rfl; exact rfl; kernel_rfl) | (apply p_cv; exact rfl; exact int_of tabOk rfl; kernel_rfl) | (apply p_mi; exact rfl; exact p_mi_ok (kind_of tabOk rfl) rfl) | (apply p_fa; exact rfl; exact field_of tabOk rfl) | (apply p_nc; exact rfl) | (apply p_bk; exact rfl; omega; omega; kernel_rfl) | (apply p_by; exact rfl; exact rfl; omega; kernel_rfl) | (apply p_ia; exact rfl; exact rfl; exact elem_of tabOk rfl; omega) | (apply p_ar; exact rfl; exact rfl; exact rfl) | (apply p_bd tabOk; exact rfl; exact rfl; exact rfl; exact ⟨rfl, rfl⟩))
    refine any_step [13] (by kernel_rfl) rfl (by kernel_rfl) ?_
    intro i hi
    simp only [List.mem_cons, List.not_mem_nil, or_false] at hi
    subst hi
    apply aso 2; exact size_of tabOk rfl; exact rfl; exact rfl; exact rfl; exact rfl; exact rfl; exact so_le rfl; exact so_one rfl
    apply any_first 14; exact rfl; exact rfl; exact rfl; exact rfl; kernel_rfl; first | (apply pv; exact rfl; exact rfl) | (first | (apply pv; exact rfl; exact rfl) | (apply p_ls; exact rfl; kernel_rfl) | (apply p_ll; exact rfl; kernel_rfl) | (apply p_ic; exact rfl; omega) | (apply p_s1; exact rfl; omega; omega) | (apply p_sb; exact rfl; exact rfl; omega; omega) | (apply p_ad; exact rfl; exact rfl; omega) | (apply p_be; exact rfl; exact rfl; kernel_rfl) | (apply p_bn; exact rfl; exact rfl; kernel_rfl) | (apply p_en; exact rfl; exact rfl; kernel_rfl) | (apply p_nn; exact rfl; exact rfl; kernel_rfl) | (apply p_cv; exact rfl; exact int_of tabOk rfl; kernel_rfl) | (apply p_mi; exact rfl; exact p_mi_ok (kind_of tabOk rfl) rfl) | (apply p_fa; exact rfl; exact field_of tabOk rfl) | (apply p_nc; exact rfl) | (apply p_bk; exact rfl; omega; omega; kernel_rfl) | (apply p_by; exact rfl; exact rfl; omega; kernel_rfl) | (apply p_ia; exact rfl; exact rfl; exact elem_of tabOk rfl; omega) | (apply p_ar; exact rfl; exact rfl; exact rfl) | (apply p_bd tabOk; exact rfl; exact rfl; exact rfl; exact ⟨rfl, rfl⟩))
    refine any_step [15] (by kernel_rfl) rfl (by kernel_rfl) ?_
    intro i hi
    simp only [List.mem_cons, List.not_mem_nil, or_false] at hi
    subst hi
    apply aso 2; exact size_of tabOk rfl; exact rfl; exact rfl; exact rfl; exact rfl; exact rfl; exact so_le rfl; exact so_one rfl
    refine any_end (by kernel_rfl) ?_
    exact hend () _ _ trivial ⟨rfl, rfl, rfl, trivial⟩ (List.Perm.refl _)
  intro _ _
  refine vwith (pt := .run _) _ _ [] tabOk lent_nil fun go => ?_
  apply go 300
  repeat' (first | apply And.intro | intro _)
  all_goals try (first | (show Here _ _ _ _; try (exfalso; omega)) | exact trivial | omega | kernel_rfl | exact rfl)
  exact vrc1 tabOk (by exact rfl) (by exact rfl) (by exact rfl) (by exact rfl) (by exact rfl) (by exact rfl)
theorem own2 (o : Oj) (a a' : Option Addr) (c c' : Nat) (h : o.kind = 2) : RetIf Tryz.prog 110 [(ov o a c a' c').val] (fun _ => True) (ownV o a c a' c').val := by
  have hX : ownO o = { base o with surge := o.surge, slack := o.slack, paused := o.paused, count := o.count, ncpu := o.ncpu, nmem := o.nmem, image := o.image, rise := o.rise, fall := o.fall } := by unfold ownO; rw [if_neg (by omega), if_neg (by omega), if_neg (by omega), if_neg (by omega), if_pos h]
  have e : ownV o a c a' c' = .agg (ocs ({ base o with surge := o.surge, slack := o.slack, paused := o.paused, count := o.count, ncpu := o.ncpu, nmem := o.nmem, image := o.image, rise := o.rise, fall := o.fall }) (labV o.labs a c) (.raw (.slice none 0 0))) := by unfold ownV; rw [hX, if_neg (by omega), if_neg (by omega)]
  rw [e]
  refine ret_start1 Tryz.func110 rfl rfl rfl (fun w0 hw => ?_)
  refine vstart [(0, ov o a c a' c')] [] [] ?_
  refine vwith (pt := .run _) _ _ [] tabOk lent_nil fun go => ?_
  apply go 300
  repeat' (first | apply And.intro | intro _)
  all_goals try (first | (show Here _ _ _ _; try (exfalso; omega)) | exact trivial | omega | kernel_rfl | exact rfl)
  rename_i b1 b2 b3 _ _ _ _ _
  refine vanyE [0] (ι := Unit) (fun _ => [(1, .ptr true 0 b1 0 1 0 0), (2, .ptr true 1 b2 0 1 0 0), (3, .ptr true 2 b3 0 1 0 0)]) (fun _ => [⟨b1, 27, .var (ocs o (labV o.labs a c) (labV o.sel a' c')), []⟩, ⟨b2, 27, .var (cellsV (.raw ((zeroL tab 27).getD undef))), []⟩, ⟨b3, 27, .var (ocs ({ base o with surge := o.surge, slack := o.slack, paused := o.paused }) (labV o.labs a c) (.raw (.slice none 0 0))), []⟩]) (fun _ => []) (fun _ => True) (by kernel_rfl) rfl ?_ (fun hend => ?_)
  rotate_left
  · skip
    apply any_first 0; exact rfl; exact rfl; exact rfl; exact rfl; kernel_rfl; first | (apply pv; exact rfl; exact rfl) | (first | (apply pv; exact rfl; exact rfl) | (apply p_ls; exact rfl; kernel_rfl) | (apply p_ll; exact rfl; kernel_rfl) | (apply p_ic; exact rfl; omega) | (apply p_s1; exact rfl; omega; omega) | (apply p_sb; exact rfl; exact rfl; omega; omega) | (apply p_ad; exact rfl; exact rfl; omega) | (apply p_be; exact rfl; exact rfl; kernel_rfl) | (apply p_bn; exact rfl; exact rfl; kernel_rfl) | (apply p_en; exact rfl; exact rfl; kernel_rfl) | (apply p_nn; exact rfl; exact rfl; kernel_rfl) | (apply p_cv; exact rfl; exact int_of tabOk rfl; kernel_rfl) | (apply p_mi; exact rfl; exact p_mi_ok (kind_of tabOk rfl) rfl) | (apply p_fa; exact rfl; exact field_of tabOk rfl) | (apply p_nc; exact rfl) | (apply p_bk; exact rfl; omega; omega; kernel_rfl) | (apply p_by; exact rfl; exact rfl; omega; kernel_rfl) | (apply p_ia; exact rfl; exact rfl; exact elem_of tabOk rfl; omega) | (apply p_ar; exact rfl; exact rfl; exact rfl) | (apply p_bd tabOk; exact rfl; exact rfl; exact rfl; exact ⟨rfl, rfl⟩))
    apply any_firstL 1; exact rfl; exact rfl; exact rfl; exact rfl; kernel_rfl; first | (apply l1 0; exact shape_of tabOk rfl; exact rfl; exact rfl; exact rfl; exact rfl) | (apply ln 0; exact shape_of tabOk rfl; exact rfl; exact rfl; exact rfl; exact rfl)
    apply any_first 2; exact rfl; exact rfl; exact rfl; exact rfl; kernel_rfl; first | (apply pv; exact rfl; exact rfl) | (first | (apply pv; exact rfl; exact rfl) | (apply p_ls; exact rfl; kernel_rfl) | (apply p_ll; exact rfl; kernel_rfl) | (apply p_ic; exact rfl; omega) | (apply p_s1; exact rfl; omega; omega) | (apply p_sb; exact rfl; exact rfl; omega; omega) | (apply p_ad; exact rfl; exact rfl; omega) | (apply p_be; exact rfl; exact rfl; kernel_rfl) | (apply p_bn; exact rfl; exact rfl; kernel_rfl) | (apply p_en; exact rfl; exact rfl; kernel_rfl) | (apply p_nn; exact rfl; exact rfl; kernel_rfl) | (apply p_cv; exact rfl; exact int_of tabOk rfl; kernel_rfl) | (apply p_mi; exact rfl; exact p_mi_ok (kind_of tabOk rfl) rfl) | (apply p_fa; exact rfl; exact field_of tabOk rfl) | (apply p_nc; exact rfl) | (apply p_bk; exact rfl; omega; omega; kernel_rfl) | (apply p_by; exact rfl; exact rfl; omega; kernel_rfl) | (apply p_ia; exact rfl; exact rfl; exact elem_of tabOk rfl; omega) | (apply p_ar; exact rfl; exact rfl; exact rfl) | (apply p_bd tabOk; exact rfl; exact rfl; exact rfl; exact ⟨rfl, rfl⟩))
    apply any_firstL 3; exact rfl; exact rfl; exact rfl; exact rfl; kernel_rfl; first | (apply l1 0; exact shape_of tabOk rfl; exact rfl; exact rfl; exact rfl; exact rfl) | (apply ln 0; exact shape_of tabOk rfl; exact rfl; exact rfl; exact rfl; exact rfl)
    apply any_first 4; exact rfl; exact rfl; exact rfl; exact rfl; kernel_rfl; first | (apply pv; exact rfl; exact rfl) | (first | (apply pv; exact rfl; exact rfl) | (apply p_ls; exact rfl; kernel_rfl) | (apply p_ll; exact rfl; kernel_rfl) | (apply p_ic; exact rfl; omega) | (apply p_s1; exact rfl; omega; omega) | (apply p_sb; exact rfl; exact rfl; omega; omega) | (apply p_ad; exact rfl; exact rfl; omega) | (apply p_be; exact rfl; exact rfl; kernel_rfl) | (apply p_bn; exact rfl; exact rfl; kernel_rfl) | (apply p_en; exact rfl; exact rfl; kernel_rfl) | (apply p_nn; exact rfl; exact rfl; kernel_rfl) | (apply p_cv; exact rfl; exact int_of tabOk rfl; kernel_rfl) | (apply p_mi; exact rfl; exact p_mi_ok (kind_of tabOk rfl) rfl) | (apply p_fa; exact rfl; exact field_of tabOk rfl) | (apply p_nc; exact rfl) | (apply p_bk; exact rfl; omega; omega; kernel_rfl) | (apply p_by; exact rfl; exact rfl; omega; kernel_rfl) | (apply p_ia; exact rfl; exact rfl; exact elem_of tabOk rfl; omega) | (apply p_ar; exact rfl; exact rfl; exact rfl) | (apply p_bd tabOk; exact rfl; exact rfl; exact rfl; exact ⟨rfl, rfl⟩))
    apply any_firstL 5; exact rfl; exact rfl; exact rfl; exact rfl; kernel_rfl; first | (apply l1 0; exact shape_of tabOk rfl; exact rfl; exact rfl; exact rfl; exact rfl) | (apply ln 0; exact shape_of tabOk rfl; exact rfl; exact rfl; exact rfl; exact rfl)
    apply any_first 6; exact rfl; exact rfl; exact rfl; exact rfl; kernel_rfl; first | (apply pv; exact rfl; exact rfl) | (first | (apply pv; exact rfl; exact rfl) | (apply p_ls; exact rfl; kernel_rfl) | (apply p_ll; exact rfl; kernel_rfl) | (apply p_ic; exact rfl; omega) | (apply p_s1; exact rfl; omega; omega) | (apply p_sb; exact rfl; exact rfl; omega; omega) | (apply p_ad; exact rfl; exact rfl; omega) | (apply p_be; exact rfl; exact rfl; kernel_rfl) | (apply p_bn; exact rfl; exact rfl; kernel_rfl) | (apply p_en; exact rfl; exact rfl; kernel_rfl) | (apply p_nn; exact rfl; exact rfl; kernel_rfl) | (apply p_cv; exact rfl; exact int_of tabOk rfl; kernel_rfl) | (apply p_mi; exact rfl; exact p_mi_ok (kind_of tabOk rfl) rfl) | (apply p_fa; exact rfl; exact field_of tabOk rfl) | (apply p_nc; exact rfl) | (apply p_bk; exact rfl; omega; omega; kernel_rfl) | (apply p_by; exact rfl; exact rfl; omega; kernel_rfl) | (apply p_ia; exact rfl; exact rfl; exact elem_of tabOk rfl; omega) | (apply p_ar; exact rfl; exact rfl; exact rfl) | (apply p_bd tabOk; exact rfl; exact rfl; exact rfl; exact ⟨rfl, rfl⟩))
    refine any_step [7] (by kernel_rfl) rfl (by kernel_rfl) ?_
    intro i hi
    simp only [List.mem_cons, List.not_mem_nil, or_false] at hi
    subst hi
    apply aso 2; exact size_of tabOk rfl; exact rfl; exact rfl; exact rfl; exact rfl; exact rfl; exact so_le rfl; exact so_one rfl
    apply any_first 8; exact rfl; exact rfl; exact rfl; exact rfl; kernel_rfl; first | (apply pv; exact rfl; exact rfl) | (first | (apply pv; exact rfl; exact rfl) | (apply p_ls; exact rfl; kernel_rfl) | (apply p_ll; exact rfl; kernel_rfl) | (apply p_ic; exact rfl; omega) | (apply p_s1; exact rfl; omega; omega) | (apply p_sb; exact rfl; exact rfl; omega; omega) | (apply p_ad; exact rfl; exact rfl; omega) | (apply p_be; exact rfl; exact rfl; kernel_rfl) | (apply p_bn; exact rfl; exact rfl; kernel_rfl) | (apply p_en; exact rfl; exact rfl; kernel_rfl) | (apply p_nn; exact rfl; exact rfl; kernel_rfl) | (apply p_cv; exact rfl; exact int_of tabOk rfl; kernel_rfl) | (apply p_mi; exact rfl; exact p_mi_ok (kind_of tabOk rfl) rfl) | (apply p_fa; exact rfl; exact field_of tabOk rfl) | (apply p_nc; exact rfl) | (apply p_bk; exact rfl; omega; omega; kernel_rfl) | (apply p_by; exact rfl; exact rfl; omega; kernel_rfl) | (apply p_ia; exact rfl; exact rfl; exact elem_of tabOk rfl; omega) | (apply p_ar; exact rfl; exact rfl; exact rfl) | (apply p_bd tabOk; exact rfl; exact rfl; exact rfl; exact ⟨rfl, rfl⟩))
    refine any_step [9] (by kernel_rfl) rfl (by kernel_rfl) ?_
    intro i hi
    simp only [List.mem_cons, List.not_mem_nil, or_false] at hi
    subst hi
    apply aso 2; exact size_of tabOk rfl; exact rfl; exact rfl; exact rfl; exact rfl; exact rfl; exact so_le rfl; exact so_one rfl
    apply any_first 10; exact rfl; exact rfl; exact rfl; exact rfl; kernel_rfl; first | (apply pv; exact rfl; exact rfl) | (first | (apply pv; exact rfl; exact rfl) | (apply p_ls; exact rfl; kernel_rfl) | (apply p_ll; exact rfl; kernel_rfl) | (apply p_ic; exact rfl; omega) | (apply p_s1; exact rfl; omega; omega) | (apply p_sb; exact rfl; exact rfl; omega; omega) | (apply p_ad; exact rfl; exact rfl; omega) | (apply p_be; exact rfl; exact rfl; kernel_rfl) | (apply p_bn; exact rfl; exact rfl; kernel_rfl) | (apply p_en; exact rfl; exact rfl; kernel_rfl) | (apply p_nn; exact rfl; exact rfl; kernel_rfl) | (apply p_cv; exact rfl; exact int_of tabOk rfl; kernel_rfl) | (apply p_mi; exact rfl; exact p_mi_ok (kind_of tabOk rfl) rfl) | (apply p_fa; exact rfl; exact field_of tabOk rfl) | (apply p_nc; exact rfl) | (apply p_bk; exact rfl; omega; omega; kernel_rfl) | (apply p_by; exact rfl; exact rfl; omega; kernel_rfl) | (apply p_ia; exact rfl; exact rfl; exact elem_of tabOk rfl; omega) | (apply p_ar; exact rfl; exact rfl; exact rfl) | (apply p_bd tabOk; exact rfl; exact rfl; exact rfl; exact ⟨rfl, rfl⟩))
    refine any_step [11] (by kernel_rfl) rfl (by kernel_rfl) ?_
    intro i hi
    simp only [List.mem_cons, List.not_mem_nil, or_false] at hi
    subst hi
    apply aso 2; exact size_of tabOk rfl; exact rfl; exact rfl; exact rfl; exact rfl; exact rfl; exact so_le rfl; exact so_one rfl
    refine any_end (by kernel_rfl) ?_
    exact hend () _ _ trivial ⟨rfl, rfl, rfl, trivial⟩ (List.Perm.refl _)
  intro _ _
  refine vwith (pt := .run _) _ _ [] tabOk lent_nil fun go => ?_
  apply go 300
  repeat' (first | apply And.intro | intro _)
  all_goals try (first | (show Here _ _ _ _; try (exfalso; omega)) | exact trivial | omega | kernel_rfl | exact rfl)
  refine vanyE [0] (ι := Unit) (fun _ => [(1, .ptr true 0 b1 0 1 0 0), (2, .ptr true 1 b2 0 1 0 0), (3, .ptr true 2 b3 0 1 0 0)]) (fun _ => [⟨b1, 27, .var (ocs o (labV o.labs a c) (labV o.sel a' c')), []⟩, ⟨b2, 27, .var (cellsV (.raw ((zeroL tab 27).getD undef))), []⟩, ⟨b3, 27, .var (ocs ({ base o with surge := o.surge, slack := o.slack, paused := o.paused, count := o.count, ncpu := o.ncpu, nmem := o.nmem, image := o.image, rise := o.rise, fall := o.fall }) (labV o.labs a c) (.raw (.slice none 0 0))), []⟩]) (fun _ => []) (fun _ => True) (by kernel_rfl) rfl ?_ (fun hend => ?_)
  rotate_left
  · skip
    apply any_first 0; exact rfl; exact rfl; exact rfl; exact rfl; kernel_rfl; first | (apply pv; exact rfl; exact rfl) | (first | (apply pv; exact rfl; exact rfl) | (apply p_ls; exact rfl; kernel_rfl) | (apply p_ll; exact rfl; kernel_rfl) | (apply p_ic; exact rfl; omega) | (apply p_s1; exact rfl; omega; omega) | (apply p_sb; exact rfl; exact rfl; omega; omega) | (apply p_ad; exact rfl; exact rfl; omega) | (apply p_be; exact rfl; exact rfl; kernel_rfl) | (apply p_bn; exact rfl; exact rfl; kernel_rfl) | (apply p_en; exact rfl; exact rfl; kernel_rfl) | (apply p_nn; exact rfl; exact rfl; kernel_rfl) | (apply p_cv; exact rfl; exact int_of tabOk rfl; kernel_rfl) | (apply p_mi; exact rfl; exact p_mi_ok (kind_of tabOk rfl) rfl) | (apply p_fa; exact rfl; exact field_of tabOk rfl) | (apply p_nc; exact rfl) | (apply p_bk; exact rfl; omega; omega; kernel_rfl) | (apply p_by; exact rfl; exact rfl; omega; kernel_rfl) | (apply p_ia; exact rfl; exact rfl; exact elem_of tabOk rfl; omega) | (apply p_ar; exact rfl; exact rfl; exact rfl) | (apply p_bd tabOk; exact rfl; exact rfl; exact rfl; exact ⟨rfl, rfl⟩))
    apply any_firstL 1; exact rfl; exact rfl; exact rfl; exact rfl; kernel_rfl; first | (apply l1 0; exact shape_of tabOk rfl; exact rfl; exact rfl; exact rfl; exact rfl) | (apply ln 0; exact shape_of tabOk rfl; exact rfl; exact rfl; exact rfl; exact rfl)
    apply any_first 2; exact rfl; exact rfl; exact rfl; exact rfl; kernel_rfl; first | (apply pv; exact rfl; exact rfl) | (first | (apply pv; exact rfl; exact rfl) | (apply p_ls; exact rfl; kernel_rfl) | (apply p_ll; exact rfl; kernel_rfl) | (apply p_ic; exact rfl; omega) | (apply p_s1; exact rfl; omega; omega) | (apply p_sb; exact rfl; exact rfl; omega; omega) | (apply p_ad; exact rfl; exact rfl; omega) | (apply p_be; exact rfl; exact rfl; kernel_rfl) | (apply p_bn; exact rfl; exact rfl; kernel_rfl) | (apply p_en; exact rfl; exact rfl; kernel_rfl) | (apply p_nn; exact rfl; exact rfl; kernel_rfl) | (apply p_cv; exact rfl; exact int_of tabOk rfl; kernel_rfl) | (apply p_mi; exact rfl; exact p_mi_ok (kind_of tabOk rfl) rfl) | (apply p_fa; exact rfl; exact field_of tabOk rfl) | (apply p_nc; exact rfl) | (apply p_bk; exact rfl; omega; omega; kernel_rfl) | (apply p_by; exact rfl; exact rfl; omega; kernel_rfl) | (apply p_ia; exact rfl; exact rfl; exact elem_of tabOk rfl; omega) | (apply p_ar; exact rfl; exact rfl; exact rfl) | (apply p_bd tabOk; exact rfl; exact rfl; exact rfl; exact ⟨rfl, rfl⟩))
    apply any_firstL 3; exact rfl; exact rfl; exact rfl; exact rfl; kernel_rfl; first | (apply l1 0; exact shape_of tabOk rfl; exact rfl; exact rfl; exact rfl; exact rfl) | (apply ln 0; exact shape_of tabOk rfl; exact rfl; exact rfl; exact rfl; exact rfl)
    apply any_first 4; exact rfl; exact rfl; exact rfl; exact rfl; kernel_rfl; first | (apply pv; exact rfl; exact rfl) | (first | (apply pv; exact rfl; exact rfl) | (apply p_ls; exact rfl; kernel_rfl) | (apply p_ll; exact rfl; kernel_rfl) | (apply p_ic; exact rfl; omega) | (apply p_s1; exact rfl; omega; omega) | (apply p_sb; exact rfl; exact rfl; omega; omega) | (apply p_ad; exact rfl; exact rfl; omega) | (apply p_be; exact rfl; exact rfl; kernel_rfl) | (apply p_bn; exact rfl; exact rfl; kernel_rfl) | (apply p_en; exact rfl; exact rfl; kernel_rfl) | (apply p_nn; exact rfl; exact rfl; kernel_rfl) | (apply p_cv; exact rfl; exact int_of tabOk rfl; kernel_rfl) | (apply p_mi; exact rfl; exact p_mi_ok (kind_of tabOk rfl) rfl) | (apply p_fa; exact rfl; exact field_of tabOk rfl) | (apply p_nc; exact rfl) | (apply p_bk; exact rfl; omega; omega; kernel_rfl) | (apply p_by; exact rfl; exact rfl; omega; kernel_rfl) | (apply p_ia; exact rfl; exact rfl; exact elem_of tabOk rfl; omega) | (apply p_ar; exact rfl; exact rfl; exact rfl) | (apply p_bd tabOk; exact rfl; exact rfl; exact rfl; exact ⟨rfl, rfl⟩))
    apply any_firstL 5; exact rfl; exact rfl; exact rfl; exact rfl; kernel_rfl; first | (apply l1 0; exact shape_of tabOk rfl; exact rfl; exact rfl; exact rfl; exact rfl) | (apply ln 0; exact shape_of tabOk rfl; exact rfl; exact rfl; exact rfl; exact rfl)
    apply any_first 6; exact rfl; exact rfl; exact rfl; exact rfl; kernel_rfl; first | (apply pv; exact rfl; exact rfl) | (first | (apply pv; exact rfl; exact rfl) | (apply p_ls; exact rfl; kernel_rfl) | (apply p_ll; exact rfl; kernel_rfl) | (apply p_ic; exact rfl; omega) | (apply p_s1; exact rfl; omega; omega) | (apply p_sb; exact rfl; exact rfl; omega; omega) | (apply p_ad; exact rfl; exact rfl; omega) | (apply p_be; exact rfl; exact rfl; kernel_rfl) | (apply p_bn; exact rfl; exact rfl; kernel_rfl) | (apply p_en; exact rfl; exact rfl; kernel_rfl) | (apply p_nn; exact rfl; exact rfl; kernel_rfl) | (apply p_cv; exact rfl; exact int_of tabOk rfl; kernel_rfl) | (apply p_mi; exact rfl; exact p_mi_ok (kind_of tabOk rfl) rfl) | (apply p_fa; exact rfl; exact field_of tabOk rfl) | (apply p_nc; exact rfl) | (apply p_bk; exact rfl; omega; omega; kernel_rfl) | (apply p_by; exact rfl; exact rfl; omega; kernel_rfl) | (apply p_ia; exact rfl; exact rfl; exact elem_of tabOk rfl; omega) | (apply p_ar; exact rfl; exact rfl; exact rfl) | (apply p_bd tabOk; exact rfl; exact rfl; exact rfl; exact ⟨rfl, rfl⟩))
    apply any_firstL 7; exact rfl; exact rfl; exact rfl; exact rfl; kernel_rfl; first | (apply l1 0; exact shape_of tabOk rfl; exact rfl; exact rfl; exact rfl; exact rfl) | (apply ln 0; exact shape_of tabOk rfl; exact rfl; exact rfl; exact rfl; exact rfl)
    apply any_first 8; exact rfl; exact rfl; exact rfl; exact rfl; kernel_rfl; first | (apply pv; exact rfl; exact rfl) | (first | (apply pv; exact rfl; exact rfl) | (apply p_ls; exact rfl; kernel_rfl) | (apply p_ll; exact rfl; kernel_rfl) | (apply p_ic; exact rfl; omega) | (apply p_s1; exact rfl; omega; omega) | (apply p_sb; exact rfl; exact rfl; omega; omega) | (apply p_ad; exact rfl; exact rfl; omega) | (apply p_be; exact rfl; exact rfl; kernel_rfl) | (apply p_bn; exact rfl; exact rfl; kernel_rfl) | (apply p_en; exact rfl; exact rfl; kernel_rfl) | (apply p_nn; exact rfl; exact rfl; kernel_rfl) | (apply p_cv; exact rfl; exact int_of tabOk rfl; kernel_rfl) | (apply p_mi; exact rfl; exact p_mi_ok (kind_of tabOk rfl) rfl) | (apply p_fa; exact rfl; exact field_of tabOk rfl) | (apply p_nc; exact rfl) | (apply p_bk; exact rfl; omega; omega; kernel_rfl) | (apply p_by; exact rfl; exact rfl; omega; kernel_rfl) | (apply p_ia; exact rfl; exact rfl; exact elem_of tabOk rfl; omega) | (apply p_ar; exact rfl; exact rfl; exact rfl) | (apply p_bd tabOk; exact rfl; exact rfl; exact rfl; exact ⟨rfl, rfl⟩))
    apply any_firstL 9; exact rfl; exact rfl; exact rfl; exact rfl; kernel_rfl; first | (apply l1 0; exact shape_of tabOk rfl; exact rfl; exact rfl; exact rfl; exact rfl) | (apply ln 0; exact shape_of tabOk rfl; exact rfl; exact rfl; exact rfl; exact rfl)
    apply any_first 10; exact rfl; exact rfl; exact rfl; exact rfl; kernel_rfl; first | (apply pv; exact rfl; exact rfl) | (first | (apply pv; exact rfl; exact rfl) | (apply p_ls; exact rfl; kernel_rfl) | (apply p_ll; exact rfl; kernel_rfl) | (apply p_ic; exact rfl; omega) | (apply p_s1; exact rfl; omega; omega) | (apply p_sb; exact rfl; exact rfl; omega; omega) | (apply p_ad; exact rfl; exact rfl; omega) | (apply p_be; exact rfl; exact rfl; kernel_rfl) | (apply p_bn; exact rfl; exact rfl; kernel_rfl) | (apply p_en; exact rfl; exact rfl; kernel_rfl) | (apply p_nn; exact rfl; exact rfl; kernel_rfl) | (apply p_cv; exact rfl; exact int_of tabOk rfl; kernel_rfl) | (apply p_mi; exact rfl; exact p_mi_ok (kind_of tabOk rfl) rfl) | (apply p_fa; exact rfl; exact field_of tabOk rfl) | (apply p_nc; exact rfl) | (apply p_bk; exact rfl; omega; omega; kernel_rfl) | (apply p_by; exact rfl; exact rfl; omega; kernel_rfl) | (apply p_ia; exact rfl; exact rfl; exact elem_of tabOk rfl; omega) | (apply p_ar; exact rfl; exact rfl; exact rfl) | (apply p_bd tabOk; exact rfl; exact rfl; exact rfl; exact ⟨rfl, rfl⟩))
    refine any_step [11] (by kernel_rfl) rfl (by kernel_rfl) ?_
    intro i hi
    simp only [List.mem_cons, List.not_mem_nil, or_false] at hi
    subst hi
    apply aso 2; exact size_of tabOk rfl; exact rfl; exact rfl; exact rfl; exact rfl; exact rfl; exact so_le rfl; exact so_one rfl
    apply any_first 12; exact rfl; exact rfl; exact rfl; exact rfl; kernel_rfl; first | (apply pv; exact rfl; exact rfl) | (first | (apply pv; exact rfl; exact rfl) | (apply p_ls; exact rfl; kernel_rfl) | (apply p_ll; exact rfl; kernel_rfl) | (apply p_ic; exact rfl; omega) | (apply p_s1; exact rfl; omega; omega) | (apply p_sb; exact rfl; exact rfl; omega; omega) | (apply p_ad; exact rfl; exact rfl; omega) | (apply p_be; exact rfl; exact rfl; kernel_rfl) | (apply p_bn; exact rfl; exact rfl; kernel_rfl) | (apply p_en; exact rfl; exact rfl; kernel_rfl) | (apply p_nn; exact rfl; exact rfl; kernel_rfl) | (apply p_cv; exact rfl; exact int_of tabOk rfl; kernel_rfl) | (apply p_mi; exact rfl; exact p_mi_ok (kind_of tabOk rfl) rfl) | (apply p_fa; exact rfl; exact field_of tabOk rfl) | (apply p_nc; exact rfl) | (apply p_bk; exact rfl; omega; omega; kernel_rfl) | (apply p_by; exact rfl; exact rfl; omega; kernel_rfl) | (apply p_ia; exact rfl; exact rfl; exact elem_of tabOk rfl; omega) | (apply p_ar; exact rfl; exact rfl; exact rfl) | (apply p_bd tabOk; exact rfl; exact rfl; exact rfl; exact ⟨rfl, rfl⟩))
    refine any_step [13] (by kernel_rfl) rfl (by kernel_rfl) ?_
    intro i hi
    simp only [List.mem_cons, List.not_mem_nil, or_false] at hi
    subst hi
    apply aso 2; exact size_of tabOk rfl; exact rfl; exact rfl; exact rfl; exact rfl; exact rfl; exact so_le rfl; exact so_one rfl
    apply any_first 14; exact rfl; exact rfl; exact rfl; exact rfl; kernel_rfl; first | (apply pv; exact rfl; exact rfl) | (first | (apply pv; exact rfl; exact rfl) | (apply p_ls; exact rfl; kernel_rfl) | (apply p_ll; exact rfl; kernel_rfl) | (apply p_ic; exact rfl; omega) | (apply p_s1; exact rfl; omega; omega) | (apply p_sb; exact rfl; exact rfl; omega; omega) | (apply p_ad; exact rfl; exact rfl; omega) | (apply p_be; exact rfl; exact rfl; kernel_rfl) | (apply p_bn; exact rfl; exact rfl; kernel_rfl) | (apply p_en; exact rfl; exact rfl; kernel_rfl) | (apply p_nn; exact rfl; exact rfl; kernel_rfl) | (apply p_cv; exact rfl; exact int_of tabOk rfl; kernel_rfl) | (apply p_mi; exact rfl; exact p_mi_ok (kind_of tabOk rfl) rfl) | (apply p_fa; exact rfl; exact field_of tabOk rfl) | (apply p_nc; exact rfl) | (apply p_bk; exact rfl; omega; omega; kernel_rfl) | (apply p_by; exact rfl; exact rfl; omega; kernel_rfl) | (apply p_ia; exact rfl; exact rfl; exact elem_of tabOk rfl; omega) | (apply p_ar; exact rfl; exact rfl; exact rfl) | (apply p_bd tabOk; exact rfl; exact rfl; exact rfl; exact ⟨rfl, rfl⟩))
    refine any_step [15] (by kernel_rfl) rfl (by kernel_rfl) ?_
    intro i hi
    simp only [List.mem_cons, List.not_mem_nil, or_false] at hi
    subst hi
    apply aso 2; exact size_of tabOk rfl; exact rfl; exact rfl; exact rfl; exact rfl; exact rfl; exact so_le rfl; exact so_one rfl
    apply any_first 16; exact rfl; exact rfl; exact rfl; exact rfl; kernel_rfl; first | (apply pv; exact rfl; exact rfl) | (first | (apply pv; exact rfl; exact rfl) | (apply p_ls; exact rfl; kernel_rfl) | (apply p_ll; exact rfl; kernel_rfl) | (apply p_ic; exact rfl; omega) | (apply p_s1; exact rfl; omega; omega) | (apply p_sb; exact rfl; exact rfl; omega; omega) | (apply p_ad; exact rfl; exact rfl; omega) | (apply p_be; exact rfl; exact rfl; kernel_rfl) | (apply p_bn; exact rfl; exact rfl; kernel_rfl) | (apply p_en; exact rfl; exact rfl; kernel_rfl) | (apply p_nn; exact rfl; exact rfl; kernel_rfl) | (apply p_cv; exact rfl; exact int_of tabOk rfl; kernel_rfl) | (apply p_mi; exact rfl; exact p_mi_ok (kind_of tabOk rfl) rfl) | (apply p_fa; exact rfl; exact field_of tabOk rfl) | (apply p_nc; exact rfl) | (apply p_bk; exact rfl; omega; omega; kernel_rfl) | (apply p_by; exact rfl; exact rfl; omega; kernel_rfl) | (apply p_ia; exact rfl; exact rfl; exact elem_of tabOk rfl; omega) | (apply p_ar; exact rfl; exact rfl; exact rfl) | (apply p_bd tabOk; exact rfl; exact rfl; exact rfl; exact ⟨rfl, rfl⟩))
    refine any_step [17] (by kernel_rfl) rfl (by kernel_rfl) ?_
    intro i hi
    simp only [List.mem_cons, List.not_mem_nil, or_false] at hi
    subst hi
    apply aso 2; exact size_of tabOk rfl; exact rfl; exact rfl; exact rfl; exact rfl; exact rfl; exact so_le rfl; exact so_one rfl
    apply any_first 18; exact rfl; exact rfl; exact rfl; exact rfl; kernel_rfl; first | (apply pv; exact rfl; exact rfl) | (first | (apply pv; exact rfl; exact rfl) | (apply p_ls; exact rfl; kernel_rfl) | (apply p_ll; exact rfl; kernel_rfl) | (apply p_ic; exact rfl; omega) | (apply p_s1; exact rfl; omega; omega) | (apply p_sb; exact rfl; exact rfl; omega; omega) | (apply p_ad; exact rfl; exact rfl; omega) | (apply p_be; exact rfl; exact rfl; kernel_rfl) | (apply p_bn; exact rfl; exact rfl; kernel_rfl) | (apply p_en; exact rfl; exact rfl; kernel_rfl) | (apply p_nn; exact rfl; exact rfl; kernel_rfl) | (apply p_cv; exact rfl; exact int_of tabOk rfl; kernel_rfl) | (apply p_mi; exact rfl; exact p_mi_ok (kind_of tabOk rfl) rfl) | (apply p_fa; exact rfl; exact field_of tabOk rfl) | (apply p_nc; exact rfl) | (apply p_bk; exact rfl; omega; omega; kernel_rfl) | (apply p_by; exact rfl; exact rfl; omega; kernel_rfl) | (apply p_ia; exact rfl; exact rfl; exact elem_of tabOk rfl; omega) | (apply p_ar; exact rfl; exact rfl; exact rfl) | (apply p_bd tabOk; exact rfl; exact rfl; exact rfl; exact ⟨rfl, rfl⟩))
    refine any_step [19] (by kernel_rfl) rfl (by kernel_rfl) ?_
    intro i hi
    simp only [List.mem_cons, List.not_mem_nil, or_false] at hi
    subst hi
    apply aso 2; exact size_of tabOk rfl; exact rfl; exact rfl; exact rfl; exact rfl; exact rfl; exact so_le rfl; exact so_one rfl
    refine any_end (by kernel_rfl) ?_
    exact hend () _ _ trivial ⟨rfl, rfl, rfl, trivial⟩ (List.Perm.refl _)
  intro _ _
  refine vwith (pt := .run _) _ _ [] tabOk lent_nil fun go => ?_
  apply go 300
  repeat' (first | apply And.intro | intro _)
  all_goals try (first | (show Here _ _ _ _; try (exfalso; omega)) | exact trivial | omega | kernel_rfl | exact rfl)
  exact vrc1 tabOk (by exact rfl) (by exact rfl) (by exact rfl) (by exact rfl) (by exact rfl) (by exact rfl)
theorem own3 (o : Oj) (a a' : Option Addr) (c c' : Nat) (h : o.kind = 3) : RetIf Tryz.prog 110 [(ov o a c a' c').val] (fun _ => True) (ownV o a c a' c').val := by
  have hX : ownO o = { base o with dep := o.dep, hash := o.hash, count := o.count, ncpu := o.ncpu, nmem := o.nmem, image := o.image, rise := o.rise, fall := o.fall } := by unfold ownO; rw [if_neg (by omega), if_neg (by omega), if_neg (by omega), if_neg (by omega), if_neg (by omega), if_pos h]
  have e : ownV o a c a' c' = .agg (ocs ({ base o with dep := o.dep, hash := o.hash, count := o.count, ncpu := o.ncpu, nmem := o.nmem, image := o.image, rise := o.rise, fall := o.fall }) (labV o.labs a c) (.raw (.slice none 0 0))) := by unfold ownV; rw [hX, if_neg (by omega), if_neg (by omega)]
  rw [e]
  refine ret_start1 Tryz.func110 rfl rfl rfl (fun w0 hw => ?_)
  refine vstart [(0, ov o a c a' c')] [] [] ?_
  refine vwith (pt := .run _) _ _ [] tabOk lent_nil fun go => ?_
  apply go 300
  repeat' (first | apply And.intro | intro _)
  all_goals try (first | (show Here _ _ _ _; try (exfalso; omega)) | exact trivial | omega | kernel_rfl | exact rfl)
  rename_i b1 b2 b3 _ _ _ _ _ _
  refine vanyE [0] (ι := Unit) (fun _ => [(1, .ptr true 0 b1 0 1 0 0), (2, .ptr true 1 b2 0 1 0 0), (3, .ptr true 2 b3 0 1 0 0)]) (fun _ => [⟨b1, 27, .var (ocs o (labV o.labs a c) (labV o.sel a' c')), []⟩, ⟨b2, 27, .var (cellsV (.raw ((zeroL tab 27).getD undef))), []⟩, ⟨b3, 27, .var (ocs ({ base o with dep := o.dep, hash := o.hash }) (labV o.labs a c) (.raw (.slice none 0 0))), []⟩]) (fun _ => []) (fun _ => True) (by kernel_rfl) rfl ?_ (fun hend => ?_)
  rotate_left
  · skip
    apply any_first 0; exact rfl; exact rfl; exact rfl; exact rfl; kernel_rfl; first | (apply pv; exact rfl; exact rfl) | (first | (apply pv; exact rfl; exact rfl) | (apply p_ls; exact rfl; kernel_rfl) | (apply p_ll; exact rfl; kernel_rfl) | (apply p_ic; exact rfl; omega) | (apply p_s1; exact rfl; omega; omega) | (apply p_sb; exact rfl; exact rfl; omega; omega) | (apply p_ad; exact rfl; exact rfl; omega) | (apply p_be; exact rfl; exact rfl; kernel_rfl) | (apply p_bn; exact rfl; exact rfl; kernel_rfl) | (apply p_en; exact rfl; exact rfl; kernel_rfl) | (apply p_nn; exact rfl; exact rfl; kernel_rfl) | (apply p_cv; exact rfl; exact int_of tabOk rfl; kernel_rfl) | (apply p_mi; exact rfl; exact p_mi_ok (kind_of tabOk rfl) rfl) | (apply p_fa; exact rfl; exact field_of tabOk rfl) | (apply p_nc; exact rfl) | (apply p_bk; exact rfl; omega; omega; kernel_rfl) | (apply p_by; exact rfl; exact rfl; omega; kernel_rfl) | (apply p_ia; exact rfl; exact rfl; exact elem_of tabOk rfl; omega) | (apply p_ar; exact rfl; exact rfl; exact rfl) | (apply p_bd tabOk; exact rfl; exact rfl; exact rfl; exact ⟨rfl, rfl⟩))
    apply any_firstL 1; exact rfl; exact rfl; exact rfl; exact rfl; kernel_rfl; first | (apply l1 0; exact shape_of tabOk rfl; exact rfl; exact rfl; exact rfl; exact rfl) | (apply ln 0; exact shape_of tabOk rfl; exact rfl; exact rfl; exact rfl; exact rfl)
    apply any_first 2; exact rfl; exact rfl; exact rfl; exact rfl; kernel_rfl; first | (apply pv; exact rfl; exact rfl) | (first | (apply pv; exact rfl; exact rfl) | (apply p_ls; exact rfl; kernel_rfl) | (apply p_ll; exact rfl; kernel_rfl) | (apply p_ic; exact rfl; omega) | (apply p_s1; exact rfl; omega; omega) | (apply p_sb; exact rfl; exact rfl; omega; omega) | (apply p_ad; exact rfl; exact rfl; omega) | (apply p_be; exact rfl; exact rfl; kernel_rfl) | (apply p_bn; exact rfl; exact rfl; kernel_rfl) | (apply p_en; exact rfl; exact rfl; kernel_rfl) | (apply p_nn; exact rfl; exact rfl; kernel_rfl) | (apply p_cv; exact rfl; exact int_of tabOk rfl; kernel_rfl) | (apply p_mi; exact rfl; exact p_mi_ok (kind_of tabOk rfl) rfl) | (apply p_fa; exact rfl; exact field_of tabOk rfl) | (apply p_nc; exact rfl) | (apply p_bk; exact rfl; omega; omega; kernel_rfl) | (apply p_by; exact rfl; exact rfl; omega; kernel_rfl) | (apply p_ia; exact rfl; exact rfl; exact elem_of tabOk rfl; omega) | (apply p_ar; exact rfl; exact rfl; exact rfl) | (apply p_bd tabOk; exact rfl; exact rfl; exact rfl; exact ⟨rfl, rfl⟩))
    apply any_firstL 3; exact rfl; exact rfl; exact rfl; exact rfl; kernel_rfl; first | (apply l1 0; exact shape_of tabOk rfl; exact rfl; exact rfl; exact rfl; exact rfl) | (apply ln 0; exact shape_of tabOk rfl; exact rfl; exact rfl; exact rfl; exact rfl)
    apply any_first 4; exact rfl; exact rfl; exact rfl; exact rfl; kernel_rfl; first | (apply pv; exact rfl; exact rfl) | (first | (apply pv; exact rfl; exact rfl) | (apply p_ls; exact rfl; kernel_rfl) | (apply p_ll; exact rfl; kernel_rfl) | (apply p_ic; exact rfl; omega) | (apply p_s1; exact rfl; omega; omega) | (apply p_sb; exact rfl; exact rfl; omega; omega) | (apply p_ad; exact rfl; exact rfl; omega) | (apply p_be; exact rfl; exact rfl; kernel_rfl) | (apply p_bn; exact rfl; exact rfl; kernel_rfl) | (apply p_en; exact rfl; exact rfl; kernel_rfl) | (apply p_nn; exact rfl; exact rfl; kernel_rfl) | (apply p_cv; exact rfl; exact int_of tabOk rfl; kernel_rfl) | (apply p_mi; exact rfl; exact p_mi_ok (kind_of tabOk rfl) rfl) | (apply p_fa; exact rfl; exact field_of tabOk rfl) | (apply p_nc; exact rfl) | (apply p_bk; exact rfl; omega; omega; kernel_rfl) | (apply p_by; exact rfl; exact rfl; omega; kernel_rfl) | (apply p_ia; exact rfl; exact rfl; exact elem_of tabOk rfl; omega) | (apply p_ar; exact rfl; exact rfl; exact rfl) | (apply p_bd tabOk; exact rfl; exact rfl; exact rfl; exact ⟨rfl, rfl⟩))
    refine any_step [5] (by kernel_rfl) rfl (by kernel_rfl) ?_
    intro i hi
    simp only [List.mem_cons, List.not_mem_nil, or_false] at hi
    subst hi
    apply aso 2; exact size_of tabOk rfl; exact rfl; exact rfl; exact rfl; exact rfl; exact rfl; exact so_le rfl; exact so_one rfl
    apply any_first 6; exact rfl; exact rfl; exact rfl; exact rfl; kernel_rfl; first | (apply pv; exact rfl; exact rfl) | (first | (apply pv; exact rfl; exact rfl) | (apply p_ls; exact rfl; kernel_rfl) | (apply p_ll; exact rfl; kernel_rfl) | (apply p_ic; exact rfl; omega) | (apply p_s1; exact rfl; omega; omega) | (apply p_sb; exact rfl; exact rfl; omega; omega) | (apply p_ad; exact rfl; exact rfl; omega) | (apply p_be; exact rfl; exact rfl; kernel_rfl) | (apply p_bn; exact rfl; exact rfl; kernel_rfl) | (apply p_en; exact rfl; exact rfl; kernel_rfl) | (apply p_nn; exact rfl; exact rfl; kernel_rfl) | (apply p_cv; exact rfl; exact int_of tabOk rfl; kernel_rfl) | (apply p_mi; exact rfl; exact p_mi_ok (kind_of tabOk rfl) rfl) | (apply p_fa; exact rfl; exact field_of tabOk rfl) | (apply p_nc; exact rfl) | (apply p_bk; exact rfl; omega; omega; kernel_rfl) | (apply p_by; exact rfl; exact rfl; omega; kernel_rfl) | (apply p_ia; exact rfl; exact rfl; exact elem_of tabOk rfl; omega) | (apply p_ar; exact rfl; exact rfl; exact rfl) | (apply p_bd tabOk; exact rfl; exact rfl; exact rfl; exact ⟨rfl, rfl⟩))
    refine any_step [7] (by kernel_rfl) rfl (by kernel_rfl) ?_
    intro i hi
    simp only [List.mem_cons, List.not_mem_nil, or_false] at hi
    subst hi
    apply aso 2; exact size_of tabOk rfl; exact rfl; exact rfl; exact rfl; exact rfl; exact rfl; exact so_le rfl; exact so_one rfl
    refine any_end (by kernel_rfl) ?_
    exact hend () _ _ trivial ⟨rfl, rfl, rfl, trivial⟩ (List.Perm.refl _)
  intro _ _
  refine vwith (pt := .run _) _ _ [] tabOk lent_nil fun go => ?_
  apply go 300
  repeat' (first | apply And.intro | intro _)
  all_goals try (first | (show Here _ _ _ _; try (exfalso; omega)) | exact trivial | omega | kernel_rfl | exact rfl)
  refine vanyE [0] (ι := Unit) (fun _ => [(1, .ptr true 0 b1 0 1 0 0), (2, .ptr true 1 b2 0 1 0 0), (3, .ptr true 2 b3 0 1 0 0)]) (fun _ => [⟨b1, 27, .var (ocs o (labV o.labs a c) (labV o.sel a' c')), []⟩, ⟨b2, 27, .var (cellsV (.raw ((zeroL tab 27).getD undef))), []⟩, ⟨b3, 27, .var (ocs ({ base o with dep := o.dep, hash := o.hash, count := o.count, ncpu := o.ncpu, nmem := o.nmem, image := o.image, rise := o.rise, fall := o.fall }) (labV o.labs a c) (.raw (.slice none 0 0))), []⟩]) (fun _ => []) (fun _ => True) (by kernel_rfl) rfl ?_ (fun hend => ?_)
  rotate_left
  · skip
    apply any_first 0; exact rfl; exact rfl; exact rfl; exact rfl; kernel_rfl; first | (apply pv; exact rfl; exact rfl) | (first | (apply pv; exact rfl; exact rfl) | (apply p_ls; exact rfl; kernel_rfl) | (apply p_ll; exact rfl; kernel_rfl) | (apply p_ic; exact rfl; omega) | (apply p_s1; exact rfl; omega; omega) | (apply p_sb; exact rfl; exact rfl; omega; omega) | (apply p_ad; exact rfl; exact rfl; omega) | (apply p_be; exact rfl; exact rfl; kernel_rfl) | (apply p_bn; exact rfl; exact rfl; kernel_rfl) | (apply p_en; exact rfl; exact rfl; kernel_rfl) | (apply p_nn; exact rfl; exact rfl; kernel_rfl) | (apply p_cv; exact rfl; exact int_of tabOk rfl; kernel_rfl) | (apply p_mi; exact rfl; exact p_mi_ok (kind_of tabOk rfl) rfl) | (apply p_fa; exact rfl; exact field_of tabOk rfl) | (apply p_nc; exact rfl) | (apply p_bk; exact rfl; omega; omega; kernel_rfl) | (apply p_by; exact rfl; exact rfl; omega; kernel_rfl) | (apply p_ia; exact rfl; exact rfl; exact elem_of tabOk rfl; omega) | (apply p_ar; exact rfl; exact rfl; exact rfl) | (apply p_bd tabOk; exact rfl; exact rfl; exact rfl; exact ⟨rfl, rfl⟩))
    apply any_firstL 1; exact rfl; exact rfl; exact rfl; exact rfl; kernel_rfl; first | (apply l1 0; exact shape_of tabOk rfl; exact rfl; exact rfl; exact rfl; exact rfl) | (apply ln 0; exact shape_of tabOk rfl; exact rfl; exact rfl; exact rfl; exact rfl)
    apply any_first 2; exact rfl; exact rfl; exact rfl; exact rfl; kernel_rfl; first | (apply pv; exact rfl; exact rfl) | (first | (apply pv; exact rfl; exact rfl) | (apply p_ls; exact rfl; kernel_rfl) | (apply p_ll; exact rfl; kernel_rfl) | (apply p_ic; exact rfl; omega) | (apply p_s1; exact rfl; omega; omega) | (apply p_sb; exact rfl; exact rfl; omega; omega) | (apply p_ad; exact rfl; exact rfl; omega) | (apply p_be; exact rfl; exact rfl; kernel_rfl) | (apply p_bn; exact rfl; exact rfl; kernel_rfl) | (apply p_en; exact rfl; exact rfl; kernel_rfl) | (apply p_nn; exact rfl; exact rfl; kernel_rfl) | (apply p_cv; exact rfl; exact int_of tabOk rfl; kernel_rfl) | (apply p_mi; exact rfl; exact p_mi_ok (kind_of tabOk rfl) rfl) | (apply p_fa; exact rfl; exact field_of tabOk rfl) | (apply p_nc; exact rfl) | (apply p_bk; exact rfl; omega; omega; kernel_rfl) | (apply p_by; exact rfl; exact rfl; omega; kernel_rfl) | (apply p_ia; exact rfl; exact rfl; exact elem_of tabOk rfl; omega) | (apply p_ar; exact rfl; exact rfl; exact rfl) | (apply p_bd tabOk; exact rfl; exact rfl; exact rfl; exact ⟨rfl, rfl⟩))
    apply any_firstL 3; exact rfl; exact rfl; exact rfl; exact rfl; kernel_rfl; first | (apply l1 0; exact shape_of tabOk rfl; exact rfl; exact rfl; exact rfl; exact rfl) | (apply ln 0; exact shape_of tabOk rfl; exact rfl; exact rfl; exact rfl; exact rfl)
    apply any_first 4; exact rfl; exact rfl; exact rfl; exact rfl; kernel_rfl; first | (apply pv; exact rfl; exact rfl) | (first | (apply pv; exact rfl; exact rfl) | (apply p_ls; exact rfl; kernel_rfl) | (apply p_ll; exact rfl; kernel_rfl) | (apply p_ic; exact rfl; omega) | (apply p_s1; exact rfl; omega; omega) | (apply p_sb; exact rfl; exact rfl; omega; omega) | (apply p_ad; exact rfl; exact rfl; omega) | (apply p_be; exact rfl; exact rfl; kernel_rfl) | (apply p_bn; exact rfl; exact rfl; kernel_rfl) | (apply p_en; exact rfl; exact rfl; kernel_rfl) | (apply p_nn; exact rfl; exact rfl; kernel_rfl) | (apply p_cv; exact rfl; exact int_of tabOk rfl; kernel_rfl) | (apply p_mi; exact rfl; exact p_mi_ok (kind_of tabOk rfl) rfl) | (apply p_fa; exact rfl; exact field_of tabOk rfl) | (apply p_nc; exact rfl) | (apply p_bk; exact rfl; omega; omega; kernel_rfl) | (apply p_by; exact rfl; exact rfl; omega; kernel_rfl) | (apply p_ia; exact rfl; exact rfl; exact elem_of tabOk rfl; omega) | (apply p_ar; exact rfl; exact rfl; exact rfl) | (apply p_bd tabOk; exact rfl; exact rfl; exact rfl; exact ⟨rfl, rfl⟩))
    apply any_firstL 5; exact rfl; exact rfl; exact rfl; exact rfl; kernel_rfl; first | (apply l1 0; exact shape_of tabOk rfl; exact rfl; exact rfl; exact rfl; exact rfl) | (apply ln 0; exact shape_of tabOk rfl; exact rfl; exact rfl; exact rfl; exact rfl)
    apply any_first 6; exact rfl; exact rfl; exact rfl; exact rfl; kernel_rfl; first | (apply pv; exact rfl; exact rfl) | (first | (apply pv; exact rfl; exact rfl) | (apply p_ls; exact rfl; kernel_rfl) | (apply p_ll; exact rfl; kernel_rfl) | (apply p_ic; exact rfl; omega) | (apply p_s1; exact rfl; omega; omega) | (apply p_sb; exact rfl; exact rfl; omega; omega) | (apply p_ad; exact rfl; exact rfl; omega) | (apply p_be; exact rfl; exact rfl; kernel_rfl) | (apply p_bn; exact rfl; exact rfl; kernel_rfl) | (apply p_en; exact rfl; exact rfl; kernel_rfl) | (apply p_nn; exact rfl; exact rfl; kernel_rfl) | (apply p_cv; exact rfl; exact int_of tabOk rfl; kernel_rfl) | (apply p_mi; exact rfl; exact p_mi_ok (kind_of tabOk rfl) rfl) | (apply p_fa; exact rfl; exact field_of tabOk rfl) | (apply p_nc; exact rfl) | (apply p_bk; exact rfl; omega; omega; kernel_rfl) | (apply p_by; exact rfl; exact rfl; omega; kernel_rfl) | (apply p_ia; exact rfl; exact rfl; exact elem_of tabOk rfl; omega) | (apply p_ar; exact rfl; exact rfl; exact rfl) | (apply p_bd tabOk; exact rfl; exact rfl; exact rfl; exact ⟨rfl, rfl⟩))
    apply any_firstL 7; exact rfl; exact rfl; exact rfl; exact rfl; kernel_rfl; first | (apply l1 0; exact shape_of tabOk rfl; exact rfl; exact rfl; exact rfl; exact rfl) | (apply ln 0; exact shape_of tabOk rfl; exact rfl; exact rfl; exact rfl; exact rfl)
    apply any_first 8; exact rfl; exact rfl; exact rfl; exact rfl; kernel_rfl; first | (apply pv; exact rfl; exact rfl) | (first | (apply pv; exact rfl; exact rfl) | (apply p_ls; exact rfl; kernel_rfl) | (apply p_ll; exact rfl; kernel_rfl) | (apply p_ic; exact rfl; omega) | (apply p_s1; exact rfl; omega; omega) | (apply p_sb; exact rfl; exact rfl; omega; omega) | (apply p_ad; exact rfl; exact rfl; omega) | (apply p_be; exact rfl; exact rfl; kernel_rfl) | (apply p_bn; exact rfl; exact rfl; kernel_rfl) | (apply p_en; exact rfl; exact rfl; kernel_rfl) | (apply p_nn; exact rfl; exact rfl; kernel_rfl) | (apply p_cv; exact rfl; exact int_of tabOk rfl; kernel_rfl) | (apply p_mi; exact rfl; exact p_mi_ok (kind_of tabOk rfl) rfl) | (apply p_fa; exact rfl; exact field_of tabOk rfl) | (apply p_nc; exact rfl) | (apply p_bk; exact rfl; omega; omega; kernel_rfl) | (apply p_by; exact rfl; exact rfl; omega; kernel_rfl) | (apply p_ia; exact rfl; exact rfl; exact elem_of tabOk rfl; omega) | (apply p_ar; exact rfl; exact rfl; exact rfl) | (apply p_bd tabOk; exact rfl; exact rfl; exact rfl; exact ⟨rfl, rfl⟩))
    apply any_firstL 9; exact rfl; exact rfl; exact rfl; exact rfl; kernel_rfl; first | (apply l1 0; exact shape_of tabOk rfl; exact rfl; exact rfl; exact rfl; exact rfl) | (apply ln 0; exact shape_of tabOk rfl; exact rfl; exact rfl; exact rfl; exact rfl)
    apply any_first 10; exact rfl; exact rfl; exact rfl; exact rfl; kernel_rfl; first | (apply pv; exact rfl; exact rfl) | (first | (apply pv; exact rfl; exact rfl) | (apply p_ls; exact rfl; kernel_rfl) | (apply p_ll; exact rfl; kernel_rfl) | (apply p_ic; exact rfl; omega) | (apply p_s1; exact rfl; omega; omega) | (apply p_sb; exact rfl; exact rfl; omega; omega) | (apply p_ad; exact rfl; exact rfl; omega) | (apply p_be; exact rfl; exact rfl; kernel_rfl) | (apply p_bn; exact rfl; exact rfl; kernel_rfl) | (apply p_en; exact rfl; exact rfl; kernel_rfl) | (apply p_nn; exact rfl; exact rfl; kernel_rfl) | (apply p_cv; exact rfl; exact int_of tabOk rfl; kernel_rfl) | (apply p_mi; exact rfl; exact p_mi_ok (kind_of tabOk rfl) rfl) | (apply p_fa; exact rfl; exact field_of tabOk rfl) | (apply p_nc; exact rfl) | (apply p_bk; exact rfl; omega; omega; kernel_rfl) | (apply p_by; exact rfl; exact rfl; omega; kernel_rfl) | (apply p_ia; exact rfl; exact rfl; exact elem_of tabOk rfl; omega) | (apply p_ar; exact rfl; exact rfl; exact rfl) | (apply p_bd tabOk; exact rfl; exact rfl; exact rfl; exact ⟨rfl, rfl⟩))
    refine any_step [11] (by kernel_rfl) rfl (by kernel_rfl) ?_
    intro i hi
    simp only [List.mem_cons, List.not_mem_nil, or_false] at hi
    subst hi
    apply aso 2; exact size_of tabOk rfl; exact rfl; exact rfl; exact rfl; exact rfl; exact rfl; exact so_le rfl; exact so_one rfl
    apply any_first 12; exact rfl; exact rfl; exact rfl; exact rfl; kernel_rfl; first | (apply pv; exact rfl; exact rfl) | (first | (apply pv; exact rfl; exact rfl) | (apply p_ls; exact rfl; kernel_rfl) | (apply p_ll; exact rfl; kernel_rfl) | (apply p_ic; exact rfl; omega) | (apply p_s1; exact rfl; omega; omega) | (apply p_sb; exact rfl; exact rfl; omega; omega) | (apply p_ad; exact rfl; exact rfl; omega) | (apply p_be; exact rfl; exact rfl; kernel_rfl) | (apply p_bn; exact rfl; exact rfl; kernel_rfl) | (apply p_en; exact rfl; exact rfl; kernel_rfl) | (apply p_nn; exact rfl; exact rfl; kernel_rfl) | (apply p_cv; exact rfl; exact int_of tabOk rfl; kernel_rfl) | (apply p_mi; exact rfl; exact p_mi_ok (kind_of tabOk rfl) rfl) | (apply p_fa; exact rfl; exact field_of tabOk rfl) | (apply p_nc; exact rfl) | (apply p_bk; exact rfl; omega; omega; kernel_rfl) | (apply p_by; exact rfl; exact rfl; omega; kernel_rfl) | (apply p_ia; exact rfl; exact rfl; exact elem_of tabOk rfl; omega) | (apply p_ar; exact rfl; exact rfl; exact rfl) | (apply p_bd tabOk; exact rfl; exact rfl; exact rfl; exact ⟨rfl, rfl⟩))
    refine any_step [13] (by kernel_rfl) rfl (by kernel_rfl) ?_
    intro i hi
    simp only [List.mem_cons, List.not_mem_nil, or_false] at hi
    subst hi
    apply aso 2; exact size_of tabOk rfl; exact rfl; exact rfl; exact rfl; exact rfl; exact rfl; exact so_le rfl; exact so_one rfl
    apply any_first 14; exact rfl; exact rfl; exact rfl; exact rfl; kernel_rfl; first | (apply pv; exact rfl; exact rfl) | (first | (apply pv; exact rfl; exact rfl) | (apply p_ls; exact rfl; kernel_rfl) | (apply p_ll; exact rfl; kernel_rfl) | (apply p_ic; exact rfl; omega) | (apply p_s1; exact rfl; omega; omega) | (apply p_sb; exact rfl; exact rfl; omega; omega) | (apply p_ad; exact rfl; exact rfl; omega) | (apply p_be; exact rfl; exact rfl; kernel_rfl) | (apply p_bn; exact rfl; exact rfl; kernel_rfl) | (apply p_en; exact rfl; exact rfl; kernel_rfl) | (apply p_nn; exact rfl; exact rfl; kernel_rfl) | (apply p_cv; exact rfl; exact int_of tabOk rfl; kernel_rfl) | (apply p_mi; exact rfl; exact p_mi_ok (kind_of tabOk rfl) rfl) | (apply p_fa; exact rfl; exact field_of tabOk rfl) | (apply p_nc; exact rfl) | (apply p_bk; exact rfl; omega; omega; kernel_rfl) | (apply p_by; exact rfl; exact rfl; omega; kernel_rfl) | (apply p_ia; exact rfl; exact rfl; exact elem_of tabOk rfl; omega) | (apply p_ar; exact rfl; exact rfl; exact rfl) | (apply p_bd tabOk; exact rfl; exact rfl; exact rfl; exact ⟨rfl, rfl⟩))
    refine any_step [15] (by kernel_rfl) rfl (by kernel_rfl) ?_
    intro i hi
    simp only [List.mem_cons, List.not_mem_nil, or_false] at hi
    subst hi
    apply aso 2; exact size_of tabOk rfl; exact rfl; exact rfl; exact rfl; exact rfl; exact rfl; exact so_le rfl; exact so_one rfl
    apply any_first 16; exact rfl; exact rfl; exact rfl; exact rfl; kernel_rfl; first | (apply pv; exact rfl; exact rfl) | (first | (apply pv; exact rfl; exact rfl) | (apply p_ls; exact rfl; kernel_rfl) | (apply p_ll; exact rfl; kernel_rfl) | (apply p_ic; exact rfl; omega) | (apply p_s1; exact rfl; omega; omega) | (apply p_sb; exact rfl; exact rfl; omega; omega) | (apply p_ad; exact rfl; exact rfl; omega) | (apply p_be; exact rfl; exact rfl; kernel_rfl) | (apply p_bn; exact rfl; exact rfl; kernel_rfl) | (apply p_en; exact rfl; exact rfl; kernel_rfl) | (apply p_nn; exact rfl; exact rfl; kernel_rfl) | (apply p_cv; exact rfl; exact int_of tabOk rfl; kernel_rfl) | (apply p_mi; exact rfl; exact p_mi_ok (kind_of tabOk rfl) rfl) | (apply p_fa; exact rfl; exact field_of tabOk rfl) | (apply p_nc; exact rfl) | (apply p_bk; exact rfl; omega; omega; kernel_rfl) | (apply p_by; exact rfl; exact rfl; omega; kernel_rfl) | (apply p_ia; exact rfl; exact rfl; exact elem_of tabOk rfl; omega) | (apply p_ar; exact rfl; exact rfl; exact rfl) | (apply p_bd tabOk; exact rfl; exact rfl; exact rfl; exact ⟨rfl, rfl⟩))
    refine any_step [17] (by kernel_rfl) rfl (by kernel_rfl) ?_
    intro i hi
    simp only [List.mem_cons, List.not_mem_nil, or_false] at hi
    subst hi
    apply aso 2; exact size_of tabOk rfl; exact rfl; exact rfl; exact rfl; exact rfl; exact rfl; exact so_le rfl; exact so_one rfl
    apply any_first 18; exact rfl; exact rfl; exact rfl; exact rfl; kernel_rfl; first | (apply pv; exact rfl; exact rfl) | (first | (apply pv; exact rfl; exact rfl) | (apply p_ls; exact rfl; kernel_rfl) | (apply p_ll; exact rfl; kernel_rfl) | (apply p_ic; exact rfl; omega) | (apply p_s1; exact rfl; omega; omega) | (apply p_sb; exact rfl; exact rfl; omega; omega) | (apply p_ad; exact rfl; exact rfl; omega) | (apply p_be; exact rfl; exact rfl; kernel_rfl) | (apply p_bn; exact rfl; exact rfl; kernel_rfl) | (apply p_en; exact rfl; exact rfl; kernel_rfl) | (apply p_nn; exact rfl; exact rfl; kernel_rfl) | (apply p_cv; exact rfl; exact int_of tabOk rfl; kernel_rfl) | (apply p_mi; exact rfl; exact p_mi_ok (kind_of tabOk rfl) rfl) | (apply p_fa; exact rfl; exact field_of tabOk rfl) | (apply p_nc; exact rfl) | (apply p_bk; exact rfl; omega; omega; kernel_rfl) | (apply p_by; exact rfl; exact rfl; omega; kernel_rfl) | (apply p_ia; exact rfl; exact rfl; exact elem_of tabOk rfl; omega) | (apply p_ar; exact rfl; exact rfl; exact rfl) | (apply p_bd tabOk; exact rfl; exact rfl; exact rfl; exact ⟨rfl, rfl⟩))
    refine any_step [19] (by kernel_rfl) rfl (by kernel_rfl) ?_
    intro i hi
    simp only [List.mem_cons, List.not_mem_nil, or_false] at hi
    subst hi
    apply aso 2; exact size_of tabOk rfl; exact rfl; exact rfl; exact rfl; exact rfl; exact rfl; exact so_le rfl; exact so_one rfl
    refine any_end (by kernel_rfl) ?_
    exact hend () _ _ trivial ⟨rfl, rfl, rfl, trivial⟩ (List.Perm.refl _)
  intro _ _
  refine vwith (pt := .run _) _ _ [] tabOk lent_nil fun go => ?_
  apply go 300
  repeat' (first | apply And.intro | intro _)
  all_goals try (first | (show Here _ _ _ _; try (exfalso; omega)) | exact trivial | omega | kernel_rfl | exact rfl)
  exact vrc1 tabOk (by exact rfl) (by exact rfl) (by exact rfl) (by exact rfl) (by exact rfl) (by exact rfl)
theorem ownX (o : Oj) (a a' : Option Addr) (c c' : Nat) (h : ¬ (o.kind = 0 ∨ o.kind = 4 ∨ o.kind = 5 ∨ o.kind = 1 ∨ o.kind = 2 ∨ o.kind = 3)) : RetIf Tryz.prog 110 [(ov o a c a' c').val] (fun _ => True) (ownV o a c a' c').val := by
  have hX : ownO o = base o := by unfold ownO; rw [if_neg (by omega), if_neg (by omega), if_neg (by omega), if_neg (by omega), if_neg (by omega), if_neg (by omega)]
  have e : ownV o a c a' c' = .agg (ocs (base o) (labV o.labs a c) (.raw (.slice none 0 0))) := by unfold ownV; rw [hX, if_neg (by omega), if_neg (by omega)]
  rw [e]
  refine ret_start1 Tryz.func110 rfl rfl rfl (fun w0 hw => ?_)
  refine vstart [(0, ov o a c a' c')] [] [] ?_
  refine vwith (pt := .run _) _ _ [] tabOk lent_nil fun go => ?_
  apply go 300
  repeat' (first | apply And.intro | intro _)
  all_goals try (first | (show Here _ _ _ _; try (exfalso; omega)) | exact trivial | omega | kernel_rfl | exact rfl)
  exact vrc1 tabOk (by exact rfl) (by exact rfl) (by exact rfl) (by exact rfl) (by exact rfl) (by exact rfl)

theorem own (o : Oj) (a a' : Option Addr) (c c' : Nat) : RetIf Tryz.prog 110 [(ov o a c a' c').val] (fun _ => True) (ownV o a c a' c').val := by
  by_cases h : ¬ (o.kind = 0 ∨ o.kind = 4 ∨ o.kind = 5 ∨ o.kind = 1 ∨ o.kind = 2 ∨ o.kind = 3)
  · exact ownX o a a' c c' h
  rcases Classical.not_not.1 h with h | h | h | h | h | h
  · exact own0 o a a' c c' h
  · exact own4 o a a' c c' h
  · exact own5 o a a' c c' h
  · exact own1 o a a' c c' h
  · exact own2 o a a' c c' h
  · exact own3 o a a' c c' h
end Go.Fl

namespace Go.Fl
open Go.Proofs Go.RowKit
set_option maxRecDepth 10000
set_option maxHeartbeats 40000000

theorem own_labs (o : Oj) : (ownO o).labs = if o.kind = 5 then [] else o.labs := by
  unfold ownO base
  (repeat' split) <;> first | rfl | (exfalso; omega)
theorem own_sel (o : Oj) : (ownO o).sel = if o.kind = 4 then o.sel else [] := by
  unfold ownO base
  (repeat' split) <;> first | rfl | (exfalso; omega)
theorem own_out (o : Oj) (a a' : Option Addr) (c c' : Nat) : ∃ x d x' d', ownV o a c a' c' = ov (ownO o) x d x' d' ∧ ∀ w, LabAt w a o.labs → LabAt w a' o.sel → LabAt w x (ownO o).labs ∧ LabAt w x' (ownO o).sel := by
  have e1 := own_labs o
  have e2 := own_sel o
  unfold ownV
  by_cases h5 : o.kind = 5
  · rw [if_pos h5] at e1
    rw [if_neg (by omega)] at e2
    rw [if_pos h5, if_neg (by omega)]
    exact ⟨none, 0, none, 0, by rw [ov, labV, labV, e1, e2]; rfl, fun w _ _ => by rw [e1, e2]; exact ⟨labAt_none w, labAt_none w⟩⟩
  · rw [if_neg h5] at e1
    rw [if_neg h5]
    by_cases h4 : o.kind = 4
    · rw [if_pos h4] at e2
      rw [if_pos h4]
      exact ⟨a, c, a', c', by rw [ov, labV, labV, labV, labV, e1, e2], fun w h1 h2 => by rw [e1, e2]; exact ⟨h1, h2⟩⟩
    · rw [if_neg h4] at e2
      rw [if_neg h4]
      exact ⟨a, c, none, 0, by rw [ov, labV, labV, labV, e1, e2]; rfl, fun w h1 _ => by rw [e1, e2]; exact ⟨h1, labAt_none w⟩⟩
theorem check (o : Oj) (a a' : Option Addr) (c c' : Nat) (hn : o.labs.length ≤ 4398046511000) (hn' : o.sel.length ≤ 4398046511000) (hsz : Sz o) : Con Tryz.prog 48 [(ov o a c a' c').val] [] (fun w => LabAt w a o.labs ∧ LabAt w a' o.sel) (WPost (chkO o)) := by
  refine con_start1 Tryz.func48 rfl rfl rfl (fun w0 hw => ?_)
  obtain ⟨hw, hw'⟩ := hw
  obtain ⟨x, d, x', d', he, hrd⟩ := own_out o a a' c c'
  have hO := own o a a' c c'
  rw [he] at hO
  refine vstart [(0, ov o a c a' c')] [] [] ?_
  refine vwith (pt := .run _) _ _ [] tabOk lent_nil fun go => ?_
  apply go 300
  repeat' (first | apply And.intro | intro _)
  all_goals try (first | (show Here _ _ _ _; try (exfalso; omega)) | exact trivial | omega | kernel_rfl | exact rfl)
  refine vcall (v := .bd (inN o.kind 0 5) inferInstance) rfl rfl (by kernel_rfl) (within o.kind 0 5) (by exact fun _ _ => trivial) ?_
  apply go 300
  repeat' (first | apply And.intro | intro _)
  all_goals try (first | (show Here _ _ _ _; try (exfalso; omega)) | exact trivial | omega | kernel_rfl | exact rfl)
  · exact vc1 (bs := []) rfl rfl (List.nil_sublist _) (wpost1 (n := 11) (by unfold chkO; rw [if_pos ‹_›]) (by decide))
  have hk : inN o.kind 0 5 := Classical.not_not.1 ‹_›
  have e1 : chkO o = if nameL (tl o.name) = false then 8 else if o.born < 0 ∨ o.ver < o.born then 1 else if ¬ sameP o (ownO o) then 14 else if (chk o.labs).1 ≠ 0 then 12 else if o.kind = 0 then chkNode o else if o.kind = 4 then chkBudget o else if o.kind = 5 then chkLease o else chkLikes o := by
    unfold chkO; rw [if_neg (not_not_intro hk)]
  refine vcall (v := .bd (nameL (tl o.name) = true) inferInstance) rfl rfl (by kernel_rfl) (NameA o.name).bd (by exact fun _ _ => trivial) ?_
  apply go 300
  repeat' (first | apply And.intro | intro _)
  all_goals try (first | (show Here _ _ _ _; try (exfalso; omega)) | exact trivial | omega | kernel_rfl | exact rfl)
  · exact vc1 (bs := []) rfl rfl (List.nil_sublist _) (wpost1 (n := 8) (by rw [e1, if_pos (by simpa using ‹¬ nameL (tl o.name) = true›)]) (by decide))
  · exact vc1 (bs := []) rfl rfl (List.nil_sublist _) (wpost1 (n := 1) (by rw [e1, if_neg (by simp_all), if_pos (by omega)]) (by decide))
  · exact vc1 (bs := []) rfl rfl (List.nil_sublist _) (wpost1 (n := 1) (by rw [e1, if_neg (by simp_all), if_pos (by omega)]) (by decide))
  have e2 : chkO o = if ¬ sameP o (ownO o) then 14 else if (chk o.labs).1 ≠ 0 then 12 else if o.kind = 0 then chkNode o else if o.kind = 4 then chkBudget o else if o.kind = 5 then chkLease o else chkLikes o := by
    rw [e1, if_neg (by simp_all), if_neg (by omega)]
  refine vdraw (flagsOf _) (by kernel_rfl) (by decide +kernel) (flags_len _) ?_
  apply go 300
  repeat' (first | apply And.intro | intro _)
  all_goals try (first | (show Here _ _ _ _; try (exfalso; omega)) | exact trivial | omega | kernel_rfl | exact rfl)
  refine vcallD (v := ov (ownO o) x d x' d') rfl rfl (by kernel_rfl) hO (by exact fun _ _ => trivial) ?_
  apply go 300
  repeat' (first | apply And.intro | intro _)
  all_goals try (first | (show Here _ _ _ _; try (exfalso; omega)) | exact trivial | omega | kernel_rfl | exact rfl)
  refine vcallD (v := .bd (sameP o (ownO o)) inferInstance) rfl rfl (by kernel_rfl) (alike o (ownO o) a a' x x' c c' d d' hn hn') (by exact fun _ h => ⟨⟨hw.st h, hw'.st h⟩, hrd _ (hw.st h) (hw'.st h)⟩) ?_
  apply go 300
  repeat' (first | apply And.intro | intro _)
  all_goals try (first | (show Here _ _ _ _; try (exfalso; omega)) | exact trivial | omega | kernel_rfl | exact rfl)
  · exact vc1 (bs := []) rfl rfl (List.nil_sublist _) (wpost1 (n := 14) (by rw [e2, if_pos ‹_›]) (by decide))
  have e3 : chkO o = if (chk o.labs).1 ≠ 0 then 12 else if o.kind = 0 then chkNode o else if o.kind = 4 then chkBudget o else if o.kind = 5 then chkLease o else chkLikes o := by
    rw [e2, if_neg ‹_›]
  have hC := Check o.labs a c
  rcases errOf_cases (chk o.labs) with ⟨h0, he⟩ | ⟨h0, ⟨n, he⟩ | ⟨n, k, he⟩⟩ <;> rw [he] at hC
  · refine vcall (v := .raw .nilIface) rfl rfl (by kernel_rfl) hC (by exact fun _ h => hw.st h) ?_
    apply go 300
    repeat' (first | apply And.intro | intro _)
    all_goals try (first | (show Here _ _ _ _; try (exfalso; omega)) | exact trivial | omega | kernel_rfl | exact rfl)
    · have e4 : chkO o = chkNode o := by rw [e3, if_neg (not_not_intro h0)]; (repeat' split) <;> first | rfl | (exfalso; omega)
      refine vcc rfl rfl (by kernel_rfl) (checkNode o a a' c c') (by exact fun _ _ => trivial) ?_
      rintro _ bs ⟨t, rfl⟩
      refine ⟨.raw (wV (chkNode o) t), rfl, ?_⟩
      apply go 300
      repeat' (first | apply And.intro | intro _)
      all_goals try (first | (show Here _ _ _ _; try (exfalso; omega)) | exact trivial | omega | kernel_rfl | exact rfl)
      exact vc1 (bs := []) rfl rfl (List.nil_sublist _) ⟨t, by rw [e4]; rfl⟩
    · have e4 : chkO o = chkBudget o := by rw [e3, if_neg (not_not_intro h0)]; (repeat' split) <;> first | rfl | (exfalso; omega)
      refine vcc rfl rfl (by kernel_rfl) (checkBudget o a a' c c') (by exact fun _ h => hw'.st h) ?_
      rintro _ bs ⟨t, rfl⟩
      refine ⟨.raw (wV (chkBudget o) t), rfl, ?_⟩
      apply go 300
      repeat' (first | apply And.intro | intro _)
      all_goals try (first | (show Here _ _ _ _; try (exfalso; omega)) | exact trivial | omega | kernel_rfl | exact rfl)
      exact vc1 (bs := []) rfl rfl (List.nil_sublist _) ⟨t, by rw [e4]; rfl⟩
    · have e4 : chkO o = chkLease o := by rw [e3, if_neg (not_not_intro h0)]; (repeat' split) <;> first | rfl | (exfalso; omega)
      refine vcc rfl rfl (by kernel_rfl) (checkLease o a a' c c') (by exact fun _ _ => trivial) ?_
      rintro _ bs ⟨t, rfl⟩
      refine ⟨.raw (wV (chkLease o) t), rfl, ?_⟩
      apply go 300
      repeat' (first | apply And.intro | intro _)
      all_goals try (first | (show Here _ _ _ _; try (exfalso; omega)) | exact trivial | omega | kernel_rfl | exact rfl)
      exact vc1 (bs := []) rfl rfl (List.nil_sublist _) ⟨t, by rw [e4]; rfl⟩
    · have e4 : chkO o = chkLikes o := by rw [e3, if_neg (not_not_intro h0)]; (repeat' split) <;> first | rfl | (exfalso; omega)
      refine vcc rfl rfl (by kernel_rfl) (checkLikes o a a' c c' hn hsz) (by exact fun _ h => hw.st h) ?_
      rintro _ bs ⟨t, rfl⟩
      refine ⟨.raw (wV (chkLikes o) t), rfl, ?_⟩
      apply go 300
      repeat' (first | apply And.intro | intro _)
      all_goals try (first | (show Here _ _ _ _; try (exfalso; omega)) | exact trivial | omega | kernel_rfl | exact rfl)
      exact vc1 (bs := []) rfl rfl (List.nil_sublist _) ⟨t, by rw [e4]; rfl⟩
  · refine vcall (v := .ifc 79 (.int .i64 n)) rfl rfl (by kernel_rfl) hC (by exact fun _ h => hw.st h) ?_
    apply go 300
    repeat' (first | apply And.intro | intro _)
    all_goals try (first | (show Here _ _ _ _; try (exfalso; omega)) | exact trivial | omega | kernel_rfl | exact rfl)
    exact vc1 (bs := []) rfl rfl (List.nil_sublist _) (wpost1 (n := 12) (by rw [e3, if_pos h0]) (by decide))
  · refine vcall (v := .ifc 81 (.agg [.int .i64 n, .int .i64 k])) rfl rfl (by kernel_rfl) hC (by exact fun _ h => hw.st h) ?_
    apply go 300
    repeat' (first | apply And.intro | intro _)
    all_goals try (first | (show Here _ _ _ _; try (exfalso; omega)) | exact trivial | omega | kernel_rfl | exact rfl)
    exact vc1 (bs := []) rfl rfl (List.nil_sublist _) (wpost1 (n := 12) (by rw [e3, if_pos h0]) (by decide))

/-- A number, as an error. -/
def errN (n : Int) : Go.Value := if n = 0 then .nilIface else errno n
theorem CheckO (o : Oj) (a a' : Option Addr) (c c' : Nat) (hn : o.labs.length ≤ 4398046511000) (hn' : o.sel.length ≤ 4398046511000) (hsz : Sz o) : RetIf Tryz.prog 11 [(ov o a c a' c').val] (fun w => (LabAt w a o.labs ∧ LabAt w a' o.sel) ∧ Laid w) (errN (chkO o)) := by
  refine ret_start1 Tryz.func11 rfl rfl rfl (fun w0 hw => ?_)
  obtain ⟨⟨hw, hw'⟩, hL⟩ := hw
  refine vstart [(0, ov o a c a' c')] [] [] ?_
  refine vwith (pt := .run _) _ _ [] tabOk lent_nil fun go => ?_
  apply go 300
  repeat' (first | apply And.intro | intro _)
  all_goals try (first | (show Here _ _ _ _; try (exfalso; omega)) | exact trivial | omega | kernel_rfl | exact rfl)
  rename_i b1 vb
  refine vcc rfl rfl (by kernel_rfl) (check o a a' c c' hn hn' hsz) (by exact fun _ h => ⟨hw.st h, hw'.st h⟩) ?_
  rintro _ bs ⟨t, rfl⟩
  by_cases h0 : chkO o = 0
  · refine ⟨.raw .nilIface, by unfold wV; rw [if_pos h0]; rfl, ?_⟩
    apply go 300
    repeat' (first | apply And.intro | intro _)
    all_goals try (first | (show Here _ _ _ _; try (exfalso; omega)) | exact trivial | omega | kernel_rfl | exact rfl)
    refine vcall (v := .bl false) rfl rfl (by kernel_rfl) (AsNw _) (by exact fun _ _ => trivial) ?_
    apply go 300
    repeat' (first | apply And.intro | intro _)
    all_goals try (first | (show Here _ _ _ _; try (exfalso; omega)) | exact trivial | omega | kernel_rfl | exact rfl)
    exact vr1 rfl rfl (by unfold errN; rw [if_pos h0]; rfl)
  · refine ⟨.ifc 86 (.agg [.int .i64 (chkO o), .str t]), by unfold wV; rw [if_neg h0]; rfl, ?_⟩
    apply go 300
    repeat' (first | apply And.intro | intro _)
    all_goals try (first | (show Here _ _ _ _; try (exfalso; omega)) | exact trivial | omega | kernel_rfl | exact rfl)
    refine vccp (bs := [(vb, .cells #[.int .i64 0, .string ⟨#[]⟩] 86)]) (qs := _ :: (bs ++ [])) rfl rfl (by kernel_rfl) (List.Perm.swap _ _ _) (AsW (chkO o) 0 t ⟨#[]⟩ vb) (by exact fun w hst => ⟨hL.st hst, new_ne (i := 1) hL hst rfl rfl⟩) ?_
    rintro _ _ ⟨rfl, rfl⟩
    refine ⟨.bl true, rfl, ?_⟩
    refine vopenP [⟨b1, 27, .var (ocs o (labV o.labs a c) (labV o.sel a' c')), []⟩, ⟨vb, 86, .var [.int .i64 (chkO o), .str t], []⟩] (bs ++ []) (List.Perm.swap _ _ _) ?_
    apply go 300
    repeat' (first | apply And.intro | intro _)
    all_goals try (first | (show Here _ _ _ _; try (exfalso; omega)) | exact trivial | omega | kernel_rfl | exact rfl)
    exact vr1 rfl rfl (by unfold errN; rw [if_neg h0]; rfl)
end Go.Fl
