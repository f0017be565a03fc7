/-
  'works' of the statements on words: it returns true. No condition but what start-up laid.
-/
import Derived.Test.YtggbiiicoabkmabGreatDoorWordsS
namespace Go.Fl
open Go.Proofs Go.RowKit
set_option maxRecDepth 10000

theorem dec10 : Lib.decDigits 10 = [49, 48] := Lib.decDigits_two (by decide) (by decide)
theorem numb_web : numbL (tl ⟨#[119, 101, 98]⟩) 10 = ([119, 101, 98, 45, 49, 48], 0) := by
  unfold numbL
  rw [show Int.toNat 10 = 10 from rfl, dec10]
  decide +kernel
theorem split_web : splitL (tl ⟨#[119, 101, 98, 45, 49, 48]⟩) = some ([119, 101, 98], 10) := by decide +kernel
theorem name_web : nameL (tl ⟨#[119, 101, 98]⟩) = true := by decide +kernel
theorem cmp_web : cmpL (tl ⟨#[119, 101, 98, 45, 50]⟩) (tl ⟨#[119, 101, 98, 45, 49, 48]⟩) = -1 := by decide +kernel

theorem works01 : RetIf Tryz.prog 8 [] LaidN (.bool true) := by
  refine ret_start0 Tryz.func8 rfl rfl (fun w hw => ?_)
  have h1 := Numbered ⟨#[119, 101, 98]⟩ 10 (by decide) (by decide) (by decide)
  rw [numb_web] at h1
  have h2 := Split ⟨#[119, 101, 98, 45, 49, 48]⟩ (by decide)
  rw [split_web] at h2
  have h3 := Name ⟨#[119, 101, 98]⟩ (by decide)
  rw [name_web] at h3
  have h4 := Compare ⟨#[119, 101, 98, 45, 50]⟩ ⟨#[119, 101, 98, 45, 49, 48]⟩ (by decide) (by decide)
  rw [cmp_web] at h4
  repeat' (first | (first | (apply o1; exact rfl; apply pv; exact rfl; exact rfl) | apply nl | apply sq | apply rg | (apply gy; exact rfl; exact rfl) | (apply gn; exact rfl; exact rfl; exact rfl; exact rfl) | (apply gu; exact rfl; exact rfl; exact rfl; exact rfl) | (apply gs; exact rfl; exact rfl; all_goals intro _) | (apply gb; exact rfl; exact rfl; all_goals intro _) | (apply it; exact rfl) | (apply fi; exact rfl) | (apply cd; exact rfl; all_goals intro _) | (apply cb; exact rfl; all_goals intro _) | apply bl | (apply xt; exact rfl) | apply sk | apply ib | (apply o1; exact rfl; (first | (apply pv; exact rfl; exact rfl) | (apply p_ls; exact rfl; kernel_rfl) | (apply p_ll; exact rfl; kernel_rfl) | (apply p_ic; exact rfl; omega) | (apply p_s1; exact rfl; omega; omega) | (apply p_sb; exact rfl; exact rfl; omega; omega) | (apply p_ad; exact rfl; exact rfl; omega) | (apply p_be; exact rfl; exact rfl; kernel_rfl) | (apply p_bn; exact rfl; exact rfl; kernel_rfl) | (apply p_en; exact rfl; exact rfl; kernel_rfl) | (apply p_nn; exact rfl; exact rfl; kernel_rfl) | (apply p_cv; exact rfl; exact int_of tabOk rfl; kernel_rfl) | (apply p_mi; exact rfl; exact p_mi_ok (kind_of tabOk rfl) rfl) | (apply p_fa; exact rfl; exact field_of tabOk rfl) | (apply p_nc; exact rfl) | (apply p_bk; exact rfl; omega; omega; kernel_rfl) | (apply p_by; exact rfl; exact rfl; omega; kernel_rfl) | (apply p_ia; exact rfl; exact rfl; exact elem_of tabOk rfl; omega) | (apply p_ar; exact rfl; exact rfl; exact rfl) | (apply p_bd tabOk; exact rfl; exact rfl; exact rfl; exact ⟨rfl, rfl⟩))) | (apply o2; exact rfl; (first | (apply r_l1 0; exact shape_of tabOk rfl; exact rfl; exact rfl; exact rfl) | (apply r_ln 0; exact shape_of tabOk rfl; exact rfl; exact rfl; exact rfl) | (apply r_l1 1; exact shape_of tabOk rfl; exact rfl; exact rfl; exact rfl) | (apply r_ln 1; exact shape_of tabOk rfl; exact rfl; exact rfl; exact rfl) | (apply r_l1 2; exact shape_of tabOk rfl; exact rfl; exact rfl; exact rfl) | (apply r_ln 2; exact shape_of tabOk rfl; exact rfl; exact rfl; exact rfl) | (apply r_l1 3; exact shape_of tabOk rfl; exact rfl; exact rfl; exact rfl) | (apply r_ln 3; exact shape_of tabOk rfl; exact rfl; exact rfl; exact rfl))) | (apply al; exact rfl; exact zero_of tabOk rfl; intro _) | (apply bx; exact rfl; exact rfl; intro _) | (apply sw 0; exact size_of tabOk rfl; exact rfl; exact rfl; exact rfl; exact rfl; exact rfl; exact rfl; exact rfl) | (apply so 0; exact size_of tabOk rfl; exact rfl; exact rfl; exact rfl; exact rfl; exact so_le rfl; exact so_one rfl) | (apply sw 1; exact size_of tabOk rfl; exact rfl; exact rfl; exact rfl; exact rfl; exact rfl; exact rfl; exact rfl) | (apply so 1; exact size_of tabOk rfl; exact rfl; exact rfl; exact rfl; exact rfl; exact so_le rfl; exact so_one rfl) | (apply sw 2; exact size_of tabOk rfl; exact rfl; exact rfl; exact rfl; exact rfl; exact rfl; exact rfl; exact rfl) | (apply so 2; exact size_of tabOk rfl; exact rfl; exact rfl; exact rfl; exact rfl; exact so_le rfl; exact so_one rfl) | (apply sw 3; exact size_of tabOk rfl; exact rfl; exact rfl; exact rfl; exact rfl; exact rfl; exact rfl; exact rfl) | (apply so 3; exact size_of tabOk rfl; exact rfl; exact rfl; exact rfl; exact rfl; exact so_le rfl; exact so_one rfl) | (apply rr1; exact rfl; exact rfl) | (apply rr2; exact rfl; exact rfl; exact rfl) | (apply rr3; exact rfl; exact rfl; exact rfl; exact rfl)) | (first | (apply o3; exact rfl; apply cv_w; kernel_rfl; exact rfl; exact h1; exact fun w' hst => hw.st hst) | (apply d3; exact rfl; apply cv_w; kernel_rfl; exact rfl; exact h1; exact fun w' hst => hw.st hst)) | (first | (apply o3; exact rfl; apply cv_w; kernel_rfl; exact rfl; exact h2; exact fun w' hst => hw.st hst) | (apply d3; exact rfl; apply cv_w; kernel_rfl; exact rfl; exact h2; exact fun w' hst => hw.st hst)) | (apply cr; exact rfl; kernel_rfl; exact rfl; exact h3) | (apply cr; exact rfl; kernel_rfl; exact rfl; exact h4))
  all_goals first | rfl | (simp_all [tl_mk]; done)

end Go.Fl
