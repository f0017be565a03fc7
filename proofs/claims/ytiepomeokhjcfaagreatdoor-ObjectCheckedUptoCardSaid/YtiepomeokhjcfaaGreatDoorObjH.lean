/-
  What was left out of an object, filled in. No condition beyond its sizes.
-/
import Derived.Test.YtiepomeokhjcfaaGreatDoorObjA
import Derived.Test.YtiepomeokhjcfaaGreatDoorObjT
namespace Go.Fl
open Go.Proofs Go.RowKit
set_option maxRecDepth 10000
set_option maxHeartbeats 40000000

theorem def0 (o : Oj) (a a' : Option Addr) (c c' : Nat) (h1 : o.labs.length ≤ 4398046511000) (h2 : o.sel.length ≤ 4398046511000) (h : ¬ (o.kind = 1 ∨ o.kind = 2 ∨ o.kind = 3)) : Con Tryz.prog 9 [(ov o a c a' c').val] [] (fun w => LabAt w a o.labs ∧ LabAt w a' o.sel) (OPost (defO o)) := by
  have e : defO o = o := by unfold defO; rw [if_neg (by omega), if_neg (by omega), if_neg (by omega)]
  refine con_start1 Tryz.func9 rfl rfl rfl (fun w0 hw => ?_)
  refine vstart [(0, ov o a c a' c')] [] [] ?_
  refine vwith (pt := .run _) _ _ [] tabOk lent_nil fun go => ?_
  apply go 300
  repeat' (first | apply And.intro | intro _)
  all_goals try (first | (show Here _ _ _ _; try (exfalso; omega)) | exact trivial | omega | kernel_rfl | exact rfl)
  refine vcc rfl rfl (by kernel_rfl) (clone o a a' c c' h1 h2) (by exact fun _ h => ⟨hw.1.st h, hw.2.st h⟩) ?_
  rintro _ q1 ⟨x1, d1, x2, d2, rfl, hd1, hd2, hr1, hr2⟩
  refine ⟨ov o x1 d1 x2 d2, rfl, ?_⟩
  rename_i p1 p2
  apply go 300
  repeat' (first | apply And.intro | intro _)
  all_goals try (first | (show Here _ _ _ _; try (exfalso; omega)) | exact trivial | omega | kernel_rfl | exact rfl)
  refine vcc1 (bs := q1) tabOk (by exact rfl) (by exact rfl) (by exact rfl) (by exact rfl) (by exact rfl) (by rw [List.append_nil]; exact List.sublist_append_right _ _) ?_
  rw [e]
  exact ⟨x1, d1, x2, d2, rfl, hd1, hd2, hr1, hr2⟩
theorem def1 (o : Oj) (a a' : Option Addr) (c c' : Nat) (h1 : o.labs.length ≤ 4398046511000) (h2 : o.sel.length ≤ 4398046511000) (h : o.kind = 1) : Con Tryz.prog 9 [(ov o a c a' c').val] [] (fun w => LabAt w a o.labs ∧ LabAt w a' o.sel) (OPost (defO o)) := by
  have e : defO o = { o with rise := or1 o.rise, fall := or1 o.fall } := by unfold defO; rw [if_neg (by omega), if_pos h]
  refine con_start1 Tryz.func9 rfl rfl rfl (fun w0 hw => ?_)
  refine vstart [(0, ov o a c a' c')] [] [] ?_
  refine vwith (pt := .run _) _ _ [] tabOk lent_nil fun go => ?_
  apply go 300
  repeat' (first | apply And.intro | intro _)
  all_goals try (first | (show Here _ _ _ _; try (exfalso; omega)) | exact trivial | omega | kernel_rfl | exact rfl)
  refine vcc rfl rfl (by kernel_rfl) (clone o a a' c c' h1 h2) (by exact fun _ h => ⟨hw.1.st h, hw.2.st h⟩) ?_
  rintro _ q1 ⟨x1, d1, x2, d2, rfl, hd1, hd2, hr1, hr2⟩
  refine ⟨ov o x1 d1 x2 d2, rfl, ?_⟩
  rename_i p1 p2
  apply go 300
  repeat' (first | apply And.intro | intro _)
  all_goals try (first | (show Here _ _ _ _; try (exfalso; omega)) | exact trivial | omega | kernel_rfl | exact rfl)
  refine vanyE [] (ι := Hs) (fun _ => [(1, .ptr true 0 p1 0 1 0 0), (2, .ptr true 1 p2 0 1 0 0)]) (fun _ => [⟨p1, 27, .var (ocs ({ o with rise := or1 o.rise, fall := or1 o.fall }) (labV o.labs x1 d1) (labV o.sel x2 d2)), []⟩, ⟨p2, 27, .var (cellsV (.raw ((zeroL tab 27).getD undef))), []⟩]) (fun q => (q1 ++ []) ++ q) (fun _ => True) (by kernel_rfl) rfl ?_ (fun hend => ?_)
  rotate_left
  · skip
    apply any_first 0; exact rfl; exact rfl; exact rfl; exact rfl; kernel_rfl; apply p_fa; exact rfl; exact field_of tabOk rfl
    apply any_first 4; exact rfl; exact rfl; exact rfl; exact rfl; kernel_rfl; apply p_fa; exact rfl; exact field_of tabOk rfl
    refine any_step [1, 5] (by kernel_rfl) rfl (by kernel_rfl) ?_
    intro i hi
    simp only [List.mem_cons, List.not_mem_nil, or_false] at hi
    rcases hi with rfl | rfl
    · skip
      apply a2; exact rfl; first | (apply r_l1 0; exact shape_of tabOk rfl; exact rfl; exact rfl; exact rfl) | (apply r_ln 0; exact shape_of tabOk rfl; exact rfl; exact rfl; exact rfl)
      refine any_step [2, 5] (by kernel_rfl) rfl (by kernel_rfl) ?_
      intro i hi
      simp only [List.mem_cons, List.not_mem_nil, or_false] at hi
      rcases hi with rfl | rfl
      · skip
        apply ab tabOk; exact rfl; exact rfl; exact rfl; exact rfl; exact rfl; exact rfl; exact rfl; exact rfl; exact rfl; exact rfl; intro s1
        refine any_step [3, 5] (by kernel_rfl) rfl (by kernel_rfl) ?_
        intro i hi
        simp only [List.mem_cons, List.not_mem_nil, or_false] at hi
        rcases hi with rfl | rfl
        · skip
          refine a3 (xs := [.tmp 23]) rfl (by kernel_rfl) rfl (or2 o.rise s1) (by exact fun w hst => (reads_of_block (hst.has (s1, .cells (flatC [.int .i64 o.rise, .int .i64 1]).toArray 3) (by first | exact List.mem_append_right _ (List.mem_singleton.2 rfl) | exact List.mem_append_left _ (List.mem_append_right _ (List.mem_singleton.2 rfl)))) 2 0 _ rfl).1) ?_
          refine any_step [5] (by kernel_rfl) rfl (by kernel_rfl) ?_
          intro i hi
          simp only [List.mem_cons, List.not_mem_nil, or_false] at hi
          subst hi
          apply a2; exact rfl; first | (apply r_l1 0; exact shape_of tabOk rfl; exact rfl; exact rfl; exact rfl) | (apply r_ln 0; exact shape_of tabOk rfl; exact rfl; exact rfl; exact rfl)
          apply any_first 8; exact rfl; exact rfl; exact rfl; exact rfl; kernel_rfl; apply p_fa; exact rfl; exact field_of tabOk rfl
          refine any_step [6] (by kernel_rfl) rfl (by kernel_rfl) ?_
          intro i hi
          simp only [List.mem_cons, List.not_mem_nil, or_false] at hi
          subst hi
          apply ab tabOk; exact rfl; exact rfl; exact rfl; exact rfl; exact rfl; exact rfl; exact rfl; exact rfl; exact rfl; exact rfl; intro s2
          refine any_step [7] (by kernel_rfl) rfl (by kernel_rfl) ?_
          intro i hi
          simp only [List.mem_cons, List.not_mem_nil, or_false] at hi
          subst hi
          refine a3 (xs := [.tmp 27]) rfl (by kernel_rfl) rfl (or2 o.fall s2) (by exact fun w hst => (reads_of_block (hst.has (s2, .cells (flatC [.int .i64 o.fall, .int .i64 1]).toArray 3) (by first | exact List.mem_append_right _ (List.mem_singleton.2 rfl) | exact List.mem_append_left _ (List.mem_append_right _ (List.mem_singleton.2 rfl)))) 2 0 _ rfl).1) ?_
          refine any_step [9] (by kernel_rfl) rfl (by kernel_rfl) ?_
          intro i hi
          simp only [List.mem_cons, List.not_mem_nil, or_false] at hi
          subst hi
          apply aso 0; exact size_of tabOk rfl; exact rfl; exact rfl; exact rfl; exact rfl; exact rfl; exact so_le rfl; exact so_one rfl
          apply any_first 10; exact rfl; exact rfl; exact rfl; exact rfl; kernel_rfl; apply p_fa; exact rfl; exact field_of tabOk rfl
          refine any_step [11] (by kernel_rfl) rfl (by kernel_rfl) ?_
          intro i hi
          simp only [List.mem_cons, List.not_mem_nil, or_false] at hi
          subst hi
          apply aso 0; exact size_of tabOk rfl; exact rfl; exact rfl; exact rfl; exact rfl; exact rfl; exact so_le rfl; exact so_one rfl
          refine any_end (by kernel_rfl) ?_
          exact hend [_, _] _ _ trivial ⟨rfl, rfl, trivial⟩ (List.Perm.of_eq (by simp only [List.append_assoc]; rfl))
        · skip
          apply a2; exact rfl; first | (apply r_l1 0; exact shape_of tabOk rfl; exact rfl; exact rfl; exact rfl) | (apply r_ln 0; exact shape_of tabOk rfl; exact rfl; exact rfl; exact rfl)
          refine any_step [3, 6] (by kernel_rfl) rfl (by kernel_rfl) ?_
          intro i hi
          simp only [List.mem_cons, List.not_mem_nil, or_false] at hi
          rcases hi with rfl | rfl
          · skip
            refine a3 (xs := [.tmp 23]) rfl (by kernel_rfl) rfl (or2 o.rise s1) (by exact fun w hst => (reads_of_block (hst.has (s1, .cells (flatC [.int .i64 o.rise, .int .i64 1]).toArray 3) (by first | exact List.mem_append_right _ (List.mem_singleton.2 rfl) | exact List.mem_append_left _ (List.mem_append_right _ (List.mem_singleton.2 rfl)))) 2 0 _ rfl).1) ?_
            apply any_first 8; exact rfl; exact rfl; exact rfl; exact rfl; kernel_rfl; apply p_fa; exact rfl; exact field_of tabOk rfl
            refine any_step [6] (by kernel_rfl) rfl (by kernel_rfl) ?_
            intro i hi
            simp only [List.mem_cons, List.not_mem_nil, or_false] at hi
            subst hi
            apply ab tabOk; exact rfl; exact rfl; exact rfl; exact rfl; exact rfl; exact rfl; exact rfl; exact rfl; exact rfl; exact rfl; intro s2
            refine any_step [7] (by kernel_rfl) rfl (by kernel_rfl) ?_
            intro i hi
            simp only [List.mem_cons, List.not_mem_nil, or_false] at hi
            subst hi
            refine a3 (xs := [.tmp 27]) rfl (by kernel_rfl) rfl (or2 o.fall s2) (by exact fun w hst => (reads_of_block (hst.has (s2, .cells (flatC [.int .i64 o.fall, .int .i64 1]).toArray 3) (by first | exact List.mem_append_right _ (List.mem_singleton.2 rfl) | exact List.mem_append_left _ (List.mem_append_right _ (List.mem_singleton.2 rfl)))) 2 0 _ rfl).1) ?_
            refine any_step [9] (by kernel_rfl) rfl (by kernel_rfl) ?_
            intro i hi
            simp only [List.mem_cons, List.not_mem_nil, or_false] at hi
            subst hi
            apply aso 0; exact size_of tabOk rfl; exact rfl; exact rfl; exact rfl; exact rfl; exact rfl; exact so_le rfl; exact so_one rfl
            apply any_first 10; exact rfl; exact rfl; exact rfl; exact rfl; kernel_rfl; apply p_fa; exact rfl; exact field_of tabOk rfl
            refine any_step [11] (by kernel_rfl) rfl (by kernel_rfl) ?_
            intro i hi
            simp only [List.mem_cons, List.not_mem_nil, or_false] at hi
            subst hi
            apply aso 0; exact size_of tabOk rfl; exact rfl; exact rfl; exact rfl; exact rfl; exact rfl; exact so_le rfl; exact so_one rfl
            refine any_end (by kernel_rfl) ?_
            exact hend [_, _] _ _ trivial ⟨rfl, rfl, trivial⟩ (List.Perm.of_eq (by simp only [List.append_assoc]; rfl))
          · skip
            apply ab tabOk; exact rfl; exact rfl; exact rfl; exact rfl; exact rfl; exact rfl; exact rfl; exact rfl; exact rfl; exact rfl; intro s2
            refine any_step [3] (by kernel_rfl) rfl (by kernel_rfl) ?_
            intro i hi
            simp only [List.mem_cons, List.not_mem_nil, or_false] at hi
            subst hi
            refine a3 (xs := [.tmp 23]) rfl (by kernel_rfl) rfl (or2 o.rise s1) (by exact fun w hst => (reads_of_block (hst.has (s1, .cells (flatC [.int .i64 o.rise, .int .i64 1]).toArray 3) (by first | exact List.mem_append_right _ (List.mem_singleton.2 rfl) | exact List.mem_append_left _ (List.mem_append_right _ (List.mem_singleton.2 rfl)))) 2 0 _ rfl).1) ?_
            apply any_first 8; exact rfl; exact rfl; exact rfl; exact rfl; kernel_rfl; apply p_fa; exact rfl; exact field_of tabOk rfl
            refine any_step [7] (by kernel_rfl) rfl (by kernel_rfl) ?_
            intro i hi
            simp only [List.mem_cons, List.not_mem_nil, or_false] at hi
            subst hi
            refine a3 (xs := [.tmp 27]) rfl (by kernel_rfl) rfl (or2 o.fall s2) (by exact fun w hst => (reads_of_block (hst.has (s2, .cells (flatC [.int .i64 o.fall, .int .i64 1]).toArray 3) (by first | exact List.mem_append_right _ (List.mem_singleton.2 rfl) | exact List.mem_append_left _ (List.mem_append_right _ (List.mem_singleton.2 rfl)))) 2 0 _ rfl).1) ?_
            refine any_step [9] (by kernel_rfl) rfl (by kernel_rfl) ?_
            intro i hi
            simp only [List.mem_cons, List.not_mem_nil, or_false] at hi
            subst hi
            apply aso 0; exact size_of tabOk rfl; exact rfl; exact rfl; exact rfl; exact rfl; exact rfl; exact so_le rfl; exact so_one rfl
            apply any_first 10; exact rfl; exact rfl; exact rfl; exact rfl; kernel_rfl; apply p_fa; exact rfl; exact field_of tabOk rfl
            refine any_step [11] (by kernel_rfl) rfl (by kernel_rfl) ?_
            intro i hi
            simp only [List.mem_cons, List.not_mem_nil, or_false] at hi
            subst hi
            apply aso 0; exact size_of tabOk rfl; exact rfl; exact rfl; exact rfl; exact rfl; exact rfl; exact so_le rfl; exact so_one rfl
            refine any_end (by kernel_rfl) ?_
            exact hend [_, _] _ _ trivial ⟨rfl, rfl, trivial⟩ (List.Perm.of_eq (by simp only [List.append_assoc]; rfl))
      · skip
        apply a2; exact rfl; first | (apply r_l1 0; exact shape_of tabOk rfl; exact rfl; exact rfl; exact rfl) | (apply r_ln 0; exact shape_of tabOk rfl; exact rfl; exact rfl; exact rfl)
        refine any_step [2, 6] (by kernel_rfl) rfl (by kernel_rfl) ?_
        intro i hi
        simp only [List.mem_cons, List.not_mem_nil, or_false] at hi
        rcases hi with rfl | rfl
        · skip
          apply ab tabOk; exact rfl; exact rfl; exact rfl; exact rfl; exact rfl; exact rfl; exact rfl; exact rfl; exact rfl; exact rfl; intro s1
          refine any_step [3, 6] (by kernel_rfl) rfl (by kernel_rfl) ?_
          intro i hi
          simp only [List.mem_cons, List.not_mem_nil, or_false] at hi
          rcases hi with rfl | rfl
          · skip
            refine a3 (xs := [.tmp 23]) rfl (by kernel_rfl) rfl (or2 o.rise s1) (by exact fun w hst => (reads_of_block (hst.has (s1, .cells (flatC [.int .i64 o.rise, .int .i64 1]).toArray 3) (by first | exact List.mem_append_right _ (List.mem_singleton.2 rfl) | exact List.mem_append_left _ (List.mem_append_right _ (List.mem_singleton.2 rfl)))) 2 0 _ rfl).1) ?_
            apply any_first 8; exact rfl; exact rfl; exact rfl; exact rfl; kernel_rfl; apply p_fa; exact rfl; exact field_of tabOk rfl
            refine any_step [6] (by kernel_rfl) rfl (by kernel_rfl) ?_
            intro i hi
            simp only [List.mem_cons, List.not_mem_nil, or_false] at hi
            subst hi
            apply ab tabOk; exact rfl; exact rfl; exact rfl; exact rfl; exact rfl; exact rfl; exact rfl; exact rfl; exact rfl; exact rfl; intro s2
            refine any_step [7] (by kernel_rfl) rfl (by kernel_rfl) ?_
            intro i hi
            simp only [List.mem_cons, List.not_mem_nil, or_false] at hi
            subst hi
            refine a3 (xs := [.tmp 27]) rfl (by kernel_rfl) rfl (or2 o.fall s2) (by exact fun w hst => (reads_of_block (hst.has (s2, .cells (flatC [.int .i64 o.fall, .int .i64 1]).toArray 3) (by first | exact List.mem_append_right _ (List.mem_singleton.2 rfl) | exact List.mem_append_left _ (List.mem_append_right _ (List.mem_singleton.2 rfl)))) 2 0 _ rfl).1) ?_
            refine any_step [9] (by kernel_rfl) rfl (by kernel_rfl) ?_
            intro i hi
            simp only [List.mem_cons, List.not_mem_nil, or_false] at hi
            subst hi
            apply aso 0; exact size_of tabOk rfl; exact rfl; exact rfl; exact rfl; exact rfl; exact rfl; exact so_le rfl; exact so_one rfl
            apply any_first 10; exact rfl; exact rfl; exact rfl; exact rfl; kernel_rfl; apply p_fa; exact rfl; exact field_of tabOk rfl
            refine any_step [11] (by kernel_rfl) rfl (by kernel_rfl) ?_
            intro i hi
            simp only [List.mem_cons, List.not_mem_nil, or_false] at hi
            subst hi
            apply aso 0; exact size_of tabOk rfl; exact rfl; exact rfl; exact rfl; exact rfl; exact rfl; exact so_le rfl; exact so_one rfl
            refine any_end (by kernel_rfl) ?_
            exact hend [_, _] _ _ trivial ⟨rfl, rfl, trivial⟩ (List.Perm.of_eq (by simp only [List.append_assoc]; rfl))
          · skip
            apply ab tabOk; exact rfl; exact rfl; exact rfl; exact rfl; exact rfl; exact rfl; exact rfl; exact rfl; exact rfl; exact rfl; intro s2
            refine any_step [3] (by kernel_rfl) rfl (by kernel_rfl) ?_
            intro i hi
            simp only [List.mem_cons, List.not_mem_nil, or_false] at hi
            subst hi
            refine a3 (xs := [.tmp 23]) rfl (by kernel_rfl) rfl (or2 o.rise s1) (by exact fun w hst => (reads_of_block (hst.has (s1, .cells (flatC [.int .i64 o.rise, .int .i64 1]).toArray 3) (by first | exact List.mem_append_right _ (List.mem_singleton.2 rfl) | exact List.mem_append_left _ (List.mem_append_right _ (List.mem_singleton.2 rfl)))) 2 0 _ rfl).1) ?_
            apply any_first 8; exact rfl; exact rfl; exact rfl; exact rfl; kernel_rfl; apply p_fa; exact rfl; exact field_of tabOk rfl
            refine any_step [7] (by kernel_rfl) rfl (by kernel_rfl) ?_
            intro i hi
            simp only [List.mem_cons, List.not_mem_nil, or_false] at hi
            subst hi
            refine a3 (xs := [.tmp 27]) rfl (by kernel_rfl) rfl (or2 o.fall s2) (by exact fun w hst => (reads_of_block (hst.has (s2, .cells (flatC [.int .i64 o.fall, .int .i64 1]).toArray 3) (by first | exact List.mem_append_right _ (List.mem_singleton.2 rfl) | exact List.mem_append_left _ (List.mem_append_right _ (List.mem_singleton.2 rfl)))) 2 0 _ rfl).1) ?_
            refine any_step [9] (by kernel_rfl) rfl (by kernel_rfl) ?_
            intro i hi
            simp only [List.mem_cons, List.not_mem_nil, or_false] at hi
            subst hi
            apply aso 0; exact size_of tabOk rfl; exact rfl; exact rfl; exact rfl; exact rfl; exact rfl; exact so_le rfl; exact so_one rfl
            apply any_first 10; exact rfl; exact rfl; exact rfl; exact rfl; kernel_rfl; apply p_fa; exact rfl; exact field_of tabOk rfl
            refine any_step [11] (by kernel_rfl) rfl (by kernel_rfl) ?_
            intro i hi
            simp only [List.mem_cons, List.not_mem_nil, or_false] at hi
            subst hi
            apply aso 0; exact size_of tabOk rfl; exact rfl; exact rfl; exact rfl; exact rfl; exact rfl; exact so_le rfl; exact so_one rfl
            refine any_end (by kernel_rfl) ?_
            exact hend [_, _] _ _ trivial ⟨rfl, rfl, trivial⟩ (List.Perm.of_eq (by simp only [List.append_assoc]; rfl))
        · skip
          apply ab tabOk; exact rfl; exact rfl; exact rfl; exact rfl; exact rfl; exact rfl; exact rfl; exact rfl; exact rfl; exact rfl; intro s2
          refine any_step [2] (by kernel_rfl) rfl (by kernel_rfl) ?_
          intro i hi
          simp only [List.mem_cons, List.not_mem_nil, or_false] at hi
          subst hi
          apply ab tabOk; exact rfl; exact rfl; exact rfl; exact rfl; exact rfl; exact rfl; exact rfl; exact rfl; exact rfl; exact rfl; intro s1
          refine any_step [3] (by kernel_rfl) rfl (by kernel_rfl) ?_
          intro i hi
          simp only [List.mem_cons, List.not_mem_nil, or_false] at hi
          subst hi
          refine a3 (xs := [.tmp 23]) rfl (by kernel_rfl) rfl (or2 o.rise s1) (by exact fun w hst => (reads_of_block (hst.has (s1, .cells (flatC [.int .i64 o.rise, .int .i64 1]).toArray 3) (by first | exact List.mem_append_right _ (List.mem_singleton.2 rfl) | exact List.mem_append_left _ (List.mem_append_right _ (List.mem_singleton.2 rfl)))) 2 0 _ rfl).1) ?_
          apply any_first 8; exact rfl; exact rfl; exact rfl; exact rfl; kernel_rfl; apply p_fa; exact rfl; exact field_of tabOk rfl
          refine any_step [7] (by kernel_rfl) rfl (by kernel_rfl) ?_
          intro i hi
          simp only [List.mem_cons, List.not_mem_nil, or_false] at hi
          subst hi
          refine a3 (xs := [.tmp 27]) rfl (by kernel_rfl) rfl (or2 o.fall s2) (by exact fun w hst => (reads_of_block (hst.has (s2, .cells (flatC [.int .i64 o.fall, .int .i64 1]).toArray 3) (by first | exact List.mem_append_right _ (List.mem_singleton.2 rfl) | exact List.mem_append_left _ (List.mem_append_right _ (List.mem_singleton.2 rfl)))) 2 0 _ rfl).1) ?_
          refine any_step [9] (by kernel_rfl) rfl (by kernel_rfl) ?_
          intro i hi
          simp only [List.mem_cons, List.not_mem_nil, or_false] at hi
          subst hi
          apply aso 0; exact size_of tabOk rfl; exact rfl; exact rfl; exact rfl; exact rfl; exact rfl; exact so_le rfl; exact so_one rfl
          apply any_first 10; exact rfl; exact rfl; exact rfl; exact rfl; kernel_rfl; apply p_fa; exact rfl; exact field_of tabOk rfl
          refine any_step [11] (by kernel_rfl) rfl (by kernel_rfl) ?_
          intro i hi
          simp only [List.mem_cons, List.not_mem_nil, or_false] at hi
          subst hi
          apply aso 0; exact size_of tabOk rfl; exact rfl; exact rfl; exact rfl; exact rfl; exact rfl; exact so_le rfl; exact so_one rfl
          refine any_end (by kernel_rfl) ?_
          exact hend [_, _] _ _ trivial ⟨rfl, rfl, trivial⟩ (List.Perm.of_eq (by simp only [List.append_assoc]; rfl))
    · skip
      apply a2; exact rfl; first | (apply r_l1 0; exact shape_of tabOk rfl; exact rfl; exact rfl; exact rfl) | (apply r_ln 0; exact shape_of tabOk rfl; exact rfl; exact rfl; exact rfl)
      refine any_step [1, 6] (by kernel_rfl) rfl (by kernel_rfl) ?_
      intro i hi
      simp only [List.mem_cons, List.not_mem_nil, or_false] at hi
      rcases hi with rfl | rfl
      · skip
        apply a2; exact rfl; first | (apply r_l1 0; exact shape_of tabOk rfl; exact rfl; exact rfl; exact rfl) | (apply r_ln 0; exact shape_of tabOk rfl; exact rfl; exact rfl; exact rfl)
        refine any_step [2, 6] (by kernel_rfl) rfl (by kernel_rfl) ?_
        intro i hi
        simp only [List.mem_cons, List.not_mem_nil, or_false] at hi
        rcases hi with rfl | rfl
        · skip
          apply ab tabOk; exact rfl; exact rfl; exact rfl; exact rfl; exact rfl; exact rfl; exact rfl; exact rfl; exact rfl; exact rfl; intro s1
          refine any_step [3, 6] (by kernel_rfl) rfl (by kernel_rfl) ?_
          intro i hi
          simp only [List.mem_cons, List.not_mem_nil, or_false] at hi
          rcases hi with rfl | rfl
          · skip
            refine a3 (xs := [.tmp 23]) rfl (by kernel_rfl) rfl (or2 o.rise s1) (by exact fun w hst => (reads_of_block (hst.has (s1, .cells (flatC [.int .i64 o.rise, .int .i64 1]).toArray 3) (by first | exact List.mem_append_right _ (List.mem_singleton.2 rfl) | exact List.mem_append_left _ (List.mem_append_right _ (List.mem_singleton.2 rfl)))) 2 0 _ rfl).1) ?_
            apply any_first 8; exact rfl; exact rfl; exact rfl; exact rfl; kernel_rfl; apply p_fa; exact rfl; exact field_of tabOk rfl
            refine any_step [6] (by kernel_rfl) rfl (by kernel_rfl) ?_
            intro i hi
            simp only [List.mem_cons, List.not_mem_nil, or_false] at hi
            subst hi
            apply ab tabOk; exact rfl; exact rfl; exact rfl; exact rfl; exact rfl; exact rfl; exact rfl; exact rfl; exact rfl; exact rfl; intro s2
            refine any_step [7] (by kernel_rfl) rfl (by kernel_rfl) ?_
            intro i hi
            simp only [List.mem_cons, List.not_mem_nil, or_false] at hi
            subst hi
            refine a3 (xs := [.tmp 27]) rfl (by kernel_rfl) rfl (or2 o.fall s2) (by exact fun w hst => (reads_of_block (hst.has (s2, .cells (flatC [.int .i64 o.fall, .int .i64 1]).toArray 3) (by first | exact List.mem_append_right _ (List.mem_singleton.2 rfl) | exact List.mem_append_left _ (List.mem_append_right _ (List.mem_singleton.2 rfl)))) 2 0 _ rfl).1) ?_
            refine any_step [9] (by kernel_rfl) rfl (by kernel_rfl) ?_
            intro i hi
            simp only [List.mem_cons, List.not_mem_nil, or_false] at hi
            subst hi
            apply aso 0; exact size_of tabOk rfl; exact rfl; exact rfl; exact rfl; exact rfl; exact rfl; exact so_le rfl; exact so_one rfl
            apply any_first 10; exact rfl; exact rfl; exact rfl; exact rfl; kernel_rfl; apply p_fa; exact rfl; exact field_of tabOk rfl
            refine any_step [11] (by kernel_rfl) rfl (by kernel_rfl) ?_
            intro i hi
            simp only [List.mem_cons, List.not_mem_nil, or_false] at hi
            subst hi
            apply aso 0; exact size_of tabOk rfl; exact rfl; exact rfl; exact rfl; exact rfl; exact rfl; exact so_le rfl; exact so_one rfl
            refine any_end (by kernel_rfl) ?_
            exact hend [_, _] _ _ trivial ⟨rfl, rfl, trivial⟩ (List.Perm.of_eq (by simp only [List.append_assoc]; rfl))
          · skip
            apply ab tabOk; exact rfl; exact rfl; exact rfl; exact rfl; exact rfl; exact rfl; exact rfl; exact rfl; exact rfl; exact rfl; intro s2
            refine any_step [3] (by kernel_rfl) rfl (by kernel_rfl) ?_
            intro i hi
            simp only [List.mem_cons, List.not_mem_nil, or_false] at hi
            subst hi
            refine a3 (xs := [.tmp 23]) rfl (by kernel_rfl) rfl (or2 o.rise s1) (by exact fun w hst => (reads_of_block (hst.has (s1, .cells (flatC [.int .i64 o.rise, .int .i64 1]).toArray 3) (by first | exact List.mem_append_right _ (List.mem_singleton.2 rfl) | exact List.mem_append_left _ (List.mem_append_right _ (List.mem_singleton.2 rfl)))) 2 0 _ rfl).1) ?_
            apply any_first 8; exact rfl; exact rfl; exact rfl; exact rfl; kernel_rfl; apply p_fa; exact rfl; exact field_of tabOk rfl
            refine any_step [7] (by kernel_rfl) rfl (by kernel_rfl) ?_
            intro i hi
            simp only [List.mem_cons, List.not_mem_nil, or_false] at hi
            subst hi
            refine a3 (xs := [.tmp 27]) rfl (by kernel_rfl) rfl (or2 o.fall s2) (by exact fun w hst => (reads_of_block (hst.has (s2, .cells (flatC [.int .i64 o.fall, .int .i64 1]).toArray 3) (by first | exact List.mem_append_right _ (List.mem_singleton.2 rfl) | exact List.mem_append_left _ (List.mem_append_right _ (List.mem_singleton.2 rfl)))) 2 0 _ rfl).1) ?_
            refine any_step [9] (by kernel_rfl) rfl (by kernel_rfl) ?_
            intro i hi
            simp only [List.mem_cons, List.not_mem_nil, or_false] at hi
            subst hi
            apply aso 0; exact size_of tabOk rfl; exact rfl; exact rfl; exact rfl; exact rfl; exact rfl; exact so_le rfl; exact so_one rfl
            apply any_first 10; exact rfl; exact rfl; exact rfl; exact rfl; kernel_rfl; apply p_fa; exact rfl; exact field_of tabOk rfl
            refine any_step [11] (by kernel_rfl) rfl (by kernel_rfl) ?_
            intro i hi
            simp only [List.mem_cons, List.not_mem_nil, or_false] at hi
            subst hi
            apply aso 0; exact size_of tabOk rfl; exact rfl; exact rfl; exact rfl; exact rfl; exact rfl; exact so_le rfl; exact so_one rfl
            refine any_end (by kernel_rfl) ?_
            exact hend [_, _] _ _ trivial ⟨rfl, rfl, trivial⟩ (List.Perm.of_eq (by simp only [List.append_assoc]; rfl))
        · skip
          apply ab tabOk; exact rfl; exact rfl; exact rfl; exact rfl; exact rfl; exact rfl; exact rfl; exact rfl; exact rfl; exact rfl; intro s2
          refine any_step [2] (by kernel_rfl) rfl (by kernel_rfl) ?_
          intro i hi
          simp only [List.mem_cons, List.not_mem_nil, or_false] at hi
          subst hi
          apply ab tabOk; exact rfl; exact rfl; exact rfl; exact rfl; exact rfl; exact rfl; exact rfl; exact rfl; exact rfl; exact rfl; intro s1
          refine any_step [3] (by kernel_rfl) rfl (by kernel_rfl) ?_
          intro i hi
          simp only [List.mem_cons, List.not_mem_nil, or_false] at hi
          subst hi
          refine a3 (xs := [.tmp 23]) rfl (by kernel_rfl) rfl (or2 o.rise s1) (by exact fun w hst => (reads_of_block (hst.has (s1, .cells (flatC [.int .i64 o.rise, .int .i64 1]).toArray 3) (by first | exact List.mem_append_right _ (List.mem_singleton.2 rfl) | exact List.mem_append_left _ (List.mem_append_right _ (List.mem_singleton.2 rfl)))) 2 0 _ rfl).1) ?_
          apply any_first 8; exact rfl; exact rfl; exact rfl; exact rfl; kernel_rfl; apply p_fa; exact rfl; exact field_of tabOk rfl
          refine any_step [7] (by kernel_rfl) rfl (by kernel_rfl) ?_
          intro i hi
          simp only [List.mem_cons, List.not_mem_nil, or_false] at hi
          subst hi
          refine a3 (xs := [.tmp 27]) rfl (by kernel_rfl) rfl (or2 o.fall s2) (by exact fun w hst => (reads_of_block (hst.has (s2, .cells (flatC [.int .i64 o.fall, .int .i64 1]).toArray 3) (by first | exact List.mem_append_right _ (List.mem_singleton.2 rfl) | exact List.mem_append_left _ (List.mem_append_right _ (List.mem_singleton.2 rfl)))) 2 0 _ rfl).1) ?_
          refine any_step [9] (by kernel_rfl) rfl (by kernel_rfl) ?_
          intro i hi
          simp only [List.mem_cons, List.not_mem_nil, or_false] at hi
          subst hi
          apply aso 0; exact size_of tabOk rfl; exact rfl; exact rfl; exact rfl; exact rfl; exact rfl; exact so_le rfl; exact so_one rfl
          apply any_first 10; exact rfl; exact rfl; exact rfl; exact rfl; kernel_rfl; apply p_fa; exact rfl; exact field_of tabOk rfl
          refine any_step [11] (by kernel_rfl) rfl (by kernel_rfl) ?_
          intro i hi
          simp only [List.mem_cons, List.not_mem_nil, or_false] at hi
          subst hi
          apply aso 0; exact size_of tabOk rfl; exact rfl; exact rfl; exact rfl; exact rfl; exact rfl; exact so_le rfl; exact so_one rfl
          refine any_end (by kernel_rfl) ?_
          exact hend [_, _] _ _ trivial ⟨rfl, rfl, trivial⟩ (List.Perm.of_eq (by simp only [List.append_assoc]; rfl))
      · skip
        apply ab tabOk; exact rfl; exact rfl; exact rfl; exact rfl; exact rfl; exact rfl; exact rfl; exact rfl; exact rfl; exact rfl; intro s2
        refine any_step [1] (by kernel_rfl) rfl (by kernel_rfl) ?_
        intro i hi
        simp only [List.mem_cons, List.not_mem_nil, or_false] at hi
        subst hi
        apply a2; exact rfl; first | (apply r_l1 0; exact shape_of tabOk rfl; exact rfl; exact rfl; exact rfl) | (apply r_ln 0; exact shape_of tabOk rfl; exact rfl; exact rfl; exact rfl)
        refine any_step [2] (by kernel_rfl) rfl (by kernel_rfl) ?_
        intro i hi
        simp only [List.mem_cons, List.not_mem_nil, or_false] at hi
        subst hi
        apply ab tabOk; exact rfl; exact rfl; exact rfl; exact rfl; exact rfl; exact rfl; exact rfl; exact rfl; exact rfl; exact rfl; intro s1
        refine any_step [3] (by kernel_rfl) rfl (by kernel_rfl) ?_
        intro i hi
        simp only [List.mem_cons, List.not_mem_nil, or_false] at hi
        subst hi
        refine a3 (xs := [.tmp 23]) rfl (by kernel_rfl) rfl (or2 o.rise s1) (by exact fun w hst => (reads_of_block (hst.has (s1, .cells (flatC [.int .i64 o.rise, .int .i64 1]).toArray 3) (by first | exact List.mem_append_right _ (List.mem_singleton.2 rfl) | exact List.mem_append_left _ (List.mem_append_right _ (List.mem_singleton.2 rfl)))) 2 0 _ rfl).1) ?_
        apply any_first 8; exact rfl; exact rfl; exact rfl; exact rfl; kernel_rfl; apply p_fa; exact rfl; exact field_of tabOk rfl
        refine any_step [7] (by kernel_rfl) rfl (by kernel_rfl) ?_
        intro i hi
        simp only [List.mem_cons, List.not_mem_nil, or_false] at hi
        subst hi
        refine a3 (xs := [.tmp 27]) rfl (by kernel_rfl) rfl (or2 o.fall s2) (by exact fun w hst => (reads_of_block (hst.has (s2, .cells (flatC [.int .i64 o.fall, .int .i64 1]).toArray 3) (by first | exact List.mem_append_right _ (List.mem_singleton.2 rfl) | exact List.mem_append_left _ (List.mem_append_right _ (List.mem_singleton.2 rfl)))) 2 0 _ rfl).1) ?_
        refine any_step [9] (by kernel_rfl) rfl (by kernel_rfl) ?_
        intro i hi
        simp only [List.mem_cons, List.not_mem_nil, or_false] at hi
        subst hi
        apply aso 0; exact size_of tabOk rfl; exact rfl; exact rfl; exact rfl; exact rfl; exact rfl; exact so_le rfl; exact so_one rfl
        apply any_first 10; exact rfl; exact rfl; exact rfl; exact rfl; kernel_rfl; apply p_fa; exact rfl; exact field_of tabOk rfl
        refine any_step [11] (by kernel_rfl) rfl (by kernel_rfl) ?_
        intro i hi
        simp only [List.mem_cons, List.not_mem_nil, or_false] at hi
        subst hi
        apply aso 0; exact size_of tabOk rfl; exact rfl; exact rfl; exact rfl; exact rfl; exact rfl; exact so_le rfl; exact so_one rfl
        refine any_end (by kernel_rfl) ?_
        exact hend [_, _] _ _ trivial ⟨rfl, rfl, trivial⟩ (List.Perm.of_eq (by simp only [List.append_assoc]; rfl))
  intro q _
  refine vwith (pt := .run _) _ _ [] tabOk lent_nil fun go => ?_
  apply go 300
  repeat' (first | apply And.intro | intro _)
  all_goals try (first | (show Here _ _ _ _; try (exfalso; omega)) | exact trivial | omega | kernel_rfl | exact rfl)
  all_goals try (exfalso; dsimp only at *; omega)
  refine vcc1 (bs := q1) tabOk (by exact rfl) (by exact rfl) (by exact rfl) (by exact rfl) (by exact rfl) (by exact ((List.sublist_append_left _ _).trans (List.sublist_append_left _ _)).trans (List.sublist_append_right _ _)) ?_
  rw [e]
  exact ⟨x1, d1, x2, d2, rfl, hd1, hd2, hr1, hr2⟩
theorem def2a (o : Oj) (a a' : Option Addr) (c c' : Nat) (h1 : o.labs.length ≤ 4398046511000) (h2 : o.sel.length ≤ 4398046511000) (h : o.kind = 2) (hs : o.surge = 0 ∧ o.slack = 0) : Con Tryz.prog 9 [(ov o a c a' c').val] [] (fun w => LabAt w a o.labs ∧ LabAt w a' o.sel) (OPost (defO o)) := by
  have e : defO o = { o with surge := 1, rise := or1 o.rise, fall := or1 o.fall } := by unfold defO; rw [if_pos h, if_pos hs]
  refine con_start1 Tryz.func9 rfl rfl rfl (fun w0 hw => ?_)
  refine vstart [(0, ov o a c a' c')] [] [] ?_
  refine vwith (pt := .run _) _ _ [] tabOk lent_nil fun go => ?_
  apply go 300
  repeat' (first | apply And.intro | intro _)
  all_goals try (first | (show Here _ _ _ _; try (exfalso; omega)) | exact trivial | omega | kernel_rfl | exact rfl)
  refine vcc rfl rfl (by kernel_rfl) (clone o a a' c c' h1 h2) (by exact fun _ h => ⟨hw.1.st h, hw.2.st h⟩) ?_
  rintro _ q1 ⟨x1, d1, x2, d2, rfl, hd1, hd2, hr1, hr2⟩
  refine ⟨ov o x1 d1 x2 d2, rfl, ?_⟩
  rename_i p1 p2
  apply go 300
  repeat' (first | apply And.intro | intro _)
  all_goals try (first | (show Here _ _ _ _; try (exfalso; omega)) | exact trivial | omega | kernel_rfl | exact rfl)
  refine vanyE [] (ι := Hs) (fun _ => [(1, .ptr true 0 p1 0 1 0 0), (2, .ptr true 1 p2 0 1 0 0)]) (fun _ => [⟨p1, 27, .var (ocs ({ { o with surge := 1 } with rise := or1 o.rise, fall := or1 o.fall }) (labV o.labs x1 d1) (labV o.sel x2 d2)), []⟩, ⟨p2, 27, .var (cellsV (.raw ((zeroL tab 27).getD undef))), []⟩]) (fun q => (q1 ++ []) ++ q) (fun _ => True) (by kernel_rfl) rfl ?_ (fun hend => ?_)
  rotate_left
  · skip
    apply any_first 0; exact rfl; exact rfl; exact rfl; exact rfl; kernel_rfl; apply p_fa; exact rfl; exact field_of tabOk rfl
    apply any_first 4; exact rfl; exact rfl; exact rfl; exact rfl; kernel_rfl; apply p_fa; exact rfl; exact field_of tabOk rfl
    refine any_step [1, 5] (by kernel_rfl) rfl (by kernel_rfl) ?_
    intro i hi
    simp only [List.mem_cons, List.not_mem_nil, or_false] at hi
    rcases hi with rfl | rfl
    · skip
      apply a2; exact rfl; first | (apply r_l1 0; exact shape_of tabOk rfl; exact rfl; exact rfl; exact rfl) | (apply r_ln 0; exact shape_of tabOk rfl; exact rfl; exact rfl; exact rfl)
      refine any_step [2, 5] (by kernel_rfl) rfl (by kernel_rfl) ?_
      intro i hi
      simp only [List.mem_cons, List.not_mem_nil, or_false] at hi
      rcases hi with rfl | rfl
      · skip
        apply ab tabOk; exact rfl; exact rfl; exact rfl; exact rfl; exact rfl; exact rfl; exact rfl; exact rfl; exact rfl; exact rfl; intro s1
        refine any_step [3, 5] (by kernel_rfl) rfl (by kernel_rfl) ?_
        intro i hi
        simp only [List.mem_cons, List.not_mem_nil, or_false] at hi
        rcases hi with rfl | rfl
        · skip
          refine a3 (xs := [.tmp 23]) rfl (by kernel_rfl) rfl (or2 o.rise s1) (by exact fun w hst => (reads_of_block (hst.has (s1, .cells (flatC [.int .i64 o.rise, .int .i64 1]).toArray 3) (by first | exact List.mem_append_right _ (List.mem_singleton.2 rfl) | exact List.mem_append_left _ (List.mem_append_right _ (List.mem_singleton.2 rfl)))) 2 0 _ rfl).1) ?_
          refine any_step [5] (by kernel_rfl) rfl (by kernel_rfl) ?_
          intro i hi
          simp only [List.mem_cons, List.not_mem_nil, or_false] at hi
          subst hi
          apply a2; exact rfl; first | (apply r_l1 0; exact shape_of tabOk rfl; exact rfl; exact rfl; exact rfl) | (apply r_ln 0; exact shape_of tabOk rfl; exact rfl; exact rfl; exact rfl)
          apply any_first 8; exact rfl; exact rfl; exact rfl; exact rfl; kernel_rfl; apply p_fa; exact rfl; exact field_of tabOk rfl
          refine any_step [6] (by kernel_rfl) rfl (by kernel_rfl) ?_
          intro i hi
          simp only [List.mem_cons, List.not_mem_nil, or_false] at hi
          subst hi
          apply ab tabOk; exact rfl; exact rfl; exact rfl; exact rfl; exact rfl; exact rfl; exact rfl; exact rfl; exact rfl; exact rfl; intro s2
          refine any_step [7] (by kernel_rfl) rfl (by kernel_rfl) ?_
          intro i hi
          simp only [List.mem_cons, List.not_mem_nil, or_false] at hi
          subst hi
          refine a3 (xs := [.tmp 27]) rfl (by kernel_rfl) rfl (or2 o.fall s2) (by exact fun w hst => (reads_of_block (hst.has (s2, .cells (flatC [.int .i64 o.fall, .int .i64 1]).toArray 3) (by first | exact List.mem_append_right _ (List.mem_singleton.2 rfl) | exact List.mem_append_left _ (List.mem_append_right _ (List.mem_singleton.2 rfl)))) 2 0 _ rfl).1) ?_
          refine any_step [9] (by kernel_rfl) rfl (by kernel_rfl) ?_
          intro i hi
          simp only [List.mem_cons, List.not_mem_nil, or_false] at hi
          subst hi
          apply aso 0; exact size_of tabOk rfl; exact rfl; exact rfl; exact rfl; exact rfl; exact rfl; exact so_le rfl; exact so_one rfl
          apply any_first 10; exact rfl; exact rfl; exact rfl; exact rfl; kernel_rfl; apply p_fa; exact rfl; exact field_of tabOk rfl
          refine any_step [11] (by kernel_rfl) rfl (by kernel_rfl) ?_
          intro i hi
          simp only [List.mem_cons, List.not_mem_nil, or_false] at hi
          subst hi
          apply aso 0; exact size_of tabOk rfl; exact rfl; exact rfl; exact rfl; exact rfl; exact rfl; exact so_le rfl; exact so_one rfl
          refine any_end (by kernel_rfl) ?_
          exact hend [_, _] _ _ trivial ⟨rfl, rfl, trivial⟩ (List.Perm.of_eq (by simp only [List.append_assoc]; rfl))
        · skip
          apply a2; exact rfl; first | (apply r_l1 0; exact shape_of tabOk rfl; exact rfl; exact rfl; exact rfl) | (apply r_ln 0; exact shape_of tabOk rfl; exact rfl; exact rfl; exact rfl)
          refine any_step [3, 6] (by kernel_rfl) rfl (by kernel_rfl) ?_
          intro i hi
          simp only [List.mem_cons, List.not_mem_nil, or_false] at hi
          rcases hi with rfl | rfl
          · skip
            refine a3 (xs := [.tmp 23]) rfl (by kernel_rfl) rfl (or2 o.rise s1) (by exact fun w hst => (reads_of_block (hst.has (s1, .cells (flatC [.int .i64 o.rise, .int .i64 1]).toArray 3) (by first | exact List.mem_append_right _ (List.mem_singleton.2 rfl) | exact List.mem_append_left _ (List.mem_append_right _ (List.mem_singleton.2 rfl)))) 2 0 _ rfl).1) ?_
            apply any_first 8; exact rfl; exact rfl; exact rfl; exact rfl; kernel_rfl; apply p_fa; exact rfl; exact field_of tabOk rfl
            refine any_step [6] (by kernel_rfl) rfl (by kernel_rfl) ?_
            intro i hi
            simp only [List.mem_cons, List.not_mem_nil, or_false] at hi
            subst hi
            apply ab tabOk; exact rfl; exact rfl; exact rfl; exact rfl; exact rfl; exact rfl; exact rfl; exact rfl; exact rfl; exact rfl; intro s2
            refine any_step [7] (by kernel_rfl) rfl (by kernel_rfl) ?_
            intro i hi
            simp only [List.mem_cons, List.not_mem_nil, or_false] at hi
            subst hi
            refine a3 (xs := [.tmp 27]) rfl (by kernel_rfl) rfl (or2 o.fall s2) (by exact fun w hst => (reads_of_block (hst.has (s2, .cells (flatC [.int .i64 o.fall, .int .i64 1]).toArray 3) (by first | exact List.mem_append_right _ (List.mem_singleton.2 rfl) | exact List.mem_append_left _ (List.mem_append_right _ (List.mem_singleton.2 rfl)))) 2 0 _ rfl).1) ?_
            refine any_step [9] (by kernel_rfl) rfl (by kernel_rfl) ?_
            intro i hi
            simp only [List.mem_cons, List.not_mem_nil, or_false] at hi
            subst hi
            apply aso 0; exact size_of tabOk rfl; exact rfl; exact rfl; exact rfl; exact rfl; exact rfl; exact so_le rfl; exact so_one rfl
            apply any_first 10; exact rfl; exact rfl; exact rfl; exact rfl; kernel_rfl; apply p_fa; exact rfl; exact field_of tabOk rfl
            refine any_step [11] (by kernel_rfl) rfl (by kernel_rfl) ?_
            intro i hi
            simp only [List.mem_cons, List.not_mem_nil, or_false] at hi
            subst hi
            apply aso 0; exact size_of tabOk rfl; exact rfl; exact rfl; exact rfl; exact rfl; exact rfl; exact so_le rfl; exact so_one rfl
            refine any_end (by kernel_rfl) ?_
            exact hend [_, _] _ _ trivial ⟨rfl, rfl, trivial⟩ (List.Perm.of_eq (by simp only [List.append_assoc]; rfl))
          · skip
            apply ab tabOk; exact rfl; exact rfl; exact rfl; exact rfl; exact rfl; exact rfl; exact rfl; exact rfl; exact rfl; exact rfl; intro s2
            refine any_step [3] (by kernel_rfl) rfl (by kernel_rfl) ?_
            intro i hi
            simp only [List.mem_cons, List.not_mem_nil, or_false] at hi
            subst hi
            refine a3 (xs := [.tmp 23]) rfl (by kernel_rfl) rfl (or2 o.rise s1) (by exact fun w hst => (reads_of_block (hst.has (s1, .cells (flatC [.int .i64 o.rise, .int .i64 1]).toArray 3) (by first | exact List.mem_append_right _ (List.mem_singleton.2 rfl) | exact List.mem_append_left _ (List.mem_append_right _ (List.mem_singleton.2 rfl)))) 2 0 _ rfl).1) ?_
            apply any_first 8; exact rfl; exact rfl; exact rfl; exact rfl; kernel_rfl; apply p_fa; exact rfl; exact field_of tabOk rfl
            refine any_step [7] (by kernel_rfl) rfl (by kernel_rfl) ?_
            intro i hi
            simp only [List.mem_cons, List.not_mem_nil, or_false] at hi
            subst hi
            refine a3 (xs := [.tmp 27]) rfl (by kernel_rfl) rfl (or2 o.fall s2) (by exact fun w hst => (reads_of_block (hst.has (s2, .cells (flatC [.int .i64 o.fall, .int .i64 1]).toArray 3) (by first | exact List.mem_append_right _ (List.mem_singleton.2 rfl) | exact List.mem_append_left _ (List.mem_append_right _ (List.mem_singleton.2 rfl)))) 2 0 _ rfl).1) ?_
            refine any_step [9] (by kernel_rfl) rfl (by kernel_rfl) ?_
            intro i hi
            simp only [List.mem_cons, List.not_mem_nil, or_false] at hi
            subst hi
            apply aso 0; exact size_of tabOk rfl; exact rfl; exact rfl; exact rfl; exact rfl; exact rfl; exact so_le rfl; exact so_one rfl
            apply any_first 10; exact rfl; exact rfl; exact rfl; exact rfl; kernel_rfl; apply p_fa; exact rfl; exact field_of tabOk rfl
            refine any_step [11] (by kernel_rfl) rfl (by kernel_rfl) ?_
            intro i hi
            simp only [List.mem_cons, List.not_mem_nil, or_false] at hi
            subst hi
            apply aso 0; exact size_of tabOk rfl; exact rfl; exact rfl; exact rfl; exact rfl; exact rfl; exact so_le rfl; exact so_one rfl
            refine any_end (by kernel_rfl) ?_
            exact hend [_, _] _ _ trivial ⟨rfl, rfl, trivial⟩ (List.Perm.of_eq (by simp only [List.append_assoc]; rfl))
      · skip
        apply a2; exact rfl; first | (apply r_l1 0; exact shape_of tabOk rfl; exact rfl; exact rfl; exact rfl) | (apply r_ln 0; exact shape_of tabOk rfl; exact rfl; exact rfl; exact rfl)
        refine any_step [2, 6] (by kernel_rfl) rfl (by kernel_rfl) ?_
        intro i hi
        simp only [List.mem_cons, List.not_mem_nil, or_false] at hi
        rcases hi with rfl | rfl
        · skip
          apply ab tabOk; exact rfl; exact rfl; exact rfl; exact rfl; exact rfl; exact rfl; exact rfl; exact rfl; exact rfl; exact rfl; intro s1
          refine any_step [3, 6] (by kernel_rfl) rfl (by kernel_rfl) ?_
          intro i hi
          simp only [List.mem_cons, List.not_mem_nil, or_false] at hi
          rcases hi with rfl | rfl
          · skip
            refine a3 (xs := [.tmp 23]) rfl (by kernel_rfl) rfl (or2 o.rise s1) (by exact fun w hst => (reads_of_block (hst.has (s1, .cells (flatC [.int .i64 o.rise, .int .i64 1]).toArray 3) (by first | exact List.mem_append_right _ (List.mem_singleton.2 rfl) | exact List.mem_append_left _ (List.mem_append_right _ (List.mem_singleton.2 rfl)))) 2 0 _ rfl).1) ?_
            apply any_first 8; exact rfl; exact rfl; exact rfl; exact rfl; kernel_rfl; apply p_fa; exact rfl; exact field_of tabOk rfl
            refine any_step [6] (by kernel_rfl) rfl (by kernel_rfl) ?_
            intro i hi
            simp only [List.mem_cons, List.not_mem_nil, or_false] at hi
            subst hi
            apply ab tabOk; exact rfl; exact rfl; exact rfl; exact rfl; exact rfl; exact rfl; exact rfl; exact rfl; exact rfl; exact rfl; intro s2
            refine any_step [7] (by kernel_rfl) rfl (by kernel_rfl) ?_
            intro i hi
            simp only [List.mem_cons, List.not_mem_nil, or_false] at hi
            subst hi
            refine a3 (xs := [.tmp 27]) rfl (by kernel_rfl) rfl (or2 o.fall s2) (by exact fun w hst => (reads_of_block (hst.has (s2, .cells (flatC [.int .i64 o.fall, .int .i64 1]).toArray 3) (by first | exact List.mem_append_right _ (List.mem_singleton.2 rfl) | exact List.mem_append_left _ (List.mem_append_right _ (List.mem_singleton.2 rfl)))) 2 0 _ rfl).1) ?_
            refine any_step [9] (by kernel_rfl) rfl (by kernel_rfl) ?_
            intro i hi
            simp only [List.mem_cons, List.not_mem_nil, or_false] at hi
            subst hi
            apply aso 0; exact size_of tabOk rfl; exact rfl; exact rfl; exact rfl; exact rfl; exact rfl; exact so_le rfl; exact so_one rfl
            apply any_first 10; exact rfl; exact rfl; exact rfl; exact rfl; kernel_rfl; apply p_fa; exact rfl; exact field_of tabOk rfl
            refine any_step [11] (by kernel_rfl) rfl (by kernel_rfl) ?_
            intro i hi
            simp only [List.mem_cons, List.not_mem_nil, or_false] at hi
            subst hi
            apply aso 0; exact size_of tabOk rfl; exact rfl; exact rfl; exact rfl; exact rfl; exact rfl; exact so_le rfl; exact so_one rfl
            refine any_end (by kernel_rfl) ?_
            exact hend [_, _] _ _ trivial ⟨rfl, rfl, trivial⟩ (List.Perm.of_eq (by simp only [List.append_assoc]; rfl))
          · skip
            apply ab tabOk; exact rfl; exact rfl; exact rfl; exact rfl; exact rfl; exact rfl; exact rfl; exact rfl; exact rfl; exact rfl; intro s2
            refine any_step [3] (by kernel_rfl) rfl (by kernel_rfl) ?_
            intro i hi
            simp only [List.mem_cons, List.not_mem_nil, or_false] at hi
            subst hi
            refine a3 (xs := [.tmp 23]) rfl (by kernel_rfl) rfl (or2 o.rise s1) (by exact fun w hst => (reads_of_block (hst.has (s1, .cells (flatC [.int .i64 o.rise, .int .i64 1]).toArray 3) (by first | exact List.mem_append_right _ (List.mem_singleton.2 rfl) | exact List.mem_append_left _ (List.mem_append_right _ (List.mem_singleton.2 rfl)))) 2 0 _ rfl).1) ?_
            apply any_first 8; exact rfl; exact rfl; exact rfl; exact rfl; kernel_rfl; apply p_fa; exact rfl; exact field_of tabOk rfl
            refine any_step [7] (by kernel_rfl) rfl (by kernel_rfl) ?_
            intro i hi
            simp only [List.mem_cons, List.not_mem_nil, or_false] at hi
            subst hi
            refine a3 (xs := [.tmp 27]) rfl (by kernel_rfl) rfl (or2 o.fall s2) (by exact fun w hst => (reads_of_block (hst.has (s2, .cells (flatC [.int .i64 o.fall, .int .i64 1]).toArray 3) (by first | exact List.mem_append_right _ (List.mem_singleton.2 rfl) | exact List.mem_append_left _ (List.mem_append_right _ (List.mem_singleton.2 rfl)))) 2 0 _ rfl).1) ?_
            refine any_step [9] (by kernel_rfl) rfl (by kernel_rfl) ?_
            intro i hi
            simp only [List.mem_cons, List.not_mem_nil, or_false] at hi
            subst hi
            apply aso 0; exact size_of tabOk rfl; exact rfl; exact rfl; exact rfl; exact rfl; exact rfl; exact so_le rfl; exact so_one rfl
            apply any_first 10; exact rfl; exact rfl; exact rfl; exact rfl; kernel_rfl; apply p_fa; exact rfl; exact field_of tabOk rfl
            refine any_step [11] (by kernel_rfl) rfl (by kernel_rfl) ?_
            intro i hi
            simp only [List.mem_cons, List.not_mem_nil, or_false] at hi
            subst hi
            apply aso 0; exact size_of tabOk rfl; exact rfl; exact rfl; exact rfl; exact rfl; exact rfl; exact so_le rfl; exact so_one rfl
            refine any_end (by kernel_rfl) ?_
            exact hend [_, _] _ _ trivial ⟨rfl, rfl, trivial⟩ (List.Perm.of_eq (by simp only [List.append_assoc]; rfl))
        · skip
          apply ab tabOk; exact rfl; exact rfl; exact rfl; exact rfl; exact rfl; exact rfl; exact rfl; exact rfl; exact rfl; exact rfl; intro s2
          refine any_step [2] (by kernel_rfl) rfl (by kernel_rfl) ?_
          intro i hi
          simp only [List.mem_cons, List.not_mem_nil, or_false] at hi
          subst hi
          apply ab tabOk; exact rfl; exact rfl; exact rfl; exact rfl; exact rfl; exact rfl; exact rfl; exact rfl; exact rfl; exact rfl; intro s1
          refine any_step [3] (by kernel_rfl) rfl (by kernel_rfl) ?_
          intro i hi
          simp only [List.mem_cons, List.not_mem_nil, or_false] at hi
          subst hi
          refine a3 (xs := [.tmp 23]) rfl (by kernel_rfl) rfl (or2 o.rise s1) (by exact fun w hst => (reads_of_block (hst.has (s1, .cells (flatC [.int .i64 o.rise, .int .i64 1]).toArray 3) (by first | exact List.mem_append_right _ (List.mem_singleton.2 rfl) | exact List.mem_append_left _ (List.mem_append_right _ (List.mem_singleton.2 rfl)))) 2 0 _ rfl).1) ?_
          apply any_first 8; exact rfl; exact rfl; exact rfl; exact rfl; kernel_rfl; apply p_fa; exact rfl; exact field_of tabOk rfl
          refine any_step [7] (by kernel_rfl) rfl (by kernel_rfl) ?_
          intro i hi
          simp only [List.mem_cons, List.not_mem_nil, or_false] at hi
          subst hi
          refine a3 (xs := [.tmp 27]) rfl (by kernel_rfl) rfl (or2 o.fall s2) (by exact fun w hst => (reads_of_block (hst.has (s2, .cells (flatC [.int .i64 o.fall, .int .i64 1]).toArray 3) (by first | exact List.mem_append_right _ (List.mem_singleton.2 rfl) | exact List.mem_append_left _ (List.mem_append_right _ (List.mem_singleton.2 rfl)))) 2 0 _ rfl).1) ?_
          refine any_step [9] (by kernel_rfl) rfl (by kernel_rfl) ?_
          intro i hi
          simp only [List.mem_cons, List.not_mem_nil, or_false] at hi
          subst hi
          apply aso 0; exact size_of tabOk rfl; exact rfl; exact rfl; exact rfl; exact rfl; exact rfl; exact so_le rfl; exact so_one rfl
          apply any_first 10; exact rfl; exact rfl; exact rfl; exact rfl; kernel_rfl; apply p_fa; exact rfl; exact field_of tabOk rfl
          refine any_step [11] (by kernel_rfl) rfl (by kernel_rfl) ?_
          intro i hi
          simp only [List.mem_cons, List.not_mem_nil, or_false] at hi
          subst hi
          apply aso 0; exact size_of tabOk rfl; exact rfl; exact rfl; exact rfl; exact rfl; exact rfl; exact so_le rfl; exact so_one rfl
          refine any_end (by kernel_rfl) ?_
          exact hend [_, _] _ _ trivial ⟨rfl, rfl, trivial⟩ (List.Perm.of_eq (by simp only [List.append_assoc]; rfl))
    · skip
      apply a2; exact rfl; first | (apply r_l1 0; exact shape_of tabOk rfl; exact rfl; exact rfl; exact rfl) | (apply r_ln 0; exact shape_of tabOk rfl; exact rfl; exact rfl; exact rfl)
      refine any_step [1, 6] (by kernel_rfl) rfl (by kernel_rfl) ?_
      intro i hi
      simp only [List.mem_cons, List.not_mem_nil, or_false] at hi
      rcases hi with rfl | rfl
      · skip
        apply a2; exact rfl; first | (apply r_l1 0; exact shape_of tabOk rfl; exact rfl; exact rfl; exact rfl) | (apply r_ln 0; exact shape_of tabOk rfl; exact rfl; exact rfl; exact rfl)
        refine any_step [2, 6] (by kernel_rfl) rfl (by kernel_rfl) ?_
        intro i hi
        simp only [List.mem_cons, List.not_mem_nil, or_false] at hi
        rcases hi with rfl | rfl
        · skip
          apply ab tabOk; exact rfl; exact rfl; exact rfl; exact rfl; exact rfl; exact rfl; exact rfl; exact rfl; exact rfl; exact rfl; intro s1
          refine any_step [3, 6] (by kernel_rfl) rfl (by kernel_rfl) ?_
          intro i hi
          simp only [List.mem_cons, List.not_mem_nil, or_false] at hi
          rcases hi with rfl | rfl
          · skip
            refine a3 (xs := [.tmp 23]) rfl (by kernel_rfl) rfl (or2 o.rise s1) (by exact fun w hst => (reads_of_block (hst.has (s1, .cells (flatC [.int .i64 o.rise, .int .i64 1]).toArray 3) (by first | exact List.mem_append_right _ (List.mem_singleton.2 rfl) | exact List.mem_append_left _ (List.mem_append_right _ (List.mem_singleton.2 rfl)))) 2 0 _ rfl).1) ?_
            apply any_first 8; exact rfl; exact rfl; exact rfl; exact rfl; kernel_rfl; apply p_fa; exact rfl; exact field_of tabOk rfl
            refine any_step [6] (by kernel_rfl) rfl (by kernel_rfl) ?_
            intro i hi
            simp only [List.mem_cons, List.not_mem_nil, or_false] at hi
            subst hi
            apply ab tabOk; exact rfl; exact rfl; exact rfl; exact rfl; exact rfl; exact rfl; exact rfl; exact rfl; exact rfl; exact rfl; intro s2
            refine any_step [7] (by kernel_rfl) rfl (by kernel_rfl) ?_
            intro i hi
            simp only [List.mem_cons, List.not_mem_nil, or_false] at hi
            subst hi
            refine a3 (xs := [.tmp 27]) rfl (by kernel_rfl) rfl (or2 o.fall s2) (by exact fun w hst => (reads_of_block (hst.has (s2, .cells (flatC [.int .i64 o.fall, .int .i64 1]).toArray 3) (by first | exact List.mem_append_right _ (List.mem_singleton.2 rfl) | exact List.mem_append_left _ (List.mem_append_right _ (List.mem_singleton.2 rfl)))) 2 0 _ rfl).1) ?_
            refine any_step [9] (by kernel_rfl) rfl (by kernel_rfl) ?_
            intro i hi
            simp only [List.mem_cons, List.not_mem_nil, or_false] at hi
            subst hi
            apply aso 0; exact size_of tabOk rfl; exact rfl; exact rfl; exact rfl; exact rfl; exact rfl; exact so_le rfl; exact so_one rfl
            apply any_first 10; exact rfl; exact rfl; exact rfl; exact rfl; kernel_rfl; apply p_fa; exact rfl; exact field_of tabOk rfl
            refine any_step [11] (by kernel_rfl) rfl (by kernel_rfl) ?_
            intro i hi
            simp only [List.mem_cons, List.not_mem_nil, or_false] at hi
            subst hi
            apply aso 0; exact size_of tabOk rfl; exact rfl; exact rfl; exact rfl; exact rfl; exact rfl; exact so_le rfl; exact so_one rfl
            refine any_end (by kernel_rfl) ?_
            exact hend [_, _] _ _ trivial ⟨rfl, rfl, trivial⟩ (List.Perm.of_eq (by simp only [List.append_assoc]; rfl))
          · skip
            apply ab tabOk; exact rfl; exact rfl; exact rfl; exact rfl; exact rfl; exact rfl; exact rfl; exact rfl; exact rfl; exact rfl; intro s2
            refine any_step [3] (by kernel_rfl) rfl (by kernel_rfl) ?_
            intro i hi
            simp only [List.mem_cons, List.not_mem_nil, or_false] at hi
            subst hi
            refine a3 (xs := [.tmp 23]) rfl (by kernel_rfl) rfl (or2 o.rise s1) (by exact fun w hst => (reads_of_block (hst.has (s1, .cells (flatC [.int .i64 o.rise, .int .i64 1]).toArray 3) (by first | exact List.mem_append_right _ (List.mem_singleton.2 rfl) | exact List.mem_append_left _ (List.mem_append_right _ (List.mem_singleton.2 rfl)))) 2 0 _ rfl).1) ?_
            apply any_first 8; exact rfl; exact rfl; exact rfl; exact rfl; kernel_rfl; apply p_fa; exact rfl; exact field_of tabOk rfl
            refine any_step [7] (by kernel_rfl) rfl (by kernel_rfl) ?_
            intro i hi
            simp only [List.mem_cons, List.not_mem_nil, or_false] at hi
            subst hi
            refine a3 (xs := [.tmp 27]) rfl (by kernel_rfl) rfl (or2 o.fall s2) (by exact fun w hst => (reads_of_block (hst.has (s2, .cells (flatC [.int .i64 o.fall, .int .i64 1]).toArray 3) (by first | exact List.mem_append_right _ (List.mem_singleton.2 rfl) | exact List.mem_append_left _ (List.mem_append_right _ (List.mem_singleton.2 rfl)))) 2 0 _ rfl).1) ?_
            refine any_step [9] (by kernel_rfl) rfl (by kernel_rfl) ?_
            intro i hi
            simp only [List.mem_cons, List.not_mem_nil, or_false] at hi
            subst hi
            apply aso 0; exact size_of tabOk rfl; exact rfl; exact rfl; exact rfl; exact rfl; exact rfl; exact so_le rfl; exact so_one rfl
            apply any_first 10; exact rfl; exact rfl; exact rfl; exact rfl; kernel_rfl; apply p_fa; exact rfl; exact field_of tabOk rfl
            refine any_step [11] (by kernel_rfl) rfl (by kernel_rfl) ?_
            intro i hi
            simp only [List.mem_cons, List.not_mem_nil, or_false] at hi
            subst hi
            apply aso 0; exact size_of tabOk rfl; exact rfl; exact rfl; exact rfl; exact rfl; exact rfl; exact so_le rfl; exact so_one rfl
            refine any_end (by kernel_rfl) ?_
            exact hend [_, _] _ _ trivial ⟨rfl, rfl, trivial⟩ (List.Perm.of_eq (by simp only [List.append_assoc]; rfl))
        · skip
          apply ab tabOk; exact rfl; exact rfl; exact rfl; exact rfl; exact rfl; exact rfl; exact rfl; exact rfl; exact rfl; exact rfl; intro s2
          refine any_step [2] (by kernel_rfl) rfl (by kernel_rfl) ?_
          intro i hi
          simp only [List.mem_cons, List.not_mem_nil, or_false] at hi
          subst hi
          apply ab tabOk; exact rfl; exact rfl; exact rfl; exact rfl; exact rfl; exact rfl; exact rfl; exact rfl; exact rfl; exact rfl; intro s1
          refine any_step [3] (by kernel_rfl) rfl (by kernel_rfl) ?_
          intro i hi
          simp only [List.mem_cons, List.not_mem_nil, or_false] at hi
          subst hi
          refine a3 (xs := [.tmp 23]) rfl (by kernel_rfl) rfl (or2 o.rise s1) (by exact fun w hst => (reads_of_block (hst.has (s1, .cells (flatC [.int .i64 o.rise, .int .i64 1]).toArray 3) (by first | exact List.mem_append_right _ (List.mem_singleton.2 rfl) | exact List.mem_append_left _ (List.mem_append_right _ (List.mem_singleton.2 rfl)))) 2 0 _ rfl).1) ?_
          apply any_first 8; exact rfl; exact rfl; exact rfl; exact rfl; kernel_rfl; apply p_fa; exact rfl; exact field_of tabOk rfl
          refine any_step [7] (by kernel_rfl) rfl (by kernel_rfl) ?_
          intro i hi
          simp only [List.mem_cons, List.not_mem_nil, or_false] at hi
          subst hi
          refine a3 (xs := [.tmp 27]) rfl (by kernel_rfl) rfl (or2 o.fall s2) (by exact fun w hst => (reads_of_block (hst.has (s2, .cells (flatC [.int .i64 o.fall, .int .i64 1]).toArray 3) (by first | exact List.mem_append_right _ (List.mem_singleton.2 rfl) | exact List.mem_append_left _ (List.mem_append_right _ (List.mem_singleton.2 rfl)))) 2 0 _ rfl).1) ?_
          refine any_step [9] (by kernel_rfl) rfl (by kernel_rfl) ?_
          intro i hi
          simp only [List.mem_cons, List.not_mem_nil, or_false] at hi
          subst hi
          apply aso 0; exact size_of tabOk rfl; exact rfl; exact rfl; exact rfl; exact rfl; exact rfl; exact so_le rfl; exact so_one rfl
          apply any_first 10; exact rfl; exact rfl; exact rfl; exact rfl; kernel_rfl; apply p_fa; exact rfl; exact field_of tabOk rfl
          refine any_step [11] (by kernel_rfl) rfl (by kernel_rfl) ?_
          intro i hi
          simp only [List.mem_cons, List.not_mem_nil, or_false] at hi
          subst hi
          apply aso 0; exact size_of tabOk rfl; exact rfl; exact rfl; exact rfl; exact rfl; exact rfl; exact so_le rfl; exact so_one rfl
          refine any_end (by kernel_rfl) ?_
          exact hend [_, _] _ _ trivial ⟨rfl, rfl, trivial⟩ (List.Perm.of_eq (by simp only [List.append_assoc]; rfl))
      · skip
        apply ab tabOk; exact rfl; exact rfl; exact rfl; exact rfl; exact rfl; exact rfl; exact rfl; exact rfl; exact rfl; exact rfl; intro s2
        refine any_step [1] (by kernel_rfl) rfl (by kernel_rfl) ?_
        intro i hi
        simp only [List.mem_cons, List.not_mem_nil, or_false] at hi
        subst hi
        apply a2; exact rfl; first | (apply r_l1 0; exact shape_of tabOk rfl; exact rfl; exact rfl; exact rfl) | (apply r_ln 0; exact shape_of tabOk rfl; exact rfl; exact rfl; exact rfl)
        refine any_step [2] (by kernel_rfl) rfl (by kernel_rfl) ?_
        intro i hi
        simp only [List.mem_cons, List.not_mem_nil, or_false] at hi
        subst hi
        apply ab tabOk; exact rfl; exact rfl; exact rfl; exact rfl; exact rfl; exact rfl; exact rfl; exact rfl; exact rfl; exact rfl; intro s1
        refine any_step [3] (by kernel_rfl) rfl (by kernel_rfl) ?_
        intro i hi
        simp only [List.mem_cons, List.not_mem_nil, or_false] at hi
        subst hi
        refine a3 (xs := [.tmp 23]) rfl (by kernel_rfl) rfl (or2 o.rise s1) (by exact fun w hst => (reads_of_block (hst.has (s1, .cells (flatC [.int .i64 o.rise, .int .i64 1]).toArray 3) (by first | exact List.mem_append_right _ (List.mem_singleton.2 rfl) | exact List.mem_append_left _ (List.mem_append_right _ (List.mem_singleton.2 rfl)))) 2 0 _ rfl).1) ?_
        apply any_first 8; exact rfl; exact rfl; exact rfl; exact rfl; kernel_rfl; apply p_fa; exact rfl; exact field_of tabOk rfl
        refine any_step [7] (by kernel_rfl) rfl (by kernel_rfl) ?_
        intro i hi
        simp only [List.mem_cons, List.not_mem_nil, or_false] at hi
        subst hi
        refine a3 (xs := [.tmp 27]) rfl (by kernel_rfl) rfl (or2 o.fall s2) (by exact fun w hst => (reads_of_block (hst.has (s2, .cells (flatC [.int .i64 o.fall, .int .i64 1]).toArray 3) (by first | exact List.mem_append_right _ (List.mem_singleton.2 rfl) | exact List.mem_append_left _ (List.mem_append_right _ (List.mem_singleton.2 rfl)))) 2 0 _ rfl).1) ?_
        refine any_step [9] (by kernel_rfl) rfl (by kernel_rfl) ?_
        intro i hi
        simp only [List.mem_cons, List.not_mem_nil, or_false] at hi
        subst hi
        apply aso 0; exact size_of tabOk rfl; exact rfl; exact rfl; exact rfl; exact rfl; exact rfl; exact so_le rfl; exact so_one rfl
        apply any_first 10; exact rfl; exact rfl; exact rfl; exact rfl; kernel_rfl; apply p_fa; exact rfl; exact field_of tabOk rfl
        refine any_step [11] (by kernel_rfl) rfl (by kernel_rfl) ?_
        intro i hi
        simp only [List.mem_cons, List.not_mem_nil, or_false] at hi
        subst hi
        apply aso 0; exact size_of tabOk rfl; exact rfl; exact rfl; exact rfl; exact rfl; exact rfl; exact so_le rfl; exact so_one rfl
        refine any_end (by kernel_rfl) ?_
        exact hend [_, _] _ _ trivial ⟨rfl, rfl, trivial⟩ (List.Perm.of_eq (by simp only [List.append_assoc]; rfl))
  intro q _
  refine vwith (pt := .run _) _ _ [] tabOk lent_nil fun go => ?_
  apply go 300
  repeat' (first | apply And.intro | intro _)
  all_goals try (first | (show Here _ _ _ _; try (exfalso; omega)) | exact trivial | omega | kernel_rfl | exact rfl)
  all_goals try (exfalso; dsimp only at *; omega)
  refine vcc1 (bs := q1) tabOk (by exact rfl) (by exact rfl) (by exact rfl) (by exact rfl) (by exact rfl) (by exact ((List.sublist_append_left _ _).trans (List.sublist_append_left _ _)).trans (List.sublist_append_right _ _)) ?_
  rw [e]
  exact ⟨x1, d1, x2, d2, rfl, hd1, hd2, hr1, hr2⟩
theorem def2b (o : Oj) (a a' : Option Addr) (c c' : Nat) (h1 : o.labs.length ≤ 4398046511000) (h2 : o.sel.length ≤ 4398046511000) (h : o.kind = 2) (hs : ¬ (o.surge = 0 ∧ o.slack = 0)) : Con Tryz.prog 9 [(ov o a c a' c').val] [] (fun w => LabAt w a o.labs ∧ LabAt w a' o.sel) (OPost (defO o)) := by
  have e : defO o = { o with rise := or1 o.rise, fall := or1 o.fall } := by unfold defO; rw [if_pos h, if_neg hs]
  refine con_start1 Tryz.func9 rfl rfl rfl (fun w0 hw => ?_)
  refine vstart [(0, ov o a c a' c')] [] [] ?_
  refine vwith (pt := .run _) _ _ [] tabOk lent_nil fun go => ?_
  apply go 300
  repeat' (first | apply And.intro | intro _)
  all_goals try (first | (show Here _ _ _ _; try (exfalso; omega)) | exact trivial | omega | kernel_rfl | exact rfl)
  refine vcc rfl rfl (by kernel_rfl) (clone o a a' c c' h1 h2) (by exact fun _ h => ⟨hw.1.st h, hw.2.st h⟩) ?_
  rintro _ q1 ⟨x1, d1, x2, d2, rfl, hd1, hd2, hr1, hr2⟩
  refine ⟨ov o x1 d1 x2 d2, rfl, ?_⟩
  rename_i p1 p2
  apply go 300
  repeat' (first | apply And.intro | intro _)
  all_goals try (first | (show Here _ _ _ _; try (exfalso; omega)) | exact trivial | omega | kernel_rfl | exact rfl)
  all_goals
    refine vanyE [] (ι := Hs) (fun _ => [(1, .ptr true 0 p1 0 1 0 0), (2, .ptr true 1 p2 0 1 0 0)]) (fun _ => [⟨p1, 27, .var (ocs ({ o with rise := or1 o.rise, fall := or1 o.fall }) (labV o.labs x1 d1) (labV o.sel x2 d2)), []⟩, ⟨p2, 27, .var (cellsV (.raw ((zeroL tab 27).getD undef))), []⟩]) (fun q => (q1 ++ []) ++ q) (fun _ => True) (by kernel_rfl) rfl ?_ (fun hend => ?_)
    rotate_left
    · skip
      apply any_first 0; exact rfl; exact rfl; exact rfl; exact rfl; kernel_rfl; apply p_fa; exact rfl; exact field_of tabOk rfl
      apply any_first 4; exact rfl; exact rfl; exact rfl; exact rfl; kernel_rfl; apply p_fa; exact rfl; exact field_of tabOk rfl
      refine any_step [1, 5] (by kernel_rfl) rfl (by kernel_rfl) ?_
      intro i hi
      simp only [List.mem_cons, List.not_mem_nil, or_false] at hi
      rcases hi with rfl | rfl
      · skip
        apply a2; exact rfl; first | (apply r_l1 0; exact shape_of tabOk rfl; exact rfl; exact rfl; exact rfl) | (apply r_ln 0; exact shape_of tabOk rfl; exact rfl; exact rfl; exact rfl)
        refine any_step [2, 5] (by kernel_rfl) rfl (by kernel_rfl) ?_
        intro i hi
        simp only [List.mem_cons, List.not_mem_nil, or_false] at hi
        rcases hi with rfl | rfl
        · skip
          apply ab tabOk; exact rfl; exact rfl; exact rfl; exact rfl; exact rfl; exact rfl; exact rfl; exact rfl; exact rfl; exact rfl; intro s1
          refine any_step [3, 5] (by kernel_rfl) rfl (by kernel_rfl) ?_
          intro i hi
          simp only [List.mem_cons, List.not_mem_nil, or_false] at hi
          rcases hi with rfl | rfl
          · skip
            refine a3 (xs := [.tmp 23]) rfl (by kernel_rfl) rfl (or2 o.rise s1) (by exact fun w hst => (reads_of_block (hst.has (s1, .cells (flatC [.int .i64 o.rise, .int .i64 1]).toArray 3) (by first | exact List.mem_append_right _ (List.mem_singleton.2 rfl) | exact List.mem_append_left _ (List.mem_append_right _ (List.mem_singleton.2 rfl)))) 2 0 _ rfl).1) ?_
            refine any_step [5] (by kernel_rfl) rfl (by kernel_rfl) ?_
            intro i hi
            simp only [List.mem_cons, List.not_mem_nil, or_false] at hi
            subst hi
            apply a2; exact rfl; first | (apply r_l1 0; exact shape_of tabOk rfl; exact rfl; exact rfl; exact rfl) | (apply r_ln 0; exact shape_of tabOk rfl; exact rfl; exact rfl; exact rfl)
            apply any_first 8; exact rfl; exact rfl; exact rfl; exact rfl; kernel_rfl; apply p_fa; exact rfl; exact field_of tabOk rfl
            refine any_step [6] (by kernel_rfl) rfl (by kernel_rfl) ?_
            intro i hi
            simp only [List.mem_cons, List.not_mem_nil, or_false] at hi
            subst hi
            apply ab tabOk; exact rfl; exact rfl; exact rfl; exact rfl; exact rfl; exact rfl; exact rfl; exact rfl; exact rfl; exact rfl; intro s2
            refine any_step [7] (by kernel_rfl) rfl (by kernel_rfl) ?_
            intro i hi
            simp only [List.mem_cons, List.not_mem_nil, or_false] at hi
            subst hi
            refine a3 (xs := [.tmp 27]) rfl (by kernel_rfl) rfl (or2 o.fall s2) (by exact fun w hst => (reads_of_block (hst.has (s2, .cells (flatC [.int .i64 o.fall, .int .i64 1]).toArray 3) (by first | exact List.mem_append_right _ (List.mem_singleton.2 rfl) | exact List.mem_append_left _ (List.mem_append_right _ (List.mem_singleton.2 rfl)))) 2 0 _ rfl).1) ?_
            refine any_step [9] (by kernel_rfl) rfl (by kernel_rfl) ?_
            intro i hi
            simp only [List.mem_cons, List.not_mem_nil, or_false] at hi
            subst hi
            apply aso 0; exact size_of tabOk rfl; exact rfl; exact rfl; exact rfl; exact rfl; exact rfl; exact so_le rfl; exact so_one rfl
            apply any_first 10; exact rfl; exact rfl; exact rfl; exact rfl; kernel_rfl; apply p_fa; exact rfl; exact field_of tabOk rfl
            refine any_step [11] (by kernel_rfl) rfl (by kernel_rfl) ?_
            intro i hi
            simp only [List.mem_cons, List.not_mem_nil, or_false] at hi
            subst hi
            apply aso 0; exact size_of tabOk rfl; exact rfl; exact rfl; exact rfl; exact rfl; exact rfl; exact so_le rfl; exact so_one rfl
            refine any_end (by kernel_rfl) ?_
            exact hend [_, _] _ _ trivial ⟨rfl, rfl, trivial⟩ (List.Perm.of_eq (by simp only [List.append_assoc]; rfl))
          · skip
            apply a2; exact rfl; first | (apply r_l1 0; exact shape_of tabOk rfl; exact rfl; exact rfl; exact rfl) | (apply r_ln 0; exact shape_of tabOk rfl; exact rfl; exact rfl; exact rfl)
            refine any_step [3, 6] (by kernel_rfl) rfl (by kernel_rfl) ?_
            intro i hi
            simp only [List.mem_cons, List.not_mem_nil, or_false] at hi
            rcases hi with rfl | rfl
            · skip
              refine a3 (xs := [.tmp 23]) rfl (by kernel_rfl) rfl (or2 o.rise s1) (by exact fun w hst => (reads_of_block (hst.has (s1, .cells (flatC [.int .i64 o.rise, .int .i64 1]).toArray 3) (by first | exact List.mem_append_right _ (List.mem_singleton.2 rfl) | exact List.mem_append_left _ (List.mem_append_right _ (List.mem_singleton.2 rfl)))) 2 0 _ rfl).1) ?_
              apply any_first 8; exact rfl; exact rfl; exact rfl; exact rfl; kernel_rfl; apply p_fa; exact rfl; exact field_of tabOk rfl
              refine any_step [6] (by kernel_rfl) rfl (by kernel_rfl) ?_
              intro i hi
              simp only [List.mem_cons, List.not_mem_nil, or_false] at hi
              subst hi
              apply ab tabOk; exact rfl; exact rfl; exact rfl; exact rfl; exact rfl; exact rfl; exact rfl; exact rfl; exact rfl; exact rfl; intro s2
              refine any_step [7] (by kernel_rfl) rfl (by kernel_rfl) ?_
              intro i hi
              simp only [List.mem_cons, List.not_mem_nil, or_false] at hi
              subst hi
              refine a3 (xs := [.tmp 27]) rfl (by kernel_rfl) rfl (or2 o.fall s2) (by exact fun w hst => (reads_of_block (hst.has (s2, .cells (flatC [.int .i64 o.fall, .int .i64 1]).toArray 3) (by first | exact List.mem_append_right _ (List.mem_singleton.2 rfl) | exact List.mem_append_left _ (List.mem_append_right _ (List.mem_singleton.2 rfl)))) 2 0 _ rfl).1) ?_
              refine any_step [9] (by kernel_rfl) rfl (by kernel_rfl) ?_
              intro i hi
              simp only [List.mem_cons, List.not_mem_nil, or_false] at hi
              subst hi
              apply aso 0; exact size_of tabOk rfl; exact rfl; exact rfl; exact rfl; exact rfl; exact rfl; exact so_le rfl; exact so_one rfl
              apply any_first 10; exact rfl; exact rfl; exact rfl; exact rfl; kernel_rfl; apply p_fa; exact rfl; exact field_of tabOk rfl
              refine any_step [11] (by kernel_rfl) rfl (by kernel_rfl) ?_
              intro i hi
              simp only [List.mem_cons, List.not_mem_nil, or_false] at hi
              subst hi
              apply aso 0; exact size_of tabOk rfl; exact rfl; exact rfl; exact rfl; exact rfl; exact rfl; exact so_le rfl; exact so_one rfl
              refine any_end (by kernel_rfl) ?_
              exact hend [_, _] _ _ trivial ⟨rfl, rfl, trivial⟩ (List.Perm.of_eq (by simp only [List.append_assoc]; rfl))
            · skip
              apply ab tabOk; exact rfl; exact rfl; exact rfl; exact rfl; exact rfl; exact rfl; exact rfl; exact rfl; exact rfl; exact rfl; intro s2
              refine any_step [3] (by kernel_rfl) rfl (by kernel_rfl) ?_
              intro i hi
              simp only [List.mem_cons, List.not_mem_nil, or_false] at hi
              subst hi
              refine a3 (xs := [.tmp 23]) rfl (by kernel_rfl) rfl (or2 o.rise s1) (by exact fun w hst => (reads_of_block (hst.has (s1, .cells (flatC [.int .i64 o.rise, .int .i64 1]).toArray 3) (by first | exact List.mem_append_right _ (List.mem_singleton.2 rfl) | exact List.mem_append_left _ (List.mem_append_right _ (List.mem_singleton.2 rfl)))) 2 0 _ rfl).1) ?_
              apply any_first 8; exact rfl; exact rfl; exact rfl; exact rfl; kernel_rfl; apply p_fa; exact rfl; exact field_of tabOk rfl
              refine any_step [7] (by kernel_rfl) rfl (by kernel_rfl) ?_
              intro i hi
              simp only [List.mem_cons, List.not_mem_nil, or_false] at hi
              subst hi
              refine a3 (xs := [.tmp 27]) rfl (by kernel_rfl) rfl (or2 o.fall s2) (by exact fun w hst => (reads_of_block (hst.has (s2, .cells (flatC [.int .i64 o.fall, .int .i64 1]).toArray 3) (by first | exact List.mem_append_right _ (List.mem_singleton.2 rfl) | exact List.mem_append_left _ (List.mem_append_right _ (List.mem_singleton.2 rfl)))) 2 0 _ rfl).1) ?_
              refine any_step [9] (by kernel_rfl) rfl (by kernel_rfl) ?_
              intro i hi
              simp only [List.mem_cons, List.not_mem_nil, or_false] at hi
              subst hi
              apply aso 0; exact size_of tabOk rfl; exact rfl; exact rfl; exact rfl; exact rfl; exact rfl; exact so_le rfl; exact so_one rfl
              apply any_first 10; exact rfl; exact rfl; exact rfl; exact rfl; kernel_rfl; apply p_fa; exact rfl; exact field_of tabOk rfl
              refine any_step [11] (by kernel_rfl) rfl (by kernel_rfl) ?_
              intro i hi
              simp only [List.mem_cons, List.not_mem_nil, or_false] at hi
              subst hi
              apply aso 0; exact size_of tabOk rfl; exact rfl; exact rfl; exact rfl; exact rfl; exact rfl; exact so_le rfl; exact so_one rfl
              refine any_end (by kernel_rfl) ?_
              exact hend [_, _] _ _ trivial ⟨rfl, rfl, trivial⟩ (List.Perm.of_eq (by simp only [List.append_assoc]; rfl))
        · skip
          apply a2; exact rfl; first | (apply r_l1 0; exact shape_of tabOk rfl; exact rfl; exact rfl; exact rfl) | (apply r_ln 0; exact shape_of tabOk rfl; exact rfl; exact rfl; exact rfl)
          refine any_step [2, 6] (by kernel_rfl) rfl (by kernel_rfl) ?_
          intro i hi
          simp only [List.mem_cons, List.not_mem_nil, or_false] at hi
          rcases hi with rfl | rfl
          · skip
            apply ab tabOk; exact rfl; exact rfl; exact rfl; exact rfl; exact rfl; exact rfl; exact rfl; exact rfl; exact rfl; exact rfl; intro s1
            refine any_step [3, 6] (by kernel_rfl) rfl (by kernel_rfl) ?_
            intro i hi
            simp only [List.mem_cons, List.not_mem_nil, or_false] at hi
            rcases hi with rfl | rfl
            · skip
              refine a3 (xs := [.tmp 23]) rfl (by kernel_rfl) rfl (or2 o.rise s1) (by exact fun w hst => (reads_of_block (hst.has (s1, .cells (flatC [.int .i64 o.rise, .int .i64 1]).toArray 3) (by first | exact List.mem_append_right _ (List.mem_singleton.2 rfl) | exact List.mem_append_left _ (List.mem_append_right _ (List.mem_singleton.2 rfl)))) 2 0 _ rfl).1) ?_
              apply any_first 8; exact rfl; exact rfl; exact rfl; exact rfl; kernel_rfl; apply p_fa; exact rfl; exact field_of tabOk rfl
              refine any_step [6] (by kernel_rfl) rfl (by kernel_rfl) ?_
              intro i hi
              simp only [List.mem_cons, List.not_mem_nil, or_false] at hi
              subst hi
              apply ab tabOk; exact rfl; exact rfl; exact rfl; exact rfl; exact rfl; exact rfl; exact rfl; exact rfl; exact rfl; exact rfl; intro s2
              refine any_step [7] (by kernel_rfl) rfl (by kernel_rfl) ?_
              intro i hi
              simp only [List.mem_cons, List.not_mem_nil, or_false] at hi
              subst hi
              refine a3 (xs := [.tmp 27]) rfl (by kernel_rfl) rfl (or2 o.fall s2) (by exact fun w hst => (reads_of_block (hst.has (s2, .cells (flatC [.int .i64 o.fall, .int .i64 1]).toArray 3) (by first | exact List.mem_append_right _ (List.mem_singleton.2 rfl) | exact List.mem_append_left _ (List.mem_append_right _ (List.mem_singleton.2 rfl)))) 2 0 _ rfl).1) ?_
              refine any_step [9] (by kernel_rfl) rfl (by kernel_rfl) ?_
              intro i hi
              simp only [List.mem_cons, List.not_mem_nil, or_false] at hi
              subst hi
              apply aso 0; exact size_of tabOk rfl; exact rfl; exact rfl; exact rfl; exact rfl; exact rfl; exact so_le rfl; exact so_one rfl
              apply any_first 10; exact rfl; exact rfl; exact rfl; exact rfl; kernel_rfl; apply p_fa; exact rfl; exact field_of tabOk rfl
              refine any_step [11] (by kernel_rfl) rfl (by kernel_rfl) ?_
              intro i hi
              simp only [List.mem_cons, List.not_mem_nil, or_false] at hi
              subst hi
              apply aso 0; exact size_of tabOk rfl; exact rfl; exact rfl; exact rfl; exact rfl; exact rfl; exact so_le rfl; exact so_one rfl
              refine any_end (by kernel_rfl) ?_
              exact hend [_, _] _ _ trivial ⟨rfl, rfl, trivial⟩ (List.Perm.of_eq (by simp only [List.append_assoc]; rfl))
            · skip
              apply ab tabOk; exact rfl; exact rfl; exact rfl; exact rfl; exact rfl; exact rfl; exact rfl; exact rfl; exact rfl; exact rfl; intro s2
              refine any_step [3] (by kernel_rfl) rfl (by kernel_rfl) ?_
              intro i hi
              simp only [List.mem_cons, List.not_mem_nil, or_false] at hi
              subst hi
              refine a3 (xs := [.tmp 23]) rfl (by kernel_rfl) rfl (or2 o.rise s1) (by exact fun w hst => (reads_of_block (hst.has (s1, .cells (flatC [.int .i64 o.rise, .int .i64 1]).toArray 3) (by first | exact List.mem_append_right _ (List.mem_singleton.2 rfl) | exact List.mem_append_left _ (List.mem_append_right _ (List.mem_singleton.2 rfl)))) 2 0 _ rfl).1) ?_
              apply any_first 8; exact rfl; exact rfl; exact rfl; exact rfl; kernel_rfl; apply p_fa; exact rfl; exact field_of tabOk rfl
              refine any_step [7] (by kernel_rfl) rfl (by kernel_rfl) ?_
              intro i hi
              simp only [List.mem_cons, List.not_mem_nil, or_false] at hi
              subst hi
              refine a3 (xs := [.tmp 27]) rfl (by kernel_rfl) rfl (or2 o.fall s2) (by exact fun w hst => (reads_of_block (hst.has (s2, .cells (flatC [.int .i64 o.fall, .int .i64 1]).toArray 3) (by first | exact List.mem_append_right _ (List.mem_singleton.2 rfl) | exact List.mem_append_left _ (List.mem_append_right _ (List.mem_singleton.2 rfl)))) 2 0 _ rfl).1) ?_
              refine any_step [9] (by kernel_rfl) rfl (by kernel_rfl) ?_
              intro i hi
              simp only [List.mem_cons, List.not_mem_nil, or_false] at hi
              subst hi
              apply aso 0; exact size_of tabOk rfl; exact rfl; exact rfl; exact rfl; exact rfl; exact rfl; exact so_le rfl; exact so_one rfl
              apply any_first 10; exact rfl; exact rfl; exact rfl; exact rfl; kernel_rfl; apply p_fa; exact rfl; exact field_of tabOk rfl
              refine any_step [11] (by kernel_rfl) rfl (by kernel_rfl) ?_
              intro i hi
              simp only [List.mem_cons, List.not_mem_nil, or_false] at hi
              subst hi
              apply aso 0; exact size_of tabOk rfl; exact rfl; exact rfl; exact rfl; exact rfl; exact rfl; exact so_le rfl; exact so_one rfl
              refine any_end (by kernel_rfl) ?_
              exact hend [_, _] _ _ trivial ⟨rfl, rfl, trivial⟩ (List.Perm.of_eq (by simp only [List.append_assoc]; rfl))
          · skip
            apply ab tabOk; exact rfl; exact rfl; exact rfl; exact rfl; exact rfl; exact rfl; exact rfl; exact rfl; exact rfl; exact rfl; intro s2
            refine any_step [2] (by kernel_rfl) rfl (by kernel_rfl) ?_
            intro i hi
            simp only [List.mem_cons, List.not_mem_nil, or_false] at hi
            subst hi
            apply ab tabOk; exact rfl; exact rfl; exact rfl; exact rfl; exact rfl; exact rfl; exact rfl; exact rfl; exact rfl; exact rfl; intro s1
            refine any_step [3] (by kernel_rfl) rfl (by kernel_rfl) ?_
            intro i hi
            simp only [List.mem_cons, List.not_mem_nil, or_false] at hi
            subst hi
            refine a3 (xs := [.tmp 23]) rfl (by kernel_rfl) rfl (or2 o.rise s1) (by exact fun w hst => (reads_of_block (hst.has (s1, .cells (flatC [.int .i64 o.rise, .int .i64 1]).toArray 3) (by first | exact List.mem_append_right _ (List.mem_singleton.2 rfl) | exact List.mem_append_left _ (List.mem_append_right _ (List.mem_singleton.2 rfl)))) 2 0 _ rfl).1) ?_
            apply any_first 8; exact rfl; exact rfl; exact rfl; exact rfl; kernel_rfl; apply p_fa; exact rfl; exact field_of tabOk rfl
            refine any_step [7] (by kernel_rfl) rfl (by kernel_rfl) ?_
            intro i hi
            simp only [List.mem_cons, List.not_mem_nil, or_false] at hi
            subst hi
            refine a3 (xs := [.tmp 27]) rfl (by kernel_rfl) rfl (or2 o.fall s2) (by exact fun w hst => (reads_of_block (hst.has (s2, .cells (flatC [.int .i64 o.fall, .int .i64 1]).toArray 3) (by first | exact List.mem_append_right _ (List.mem_singleton.2 rfl) | exact List.mem_append_left _ (List.mem_append_right _ (List.mem_singleton.2 rfl)))) 2 0 _ rfl).1) ?_
            refine any_step [9] (by kernel_rfl) rfl (by kernel_rfl) ?_
            intro i hi
            simp only [List.mem_cons, List.not_mem_nil, or_false] at hi
            subst hi
            apply aso 0; exact size_of tabOk rfl; exact rfl; exact rfl; exact rfl; exact rfl; exact rfl; exact so_le rfl; exact so_one rfl
            apply any_first 10; exact rfl; exact rfl; exact rfl; exact rfl; kernel_rfl; apply p_fa; exact rfl; exact field_of tabOk rfl
            refine any_step [11] (by kernel_rfl) rfl (by kernel_rfl) ?_
            intro i hi
            simp only [List.mem_cons, List.not_mem_nil, or_false] at hi
            subst hi
            apply aso 0; exact size_of tabOk rfl; exact rfl; exact rfl; exact rfl; exact rfl; exact rfl; exact so_le rfl; exact so_one rfl
            refine any_end (by kernel_rfl) ?_
            exact hend [_, _] _ _ trivial ⟨rfl, rfl, trivial⟩ (List.Perm.of_eq (by simp only [List.append_assoc]; rfl))
      · skip
        apply a2; exact rfl; first | (apply r_l1 0; exact shape_of tabOk rfl; exact rfl; exact rfl; exact rfl) | (apply r_ln 0; exact shape_of tabOk rfl; exact rfl; exact rfl; exact rfl)
        refine any_step [1, 6] (by kernel_rfl) rfl (by kernel_rfl) ?_
        intro i hi
        simp only [List.mem_cons, List.not_mem_nil, or_false] at hi
        rcases hi with rfl | rfl
        · skip
          apply a2; exact rfl; first | (apply r_l1 0; exact shape_of tabOk rfl; exact rfl; exact rfl; exact rfl) | (apply r_ln 0; exact shape_of tabOk rfl; exact rfl; exact rfl; exact rfl)
          refine any_step [2, 6] (by kernel_rfl) rfl (by kernel_rfl) ?_
          intro i hi
          simp only [List.mem_cons, List.not_mem_nil, or_false] at hi
          rcases hi with rfl | rfl
          · skip
            apply ab tabOk; exact rfl; exact rfl; exact rfl; exact rfl; exact rfl; exact rfl; exact rfl; exact rfl; exact rfl; exact rfl; intro s1
            refine any_step [3, 6] (by kernel_rfl) rfl (by kernel_rfl) ?_
            intro i hi
            simp only [List.mem_cons, List.not_mem_nil, or_false] at hi
            rcases hi with rfl | rfl
            · skip
              refine a3 (xs := [.tmp 23]) rfl (by kernel_rfl) rfl (or2 o.rise s1) (by exact fun w hst => (reads_of_block (hst.has (s1, .cells (flatC [.int .i64 o.rise, .int .i64 1]).toArray 3) (by first | exact List.mem_append_right _ (List.mem_singleton.2 rfl) | exact List.mem_append_left _ (List.mem_append_right _ (List.mem_singleton.2 rfl)))) 2 0 _ rfl).1) ?_
              apply any_first 8; exact rfl; exact rfl; exact rfl; exact rfl; kernel_rfl; apply p_fa; exact rfl; exact field_of tabOk rfl
              refine any_step [6] (by kernel_rfl) rfl (by kernel_rfl) ?_
              intro i hi
              simp only [List.mem_cons, List.not_mem_nil, or_false] at hi
              subst hi
              apply ab tabOk; exact rfl; exact rfl; exact rfl; exact rfl; exact rfl; exact rfl; exact rfl; exact rfl; exact rfl; exact rfl; intro s2
              refine any_step [7] (by kernel_rfl) rfl (by kernel_rfl) ?_
              intro i hi
              simp only [List.mem_cons, List.not_mem_nil, or_false] at hi
              subst hi
              refine a3 (xs := [.tmp 27]) rfl (by kernel_rfl) rfl (or2 o.fall s2) (by exact fun w hst => (reads_of_block (hst.has (s2, .cells (flatC [.int .i64 o.fall, .int .i64 1]).toArray 3) (by first | exact List.mem_append_right _ (List.mem_singleton.2 rfl) | exact List.mem_append_left _ (List.mem_append_right _ (List.mem_singleton.2 rfl)))) 2 0 _ rfl).1) ?_
              refine any_step [9] (by kernel_rfl) rfl (by kernel_rfl) ?_
              intro i hi
              simp only [List.mem_cons, List.not_mem_nil, or_false] at hi
              subst hi
              apply aso 0; exact size_of tabOk rfl; exact rfl; exact rfl; exact rfl; exact rfl; exact rfl; exact so_le rfl; exact so_one rfl
              apply any_first 10; exact rfl; exact rfl; exact rfl; exact rfl; kernel_rfl; apply p_fa; exact rfl; exact field_of tabOk rfl
              refine any_step [11] (by kernel_rfl) rfl (by kernel_rfl) ?_
              intro i hi
              simp only [List.mem_cons, List.not_mem_nil, or_false] at hi
              subst hi
              apply aso 0; exact size_of tabOk rfl; exact rfl; exact rfl; exact rfl; exact rfl; exact rfl; exact so_le rfl; exact so_one rfl
              refine any_end (by kernel_rfl) ?_
              exact hend [_, _] _ _ trivial ⟨rfl, rfl, trivial⟩ (List.Perm.of_eq (by simp only [List.append_assoc]; rfl))
            · skip
              apply ab tabOk; exact rfl; exact rfl; exact rfl; exact rfl; exact rfl; exact rfl; exact rfl; exact rfl; exact rfl; exact rfl; intro s2
              refine any_step [3] (by kernel_rfl) rfl (by kernel_rfl) ?_
              intro i hi
              simp only [List.mem_cons, List.not_mem_nil, or_false] at hi
              subst hi
              refine a3 (xs := [.tmp 23]) rfl (by kernel_rfl) rfl (or2 o.rise s1) (by exact fun w hst => (reads_of_block (hst.has (s1, .cells (flatC [.int .i64 o.rise, .int .i64 1]).toArray 3) (by first | exact List.mem_append_right _ (List.mem_singleton.2 rfl) | exact List.mem_append_left _ (List.mem_append_right _ (List.mem_singleton.2 rfl)))) 2 0 _ rfl).1) ?_
              apply any_first 8; exact rfl; exact rfl; exact rfl; exact rfl; kernel_rfl; apply p_fa; exact rfl; exact field_of tabOk rfl
              refine any_step [7] (by kernel_rfl) rfl (by kernel_rfl) ?_
              intro i hi
              simp only [List.mem_cons, List.not_mem_nil, or_false] at hi
              subst hi
              refine a3 (xs := [.tmp 27]) rfl (by kernel_rfl) rfl (or2 o.fall s2) (by exact fun w hst => (reads_of_block (hst.has (s2, .cells (flatC [.int .i64 o.fall, .int .i64 1]).toArray 3) (by first | exact List.mem_append_right _ (List.mem_singleton.2 rfl) | exact List.mem_append_left _ (List.mem_append_right _ (List.mem_singleton.2 rfl)))) 2 0 _ rfl).1) ?_
              refine any_step [9] (by kernel_rfl) rfl (by kernel_rfl) ?_
              intro i hi
              simp only [List.mem_cons, List.not_mem_nil, or_false] at hi
              subst hi
              apply aso 0; exact size_of tabOk rfl; exact rfl; exact rfl; exact rfl; exact rfl; exact rfl; exact so_le rfl; exact so_one rfl
              apply any_first 10; exact rfl; exact rfl; exact rfl; exact rfl; kernel_rfl; apply p_fa; exact rfl; exact field_of tabOk rfl
              refine any_step [11] (by kernel_rfl) rfl (by kernel_rfl) ?_
              intro i hi
              simp only [List.mem_cons, List.not_mem_nil, or_false] at hi
              subst hi
              apply aso 0; exact size_of tabOk rfl; exact rfl; exact rfl; exact rfl; exact rfl; exact rfl; exact so_le rfl; exact so_one rfl
              refine any_end (by kernel_rfl) ?_
              exact hend [_, _] _ _ trivial ⟨rfl, rfl, trivial⟩ (List.Perm.of_eq (by simp only [List.append_assoc]; rfl))
          · skip
            apply ab tabOk; exact rfl; exact rfl; exact rfl; exact rfl; exact rfl; exact rfl; exact rfl; exact rfl; exact rfl; exact rfl; intro s2
            refine any_step [2] (by kernel_rfl) rfl (by kernel_rfl) ?_
            intro i hi
            simp only [List.mem_cons, List.not_mem_nil, or_false] at hi
            subst hi
            apply ab tabOk; exact rfl; exact rfl; exact rfl; exact rfl; exact rfl; exact rfl; exact rfl; exact rfl; exact rfl; exact rfl; intro s1
            refine any_step [3] (by kernel_rfl) rfl (by kernel_rfl) ?_
            intro i hi
            simp only [List.mem_cons, List.not_mem_nil, or_false] at hi
            subst hi
            refine a3 (xs := [.tmp 23]) rfl (by kernel_rfl) rfl (or2 o.rise s1) (by exact fun w hst => (reads_of_block (hst.has (s1, .cells (flatC [.int .i64 o.rise, .int .i64 1]).toArray 3) (by first | exact List.mem_append_right _ (List.mem_singleton.2 rfl) | exact List.mem_append_left _ (List.mem_append_right _ (List.mem_singleton.2 rfl)))) 2 0 _ rfl).1) ?_
            apply any_first 8; exact rfl; exact rfl; exact rfl; exact rfl; kernel_rfl; apply p_fa; exact rfl; exact field_of tabOk rfl
            refine any_step [7] (by kernel_rfl) rfl (by kernel_rfl) ?_
            intro i hi
            simp only [List.mem_cons, List.not_mem_nil, or_false] at hi
            subst hi
            refine a3 (xs := [.tmp 27]) rfl (by kernel_rfl) rfl (or2 o.fall s2) (by exact fun w hst => (reads_of_block (hst.has (s2, .cells (flatC [.int .i64 o.fall, .int .i64 1]).toArray 3) (by first | exact List.mem_append_right _ (List.mem_singleton.2 rfl) | exact List.mem_append_left _ (List.mem_append_right _ (List.mem_singleton.2 rfl)))) 2 0 _ rfl).1) ?_
            refine any_step [9] (by kernel_rfl) rfl (by kernel_rfl) ?_
            intro i hi
            simp only [List.mem_cons, List.not_mem_nil, or_false] at hi
            subst hi
            apply aso 0; exact size_of tabOk rfl; exact rfl; exact rfl; exact rfl; exact rfl; exact rfl; exact so_le rfl; exact so_one rfl
            apply any_first 10; exact rfl; exact rfl; exact rfl; exact rfl; kernel_rfl; apply p_fa; exact rfl; exact field_of tabOk rfl
            refine any_step [11] (by kernel_rfl) rfl (by kernel_rfl) ?_
            intro i hi
            simp only [List.mem_cons, List.not_mem_nil, or_false] at hi
            subst hi
            apply aso 0; exact size_of tabOk rfl; exact rfl; exact rfl; exact rfl; exact rfl; exact rfl; exact so_le rfl; exact so_one rfl
            refine any_end (by kernel_rfl) ?_
            exact hend [_, _] _ _ trivial ⟨rfl, rfl, trivial⟩ (List.Perm.of_eq (by simp only [List.append_assoc]; rfl))
        · skip
          apply ab tabOk; exact rfl; exact rfl; exact rfl; exact rfl; exact rfl; exact rfl; exact rfl; exact rfl; exact rfl; exact rfl; intro s2
          refine any_step [1] (by kernel_rfl) rfl (by kernel_rfl) ?_
          intro i hi
          simp only [List.mem_cons, List.not_mem_nil, or_false] at hi
          subst hi
          apply a2; exact rfl; first | (apply r_l1 0; exact shape_of tabOk rfl; exact rfl; exact rfl; exact rfl) | (apply r_ln 0; exact shape_of tabOk rfl; exact rfl; exact rfl; exact rfl)
          refine any_step [2] (by kernel_rfl) rfl (by kernel_rfl) ?_
          intro i hi
          simp only [List.mem_cons, List.not_mem_nil, or_false] at hi
          subst hi
          apply ab tabOk; exact rfl; exact rfl; exact rfl; exact rfl; exact rfl; exact rfl; exact rfl; exact rfl; exact rfl; exact rfl; intro s1
          refine any_step [3] (by kernel_rfl) rfl (by kernel_rfl) ?_
          intro i hi
          simp only [List.mem_cons, List.not_mem_nil, or_false] at hi
          subst hi
          refine a3 (xs := [.tmp 23]) rfl (by kernel_rfl) rfl (or2 o.rise s1) (by exact fun w hst => (reads_of_block (hst.has (s1, .cells (flatC [.int .i64 o.rise, .int .i64 1]).toArray 3) (by first | exact List.mem_append_right _ (List.mem_singleton.2 rfl) | exact List.mem_append_left _ (List.mem_append_right _ (List.mem_singleton.2 rfl)))) 2 0 _ rfl).1) ?_
          apply any_first 8; exact rfl; exact rfl; exact rfl; exact rfl; kernel_rfl; apply p_fa; exact rfl; exact field_of tabOk rfl
          refine any_step [7] (by kernel_rfl) rfl (by kernel_rfl) ?_
          intro i hi
          simp only [List.mem_cons, List.not_mem_nil, or_false] at hi
          subst hi
          refine a3 (xs := [.tmp 27]) rfl (by kernel_rfl) rfl (or2 o.fall s2) (by exact fun w hst => (reads_of_block (hst.has (s2, .cells (flatC [.int .i64 o.fall, .int .i64 1]).toArray 3) (by first | exact List.mem_append_right _ (List.mem_singleton.2 rfl) | exact List.mem_append_left _ (List.mem_append_right _ (List.mem_singleton.2 rfl)))) 2 0 _ rfl).1) ?_
          refine any_step [9] (by kernel_rfl) rfl (by kernel_rfl) ?_
          intro i hi
          simp only [List.mem_cons, List.not_mem_nil, or_false] at hi
          subst hi
          apply aso 0; exact size_of tabOk rfl; exact rfl; exact rfl; exact rfl; exact rfl; exact rfl; exact so_le rfl; exact so_one rfl
          apply any_first 10; exact rfl; exact rfl; exact rfl; exact rfl; kernel_rfl; apply p_fa; exact rfl; exact field_of tabOk rfl
          refine any_step [11] (by kernel_rfl) rfl (by kernel_rfl) ?_
          intro i hi
          simp only [List.mem_cons, List.not_mem_nil, or_false] at hi
          subst hi
          apply aso 0; exact size_of tabOk rfl; exact rfl; exact rfl; exact rfl; exact rfl; exact rfl; exact so_le rfl; exact so_one rfl
          refine any_end (by kernel_rfl) ?_
          exact hend [_, _] _ _ trivial ⟨rfl, rfl, trivial⟩ (List.Perm.of_eq (by simp only [List.append_assoc]; rfl))
    intro q _
    refine vwith (pt := .run _) _ _ [] tabOk lent_nil fun go => ?_
    apply go 300
    repeat' (first | apply And.intro | intro _)
    all_goals try (first | (show Here _ _ _ _; try (exfalso; omega)) | exact trivial | omega | kernel_rfl | exact rfl)
    all_goals try (exfalso; dsimp only at *; omega)
    refine vcc1 (bs := q1) tabOk (by exact rfl) (by exact rfl) (by exact rfl) (by exact rfl) (by exact rfl) (by exact ((List.sublist_append_left _ _).trans (List.sublist_append_left _ _)).trans (List.sublist_append_right _ _)) ?_
    rw [e]
    exact ⟨x1, d1, x2, d2, rfl, hd1, hd2, hr1, hr2⟩
theorem def3 (o : Oj) (a a' : Option Addr) (c c' : Nat) (h1 : o.labs.length ≤ 4398046511000) (h2 : o.sel.length ≤ 4398046511000) (h : o.kind = 3) (hsz : Sz o) : Con Tryz.prog 9 [(ov o a c a' c').val] [] (fun w => LabAt w a o.labs ∧ LabAt w a' o.sel) (OPost (defO o)) := by
  have e : defO o = { o with rise := or1 o.rise, fall := or1 o.fall, hash := if o.hash = 0 then templH { o with rise := or1 o.rise, fall := or1 o.fall } else o.hash } := by unfold defO; rw [if_neg (by omega), if_neg (by omega), if_pos h]
  refine con_start1 Tryz.func9 rfl rfl rfl (fun w0 hw => ?_)
  refine vstart [(0, ov o a c a' c')] [] [] ?_
  refine vwith (pt := .run _) _ _ [] tabOk lent_nil fun go => ?_
  apply go 300
  repeat' (first | apply And.intro | intro _)
  all_goals try (first | (show Here _ _ _ _; try (exfalso; omega)) | exact trivial | omega | kernel_rfl | exact rfl)
  refine vcc rfl rfl (by kernel_rfl) (clone o a a' c c' h1 h2) (by exact fun _ h => ⟨hw.1.st h, hw.2.st h⟩) ?_
  rintro _ q1 ⟨x1, d1, x2, d2, rfl, hd1, hd2, hr1, hr2⟩
  refine ⟨ov o x1 d1 x2 d2, rfl, ?_⟩
  rename_i p1 p2
  apply go 300
  repeat' (first | apply And.intro | intro _)
  all_goals try (first | (show Here _ _ _ _; try (exfalso; omega)) | exact trivial | omega | kernel_rfl | exact rfl)
  refine vanyE [] (ι := Hs) (fun _ => [(1, .ptr true 0 p1 0 1 0 0), (2, .ptr true 1 p2 0 1 0 0)]) (fun _ => [⟨p1, 27, .var (ocs ({ o with rise := or1 o.rise, fall := or1 o.fall }) (labV o.labs x1 d1) (labV o.sel x2 d2)), []⟩, ⟨p2, 27, .var (cellsV (.raw ((zeroL tab 27).getD undef))), []⟩]) (fun q => (q1 ++ []) ++ q) (fun _ => True) (by kernel_rfl) rfl ?_ (fun hend => ?_)
  rotate_left
  · skip
    apply any_first 0; exact rfl; exact rfl; exact rfl; exact rfl; kernel_rfl; apply p_fa; exact rfl; exact field_of tabOk rfl
    apply any_first 4; exact rfl; exact rfl; exact rfl; exact rfl; kernel_rfl; apply p_fa; exact rfl; exact field_of tabOk rfl
    refine any_step [1, 5] (by kernel_rfl) rfl (by kernel_rfl) ?_
    intro i hi
    simp only [List.mem_cons, List.not_mem_nil, or_false] at hi
    rcases hi with rfl | rfl
    · skip
      apply a2; exact rfl; first | (apply r_l1 0; exact shape_of tabOk rfl; exact rfl; exact rfl; exact rfl) | (apply r_ln 0; exact shape_of tabOk rfl; exact rfl; exact rfl; exact rfl)
      refine any_step [2, 5] (by kernel_rfl) rfl (by kernel_rfl) ?_
      intro i hi
      simp only [List.mem_cons, List.not_mem_nil, or_false] at hi
      rcases hi with rfl | rfl
      · skip
        apply ab tabOk; exact rfl; exact rfl; exact rfl; exact rfl; exact rfl; exact rfl; exact rfl; exact rfl; exact rfl; exact rfl; intro s1
        refine any_step [3, 5] (by kernel_rfl) rfl (by kernel_rfl) ?_
        intro i hi
        simp only [List.mem_cons, List.not_mem_nil, or_false] at hi
        rcases hi with rfl | rfl
        · skip
          refine a3 (xs := [.tmp 23]) rfl (by kernel_rfl) rfl (or2 o.rise s1) (by exact fun w hst => (reads_of_block (hst.has (s1, .cells (flatC [.int .i64 o.rise, .int .i64 1]).toArray 3) (by first | exact List.mem_append_right _ (List.mem_singleton.2 rfl) | exact List.mem_append_left _ (List.mem_append_right _ (List.mem_singleton.2 rfl)))) 2 0 _ rfl).1) ?_
          refine any_step [5] (by kernel_rfl) rfl (by kernel_rfl) ?_
          intro i hi
          simp only [List.mem_cons, List.not_mem_nil, or_false] at hi
          subst hi
          apply a2; exact rfl; first | (apply r_l1 0; exact shape_of tabOk rfl; exact rfl; exact rfl; exact rfl) | (apply r_ln 0; exact shape_of tabOk rfl; exact rfl; exact rfl; exact rfl)
          apply any_first 8; exact rfl; exact rfl; exact rfl; exact rfl; kernel_rfl; apply p_fa; exact rfl; exact field_of tabOk rfl
          refine any_step [6] (by kernel_rfl) rfl (by kernel_rfl) ?_
          intro i hi
          simp only [List.mem_cons, List.not_mem_nil, or_false] at hi
          subst hi
          apply ab tabOk; exact rfl; exact rfl; exact rfl; exact rfl; exact rfl; exact rfl; exact rfl; exact rfl; exact rfl; exact rfl; intro s2
          refine any_step [7] (by kernel_rfl) rfl (by kernel_rfl) ?_
          intro i hi
          simp only [List.mem_cons, List.not_mem_nil, or_false] at hi
          subst hi
          refine a3 (xs := [.tmp 27]) rfl (by kernel_rfl) rfl (or2 o.fall s2) (by exact fun w hst => (reads_of_block (hst.has (s2, .cells (flatC [.int .i64 o.fall, .int .i64 1]).toArray 3) (by first | exact List.mem_append_right _ (List.mem_singleton.2 rfl) | exact List.mem_append_left _ (List.mem_append_right _ (List.mem_singleton.2 rfl)))) 2 0 _ rfl).1) ?_
          refine any_step [9] (by kernel_rfl) rfl (by kernel_rfl) ?_
          intro i hi
          simp only [List.mem_cons, List.not_mem_nil, or_false] at hi
          subst hi
          apply aso 0; exact size_of tabOk rfl; exact rfl; exact rfl; exact rfl; exact rfl; exact rfl; exact so_le rfl; exact so_one rfl
          apply any_first 10; exact rfl; exact rfl; exact rfl; exact rfl; kernel_rfl; apply p_fa; exact rfl; exact field_of tabOk rfl
          refine any_step [11] (by kernel_rfl) rfl (by kernel_rfl) ?_
          intro i hi
          simp only [List.mem_cons, List.not_mem_nil, or_false] at hi
          subst hi
          apply aso 0; exact size_of tabOk rfl; exact rfl; exact rfl; exact rfl; exact rfl; exact rfl; exact so_le rfl; exact so_one rfl
          refine any_end (by kernel_rfl) ?_
          exact hend [_, _] _ _ trivial ⟨rfl, rfl, trivial⟩ (List.Perm.of_eq (by simp only [List.append_assoc]; rfl))
        · skip
          apply a2; exact rfl; first | (apply r_l1 0; exact shape_of tabOk rfl; exact rfl; exact rfl; exact rfl) | (apply r_ln 0; exact shape_of tabOk rfl; exact rfl; exact rfl; exact rfl)
          refine any_step [3, 6] (by kernel_rfl) rfl (by kernel_rfl) ?_
          intro i hi
          simp only [List.mem_cons, List.not_mem_nil, or_false] at hi
          rcases hi with rfl | rfl
          · skip
            refine a3 (xs := [.tmp 23]) rfl (by kernel_rfl) rfl (or2 o.rise s1) (by exact fun w hst => (reads_of_block (hst.has (s1, .cells (flatC [.int .i64 o.rise, .int .i64 1]).toArray 3) (by first | exact List.mem_append_right _ (List.mem_singleton.2 rfl) | exact List.mem_append_left _ (List.mem_append_right _ (List.mem_singleton.2 rfl)))) 2 0 _ rfl).1) ?_
            apply any_first 8; exact rfl; exact rfl; exact rfl; exact rfl; kernel_rfl; apply p_fa; exact rfl; exact field_of tabOk rfl
            refine any_step [6] (by kernel_rfl) rfl (by kernel_rfl) ?_
            intro i hi
            simp only [List.mem_cons, List.not_mem_nil, or_false] at hi
            subst hi
            apply ab tabOk; exact rfl; exact rfl; exact rfl; exact rfl; exact rfl; exact rfl; exact rfl; exact rfl; exact rfl; exact rfl; intro s2
            refine any_step [7] (by kernel_rfl) rfl (by kernel_rfl) ?_
            intro i hi
            simp only [List.mem_cons, List.not_mem_nil, or_false] at hi
            subst hi
            refine a3 (xs := [.tmp 27]) rfl (by kernel_rfl) rfl (or2 o.fall s2) (by exact fun w hst => (reads_of_block (hst.has (s2, .cells (flatC [.int .i64 o.fall, .int .i64 1]).toArray 3) (by first | exact List.mem_append_right _ (List.mem_singleton.2 rfl) | exact List.mem_append_left _ (List.mem_append_right _ (List.mem_singleton.2 rfl)))) 2 0 _ rfl).1) ?_
            refine any_step [9] (by kernel_rfl) rfl (by kernel_rfl) ?_
            intro i hi
            simp only [List.mem_cons, List.not_mem_nil, or_false] at hi
            subst hi
            apply aso 0; exact size_of tabOk rfl; exact rfl; exact rfl; exact rfl; exact rfl; exact rfl; exact so_le rfl; exact so_one rfl
            apply any_first 10; exact rfl; exact rfl; exact rfl; exact rfl; kernel_rfl; apply p_fa; exact rfl; exact field_of tabOk rfl
            refine any_step [11] (by kernel_rfl) rfl (by kernel_rfl) ?_
            intro i hi
            simp only [List.mem_cons, List.not_mem_nil, or_false] at hi
            subst hi
            apply aso 0; exact size_of tabOk rfl; exact rfl; exact rfl; exact rfl; exact rfl; exact rfl; exact so_le rfl; exact so_one rfl
            refine any_end (by kernel_rfl) ?_
            exact hend [_, _] _ _ trivial ⟨rfl, rfl, trivial⟩ (List.Perm.of_eq (by simp only [List.append_assoc]; rfl))
          · skip
            apply ab tabOk; exact rfl; exact rfl; exact rfl; exact rfl; exact rfl; exact rfl; exact rfl; exact rfl; exact rfl; exact rfl; intro s2
            refine any_step [3] (by kernel_rfl) rfl (by kernel_rfl) ?_
            intro i hi
            simp only [List.mem_cons, List.not_mem_nil, or_false] at hi
            subst hi
            refine a3 (xs := [.tmp 23]) rfl (by kernel_rfl) rfl (or2 o.rise s1) (by exact fun w hst => (reads_of_block (hst.has (s1, .cells (flatC [.int .i64 o.rise, .int .i64 1]).toArray 3) (by first | exact List.mem_append_right _ (List.mem_singleton.2 rfl) | exact List.mem_append_left _ (List.mem_append_right _ (List.mem_singleton.2 rfl)))) 2 0 _ rfl).1) ?_
            apply any_first 8; exact rfl; exact rfl; exact rfl; exact rfl; kernel_rfl; apply p_fa; exact rfl; exact field_of tabOk rfl
            refine any_step [7] (by kernel_rfl) rfl (by kernel_rfl) ?_
            intro i hi
            simp only [List.mem_cons, List.not_mem_nil, or_false] at hi
            subst hi
            refine a3 (xs := [.tmp 27]) rfl (by kernel_rfl) rfl (or2 o.fall s2) (by exact fun w hst => (reads_of_block (hst.has (s2, .cells (flatC [.int .i64 o.fall, .int .i64 1]).toArray 3) (by first | exact List.mem_append_right _ (List.mem_singleton.2 rfl) | exact List.mem_append_left _ (List.mem_append_right _ (List.mem_singleton.2 rfl)))) 2 0 _ rfl).1) ?_
            refine any_step [9] (by kernel_rfl) rfl (by kernel_rfl) ?_
            intro i hi
            simp only [List.mem_cons, List.not_mem_nil, or_false] at hi
            subst hi
            apply aso 0; exact size_of tabOk rfl; exact rfl; exact rfl; exact rfl; exact rfl; exact rfl; exact so_le rfl; exact so_one rfl
            apply any_first 10; exact rfl; exact rfl; exact rfl; exact rfl; kernel_rfl; apply p_fa; exact rfl; exact field_of tabOk rfl
            refine any_step [11] (by kernel_rfl) rfl (by kernel_rfl) ?_
            intro i hi
            simp only [List.mem_cons, List.not_mem_nil, or_false] at hi
            subst hi
            apply aso 0; exact size_of tabOk rfl; exact rfl; exact rfl; exact rfl; exact rfl; exact rfl; exact so_le rfl; exact so_one rfl
            refine any_end (by kernel_rfl) ?_
            exact hend [_, _] _ _ trivial ⟨rfl, rfl, trivial⟩ (List.Perm.of_eq (by simp only [List.append_assoc]; rfl))
      · skip
        apply a2; exact rfl; first | (apply r_l1 0; exact shape_of tabOk rfl; exact rfl; exact rfl; exact rfl) | (apply r_ln 0; exact shape_of tabOk rfl; exact rfl; exact rfl; exact rfl)
        refine any_step [2, 6] (by kernel_rfl) rfl (by kernel_rfl) ?_
        intro i hi
        simp only [List.mem_cons, List.not_mem_nil, or_false] at hi
        rcases hi with rfl | rfl
        · skip
          apply ab tabOk; exact rfl; exact rfl; exact rfl; exact rfl; exact rfl; exact rfl; exact rfl; exact rfl; exact rfl; exact rfl; intro s1
          refine any_step [3, 6] (by kernel_rfl) rfl (by kernel_rfl) ?_
          intro i hi
          simp only [List.mem_cons, List.not_mem_nil, or_false] at hi
          rcases hi with rfl | rfl
          · skip
            refine a3 (xs := [.tmp 23]) rfl (by kernel_rfl) rfl (or2 o.rise s1) (by exact fun w hst => (reads_of_block (hst.has (s1, .cells (flatC [.int .i64 o.rise, .int .i64 1]).toArray 3) (by first | exact List.mem_append_right _ (List.mem_singleton.2 rfl) | exact List.mem_append_left _ (List.mem_append_right _ (List.mem_singleton.2 rfl)))) 2 0 _ rfl).1) ?_
            apply any_first 8; exact rfl; exact rfl; exact rfl; exact rfl; kernel_rfl; apply p_fa; exact rfl; exact field_of tabOk rfl
            refine any_step [6] (by kernel_rfl) rfl (by kernel_rfl) ?_
            intro i hi
            simp only [List.mem_cons, List.not_mem_nil, or_false] at hi
            subst hi
            apply ab tabOk; exact rfl; exact rfl; exact rfl; exact rfl; exact rfl; exact rfl; exact rfl; exact rfl; exact rfl; exact rfl; intro s2
            refine any_step [7] (by kernel_rfl) rfl (by kernel_rfl) ?_
            intro i hi
            simp only [List.mem_cons, List.not_mem_nil, or_false] at hi
            subst hi
            refine a3 (xs := [.tmp 27]) rfl (by kernel_rfl) rfl (or2 o.fall s2) (by exact fun w hst => (reads_of_block (hst.has (s2, .cells (flatC [.int .i64 o.fall, .int .i64 1]).toArray 3) (by first | exact List.mem_append_right _ (List.mem_singleton.2 rfl) | exact List.mem_append_left _ (List.mem_append_right _ (List.mem_singleton.2 rfl)))) 2 0 _ rfl).1) ?_
            refine any_step [9] (by kernel_rfl) rfl (by kernel_rfl) ?_
            intro i hi
            simp only [List.mem_cons, List.not_mem_nil, or_false] at hi
            subst hi
            apply aso 0; exact size_of tabOk rfl; exact rfl; exact rfl; exact rfl; exact rfl; exact rfl; exact so_le rfl; exact so_one rfl
            apply any_first 10; exact rfl; exact rfl; exact rfl; exact rfl; kernel_rfl; apply p_fa; exact rfl; exact field_of tabOk rfl
            refine any_step [11] (by kernel_rfl) rfl (by kernel_rfl) ?_
            intro i hi
            simp only [List.mem_cons, List.not_mem_nil, or_false] at hi
            subst hi
            apply aso 0; exact size_of tabOk rfl; exact rfl; exact rfl; exact rfl; exact rfl; exact rfl; exact so_le rfl; exact so_one rfl
            refine any_end (by kernel_rfl) ?_
            exact hend [_, _] _ _ trivial ⟨rfl, rfl, trivial⟩ (List.Perm.of_eq (by simp only [List.append_assoc]; rfl))
          · skip
            apply ab tabOk; exact rfl; exact rfl; exact rfl; exact rfl; exact rfl; exact rfl; exact rfl; exact rfl; exact rfl; exact rfl; intro s2
            refine any_step [3] (by kernel_rfl) rfl (by kernel_rfl) ?_
            intro i hi
            simp only [List.mem_cons, List.not_mem_nil, or_false] at hi
            subst hi
            refine a3 (xs := [.tmp 23]) rfl (by kernel_rfl) rfl (or2 o.rise s1) (by exact fun w hst => (reads_of_block (hst.has (s1, .cells (flatC [.int .i64 o.rise, .int .i64 1]).toArray 3) (by first | exact List.mem_append_right _ (List.mem_singleton.2 rfl) | exact List.mem_append_left _ (List.mem_append_right _ (List.mem_singleton.2 rfl)))) 2 0 _ rfl).1) ?_
            apply any_first 8; exact rfl; exact rfl; exact rfl; exact rfl; kernel_rfl; apply p_fa; exact rfl; exact field_of tabOk rfl
            refine any_step [7] (by kernel_rfl) rfl (by kernel_rfl) ?_
            intro i hi
            simp only [List.mem_cons, List.not_mem_nil, or_false] at hi
            subst hi
            refine a3 (xs := [.tmp 27]) rfl (by kernel_rfl) rfl (or2 o.fall s2) (by exact fun w hst => (reads_of_block (hst.has (s2, .cells (flatC [.int .i64 o.fall, .int .i64 1]).toArray 3) (by first | exact List.mem_append_right _ (List.mem_singleton.2 rfl) | exact List.mem_append_left _ (List.mem_append_right _ (List.mem_singleton.2 rfl)))) 2 0 _ rfl).1) ?_
            refine any_step [9] (by kernel_rfl) rfl (by kernel_rfl) ?_
            intro i hi
            simp only [List.mem_cons, List.not_mem_nil, or_false] at hi
            subst hi
            apply aso 0; exact size_of tabOk rfl; exact rfl; exact rfl; exact rfl; exact rfl; exact rfl; exact so_le rfl; exact so_one rfl
            apply any_first 10; exact rfl; exact rfl; exact rfl; exact rfl; kernel_rfl; apply p_fa; exact rfl; exact field_of tabOk rfl
            refine any_step [11] (by kernel_rfl) rfl (by kernel_rfl) ?_
            intro i hi
            simp only [List.mem_cons, List.not_mem_nil, or_false] at hi
            subst hi
            apply aso 0; exact size_of tabOk rfl; exact rfl; exact rfl; exact rfl; exact rfl; exact rfl; exact so_le rfl; exact so_one rfl
            refine any_end (by kernel_rfl) ?_
            exact hend [_, _] _ _ trivial ⟨rfl, rfl, trivial⟩ (List.Perm.of_eq (by simp only [List.append_assoc]; rfl))
        · skip
          apply ab tabOk; exact rfl; exact rfl; exact rfl; exact rfl; exact rfl; exact rfl; exact rfl; exact rfl; exact rfl; exact rfl; intro s2
          refine any_step [2] (by kernel_rfl) rfl (by kernel_rfl) ?_
          intro i hi
          simp only [List.mem_cons, List.not_mem_nil, or_false] at hi
          subst hi
          apply ab tabOk; exact rfl; exact rfl; exact rfl; exact rfl; exact rfl; exact rfl; exact rfl; exact rfl; exact rfl; exact rfl; intro s1
          refine any_step [3] (by kernel_rfl) rfl (by kernel_rfl) ?_
          intro i hi
          simp only [List.mem_cons, List.not_mem_nil, or_false] at hi
          subst hi
          refine a3 (xs := [.tmp 23]) rfl (by kernel_rfl) rfl (or2 o.rise s1) (by exact fun w hst => (reads_of_block (hst.has (s1, .cells (flatC [.int .i64 o.rise, .int .i64 1]).toArray 3) (by first | exact List.mem_append_right _ (List.mem_singleton.2 rfl) | exact List.mem_append_left _ (List.mem_append_right _ (List.mem_singleton.2 rfl)))) 2 0 _ rfl).1) ?_
          apply any_first 8; exact rfl; exact rfl; exact rfl; exact rfl; kernel_rfl; apply p_fa; exact rfl; exact field_of tabOk rfl
          refine any_step [7] (by kernel_rfl) rfl (by kernel_rfl) ?_
          intro i hi
          simp only [List.mem_cons, List.not_mem_nil, or_false] at hi
          subst hi
          refine a3 (xs := [.tmp 27]) rfl (by kernel_rfl) rfl (or2 o.fall s2) (by exact fun w hst => (reads_of_block (hst.has (s2, .cells (flatC [.int .i64 o.fall, .int .i64 1]).toArray 3) (by first | exact List.mem_append_right _ (List.mem_singleton.2 rfl) | exact List.mem_append_left _ (List.mem_append_right _ (List.mem_singleton.2 rfl)))) 2 0 _ rfl).1) ?_
          refine any_step [9] (by kernel_rfl) rfl (by kernel_rfl) ?_
          intro i hi
          simp only [List.mem_cons, List.not_mem_nil, or_false] at hi
          subst hi
          apply aso 0; exact size_of tabOk rfl; exact rfl; exact rfl; exact rfl; exact rfl; exact rfl; exact so_le rfl; exact so_one rfl
          apply any_first 10; exact rfl; exact rfl; exact rfl; exact rfl; kernel_rfl; apply p_fa; exact rfl; exact field_of tabOk rfl
          refine any_step [11] (by kernel_rfl) rfl (by kernel_rfl) ?_
          intro i hi
          simp only [List.mem_cons, List.not_mem_nil, or_false] at hi
          subst hi
          apply aso 0; exact size_of tabOk rfl; exact rfl; exact rfl; exact rfl; exact rfl; exact rfl; exact so_le rfl; exact so_one rfl
          refine any_end (by kernel_rfl) ?_
          exact hend [_, _] _ _ trivial ⟨rfl, rfl, trivial⟩ (List.Perm.of_eq (by simp only [List.append_assoc]; rfl))
    · skip
      apply a2; exact rfl; first | (apply r_l1 0; exact shape_of tabOk rfl; exact rfl; exact rfl; exact rfl) | (apply r_ln 0; exact shape_of tabOk rfl; exact rfl; exact rfl; exact rfl)
      refine any_step [1, 6] (by kernel_rfl) rfl (by kernel_rfl) ?_
      intro i hi
      simp only [List.mem_cons, List.not_mem_nil, or_false] at hi
      rcases hi with rfl | rfl
      · skip
        apply a2; exact rfl; first | (apply r_l1 0; exact shape_of tabOk rfl; exact rfl; exact rfl; exact rfl) | (apply r_ln 0; exact shape_of tabOk rfl; exact rfl; exact rfl; exact rfl)
        refine any_step [2, 6] (by kernel_rfl) rfl (by kernel_rfl) ?_
        intro i hi
        simp only [List.mem_cons, List.not_mem_nil, or_false] at hi
        rcases hi with rfl | rfl
        · skip
          apply ab tabOk; exact rfl; exact rfl; exact rfl; exact rfl; exact rfl; exact rfl; exact rfl; exact rfl; exact rfl; exact rfl; intro s1
          refine any_step [3, 6] (by kernel_rfl) rfl (by kernel_rfl) ?_
          intro i hi
          simp only [List.mem_cons, List.not_mem_nil, or_false] at hi
          rcases hi with rfl | rfl
          · skip
            refine a3 (xs := [.tmp 23]) rfl (by kernel_rfl) rfl (or2 o.rise s1) (by exact fun w hst => (reads_of_block (hst.has (s1, .cells (flatC [.int .i64 o.rise, .int .i64 1]).toArray 3) (by first | exact List.mem_append_right _ (List.mem_singleton.2 rfl) | exact List.mem_append_left _ (List.mem_append_right _ (List.mem_singleton.2 rfl)))) 2 0 _ rfl).1) ?_
            apply any_first 8; exact rfl; exact rfl; exact rfl; exact rfl; kernel_rfl; apply p_fa; exact rfl; exact field_of tabOk rfl
            refine any_step [6] (by kernel_rfl) rfl (by kernel_rfl) ?_
            intro i hi
            simp only [List.mem_cons, List.not_mem_nil, or_false] at hi
            subst hi
            apply ab tabOk; exact rfl; exact rfl; exact rfl; exact rfl; exact rfl; exact rfl; exact rfl; exact rfl; exact rfl; exact rfl; intro s2
            refine any_step [7] (by kernel_rfl) rfl (by kernel_rfl) ?_
            intro i hi
            simp only [List.mem_cons, List.not_mem_nil, or_false] at hi
            subst hi
            refine a3 (xs := [.tmp 27]) rfl (by kernel_rfl) rfl (or2 o.fall s2) (by exact fun w hst => (reads_of_block (hst.has (s2, .cells (flatC [.int .i64 o.fall, .int .i64 1]).toArray 3) (by first | exact List.mem_append_right _ (List.mem_singleton.2 rfl) | exact List.mem_append_left _ (List.mem_append_right _ (List.mem_singleton.2 rfl)))) 2 0 _ rfl).1) ?_
            refine any_step [9] (by kernel_rfl) rfl (by kernel_rfl) ?_
            intro i hi
            simp only [List.mem_cons, List.not_mem_nil, or_false] at hi
            subst hi
            apply aso 0; exact size_of tabOk rfl; exact rfl; exact rfl; exact rfl; exact rfl; exact rfl; exact so_le rfl; exact so_one rfl
            apply any_first 10; exact rfl; exact rfl; exact rfl; exact rfl; kernel_rfl; apply p_fa; exact rfl; exact field_of tabOk rfl
            refine any_step [11] (by kernel_rfl) rfl (by kernel_rfl) ?_
            intro i hi
            simp only [List.mem_cons, List.not_mem_nil, or_false] at hi
            subst hi
            apply aso 0; exact size_of tabOk rfl; exact rfl; exact rfl; exact rfl; exact rfl; exact rfl; exact so_le rfl; exact so_one rfl
            refine any_end (by kernel_rfl) ?_
            exact hend [_, _] _ _ trivial ⟨rfl, rfl, trivial⟩ (List.Perm.of_eq (by simp only [List.append_assoc]; rfl))
          · skip
            apply ab tabOk; exact rfl; exact rfl; exact rfl; exact rfl; exact rfl; exact rfl; exact rfl; exact rfl; exact rfl; exact rfl; intro s2
            refine any_step [3] (by kernel_rfl) rfl (by kernel_rfl) ?_
            intro i hi
            simp only [List.mem_cons, List.not_mem_nil, or_false] at hi
            subst hi
            refine a3 (xs := [.tmp 23]) rfl (by kernel_rfl) rfl (or2 o.rise s1) (by exact fun w hst => (reads_of_block (hst.has (s1, .cells (flatC [.int .i64 o.rise, .int .i64 1]).toArray 3) (by first | exact List.mem_append_right _ (List.mem_singleton.2 rfl) | exact List.mem_append_left _ (List.mem_append_right _ (List.mem_singleton.2 rfl)))) 2 0 _ rfl).1) ?_
            apply any_first 8; exact rfl; exact rfl; exact rfl; exact rfl; kernel_rfl; apply p_fa; exact rfl; exact field_of tabOk rfl
            refine any_step [7] (by kernel_rfl) rfl (by kernel_rfl) ?_
            intro i hi
            simp only [List.mem_cons, List.not_mem_nil, or_false] at hi
            subst hi
            refine a3 (xs := [.tmp 27]) rfl (by kernel_rfl) rfl (or2 o.fall s2) (by exact fun w hst => (reads_of_block (hst.has (s2, .cells (flatC [.int .i64 o.fall, .int .i64 1]).toArray 3) (by first | exact List.mem_append_right _ (List.mem_singleton.2 rfl) | exact List.mem_append_left _ (List.mem_append_right _ (List.mem_singleton.2 rfl)))) 2 0 _ rfl).1) ?_
            refine any_step [9] (by kernel_rfl) rfl (by kernel_rfl) ?_
            intro i hi
            simp only [List.mem_cons, List.not_mem_nil, or_false] at hi
            subst hi
            apply aso 0; exact size_of tabOk rfl; exact rfl; exact rfl; exact rfl; exact rfl; exact rfl; exact so_le rfl; exact so_one rfl
            apply any_first 10; exact rfl; exact rfl; exact rfl; exact rfl; kernel_rfl; apply p_fa; exact rfl; exact field_of tabOk rfl
            refine any_step [11] (by kernel_rfl) rfl (by kernel_rfl) ?_
            intro i hi
            simp only [List.mem_cons, List.not_mem_nil, or_false] at hi
            subst hi
            apply aso 0; exact size_of tabOk rfl; exact rfl; exact rfl; exact rfl; exact rfl; exact rfl; exact so_le rfl; exact so_one rfl
            refine any_end (by kernel_rfl) ?_
            exact hend [_, _] _ _ trivial ⟨rfl, rfl, trivial⟩ (List.Perm.of_eq (by simp only [List.append_assoc]; rfl))
        · skip
          apply ab tabOk; exact rfl; exact rfl; exact rfl; exact rfl; exact rfl; exact rfl; exact rfl; exact rfl; exact rfl; exact rfl; intro s2
          refine any_step [2] (by kernel_rfl) rfl (by kernel_rfl) ?_
          intro i hi
          simp only [List.mem_cons, List.not_mem_nil, or_false] at hi
          subst hi
          apply ab tabOk; exact rfl; exact rfl; exact rfl; exact rfl; exact rfl; exact rfl; exact rfl; exact rfl; exact rfl; exact rfl; intro s1
          refine any_step [3] (by kernel_rfl) rfl (by kernel_rfl) ?_
          intro i hi
          simp only [List.mem_cons, List.not_mem_nil, or_false] at hi
          subst hi
          refine a3 (xs := [.tmp 23]) rfl (by kernel_rfl) rfl (or2 o.rise s1) (by exact fun w hst => (reads_of_block (hst.has (s1, .cells (flatC [.int .i64 o.rise, .int .i64 1]).toArray 3) (by first | exact List.mem_append_right _ (List.mem_singleton.2 rfl) | exact List.mem_append_left _ (List.mem_append_right _ (List.mem_singleton.2 rfl)))) 2 0 _ rfl).1) ?_
          apply any_first 8; exact rfl; exact rfl; exact rfl; exact rfl; kernel_rfl; apply p_fa; exact rfl; exact field_of tabOk rfl
          refine any_step [7] (by kernel_rfl) rfl (by kernel_rfl) ?_
          intro i hi
          simp only [List.mem_cons, List.not_mem_nil, or_false] at hi
          subst hi
          refine a3 (xs := [.tmp 27]) rfl (by kernel_rfl) rfl (or2 o.fall s2) (by exact fun w hst => (reads_of_block (hst.has (s2, .cells (flatC [.int .i64 o.fall, .int .i64 1]).toArray 3) (by first | exact List.mem_append_right _ (List.mem_singleton.2 rfl) | exact List.mem_append_left _ (List.mem_append_right _ (List.mem_singleton.2 rfl)))) 2 0 _ rfl).1) ?_
          refine any_step [9] (by kernel_rfl) rfl (by kernel_rfl) ?_
          intro i hi
          simp only [List.mem_cons, List.not_mem_nil, or_false] at hi
          subst hi
          apply aso 0; exact size_of tabOk rfl; exact rfl; exact rfl; exact rfl; exact rfl; exact rfl; exact so_le rfl; exact so_one rfl
          apply any_first 10; exact rfl; exact rfl; exact rfl; exact rfl; kernel_rfl; apply p_fa; exact rfl; exact field_of tabOk rfl
          refine any_step [11] (by kernel_rfl) rfl (by kernel_rfl) ?_
          intro i hi
          simp only [List.mem_cons, List.not_mem_nil, or_false] at hi
          subst hi
          apply aso 0; exact size_of tabOk rfl; exact rfl; exact rfl; exact rfl; exact rfl; exact rfl; exact so_le rfl; exact so_one rfl
          refine any_end (by kernel_rfl) ?_
          exact hend [_, _] _ _ trivial ⟨rfl, rfl, trivial⟩ (List.Perm.of_eq (by simp only [List.append_assoc]; rfl))
      · skip
        apply ab tabOk; exact rfl; exact rfl; exact rfl; exact rfl; exact rfl; exact rfl; exact rfl; exact rfl; exact rfl; exact rfl; intro s2
        refine any_step [1] (by kernel_rfl) rfl (by kernel_rfl) ?_
        intro i hi
        simp only [List.mem_cons, List.not_mem_nil, or_false] at hi
        subst hi
        apply a2; exact rfl; first | (apply r_l1 0; exact shape_of tabOk rfl; exact rfl; exact rfl; exact rfl) | (apply r_ln 0; exact shape_of tabOk rfl; exact rfl; exact rfl; exact rfl)
        refine any_step [2] (by kernel_rfl) rfl (by kernel_rfl) ?_
        intro i hi
        simp only [List.mem_cons, List.not_mem_nil, or_false] at hi
        subst hi
        apply ab tabOk; exact rfl; exact rfl; exact rfl; exact rfl; exact rfl; exact rfl; exact rfl; exact rfl; exact rfl; exact rfl; intro s1
        refine any_step [3] (by kernel_rfl) rfl (by kernel_rfl) ?_
        intro i hi
        simp only [List.mem_cons, List.not_mem_nil, or_false] at hi
        subst hi
        refine a3 (xs := [.tmp 23]) rfl (by kernel_rfl) rfl (or2 o.rise s1) (by exact fun w hst => (reads_of_block (hst.has (s1, .cells (flatC [.int .i64 o.rise, .int .i64 1]).toArray 3) (by first | exact List.mem_append_right _ (List.mem_singleton.2 rfl) | exact List.mem_append_left _ (List.mem_append_right _ (List.mem_singleton.2 rfl)))) 2 0 _ rfl).1) ?_
        apply any_first 8; exact rfl; exact rfl; exact rfl; exact rfl; kernel_rfl; apply p_fa; exact rfl; exact field_of tabOk rfl
        refine any_step [7] (by kernel_rfl) rfl (by kernel_rfl) ?_
        intro i hi
        simp only [List.mem_cons, List.not_mem_nil, or_false] at hi
        subst hi
        refine a3 (xs := [.tmp 27]) rfl (by kernel_rfl) rfl (or2 o.fall s2) (by exact fun w hst => (reads_of_block (hst.has (s2, .cells (flatC [.int .i64 o.fall, .int .i64 1]).toArray 3) (by first | exact List.mem_append_right _ (List.mem_singleton.2 rfl) | exact List.mem_append_left _ (List.mem_append_right _ (List.mem_singleton.2 rfl)))) 2 0 _ rfl).1) ?_
        refine any_step [9] (by kernel_rfl) rfl (by kernel_rfl) ?_
        intro i hi
        simp only [List.mem_cons, List.not_mem_nil, or_false] at hi
        subst hi
        apply aso 0; exact size_of tabOk rfl; exact rfl; exact rfl; exact rfl; exact rfl; exact rfl; exact so_le rfl; exact so_one rfl
        apply any_first 10; exact rfl; exact rfl; exact rfl; exact rfl; kernel_rfl; apply p_fa; exact rfl; exact field_of tabOk rfl
        refine any_step [11] (by kernel_rfl) rfl (by kernel_rfl) ?_
        intro i hi
        simp only [List.mem_cons, List.not_mem_nil, or_false] at hi
        subst hi
        apply aso 0; exact size_of tabOk rfl; exact rfl; exact rfl; exact rfl; exact rfl; exact rfl; exact so_le rfl; exact so_one rfl
        refine any_end (by kernel_rfl) ?_
        exact hend [_, _] _ _ trivial ⟨rfl, rfl, trivial⟩ (List.Perm.of_eq (by simp only [List.append_assoc]; rfl))
  intro q _
  refine vwith (pt := .run _) _ _ [] tabOk lent_nil fun go => ?_
  apply go 300
  repeat' (first | apply And.intro | intro _)
  all_goals try (first | (show Here _ _ _ _; try (exfalso; omega)) | exact trivial | omega | kernel_rfl | exact rfl)
  all_goals try (exfalso; dsimp only at *; omega)
  · rename_i hh
    refine vcall (v := .int .u64 (templH { o with rise := or1 o.rise, fall := or1 o.fall })) rfl rfl (by kernel_rfl) (Template { o with rise := or1 o.rise, fall := or1 o.fall } x1 x2 d1 d2 h1 hsz) (by exact fun w hst => hr1 _ _ _ _ (fun y hy => by simp [hy]) hst) ?_
    apply go 300
    repeat' (first | apply And.intro | intro _)
    all_goals try (first | (show Here _ _ _ _; try (exfalso; omega)) | exact trivial | omega | kernel_rfl | exact rfl)
    rw [if_pos (show o.hash = 0 from hh)] at e
    refine vcc1 (bs := q1) tabOk (by exact rfl) (by exact rfl) (by exact rfl) (by exact rfl) (by exact rfl) (by exact ((List.sublist_append_left _ _).trans (List.sublist_append_left _ _)).trans (List.sublist_append_right _ _)) ?_
    rw [e]
    exact ⟨x1, d1, x2, d2, rfl, hd1, hd2, hr1, hr2⟩
  · rename_i hh
    rw [if_neg (show ¬ o.hash = 0 from hh)] at e
    refine vcc1 (bs := q1) tabOk (by exact rfl) (by exact rfl) (by exact rfl) (by exact rfl) (by exact rfl) (by exact ((List.sublist_append_left _ _).trans (List.sublist_append_left _ _)).trans (List.sublist_append_right _ _)) ?_
    rw [e]
    exact ⟨x1, d1, x2, d2, rfl, hd1, hd2, hr1, hr2⟩
theorem Default (o : Oj) (a a' : Option Addr) (c c' : Nat) (h1 : o.labs.length ≤ 4398046511000) (h2 : o.sel.length ≤ 4398046511000) (hsz : Sz o) : Con Tryz.prog 9 [(ov o a c a' c').val] [] (fun w => LabAt w a o.labs ∧ LabAt w a' o.sel) (OPost (defO o)) := by
  by_cases h : ¬ (o.kind = 1 ∨ o.kind = 2 ∨ o.kind = 3)
  · exact def0 o a a' c c' h1 h2 h
  rcases Classical.not_not.1 h with h | h | h
  · exact def1 o a a' c c' h1 h2 h
  · by_cases hs : o.surge = 0 ∧ o.slack = 0
    · exact def2a o a a' c c' h1 h2 h hs
    · exact def2b o a a' c c' h1 h2 h hs
  · exact def3 o a a' c c' h1 h2 h hsz
end Go.Fl
