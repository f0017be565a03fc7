/-
  An object, with what may be turned as another one has it. No condition.
-/
import Derived.Test.YtiepomeokhjcfaaDoorObjN
namespace Go.Fl
open Go.Proofs Go.RowKit
set_option maxRecDepth 10000
set_option maxHeartbeats 4000000

def stillO (o x : Oj) : Oj :=
  if o.kind = 0 then { o with labs := x.labs, rcpu := x.rcpu, rmem := x.rmem, cord := x.cord, drain := x.drain }
  else if o.kind = 4 then { o with labs := x.labs, sel := x.sel, least := x.least }
  else if o.kind = 2 then { o with labs := x.labs, ncpu := x.ncpu, nmem := x.nmem, image := x.image, rise := x.rise, fall := x.fall, surge := x.surge, slack := x.slack, paused := x.paused, count := x.count }
  else if o.kind = 3 then { o with count := x.count }
  else o
theorem still_self (o : Oj) : stillO o o = o := by unfold stillO; (repeat' split) <;> rfl
def stillV (o x : Oj) (a a' b b' : Option Addr) (c c' d d' : Nat) : V := .agg (ocs (stillO o x) (if o.kind = 0 ∨ o.kind = 4 ∨ o.kind = 2 then labV x.labs b d else labV o.labs a c) (if o.kind = 4 then labV x.sel b' d' else labV o.sel a' c'))
theorem still_labs (o x : Oj) : (stillO o x).labs = if o.kind = 0 ∨ o.kind = 4 ∨ o.kind = 2 then x.labs else o.labs := by
  unfold stillO
  (repeat' split) <;> first | rfl | (exfalso; omega)
theorem still_sel (o x : Oj) : (stillO o x).sel = if o.kind = 4 then x.sel else o.sel := by
  unfold stillO
  (repeat' split) <;> first | rfl | (exfalso; omega)
theorem still_out (o x : Oj) (a a' b b' : Option Addr) (c c' d d' : Nat) : ∃ p e p' e', stillV o x a a' b b' c c' d d' = ov (stillO o x) p e p' e' ∧ ∀ w, LabAt w a o.labs → LabAt w a' o.sel → LabAt w b x.labs → LabAt w b' x.sel → LabAt w p (stillO o x).labs ∧ LabAt w p' (stillO o x).sel := by
  have e1 := still_labs o x
  have e2 := still_sel o x
  unfold stillV
  by_cases h : o.kind = 0 ∨ o.kind = 4 ∨ o.kind = 2
  · rw [if_pos h] at e1
    rw [if_pos h]
    by_cases h4 : o.kind = 4
    · rw [if_pos h4] at e2
      rw [if_pos h4]
      exact ⟨b, d, b', d', by rw [ov, labV, labV, labV, labV, e1, e2], fun w _ _ h3 h4 => by rw [e1, e2]; exact ⟨h3, h4⟩⟩
    · rw [if_neg h4] at e2
      rw [if_neg h4]
      exact ⟨b, d, a', c', by rw [ov, labV, labV, labV, labV, e1, e2], fun w _ h2 h3 _ => by rw [e1, e2]; exact ⟨h3, h2⟩⟩
  · rw [if_neg h] at e1
    rw [if_neg (by omega)] at e2
    rw [if_neg h, if_neg (by omega)]
    exact ⟨a, c, a', c', by rw [ov, labV, labV, labV, labV, e1, e2], fun w h1 h2 _ _ => by rw [e1, e2]; exact ⟨h1, h2⟩⟩
theorem still0 (o x : Oj) (a a' b b' : Option Addr) (c c' d d' : Nat) (h : o.kind = 0) : RetIf Tryd.prog 51 [(ov o a c a' c').val, (ov x b d b' d').val] (fun _ => True) (stillV o x a a' b b' c c' d d').val := by
  have hX : stillO o x = { o with labs := x.labs, rcpu := x.rcpu, rmem := x.rmem, cord := x.cord, drain := x.drain } := by unfold stillO; rw [if_pos h]
  have e : stillV o x a a' b b' c c' d d' = .agg (ocs ({ o with labs := x.labs, rcpu := x.rcpu, rmem := x.rmem, cord := x.cord, drain := x.drain }) (labV x.labs b d) (labV o.sel a' c')) := by unfold stillV; rw [hX, if_pos (by omega), if_neg (by omega)]
  rw [e]
  refine ret_start2 Tryd.func51 rfl rfl rfl (fun w0 hw => ?_)
  refine vstart [(0, ov o a c a' c'), (1, ov x b d b' d')] [] [] ?_
  refine vwith (pt := .run _) _ _ [] tabOk lent_nil fun go => ?_
  apply go 300
  repeat' (first | apply And.intro | intro _)
  all_goals try (first | (show Here _ _ _ _; try (exfalso; omega)) | exact trivial | omega | kernel_rfl | exact rfl)
  rename_i b1 b2 b3 _
  refine vanyE [1] (ι := Unit) (fun _ => [(2, .ptr true 0 b1 0 1 0 0), (3, .ptr true 1 b2 0 1 0 0), (4, .ptr true 2 b3 0 1 0 0)]) (fun _ => [⟨b1, 38, .var (ocs ({ o with labs := x.labs, rcpu := x.rcpu, rmem := x.rmem, cord := x.cord, drain := x.drain }) (labV x.labs b d) (labV o.sel a' c')), []⟩, ⟨b2, 38, .var (ocs x (labV x.labs b d) (labV x.sel b' d')), []⟩, ⟨b3, 38, .var (cellsV (.raw ((zeroL tab 38).getD undef))), []⟩]) (fun _ => []) (fun _ => True) (by kernel_rfl) rfl ?_ (fun hend => ?_)
  rotate_left
  · skip
    apply any_first 0; exact rfl; exact rfl; exact rfl; exact rfl; kernel_rfl; apply p_fa; exact rfl; exact field_of tabOk rfl
    apply any_firstL 1; exact rfl; exact rfl; exact rfl; exact rfl; kernel_rfl; first | (apply l1 1; exact shape_of tabOk rfl; exact rfl; exact rfl; exact rfl; exact rfl) | (apply ln 1; exact shape_of tabOk rfl; exact rfl; exact rfl; exact rfl; exact rfl)
    apply any_first 2; exact rfl; exact rfl; exact rfl; exact rfl; kernel_rfl; apply p_fa; exact rfl; exact field_of tabOk rfl
    apply any_firstL 3; exact rfl; exact rfl; exact rfl; exact rfl; kernel_rfl; first | (apply l1 1; exact shape_of tabOk rfl; exact rfl; exact rfl; exact rfl; exact rfl) | (apply ln 1; exact shape_of tabOk rfl; exact rfl; exact rfl; exact rfl; exact rfl)
    apply any_first 4; exact rfl; exact rfl; exact rfl; exact rfl; kernel_rfl; apply p_fa; exact rfl; exact field_of tabOk rfl
    apply any_firstL 5; exact rfl; exact rfl; exact rfl; exact rfl; kernel_rfl; first | (apply l1 1; exact shape_of tabOk rfl; exact rfl; exact rfl; exact rfl; exact rfl) | (apply ln 1; exact shape_of tabOk rfl; exact rfl; exact rfl; exact rfl; exact rfl)
    apply any_first 6; exact rfl; exact rfl; exact rfl; exact rfl; kernel_rfl; apply p_fa; exact rfl; exact field_of tabOk rfl
    apply any_firstL 7; exact rfl; exact rfl; exact rfl; exact rfl; kernel_rfl; first | (apply l1 1; exact shape_of tabOk rfl; exact rfl; exact rfl; exact rfl; exact rfl) | (apply ln 1; exact shape_of tabOk rfl; exact rfl; exact rfl; exact rfl; exact rfl)
    apply any_first 8; exact rfl; exact rfl; exact rfl; exact rfl; kernel_rfl; apply p_fa; exact rfl; exact field_of tabOk rfl
    refine any_step [9] (by kernel_rfl) rfl (by kernel_rfl) ?_
    intro i hi
    simp only [List.mem_cons, List.not_mem_nil, or_false] at hi
    subst hi
    apply aso 0; exact size_of tabOk rfl; exact rfl; exact rfl; exact rfl; exact rfl; exact rfl; exact so_le rfl; exact so_one rfl
    apply any_first 10; exact rfl; exact rfl; exact rfl; exact rfl; kernel_rfl; apply p_fa; exact rfl; exact field_of tabOk rfl
    refine any_step [11] (by kernel_rfl) rfl (by kernel_rfl) ?_
    intro i hi
    simp only [List.mem_cons, List.not_mem_nil, or_false] at hi
    subst hi
    apply aso 0; exact size_of tabOk rfl; exact rfl; exact rfl; exact rfl; exact rfl; exact rfl; exact so_le rfl; exact so_one rfl
    apply any_first 12; exact rfl; exact rfl; exact rfl; exact rfl; kernel_rfl; apply p_fa; exact rfl; exact field_of tabOk rfl
    refine any_step [13] (by kernel_rfl) rfl (by kernel_rfl) ?_
    intro i hi
    simp only [List.mem_cons, List.not_mem_nil, or_false] at hi
    subst hi
    apply aso 0; exact size_of tabOk rfl; exact rfl; exact rfl; exact rfl; exact rfl; exact rfl; exact so_le rfl; exact so_one rfl
    apply any_first 14; exact rfl; exact rfl; exact rfl; exact rfl; kernel_rfl; apply p_fa; exact rfl; exact field_of tabOk rfl
    refine any_step [15] (by kernel_rfl) rfl (by kernel_rfl) ?_
    intro i hi
    simp only [List.mem_cons, List.not_mem_nil, or_false] at hi
    subst hi
    apply aso 0; exact size_of tabOk rfl; exact rfl; exact rfl; exact rfl; exact rfl; exact rfl; exact so_le rfl; exact so_one rfl
    refine any_end (by kernel_rfl) ?_
    exact hend () _ _ trivial ⟨rfl, rfl, rfl, trivial⟩ (List.Perm.refl _)
  intro _ _
  refine vwith (pt := .run _) _ _ [] tabOk lent_nil fun go => ?_
  apply go 300
  repeat' (first | apply And.intro | intro _)
  all_goals try (first | (show Here _ _ _ _; try (exfalso; omega)) | exact trivial | omega | kernel_rfl | exact rfl)
  exact vrc1 tabOk (by exact rfl) (by exact rfl) (by exact rfl) (by exact rfl) (by exact rfl) (by exact rfl)
theorem still4 (o x : Oj) (a a' b b' : Option Addr) (c c' d d' : Nat) (h : o.kind = 4) : RetIf Tryd.prog 51 [(ov o a c a' c').val, (ov x b d b' d').val] (fun _ => True) (stillV o x a a' b b' c c' d d').val := by
  have hX : stillO o x = { o with labs := x.labs, sel := x.sel, least := x.least } := by unfold stillO; rw [if_neg (by omega), if_pos h]
  have e : stillV o x a a' b b' c c' d d' = .agg (ocs ({ o with labs := x.labs, sel := x.sel, least := x.least }) (labV x.labs b d) (labV x.sel b' d')) := by unfold stillV; rw [hX, if_pos (by omega), if_pos h]
  rw [e]
  refine ret_start2 Tryd.func51 rfl rfl rfl (fun w0 hw => ?_)
  refine vstart [(0, ov o a c a' c'), (1, ov x b d b' d')] [] [] ?_
  refine vwith (pt := .run _) _ _ [] tabOk lent_nil fun go => ?_
  apply go 300
  repeat' (first | apply And.intro | intro _)
  all_goals try (first | (show Here _ _ _ _; try (exfalso; omega)) | exact trivial | omega | kernel_rfl | exact rfl)
  rename_i b1 b2 b3 _ _
  refine vanyE [1] (ι := Unit) (fun _ => [(2, .ptr true 0 b1 0 1 0 0), (3, .ptr true 1 b2 0 1 0 0), (4, .ptr true 2 b3 0 1 0 0)]) (fun _ => [⟨b1, 38, .var (ocs ({ o with labs := x.labs, sel := x.sel, least := x.least }) (labV x.labs b d) (labV x.sel b' d')), []⟩, ⟨b2, 38, .var (ocs x (labV x.labs b d) (labV x.sel b' d')), []⟩, ⟨b3, 38, .var (cellsV (.raw ((zeroL tab 38).getD undef))), []⟩]) (fun _ => []) (fun _ => True) (by kernel_rfl) rfl ?_ (fun hend => ?_)
  rotate_left
  · skip
    apply any_first 0; exact rfl; exact rfl; exact rfl; exact rfl; kernel_rfl; apply p_fa; exact rfl; exact field_of tabOk rfl
    apply any_firstL 1; exact rfl; exact rfl; exact rfl; exact rfl; kernel_rfl; first | (apply l1 1; exact shape_of tabOk rfl; exact rfl; exact rfl; exact rfl; exact rfl) | (apply ln 1; exact shape_of tabOk rfl; exact rfl; exact rfl; exact rfl; exact rfl)
    apply any_first 2; exact rfl; exact rfl; exact rfl; exact rfl; kernel_rfl; apply p_fa; exact rfl; exact field_of tabOk rfl
    apply any_firstL 3; exact rfl; exact rfl; exact rfl; exact rfl; kernel_rfl; first | (apply l1 1; exact shape_of tabOk rfl; exact rfl; exact rfl; exact rfl; exact rfl) | (apply ln 1; exact shape_of tabOk rfl; exact rfl; exact rfl; exact rfl; exact rfl)
    apply any_first 4; exact rfl; exact rfl; exact rfl; exact rfl; kernel_rfl; apply p_fa; exact rfl; exact field_of tabOk rfl
    apply any_firstL 5; exact rfl; exact rfl; exact rfl; exact rfl; kernel_rfl; first | (apply l1 1; exact shape_of tabOk rfl; exact rfl; exact rfl; exact rfl; exact rfl) | (apply ln 1; exact shape_of tabOk rfl; exact rfl; exact rfl; exact rfl; exact rfl)
    apply any_first 6; exact rfl; exact rfl; exact rfl; exact rfl; kernel_rfl; apply p_fa; exact rfl; exact field_of tabOk rfl
    refine any_step [7] (by kernel_rfl) rfl (by kernel_rfl) ?_
    intro i hi
    simp only [List.mem_cons, List.not_mem_nil, or_false] at hi
    subst hi
    apply aso 0; exact size_of tabOk rfl; exact rfl; exact rfl; exact rfl; exact rfl; exact rfl; exact so_le rfl; exact so_one rfl
    apply any_first 8; exact rfl; exact rfl; exact rfl; exact rfl; kernel_rfl; apply p_fa; exact rfl; exact field_of tabOk rfl
    refine any_step [9] (by kernel_rfl) rfl (by kernel_rfl) ?_
    intro i hi
    simp only [List.mem_cons, List.not_mem_nil, or_false] at hi
    subst hi
    apply aso 0; exact size_of tabOk rfl; exact rfl; exact rfl; exact rfl; exact rfl; exact rfl; exact so_le rfl; exact so_one rfl
    apply any_first 10; exact rfl; exact rfl; exact rfl; exact rfl; kernel_rfl; apply p_fa; exact rfl; exact field_of tabOk rfl
    refine any_step [11] (by kernel_rfl) rfl (by kernel_rfl) ?_
    intro i hi
    simp only [List.mem_cons, List.not_mem_nil, or_false] at hi
    subst hi
    apply aso 0; exact size_of tabOk rfl; exact rfl; exact rfl; exact rfl; exact rfl; exact rfl; exact so_le rfl; exact so_one rfl
    refine any_end (by kernel_rfl) ?_
    exact hend () _ _ trivial ⟨rfl, rfl, rfl, trivial⟩ (List.Perm.refl _)
  intro _ _
  refine vwith (pt := .run _) _ _ [] tabOk lent_nil fun go => ?_
  apply go 300
  repeat' (first | apply And.intro | intro _)
  all_goals try (first | (show Here _ _ _ _; try (exfalso; omega)) | exact trivial | omega | kernel_rfl | exact rfl)
  exact vrc1 tabOk (by exact rfl) (by exact rfl) (by exact rfl) (by exact rfl) (by exact rfl) (by exact rfl)
theorem still2 (o x : Oj) (a a' b b' : Option Addr) (c c' d d' : Nat) (h : o.kind = 2) : RetIf Tryd.prog 51 [(ov o a c a' c').val, (ov x b d b' d').val] (fun _ => True) (stillV o x a a' b b' c c' d d').val := by
  have hX : stillO o x = { o with labs := x.labs, ncpu := x.ncpu, nmem := x.nmem, image := x.image, rise := x.rise, fall := x.fall, surge := x.surge, slack := x.slack, paused := x.paused, count := x.count } := by unfold stillO; rw [if_neg (by omega), if_neg (by omega), if_pos h]
  have e : stillV o x a a' b b' c c' d d' = .agg (ocs ({ o with labs := x.labs, ncpu := x.ncpu, nmem := x.nmem, image := x.image, rise := x.rise, fall := x.fall, surge := x.surge, slack := x.slack, paused := x.paused, count := x.count }) (labV x.labs b d) (labV o.sel a' c')) := by unfold stillV; rw [hX, if_pos (by omega), if_neg (by omega)]
  rw [e]
  refine ret_start2 Tryd.func51 rfl rfl rfl (fun w0 hw => ?_)
  refine vstart [(0, ov o a c a' c'), (1, ov x b d b' d')] [] [] ?_
  refine vwith (pt := .run _) _ _ [] tabOk lent_nil fun go => ?_
  apply go 300
  repeat' (first | apply And.intro | intro _)
  all_goals try (first | (show Here _ _ _ _; try (exfalso; omega)) | exact trivial | omega | kernel_rfl | exact rfl)
  rename_i b1 b2 b3 _ _ _
  refine vanyE [1] (ι := Unit) (fun _ => [(2, .ptr true 0 b1 0 1 0 0), (3, .ptr true 1 b2 0 1 0 0), (4, .ptr true 2 b3 0 1 0 0)]) (fun _ => [⟨b1, 38, .var (ocs ({ o with labs := x.labs, ncpu := x.ncpu, nmem := x.nmem, image := x.image, rise := x.rise, fall := x.fall }) (labV x.labs b d) (labV o.sel a' c')), []⟩, ⟨b2, 38, .var (ocs x (labV x.labs b d) (labV x.sel b' d')), []⟩, ⟨b3, 38, .var (cellsV (.raw ((zeroL tab 38).getD undef))), []⟩]) (fun _ => []) (fun _ => True) (by kernel_rfl) rfl ?_ (fun hend => ?_)
  rotate_left
  · skip
    apply any_first 0; exact rfl; exact rfl; exact rfl; exact rfl; kernel_rfl; apply p_fa; exact rfl; exact field_of tabOk rfl
    apply any_firstL 1; exact rfl; exact rfl; exact rfl; exact rfl; kernel_rfl; first | (apply l1 1; exact shape_of tabOk rfl; exact rfl; exact rfl; exact rfl; exact rfl) | (apply ln 1; exact shape_of tabOk rfl; exact rfl; exact rfl; exact rfl; exact rfl)
    apply any_first 2; exact rfl; exact rfl; exact rfl; exact rfl; kernel_rfl; apply p_fa; exact rfl; exact field_of tabOk rfl
    apply any_firstL 3; exact rfl; exact rfl; exact rfl; exact rfl; kernel_rfl; first | (apply l1 1; exact shape_of tabOk rfl; exact rfl; exact rfl; exact rfl; exact rfl) | (apply ln 1; exact shape_of tabOk rfl; exact rfl; exact rfl; exact rfl; exact rfl)
    apply any_first 4; exact rfl; exact rfl; exact rfl; exact rfl; kernel_rfl; apply p_fa; exact rfl; exact field_of tabOk rfl
    apply any_firstL 5; exact rfl; exact rfl; exact rfl; exact rfl; kernel_rfl; first | (apply l1 1; exact shape_of tabOk rfl; exact rfl; exact rfl; exact rfl; exact rfl) | (apply ln 1; exact shape_of tabOk rfl; exact rfl; exact rfl; exact rfl; exact rfl)
    apply any_first 6; exact rfl; exact rfl; exact rfl; exact rfl; kernel_rfl; apply p_fa; exact rfl; exact field_of tabOk rfl
    apply any_firstL 7; exact rfl; exact rfl; exact rfl; exact rfl; kernel_rfl; first | (apply l1 1; exact shape_of tabOk rfl; exact rfl; exact rfl; exact rfl; exact rfl) | (apply ln 1; exact shape_of tabOk rfl; exact rfl; exact rfl; exact rfl; exact rfl)
    apply any_first 8; exact rfl; exact rfl; exact rfl; exact rfl; kernel_rfl; apply p_fa; exact rfl; exact field_of tabOk rfl
    apply any_firstL 9; exact rfl; exact rfl; exact rfl; exact rfl; kernel_rfl; first | (apply l1 1; exact shape_of tabOk rfl; exact rfl; exact rfl; exact rfl; exact rfl) | (apply ln 1; exact shape_of tabOk rfl; exact rfl; exact rfl; exact rfl; exact rfl)
    apply any_first 10; exact rfl; exact rfl; exact rfl; exact rfl; kernel_rfl; apply p_fa; exact rfl; exact field_of tabOk rfl
    refine any_step [11] (by kernel_rfl) rfl (by kernel_rfl) ?_
    intro i hi
    simp only [List.mem_cons, List.not_mem_nil, or_false] at hi
    subst hi
    apply aso 0; exact size_of tabOk rfl; exact rfl; exact rfl; exact rfl; exact rfl; exact rfl; exact so_le rfl; exact so_one rfl
    apply any_first 12; exact rfl; exact rfl; exact rfl; exact rfl; kernel_rfl; apply p_fa; exact rfl; exact field_of tabOk rfl
    refine any_step [13] (by kernel_rfl) rfl (by kernel_rfl) ?_
    intro i hi
    simp only [List.mem_cons, List.not_mem_nil, or_false] at hi
    subst hi
    apply aso 0; exact size_of tabOk rfl; exact rfl; exact rfl; exact rfl; exact rfl; exact rfl; exact so_le rfl; exact so_one rfl
    apply any_first 14; exact rfl; exact rfl; exact rfl; exact rfl; kernel_rfl; apply p_fa; exact rfl; exact field_of tabOk rfl
    refine any_step [15] (by kernel_rfl) rfl (by kernel_rfl) ?_
    intro i hi
    simp only [List.mem_cons, List.not_mem_nil, or_false] at hi
    subst hi
    apply aso 0; exact size_of tabOk rfl; exact rfl; exact rfl; exact rfl; exact rfl; exact rfl; exact so_le rfl; exact so_one rfl
    apply any_first 16; exact rfl; exact rfl; exact rfl; exact rfl; kernel_rfl; apply p_fa; exact rfl; exact field_of tabOk rfl
    refine any_step [17] (by kernel_rfl) rfl (by kernel_rfl) ?_
    intro i hi
    simp only [List.mem_cons, List.not_mem_nil, or_false] at hi
    subst hi
    apply aso 0; exact size_of tabOk rfl; exact rfl; exact rfl; exact rfl; exact rfl; exact rfl; exact so_le rfl; exact so_one rfl
    apply any_first 18; exact rfl; exact rfl; exact rfl; exact rfl; kernel_rfl; apply p_fa; exact rfl; exact field_of tabOk rfl
    refine any_step [19] (by kernel_rfl) rfl (by kernel_rfl) ?_
    intro i hi
    simp only [List.mem_cons, List.not_mem_nil, or_false] at hi
    subst hi
    apply aso 0; exact size_of tabOk rfl; exact rfl; exact rfl; exact rfl; exact rfl; exact rfl; exact so_le rfl; exact so_one rfl
    refine any_end (by kernel_rfl) ?_
    exact hend () _ _ trivial ⟨rfl, rfl, rfl, trivial⟩ (List.Perm.refl _)
  intro _ _
  refine vwith (pt := .run _) _ _ [] tabOk lent_nil fun go => ?_
  apply go 300
  repeat' (first | apply And.intro | intro _)
  all_goals try (first | (show Here _ _ _ _; try (exfalso; omega)) | exact trivial | omega | kernel_rfl | exact rfl)
  refine vanyE [1] (ι := Unit) (fun _ => [(2, .ptr true 0 b1 0 1 0 0), (3, .ptr true 1 b2 0 1 0 0), (4, .ptr true 2 b3 0 1 0 0)]) (fun _ => [⟨b1, 38, .var (ocs ({ o with labs := x.labs, ncpu := x.ncpu, nmem := x.nmem, image := x.image, rise := x.rise, fall := x.fall, surge := x.surge, slack := x.slack, paused := x.paused }) (labV x.labs b d) (labV o.sel a' c')), []⟩, ⟨b2, 38, .var (ocs x (labV x.labs b d) (labV x.sel b' d')), []⟩, ⟨b3, 38, .var (cellsV (.raw ((zeroL tab 38).getD undef))), []⟩]) (fun _ => []) (fun _ => True) (by kernel_rfl) rfl ?_ (fun hend => ?_)
  rotate_left
  · skip
    apply any_first 0; exact rfl; exact rfl; exact rfl; exact rfl; kernel_rfl; apply p_fa; exact rfl; exact field_of tabOk rfl
    apply any_firstL 1; exact rfl; exact rfl; exact rfl; exact rfl; kernel_rfl; first | (apply l1 1; exact shape_of tabOk rfl; exact rfl; exact rfl; exact rfl; exact rfl) | (apply ln 1; exact shape_of tabOk rfl; exact rfl; exact rfl; exact rfl; exact rfl)
    apply any_first 2; exact rfl; exact rfl; exact rfl; exact rfl; kernel_rfl; apply p_fa; exact rfl; exact field_of tabOk rfl
    apply any_firstL 3; exact rfl; exact rfl; exact rfl; exact rfl; kernel_rfl; first | (apply l1 1; exact shape_of tabOk rfl; exact rfl; exact rfl; exact rfl; exact rfl) | (apply ln 1; exact shape_of tabOk rfl; exact rfl; exact rfl; exact rfl; exact rfl)
    apply any_first 4; exact rfl; exact rfl; exact rfl; exact rfl; kernel_rfl; apply p_fa; exact rfl; exact field_of tabOk rfl
    apply any_firstL 5; exact rfl; exact rfl; exact rfl; exact rfl; kernel_rfl; first | (apply l1 1; exact shape_of tabOk rfl; exact rfl; exact rfl; exact rfl; exact rfl) | (apply ln 1; exact shape_of tabOk rfl; exact rfl; exact rfl; exact rfl; exact rfl)
    apply any_first 6; exact rfl; exact rfl; exact rfl; exact rfl; kernel_rfl; apply p_fa; exact rfl; exact field_of tabOk rfl
    refine any_step [7] (by kernel_rfl) rfl (by kernel_rfl) ?_
    intro i hi
    simp only [List.mem_cons, List.not_mem_nil, or_false] at hi
    subst hi
    apply aso 0; exact size_of tabOk rfl; exact rfl; exact rfl; exact rfl; exact rfl; exact rfl; exact so_le rfl; exact so_one rfl
    apply any_first 8; exact rfl; exact rfl; exact rfl; exact rfl; kernel_rfl; apply p_fa; exact rfl; exact field_of tabOk rfl
    refine any_step [9] (by kernel_rfl) rfl (by kernel_rfl) ?_
    intro i hi
    simp only [List.mem_cons, List.not_mem_nil, or_false] at hi
    subst hi
    apply aso 0; exact size_of tabOk rfl; exact rfl; exact rfl; exact rfl; exact rfl; exact rfl; exact so_le rfl; exact so_one rfl
    apply any_first 10; exact rfl; exact rfl; exact rfl; exact rfl; kernel_rfl; apply p_fa; exact rfl; exact field_of tabOk rfl
    refine any_step [11] (by kernel_rfl) rfl (by kernel_rfl) ?_
    intro i hi
    simp only [List.mem_cons, List.not_mem_nil, or_false] at hi
    subst hi
    apply aso 0; exact size_of tabOk rfl; exact rfl; exact rfl; exact rfl; exact rfl; exact rfl; exact so_le rfl; exact so_one rfl
    refine any_end (by kernel_rfl) ?_
    exact hend () _ _ trivial ⟨rfl, rfl, rfl, trivial⟩ (List.Perm.refl _)
  intro _ _
  refine vwith (pt := .run _) _ _ [] tabOk lent_nil fun go => ?_
  apply go 300
  repeat' (first | apply And.intro | intro _)
  all_goals try (first | (show Here _ _ _ _; try (exfalso; omega)) | exact trivial | omega | kernel_rfl | exact rfl)
  exact vrc1 tabOk (by exact rfl) (by exact rfl) (by exact rfl) (by exact rfl) (by exact rfl) (by exact rfl)
theorem still3 (o x : Oj) (a a' b b' : Option Addr) (c c' d d' : Nat) (h : o.kind = 3) : RetIf Tryd.prog 51 [(ov o a c a' c').val, (ov x b d b' d').val] (fun _ => True) (stillV o x a a' b b' c c' d d').val := by
  have hX : stillO o x = { o with count := x.count } := by unfold stillO; rw [if_neg (by omega), if_neg (by omega), if_neg (by omega), if_pos h]
  have e : stillV o x a a' b b' c c' d d' = .agg (ocs ({ o with count := x.count }) (labV o.labs a c) (labV o.sel a' c')) := by unfold stillV; rw [hX, if_neg (by omega), if_neg (by omega)]
  rw [e]
  refine ret_start2 Tryd.func51 rfl rfl rfl (fun w0 hw => ?_)
  refine vstart [(0, ov o a c a' c'), (1, ov x b d b' d')] [] [] ?_
  refine vwith (pt := .run _) _ _ [] tabOk lent_nil fun go => ?_
  apply go 300
  repeat' (first | apply And.intro | intro _)
  all_goals try (first | (show Here _ _ _ _; try (exfalso; omega)) | exact trivial | omega | kernel_rfl | exact rfl)
  exact vrc1 tabOk (by exact rfl) (by exact rfl) (by exact rfl) (by exact rfl) (by exact rfl) (by exact rfl)
theorem stillX (o x : Oj) (a a' b b' : Option Addr) (c c' d d' : Nat) (h : ¬ (o.kind = 0 ∨ o.kind = 4 ∨ o.kind = 2 ∨ o.kind = 3)) : RetIf Tryd.prog 51 [(ov o a c a' c').val, (ov x b d b' d').val] (fun _ => True) (stillV o x a a' b b' c c' d d').val := by
  have hX : stillO o x = o := by unfold stillO; rw [if_neg (by omega), if_neg (by omega), if_neg (by omega), if_neg (by omega)]
  have e : stillV o x a a' b b' c c' d d' = .agg (ocs (o) (labV o.labs a c) (labV o.sel a' c')) := by unfold stillV; rw [hX, if_neg (by omega), if_neg (by omega)]
  rw [e]
  refine ret_start2 Tryd.func51 rfl rfl rfl (fun w0 hw => ?_)
  refine vstart [(0, ov o a c a' c'), (1, ov x b d b' d')] [] [] ?_
  refine vwith (pt := .run _) _ _ [] tabOk lent_nil fun go => ?_
  apply go 300
  repeat' (first | apply And.intro | intro _)
  all_goals try (first | (show Here _ _ _ _; try (exfalso; omega)) | exact trivial | omega | kernel_rfl | exact rfl)
  exact vrc1 tabOk (by exact rfl) (by exact rfl) (by exact rfl) (by exact rfl) (by exact rfl) (by exact rfl)

theorem still (o x : Oj) (a a' b b' : Option Addr) (c c' d d' : Nat) : RetIf Tryd.prog 51 [(ov o a c a' c').val, (ov x b d b' d').val] (fun _ => True) (stillV o x a a' b b' c c' d d').val := by
  by_cases h : ¬ (o.kind = 0 ∨ o.kind = 4 ∨ o.kind = 2 ∨ o.kind = 3)
  · exact stillX o x a a' b b' c c' d d' h
  rcases Classical.not_not.1 h with h | h | h | h
  · exact still0 o x a a' b b' c c' d d' h
  · exact still4 o x a a' b b' c c' d d' h
  · exact still2 o x a a' b b' c c' d d' h
  · exact still3 o x a a' b b' c c' d d' h
end Go.Fl
