/-
  Objects: small functions. No condition.
-/
import Derived.Test.YtiepomeokhjcfaaGreatDoorObj
import Derived.Test.YtiepomeokhjcfaaGreatDoorVr
import Derived.Test.YtiepomeokhjcfaaGreatDoorCloneW
namespace Go.Fl
open Go.Proofs Go.RowKit
set_option maxRecDepth 10000
set_option maxHeartbeats 4000000

/-- A list that can be read wherever these blocks are. -/
def RdL (x : Option Addr) (L : List Lab) (bs : Hs) : Prop := ∀ (W0 w : World) (own : List Nat) (hs : Hs), (∀ y ∈ bs, y ∈ hs) → St W0 own hs w → LabAt w x L
theorem RdL.mono {x : Option Addr} {L : List Lab} {bs bs' : Hs} (h : RdL x L bs) (hs : ∀ y ∈ bs, y ∈ bs') : RdL x L bs' := fun W0 w own hs' hm hst => h W0 w own hs' (fun y hy => hm y (hs y hy)) hst
def LabsAt (L : List Lab) (v : Go.Value) (bs : Hs) : Prop := ∃ x d, v = .slice x L.length d ∧ (L.length ≤ d ∧ OutAt L (.slice x L.length d) bs) ∧ RdL x L bs
theorem labs_out {L : List Lab} {v : Go.Value} {bs : Hs} (h : OutAt L v bs) : LabsAt L v bs := by
  obtain ⟨x, d, rfl, hd, hr⟩ := outAt_lab h
  exact ⟨x, d, rfl, ⟨hd, h⟩, hr⟩
theorem Con.mono {P : Program} {f : FuncId} {args : List Go.Value} {bs : Hs} {pre : World → Prop} {post post' : Go.Value → Hs → Prop} (h : Con P f args bs pre post) (hp : ∀ v hs, post v hs → post' v hs) : Con P f args bs pre post' :=
  ⟨fun w hst hw => (h.go w hst hw).mono (by rintro en w' ⟨v, hs', rfl, hst', hpost⟩; exact ⟨v, hs', rfl, hst', hp _ _ hpost⟩)⟩
theorem labAt_nil {w : World} {a : Option Addr} {L : List Lab} (h : LabAt w a L) : a = none → L = [] := by rintro rfl; exact h.none
theorem CloneL (L : List Lab) (a : Option Addr) (c : Nat) (hn : L.length ≤ 4398046511000) (h0 : a = none → L = []) : Con Tryz.prog 101 [.slice a L.length c] [] (fun w => LabAt w a L) (fun v bs => LabsAt L v bs) := by
  refine (CloneW L a c hn).mono fun v bs h => ?_
  rcases h with ⟨ha, rfl, rfl⟩ | h
  · obtain rfl := h0 ha
    exact labs_out (Or.inl ⟨rfl, rfl, rfl⟩)
  · exact labs_out (Or.inr h)
/-- These blocks are just those of its lists. -/
def Owns (o : Oj) (x : Option Addr) (d : Nat) (x' : Option Addr) (d' : Nat) (bs : Hs) : Prop := ∃ b1 b2, OutAt o.labs (.slice x o.labs.length d) b1 ∧ OutAt o.sel (.slice x' o.sel.length d') b2 ∧ bs.Perm (b1 ++ b2)
/-- An object that was answered, with these blocks. -/
def OPost (o : Oj) (v : Go.Value) (bs : Hs) : Prop := ∃ x d x' d', v = (ov o x d x' d').val ∧ o.labs.length ≤ d ∧ (o.sel.length ≤ d' ∧ Owns o x d x' d' bs) ∧ RdL x o.labs bs ∧ RdL x' o.sel bs
theorem clone (o : Oj) (a a' : Option Addr) (c c' : Nat) (h1 : o.labs.length ≤ 4398046511000) (h2 : o.sel.length ≤ 4398046511000) : Con Tryz.prog 43 [(ov o a c a' c').val] [] (fun w => LabAt w a o.labs ∧ LabAt w a' o.sel) (OPost o) := by
  refine con_start1 Tryz.func43 rfl rfl rfl (fun w0 hw => ?_)
  refine vstart [(0, ov o a c a' c')] [] [] ?_
  refine vwith (pt := .run _) _ _ [] tabOk lent_nil fun go => ?_
  apply go 300
  repeat' (first | apply And.intro | intro _)
  all_goals try (first | (show Here _ _ _ _; try (exfalso; omega)) | exact trivial | omega | kernel_rfl | exact rfl)
  rename_i b1 b2
  refine vanyE [] (ι := Option Addr × Nat × Hs × Option Addr × Nat × Hs) (fun s => [(1, .ptr true 0 b1 0 1 0 0), (2, .ptr true 1 b2 0 1 0 0)]) (fun s => [⟨b1, 27, .var (ocs o (labV o.labs s.1 s.2.1) (labV o.sel s.2.2.2.1 s.2.2.2.2.1)), []⟩, ⟨b2, 27, .var (cellsV (.raw ((zeroL tab 27).getD undef))), []⟩]) (fun s => s.2.2.1 ++ s.2.2.2.2.2)
    (fun s => (o.labs.length ≤ s.2.1 ∧ OutAt o.labs (.slice s.1 o.labs.length s.2.1) s.2.2.1) ∧ RdL s.1 o.labs s.2.2.1 ∧ (o.sel.length ≤ s.2.2.2.2.1 ∧ OutAt o.sel (.slice s.2.2.2.1 o.sel.length s.2.2.2.2.1) s.2.2.2.2.2) ∧ RdL s.2.2.2.1 o.sel s.2.2.2.2.2) (by kernel_rfl) rfl ?_ (fun hend => ?_)
  · rintro ⟨x1, d1, q1, x2, d2, q2⟩ ⟨hd1, hr1, hd2, hr2⟩
    refine vwith (pt := .run _) _ _ [] tabOk lent_nil fun go => ?_
    apply go 300
    repeat' (first | apply And.intro | intro _)
    all_goals try (first | (show Here _ _ _ _; try (exfalso; omega)) | exact trivial | omega | kernel_rfl | exact rfl)
    refine vcc1 (bs := q1 ++ q2) tabOk (by exact rfl) (by exact rfl) (by exact rfl) (by exact rfl) (by exact rfl) (List.sublist_append_right _ _) ?_
    exact ⟨x1, d1, x2, d2, rfl, hd1.1, ⟨hd2.1, q1, q2, hd1.2, hd2.2, List.Perm.refl _⟩, hr1.mono (fun y hy => List.mem_append_left _ hy), hr2.mono (fun y hy => List.mem_append_right _ hy)⟩
  apply any_first 0; exact rfl; exact rfl; exact rfl; exact rfl; kernel_rfl; first | (apply pv; exact rfl; exact rfl) | (first | (apply pv; exact rfl; exact rfl) | (apply p_ls; exact rfl; kernel_rfl) | (apply p_ll; exact rfl; kernel_rfl) | (apply p_ic; exact rfl; omega) | (apply p_s1; exact rfl; omega; omega) | (apply p_sb; exact rfl; exact rfl; omega; omega) | (apply p_ad; exact rfl; exact rfl; omega) | (apply p_be; exact rfl; exact rfl; kernel_rfl) | (apply p_bn; exact rfl; exact rfl; kernel_rfl) | (apply p_en; exact rfl; exact rfl; kernel_rfl) | (apply p_nn; exact rfl; exact rfl; kernel_rfl) | (apply p_cv; exact rfl; exact int_of tabOk rfl; kernel_rfl) | (apply p_mi; exact rfl; exact p_mi_ok (kind_of tabOk rfl) rfl) | (apply p_fa; exact rfl; exact field_of tabOk rfl) | (apply p_nc; exact rfl) | (apply p_bk; exact rfl; omega; omega; kernel_rfl) | (apply p_by; exact rfl; exact rfl; omega; kernel_rfl) | (apply p_ia; exact rfl; exact rfl; exact elem_of tabOk rfl; omega) | (apply p_ar; exact rfl; exact rfl; exact rfl) | (apply p_bd tabOk; exact rfl; exact rfl; exact rfl; exact ⟨rfl, rfl⟩))
  apply any_first 3; exact rfl; exact rfl; exact rfl; exact rfl; kernel_rfl; first | (apply pv; exact rfl; exact rfl) | (first | (apply pv; exact rfl; exact rfl) | (apply p_ls; exact rfl; kernel_rfl) | (apply p_ll; exact rfl; kernel_rfl) | (apply p_ic; exact rfl; omega) | (apply p_s1; exact rfl; omega; omega) | (apply p_sb; exact rfl; exact rfl; omega; omega) | (apply p_ad; exact rfl; exact rfl; omega) | (apply p_be; exact rfl; exact rfl; kernel_rfl) | (apply p_bn; exact rfl; exact rfl; kernel_rfl) | (apply p_en; exact rfl; exact rfl; kernel_rfl) | (apply p_nn; exact rfl; exact rfl; kernel_rfl) | (apply p_cv; exact rfl; exact int_of tabOk rfl; kernel_rfl) | (apply p_mi; exact rfl; exact p_mi_ok (kind_of tabOk rfl) rfl) | (apply p_fa; exact rfl; exact field_of tabOk rfl) | (apply p_nc; exact rfl) | (apply p_bk; exact rfl; omega; omega; kernel_rfl) | (apply p_by; exact rfl; exact rfl; omega; kernel_rfl) | (apply p_ia; exact rfl; exact rfl; exact elem_of tabOk rfl; omega) | (apply p_ar; exact rfl; exact rfl; exact rfl) | (apply p_bd tabOk; exact rfl; exact rfl; exact rfl; exact ⟨rfl, rfl⟩))
  refine any_step [1, 4] (by kernel_rfl) rfl (by kernel_rfl) ?_
  intro i hi
  simp only [List.mem_cons, List.not_mem_nil, or_false] at hi
  rcases hi with rfl | rfl
  · skip
    apply a2; exact rfl; (first | (apply r_l1 0; exact shape_of tabOk rfl; exact rfl; exact rfl; exact rfl) | (apply r_ln 0; exact shape_of tabOk rfl; exact rfl; exact rfl; exact rfl) | (apply r_l1 1; exact shape_of tabOk rfl; exact rfl; exact rfl; exact rfl) | (apply r_ln 1; exact shape_of tabOk rfl; exact rfl; exact rfl; exact rfl) | (apply r_l1 2; exact shape_of tabOk rfl; exact rfl; exact rfl; exact rfl) | (apply r_ln 2; exact shape_of tabOk rfl; exact rfl; exact rfl; exact rfl) | (apply r_l1 3; exact shape_of tabOk rfl; exact rfl; exact rfl; exact rfl) | (apply r_ln 3; exact shape_of tabOk rfl; exact rfl; exact rfl; exact rfl))
    refine any_step [2, 4] (by kernel_rfl) rfl (by kernel_rfl) ?_
    intro i hi
    simp only [List.mem_cons, List.not_mem_nil, or_false] at hi
    rcases hi with rfl | rfl
    · skip
      refine ac (xs := [.tmp 4]) rfl (by kernel_rfl) rfl (CloneL o.labs a c h1 (labAt_nil hw.1)) (by exact fun _ h => hw.1.st h) ?_
      rintro _ q1 ⟨x1, d1, rfl, hd1, hr1⟩
      refine any_step [4] (by kernel_rfl) rfl (by kernel_rfl) ?_
      intro i hi
      simp only [List.mem_cons, List.not_mem_nil, or_false] at hi
      subst hi
      apply a2; exact rfl; (first | (apply r_l1 0; exact shape_of tabOk rfl; exact rfl; exact rfl; exact rfl) | (apply r_ln 0; exact shape_of tabOk rfl; exact rfl; exact rfl; exact rfl) | (apply r_l1 1; exact shape_of tabOk rfl; exact rfl; exact rfl; exact rfl) | (apply r_ln 1; exact shape_of tabOk rfl; exact rfl; exact rfl; exact rfl) | (apply r_l1 2; exact shape_of tabOk rfl; exact rfl; exact rfl; exact rfl) | (apply r_ln 2; exact shape_of tabOk rfl; exact rfl; exact rfl; exact rfl) | (apply r_l1 3; exact shape_of tabOk rfl; exact rfl; exact rfl; exact rfl) | (apply r_ln 3; exact shape_of tabOk rfl; exact rfl; exact rfl; exact rfl))
      apply any_first 6; exact rfl; exact rfl; exact rfl; exact rfl; kernel_rfl; first | (apply pv; exact rfl; exact rfl) | (first | (apply pv; exact rfl; exact rfl) | (apply p_ls; exact rfl; kernel_rfl) | (apply p_ll; exact rfl; kernel_rfl) | (apply p_ic; exact rfl; omega) | (apply p_s1; exact rfl; omega; omega) | (apply p_sb; exact rfl; exact rfl; omega; omega) | (apply p_ad; exact rfl; exact rfl; omega) | (apply p_be; exact rfl; exact rfl; kernel_rfl) | (apply p_bn; exact rfl; exact rfl; kernel_rfl) | (apply p_en; exact rfl; exact rfl; kernel_rfl) | (apply p_nn; exact rfl; exact rfl; kernel_rfl) | (apply p_cv; exact rfl; exact int_of tabOk rfl; kernel_rfl) | (apply p_mi; exact rfl; exact p_mi_ok (kind_of tabOk rfl) rfl) | (apply p_fa; exact rfl; exact field_of tabOk rfl) | (apply p_nc; exact rfl) | (apply p_bk; exact rfl; omega; omega; kernel_rfl) | (apply p_by; exact rfl; exact rfl; omega; kernel_rfl) | (apply p_ia; exact rfl; exact rfl; exact elem_of tabOk rfl; omega) | (apply p_ar; exact rfl; exact rfl; exact rfl) | (apply p_bd tabOk; exact rfl; exact rfl; exact rfl; exact ⟨rfl, rfl⟩))
      refine any_step [5] (by kernel_rfl) rfl (by kernel_rfl) ?_
      intro i hi
      simp only [List.mem_cons, List.not_mem_nil, or_false] at hi
      subst hi
      refine ac (xs := [.tmp 7]) rfl (by kernel_rfl) rfl (CloneL o.sel a' c' h2 (labAt_nil hw.2)) (by exact fun _ h => hw.2.st h) ?_
      rintro _ q2 ⟨x2, d2, rfl, hd2, hr2⟩
      refine any_step [7] (by kernel_rfl) rfl (by kernel_rfl) ?_
      intro i hi
      simp only [List.mem_cons, List.not_mem_nil, or_false] at hi
      subst hi
      apply aso 0; exact size_of tabOk rfl; exact rfl; exact rfl; exact rfl; exact rfl; exact rfl; exact so_le rfl; exact so_one rfl
      apply any_first 8; exact rfl; exact rfl; exact rfl; exact rfl; kernel_rfl; first | (apply pv; exact rfl; exact rfl) | (first | (apply pv; exact rfl; exact rfl) | (apply p_ls; exact rfl; kernel_rfl) | (apply p_ll; exact rfl; kernel_rfl) | (apply p_ic; exact rfl; omega) | (apply p_s1; exact rfl; omega; omega) | (apply p_sb; exact rfl; exact rfl; omega; omega) | (apply p_ad; exact rfl; exact rfl; omega) | (apply p_be; exact rfl; exact rfl; kernel_rfl) | (apply p_bn; exact rfl; exact rfl; kernel_rfl) | (apply p_en; exact rfl; exact rfl; kernel_rfl) | (apply p_nn; exact rfl; exact rfl; kernel_rfl) | (apply p_cv; exact rfl; exact int_of tabOk rfl; kernel_rfl) | (apply p_mi; exact rfl; exact p_mi_ok (kind_of tabOk rfl) rfl) | (apply p_fa; exact rfl; exact field_of tabOk rfl) | (apply p_nc; exact rfl) | (apply p_bk; exact rfl; omega; omega; kernel_rfl) | (apply p_by; exact rfl; exact rfl; omega; kernel_rfl) | (apply p_ia; exact rfl; exact rfl; exact elem_of tabOk rfl; omega) | (apply p_ar; exact rfl; exact rfl; exact rfl) | (apply p_bd tabOk; exact rfl; exact rfl; exact rfl; exact ⟨rfl, rfl⟩))
      refine any_step [9] (by kernel_rfl) rfl (by kernel_rfl) ?_
      intro i hi
      simp only [List.mem_cons, List.not_mem_nil, or_false] at hi
      subst hi
      apply aso 0; exact size_of tabOk rfl; exact rfl; exact rfl; exact rfl; exact rfl; exact rfl; exact so_le rfl; exact so_one rfl
      refine any_end (by kernel_rfl) ?_
      exact hend (x1, d1, q1, x2, d2, q2) _ _ ⟨hd1, hr1, hd2, hr2⟩ ⟨rfl, rfl, trivial⟩ (List.Perm.refl _)
    · skip
      apply a2; exact rfl; (first | (apply r_l1 0; exact shape_of tabOk rfl; exact rfl; exact rfl; exact rfl) | (apply r_ln 0; exact shape_of tabOk rfl; exact rfl; exact rfl; exact rfl) | (apply r_l1 1; exact shape_of tabOk rfl; exact rfl; exact rfl; exact rfl) | (apply r_ln 1; exact shape_of tabOk rfl; exact rfl; exact rfl; exact rfl) | (apply r_l1 2; exact shape_of tabOk rfl; exact rfl; exact rfl; exact rfl) | (apply r_ln 2; exact shape_of tabOk rfl; exact rfl; exact rfl; exact rfl) | (apply r_l1 3; exact shape_of tabOk rfl; exact rfl; exact rfl; exact rfl) | (apply r_ln 3; exact shape_of tabOk rfl; exact rfl; exact rfl; exact rfl))
      refine any_step [2] (by kernel_rfl) rfl (by kernel_rfl) ?_
      intro i hi
      simp only [List.mem_cons, List.not_mem_nil, or_false] at hi
      subst hi
      refine ac (xs := [.tmp 4]) rfl (by kernel_rfl) rfl (CloneL o.labs a c h1 (labAt_nil hw.1)) (by exact fun _ h => hw.1.st h) ?_
      rintro _ q1 ⟨x1, d1, rfl, hd1, hr1⟩
      apply any_first 6; exact rfl; exact rfl; exact rfl; exact rfl; kernel_rfl; first | (apply pv; exact rfl; exact rfl) | (first | (apply pv; exact rfl; exact rfl) | (apply p_ls; exact rfl; kernel_rfl) | (apply p_ll; exact rfl; kernel_rfl) | (apply p_ic; exact rfl; omega) | (apply p_s1; exact rfl; omega; omega) | (apply p_sb; exact rfl; exact rfl; omega; omega) | (apply p_ad; exact rfl; exact rfl; omega) | (apply p_be; exact rfl; exact rfl; kernel_rfl) | (apply p_bn; exact rfl; exact rfl; kernel_rfl) | (apply p_en; exact rfl; exact rfl; kernel_rfl) | (apply p_nn; exact rfl; exact rfl; kernel_rfl) | (apply p_cv; exact rfl; exact int_of tabOk rfl; kernel_rfl) | (apply p_mi; exact rfl; exact p_mi_ok (kind_of tabOk rfl) rfl) | (apply p_fa; exact rfl; exact field_of tabOk rfl) | (apply p_nc; exact rfl) | (apply p_bk; exact rfl; omega; omega; kernel_rfl) | (apply p_by; exact rfl; exact rfl; omega; kernel_rfl) | (apply p_ia; exact rfl; exact rfl; exact elem_of tabOk rfl; omega) | (apply p_ar; exact rfl; exact rfl; exact rfl) | (apply p_bd tabOk; exact rfl; exact rfl; exact rfl; exact ⟨rfl, rfl⟩))
      refine any_step [5] (by kernel_rfl) rfl (by kernel_rfl) ?_
      intro i hi
      simp only [List.mem_cons, List.not_mem_nil, or_false] at hi
      subst hi
      refine ac (xs := [.tmp 7]) rfl (by kernel_rfl) rfl (CloneL o.sel a' c' h2 (labAt_nil hw.2)) (by exact fun _ h => hw.2.st h) ?_
      rintro _ q2 ⟨x2, d2, rfl, hd2, hr2⟩
      refine any_step [7] (by kernel_rfl) rfl (by kernel_rfl) ?_
      intro i hi
      simp only [List.mem_cons, List.not_mem_nil, or_false] at hi
      subst hi
      apply aso 0; exact size_of tabOk rfl; exact rfl; exact rfl; exact rfl; exact rfl; exact rfl; exact so_le rfl; exact so_one rfl
      apply any_first 8; exact rfl; exact rfl; exact rfl; exact rfl; kernel_rfl; first | (apply pv; exact rfl; exact rfl) | (first | (apply pv; exact rfl; exact rfl) | (apply p_ls; exact rfl; kernel_rfl) | (apply p_ll; exact rfl; kernel_rfl) | (apply p_ic; exact rfl; omega) | (apply p_s1; exact rfl; omega; omega) | (apply p_sb; exact rfl; exact rfl; omega; omega) | (apply p_ad; exact rfl; exact rfl; omega) | (apply p_be; exact rfl; exact rfl; kernel_rfl) | (apply p_bn; exact rfl; exact rfl; kernel_rfl) | (apply p_en; exact rfl; exact rfl; kernel_rfl) | (apply p_nn; exact rfl; exact rfl; kernel_rfl) | (apply p_cv; exact rfl; exact int_of tabOk rfl; kernel_rfl) | (apply p_mi; exact rfl; exact p_mi_ok (kind_of tabOk rfl) rfl) | (apply p_fa; exact rfl; exact field_of tabOk rfl) | (apply p_nc; exact rfl) | (apply p_bk; exact rfl; omega; omega; kernel_rfl) | (apply p_by; exact rfl; exact rfl; omega; kernel_rfl) | (apply p_ia; exact rfl; exact rfl; exact elem_of tabOk rfl; omega) | (apply p_ar; exact rfl; exact rfl; exact rfl) | (apply p_bd tabOk; exact rfl; exact rfl; exact rfl; exact ⟨rfl, rfl⟩))
      refine any_step [9] (by kernel_rfl) rfl (by kernel_rfl) ?_
      intro i hi
      simp only [List.mem_cons, List.not_mem_nil, or_false] at hi
      subst hi
      apply aso 0; exact size_of tabOk rfl; exact rfl; exact rfl; exact rfl; exact rfl; exact rfl; exact so_le rfl; exact so_one rfl
      refine any_end (by kernel_rfl) ?_
      exact hend (x1, d1, q1, x2, d2, q2) _ _ ⟨hd1, hr1, hd2, hr2⟩ ⟨rfl, rfl, trivial⟩ (List.Perm.refl _)
  · skip
    apply a2; exact rfl; (first | (apply r_l1 0; exact shape_of tabOk rfl; exact rfl; exact rfl; exact rfl) | (apply r_ln 0; exact shape_of tabOk rfl; exact rfl; exact rfl; exact rfl) | (apply r_l1 1; exact shape_of tabOk rfl; exact rfl; exact rfl; exact rfl) | (apply r_ln 1; exact shape_of tabOk rfl; exact rfl; exact rfl; exact rfl) | (apply r_l1 2; exact shape_of tabOk rfl; exact rfl; exact rfl; exact rfl) | (apply r_ln 2; exact shape_of tabOk rfl; exact rfl; exact rfl; exact rfl) | (apply r_l1 3; exact shape_of tabOk rfl; exact rfl; exact rfl; exact rfl) | (apply r_ln 3; exact shape_of tabOk rfl; exact rfl; exact rfl; exact rfl))
    refine any_step [1] (by kernel_rfl) rfl (by kernel_rfl) ?_
    intro i hi
    simp only [List.mem_cons, List.not_mem_nil, or_false] at hi
    subst hi
    apply a2; exact rfl; (first | (apply r_l1 0; exact shape_of tabOk rfl; exact rfl; exact rfl; exact rfl) | (apply r_ln 0; exact shape_of tabOk rfl; exact rfl; exact rfl; exact rfl) | (apply r_l1 1; exact shape_of tabOk rfl; exact rfl; exact rfl; exact rfl) | (apply r_ln 1; exact shape_of tabOk rfl; exact rfl; exact rfl; exact rfl) | (apply r_l1 2; exact shape_of tabOk rfl; exact rfl; exact rfl; exact rfl) | (apply r_ln 2; exact shape_of tabOk rfl; exact rfl; exact rfl; exact rfl) | (apply r_l1 3; exact shape_of tabOk rfl; exact rfl; exact rfl; exact rfl) | (apply r_ln 3; exact shape_of tabOk rfl; exact rfl; exact rfl; exact rfl))
    refine any_step [2] (by kernel_rfl) rfl (by kernel_rfl) ?_
    intro i hi
    simp only [List.mem_cons, List.not_mem_nil, or_false] at hi
    subst hi
    refine ac (xs := [.tmp 4]) rfl (by kernel_rfl) rfl (CloneL o.labs a c h1 (labAt_nil hw.1)) (by exact fun _ h => hw.1.st h) ?_
    rintro _ q1 ⟨x1, d1, rfl, hd1, hr1⟩
    apply any_first 6; exact rfl; exact rfl; exact rfl; exact rfl; kernel_rfl; first | (apply pv; exact rfl; exact rfl) | (first | (apply pv; exact rfl; exact rfl) | (apply p_ls; exact rfl; kernel_rfl) | (apply p_ll; exact rfl; kernel_rfl) | (apply p_ic; exact rfl; omega) | (apply p_s1; exact rfl; omega; omega) | (apply p_sb; exact rfl; exact rfl; omega; omega) | (apply p_ad; exact rfl; exact rfl; omega) | (apply p_be; exact rfl; exact rfl; kernel_rfl) | (apply p_bn; exact rfl; exact rfl; kernel_rfl) | (apply p_en; exact rfl; exact rfl; kernel_rfl) | (apply p_nn; exact rfl; exact rfl; kernel_rfl) | (apply p_cv; exact rfl; exact int_of tabOk rfl; kernel_rfl) | (apply p_mi; exact rfl; exact p_mi_ok (kind_of tabOk rfl) rfl) | (apply p_fa; exact rfl; exact field_of tabOk rfl) | (apply p_nc; exact rfl) | (apply p_bk; exact rfl; omega; omega; kernel_rfl) | (apply p_by; exact rfl; exact rfl; omega; kernel_rfl) | (apply p_ia; exact rfl; exact rfl; exact elem_of tabOk rfl; omega) | (apply p_ar; exact rfl; exact rfl; exact rfl) | (apply p_bd tabOk; exact rfl; exact rfl; exact rfl; exact ⟨rfl, rfl⟩))
    refine any_step [5] (by kernel_rfl) rfl (by kernel_rfl) ?_
    intro i hi
    simp only [List.mem_cons, List.not_mem_nil, or_false] at hi
    subst hi
    refine ac (xs := [.tmp 7]) rfl (by kernel_rfl) rfl (CloneL o.sel a' c' h2 (labAt_nil hw.2)) (by exact fun _ h => hw.2.st h) ?_
    rintro _ q2 ⟨x2, d2, rfl, hd2, hr2⟩
    refine any_step [7] (by kernel_rfl) rfl (by kernel_rfl) ?_
    intro i hi
    simp only [List.mem_cons, List.not_mem_nil, or_false] at hi
    subst hi
    apply aso 0; exact size_of tabOk rfl; exact rfl; exact rfl; exact rfl; exact rfl; exact rfl; exact so_le rfl; exact so_one rfl
    apply any_first 8; exact rfl; exact rfl; exact rfl; exact rfl; kernel_rfl; first | (apply pv; exact rfl; exact rfl) | (first | (apply pv; exact rfl; exact rfl) | (apply p_ls; exact rfl; kernel_rfl) | (apply p_ll; exact rfl; kernel_rfl) | (apply p_ic; exact rfl; omega) | (apply p_s1; exact rfl; omega; omega) | (apply p_sb; exact rfl; exact rfl; omega; omega) | (apply p_ad; exact rfl; exact rfl; omega) | (apply p_be; exact rfl; exact rfl; kernel_rfl) | (apply p_bn; exact rfl; exact rfl; kernel_rfl) | (apply p_en; exact rfl; exact rfl; kernel_rfl) | (apply p_nn; exact rfl; exact rfl; kernel_rfl) | (apply p_cv; exact rfl; exact int_of tabOk rfl; kernel_rfl) | (apply p_mi; exact rfl; exact p_mi_ok (kind_of tabOk rfl) rfl) | (apply p_fa; exact rfl; exact field_of tabOk rfl) | (apply p_nc; exact rfl) | (apply p_bk; exact rfl; omega; omega; kernel_rfl) | (apply p_by; exact rfl; exact rfl; omega; kernel_rfl) | (apply p_ia; exact rfl; exact rfl; exact elem_of tabOk rfl; omega) | (apply p_ar; exact rfl; exact rfl; exact rfl) | (apply p_bd tabOk; exact rfl; exact rfl; exact rfl; exact ⟨rfl, rfl⟩))
    refine any_step [9] (by kernel_rfl) rfl (by kernel_rfl) ?_
    intro i hi
    simp only [List.mem_cons, List.not_mem_nil, or_false] at hi
    subst hi
    apply aso 0; exact size_of tabOk rfl; exact rfl; exact rfl; exact rfl; exact rfl; exact rfl; exact so_le rfl; exact so_one rfl
    refine any_end (by kernel_rfl) ?_
    exact hend (x1, d1, q1, x2, d2, q2) _ _ ⟨hd1, hr1, hd2, hr2⟩ ⟨rfl, rfl, trivial⟩ (List.Perm.refl _)
end Go.Fl

namespace Go.Fl
open Go.Proofs Go.RowKit
set_option maxRecDepth 10000
set_option maxHeartbeats 4000000

theorem within (n low high : Int) : RetIf Tryz.prog 108 [.int .i64 n, .int .i64 low, .int .i64 high] (fun _ => True) (V.bd (inN n low high) inferInstance).val := by
  refine ret_start3 Tryz.func108 rfl rfl rfl (fun w0 hw => ?_)
  refine vstart [(0, .int .i64 n), (1, .int .i64 low), (2, .int .i64 high)] [] [] ?_
  refine vwith (pt := .run _) _ _ [] tabOk lent_nil fun go => ?_
  apply go 300
  repeat' (first | apply And.intro | intro _)
  all_goals try (first | (show Here _ _ _ _; try (exfalso; omega)) | exact trivial | omega | kernel_rfl | exact rfl)
  all_goals exact vr1 rfl rfl (by first | (refine bd_bd ?_; unfold inN; omega) | (refine bd_t ?_; unfold inN; omega) | (refine bd_f ?_; unfold inN; omega))
theorem RightA (c m : Int) : RetIf Tryz.prog 164 [.agg #[.int .i64 c, .int .i64 m]] (fun _ => True) (V.bd (rightA c m) inferInstance).val := by
  refine ret_start1 Tryz.func164 rfl rfl rfl (fun w0 hw => ?_)
  refine vstart [(0, .agg [.int .i64 c, .int .i64 m])] [] [] ?_
  refine vwith (pt := .run _) _ _ [] tabOk lent_nil fun go => ?_
  apply go 300
  repeat' (first | apply And.intro | intro _)
  all_goals try (first | (show Here _ _ _ _; try (exfalso; omega)) | exact trivial | omega | kernel_rfl | exact rfl)
  all_goals exact vr1 rfl rfl (by first | (refine bd_bd ?_; unfold rightA; omega) | (refine bd_t ?_; unfold rightA; omega) | (refine bd_f ?_; unfold rightA; omega))
theorem KeyOf (o : Oj) (x y : Option Addr) (c d : Nat) : RetIf Tryz.prog 17 [(ov o x c y d).val] (fun _ => True) (V.agg [.int .i64 o.kind, .str o.name]).val := by
  refine ret_start1 Tryz.func17 rfl rfl rfl (fun w0 hw => ?_)
  refine vstart [(0, ov o x c y d)] [] [] ?_
  refine vwith (pt := .run _) _ _ [] tabOk lent_nil fun go => ?_
  apply go 300
  repeat' (first | apply And.intro | intro _)
  all_goals try (first | (show Here _ _ _ _; try (exfalso; omega)) | exact trivial | omega | kernel_rfl | exact rfl)
  all_goals exact vrc1 tabOk (by exact rfl) (by exact rfl) (by exact rfl) (by exact rfl) (by exact rfl) (by exact rfl)
theorem or2 (x : Int) (b : Nat) : RetIf Tryz.prog 44 [.slice (some ⟨b, 0, none⟩) 2 2] (fun w => Reads w ⟨b, 0, none⟩ [.int .i64 x, .int .i64 1]) (.int .i64 (or1 x)) := by
  refine ret_start1 Tryz.func44 rfl rfl rfl (fun w0 hw => ?_)
  refine vstart [(0, .sl false 0 b 0 1 none 2 2)] [] [] ?_
  refine vwith (pt := .run _) _ _ [⟨b, 0, .var [.int .i64 x, .int .i64 1]⟩] tabOk (lent_cons List.not_mem_nil hw lent_nil) fun go => ?_
  apply go 300
  repeat' (first | apply And.intro | intro _)
  all_goals try (first | (show Here _ _ _ _; try (exfalso; omega)) | exact trivial | omega | kernel_rfl | exact rfl)
  refine vloop ?_
  apply go 300
  repeat' (first | apply And.intro | intro _)
  all_goals try (first | (show Here _ _ _ _; try (exfalso; omega)) | exact trivial | omega | kernel_rfl | exact rfl)
  · rename_i h
    exact vr1 rfl rfl (by unfold or1; rw [if_pos (show x ≠ 0 from h)]; rfl)
  rename_i h
  refine vagain ?_
  apply go 300
  repeat' (first | apply And.intro | intro _)
  all_goals try (first | (show Here _ _ _ _; try (exfalso; omega)) | exact trivial | omega | kernel_rfl | exact rfl)
  exact vr1 rfl rfl (by unfold or1; rw [if_neg (show ¬ x ≠ 0 from h)]; rfl)
theorem bare (a b : Oj) (x y x' y' : Option Addr) (c d c' d' : Nat) : RetIf Tryz.prog 59 [(ov a x c y d).val, (ov b x' c' y' d').val] (fun _ => True) (V.bd (bareP a b) inferInstance).val := by
  refine ret_start2 Tryz.func59 rfl rfl rfl (fun w0 hw => ?_)
  refine vstart [(0, ov a x c y d), (1, ov b x' c' y' d')] [] [] ?_
  refine vwith (pt := .run _) _ _ [] tabOk lent_nil fun go => ?_
  apply go 700
  repeat' (first | apply And.intro | intro _)
  all_goals try (first | (show Here _ _ _ _; try (exfalso; omega)) | exact trivial | omega | kernel_rfl | exact rfl)
  all_goals exact vr1 rfl rfl (by first | (refine bd_bd ?_; unfold bareP; simp_all) | (refine bd_t ?_; unfold bareP; simp_all) | (refine bd_f ?_; unfold bareP; simp_all))
end Go.Fl
