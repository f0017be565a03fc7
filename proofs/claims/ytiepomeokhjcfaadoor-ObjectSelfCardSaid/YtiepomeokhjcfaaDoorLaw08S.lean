/-
  The statement ObjectSelf, walked. No condition beyond the object's sizes.
-/
import Derived.Test.YtiepomeokhjcfaaDoorLaw08T
import Derived.Test.YtiepomeokhjcfaaDoorErrAs
namespace Go.Fl
open Go.Proofs Go.RowKit
set_option maxRecDepth 10000
set_option maxHeartbeats 40000000

/-! plain: what may be is as it was filled in -/
theorem like_facts {o : Oj} (hk : o.kind = 1 ∨ o.kind = 2 ∨ o.kind = 3) (h : chkRest o = 0) : inN o.rise 1 8 ∧ inN o.fall 1 8 ∧ okS o := by
  unfold chkRest at h
  split at h
  · cases h
  · split at h
    · cases h
    · split at h
      · rename_i h1 h2 h3
        have h2 := Classical.not_not.1 h2
        exact ⟨h2.2.1, h2.2.2, h3⟩
      · cases h
theorem chk_like {o : Oj} (h : chkO o = 0) (hk : o.kind = 1 ∨ o.kind = 2 ∨ o.kind = 3) : chkRest o = 0 := by
  unfold chkO at h
  (repeat' split at h) <;> first | (cases h; done) | (exfalso; omega) | skip
  unfold chkLikes at h
  (repeat' split at h) <;> first | (cases h; done) | exact h
theorem or1_id {x : Int} (h : inN x 1 8) : or1 x = x := by unfold or1; rw [if_pos (by omega)]
theorem def_id {o : Oj} (h : chkO o = 0) : defO o = o := by
  by_cases hk : o.kind = 1 ∨ o.kind = 2 ∨ o.kind = 3
  · obtain ⟨h1, h2, h3⟩ := like_facts hk (chk_like h hk)
    unfold defO
    rw [or1_id h1, or1_id h2]
    unfold okS at h3
    by_cases k2 : o.kind = 2
    · rw [if_neg (by omega), if_pos k2] at h3
      rw [if_pos k2, if_neg (by omega)]
    · by_cases k1 : o.kind = 1
      · rw [if_neg k2, if_pos k1]
      · have k3 : o.kind = 3 := by omega
        rw [if_neg k1, if_neg k2, if_pos k3] at h3
        rw [if_neg k2, if_neg k1, if_pos k3]
        by_cases hz : o.hash = 0
        · rw [if_pos hz, ← h3.2]
        · rw [if_neg hz]
  · unfold defO
    rw [if_neg (by omega), if_neg (by omega), if_neg (by omega)]
theorem upd_self {o : Oj} (h : chkO o = 0) : updX o o = o := by unfold updX; rw [def_id h]
theorem chk_kind {o : Oj} (h : chkO o = 0) : inN o.kind 0 5 := by
  unfold chkO at h
  split at h
  · cases h
  · rename_i h1; exact Classical.not_not.1 h1
theorem upd_self0 {o : Oj} (h : chkO o = 0) (hk : ¬ (o.kind = 1 ∨ o.kind = 5)) : updN o o = 0 := by
  have h1 := chk_kind h
  unfold updN
  rw [upd_self h, still_self, if_neg (not_not_intro (by omega)), if_neg (not_not_intro ⟨rfl, rfl⟩), if_neg (not_not_intro (sameP_id _)), h]
theorem upd_self1 {o : Oj} (hk : o.kind = 1 ∨ o.kind = 5) : updN o o = 11 := by unfold updN; rw [if_pos (by omega)]

theorem Same (o p : Oj) (x y x' y' : Option Addr) (c d c' d' : Nat) (h1 : o.labs.length ≤ 4398046511000) (h2 : o.sel.length ≤ 4398046511000) : RetIf Tryd.prog 23 [(ov o x c y d).val, (ov p x' c' y' d').val]
    (fun w => (LabAt w x o.labs ∧ LabAt w y o.sel) ∧ LabAt w x' p.labs ∧ LabAt w y' p.sel) (V.bd (sameP { o with ver := p.ver, born := p.born } p) inferInstance).val := by
  refine ret_start2 Tryd.func23 rfl rfl rfl (fun w0 hw => ?_)
  obtain ⟨⟨ha, hb⟩, ha', hb'⟩ := hw
  refine vstart [(0, ov o x c y d), (1, ov p x' c' y' d')] [] [] ?_
  refine vwith (pt := .run _) _ _ [] tabOk lent_nil fun go => ?_
  apply go 300
  repeat' (first | apply And.intro | intro _)
  all_goals try (first | (show Here _ _ _ _; try (exfalso; omega)) | exact trivial | omega | kernel_rfl | exact rfl)
  rename_i b1 b2
  refine vanyE [1] (ι := Unit) (fun _ => [(2, .ptr true 0 b1 0 1 0 0), (3, .ptr true 1 b2 0 1 0 0)]) (fun _ => [⟨b1, 38, .var (ocs { o with ver := p.ver, born := p.born } (labV o.labs x c) (labV o.sel y d)), []⟩, ⟨b2, 38, .var (ocs p (labV p.labs x' c') (labV p.sel y' d')), []⟩]) (fun _ => []) (fun _ => True) (by kernel_rfl) rfl ?_ (fun hend => ?_)
  rotate_left
  · skip
    apply any_first 0; exact rfl; exact rfl; exact rfl; exact rfl; kernel_rfl; apply p_fa; exact rfl; exact field_of tabOk rfl
    apply any_firstL 1; exact rfl; exact rfl; exact rfl; exact rfl; kernel_rfl; first | (apply l1 1; exact shape_of tabOk rfl; exact rfl; exact rfl; exact rfl; exact rfl) | (apply ln 1; exact shape_of tabOk rfl; exact rfl; exact rfl; exact rfl; exact rfl)
    apply any_first 2; exact rfl; exact rfl; exact rfl; exact rfl; kernel_rfl; apply p_fa; exact rfl; exact field_of tabOk rfl
    apply any_firstL 3; exact rfl; exact rfl; exact rfl; exact rfl; kernel_rfl; first | (apply l1 1; exact shape_of tabOk rfl; exact rfl; exact rfl; exact rfl; exact rfl) | (apply ln 1; exact shape_of tabOk rfl; exact rfl; exact rfl; exact rfl; exact rfl)
    apply any_first 4; exact rfl; exact rfl; exact rfl; exact rfl; kernel_rfl; apply p_fa; exact rfl; exact field_of tabOk rfl
    refine any_step [5] (by kernel_rfl) rfl (by kernel_rfl) ?_
    intro i hi
    simp only [List.mem_cons, List.not_mem_nil, or_false] at hi
    subst hi
    apply aso 0; exact size_of tabOk rfl; exact rfl; exact rfl; exact rfl; exact rfl; exact rfl; exact so_le rfl; exact so_one rfl
    apply any_first 6; exact rfl; exact rfl; exact rfl; exact rfl; kernel_rfl; apply p_fa; exact rfl; exact field_of tabOk rfl
    refine any_step [7] (by kernel_rfl) rfl (by kernel_rfl) ?_
    intro i hi
    simp only [List.mem_cons, List.not_mem_nil, or_false] at hi
    subst hi
    apply aso 0; exact size_of tabOk rfl; exact rfl; exact rfl; exact rfl; exact rfl; exact rfl; exact so_le rfl; exact so_one rfl
    refine any_end (by kernel_rfl) ?_
    exact hend () _ _ trivial ⟨rfl, rfl, trivial⟩ (List.Perm.refl _)
  intro _ _
  refine vwith (pt := .run _) _ _ [] tabOk lent_nil fun go => ?_
  apply go 300
  repeat' (first | apply And.intro | intro _)
  all_goals try (first | (show Here _ _ _ _; try (exfalso; omega)) | exact trivial | omega | kernel_rfl | exact rfl)
  refine vcall (v := .bd (sameP { o with ver := p.ver, born := p.born } p) inferInstance) rfl rfl (by kernel_rfl) (alike { o with ver := p.ver, born := p.born } p x y x' y' c d c' d' h1 h2) (by exact fun _ h => ⟨⟨ha.st h, hb.st h⟩, ha'.st h, hb'.st h⟩) ?_
  apply go 300
  repeat' (first | apply And.intro | intro _)
  all_goals try (first | (show Here _ _ _ _; try (exfalso; omega)) | exact trivial | omega | kernel_rfl | exact rfl)
  exact vr1 rfl rfl rfl
theorem law08Self (o : Oj) (a a' : Option Addr) (c c' : Nat) (hn : o.labs.length ≤ 4398046511000) (hn' : o.sel.length ≤ 4398046511000) (hsz : Sz o) : RetIf Tryd.prog 6 [(ov o a c a' c').val] (fun w => (LabAt w a o.labs ∧ LabAt w a' o.sel) ∧ Laid w) (.bool true) := by
  refine ret_start1 Tryd.func6 rfl rfl rfl (fun w0 hw => ?_)
  obtain ⟨⟨hw, hw'⟩, hL⟩ := hw
  refine vstart [(0, ov o a c a' c')] [] [] ?_
  refine vwith (pt := .run _) _ _ [] tabOk lent_nil fun go => ?_
  have hC := CheckO o a a' c c' hn hn' hsz
  apply go 300
  repeat' (first | apply And.intro | intro _)
  all_goals try (first | (show Here _ _ _ _; try (exfalso; omega)) | exact trivial | omega | kernel_rfl | exact rfl)
  refine vcall (v := .bl true) rfl rfl (by kernel_rfl) works (by exact fun _ h => hL.st h) ?_
  apply go 300
  repeat' (first | apply And.intro | intro _)
  all_goals try (first | (show Here _ _ _ _; try (exfalso; omega)) | exact trivial | omega | kernel_rfl | exact rfl)
  by_cases h0 : chkO o = 0
  rotate_left
  · rw [show errN (chkO o) = (V.ifc 79 (.int .i64 (chkO o))).val from by unfold errN; rw [if_neg h0]; rfl] at hC
    refine vcall (v := .ifc 79 (.int .i64 (chkO o))) rfl rfl (by kernel_rfl) hC (by exact fun _ h => ⟨⟨hw.st h, hw'.st h⟩, hL.st h⟩) ?_
    apply go 300
    repeat' (first | apply And.intro | intro _)
    all_goals try (first | (show Here _ _ _ _; try (exfalso; omega)) | exact trivial | omega | kernel_rfl | exact rfl)
    refine vcall (v := .bl true) rfl rfl (by kernel_rfl) works (by exact fun _ h => hL.st h) ?_
    apply go 300
    repeat' (first | apply And.intro | intro _)
    all_goals try (first | (show Here _ _ _ _; try (exfalso; omega)) | exact trivial | omega | kernel_rfl | exact rfl)
    exact vr1 rfl rfl rfl
  rw [show errN (chkO o) = (V.raw .nilIface).val from by unfold errN; rw [if_pos h0]; rfl] at hC
  refine vcall (v := .raw .nilIface) rfl rfl (by kernel_rfl) hC (by exact fun _ h => ⟨⟨hw.st h, hw'.st h⟩, hL.st h⟩) ?_
  apply go 300
  repeat' (first | apply And.intro | intro _)
  all_goals try (first | (show Here _ _ _ _; try (exfalso; omega)) | exact trivial | omega | kernel_rfl | exact rfl)
  refine vcc rfl rfl (by kernel_rfl) (Update o o a a' a a' c c' c c' hn hn' hn hn' hsz) (by exact fun _ h => ⟨⟨⟨hw.st h, hw'.st h⟩, hw.st h, hw'.st h⟩, hL.st h⟩) ?_
  have hU := upd_self h0
  by_cases hk : o.kind = 1 ∨ o.kind = 5
  · have hN := upd_self1 hk
    rintro _ q1 (⟨h9, _⟩ | ⟨_, rfl⟩)
    · rw [hN] at h9; cases h9
    rw [hN]
    refine ⟨.tup [ov zeroO none 0 none 0, .ifc 79 (.int .i64 11)], rfl, ?_⟩
    have hP := plainE 11 11
    rw [show decide (num 11 = 11) = true from by decide] at hP
    apply go 300
    repeat' (first | apply And.intro | intro _)
    all_goals try (first | (show Here _ _ _ _; try (exfalso; omega)) | exact trivial | omega | kernel_rfl | exact rfl)
    all_goals try (exfalso; omega)
    all_goals
      refine vcall (v := .bl true) rfl rfl (by kernel_rfl) hP (by exact fun _ h => hL.st h) ?_
      apply go 300
      repeat' (first | apply And.intro | intro _)
      all_goals try (first | (show Here _ _ _ _; try (exfalso; omega)) | exact trivial | omega | kernel_rfl | exact rfl)
      exact vr1 rfl rfl rfl
  · have hN := upd_self0 h0 hk
    rintro _ q1 (⟨_, x1, d1, x2, d2, rfl, hr1, hr2⟩ | ⟨h9, _⟩)
    rotate_left
    · exact absurd hN h9
    rw [hU] at hr1 hr2 ⊢
    refine ⟨.tup [ov o x1 d1 x2 d2, .raw .nilIface], rfl, ?_⟩
    apply go 300
    repeat' (first | apply And.intro | intro _)
    all_goals try (first | (show Here _ _ _ _; try (exfalso; omega)) | exact trivial | omega | kernel_rfl | exact rfl)
    all_goals try (exfalso; omega)
    refine vcall (v := .bl true) rfl rfl (by kernel_rfl) (show RetIf _ _ _ _ (V.bl true).val from by have := SameObject o o x1 x2 a a' d1 d2 c c' hn hn'; rw [bd_t (sameP_id o)] at this; exact this) (by exact fun _ h => ⟨⟨hr1 _ _ _ _ (fun y hy => by simp [hy]) h, hr2 _ _ _ _ (fun y hy => by simp [hy]) h⟩, hw.st h, hw'.st h⟩) ?_
    apply go 300
    repeat' (first | apply And.intro | intro _)
    all_goals try (first | (show Here _ _ _ _; try (exfalso; omega)) | exact trivial | omega | kernel_rfl | exact rfl)
    refine vcall (v := .bl true) rfl rfl (by kernel_rfl) (show RetIf _ _ _ _ (V.bl true).val from by have := Same o o x1 x2 a a' d1 d2 c c' hn hn'; rw [bd_t (sameP_id o)] at this; exact this) (by exact fun _ h => ⟨⟨hr1 _ _ _ _ (fun y hy => by simp [hy]) h, hr2 _ _ _ _ (fun y hy => by simp [hy]) h⟩, hw.st h, hw'.st h⟩) ?_
    apply go 300
    repeat' (first | apply And.intro | intro _)
    all_goals try (first | (show Here _ _ _ _; try (exfalso; omega)) | exact trivial | omega | kernel_rfl | exact rfl)
    exact vr1 rfl rfl rfl
end Go.Fl
