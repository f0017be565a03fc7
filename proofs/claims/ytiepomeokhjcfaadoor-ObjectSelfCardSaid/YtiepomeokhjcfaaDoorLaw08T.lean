/-
  The statement ObjectTurned, walked. No condition beyond the objects' sizes.
-/
import Derived.Test.YtiepomeokhjcfaaDoorObjU
namespace Go.Fl
open Go.Proofs Go.RowKit
set_option maxRecDepth 10000
set_option maxHeartbeats 40000000

theorem def_name (o : Oj) : (defO o).name = o.name := by unfold defO; (repeat' split) <;> rfl
theorem upd_facts {old asked : Oj} (h : updN old asked = 0) : (old.kind = 0 ∨ old.kind = 2 ∨ old.kind = 3 ∨ old.kind = 4) ∧ asked.kind = old.kind ∧ tl asked.name = tl old.name ∧ sameP (updX old asked) (stillO old (updX old asked)) ∧ chkO (updX old asked) = 0 := by
  unfold updN at h
  by_cases h1 : ¬ (old.kind = 0 ∨ old.kind = 2 ∨ old.kind = 3 ∨ old.kind = 4)
  · rw [if_pos h1] at h; cases h
  rw [if_neg h1] at h
  by_cases h2 : ¬ (asked.kind = old.kind ∧ tl asked.name = tl old.name)
  · rw [if_pos h2] at h; cases h
  rw [if_neg h2] at h
  by_cases h3 : ¬ sameP (updX old asked) (stillO old (updX old asked))
  · rw [if_pos h3] at h; cases h
  rw [if_neg h3] at h
  have h2 := Classical.not_not.1 h2
  exact ⟨Classical.not_not.1 h1, h2.1, h2.2, Classical.not_not.1 h3, h⟩
theorem upd_kind (old asked : Oj) : (updX old asked).kind = asked.kind := def_kind asked
theorem upd_name (old asked : Oj) : (updX old asked).name = asked.name := def_name asked
theorem upd_twice (old asked : Oj) : updX (updX old asked) asked = updX old asked := rfl
theorem upd_again {old asked : Oj} (h : updN old asked = 0) : updN (updX old asked) asked = 0 := by
  obtain ⟨h1, h2, h3, h4, h5⟩ := upd_facts h
  have hk := upd_kind old asked
  unfold updN
  rw [upd_twice, still_self, if_neg (not_not_intro (by rw [hk, h2]; exact h1)), if_neg (not_not_intro ⟨hk.symm, by rw [upd_name]⟩), if_neg (not_not_intro (sameP_id _)), h5]
theorem law08Turned (old asked : Oj) (a a' b b' : Option Addr) (c c' d d' : Nat) (hn : old.labs.length ≤ 4398046511000) (hn' : old.sel.length ≤ 4398046511000) (hm : asked.labs.length ≤ 4398046511000) (hm' : asked.sel.length ≤ 4398046511000) (hsz : Sz asked) :
    RetIf Tryd.prog 5 [(ov old a c a' c').val, (ov asked b d b' d').val] (fun w => ((LabAt w a old.labs ∧ LabAt w a' old.sel) ∧ LabAt w b asked.labs ∧ LabAt w b' asked.sel) ∧ Laid w) (.bool true) := by
  refine ret_start2 Tryd.func5 rfl rfl rfl (fun w0 hw => ?_)
  obtain ⟨⟨⟨hw, hw'⟩, hv, hv'⟩, hL⟩ := hw
  refine vstart [(0, ov old a c a' c'), (1, ov asked b d b' d')] [] [] ?_
  refine vwith (pt := .run _) _ _ [] tabOk lent_nil fun go => ?_
  apply go 300
  repeat' (first | apply And.intro | intro _)
  all_goals try (first | (show Here _ _ _ _; try (exfalso; omega)) | exact trivial | omega | kernel_rfl | exact rfl)
  refine vcc rfl rfl (by kernel_rfl) (Update old asked a a' b b' c c' d d' hn hn' hm hm' hsz) (by exact fun _ h => ⟨⟨⟨hw.st h, hw'.st h⟩, hv.st h, hv'.st h⟩, hL.st h⟩) ?_
  rintro _ q1 (⟨h0, x1, d1, x2, d2, rfl, hr1, hr2⟩ | ⟨h0, rfl⟩)
  rotate_left
  · refine ⟨.tup [ov zeroO none 0 none 0, .ifc 79 (.int .i64 (updN old asked))], rfl, ?_⟩
    apply go 300
    repeat' (first | apply And.intro | intro _)
    all_goals try (first | (show Here _ _ _ _; try (exfalso; omega)) | exact trivial | omega | kernel_rfl | exact rfl)
    refine vcall (v := .bl true) rfl rfl (by kernel_rfl) works (by exact fun _ h => hL.st h) ?_
    apply go 300
    repeat' (first | apply And.intro | intro _)
    all_goals try (first | (show Here _ _ _ _; try (exfalso; omega)) | exact trivial | omega | kernel_rfl | exact rfl)
    refine vcall (v := .bd (sameP zeroO zeroO) inferInstance) rfl rfl (by kernel_rfl) (SameObject zeroO zeroO none none none none 0 0 0 0 (by decide) (by decide)) (by exact fun w _ => ⟨⟨labAt_none w, labAt_none w⟩, labAt_none w, labAt_none w⟩) ?_
    apply go 300
    repeat' (first | apply And.intro | intro _)
    all_goals try (first | (show Here _ _ _ _; try (exfalso; omega)) | exact trivial | omega | kernel_rfl | exact rfl)
    exact vr1 rfl rfl (bd_t (sameP_id _)).symm
  refine ⟨.tup [ov (updX old asked) x1 d1 x2 d2, .raw .nilIface], rfl, ?_⟩
  obtain ⟨f1, f2, f3, f4, f5⟩ := upd_facts h0
  have g0 := upd_again h0
  have g1 := upd_twice old asked
  have hxk : (updX old asked).kind = old.kind := by rw [upd_kind]; exact f2
  have hxn : tl (updX old asked).name = tl old.name := by rw [upd_name]; exact f3
  have hxv : (updX old asked).ver = old.ver := rfl
  have hxb : (updX old asked).born = old.born := rfl
  have hxl : (updX old asked).lost = old.lost := rfl
  have hxt : (updX old asked).beat = old.beat := rfl
  have hs1 : (updX old asked).labs.length ≤ 4398046511000 := by show (defO asked).labs.length ≤ _; rw [def_labs]; exact hm
  have hs2 : (updX old asked).sel.length ≤ 4398046511000 := by show (defO asked).sel.length ≤ _; rw [def_sel]; exact hm'
  have hxz : Sz (updX old asked) := def_sz asked hsz
  generalize updX old asked = X at *
  have hC := CheckO X x1 x2 d1 d2 hs1 hs2 hxz
  rw [f5, show errN 0 = (V.raw .nilIface).val from rfl] at hC
  apply go 300
  repeat' (first | apply And.intro | intro _)
  all_goals try (first | (show Here _ _ _ _; try (exfalso; omega)) | exact trivial | omega | kernel_rfl | exact rfl)
  refine vcall (v := .bl true) rfl rfl (by kernel_rfl) works (by exact fun _ h => hL.st h) ?_
  apply go 300
  repeat' (first | apply And.intro | intro _)
  all_goals try (first | (show Here _ _ _ _; try (exfalso; omega)) | exact trivial | omega | kernel_rfl | exact rfl)
  refine vcc rfl rfl (by kernel_rfl) (Update X asked x1 x2 b b' d1 d2 d d' hs1 hs2 hm hm' hsz) (by exact fun _ h => ⟨⟨⟨hr1 _ _ _ _ (fun y hy => by simp [hy]) h, hr2 _ _ _ _ (fun y hy => by simp [hy]) h⟩, hv.st h, hv'.st h⟩, hL.st h⟩) ?_
  rintro _ q2 (⟨_, y1, e1, y2, e2, rfl, hr3, hr4⟩ | ⟨h9, _⟩)
  rotate_left
  · exact absurd g0 h9
  rw [g1] at hr3 hr4 ⊢
  refine ⟨.tup [ov X y1 e1 y2 e2, .raw .nilIface], rfl, ?_⟩
  apply go 300
  repeat' (first | apply And.intro | intro _)
  all_goals try (first | (show Here _ _ _ _; try (exfalso; omega)) | exact trivial | omega | kernel_rfl | exact rfl)
  refine vdraw (flagsOf _) (by kernel_rfl) (by decide +kernel) (flags_len _) ?_
  apply go 300
  repeat' (first | apply And.intro | intro _)
  all_goals try (first | (show Here _ _ _ _; try (exfalso; omega)) | exact trivial | omega | kernel_rfl | exact rfl)
  refine vcallD (v := .raw .nilIface) rfl rfl (by kernel_rfl) hC (by exact fun _ h => ⟨⟨hr1 _ _ _ _ (fun y hy => by simp [hy]) h, hr2 _ _ _ _ (fun y hy => by simp [hy]) h⟩, hL.st h⟩) ?_
  apply go 300
  repeat' (first | apply And.intro | intro _)
  all_goals try (first | (show Here _ _ _ _; try (exfalso; omega)) | exact trivial | omega | kernel_rfl | exact rfl)
  refine vcallD (v := .agg [.int .i64 X.kind, .str X.name]) rfl rfl (by kernel_rfl) (KeyOf X x1 x2 d1 d2) (by exact fun _ _ => trivial) ?_
  apply go 300
  repeat' (first | apply And.intro | intro _)
  all_goals try (first | (show Here _ _ _ _; try (exfalso; omega)) | exact trivial | omega | kernel_rfl | exact rfl)
  refine vcallD (v := .agg [.int .i64 old.kind, .str old.name]) rfl rfl (by kernel_rfl) (KeyOf old a a' c c') (by exact fun _ _ => trivial) ?_
  apply go 300
  repeat' (first | apply And.intro | intro _)
  all_goals try (first | (show Here _ _ _ _; try (exfalso; omega)) | exact trivial | omega | kernel_rfl | exact rfl)
  all_goals first
    | (exfalso; rename_i h; first | exact h ⟨hxk, hxn, trivial⟩ | exact h hxv | exact h hxb | exact h (by rw [hxl]) | exact h hxt)
    | skip
  refine vcallD (v := .bd (sameP X X) inferInstance) rfl rfl (by kernel_rfl) (SameObject X X x1 x2 y1 y2 d1 d2 e1 e2 hs1 hs2) (by exact fun w hst => ⟨⟨hr1 _ _ _ _ (fun y hy => by simp [hy]) hst, hr2 _ _ _ _ (fun y hy => by simp [hy]) hst⟩, hr3 _ _ _ _ (fun y hy => by simp [hy]) hst, hr4 _ _ _ _ (fun y hy => by simp [hy]) hst⟩) ?_
  apply go 300
  repeat' (first | apply And.intro | intro _)
  all_goals try (first | (show Here _ _ _ _; try (exfalso; omega)) | exact trivial | omega | kernel_rfl | exact rfl)
  exact vr1 rfl rfl (bd_t (sameP_id _)).symm
end Go.Fl
