/-
  An object, turned as asked. No condition beyond the objects' sizes.
-/
import Derived.Test.YtiepomeokhjcfaaDoorObjS
namespace Go.Fl
open Go.Proofs Go.RowKit
set_option maxRecDepth 10000
set_option maxHeartbeats 40000000

theorem results_ct {fn : Func} {tmps : Array Go.Value} {P : Program} {w : World} {t1 t2 : Nat} {y1 : TypeId} {a1 : Addr} {v1 v2 : Go.Value} (hr : fn.results = #[.cell t1 y1, .tmp t2]) (h1 : tmps[t1]? = some (.pointer (some a1))) (h2 : tmps[t2]? = some v2) (l1 : (loadVar y1 a1).run P w = .ok v1 w) :
    (results fn tmps).run P w = .ok (.tuple #[v1, v2]) w := by
  unfold results
  rw [hr, show (#[ResultVar.cell t1 y1, ResultVar.tmp t2] : Array ResultVar) = [ResultVar.cell t1 y1, ResultVar.tmp t2].toArray from rfl, List.mapM_toArray]
  simp [List.mapM_cons, h1, h2, asAddr, l1]
theorem rcct {C : Cx} {k : List Item} {e : Env} {hs hs' : Hs} (ho : Outs C hs hs') {t1 t2 b1 : Nat} {y1 : TypeId} {v1 v2 : Go.Value} (hrd : C.rd.join = none) (hr : C.fn.results = #[.cell t1 y1, .tmp t2]) (g1 : eget e t1 = some (.pointer (some ⟨b1, 0, none⟩))) (g2 : eget e t2 = some v2)
    (hl : ∀ w, St C.W0 C.own hs' w → (loadVar y1 ⟨b1, 0, none⟩).run C.P w = .ok v1 w) (h : ∀ w, St C.W0 C.own hs' w → C.R (.returned (.tuple #[v1, v2])) w) : Run C (.code .ret :: k) e hs := by
  refine ⟨fun a w ok cs => ?_⟩
  have hb : C.b.roundOf = none := hrd
  obtain ⟨w', hsteps, hst⟩ := outs_steps (fr := { C.b.atR a (.code .ret :: k) with mode := .returning }) (cs := cs) ho rfl ok.d ok.st
  unfold Fin
  simp only [hrd]
  exact ⟨.returned (.tuple #[v1, v2]), w', { { C.b.atR a (.code .ret :: k) with mode := .returning } with defers := [] }, h w' hst, Steps.trans (Steps.one (stepR_ret hb)) hsteps, rfl, rfl, rfl, rfl, C.fn, C.hf, results_ct hr (ok.e _ _ g1) (ok.e _ _ g2) (hl w' hst)⟩
section
variable {P : Program} {f : FuncId} {fn : Func} {hf : P.funcs[f]? = some fn} {n : Nat} {w0 : World} {ids : List Nat} {k : List Item} {e : VEnv} {ho : List OB} {tl : Hs} {x z : V} {t t2 key b sz : Nat} {y y' : TypeId} {cells : List V} {sp : List Go.Value} {sh : Option Nat} {tb : Tab} {post : Go.Value → Hs → Prop} {bs : Hs}
theorem vcct1 (hT : TabOk P tb) (hr : fn.results = #[.cell t y, .tmp t2]) (hg : egV e t = some (.ptr true key b 0 sz 0 0)) (hg2 : egV e t2 = some z) (hk : nthU ho key = some ⟨b, y', .var cells, sp⟩) (hs : shapeL tb y = some sh) (hx : takeV sh cells = some x) (hsub : bs.Sublist (rh ho ++ tl)) (hp : post (.tuple #[x.val, z.val]) bs) :
    Here ⟨P, f, fn, hf, n, w0, ids, ConPost w0 ids post, none, []⟩ tl (.run (.code .ret :: k)) e ho :=
  ⟨rcct (b1 := b) (v1 := x.val) (v2 := z.val) (Or.inl ⟨rfl, rfl⟩) rfl hr (by rw [eg_re, hg]; simp [V.val]) (by rw [eg_re, hg2]; rfl) (fun w hst => cell_load (C := ⟨P, f, fn, hf, n, w0, [], RetPost w0 x.val, none, []⟩) hT hk hs hx hst) (fun w hst => ⟨_, _, rfl, hst.sub hsub, hp⟩)⟩
end

def zeroO : Oj := base ⟨0, ⟨#[]⟩, 0, 0, [], 0, 0, false, false, false, 0, ⟨#[]⟩, ⟨#[]⟩, ⟨#[]⟩, 0, false, false, 0, 0, ⟨#[]⟩, 0, 0, 0, 0, 0, false, 0, [], 0, ⟨#[]⟩, 0, 0⟩
def updX (old asked : Oj) : Oj := { defO asked with ver := old.ver, born := old.born, lost := old.lost, beat := old.beat }
def updN (old asked : Oj) : Int :=
  if ¬ (old.kind = 0 ∨ old.kind = 2 ∨ old.kind = 3 ∨ old.kind = 4) then 11 else if ¬ (asked.kind = old.kind ∧ tl asked.name = tl old.name) then 16
  else if ¬ sameP (updX old asked) (stillO old (updX old asked)) then 16 else chkO (updX old asked)
def UPost (old asked : Oj) (v : Go.Value) (bs : Hs) : Prop :=
  (updN old asked = 0 ∧ ∃ x e x' e', v = (V.tup [ov (updX old asked) x e x' e', .raw .nilIface]).val ∧ RdL x (updX old asked).labs bs ∧ RdL x' (updX old asked).sel bs) ∨
  (updN old asked ≠ 0 ∧ v = (V.tup [ov zeroO none 0 none 0, .ifc 79 (.int .i64 (updN old asked))]).val)
theorem upost1 {old asked : Oj} {n : Int} {bs : Hs} (h : updN old asked = n) (h0 : n ≠ 0) : UPost old asked (.tuple #[(ov zeroO none 0 none 0).val, (V.ifc 79 (.int .i64 n)).val]) bs := Or.inr ⟨by rw [h]; exact h0, by rw [h]; rfl⟩
theorem Update (old asked : Oj) (a a' b b' : Option Addr) (c c' d d' : Nat) (hn : old.labs.length ≤ 4398046511000) (hn' : old.sel.length ≤ 4398046511000) (hm : asked.labs.length ≤ 4398046511000) (hm' : asked.sel.length ≤ 4398046511000) (hsz : Sz asked) :
    Con Tryd.prog 20 [(ov old a c a' c').val, (ov asked b d b' d').val] [] (fun w => ((LabAt w a old.labs ∧ LabAt w a' old.sel) ∧ LabAt w b asked.labs ∧ LabAt w b' asked.sel) ∧ Laid w) (UPost old asked) := by
  refine con_start2 Tryd.func20 rfl rfl rfl (fun w0 hw => ?_)
  obtain ⟨⟨⟨hw, hw'⟩, hv, hv'⟩, hL⟩ := hw
  refine vstart [(0, ov old a c a' c'), (1, ov asked b d b' d')] [] [] ?_
  refine vwith (pt := .run _) _ _ [] tabOk lent_nil fun go => ?_
  apply go 7
  repeat' (first | apply And.intro | intro _)
  all_goals try (first | (show Here _ _ _ _; try (exfalso; omega)) | exact trivial | omega | kernel_rfl | exact rfl)
  rename_i b2 b3 b4
  apply go 300
  repeat' (first | apply And.intro | intro _)
  all_goals try (first | (show Here _ _ _ _; try (exfalso; omega)) | exact trivial | omega | kernel_rfl | exact rfl)
  all_goals first
    | (refine vcct1 (bs := []) tabOk (by exact rfl) (by exact rfl) (by exact rfl) (by exact rfl) (by exact rfl) (by exact rfl) (List.nil_sublist _) ?_; exact upost1 (n := 11) (by unfold updN; rw [if_pos (by omega)]) (by decide))
    | skip
  all_goals
    have hk : old.kind = 0 ∨ old.kind = 2 ∨ old.kind = 3 ∨ old.kind = 4 := by omega
    have e1 : updN old asked = if ¬ (asked.kind = old.kind ∧ tl asked.name = tl old.name) then 16 else if ¬ sameP (updX old asked) (stillO old (updX old asked)) then 16 else chkO (updX old asked) := by unfold updN; rw [if_neg (not_not_intro hk)]
    refine vdraw (flagsOf _) (by kernel_rfl) (by decide +kernel) (flags_len _) ?_
    apply go 300
    repeat' (first | apply And.intro | intro _)
    all_goals try (first | (show Here _ _ _ _; try (exfalso; omega)) | exact trivial | omega | kernel_rfl | exact rfl)
    refine vcallD (v := .agg [.int .i64 asked.kind, .str asked.name]) rfl rfl (by kernel_rfl) (KeyOf asked b b' d d') (by exact fun _ _ => trivial) ?_
    apply go 300
    repeat' (first | apply And.intro | intro _)
    all_goals try (first | (show Here _ _ _ _; try (exfalso; omega)) | exact trivial | omega | kernel_rfl | exact rfl)
    refine vcallD (v := .agg [.int .i64 old.kind, .str old.name]) rfl rfl (by kernel_rfl) (KeyOf old a a' c c') (by exact fun _ _ => trivial) ?_
    apply go 300
    repeat' (first | apply And.intro | intro _)
    all_goals try (first | (show Here _ _ _ _; try (exfalso; omega)) | exact trivial | omega | kernel_rfl | exact rfl)
    · rename_i h
      (refine vcct1 (bs := []) tabOk (by exact rfl) (by exact rfl) (by exact rfl) (by exact rfl) (by exact rfl) (by exact rfl) (List.nil_sublist _) ?_; exact upost1 (n := 16) (by rw [e1, if_pos (fun h2 => h ⟨h2.1, h2.2, trivial⟩)]) (by decide))
    · rename_i h
      have h := Classical.not_not.1 h
      have e2 : updN old asked = if ¬ sameP (updX old asked) (stillO old (updX old asked)) then 16 else chkO (updX old asked) := by rw [e1, if_neg (not_not_intro ⟨h.1, h.2.1⟩)]
      refine vcc rfl rfl (by kernel_rfl) (Default asked b b' d d' hm hm' hsz) (by exact fun _ h => ⟨hv.st h, hv'.st h⟩) ?_
      rintro _ q1 ⟨x1, d1, x2, d2, rfl, hd1, hd2, hr1, hr2⟩
      refine ⟨ov (defO asked) x1 d1 x2 d2, rfl, ?_⟩
      apply go 300
      repeat' (first | apply And.intro | intro _)
      all_goals try (first | (show Here _ _ _ _; try (exfalso; omega)) | exact trivial | omega | kernel_rfl | exact rfl)
      rename_i b6
      refine vanyE [0] (ι := Unit) (fun _ => [(2, .ptr true 0 b2 0 1 0 0), (3, .ptr true 1 b3 0 1 0 0), (4, .ptr true 2 b4 0 1 0 0), (6, .ptr true 3 b6 0 1 0 0)]) (fun _ => [⟨b2, 38, .var (ocs old (labV old.labs a c) (labV old.sel a' c')), []⟩, ⟨b3, 38, .var (ocs asked (labV asked.labs b d) (labV asked.sel b' d')), []⟩, ⟨b4, 38, .var (cellsV (.raw ((zeroL tab 38).getD undef))), []⟩, ⟨b6, 38, .var (ocs (updX old asked) (labV (defO asked).labs x1 d1) (labV (defO asked).sel x2 d2)), []⟩]) (fun _ => q1 ++ []) (fun _ => True) (by kernel_rfl) rfl ?_ (fun hend => ?_)
      rotate_left
      · skip
        apply any_first 0; exact rfl; exact rfl; exact rfl; exact rfl; kernel_rfl; apply p_fa; exact rfl; exact field_of tabOk rfl
        apply any_firstL 1; exact rfl; exact rfl; exact rfl; exact rfl; kernel_rfl; first | (apply l1 0; exact shape_of tabOk rfl; exact rfl; exact rfl; exact rfl; exact rfl) | (apply ln 0; exact shape_of tabOk rfl; exact rfl; exact rfl; exact rfl; exact rfl)
        apply any_first 2; exact rfl; exact rfl; exact rfl; exact rfl; kernel_rfl; apply p_fa; exact rfl; exact field_of tabOk rfl
        apply any_firstL 3; exact rfl; exact rfl; exact rfl; exact rfl; kernel_rfl; first | (apply l1 0; exact shape_of tabOk rfl; exact rfl; exact rfl; exact rfl; exact rfl) | (apply ln 0; exact shape_of tabOk rfl; exact rfl; exact rfl; exact rfl; exact rfl)
        apply any_first 4; exact rfl; exact rfl; exact rfl; exact rfl; kernel_rfl; apply p_fa; exact rfl; exact field_of tabOk rfl
        apply any_firstL 5; exact rfl; exact rfl; exact rfl; exact rfl; kernel_rfl; first | (apply l1 0; exact shape_of tabOk rfl; exact rfl; exact rfl; exact rfl; exact rfl) | (apply ln 0; exact shape_of tabOk rfl; exact rfl; exact rfl; exact rfl; exact rfl)
        apply any_first 6; exact rfl; exact rfl; exact rfl; exact rfl; kernel_rfl; apply p_fa; exact rfl; exact field_of tabOk rfl
        apply any_firstL 7; exact rfl; exact rfl; exact rfl; exact rfl; kernel_rfl; first | (apply l1 0; exact shape_of tabOk rfl; exact rfl; exact rfl; exact rfl; exact rfl) | (apply ln 0; exact shape_of tabOk rfl; exact rfl; exact rfl; exact rfl; exact rfl)
        apply any_first 8; exact rfl; exact rfl; exact rfl; exact rfl; kernel_rfl; apply p_fa; exact rfl; exact field_of tabOk rfl
        refine any_step [9] (by kernel_rfl) rfl (by kernel_rfl) ?_
        intro i hi
        simp only [List.mem_cons, List.not_mem_nil, or_false] at hi
        subst hi
        apply aso 3; exact size_of tabOk rfl; exact rfl; exact rfl; exact rfl; exact rfl; exact rfl; exact so_le rfl; exact so_one rfl
        apply any_first 10; exact rfl; exact rfl; exact rfl; exact rfl; kernel_rfl; apply p_fa; exact rfl; exact field_of tabOk rfl
        refine any_step [11] (by kernel_rfl) rfl (by kernel_rfl) ?_
        intro i hi
        simp only [List.mem_cons, List.not_mem_nil, or_false] at hi
        subst hi
        apply aso 3; exact size_of tabOk rfl; exact rfl; exact rfl; exact rfl; exact rfl; exact rfl; exact so_le rfl; exact so_one rfl
        apply any_first 12; exact rfl; exact rfl; exact rfl; exact rfl; kernel_rfl; apply p_fa; exact rfl; exact field_of tabOk rfl
        refine any_step [13] (by kernel_rfl) rfl (by kernel_rfl) ?_
        intro i hi
        simp only [List.mem_cons, List.not_mem_nil, or_false] at hi
        subst hi
        apply aso 3; exact size_of tabOk rfl; exact rfl; exact rfl; exact rfl; exact rfl; exact rfl; exact so_le rfl; exact so_one rfl
        apply any_first 14; exact rfl; exact rfl; exact rfl; exact rfl; kernel_rfl; apply p_fa; exact rfl; exact field_of tabOk rfl
        refine any_step [15] (by kernel_rfl) rfl (by kernel_rfl) ?_
        intro i hi
        simp only [List.mem_cons, List.not_mem_nil, or_false] at hi
        subst hi
        apply aso 3; exact size_of tabOk rfl; exact rfl; exact rfl; exact rfl; exact rfl; exact rfl; exact so_le rfl; exact so_one rfl
        refine any_end (by kernel_rfl) ?_
        exact hend () _ _ trivial ⟨rfl, rfl, rfl, rfl, trivial⟩ (List.Perm.refl _)
      intro _ _
      have hxl : (updX old asked).labs = asked.labs := def_labs asked
      have hxs : (updX old asked).sel = asked.sel := def_sel asked
      have hr1' : RdL x1 (updX old asked).labs q1 := hr1
      have hr2' : RdL x2 (updX old asked).sel q1 := hr2
      have hxz : Sz (updX old asked) := def_sz asked hsz
      have hC := CheckO (updX old asked) x1 x2 d1 d2 (by rw [hxl]; exact hm) (by rw [hxs]; exact hm') hxz
      obtain ⟨p, ee, p', ee', hse, hsr⟩ := still_out old (updX old asked) a a' x1 x2 c c' d1 d2
      have hSt := still old (updX old asked) a a' x1 x2 c c' d1 d2
      rw [hse] at hSt
      have hAl := alike (updX old asked) (stillO old (updX old asked)) x1 x2 p p' d1 d2 ee ee' (by rw [hxl]; exact hm) (by rw [hxs]; exact hm')
      have hUP : chkO (updX old asked) = 0 → sameP (updX old asked) (stillO old (updX old asked)) → UPost old asked (.tuple #[(ov (updX old asked) x1 d1 x2 d2).val, (V.raw .nilIface).val]) q1 := fun h0 hs => Or.inl ⟨by rw [e2, if_neg (not_not_intro hs), h0], x1, d1, x2, d2, rfl, hr1', hr2'⟩
      refine vwith (pt := .run _) _ _ [] tabOk lent_nil fun go => ?_
      apply go 300
      repeat' (first | apply And.intro | intro _)
      all_goals try (first | (show Here _ _ _ _; try (exfalso; omega)) | exact trivial | omega | kernel_rfl | exact rfl)
      refine vdraw (flagsOf _) (by kernel_rfl) (by decide +kernel) (flags_len _) ?_
      apply go 300
      repeat' (first | apply And.intro | intro _)
      all_goals try (first | (show Here _ _ _ _; try (exfalso; omega)) | exact trivial | omega | kernel_rfl | exact rfl)
      refine vcallD (v := ov (stillO old (updX old asked)) p ee p' ee') rfl rfl (by kernel_rfl) hSt (by exact fun _ _ => trivial) ?_
      apply go 300
      repeat' (first | apply And.intro | intro _)
      all_goals try (first | (show Here _ _ _ _; try (exfalso; omega)) | exact trivial | omega | kernel_rfl | exact rfl)
      refine vcallD (v := .bd (sameP (updX old asked) (stillO old (updX old asked))) inferInstance) rfl rfl (by kernel_rfl) hAl (by exact fun w hst => ⟨⟨hr1' _ _ _ _ (fun y hy => by simp [hy]) hst, hr2' _ _ _ _ (fun y hy => by simp [hy]) hst⟩, hsr w (hw.st hst) (hw'.st hst) (hr1' _ _ _ _ (fun y hy => by simp [hy]) hst) (hr2' _ _ _ _ (fun y hy => by simp [hy]) hst)⟩) ?_
      apply go 300
      repeat' (first | apply And.intro | intro _)
      all_goals try (first | (show Here _ _ _ _; try (exfalso; omega)) | exact trivial | omega | kernel_rfl | exact rfl)
      · rename_i hs
        (refine vcct1 (bs := []) tabOk (by exact rfl) (by exact rfl) (by exact rfl) (by exact rfl) (by exact rfl) (by exact rfl) (List.nil_sublist _) ?_; exact upost1 (n := 16) (by rw [e2, if_pos hs]) (by decide))
      · rename_i hs
        have hs := Classical.not_not.1 hs
        by_cases h0 : chkO (updX old asked) = 0
        · rw [show errN (chkO (updX old asked)) = (V.raw .nilIface).val from by unfold errN; rw [if_pos h0]; rfl] at hC
          refine vcall (v := .raw .nilIface) rfl rfl (by kernel_rfl) hC (by exact fun w hst => ⟨⟨hr1' _ _ _ _ (fun y hy => by simp [hy]) hst, hr2' _ _ _ _ (fun y hy => by simp [hy]) hst⟩, hL.st hst⟩) ?_
          apply go 300
          repeat' (first | apply And.intro | intro _)
          all_goals try (first | (show Here _ _ _ _; try (exfalso; omega)) | exact trivial | omega | kernel_rfl | exact rfl)
          exact vcct1 (bs := q1) tabOk (by exact rfl) (by exact rfl) (by exact rfl) (by exact rfl) (by exact rfl) (by exact rfl) (by rw [List.append_nil]; exact List.sublist_append_right _ _) (hUP h0 hs)
        · rw [show errN (chkO (updX old asked)) = (V.ifc 79 (.int .i64 (chkO (updX old asked)))).val from by unfold errN; rw [if_neg h0]; rfl] at hC
          refine vcall (v := .ifc 79 (.int .i64 (chkO (updX old asked)))) rfl rfl (by kernel_rfl) hC (by exact fun w hst => ⟨⟨hr1' _ _ _ _ (fun y hy => by simp [hy]) hst, hr2' _ _ _ _ (fun y hy => by simp [hy]) hst⟩, hL.st hst⟩) ?_
          apply go 300
          repeat' (first | apply And.intro | intro _)
          all_goals try (first | (show Here _ _ _ _; try (exfalso; omega)) | exact trivial | omega | kernel_rfl | exact rfl)
          (refine vcct1 (bs := []) tabOk (by exact rfl) (by exact rfl) (by exact rfl) (by exact rfl) (by exact rfl) (by exact rfl) (List.nil_sublist _) ?_; exact upost1 (n := chkO (updX old asked)) (by rw [e2, if_neg (not_not_intro hs)]) (by exact h0))
end Go.Fl
