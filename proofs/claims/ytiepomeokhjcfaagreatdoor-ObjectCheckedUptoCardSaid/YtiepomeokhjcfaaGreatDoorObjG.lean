/-
  Two objects held against each other. No condition beyond the lists' sizes.
-/
import Derived.Test.YtiepomeokhjcfaaGreatDoorObjA
import Derived.Test.YtiepomeokhjcfaaGreatDoorVr
namespace Go.Fl
open Go.Proofs Go.RowKit
set_option maxRecDepth 10000
set_option maxHeartbeats 4000000

theorem labAt_none (w : World) : LabAt w none [] := ⟨fun _ _ h => (by cases h), fun h => absurd rfl h⟩
theorem EqualL (L M : List Lab) (a b : Option Addr) (c c' : Nat) (hn : L.length ≤ 4398046511000) : RetIf Tryz.prog 136 [(labV L a c).val, (labV M b c').val] (fun w => LabAt w a L ∧ LabAt w b M) (V.bd (sameL L M = true) inferInstance).val := by
  refine ret_start2 Tryz.func136 rfl rfl rfl (fun w0 hw => ?_)
  obtain ⟨hw, hv⟩ := hw
  refine vstart [(0, labV L a c), (1, labV M b c')] [] [] ?_
  refine vwith (pt := .run _) _ _ [] tabOk lent_nil fun go => ?_
  apply go 300
  repeat' (first | apply And.intro | intro _)
  all_goals try (first | (show Here _ _ _ _; try (exfalso; omega)) | exact trivial | omega | kernel_rfl | exact rfl)
  · rename_i hne
    exact vr1 rfl rfl (bd_f (by rw [sameL_len hne]; decide))
  rename_i hne
  have hlen : L.length = M.length := by omega
  refine vrounds (fun i : Nat => i ≤ L.length ∧ sameL (L.drop i) (M.drop i) = sameL L M) (fun i => L.length - i) (fun i => [(0, labV L a c), (1, labV M b c'), (12, .nat L.length), (13, .nat i)]) (fun _ => []) (fun _ => []) 0 (fun i hI ih => ?_) ⟨Nat.zero_le _, rfl⟩ ⟨rfl, rfl, rfl, rfl, trivial⟩ (List.Sublist.refl _)
  obtain ⟨hi, hI⟩ := hI
  by_cases hl : i < L.length
  · obtain ⟨b1, off1, rfl⟩ := hw.is (by rintro rfl; simp at hl)
    obtain ⟨b2, off2, rfl⟩ := hv.is (by rintro rfl; rw [hlen] at hl; simp at hl)
    have hR := hw.go b1 off1 rfl
    have hV := hv.go b2 off2 rfl
    refine vre [(0, .sl false 0 b1 off1 2 none L.length c), (1, .sl false 1 b2 off2 2 none M.length c'), (12, .nat L.length), (13, .nat i)] rfl ?_
    refine vwith (pt := .run _) _ _ [⟨b1, off1, .arr cdL L⟩, ⟨b2, off2, .arr cdL M⟩] tabOk (lent_lab (lent_lab lent_nil List.not_mem_nil hV) List.not_mem_nil hR) fun go => ?_
    apply go 300
    repeat' (first | apply And.intro | intro _)
    all_goals try (first | (show Here _ _ _ _; try (exfalso; omega)) | exact trivial | omega | kernel_rfl | exact rfl)
    refine vdraw (flagsOf _) (by kernel_rfl) (by decide +kernel) (flags_len _) ?_
    apply go 300
    repeat' (first | apply And.intro | intro _)
    all_goals try (first | (show Here _ _ _ _; try (exfalso; omega)) | exact trivial | omega | kernel_rfl | exact rfl)
    · rename_i y1 h1 y2 h2 h3
      have hs := sameL_drop h1 h2
      refine vr1 rfl rfl (bd_f ?_)
      rw [← hI, hs]
      intro h
      simp [eqLab] at h
      exact h3 ⟨h.1.1, h.1.2, trivial⟩
    · rename_i y1 h1 y2 h2 h3
      have hs := sameL_drop h1 h2
      refine vweak _ _ _ (ih (i + 1) ⟨by omega, ?_⟩ (by omega)) ⟨rfl, rfl, rfl, rfl, trivial⟩ (List.nil_sublist _)
      rw [← hI, hs]
      have : eqLab y1 y2 = true := by
        have h3 := Classical.not_not.1 h3
        simp [eqLab, h3.1, h3.2.1]
      rw [this, Bool.true_and]
  · apply go 300
    repeat' (first | apply And.intro | intro _)
    all_goals try (first | (show Here _ _ _ _; try (exfalso; omega)) | exact trivial | omega | kernel_rfl | exact rfl)
    refine vr1 rfl rfl (bd_t ?_)
    rw [← hI, List.drop_eq_nil_iff.2 (by omega), List.drop_eq_nil_iff.2 (by omega)]; rfl
theorem SameObject (o p : Oj) (x y x' y' : Option Addr) (c d c' d' : Nat) (h1 : o.labs.length ≤ 4398046511000) (h2 : o.sel.length ≤ 4398046511000) : RetIf Tryz.prog 16 [(ov o x c y d).val, (ov p x' c' y' d').val]
    (fun w => (LabAt w x o.labs ∧ LabAt w y o.sel) ∧ LabAt w x' p.labs ∧ LabAt w y' p.sel) (V.bd (sameP o p) inferInstance).val := by
  refine ret_start2 Tryz.func16 rfl rfl rfl (fun w0 hw => ?_)
  obtain ⟨⟨ha, hb⟩, ha', hb'⟩ := hw
  refine vstart [(0, ov o x c y d), (1, ov p x' c' y' d')] [] [] ?_
  refine vwith (pt := .run _) _ _ [] tabOk lent_nil fun go => ?_
  apply go 300
  repeat' (first | apply And.intro | intro _)
  all_goals try (first | (show Here _ _ _ _; try (exfalso; omega)) | exact trivial | omega | kernel_rfl | exact rfl)
  refine vcall (v := .bd (bareP o p) inferInstance) rfl rfl (by kernel_rfl) (bare o p x y x' y' c d c' d') (by exact fun _ _ => trivial) ?_
  apply go 300
  repeat' (first | apply And.intro | intro _)
  all_goals try (first | (show Here _ _ _ _; try (exfalso; omega)) | exact trivial | omega | kernel_rfl | exact rfl)
  · refine vcall (v := .bd (sameL o.labs p.labs = true) inferInstance) rfl rfl (by kernel_rfl) (SameLabels o.labs p.labs x x' c c' (by omega)).bd (by exact fun _ h => ⟨ha.st h, ha'.st h⟩) ?_
    apply go 300
    repeat' (first | apply And.intro | intro _)
    all_goals try (first | (show Here _ _ _ _; try (exfalso; omega)) | exact trivial | omega | kernel_rfl | exact rfl)
    · refine vcall (v := .bd (sameL o.sel p.sel = true) inferInstance) rfl rfl (by kernel_rfl) (SameLabels o.sel p.sel y y' d d' (by omega)).bd (by exact fun _ h => ⟨hb.st h, hb'.st h⟩) ?_
      apply go 300
      repeat' (first | apply And.intro | intro _)
      all_goals try (first | (show Here _ _ _ _; try (exfalso; omega)) | exact trivial | omega | kernel_rfl | exact rfl)
      all_goals exact vr1 rfl rfl (by first | (refine bd_bd ?_; unfold sameP; simp_all) | (refine bd_t ?_; unfold sameP; simp_all) | (refine bd_f ?_; unfold sameP; simp_all))
    · exact vr1 rfl rfl (by first | (refine bd_bd ?_; unfold sameP; simp_all) | (refine bd_t ?_; unfold sameP; simp_all) | (refine bd_f ?_; unfold sameP; simp_all))
  · exact vr1 rfl rfl (by first | (refine bd_bd ?_; unfold sameP; simp_all) | (refine bd_t ?_; unfold sameP; simp_all) | (refine bd_f ?_; unfold sameP; simp_all))
theorem CopyObject (o : Oj) (a a' : Option Addr) (c c' : Nat) (h1 : o.labs.length ≤ 4398046511000) (h2 : o.sel.length ≤ 4398046511000) : Con Tryz.prog 57 [(ov o a c a' c').val] [] (fun w => LabAt w a o.labs ∧ LabAt w a' o.sel) (OPost o) := by
  refine con_start1 Tryz.func57 rfl rfl rfl (fun w0 hw => ?_)
  refine vstart [(0, ov o a c a' c')] [] [] ?_
  refine vwith (pt := .run _) _ _ [] tabOk lent_nil fun go => ?_
  apply go 300
  repeat' (first | apply And.intro | intro _)
  all_goals try (first | (show Here _ _ _ _; try (exfalso; omega)) | exact trivial | omega | kernel_rfl | exact rfl)
  refine vcc rfl rfl (by kernel_rfl) (CopyLabels o.labs a c h1) (by exact fun _ h => hw.1.st h) ?_
  intro v1 q1 hq1
  obtain ⟨x1, d1, rfl, hd1, hr1⟩ := labs_out hq1
  refine ⟨labV o.labs x1 d1, rfl, ?_⟩
  apply go 300
  repeat' (first | apply And.intro | intro _)
  all_goals try (first | (show Here _ _ _ _; try (exfalso; omega)) | exact trivial | omega | kernel_rfl | exact rfl)
  refine vcc rfl rfl (by kernel_rfl) (CopyLabels o.sel a' c' h2) (by exact fun _ h => hw.2.st h) ?_
  intro v2 q2 hq2
  obtain ⟨x2, d2, rfl, hd2, hr2⟩ := labs_out hq2
  refine ⟨labV o.sel x2 d2, rfl, ?_⟩
  apply go 300
  repeat' (first | apply And.intro | intro _)
  all_goals try (first | (show Here _ _ _ _; try (exfalso; omega)) | exact trivial | omega | kernel_rfl | exact rfl)
  refine vcc1 (bs := q2 ++ q1) tabOk (by exact rfl) (by exact rfl) (by exact rfl) (by exact rfl) (by exact rfl) (by rw [List.append_nil]; exact List.sublist_append_right _ _) ?_
  exact ⟨x1, d1, x2, d2, rfl, hd1.1, ⟨hd2.1, q1, q2, hd1.2, hd2.2, List.perm_append_comm⟩, hr1.mono (fun y hy => List.mem_append_right _ hy), hr2.mono (fun y hy => List.mem_append_left _ hy)⟩
/-- The chapter's example of a deployment. -/
def depO : Oj := { base ⟨2, ⟨#[119, 101, 98]⟩, 0, 0, [], 0, 0, false, false, false, 0, ⟨#[]⟩, ⟨#[]⟩, ⟨#[]⟩, 0, false, false, 0, 0, ⟨#[]⟩, 0, 0, 0, 0, 0, false, 0, [], 0, ⟨#[]⟩, 0, 0⟩ with count := 2, ncpu := 100, nmem := 8, image := ⟨#[118, 49]⟩ }
theorem deploy : RetIf Tryz.prog 87 [] (fun _ => True) (ov depO none 0 none 0).val := by
  refine ret_start0 Tryz.func87 rfl rfl (fun w0 hw => ?_)
  refine vstart [] [] [] ?_
  refine vwith (pt := .run _) _ _ [] tabOk lent_nil fun go => ?_
  apply go 300
  repeat' (first | apply And.intro | intro _)
  all_goals try (first | (show Here _ _ _ _; try (exfalso; omega)) | exact trivial | omega | kernel_rfl | exact rfl)
  exact vrc1 tabOk (by exact rfl) (by exact rfl) (by exact rfl) (by exact rfl) (by exact rfl) (by exact rfl)
end Go.Fl

namespace Go.Fl
open Go.Proofs Go.RowKit
set_option maxRecDepth 10000
set_option maxHeartbeats 4000000

section
variable (C : Cx) (tb : Tab) (hl : List LB) (tl : Hs)
def vcR : Nat → Pt → VEnv → List OB → Prop
  | 0, pt, e, ho => Here C tl pt e ho
  | _ + 1, .run k, e, ho => Here C tl (.run k) e ho
  | n + 1, .ops l0 l k, e, ho => stepOps C tb hl tl (vcR n) l0 l k e ho
  | n + 1, .drw l0 fl0 k l, e, ho => stepDrw C tb hl tl (vcR n) l0 fl0 k l e ho
end
section
variable {C : Cx} {tb : Tab} {hl : List LB}
theorem vcR_sound0 (hT : TabOk C.P tb) (hL : LentOk C hl) : ∀ (tl : Hs) (n : Nat) (pt : Pt) (e : VEnv) (ho : List OB), vcR C tb hl tl n pt e ho → HereF C tl pt e ho := by
  intro tl n
  induction n with
  | zero => intro pt e ho h; cases pt <;> exact h.go
  | succ n ih =>
    intro pt e ho h
    cases pt with
    | run k => exact h.go
    | ops l0 l k =>
      simp only [vcR, stepOps] at h
      split at h
      · exact nl (ih _ _ _ h)
      · rename_i dst op ty pos af j want r
        split at h
        · rename_i gd hgd
          split at h
          · rename_i b hb
            have hg := eg_re e gd
            rw [hb] at hg
            cases hbw : (b == want)
            · rw [hbw] at h
              simp only [cond_false] at h
              split at h
              · rename_i d
                cases hd : Nat.blt d C.N
                · rw [hd] at h; exact h.go
                · rw [hd] at h; exact gn hd hgd hg hbw (ih _ _ _ h)
              · exact h.go
            · rw [hbw] at h
              have : b = want := by simpa using hbw
              subst this
              exact gy hgd hg (ih _ _ _ h)
          · rename_i p dp hb
            have hg := eg_re e gd
            rw [hb] at hg
            exact gs hgd hg (fun hp => ih _ _ _ (h.1 hp)) (fun hp => ih _ _ _ (h.2 hp))
          · rename_i v hb
            have hg := eg_re e gd
            rw [hb] at hg
            cases hn : notBool v
            · rw [hn] at h; exact h.go
            · rw [hn] at h
              simp only [cond_true] at h
              split at h
              · rename_i d
                cases hd : Nat.blt d C.N
                · rw [hd] at h; exact h.go
                · rw [hd] at h; exact gu hd hgd hg hn (ih _ _ _ h)
              · exact h.go
          · exact h.go
        · exact h.go
      · rename_i d op ty pos af r
        cases hd : Nat.blt d C.N
        · rw [hd] at h; exact h.go
        · rw [hd] at h
          simp only [cond_true] at h
          split at h
          · rcases load_sound hT hL h with h | ⟨v, hv, hK⟩
            · exact h.go
            · exact o2 hd (hv tl) (ih _ _ _ hK)
          · rcases val_sound hT h with h | ⟨v, hv, hK⟩
            · rcases make_sound (C := C) hT h with h | h
              · exact h.go
              · exact h _ _ _ _ _ _ _ _ hd fun v ho' hK => ih _ _ _ hK
            · exact o1 hd hv (ih _ _ _ hK)
      · rcases store_sound (C := C) hT h with h | ⟨ho', hK, hn⟩
        · exact h.go
        · exact hn _ _ _ _ _ _ _ (ih _ _ _ hK)
      · exact h.go
    | drw l0 fl0 k l =>
      simp only [vcR, stepDrw] at h
      split at h
      · split at h
        · rename_i hrd; exact d_nil hrd (ih _ _ _ h)
        · exact h.go
      · exact d_eff (ih _ _ _ h)
      · rename_i d op ty pos af j want f r hf
        split at h
        · rename_i gd hgd
          split at h
          · rename_i b hb
            have hg := eg_re e gd
            rw [hb] at hg
            cases hbw : (b == want)
            · rw [hbw] at h
              simp only [cond_false] at h
              cases hd : (Nat.blt d C.N && !(f == 2))
              · rw [hd] at h; exact h.go
              · rw [hd] at h
                simp only [Bool.and_eq_true, Bool.not_eq_true'] at hd
                exact d0g hd.2 hd.1 hgd hg hbw (ih _ _ _ h)
            · rw [hbw] at h
              have : b = want := by simpa using hbw
              subst this
              exact dy hgd hg (ih _ _ _ h)
          · rename_i p dp hb
            have hg := eg_re e gd
            rw [hb] at hg
            exact ds hgd hg (fun hp => ih _ _ _ (h.1 hp)) (fun hp => ih _ _ _ (h.2 hp))
          · rename_i v hb
            have hg := eg_re e gd
            rw [hb] at hg
            cases hn : (notBool v && (Nat.blt d C.N && !(f == 2)))
            · rw [hn] at h; exact h.go
            · rw [hn] at h
              simp only [Bool.and_eq_true, Bool.not_eq_true'] at hn
              exact du hn.2.2 hn.2.1 hgd hg hn.1 (ih _ _ _ h)
          · exact h.go
        · exact h.go
      · rename_i d op ty pos af f r hf
        cases hd : (Nat.blt d C.N && !(f == 2))
        · rw [hd] at h; exact h.go
        · rw [hd] at h
          simp only [Bool.and_eq_true, Bool.not_eq_true'] at hd
          simp only [cond_true] at h
          split at h
          · cases hf1 : (f == 1)
            · rw [hf1] at h; exact h.go
            · rw [hf1] at h
              have hf1 : f = 1 := by simpa using hf1
              subst hf1
              rcases load_sound hT hL h with h | ⟨v, hv, hK⟩
              · exact h.go
              · exact d2 hd.1 (hv tl) (ih _ _ _ hK)
          · rcases val_sound hT h with h | ⟨v, hv, hK⟩
            · exact h.go
            · exact d1 hd.2 hd.1 hv (ih _ _ _ hK)
      · exact h.go


theorem vwithR {tl : Hs} {pt : Pt} (e : VEnv) (ho : List OB) (hl : List LB) (hT : TabOk C.P tb) (hL : LentOk C hl) (h : (∀ n tl pt e ho, vcR C tb hl tl n pt e ho → Here C tl pt e ho) → Here C tl pt e ho) : Here C tl pt e ho := h fun n tl pt e ho h => ⟨vcR_sound0 hT hL tl n pt e ho h⟩
end
/-- A region: all ways through it come to the same. -/
theorem vseq {C : Cx} {id : Nat} {l0 : Array Oper} {k : List Item} {e : VEnv} {ho : List OB} {tl : Hs} (e' : VEnv) (ho' : List OB) (tl' : Hs)
    (h1 : ∀ k', (∀ e1 ho1 tl1, VSub e' e1 → (rh ho' ++ tl').Sublist (rh ho1 ++ tl1) → Here C tl1 (.run k') e1 ho1) → Here C tl (.ops l0.toList l0.toList k') e ho) (h2 : Here C tl' (.run k) e' ho') : Here C tl (.run (.code (.region id l0 false) :: k)) e ho := by
  have h := (h1 k fun e1 ho1 tl1 hv hs => vweak _ _ _ h2 hv hs).go
  simp only [HereF] at h
  have h3 := rg (id := id) h
  rw [Array.toArray_toList] at h3
  exact ⟨h3⟩
theorem vseqD {C : Cx} {id : Nat} {l0 : Array Oper} {k : List Item} {e : VEnv} {ho : List OB} {tl : Hs} (e' : VEnv) (ho' : List OB) (tl' : Hs) (fl : List Nat) (hm : C.P.follows .mixedOrders = true) (hok : drawOk l0.toList fl = true) (hlen : fl.length = l0.toList.length)
    (h1 : ∀ k', (∀ e1 ho1 tl1, VSub e' e1 → (rh ho' ++ tl').Sublist (rh ho1 ++ tl1) → Here C tl1 (.run k') e1 ho1) → Here C tl (.drw l0.toList fl k' (l0.toList.zip fl)) e ho) (h2 : Here C tl' (.run k) e' ho') (hrd : C.rd = none := by rfl) : Here C tl (.run (.code (.region id l0 true) :: k)) e ho :=
  vdraw fl hm hok hlen (h1 k fun e1 ho1 tl1 hv hs => vweak _ _ _ h2 hv hs) hrd
end Go.Fl

namespace Go.Fl
open Go.Proofs Go.RowKit
set_option maxRecDepth 10000
set_option maxHeartbeats 40000000

def listsP (a b : Oj) : Prop := sameL a.labs b.labs = true ∧ sameL a.sel b.sel = true
def sizesP (a b : Oj) : Prop := (a.rcpu = b.rcpu ∧ a.rmem = b.rmem) ∧ a.ncpu = b.ncpu ∧ a.nmem = b.nmem
def namedP (a b : Oj) : Prop := (a.kind = b.kind ∧ tl a.name = tl b.name) ∧ tl a.dep = tl b.dep ∧ tl a.set = tl b.set ∧ tl a.node = tl b.node ∧ tl a.image = tl b.image ∧ tl a.holder = tl b.holder
instance (a b : Oj) : Decidable (listsP a b) := by unfold listsP; infer_instance
instance (a b : Oj) : Decidable (sizesP a b) := by unfold sizesP; infer_instance
instance (a b : Oj) : Decidable (namedP a b) := by unfold namedP; infer_instance
theorem bd_some {p q : Prop} {dp : Decidable p} {dq : Decidable q} (h : p ↔ q) : some (V.bd p dp).val = some (V.bd q dq).val := congrArg some (bd_bd h)
theorem bl_some {p : Prop} {dp : Decidable p} (h : p) : some (V.bl true).val = some (V.bd p dp).val := congrArg some (bd_t h).symm
theorem bf_some {p : Prop} {dp : Decidable p} (h : ¬ p) : some (V.bl false).val = some (V.bd p dp).val := congrArg some (bd_f h).symm

theorem same_iff (a b : Oj) : sameP a b ↔ listsP a b ∧ sizesP a b ∧ namedP a b ∧ ((a.cord = true ↔ b.cord = true) ∧ (a.drain = true ↔ b.drain = true) ∧ (a.lost = true ↔ b.lost = true) ∧ (a.ready = true ↔ b.ready = true) ∧ (a.ending = true ↔ b.ending = true) ∧ (a.paused = true ↔ b.paused = true) ∧ True) ∧
    (a.ver = b.ver ∧ a.born = b.born ∧ a.beat = b.beat ∧ a.phase = b.phase ∧ a.rise = b.rise ∧ a.fall = b.fall ∧ a.count = b.count ∧ a.surge = b.surge ∧ a.slack = b.slack ∧ a.least = b.least ∧ a.term = b.term ∧ a.till = b.till ∧ 0 = 0 ∧ True) ∧ a.hash = b.hash := by
  unfold sameP bareP listsP sizesP namedP
  simp only [← Bool.eq_iff_iff]
  constructor
  · rintro ⟨⟨⟨h1, h2, h3, h4, ⟨h5, h6⟩, ⟨h7, h8, h9⟩, h10⟩, ⟨h11, h12, h13, h14, ⟨h15, h16⟩, ⟨h17, h18⟩, h19, h20, h21⟩, h22, h23, h24, h25, h26, h27, h28, h29, h30⟩, h31, h32⟩
    simp_all
  · rintro ⟨⟨h31, h32⟩, ⟨⟨h5, h6⟩, h17, h18⟩, ⟨⟨h1, h2⟩, h11, h12, h13, h19, h28⟩, ⟨h7, h8, h9, h15, h16, h25, _⟩, ⟨h3, h4, h10, h14, h20, h21, h22, h23, h24, h27, h29, h30, _, _⟩, h26⟩
    simp_all

theorem alike (o p : Oj) (x y x' y' : Option Addr) (c d c' d' : Nat) (h1 : o.labs.length ≤ 4398046511000) (h2 : o.sel.length ≤ 4398046511000) : RetIf Tryz.prog 75 [(ov o x c y d).val, (ov p x' c' y' d').val]
    (fun w => (LabAt w x o.labs ∧ LabAt w y o.sel) ∧ LabAt w x' p.labs ∧ LabAt w y' p.sel) (V.bd (sameP o p) inferInstance).val := by
  refine ret_start2 Tryz.func75 rfl rfl rfl (fun w0 hw => ?_)
  obtain ⟨⟨ha, hb⟩, ha', hb'⟩ := hw
  refine vstart [(0, ov o x c y d), (1, ov p x' c' y' d')] [] [] ?_
  refine vwith (pt := .run _) _ _ [] tabOk lent_nil fun go => ?_
  apply go 6
  repeat' (first | apply And.intro | intro _)
  all_goals try (first | (show Here _ _ _ _; try (exfalso; omega)) | exact trivial | omega | kernel_rfl | exact rfl)
  rename_i b1 b2
  apply go 1
  refine vseq [(2, .ptr true 0 b1 0 1 0 0), (3, .ptr true 1 b2 0 1 0 0), (5, .bd (listsP o p) inferInstance)] [⟨b1, 27, .var (ocs o (labV o.labs x c) (labV o.sel y d)), []⟩, ⟨b2, 27, .var (ocs p (labV p.labs x' c') (labV p.sel y' d')), []⟩] [] (fun k' hk => ?_) ?_
  · refine vwithR (pt := .ops _ _ _) _ _ [] tabOk lent_nil fun goR => ?_
    apply goR 300
    repeat' (first | apply And.intro | intro _)
    all_goals try (first | (show Here _ _ _ _; try (exfalso; omega)) | exact trivial | omega | kernel_rfl | exact rfl)
    refine vcall (v := .bd (sameL o.labs p.labs = true) inferInstance) rfl rfl (by kernel_rfl) (EqualL o.labs p.labs x x' c c' h1) (by exact fun _ h => ⟨ha.st h, ha'.st h⟩) ?_
    apply goR 300
    repeat' (first | apply And.intro | intro _)
    all_goals try (first | (show Here _ _ _ _; try (exfalso; omega)) | exact trivial | omega | kernel_rfl | exact rfl)
    · refine vcall (v := .bd (sameL o.sel p.sel = true) inferInstance) rfl rfl (by kernel_rfl) (EqualL o.sel p.sel y y' d d' h2) (by exact fun _ h => ⟨hb.st h, hb'.st h⟩) ?_
      apply goR 300
      repeat' (first | apply And.intro | intro _)
      all_goals try (first | (show Here _ _ _ _; try (exfalso; omega)) | exact trivial | omega | kernel_rfl | exact rfl)
      rename_i h
      exact hk _ _ _ ⟨rfl, rfl, bd_some (by unfold listsP; simp [h]), trivial⟩ (List.Sublist.refl _)
    · rename_i h
      exact hk _ _ _ ⟨rfl, rfl, bf_some (by unfold listsP; simp [h]), trivial⟩ (List.Sublist.refl _)
  apply go 1
  refine vseq [(2, .ptr true 0 b1 0 1 0 0), (3, .ptr true 1 b2 0 1 0 0), (5, .bd (listsP o p) inferInstance), (6, .bd (sizesP o p) inferInstance)] [⟨b1, 27, .var (ocs o (labV o.labs x c) (labV o.sel y d)), []⟩, ⟨b2, 27, .var (ocs p (labV p.labs x' c') (labV p.sel y' d')), []⟩] [] (fun k' hk => ?_) ?_
  · refine vwithR (pt := .ops _ _ _) _ _ [] tabOk lent_nil fun goR => ?_
    apply goR 300
    repeat' (first | apply And.intro | intro _)
    all_goals try (first | (show Here _ _ _ _; try (exfalso; omega)) | exact trivial | omega | kernel_rfl | exact rfl)
    · rename_i h
      exact hk _ _ _ ⟨rfl, rfl, rfl, bd_some (by unfold sizesP; simp [h]), trivial⟩ (List.Sublist.refl _)
    · rename_i h
      exact hk _ _ _ ⟨rfl, rfl, rfl, bf_some (by unfold sizesP; intro h2; exact h ⟨h2.1.1, h2.1.2, trivial⟩), trivial⟩ (List.Sublist.refl _)
  apply go 1
  refine vseqD [(2, .ptr true 0 b1 0 1 0 0), (3, .ptr true 1 b2 0 1 0 0), (5, .bd (listsP o p) inferInstance), (6, .bd (sizesP o p) inferInstance), (7, .bd (namedP o p) inferInstance)] [⟨b1, 27, .var (ocs o (labV o.labs x c) (labV o.sel y d)), []⟩, ⟨b2, 27, .var (ocs p (labV p.labs x' c') (labV p.sel y' d')), []⟩] [] (flagsOf _) (by kernel_rfl) (by decide +kernel) (flags_len _) (fun k' hk => ?_) ?_
  · refine vwithR (pt := .drw _ _ _ _) _ _ [] tabOk lent_nil fun goR => ?_
    apply goR 300
    repeat' (first | apply And.intro | intro _)
    all_goals try (first | (show Here _ _ _ _; try (exfalso; omega)) | exact trivial | omega | kernel_rfl | exact rfl)
    refine vcallD (v := .agg [.int .i64 o.kind, .str o.name]) rfl rfl (by kernel_rfl) (KeyOf o x y c d) (by exact fun _ _ => trivial) ?_
    apply goR 300
    repeat' (first | apply And.intro | intro _)
    all_goals try (first | (show Here _ _ _ _; try (exfalso; omega)) | exact trivial | omega | kernel_rfl | exact rfl)
    refine vcallD (v := .agg [.int .i64 p.kind, .str p.name]) rfl rfl (by kernel_rfl) (KeyOf p x' y' c' d') (by exact fun _ _ => trivial) ?_
    apply goR 300
    repeat' (first | apply And.intro | intro _)
    all_goals try (first | (show Here _ _ _ _; try (exfalso; omega)) | exact trivial | omega | kernel_rfl | exact rfl)
    all_goals first
      | exact hk _ _ _ ⟨rfl, rfl, rfl, rfl, bd_some (by unfold namedP; simp_all), trivial⟩ (List.Sublist.refl _)
      | exact hk _ _ _ ⟨rfl, rfl, rfl, rfl, bf_some (by unfold namedP; simp_all), trivial⟩ (List.Sublist.refl _)
  refine vwith (pt := .run _) _ _ [] tabOk lent_nil fun go => ?_
  apply go 600
  repeat' (first | apply And.intro | intro _)
  all_goals try (first | (show Here _ _ _ _; try (exfalso; omega)) | exact trivial | omega | kernel_rfl | exact rfl)
  all_goals first
    | exact vr1 rfl rfl (bd_f (fun h => by obtain ⟨_, _, _, _, _, _⟩ := (same_iff _ _).1 h; contradiction))
    | exact vr1 rfl rfl (bd_bd ⟨fun h => ((same_iff _ _).1 h).2.2.2.2.2, fun h => (same_iff _ _).2 ⟨‹_›, ‹_›, ‹_›, ‹_›, ‹_›, h⟩⟩)
end Go.Fl
