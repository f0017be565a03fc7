/-
  Regions walked one by one: what is known at a region's end is said once for all ways through it. No condition.
-/
import Derived.Test.YtiepomeokhjcfaaDoorVr
namespace Go.Fl
open Go.Proofs Go.RowKit
set_option maxRecDepth 10000
set_option maxHeartbeats 4000000

section
variable (C : Cx) (tb : Tab) (hl : List LB) (tl : Hs)
def vcR : Nat → Pt → VEnv → List OB → Prop
  | 0, pt, e, ho => Here C tl pt e ho
  | _ + 1, .run k, e, ho => Here C tl (.run k) e ho
  | n + 1, .ops l0 l k, e, ho => stepOps C tb hl tl (vcR n) l0 l k e ho
  | n + 1, .drw l0 fl0 k l, e, ho => stepDrw C tb hl tl (vcR n) l0 fl0 k l e ho
end
section
variable {C : Cx} {tb : Tab} {hl : List LB}
theorem vcR_sound0 (hT : TabOk C.P tb) (hL : LentOk C hl) : ∀ (tl : Hs) (n : Nat) (pt : Pt) (e : VEnv) (ho : List OB), vcR C tb hl tl n pt e ho → HereF C tl pt e ho := by
  intro tl n
  induction n with
  | zero => intro pt e ho h; cases pt <;> exact h.go
  | succ n ih =>
    intro pt e ho h
    cases pt with
    | run k => exact h.go
    | ops l0 l k =>
      simp only [vcR, stepOps] at h
      split at h
      · exact nl (ih _ _ _ h)
      · rename_i dst op ty pos af j want r
        split at h
        · rename_i gd hgd
          split at h
          · rename_i b hb
            have hg := eg_re e gd
            rw [hb] at hg
            cases hbw : (b == want)
            · rw [hbw] at h
              simp only [cond_false] at h
              split at h
              · rename_i d
                cases hd : Nat.blt d C.N
                · rw [hd] at h; exact h.go
                · rw [hd] at h; exact gn hd hgd hg hbw (ih _ _ _ h)
              · exact h.go
            · rw [hbw] at h
              have : b = want := by simpa using hbw
              subst this
              exact gy hgd hg (ih _ _ _ h)
          · rename_i p dp hb
            have hg := eg_re e gd
            rw [hb] at hg
            exact gs hgd hg (fun hp => ih _ _ _ (h.1 hp)) (fun hp => ih _ _ _ (h.2 hp))
          · rename_i v hb
            have hg := eg_re e gd
            rw [hb] at hg
            cases hn : notBool v
            · rw [hn] at h; exact h.go
            · rw [hn] at h
              simp only [cond_true] at h
              split at h
              · rename_i d
                cases hd : Nat.blt d C.N
                · rw [hd] at h; exact h.go
                · rw [hd] at h; exact gu hd hgd hg hn (ih _ _ _ h)
              · exact h.go
          · exact h.go
        · exact h.go
      · rename_i d op ty pos af r
        cases hd : Nat.blt d C.N
        · rw [hd] at h; exact h.go
        · rw [hd] at h
          simp only [cond_true] at h
          split at h
          · rcases load_sound hT hL h with h | ⟨v, hv, hK⟩
            · exact h.go
            · exact o2 hd (hv tl) (ih _ _ _ hK)
          · rcases val_sound hT h with h | ⟨v, hv, hK⟩
            · rcases make_sound (C := C) hT h with h | h
              · exact h.go
              · exact h _ _ _ _ _ _ _ _ hd fun v ho' hK => ih _ _ _ hK
            · exact o1 hd hv (ih _ _ _ hK)
      · rcases store_sound (C := C) hT h with h | ⟨ho', hK, hn⟩
        · exact h.go
        · exact hn _ _ _ _ _ _ _ (ih _ _ _ hK)
      · exact h.go
    | drw l0 fl0 k l =>
      simp only [vcR, stepDrw] at h
      split at h
      · split at h
        · rename_i hrd; exact d_nil hrd (ih _ _ _ h)
        · exact h.go
      · exact d_eff (ih _ _ _ h)
      · rename_i d op ty pos af j want f r hf
        split at h
        · rename_i gd hgd
          split at h
          · rename_i b hb
            have hg := eg_re e gd
            rw [hb] at hg
            cases hbw : (b == want)
            · rw [hbw] at h
              simp only [cond_false] at h
              cases hd : (Nat.blt d C.N && !(f == 2))
              · rw [hd] at h; exact h.go
              · rw [hd] at h
                simp only [Bool.and_eq_true, Bool.not_eq_true'] at hd
                exact d0g hd.2 hd.1 hgd hg hbw (ih _ _ _ h)
            · rw [hbw] at h
              have : b = want := by simpa using hbw
              subst this
              exact dy hgd hg (ih _ _ _ h)
          · rename_i p dp hb
            have hg := eg_re e gd
            rw [hb] at hg
            exact ds hgd hg (fun hp => ih _ _ _ (h.1 hp)) (fun hp => ih _ _ _ (h.2 hp))
          · rename_i v hb
            have hg := eg_re e gd
            rw [hb] at hg
            cases hn : (notBool v && (Nat.blt d C.N && !(f == 2)))
            · rw [hn] at h; exact h.go
            · rw [hn] at h
              simp only [Bool.and_eq_true, Bool.not_eq_true'] at hn
              exact du hn.2.2 hn.2.1 hgd hg hn.1 (ih _ _ _ h)
          · exact h.go
        · exact h.go
      · rename_i d op ty pos af f r hf
        cases hd : (Nat.blt d C.N && !(f == 2))
        · rw [hd] at h; exact h.go
        · rw [hd] at h
          simp only [Bool.and_eq_true, Bool.not_eq_true'] at hd
          simp only [cond_true] at h
          split at h
          · cases hf1 : (f == 1)
            · rw [hf1] at h; exact h.go
            · rw [hf1] at h
              have hf1 : f = 1 := by simpa using hf1
              subst hf1
              rcases load_sound hT hL h with h | ⟨v, hv, hK⟩
              · exact h.go
              · exact d2 hd.1 (hv tl) (ih _ _ _ hK)
          · rcases val_sound hT h with h | ⟨v, hv, hK⟩
            · exact h.go
            · exact d1 hd.2 hd.1 hv (ih _ _ _ hK)
      · exact h.go


theorem vwithR {tl : Hs} {pt : Pt} (e : VEnv) (ho : List OB) (hl : List LB) (hT : TabOk C.P tb) (hL : LentOk C hl) (h : (∀ n tl pt e ho, vcR C tb hl tl n pt e ho → Here C tl pt e ho) → Here C tl pt e ho) : Here C tl pt e ho := h fun n tl pt e ho h => ⟨vcR_sound0 hT hL tl n pt e ho h⟩
end
/-- A region: all ways through it come to the same. -/
theorem vseq {C : Cx} {id : Nat} {l0 : Array Oper} {k : List Item} {e : VEnv} {ho : List OB} {tl : Hs} (e' : VEnv) (ho' : List OB) (tl' : Hs)
    (h1 : ∀ k', (∀ e1 ho1 tl1, VSub e' e1 → (rh ho' ++ tl').Sublist (rh ho1 ++ tl1) → Here C tl1 (.run k') e1 ho1) → Here C tl (.ops l0.toList l0.toList k') e ho) (h2 : Here C tl' (.run k) e' ho') : Here C tl (.run (.code (.region id l0 false) :: k)) e ho := by
  have h := (h1 k fun e1 ho1 tl1 hv hs => vweak _ _ _ h2 hv hs).go
  simp only [HereF] at h
  have h3 := rg (id := id) h
  rw [Array.toArray_toList] at h3
  exact ⟨h3⟩
theorem vseqD {C : Cx} {id : Nat} {l0 : Array Oper} {k : List Item} {e : VEnv} {ho : List OB} {tl : Hs} (e' : VEnv) (ho' : List OB) (tl' : Hs) (fl : List Nat) (hm : C.P.follows .mixedOrders = true) (hok : drawOk l0.toList fl = true) (hlen : fl.length = l0.toList.length)
    (h1 : ∀ k', (∀ e1 ho1 tl1, VSub e' e1 → (rh ho' ++ tl').Sublist (rh ho1 ++ tl1) → Here C tl1 (.run k') e1 ho1) → Here C tl (.drw l0.toList fl k' (l0.toList.zip fl)) e ho) (h2 : Here C tl' (.run k) e' ho') (hrd : C.rd = none := by rfl) : Here C tl (.run (.code (.region id l0 true) :: k)) e ho :=
  vdraw fl hm hok hlen (h1 k fun e1 ho1 tl1 hv hs => vweak _ _ _ h2 hv hs) hrd
end Go.Fl
