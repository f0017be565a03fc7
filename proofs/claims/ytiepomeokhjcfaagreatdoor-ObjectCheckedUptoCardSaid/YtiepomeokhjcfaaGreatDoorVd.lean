/-
  A walk that is reckoned: it is so. No condition.
-/
import Derived.Test.YtiepomeokhjcfaaGreatDoorVc
namespace Go.Fl
open Go.Proofs Go.RowKit
set_option maxRecDepth 10000
set_option maxHeartbeats 4000000

theorem vals_app (a b : List V) : V.vals (a ++ b) = V.vals a ++ V.vals b := by simp only [vals_map, List.map_append]
theorem lay_app (s : List Go.Value) : ∀ (vs a : List Go.Value) (o : Nat), o + vs.length ≤ a.length → lay (a ++ s).toArray o vs = ((lay a.toArray o vs).toList ++ s).toArray
  | [], a, o, _ => by simp [lay]
  | v :: vs, a, o, h => by
    have h1 : o < a.length := by simp at h; omega
    simp only [lay, List.setIfInBounds_toArray]
    rw [List.set_append_left _ _ h1, lay_app s vs (a.set o v) (o + 1) (by simp at h ⊢; omega)]
theorem lay_pre (p : List Go.Value) : ∀ (vs a : List Go.Value) (o : Nat), lay (p ++ a).toArray (p.length + o) vs = (p ++ (lay a.toArray o vs).toList).toArray
  | [], a, o => by simp [lay]
  | v :: vs, a, o => by
    simp only [lay, List.setIfInBounds_toArray]
    rw [List.set_append_right _ _ (by omega), show p.length + o - p.length = o by omega, Nat.add_assoc, lay_pre p vs (a.set o v) (o + 1)]
theorem lay_len (vs c : List Go.Value) (o : Nat) : (lay c.toArray o vs).toList.length = c.length := by rw [Array.length_toList, size_lay]; simp
theorem allOne_val : ∀ (l : List V), allOne l = true → ∀ u ∈ V.vals l, u.oneCell' = true
  | [], _, u, hu => by cases hu
  | v :: r, h, u, hu => by
    simp only [V.vals, List.mem_cons] at hu
    cases v with
    | agg vs => simp [allOne] at h
    | tup vs => simp [allOne] at h
    | raw v =>
      simp only [allOne, Bool.and_eq_true] at h
      rcases hu with rfl | hu
      · exact h.1
      · exact allOne_val r h.2 u hu
    | _ =>
      simp only [allOne] at h
      rcases hu with rfl | hu
      · rfl
      · exact allOne_val r h u hu
theorem rh_set {ho : List OB} {i : Nat} {y : OB} {tl : Hs} (h : nthU ho i = some y) (x : OB) : (rh ho ++ tl).set i (x.b, x.obj) = rh (ho.set i x) ++ tl := by
  rw [nthU_eq] at h
  have hi := (List.getElem?_eq_some_iff.1 h).1
  rw [List.set_append_left _ _ (by simpa [rh] using hi)]
  simp only [rh, List.map_set]
theorem rh_get {ho : List OB} {i : Nat} {x : OB} {tl : Hs} (h : nthU ho i = some x) : (rh ho ++ tl)[i]? = some (x.b, x.obj) := by
  rw [nthU_eq] at h
  have hi := (List.getElem?_eq_some_iff.1 h).1
  rw [List.getElem?_append_left (by simpa [rh] using hi)]
  simp only [rh, List.getElem?_map, h, Option.map_some]
theorem rh_push (ho : List OB) (x : OB) (tl : Hs) : (rh (ho ++ [x]) ++ tl).Perm ((x.b, x.obj) :: (rh ho ++ tl)) := by
  simp only [rh, List.map_append, List.map_cons, List.map_nil]
  exact (List.perm_append_comm (l₂ := [(x.b, x.obj)])).append_right tl

section
variable {C : Cx} {tb : Tab} {hl : List LB}

theorem store_sound (hT : TabOk C.P tb) {e : VEnv} {ho : List OB} {t : TypeId} {x y : Operand} {leaf : Prop} {K : List OB → Prop} (h : storeStep tb e ho t x y leaf K) :
    leaf ∨ ∃ ho', K ho' ∧ ∀ (tl : Hs) (ops : Array Oper) (rest : List Oper) (k : List Item) (ty : TypeId) (pos : String) (af : Array Edge), Ops C ops rest k (rE e) (rh ho' ++ tl) → Ops C ops (⟨none, .store t x y, ty, pos, af, none⟩ :: rest) k (rE e) (rh ho ++ tl) := by
  unfold storeStep at h
  split at h
  · rename_i key b o0 sz i off v m hx hy hm
    cases hc : (Nat.beq (cellsV v).length m && allOne (cellsV v))
    · rw [hc] at h; exact Or.inl h
    · rw [hc] at h
      simp only [Bool.and_eq_true] at hc
      obtain ⟨hc1, hc2⟩ := hc
      obtain rfl := Nat.eq_of_beq_eq_true hc1
      simp only [cond_true] at h
      have hone := allOne_val _ hc2
      have hcs := cells_val v
      have hsz : v.val.cells.size = (cellsV v).length := by rw [← Array.length_toList, hcs, vals_length]
      split at h
      · rename_i b' ty cells sp hk
        cases hle : Nat.ble (i * sz + off + (cellsV v).length) cells.length
        · rw [hle] at h; exact Or.inl h
        · rw [hle] at h
          have hle := Nat.le_of_ble_eq_true hle
          obtain ⟨⟨rfl, rfl⟩, hK⟩ := h
          rw [forceL_eq, setU_eq] at hK
          refine Or.inr ⟨_, hK, fun tl ops rest k ty' pos af next => ?_⟩
          have ex := ev_re hx
          simp only [V.val, Nat.zero_add] at ex
          refine so key (size_of hT hm) ex (ev_re hy) (rh_get hk) hsz (by simp [Bk.flat, vals_length]; omega) (by rw [hcs]; exact hone) ?_
          simp only [Bk.flat]
          rw [hcs, lay_app sp (V.vals (cellsV v)) (V.vals cells) (i * sz + off) (by rw [vals_length, vals_length]; exact hle), ← layV_val]
          have := rh_set (tl := tl) hk ⟨b, ty, .var (layV cells (i * sz + off) (cellsV v)), sp⟩
          simp only [OB.obj, Bk.flat] at this
          rw [this]; exact next
      · rename_i b' ty α cd L sp hk
        obtain ⟨⟨⟨rfl, rfl, rfl⟩, hi, hfit⟩, h⟩ := h
        have hy' := List.getElem?_eq_getElem hi
        have hzz : ∃ z, V.vals (cd.enc z) = V.vals (layV (cd.enc L[i]) off (cellsV v)) ∧ K (ho.set key ⟨b, ty, .arr cd (L.set i z), sp⟩) := by
          cases hq : (Nat.beq off 0 && Nat.beq (cellsV v).length cd.sz)
          · rw [hq] at h
            have h := h _ hy'
            split at h
            · rename_i z hz
              rw [setU_eq] at h
              exact ⟨z, cd.hdec _ _ hz, h⟩
            · exact h.elim
          · rw [hq] at h
            simp only [Bool.and_eq_true] at hq
            obtain ⟨q1, q2⟩ := hq
            obtain rfl := Nat.eq_of_beq_eq_true q1
            have q2 := Nat.eq_of_beq_eq_true q2
            simp only [cond_true] at h
            split at h
            · rename_i z hz
              rw [setU_eq] at h
              refine ⟨z, ?_, h⟩
              rw [cd.hdec _ _ hz]
              have hw : ∀ (a c : List V), a.length = c.length → V.vals (layV c 0 a) = V.vals a := by
                intro a c hac
                rw [layV_val]
                have := lay_whole (V.vals a) [] (V.vals c) (by rw [vals_length, vals_length, hac])
                simp only [List.nil_append, List.length_nil] at this
                rw [this]
              exact (hw _ _ (by rw [cd.hsz, q2])).symm
            · exact h.elim
        obtain ⟨z, hz, hK⟩ := hzz
        refine Or.inr ⟨_, hK, fun tl ops rest k ty' pos af next => ?_⟩
        have ex := ev_re hx
        simp only [V.val, Nat.zero_add] at ex
        have hsplit : L.flatMap cd.enc = (L.take i).flatMap cd.enc ++ (cd.enc L[i] ++ (L.drop (i + 1)).flatMap cd.enc) := by
          conv => lhs; rw [← List.take_append_drop i L, List.drop_eq_getElem_cons hi]
          rw [List.flatMap_append, List.flatMap_cons]
        have hsplit2 : (L.set i z).flatMap cd.enc = (L.take i).flatMap cd.enc ++ (cd.enc z ++ (L.drop (i + 1)).flatMap cd.enc) := by
          rw [List.set_eq_take_append_cons_drop, if_pos hi, List.flatMap_append, List.flatMap_cons]
        have hpl : (V.vals ((L.take i).flatMap cd.enc)).length = i * cd.sz := by rw [vals_length, flat_len, List.length_take]; congr 1; omega
        have htot : (V.vals (L.flatMap cd.enc)).length = L.length * cd.sz := by rw [vals_length, flat_len]
        have hmul : i * cd.sz + cd.sz ≤ L.length * cd.sz := by
          have := Nat.mul_le_mul_right cd.sz (show i + 1 ≤ L.length from hi)
          rw [Nat.add_mul] at this; omega
        refine so key (size_of hT hm) ex (ev_re hy) (rh_get hk) hsz (by
          simp only [OB.obj, Bk.flat, List.size_toArray, List.length_append, htot]; omega) (by rw [hcs]; exact hone) ?_
        have hl2 : (cd.enc L[i]).length = cd.sz := cd.hsz _
        simp only [OB.obj, Bk.flat]
        have e1 : lay (V.vals (L.flatMap cd.enc) ++ sp).toArray (i * cd.sz + off) v.val.cells.toList = (V.vals ((L.set i z).flatMap cd.enc) ++ sp).toArray := by
          rw [hcs, hsplit, hsplit2, vals_app, vals_app, vals_app, vals_app, hz, layV_val, ← hpl]
          simp only [List.append_assoc]
          rw [lay_pre, lay_app _ _ _ _ (by rw [vals_length, vals_length]; omega)]
        rw [e1]
        have := rh_set (tl := tl) hk ⟨b, ty, .arr cd (L.set i z), sp⟩
        simp only [OB.obj, Bk.flat] at this
        rw [this]; exact next
      · exact Or.inl h
  · exact Or.inl h

theorem flat_cells : ∀ vs : List V, V.vals (vs.flatMap cellsV) = flatC (V.vals vs)
  | [] => rfl
  | v :: vs => by
    have ih := flat_cells vs
    simp only [flatC] at ih ⊢
    simp only [List.flatMap_cons, vals_app, V.vals, ih, cells_val]

theorem make_sound (hT : TabOk C.P tb) {e : VEnv} {ho : List OB} {op : Op} {leaf : Prop} {K : V → List OB → Prop} (h : makeStep tb e ho op leaf K) :
    leaf ∨ ∀ (tl : Hs) (ops : Array Oper) (rest : List Oper) (k : List Item) (d : Nat) (ty : TypeId) (pos : String) (af : Array Edge), Nat.blt d C.N = true → (∀ v ho', K v ho' → Ops C ops rest k ((d, v.val) :: rE e) (rh ho' ++ tl)) → Ops C ops (⟨some d, op, ty, pos, af, none⟩ :: rest) k (rE e) (rh ho ++ tl) := by
  have push : ∀ {tl : Hs} {ops : Array Oper} {rest : List Oper} {k : List Item} {e' : Env} (x : OB), Ops C ops rest k e' (rh (ho ++ [x]) ++ tl) → Ops C ops rest k e' ((x.b, x.obj) :: (rh ho ++ tl)) := fun x h => ops_st (fun w hst => hst.perm (rh_push ho x _)) h
  unfold makeStep at h
  split at h
  · rename_i t
    split at h
    · rename_i z hz
      refine Or.inr fun tl ops rest k d ty pos af hd next => ?_
      rw [forceL_eq] at h
      refine al hd (zero_of hT hz) fun b => ?_
      have h := h b
      rw [pushU_eq, lenK_eq] at h
      have h1 := next _ _ h
      have e1 : (OB.mk b t (.var (cellsV (.raw z))) []).obj = .cells z.cells t := by
        have : V.vals (cellsV (.raw z)) = z.cells.toList := (cells_val (.raw z)).symm
        simp only [OB.obj, Bk.flat, this, List.append_nil, Array.toArray_toList]
      have h2 := push _ h1
      rw [e1] at h2
      simpa [V.val] using h2
    · exact Or.inl h
  · rename_i t x
    split at h
    · rename_i v hx
      refine Or.inr fun tl ops rest k d ty pos af hd next => ?_
      rw [forceL_eq] at h
      refine bx hd (ev_re hx) fun b => ?_
      have h := h b
      rw [pushU_eq, lenK_eq] at h
      have h1 := next _ _ h
      have e1 : (OB.mk b t (.var (cellsV v)) []).obj = .cells v.val.cells t := by
        simp only [OB.obj, Bk.flat, ← cells_val, List.append_nil, Array.toArray_toList]
      have h2 := push _ h1
      rw [e1] at h2
      simpa [V.val] using h2
    · exact Or.inl h
  · rename_i t n parts
    split at h
    · rename_i vs et sz hp ht
      split at h
      · rename_i sz' z h1 h3
        cases hb : (Nat.beq sz sz' && Nat.beq vs.length n && (Nat.beq z.cells.size sz && (vs.all fun v => Nat.beq (cellsV v).length sz) && (Nat.blt 0 (n * sz) && Nat.ble (n * sz) 16777216)))
        · rw [hb] at h; exact Or.inl h
        · rw [hb] at h
          simp only [Bool.and_eq_true] at hb
          obtain ⟨⟨b1, b2⟩, ⟨b3, b4⟩, b5, b6⟩ := hb
          obtain rfl := Nat.eq_of_beq_eq_true b1
          refine Or.inr fun tl ops rest k d ty pos af hd next => ?_
          simp only [cond_true] at h
          rw [forceL_eq] at h
          refine bsn hT hd (seq_re hp) (by rw [vals_length]; exact Nat.eq_of_beq_eq_true b2) ht h1 h3 (Nat.eq_of_beq_eq_true b3) (fun u hu => ?_) b5 b6 fun b => ?_
          · rw [vals_map, List.mem_map] at hu
            obtain ⟨v, hv, rfl⟩ := hu
            have := Nat.eq_of_beq_eq_true (List.all_eq_true.1 b4 v hv)
            rw [← Array.length_toList, cells_val, vals_length, this]
          · have h := h b
            rw [pushU_eq, lenK_eq] at h
            have g1 := next _ _ h
            have e1 : (OB.mk b et (.var (vs.flatMap cellsV)) []).obj = .cells (flatC (V.vals vs)).toArray et := by
              have : V.vals (vs.flatMap cellsV) = flatC (V.vals vs) := flat_cells vs
              simp only [OB.obj, Bk.flat, this, List.append_nil]
            have g2 := push _ g1
            rw [e1] at g2
            simpa [V.val, stN] using g2
      · exact Or.inl h
    · exact Or.inl h
  · exact Or.inl h

theorem vc_sound0 (hT : TabOk C.P tb) (hL : LentOk C hl) : ∀ (tl : Hs) (n : Nat) (pt : Pt) (e : VEnv) (ho : List OB), vc C tb hl tl n pt e ho → HereF C tl pt e ho := by
  intro tl n
  induction n with
  | zero => intro pt e ho h; cases pt <;> exact h.go
  | succ n ih =>
    intro pt e ho h
    cases pt with
    | run k =>
      simp only [vc, stepRun] at h
      split at h
      · exact sq (ih _ _ _ h)
      · exact sk (ih _ _ _ h)
      · exact lb (ih _ _ _ h)
      · exact bl (ih _ _ _ h)
      · exact ib (ih _ _ _ h)
      · split at h
        · rename_i hk; exact xt hk (ih _ _ _ h)
        · exact h.go
      · split at h
        · rename_i hc; exact it (ev_re hc) (ih _ _ _ h)
        · rename_i hc; exact fi (ev_re hc) (ih _ _ _ h)
        · rename_i p d hc; exact cd (ev_re hc) (fun hp => ih _ _ _ (h.1 hp)) (fun hp => ih _ _ _ (h.2 hp))
        · exact h.go
      · rename_i id ops k'
        have := ih _ _ _ h
        simp only [HereF] at this
        have h2 := rg (id := id) this
        rwa [Array.toArray_toList] at h2
      · exact h.go
    | ops l0 l k =>
      simp only [vc, stepOps] at h
      split at h
      · exact nl (ih _ _ _ h)
      · rename_i dst op ty pos af j want r
        split at h
        · rename_i gd hgd
          split at h
          · rename_i b hb
            have hg := eg_re e gd
            rw [hb] at hg
            cases hbw : (b == want)
            · rw [hbw] at h
              simp only [cond_false] at h
              split at h
              · rename_i d
                cases hd : Nat.blt d C.N
                · rw [hd] at h; exact h.go
                · rw [hd] at h; exact gn hd hgd hg hbw (ih _ _ _ h)
              · exact h.go
            · rw [hbw] at h
              have : b = want := by simpa using hbw
              subst this
              exact gy hgd hg (ih _ _ _ h)
          · rename_i p dp hb
            have hg := eg_re e gd
            rw [hb] at hg
            exact gs hgd hg (fun hp => ih _ _ _ (h.1 hp)) (fun hp => ih _ _ _ (h.2 hp))
          · rename_i v hb
            have hg := eg_re e gd
            rw [hb] at hg
            cases hn : notBool v
            · rw [hn] at h; exact h.go
            · rw [hn] at h
              simp only [cond_true] at h
              split at h
              · rename_i d
                cases hd : Nat.blt d C.N
                · rw [hd] at h; exact h.go
                · rw [hd] at h; exact gu hd hgd hg hn (ih _ _ _ h)
              · exact h.go
          · exact h.go
        · exact h.go
      · rename_i d op ty pos af r
        cases hd : Nat.blt d C.N
        · rw [hd] at h; exact h.go
        · rw [hd] at h
          simp only [cond_true] at h
          split at h
          · rcases load_sound hT hL h with h | ⟨v, hv, hK⟩
            · exact h.go
            · exact o2 hd (hv tl) (ih _ _ _ hK)
          · rcases val_sound hT h with h | ⟨v, hv, hK⟩
            · rcases make_sound (C := C) hT h with h | h
              · exact h.go
              · exact h _ _ _ _ _ _ _ _ hd fun v ho' hK => ih _ _ _ hK
            · exact o1 hd hv (ih _ _ _ hK)
      · rcases store_sound (C := C) hT h with h | ⟨ho', hK, hn⟩
        · exact h.go
        · exact hn _ _ _ _ _ _ _ (ih _ _ _ hK)
      · exact h.go
    | drw l0 fl0 k l =>
      simp only [vc, stepDrw] at h
      split at h
      · split at h
        · rename_i hrd; exact d_nil hrd (ih _ _ _ h)
        · exact h.go
      · exact d_eff (ih _ _ _ h)
      · rename_i d op ty pos af j want f r hf
        split at h
        · rename_i gd hgd
          split at h
          · rename_i b hb
            have hg := eg_re e gd
            rw [hb] at hg
            cases hbw : (b == want)
            · rw [hbw] at h
              simp only [cond_false] at h
              cases hd : (Nat.blt d C.N && !(f == 2))
              · rw [hd] at h; exact h.go
              · rw [hd] at h
                simp only [Bool.and_eq_true, Bool.not_eq_true'] at hd
                exact d0g hd.2 hd.1 hgd hg hbw (ih _ _ _ h)
            · rw [hbw] at h
              have : b = want := by simpa using hbw
              subst this
              exact dy hgd hg (ih _ _ _ h)
          · rename_i p dp hb
            have hg := eg_re e gd
            rw [hb] at hg
            exact ds hgd hg (fun hp => ih _ _ _ (h.1 hp)) (fun hp => ih _ _ _ (h.2 hp))
          · rename_i v hb
            have hg := eg_re e gd
            rw [hb] at hg
            cases hn : (notBool v && (Nat.blt d C.N && !(f == 2)))
            · rw [hn] at h; exact h.go
            · rw [hn] at h
              simp only [Bool.and_eq_true, Bool.not_eq_true'] at hn
              exact du hn.2.2 hn.2.1 hgd hg hn.1 (ih _ _ _ h)
          · exact h.go
        · exact h.go
      · rename_i d op ty pos af f r hf
        cases hd : (Nat.blt d C.N && !(f == 2))
        · rw [hd] at h; exact h.go
        · rw [hd] at h
          simp only [Bool.and_eq_true, Bool.not_eq_true'] at hd
          simp only [cond_true] at h
          split at h
          · cases hf1 : (f == 1)
            · rw [hf1] at h; exact h.go
            · rw [hf1] at h
              have hf1 : f = 1 := by simpa using hf1
              subst hf1
              rcases load_sound hT hL h with h | ⟨v, hv, hK⟩
              · exact h.go
              · exact d2 hd.1 (hv tl) (ih _ _ _ hK)
          · rcases val_sound hT h with h | ⟨v, hv, hK⟩
            · exact h.go
            · exact d1 hd.2 hd.1 hv (ih _ _ _ hK)
      · exact h.go

theorem vc_sound (hT : TabOk C.P tb) (hL : LentOk C hl) (tl : Hs) (n : Nat) (pt : Pt) (e : VEnv) (ho : List OB) (h : vc C tb hl tl n pt e ho) : Here C tl pt e ho := ⟨vc_sound0 hT hL tl n pt e ho h⟩
theorem vgo {e : VEnv} {ho : List OB} {tl : Hs} {pt : Pt} (n : Nat) (hl : List LB) (hT : TabOk C.P tb) (hL : LentOk C hl) (h : vc C tb hl tl n pt e ho) : Here C tl pt e ho := vc_sound hT hL tl n pt e ho h
end
end Go.Fl
