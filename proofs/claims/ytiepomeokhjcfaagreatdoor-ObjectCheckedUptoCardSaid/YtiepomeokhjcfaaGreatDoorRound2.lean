/-
  Ranges over functions: the call of yield; the end of a function that has marks, or whose results lie in memory. No condition.
-/
import Derived.Test.YtiepomeokhjcfaaGreatDoorCon
import Derived.RangeFuncIn
import Derived.RangeFuncRecord
import Derived.RangeFuncLeaves
namespace Go.Fl
open Go.Proofs Go.RowKit

/-- A round of the loop l, of these temporaries: called with these blocks, it answers (whether to go on), and then they are as told. -/
structure Rnd (P : Program) (l : Nat) (r : Loop) (tmps : Array Value) (bs : Hs) (post : Value → Hs → Prop) : Prop where
  go : ∀ w, St w (bs.map (·.1)) bs w → RoundIn Fence.wide 0 P l r.fn tmps r.assign r.body w (ConPost w (bs.map (·.1)) post)

theorem rnd_start {P : Program} {l : Nat} {r : Loop} {fn : Func} {tmps : Array Value} {bs : Hs} {post : Value → Hs → Prop} {n : Nat} {e : Env} (hf : P.funcs[r.fn]? = some fn) (hn : tmps.size = n) (he : ∀ d, EnvOk e { tmps := tmps, defers := d })
    (h : ∀ w, Run ⟨P, r.fn, fn, hf, n, w, bs.map (·.1), ConPost w (bs.map (·.1)) post, some (some l), []⟩ [.code r.assign, .beginRound, .code r.body] e bs) : Rnd P l r tmps bs post := by
  refine ⟨fun w hst => ⟨trivial, fun c cs _ => ?_⟩⟩
  have h1 := (h w).go { tmps := tmps, defers := [] } w ⟨hn, rfl, he _, hst⟩ (c :: cs)
  unfold Fin at h1
  have e1 : Frame.round l r.fn tmps r.assign r.body .normal = (Cx.b ⟨P, r.fn, fn, hf, n, w, bs.map (·.1), ConPost w (bs.map (·.1)) post, some (some l), []⟩).atR { tmps := tmps, defers := [] } [.code r.assign, .beginRound, .code r.body] := by
    simp [Frame.round, Frame.atR, Cx.b]
  obtain ⟨en, w', hR, hc⟩ := h1 c cs rfl
  rw [e1]
  exact ⟨en, w', hR, comesIn_wide.2 hc⟩

theorem St.put_loop {W0 w : World} {own : List Nat} {hs : Hs} (h : St W0 own hs w) {i l : Nat} {o : Obj} (o' : Obj) (hi : hs[i]? = some (l, o)) : St W0 own (hs.set i (l, o')) (w.putObj l o') := by
  have hlt := h.lt (List.mem_of_getElem? hi)
  exact h.set hi rfl rfl rfl (by simp [World.putObj]) (World.putObj_heap_same hlt) (fun k hk => World.putObj_heap_other hk)

section
variable {C : Cx} {k : List Item} {e : Env} {hs : Hs}
/-- The round begins. -/
theorem br (i : Nat) {l : Nat} {r : Loop} (hrd : C.rd = some (some l)) (hi : hs[i]? = some (l, .loop r)) (hr : r.state = .ready) (h : Run C k e (hs.set i (l, .loop { r with state := .busy }))) : Run C (.beginRound :: k) e hs := by
  refine ⟨fun a w ok => ?_⟩
  have hb : C.b.roundOf = some l := by show C.rd.join = some l; rw [hrd]; rfl
  have hl : w.heap[l]? = some (.loop r) := ok.st.has _ (List.mem_of_getElem? hi)
  exact Cont.of_steps (fun cs => .one (stepR_beginRound hb (run_beginRound hl hr))) (h.go a _ ⟨ok.n, ok.d, ok.e, ok.st.put_loop _ hi⟩)
theorem round_out {l : Nat} {a : Act} {w : World} {v : Value} {w' : World} (hrd : C.rd = some (some l)) (hR : C.R (.returned v) w')
    (hs1 : ∀ c cs, step C.P (lone (C.b.atR a k) (c :: cs) w) = .next (lone (c.finish v) cs w')) : Cont C k a w := by
  intro cs
  unfold Fin
  rw [hrd]
  intro c cs' hcs
  subst hcs
  exact ⟨.returned v, w', hR, Steps.one (hs1 c cs')⟩
/-- It ends: off its end; by ret; by an exit. -/
theorem re (i : Nat) {l : Nat} {r : Loop} (hrd : C.rd = some (some l)) (hi : hs[i]? = some (l, .loop r)) (h : ∀ w, St C.W0 C.own (hs.set i (l, .loop { r with state := .ready, pending := none })) w → C.R (.returned (.bool true)) w) : Run C [] e hs := by
  refine ⟨fun a w ok => ?_⟩
  have hb : C.b.roundOf = some l := by show C.rd.join = some l; rw [hrd]; rfl
  have hl : w.heap[l]? = some (.loop r) := ok.st.has _ (List.mem_of_getElem? hi)
  exact round_out hrd (h _ (ok.st.put_loop _ hi)) (fun c cs => stepR_round_end hb rfl (run_endRound none hl))
theorem rt (i : Nat) {l : Nat} {r : Loop} (hrd : C.rd = some (some l)) (hi : hs[i]? = some (l, .loop r)) (h : ∀ w, St C.W0 C.own (hs.set i (l, .loop { r with state := .done, pending := some .ret })) w → C.R (.returned (.bool false)) w) : Run C (.code .ret :: k) e hs := by
  refine ⟨fun a w ok => ?_⟩
  have hb : C.b.roundOf = some l := by show C.rd.join = some l; rw [hrd]; rfl
  have hl : w.heap[l]? = some (.loop r) := ok.st.has _ (List.mem_of_getElem? hi)
  exact round_out hrd (h _ (ok.st.put_loop _ hi)) (fun c cs => stepR_round_ret hb rfl (run_endRound (some .ret) hl))
theorem rx (i : Nat) {l id : Nat} {r : Loop} (hrd : C.rd = some (some l)) (hx : exitTo id k = none) (hi : hs[i]? = some (l, .loop r)) (h : ∀ w, St C.W0 C.own (hs.set i (l, .loop { r with state := .done, pending := some (.exit id) })) w → C.R (.returned (.bool false)) w) : Run C (.code (.exit id) :: k) e hs := by
  refine ⟨fun a w ok => ?_⟩
  have hb : C.b.roundOf = some l := by show C.rd.join = some l; rw [hrd]; rfl
  have hl : w.heap[l]? = some (.loop r) := ok.st.has _ (List.mem_of_getElem? hi)
  exact round_out hrd (h _ (ok.st.put_loop _ hi)) (fun c cs => stepR_round_exit hb rfl hx (run_endRound (some (.exit id)) hl))

/-- THE LOOP: the function that it is over is called with yield. -/
theorem rf {g : Operand} {ps : Array Tmp} {assign body : Code} {f : FuncId} {first captured : Array Value} (hrd : C.rd = some none) (hg : ev e g = some (.func (.func f) first captured)) (hf : isFn C.P f = true)
    (Φ : Nat → Nat → Option Code → Hs → Prop)
    (hcall : ∀ (m l : Nat) (tmps : Array Value), tmps.size = C.N → (∀ d, EnvOk e { tmps := tmps, defers := d }) →
      Con C.P f (first.toList ++ [.func (.yield l) #[] #[]] ++ captured.toList) ((l, .loop { state := .ready, pending := none, fn := C.f, tmps := tmps, params := ps, assign := assign, body := body, defers := m }) :: (m, .deferred (some [])) :: hs) (fun w => ∃ w0, St C.W0 C.own hs w0 ∧ Below w0.heap.size w0 w)
        (fun _ hs' => ∃ r hs1, hs' = (l, .loop r) :: (m, .deferred (some [])) :: hs1 ∧ r.state ≠ .busy ∧ Φ m l r.pending hs1))
    (next : ∀ m l jump hs1, Φ m l jump hs1 → Run { C with ms := m :: C.ms } ((jump.map Item.code).toList ++ k) e ((m, .deferred (some [])) :: hs1)) : Run C (.code (.rangeFunc g ps assign body) :: k) e hs := by
  refine ⟨fun a w ok cs => ?_⟩
  have hb : C.b.roundOf = none := by show C.rd.join = none; rw [hrd]; rfl
  have hfn : C.b.fn = C.f := rfl
  obtain ⟨lo, hlo⟩ : ∃ lo : Loop, lo = { state := .ready, pending := none, fn := C.f, tmps := a.tmps, params := ps, assign := assign, body := body, defers := w.heap.size } := ⟨_, rfl⟩
  have hen : (Instr.enterLoop C.b.fn a.tmps ps assign body C.b.roundOf).run C.P w = .ok (w.heap.size + 1, [markOf w.heap.size]) ((w.alloc (.deferred (some []))).alloc (.loop lo)) := by
    rw [hb, hlo, hfn]; exact run_enterLoop_outer _ _ _ _ _
  have hev := ok.e.eval hg
  have hres : (resolve a.eval (rangeCall g (w.heap.size + 1)) 0).run C.P ((w.alloc (.deferred (some []))).alloc (.loop lo)) = .ok { target := .fn (.func f) captured, args := first ++ #[.func (.yield (w.heap.size + 1)) #[] #[]] } ((w.alloc (.deferred (some []))).alloc (.loop lo)) := by
    have hc : a.eval (.const (.func (.yield (w.heap.size + 1)) #[] #[])) = .func (.yield (w.heap.size + 1)) #[] #[] := rfl
    simp [resolve, rangeCall, hev, Deferred.ofValue, hc]
  have hinv : (invoke (.fn (.func f) captured) (first ++ #[.func (.yield (w.heap.size + 1)) #[] #[]])).run C.P ((w.alloc (.deferred (some []))).alloc (.loop lo)) = .ok (.enter f (first ++ #[.func (.yield (w.heap.size + 1)) #[] #[]] ++ captured)) ((w.alloc (.deferred (some []))).alloc (.loop lo)) := by
    unfold isFn at hf
    cases hg2 : C.P.funcs[f]? with
    | none => simp [hg2] at hf
    | some fn =>
      simp only [hg2, Bool.and_eq_true, bne_iff_ne, ne_eq] at hf
      obtain ⟨h2, h3⟩ := hf
      obtain ⟨bd, h4⟩ := Option.isSome_iff_exists.1 h3
      simp [invoke, callFunc, hg2, h2, h4]
  have hstep := stepR_rangeFunc (P := C.P) (b := C.b) (a := a) (k := k) (cs := cs) (w := w) hen hres hinv
  have hst1 : St C.W0 C.own ((w.heap.size, .deferred (some [])) :: hs) (w.alloc (.deferred (some []))) := ok.st.push _
  have hst2 : St C.W0 C.own ((w.heap.size + 1, .loop lo) :: (w.heap.size, .deferred (some [])) :: hs) ((w.alloc (.deferred (some []))).alloc (.loop lo)) := by
    have := hst1.push (.loop lo)
    rw [show (w.alloc (.deferred (some []))).heap.size = w.heap.size + 1 by show (w.heap.push _).size = _; simp] at this
    exact this
  have hbel : Below w.heap.size w ((w.alloc (.deferred (some []))).alloc (.loop lo)) :=
    (((St.start w).push (.deferred (some []))).push (.loop lo)).below
  have hcon := hcall w.heap.size (w.heap.size + 1) a.tmps ok.n (fun d t v ht => ok.e t v ht)
  rw [← hlo] at hcon
  have hsw : St ((w.alloc (.deferred (some []))).alloc (.loop lo)) (((w.heap.size + 1, Obj.loop lo) :: (w.heap.size, .deferred (some [])) :: hs).map (·.1)) ((w.heap.size + 1, .loop lo) :: (w.heap.size, .deferred (some [])) :: hs) ((w.alloc (.deferred (some []))).alloc (.loop lo)) :=
    ⟨rfl, rfl, rfl, Nat.le_refl _, fun _ _ _ => rfl, hst2.has, hst2.nodup, fun y hy => Or.inl (List.mem_map_of_mem hy)⟩
  have hcalls := hcon.go _ hsw ⟨w, ok.st, hbel⟩
  obtain ⟨en, w3, fr, hR, hc, hfn2, hl⟩ := hcalls (C.b.atR { a with defers := [markOf w.heap.size] ++ a.defers } (.inRangeFunc (w.heap.size + 1) :: k) :: cs)
  obtain ⟨v, hs', rfl, hst3, r, hs1, rfl, hbusy, hΦ⟩ := hR
  have hst4 : St C.W0 C.own ((w.heap.size + 1, .loop r) :: (w.heap.size, .deferred (some [])) :: hs1) w3 := by
    have := St.call (bs := (w.heap.size + 1, .loop lo) :: (w.heap.size, .deferred (some [])) :: hs) (rest := []) (by simpa using hst2) hst3
    simpa using this
  have hloop : w3.heap[w.heap.size + 1]? = some (.loop r) := hst4.has _ List.mem_cons_self
  have hargs : (first.toList ++ [Value.func (.yield (w.heap.size + 1)) #[] #[]] ++ captured.toList).toArray = first ++ #[.func (.yield (w.heap.size + 1)) #[] #[]] ++ captured := by simp
  rw [hargs] at hc
  have hend := run_endLoop (P := C.P) hloop hbusy
  have hst5 : St C.W0 C.own ((w.heap.size, .deferred (some [])) :: hs1) (w3.putObj (w.heap.size + 1) (.loop { r with state := .exhausted })) := (hst4.put_loop (i := 0) _ rfl).sub (List.Sublist.cons _ (List.Sublist.refl _))
  have hgo := (next _ _ r.pending hs1 hΦ).go { a with defers := [markOf w.heap.size] ++ a.defers } _ ⟨ok.n, by show [markOf w.heap.size] ++ a.defers = _; rw [ok.d]; rfl, fun t v ht => ok.e t v ht, hst5⟩ cs
  refine Fin.of_steps ?_ hgo
  refine Steps.trans (Steps.one hstep) (Steps.trans hc (Steps.trans (Steps.one ?_) (Steps.one (stepR_endRangeFunc hend))))
  rw [← finish_atR_inRangeFunc (w.heap.size + 1) v]
  exact step_leave_returned hl
end
end Go.Fl

namespace Go.Fl
open Go.Proofs Go.RowKit

def yieldTmps (r : Loop) (vs : List Value) : Array Value := (r.params.zip vs.toArray).foldl (fun tmps (t, a) => tmps.setIfInBounds t a) r.tmps

section
variable {C : Cx} {ops : Array Oper} {rest : List Oper} {k : List Item} {e : Env} {hs : Hs} {d : Nat} {ty : TypeId} {pos : String} {af : Array Edge}
/-- YIELD is called: a round. -/
theorem oy {x : Operand} {l : Nat} {r : Loop} {q : Option Nat} {xs : List Operand} {vs : List Value} {at_ : Array TypeId} {bs rest' : Hs} {post : Value → Hs → Prop} (hrd : C.rd = some q) (hd : Nat.blt d C.N = true) (hx0 : ev e x = some (.func (.yield l) #[] #[]))
    (hx : evAll e xs = some vs) (hp : (bs ++ rest').Perm hs) (hl : (l, Obj.loop r) ∈ bs) (hsz : vs.length = r.params.size) (h : Rnd C.P l r (yieldTmps r vs) bs post) (next : ∀ v hs', post v hs' → Ops C ops rest k ((d, v) :: e) (hs' ++ rest')) :
    Ops C ops (⟨some d, .call { callee := .value x, args := xs.toArray, argTypes := at_ }, ty, pos, af, none⟩ :: rest) k e hs := by
  refine ⟨fun a w ok => ?_⟩
  have hst : St C.W0 C.own (bs ++ rest') w := ok.st.perm hp
  have hloop : w.heap[l]? = some (.loop r) := hst.has _ (List.mem_append_left _ hl)
  have h1 := evAll_eval ok.e xs vs hx
  have hr : (execOp a.eval ⟨some d, .call { callee := .value x, args := xs.toArray, argTypes := at_ }, ty, pos, af, none⟩).run C.P w = .ok (.round l r.fn (yieldTmps r vs) r.assign r.body) w := by
    have hy := run_yield (P := C.P) (args := vs.toArray) hloop (by simpa using hsz)
    simp only [execOp, resolve, ok.e.eval hx0, Deferred.ofValue, Sem.run_bind, Sem.run_pure, Result.andThen_ok, List.map_toArray, h1, Array.empty_append, invoke]
    exact hy
  have hw : St w (bs.map (·.1)) bs w :=
    ⟨rfl, rfl, rfl, Nat.le_refl _, fun _ _ _ => rfl, fun y hy => hst.has y (List.mem_append_left _ hy), (by have := hst.nodup; rw [List.map_append, List.nodup_append] at this; exact this.1), fun y hy => Or.inl (List.mem_map_of_mem hy)⟩
  unfold wpX
  rw [hrd]
  refine wpListIn_plain rfl fun K hK => wpIn_mk hr (fun _ h => by cases h) ⟨(fun hh => by cases hh), ?_⟩
  refine RoundIn.mono (h.go w hw) ?_
  rintro en w' ⟨v, hs', rfl, hst', hpost⟩
  have hgo := (next v hs' hpost).go _ _ ((ok.world (St.call hst hst')).put hd v)
  unfold wpX at hgo
  rw [hrd] at hgo
  exact hK _ _ hgo
end

section
variable {C : Cx} {k : List Item} {e : Env} {hs hs' : Hs}
/-- What the marks leave. -/
def Outs (C : Cx) (hs hs' : Hs) : Prop := (C.ms = [] ∧ hs' = hs) ∨ ∃ m i, C.ms = [m] ∧ hs[i]? = some (m, .deferred (some [])) ∧ hs' = hs.set i (m, .deferred none)

theorem outs_steps {fr : Frame} {cs : List Frame} {w : World} (ho : Outs C hs hs') (hm : fr.mode = .returning) (hd : fr.defers = C.ms.map markOf) (hst : St C.W0 C.own hs w) :
    ∃ w', Steps C.P (lone fr cs w) (lone { fr with defers := [] } cs w') ∧ St C.W0 C.own hs' w' := by
  rcases ho with ⟨h1, rfl⟩ | ⟨m, i, h1, hi, rfl⟩
  · rw [h1] at hd
    refine ⟨w, ?_, hst⟩
    have : ({ fr with defers := [] } : Frame) = fr := by cases fr; simp_all
    rw [this]
    exact Steps.refl _ _
  · rw [h1] at hd
    have hmk : w.heap[m]? = some (.deferred (some [])) := hst.has _ (List.mem_of_getElem? hi)
    refine ⟨w.putObj m (.deferred none), Steps.one ?_, hst.put_loop _ hi⟩
    have := step_collected (P := C.P) (fr := fr) (cs := cs) (w := w) (d := markOf m) (ds := []) (r := m) (by rw [hm]; simp) hd rfl (run_takeDeferred hmk)
    exact this

theorem results_cc {fn : Func} {tmps : Array Value} {P : Program} {w : World} {t1 t2 : Nat} {y1 y2 : TypeId} {a1 a2 : Addr} {v1 v2 : Value} (hr : fn.results = #[.cell t1 y1, .cell t2 y2]) (h1 : tmps[t1]? = some (.pointer (some a1))) (h2 : tmps[t2]? = some (.pointer (some a2)))
    (l1 : (loadVar y1 a1).run P w = .ok v1 w) (l2 : (loadVar y2 a2).run P w = .ok v2 w) : (results fn tmps).run P w = .ok (.tuple #[v1, v2]) w := by
  unfold results
  rw [hr, show (#[ResultVar.cell t1 y1, ResultVar.cell t2 y2] : Array ResultVar) = [ResultVar.cell t1 y1, ResultVar.cell t2 y2].toArray from rfl, List.mapM_toArray]
  simp [List.mapM_cons, h1, h2, asAddr, l1, l2]

theorem rcc2 (ho : Outs C hs hs') {t1 t2 b1 b2 i1 i2 : Nat} {y1 y2 ty1 ty2 : TypeId} {fz1 fz2 : Nat × Nat} {v1 v2 : Value} (hrd : C.rd.join = none) (hr : C.fn.results = #[.cell t1 y1, .cell t2 y2]) (g1 : eget e t1 = some (.pointer (some ⟨b1, 0, none⟩))) (g2 : eget e t2 = some (.pointer (some ⟨b2, 0, none⟩)))
    (s1 : shapeT C.P y1 = some none) (s2 : shapeT C.P y2 = some none) (h1 : hs'[i1]? = some (b1, .cells #[v1] ty1 fz1)) (h2 : hs'[i2]? = some (b2, .cells #[v2] ty2 fz2))
    (h : ∀ w, St C.W0 C.own hs' w → C.R (.returned (.tuple #[v1, v2])) w) : Run C (.code .ret :: k) e hs := by
  refine ⟨fun a w ok cs => ?_⟩
  have hb : C.b.roundOf = none := hrd
  obtain ⟨w', hsteps, hst⟩ := outs_steps (fr := { C.b.atR a (.code .ret :: k) with mode := .returning }) (cs := cs) ho rfl ok.d ok.st
  unfold Fin
  simp only [hrd]
  refine ⟨.returned (.tuple #[v1, v2]), w', { { C.b.atR a (.code .ret :: k) with mode := .returning } with defers := [] }, h w' hst, Steps.trans (Steps.one (stepR_ret hb)) hsteps, rfl, rfl, rfl, rfl, C.fn, C.hf, ?_⟩
  have c1 : w'.heap[b1]? = some (.cells #[v1] ty1 fz1) := hst.has _ (List.mem_of_getElem? h1)
  have c2 : w'.heap[b2]? = some (.cells #[v2] ty2 fz2) := hst.has _ (List.mem_of_getElem? h2)
  exact results_cc hr (ok.e _ _ g1) (ok.e _ _ g2) (run_loadVar1 s1 (by simp [World.cell?, c1])) (run_loadVar1 s2 (by simp [World.cell?, c2]))

/-- ..whose results are temporaries. -/
theorem rcm {ts : List Nat} {vs : List Value} (ho : Outs C hs hs') (hrd : C.rd.join = none) (hr : C.fn.results = (ts.map ResultVar.tmp).toArray) (hg : getAll e ts = some vs)
    (h : ∀ w, St C.W0 C.own hs' w → C.R (.returned (resOf vs)) w) : Run C (.code .ret :: k) e hs := by
  refine ⟨fun a w ok cs => ?_⟩
  have hb : C.b.roundOf = none := hrd
  obtain ⟨w', hsteps, hst⟩ := outs_steps (fr := { C.b.atR a (.code .ret :: k) with mode := .returning }) (cs := cs) ho rfl ok.d ok.st
  unfold Fin
  simp only [hrd]
  refine ⟨.returned (resOf vs), w', { { C.b.atR a (.code .ret :: k) with mode := .returning } with defers := [] }, h w' hst, Steps.trans (Steps.one (stepR_ret hb)) hsteps, rfl, rfl, rfl, rfl, C.fn, C.hf, ?_⟩
  have key : ∀ (ts : List Nat) (vs : List Value), getAll e ts = some vs → ∃ l : List (Nat × Value), ts = l.map (·.1) ∧ vs = l.map (·.2) ∧ ∀ x ∈ l, eget e x.1 = some x.2 := by
    intro ts
    induction ts with
    | nil => intro vs h; simp [getAll] at h; exact ⟨[], by simp, by simp [h], by simp⟩
    | cons t ts ih =>
      intro vs h
      unfold getAll at h
      split at h
      · rename_i v vs' hv hvs
        obtain ⟨l, h1, h2, h3⟩ := ih vs' hvs
        cases h
        exact ⟨(t, v) :: l, by simp [h1], by simp [h2], fun y hy => by rcases List.mem_cons.1 hy with rfl | hy; exact hv; exact h3 y hy⟩
      · cases h
  obtain ⟨l, rfl, rfl, h3⟩ := key ts vs hg
  refine results_eq (l := l) (by rw [hr]; simp) (fun x hx => ok.e _ _ (h3 x hx)) ?_
  unfold resOf
  rcases l with _ | ⟨x, _ | ⟨y, l⟩⟩ <;> rfl
end

/-- THE START of a function that runs rounds, or calls yield. -/
theorem calls_of_runR {P : Program} {f : FuncId} {fn : Func} {c : Code} {args : Array Value} {w : World} {R : Ending → World → Prop} {n : Nat}
    (hf : P.funcs[f]? = some fn) (hb : fn.body = some c) (hn : fn.ntmps = n) (hle : args.size ≤ n) (own : List Nat) (hs : Hs) (hst : St w own hs w)
    (h : Run ⟨P, f, fn, hf, n, w, own, R, some none, []⟩ [.code c] (args.toList.zipIdx.map fun x => (x.2, x.1)) hs) : Calls P f args w R := by
  intro cs
  have henter : Frame.enter P f args .normal =
      (Cx.b ⟨P, f, fn, hf, n, w, own, R, some none, []⟩).atR { tmps := args ++ Array.replicate (fn.ntmps - args.size) undef, defers := [] } [.code c] := by
    simp [Frame.enter, Frame.atR, hf, hb, Cx.b]
  rw [henter]
  refine h.go _ _ ⟨?_, rfl, ?_, hst⟩ cs
  · simp [hn]; omega
  · intro t v ht
    have key : ∀ (l : List Value) (k : Nat), eget ((l.zipIdx k).map fun x => (x.2, x.1)) t = some v → k ≤ t ∧ l[t - k]? = some v := by
      intro l
      induction l with
      | nil => intro k h; simp [eget] at h
      | cons x l ih =>
        intro k h
        simp only [List.zipIdx_cons, List.map_cons, eget] at h
        cases hb : Nat.beq k t
        · rw [hb] at h
          obtain ⟨h1, h2⟩ := ih (k + 1) h
          refine ⟨by omega, ?_⟩
          have : t - k = (t - (k + 1)) + 1 := by omega
          rw [this, List.getElem?_cons_succ]; exact h2
        · rw [hb] at h
          obtain rfl : k = t := Nat.eq_of_beq_eq_true hb
          cases h
          simp
    obtain ⟨_, h2⟩ := key args.toList 0 ht
    simp only [Nat.sub_zero, Array.getElem?_toList] at h2
    have hlt := (Array.getElem?_eq_some_iff.1 h2).1
    rw [Array.getElem?_append_left hlt]; exact h2

theorem con_startR {P : Program} {f : FuncId} {fn : Func} {c : Code} {args : List Value} {bs : Hs} {pre : World → Prop} {post : Value → Hs → Prop} {n : Nat}
    (hf : P.funcs[f]? = some fn) (hb : fn.body = some c) (hn : fn.ntmps = n) (hle : Nat.ble args.length n = true)
    (h : ∀ w, pre w → Run ⟨P, f, fn, hf, n, w, bs.map (·.1), ConPost w (bs.map (·.1)) post, some none, []⟩ [.code c] (args.zipIdx.map fun x => (x.2, x.1)) bs) : Con P f args bs pre post :=
  ⟨fun w hst hp => calls_of_runR hf hb hn (by simpa using Nat.le_of_ble_eq_true hle) _ _ hst (h w hp)⟩
section starts
variable {P : Program} {f : FuncId} {fn : Func} {c : Code} {bs : Hs} {pre : World → Prop} {post : Value → Hs → Prop} {n : Nat} {v0 v1 v2 v3 v4 : Value}
theorem con_startR1 (hf : P.funcs[f]? = some fn) (hb : fn.body = some c) (hn : fn.ntmps = n) (hle : Nat.ble 1 n = true)
    (h : ∀ w, pre w → Run ⟨P, f, fn, hf, n, w, bs.map (·.1), ConPost w (bs.map (·.1)) post, some none, []⟩ [.code c] [(0, v0)] bs) : Con P f [v0] bs pre post := con_startR hf hb hn hle h
theorem con_startR2 (hf : P.funcs[f]? = some fn) (hb : fn.body = some c) (hn : fn.ntmps = n) (hle : Nat.ble 2 n = true)
    (h : ∀ w, pre w → Run ⟨P, f, fn, hf, n, w, bs.map (·.1), ConPost w (bs.map (·.1)) post, some none, []⟩ [.code c] [(0, v0), (1, v1)] bs) : Con P f [v0, v1] bs pre post := con_startR hf hb hn hle h
theorem con_startR4 (hf : P.funcs[f]? = some fn) (hb : fn.body = some c) (hn : fn.ntmps = n) (hle : Nat.ble 4 n = true)
    (h : ∀ w, pre w → Run ⟨P, f, fn, hf, n, w, bs.map (·.1), ConPost w (bs.map (·.1)) post, some none, []⟩ [.code c] [(0, v0), (1, v1), (2, v2), (3, v3)] bs) : Con P f [v0, v1, v2, v3] bs pre post := con_startR hf hb hn hle h
end starts

theorem Con.conv {P : Program} {f : FuncId} {args : List Value} {bs bs' : Hs} {pre pre' : World → Prop} {post post' : Value → Hs → Prop} (h : Con P f args bs pre post) (hp : bs'.Perm bs) (hpre : ∀ w, pre' w → pre w)
    (hpost : ∀ v hs', post v hs' → ∃ hs'', hs''.Perm hs' ∧ post' v hs'') : Con P f args bs' pre' post' := by
  refine ⟨fun w hst hw => ?_⟩
  have hmem : ∀ k, k ∈ bs.map (·.1) ↔ k ∈ bs'.map (·.1) := fun k => ((hp.map _).mem_iff).symm
  have hst' : St w (bs.map (·.1)) bs w := by
    have h1 := hst.perm hp.symm
    exact ⟨h1.os, h1.tape, h1.output, h1.size, fun _ _ _ => rfl, h1.has, h1.nodup, fun x hx => Or.inl (List.mem_map_of_mem hx)⟩
  refine (h.go w hst' (hpre w hw)).mono ?_
  rintro en w' ⟨v, hs', rfl, hst2, hv⟩
  obtain ⟨hs'', hp2, hv2⟩ := hpost v hs' hv
  refine ⟨v, hs'', rfl, ?_, hv2⟩
  have h2 := hst2.perm hp2
  exact ⟨h2.os, h2.tape, h2.output, h2.size, fun k hk ho => h2.old k hk (fun hm => ho ((hmem k).1 hm)), h2.has, h2.nodup, fun x hx => (h2.mine x hx).imp (fun hm => (hmem _).1 hm) id⟩
theorem ops_st {C : Cx} {ops : Array Oper} {rest : List Oper} {k : List Item} {e : Env} {hs hs' : Hs} (f : ∀ w, St C.W0 C.own hs w → St C.W0 C.own hs' w) (h : Ops C ops rest k e hs') : Ops C ops rest k e hs :=
  ⟨fun a w ok => h.go a w ⟨ok.n, ok.d, ok.e, f w ok.st⟩⟩
end Go.Fl
