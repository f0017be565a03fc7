/-
  Ranges over functions: the loop, its rounds, the call of yield; results that lie in memory. No condition.
-/
import Derived.Test.YtiepomeokhjcfaaDoorCon
import Derived.RangeFuncIn
import Derived.RangeFuncRecord
import Derived.RangeFuncLeaves
namespace Go.Fl
open Go.Proofs Go.RowKit

/-- A round of the loop l, of these temporaries: called with these blocks, it answers (whether to go on), and then they are as told. -/
structure Rnd (P : Program) (l : Nat) (r : Loop) (tmps : Array Value) (bs : Hs) (post : Value → Hs → Prop) : Prop where
  go : ∀ w, St w (bs.map (·.1)) bs w → RoundIn Fence.wide 0 P l r.fn tmps r.assign r.body w (ConPost w (bs.map (·.1)) post)

theorem rnd_start {P : Program} {l : Nat} {r : Loop} {fn : Func} {tmps : Array Value} {bs : Hs} {post : Value → Hs → Prop} {n : Nat} {e : Env} (hf : P.funcs[r.fn]? = some fn) (hn : tmps.size = n) (he : ∀ d, EnvOk e { tmps := tmps, defers := d })
    (h : ∀ w, Run ⟨P, r.fn, fn, hf, n, w, bs.map (·.1), ConPost w (bs.map (·.1)) post, some (some l), []⟩ [.code r.assign, .beginRound, .code r.body] e bs) : Rnd P l r tmps bs post := by
  refine ⟨fun w hst => ⟨trivial, fun c cs _ => ?_⟩⟩
  have h1 := (h w).go { tmps := tmps, defers := [] } w ⟨hn, rfl, he _, hst⟩ (c :: cs)
  unfold Fin at h1
  have e1 : Frame.round l r.fn tmps r.assign r.body .normal = (Cx.b ⟨P, r.fn, fn, hf, n, w, bs.map (·.1), ConPost w (bs.map (·.1)) post, some (some l), []⟩).atR { tmps := tmps, defers := [] } [.code r.assign, .beginRound, .code r.body] := by
    simp [Frame.round, Frame.atR, Cx.b]
  obtain ⟨en, w', hR, hc⟩ := h1 c cs rfl
  rw [e1]
  exact ⟨en, w', hR, comesIn_wide.2 hc⟩

theorem St.put_loop {W0 w : World} {own : List Nat} {hs : Hs} (h : St W0 own hs w) {i l : Nat} {o : Obj} (o' : Obj) (hi : hs[i]? = some (l, o)) : St W0 own (hs.set i (l, o')) (w.putObj l o') := by
  have hlt := h.lt (List.mem_of_getElem? hi)
  exact h.set hi rfl rfl rfl (by simp [World.putObj]) (World.putObj_heap_same hlt) (fun k hk => World.putObj_heap_other hk)

section
variable {C : Cx} {k : List Item} {e : Env} {hs : Hs}
/-- The round begins. -/
theorem br (i : Nat) {l : Nat} {r : Loop} (hrd : C.rd = some (some l)) (hi : hs[i]? = some (l, .loop r)) (hr : r.state = .ready) (h : Run C k e (hs.set i (l, .loop { r with state := .busy }))) : Run C (.beginRound :: k) e hs := by
  refine ⟨fun a w ok => ?_⟩
  have hb : C.b.roundOf = some l := by show C.rd.join = some l; rw [hrd]; rfl
  have hl : w.heap[l]? = some (.loop r) := ok.st.has _ (List.mem_of_getElem? hi)
  exact Cont.of_steps (fun cs => .one (stepR_beginRound hb (run_beginRound hl hr))) (h.go a _ ⟨ok.n, ok.d, ok.e, ok.st.put_loop _ hi⟩)
theorem round_out {l : Nat} {a : Act} {w : World} {v : Value} {w' : World} (hrd : C.rd = some (some l)) (hR : C.R (.returned v) w')
    (hs1 : ∀ c cs, step C.P (lone (C.b.atR a k) (c :: cs) w) = .next (lone (c.finish v) cs w')) : Cont C k a w := by
  intro cs
  unfold Fin
  rw [hrd]
  intro c cs' hcs
  subst hcs
  exact ⟨.returned v, w', hR, Steps.one (hs1 c cs')⟩
/-- It ends: off its end; by ret; by an exit. -/
theorem re (i : Nat) {l : Nat} {r : Loop} (hrd : C.rd = some (some l)) (hi : hs[i]? = some (l, .loop r)) (h : ∀ w, St C.W0 C.own (hs.set i (l, .loop { r with state := .ready, pending := none })) w → C.R (.returned (.bool true)) w) : Run C [] e hs := by
  refine ⟨fun a w ok => ?_⟩
  have hb : C.b.roundOf = some l := by show C.rd.join = some l; rw [hrd]; rfl
  have hl : w.heap[l]? = some (.loop r) := ok.st.has _ (List.mem_of_getElem? hi)
  exact round_out hrd (h _ (ok.st.put_loop _ hi)) (fun c cs => stepR_round_end hb rfl (run_endRound none hl))
theorem rt (i : Nat) {l : Nat} {r : Loop} (hrd : C.rd = some (some l)) (hi : hs[i]? = some (l, .loop r)) (h : ∀ w, St C.W0 C.own (hs.set i (l, .loop { r with state := .done, pending := some .ret })) w → C.R (.returned (.bool false)) w) : Run C (.code .ret :: k) e hs := by
  refine ⟨fun a w ok => ?_⟩
  have hb : C.b.roundOf = some l := by show C.rd.join = some l; rw [hrd]; rfl
  have hl : w.heap[l]? = some (.loop r) := ok.st.has _ (List.mem_of_getElem? hi)
  exact round_out hrd (h _ (ok.st.put_loop _ hi)) (fun c cs => stepR_round_ret hb rfl (run_endRound (some .ret) hl))
theorem rx (i : Nat) {l id : Nat} {r : Loop} (hrd : C.rd = some (some l)) (hx : exitTo id k = none) (hi : hs[i]? = some (l, .loop r)) (h : ∀ w, St C.W0 C.own (hs.set i (l, .loop { r with state := .done, pending := some (.exit id) })) w → C.R (.returned (.bool false)) w) : Run C (.code (.exit id) :: k) e hs := by
  refine ⟨fun a w ok => ?_⟩
  have hb : C.b.roundOf = some l := by show C.rd.join = some l; rw [hrd]; rfl
  have hl : w.heap[l]? = some (.loop r) := ok.st.has _ (List.mem_of_getElem? hi)
  exact round_out hrd (h _ (ok.st.put_loop _ hi)) (fun c cs => stepR_round_exit hb rfl hx (run_endRound (some (.exit id)) hl))

/-- THE LOOP: the function that it is over is called with yield. -/
theorem rf {g : Operand} {ps : Array Tmp} {assign body : Code} {f : FuncId} {first captured : Array Value} (hrd : C.rd = some none) (hg : ev e g = some (.func (.func f) first captured)) (hf : isFn C.P f = true)
    (Φ : Nat → Nat → Option Code → Hs → Prop)
    (hcall : ∀ (m l : Nat) (tmps : Array Value), tmps.size = C.N → (∀ d, EnvOk e { tmps := tmps, defers := d }) →
      Con C.P f (first.toList ++ [.func (.yield l) #[] #[]] ++ captured.toList) ((l, .loop { state := .ready, pending := none, fn := C.f, tmps := tmps, params := ps, assign := assign, body := body, defers := m }) :: (m, .deferred (some [])) :: hs) (fun w => ∃ w0, St C.W0 C.own hs w0 ∧ Below w0.heap.size w0 w)
        (fun _ hs' => ∃ r hs1, hs' = (l, .loop r) :: (m, .deferred (some [])) :: hs1 ∧ r.state ≠ .busy ∧ Φ m l r.pending hs1))
    (next : ∀ m l jump hs1, Φ m l jump hs1 → Run { C with ms := m :: C.ms } ((jump.map Item.code).toList ++ k) e ((m, .deferred (some [])) :: hs1)) : Run C (.code (.rangeFunc g ps assign body) :: k) e hs := by
  refine ⟨fun a w ok cs => ?_⟩
  have hb : C.b.roundOf = none := by show C.rd.join = none; rw [hrd]; rfl
  have hfn : C.b.fn = C.f := rfl
  obtain ⟨lo, hlo⟩ : ∃ lo : Loop, lo = { state := .ready, pending := none, fn := C.f, tmps := a.tmps, params := ps, assign := assign, body := body, defers := w.heap.size } := ⟨_, rfl⟩
  have hen : (Instr.enterLoop C.b.fn a.tmps ps assign body C.b.roundOf).run C.P w = .ok (w.heap.size + 1, [markOf w.heap.size]) ((w.alloc (.deferred (some []))).alloc (.loop lo)) := by
    rw [hb, hlo, hfn]; exact run_enterLoop_outer _ _ _ _ _
  have hev := ok.e.eval hg
  have hres : (resolve a.eval (rangeCall g (w.heap.size + 1)) 0).run C.P ((w.alloc (.deferred (some []))).alloc (.loop lo)) = .ok { target := .fn (.func f) captured, args := first ++ #[.func (.yield (w.heap.size + 1)) #[] #[]] } ((w.alloc (.deferred (some []))).alloc (.loop lo)) := by
    have hc : a.eval (.const (.func (.yield (w.heap.size + 1)) #[] #[])) = .func (.yield (w.heap.size + 1)) #[] #[] := rfl
    simp [resolve, rangeCall, hev, Deferred.ofValue, hc]
  have hinv : (invoke (.fn (.func f) captured) (first ++ #[.func (.yield (w.heap.size + 1)) #[] #[]])).run C.P ((w.alloc (.deferred (some []))).alloc (.loop lo)) = .ok (.enter f (first ++ #[.func (.yield (w.heap.size + 1)) #[] #[]] ++ captured)) ((w.alloc (.deferred (some []))).alloc (.loop lo)) := by
    unfold isFn at hf
    cases hg2 : C.P.funcs[f]? with
    | none => simp [hg2] at hf
    | some fn =>
      simp only [hg2, Bool.and_eq_true, bne_iff_ne, ne_eq] at hf
      obtain ⟨h2, h3⟩ := hf
      obtain ⟨bd, h4⟩ := Option.isSome_iff_exists.1 h3
      simp [invoke, callFunc, hg2, h2, h4]
  have hstep := stepR_rangeFunc (P := C.P) (b := C.b) (a := a) (k := k) (cs := cs) (w := w) hen hres hinv
  have hst1 : St C.W0 C.own ((w.heap.size, .deferred (some [])) :: hs) (w.alloc (.deferred (some []))) := ok.st.push _
  have hst2 : St C.W0 C.own ((w.heap.size + 1, .loop lo) :: (w.heap.size, .deferred (some [])) :: hs) ((w.alloc (.deferred (some []))).alloc (.loop lo)) := by
    have := hst1.push (.loop lo)
    rw [show (w.alloc (.deferred (some []))).heap.size = w.heap.size + 1 by show (w.heap.push _).size = _; simp] at this
    exact this
  have hbel : Below w.heap.size w ((w.alloc (.deferred (some []))).alloc (.loop lo)) :=
    (((St.start w).push (.deferred (some []))).push (.loop lo)).below
  have hcon := hcall w.heap.size (w.heap.size + 1) a.tmps ok.n (fun d t v ht => ok.e t v ht)
  rw [← hlo] at hcon
  have hsw : St ((w.alloc (.deferred (some []))).alloc (.loop lo)) (((w.heap.size + 1, Obj.loop lo) :: (w.heap.size, .deferred (some [])) :: hs).map (·.1)) ((w.heap.size + 1, .loop lo) :: (w.heap.size, .deferred (some [])) :: hs) ((w.alloc (.deferred (some []))).alloc (.loop lo)) :=
    ⟨rfl, rfl, rfl, Nat.le_refl _, fun _ _ _ => rfl, hst2.has, hst2.nodup, fun y hy => Or.inl (List.mem_map_of_mem hy)⟩
  have hcalls := hcon.go _ hsw ⟨w, ok.st, hbel⟩
  obtain ⟨en, w3, fr, hR, hc, hfn2, hl⟩ := hcalls (C.b.atR { a with defers := [markOf w.heap.size] ++ a.defers } (.inRangeFunc (w.heap.size + 1) :: k) :: cs)
  obtain ⟨v, hs', rfl, hst3, r, hs1, rfl, hbusy, hΦ⟩ := hR
  have hst4 : St C.W0 C.own ((w.heap.size + 1, .loop r) :: (w.heap.size, .deferred (some [])) :: hs1) w3 := by
    have := St.call (bs := (w.heap.size + 1, .loop lo) :: (w.heap.size, .deferred (some [])) :: hs) (rest := []) (by simpa using hst2) hst3
    simpa using this
  have hloop : w3.heap[w.heap.size + 1]? = some (.loop r) := hst4.has _ List.mem_cons_self
  have hargs : (first.toList ++ [Value.func (.yield (w.heap.size + 1)) #[] #[]] ++ captured.toList).toArray = first ++ #[.func (.yield (w.heap.size + 1)) #[] #[]] ++ captured := by simp
  rw [hargs] at hc
  have hend := run_endLoop (P := C.P) hloop hbusy
  have hst5 : St C.W0 C.own ((w.heap.size, .deferred (some [])) :: hs1) (w3.putObj (w.heap.size + 1) (.loop { r with state := .exhausted })) := (hst4.put_loop (i := 0) _ rfl).sub (List.Sublist.cons _ (List.Sublist.refl _))
  have hgo := (next _ _ r.pending hs1 hΦ).go { a with defers := [markOf w.heap.size] ++ a.defers } _ ⟨ok.n, by show [markOf w.heap.size] ++ a.defers = _; rw [ok.d]; rfl, fun t v ht => ok.e t v ht, hst5⟩ cs
  refine Fin.of_steps ?_ hgo
  refine Steps.trans (Steps.one hstep) (Steps.trans hc (Steps.trans (Steps.one ?_) (Steps.one (stepR_endRangeFunc hend))))
  rw [← finish_atR_inRangeFunc (w.heap.size + 1) v]
  exact step_leave_returned hl
end
end Go.Fl
