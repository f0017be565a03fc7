/-
  Contracts of functions that make memory, or write what is handed to them. No condition.
-/
import Derived.Test.YtiepomeokhjcfaaGreatDoorApp
namespace Go.Fl
open Go.Proofs Go.RowKit

def ConPost (w : World) (ids : List Nat) (post : Value → Hs → Prop) : Ending → World → Prop := fun en w' => ∃ v hs', en = .returned v ∧ St w ids hs' w' ∧ post v hs'
/-- Called with these values, these blocks being the caller's to hand over, in a world that fits: it answers, and then these blocks are as told. -/
structure Con (P : Program) (f : FuncId) (args : List Value) (bs : Hs) (pre : World → Prop) (post : Value → Hs → Prop) : Prop where
  go : ∀ w, St w (bs.map (·.1)) bs w → pre w → Calls P f args.toArray w (ConPost w (bs.map (·.1)) post)

theorem con_start {P : Program} {f : FuncId} {fn : Func} {c : Code} {args : List Value} {bs : Hs} {pre : World → Prop} {post : Value → Hs → Prop} {n : Nat}
    (hf : P.funcs[f]? = some fn) (hb : fn.body = some c) (hn : fn.ntmps = n) (hle : Nat.ble args.length n = true)
    (h : ∀ w, pre w → Run ⟨P, f, fn, hf, n, w, bs.map (·.1), ConPost w (bs.map (·.1)) post, none, []⟩ [.code c] (args.zipIdx.map fun x => (x.2, x.1)) bs) : Con P f args bs pre post :=
  ⟨fun w hst hp => calls_of_run hf hb hn (by simpa using Nat.le_of_ble_eq_true hle) _ _ hst (h w hp)⟩
section starts
variable {P : Program} {f : FuncId} {fn : Func} {c : Code} {bs : Hs} {pre : World → Prop} {post : Value → Hs → Prop} {n : Nat} {v0 v1 v2 v3 v4 : Value}
theorem con_start1 (hf : P.funcs[f]? = some fn) (hb : fn.body = some c) (hn : fn.ntmps = n) (hle : Nat.ble 1 n = true)
    (h : ∀ w, pre w → Run ⟨P, f, fn, hf, n, w, bs.map (·.1), ConPost w (bs.map (·.1)) post, none, []⟩ [.code c] [(0, v0)] bs) : Con P f [v0] bs pre post := con_start hf hb hn hle h
theorem con_start2 (hf : P.funcs[f]? = some fn) (hb : fn.body = some c) (hn : fn.ntmps = n) (hle : Nat.ble 2 n = true)
    (h : ∀ w, pre w → Run ⟨P, f, fn, hf, n, w, bs.map (·.1), ConPost w (bs.map (·.1)) post, none, []⟩ [.code c] [(0, v0), (1, v1)] bs) : Con P f [v0, v1] bs pre post := con_start hf hb hn hle h
theorem con_start3 (hf : P.funcs[f]? = some fn) (hb : fn.body = some c) (hn : fn.ntmps = n) (hle : Nat.ble 3 n = true)
    (h : ∀ w, pre w → Run ⟨P, f, fn, hf, n, w, bs.map (·.1), ConPost w (bs.map (·.1)) post, none, []⟩ [.code c] [(0, v0), (1, v1), (2, v2)] bs) : Con P f [v0, v1, v2] bs pre post := con_start hf hb hn hle h
theorem con_start4 (hf : P.funcs[f]? = some fn) (hb : fn.body = some c) (hn : fn.ntmps = n) (hle : Nat.ble 4 n = true)
    (h : ∀ w, pre w → Run ⟨P, f, fn, hf, n, w, bs.map (·.1), ConPost w (bs.map (·.1)) post, none, []⟩ [.code c] [(0, v0), (1, v1), (2, v2), (3, v3)] bs) : Con P f [v0, v1, v2, v3] bs pre post := con_start hf hb hn hle h
theorem con_start5 (hf : P.funcs[f]? = some fn) (hb : fn.body = some c) (hn : fn.ntmps = n) (hle : Nat.ble 5 n = true)
    (h : ∀ w, pre w → Run ⟨P, f, fn, hf, n, w, bs.map (·.1), ConPost w (bs.map (·.1)) post, none, []⟩ [.code c] [(0, v0), (1, v1), (2, v2), (3, v3), (4, v4)] bs) : Con P f [v0, v1, v2, v3, v4] bs pre post := con_start hf hb hn hle h
end starts

theorem St.call {W0 w w' : World} {own : List Nat} {bs rest hs' : Hs} (h : St W0 own (bs ++ rest) w) (h' : St w (bs.map (·.1)) hs' w') : St W0 own (hs' ++ rest) w' := by
  have hnd := h.nodup
  rw [List.map_append, List.nodup_append] at hnd
  obtain ⟨_, hnr, hdis⟩ := hnd
  have hlt : ∀ x ∈ rest, x.1 < w.heap.size := fun x hx => h.lt (List.mem_append_right _ hx)
  have hni : ∀ x ∈ rest, x.1 ∉ bs.map (·.1) := fun x hx hm => hdis x.1 hm x.1 (List.mem_map_of_mem hx) rfl
  have hmineb : ∀ k, k ∈ bs.map (·.1) → k ∈ own ∨ W0.heap.size ≤ k := by
    intro k hk
    obtain ⟨y, hy, rfl⟩ := List.mem_map.1 hk
    exact h.mine y (List.mem_append_left _ hy)
  refine ⟨h'.os.trans h.os, h'.tape.trans h.tape, h'.output.trans h.output, Nat.le_trans h.size h'.size, ?_, ?_, ?_, ?_⟩
  · intro k hk ho
    have hnb : k ∉ bs.map (·.1) := fun hm => by
      rcases hmineb k hm with h1 | h1
      · exact ho h1
      · omega
    rw [h'.old k (Nat.lt_of_lt_of_le hk h.size) hnb]
    exact h.old k hk ho
  · intro x hx
    rcases List.mem_append.1 hx with hx | hx
    · exact h'.has x hx
    · rw [h'.old x.1 (hlt x hx) (hni x hx)]
      exact h.has x (List.mem_append_right _ hx)
  · rw [List.map_append, List.nodup_append]
    refine ⟨h'.nodup, hnr, ?_⟩
    intro a ha b hb hab
    subst hab
    obtain ⟨y, hy, rfl⟩ := List.mem_map.1 ha
    obtain ⟨x, hx, he⟩ := List.mem_map.1 hb
    rcases h'.mine y hy with h1 | h1
    · exact hni x hx (he ▸ h1)
    · have := hlt x hx; omega
  · intro x hx
    rcases List.mem_append.1 hx with hx | hx
    · rcases h'.mine x hx with h1 | h1
      · exact hmineb _ h1
      · exact Or.inr (Nat.le_trans h.size h1)
    · exact h.mine x (List.mem_append_right _ hx)

section
variable {C : Cx} {ops : Array Oper} {rest : List Oper} {k : List Item} {e : Env} {hs : Hs} {d : Nat} {ty : TypeId} {pos : String} {af : Array Edge}

/-- A call that is handed no block of ours. -/
theorem cc0 {f : FuncId} {xs : List Operand} {vs : List Value} {at_ : Array TypeId} {pre : World → Prop} {post : Value → Hs → Prop} (hd : Nat.blt d C.N = true) (hf : isFn C.P f = true) (hx : evAll e xs = some vs)
    (h : Con C.P f vs [] pre post) (hp : ∀ w, St C.W0 C.own hs w → pre w) (next : ∀ v hs', post v hs' → Ops C ops rest k ((d, v) :: e) (hs' ++ hs)) :
    Ops C ops (⟨some d, .call { callee := .value (.func f), args := xs.toArray, argTypes := at_ }, ty, pos, af, none⟩ :: rest) k e hs := by
  refine op_callF (Φ := fun v hs1 => ∃ hs', hs1 = hs' ++ hs ∧ post v hs') hd hf hx (fun w hst => (h.go w (St.start w) (hp w hst)).mono ?_) ?_
  · rintro en w' ⟨v, hs', rfl, hst', hpost⟩
    exact ⟨v, hs' ++ hs, rfl, St.call (bs := []) hst hst', hs', rfl, hpost⟩
  · rintro v hs1 ⟨hs', rfl, hpost⟩; exact next v hs' hpost

theorem perm_eraseIdx {α : Type} : ∀ (l : List α) (i : Nat) (x : α), l[i]? = some x → l.Perm (x :: l.eraseIdx i)
  | [], i, x, h => by simp at h
  | y :: l, 0, x, h => by simp at h; subst h; exact List.Perm.refl _
  | y :: l, i + 1, x, h => by
    have := perm_eraseIdx l i x (by simpa using h)
    simp only [List.eraseIdx_cons_succ]
    exact (this.cons y).trans (List.Perm.swap x y _)

/-- A call that is handed one block of ours. -/
theorem cc1 (i : Nat) {f : FuncId} {xs : List Operand} {vs : List Value} {at_ : Array TypeId} {x : Nat × Obj} {pre : World → Prop} {post : Value → Hs → Prop} (hd : Nat.blt d C.N = true) (hf : isFn C.P f = true) (hx : evAll e xs = some vs)
    (hi : hs[i]? = some x) (h : Con C.P f vs [x] pre post) (hp : ∀ w, St C.W0 C.own hs w → pre w) (next : ∀ v hs', post v hs' → Ops C ops rest k ((d, v) :: e) (hs' ++ hs.eraseIdx i)) :
    Ops C ops (⟨some d, .call { callee := .value (.func f), args := xs.toArray, argTypes := at_ }, ty, pos, af, none⟩ :: rest) k e hs := by
  refine op_callF (Φ := fun v hs1 => ∃ hs', hs1 = hs' ++ hs.eraseIdx i ∧ post v hs') hd hf hx (fun w hst => ?_) ?_
  · have hst1 : St C.W0 C.own ([x] ++ hs.eraseIdx i) w := hst.perm (perm_eraseIdx hs i x hi).symm
    have hw : St w [x.1] [x] w := ⟨rfl, rfl, rfl, Nat.le_refl _, fun _ _ _ => rfl, fun y hy => hst1.has y (List.mem_append_left _ hy), by simp, fun y hy => by simp at hy; subst hy; simp⟩
    refine (h.go w hw (hp w hst)).mono ?_
    rintro en w' ⟨v, hs', rfl, hst', hpost⟩
    exact ⟨v, hs' ++ hs.eraseIdx i, rfl, St.call hst1 hst', hs', rfl, hpost⟩
  · rintro v hs1 ⟨hs', rfl, hpost⟩; exact next v hs' hpost

/-! the ends -/
section ends
variable {P : Program} {f : FuncId} {fn : Func} {hf : P.funcs[f]? = some fn} {n : Nat} {w0 : World} {ids : List Nat} {post : Value → Hs → Prop} {x y z : Value} {t t2 t3 : Nat}
theorem rc0 (hr : fn.results = #[]) (hp : post (.tuple #[]) hs) : Run ⟨P, f, fn, hf, n, w0, ids, ConPost w0 ids post, none, []⟩ [] e hs := by
  refine ⟨fun a w ok cs => ?_⟩
  exact ⟨.returned (.tuple #[]), w, _, ⟨_, hs, rfl, ok.st, hp⟩, Steps.one step_end, rfl, rfl, ok.d, rfl, fn, hf, results_none hr _ _ _⟩
theorem rc_ret {ts : List Nat} {vs : List Value} (hr : fn.results = (ts.map ResultVar.tmp).toArray) (hg : getAll e ts = some vs) (hp : post (resOf vs) hs) :
    Run ⟨P, f, fn, hf, n, w0, ids, ConPost w0 ids post, none, []⟩ (.code .ret :: k) e hs := by
  refine ⟨fun a w ok => ?_⟩
  have h1 := run_ret (C := ⟨P, f, fn, hf, n, w0, ids, fun en w' => ConPost w0 ids post en w', none, []⟩) (k := k) (e := e) (hs := hs) hr hg (fun w hst => ⟨_, hs, rfl, hst, hp⟩)
  exact h1.go a w ok
theorem rc1 (hr : fn.results = #[.tmp t]) (hg : eget e t = some x) (hp : post x hs) : Run ⟨P, f, fn, hf, n, w0, ids, ConPost w0 ids post, none, []⟩ (.code .ret :: k) e hs :=
  rc_ret (ts := [t]) (vs := [x]) hr (by simp [getAll, hg]) hp
theorem rc2 (hr : fn.results = #[.tmp t, .tmp t2]) (hg : eget e t = some x) (hg2 : eget e t2 = some y) (hp : post (.tuple #[x, y]) hs) : Run ⟨P, f, fn, hf, n, w0, ids, ConPost w0 ids post, none, []⟩ (.code .ret :: k) e hs :=
  rc_ret (ts := [t, t2]) (vs := [x, y]) hr (by simp [getAll, hg, hg2]) hp
theorem rc3 (hr : fn.results = #[.tmp t, .tmp t2, .tmp t3]) (hg : eget e t = some x) (hg2 : eget e t2 = some y) (hg3 : eget e t3 = some z) (hp : post (.tuple #[x, y, z]) hs) :
    Run ⟨P, f, fn, hf, n, w0, ids, ConPost w0 ids post, none, []⟩ (.code .ret :: k) e hs :=
  rc_ret (ts := [t, t2, t3]) (vs := [x, y, z]) hr (by simp [getAll, hg, hg2, hg3]) hp
end ends

/-- A call of a function value, quiet. -/
theorem cv_v {x : Operand} {f : FuncId} {first captured : Array Value} {xs : List Operand} {vs : List Value} {at_ : Array TypeId} {v : Value} {pre : World → Prop} (hx0 : ev e x = some (.func (.func f) first captured)) (hf : isFn C.P f = true) (hx : evAll e xs = some vs)
    (h : RetIf C.P f (first.toList ++ vs ++ captured.toList) pre v) (hp : ∀ w, St C.W0 C.own hs w → pre w) : CV C e hs (.call { callee := .value x, args := xs.toArray, argTypes := at_ }) v := by
  refine ⟨fun o a w ho ok => ⟨f, first ++ vs.toArray ++ captured, w, ?_, ?_⟩⟩
  · have h1 := evAll_eval ok.e xs vs hx
    unfold isFn at hf
    cases hg : C.P.funcs[f]? with
    | none => simp [hg] at hf
    | some fn =>
      simp only [hg, Bool.and_eq_true, bne_iff_ne, ne_eq] at hf
      obtain ⟨h2, h3⟩ := hf
      obtain ⟨bd, h4⟩ := Option.isSome_iff_exists.1 h3
      simp [execOp, ho, resolve, ok.e.eval hx0, Deferred.ofValue, invoke, callFunc, hg, h2, h4, ← h1]
  · have h5 := h.go w (hp w ok.st)
    have e1 : (first.toList ++ vs ++ captured.toList).toArray = first ++ vs.toArray ++ captured := by simp
    rw [e1] at h5
    refine h5.mono ?_
    rintro en w' ⟨rfl, hb⟩
    exact ⟨rfl, ok.st.keep hb⟩
end
/-- A call that is handed several blocks of ours. -/
theorem ccp {C : Cx} {ops : Array Oper} {rest : List Oper} {k : List Item} {e : Env} {hs : Hs} {d : Nat} {ty : TypeId} {pos : String} {af : Array Edge} {f : FuncId} {xs : List Operand} {vs : List Value} {at_ : Array TypeId} {bs qs : Hs} {pre : World → Prop} {post : Value → Hs → Prop}
    (hd : Nat.blt d C.N = true) (hf : isFn C.P f = true) (hx : evAll e xs = some vs)
    (hi : (bs ++ qs).Perm hs) (h : Con C.P f vs bs pre post) (hp : ∀ w, St C.W0 C.own hs w → pre w) (next : ∀ v hs', post v hs' → Ops C ops rest k ((d, v) :: e) (hs' ++ qs)) :
    Ops C ops (⟨some d, .call { callee := .value (.func f), args := xs.toArray, argTypes := at_ }, ty, pos, af, none⟩ :: rest) k e hs := by
  refine op_callF (Φ := fun v hs1 => ∃ hs', hs1 = hs' ++ qs ∧ post v hs') hd hf hx (fun w hst => ?_) ?_
  · have hst1 : St C.W0 C.own (bs ++ qs) w := hst.perm hi
    have hw : St w (bs.map (·.1)) bs w := ⟨rfl, rfl, rfl, Nat.le_refl _, fun _ _ _ => rfl, fun y hy => hst1.has y (List.mem_append_left _ hy), (by have := hst1.nodup; rw [List.map_append, List.nodup_append] at this; exact this.1), fun y hy => Or.inl (List.mem_map_of_mem hy)⟩
    refine (h.go w hw (hp w hst)).mono ?_
    rintro en w' ⟨v, hs', rfl, hst', hpost⟩
    exact ⟨v, hs' ++ qs, rfl, St.call hst1 hst', hs', rfl, hpost⟩
  · rintro v hs1 ⟨hs', rfl, hpost⟩; exact next v hs' hpost
end Go.Fl
