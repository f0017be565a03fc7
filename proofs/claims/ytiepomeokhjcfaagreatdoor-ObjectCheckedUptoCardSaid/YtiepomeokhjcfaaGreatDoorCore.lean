/-
  A small logic over the kit's own words ('Calls', 'wpList', 'wpAny'): what one function does, told by a list of blocks that are known (their numbers and
  contents), a list of temporaries that are known, and what is left to do. Each rule is a lemma about the model. No condition.
-/
import Derived.Orders
import Derived.OrdersIn
import Derived.TacticsIn
import Derived.AtR
import Derived.Laws.Sem
import Derived.Below
import Derived.Tactics
import Derived.KernelRfl
namespace Go.Fl
open Go.RowKit

abbrev Env := List (Nat × Value)
abbrev Hs := List (Nat × Obj)

def eget : Env → Nat → Option Value
  | [], _ => none
  | (k, v) :: r, t => bif Nat.beq k t then some v else eget r t

def ev (e : Env) : Operand → Option Value
  | .tmp t => eget e t
  | .const v => some v
  | .global g => some (.pointer (some ⟨g, 0, none⟩))
  | .func f => some (.func (.func f) #[] #[])

def EnvOk (e : Env) (a : Act) : Prop := ∀ t v, eget e t = some v → a.tmps[t]? = some v

theorem EnvOk.eval {e : Env} {a : Act} (h : EnvOk e a) {x : Operand} {v : Value} (hx : ev e x = some v) : a.eval x = v := by
  cases x with
  | tmp t => have := h t v hx; simp [Act.eval, this]
  | const u => simpa [ev, Act.eval] using hx
  | global g => simpa [ev, Act.eval] using hx
  | func f => simpa [ev, Act.eval] using hx

theorem EnvOk.put {e : Env} {a : Act} (h : EnvOk e a) {d : Nat} (hd : d < a.tmps.size) (v : Value) : EnvOk ((d, v) :: e) (a.put (some d) v) := by
  intro t u ht
  show (a.tmps.setIfInBounds d v)[t]? = some u
  unfold eget at ht
  cases hb : Nat.beq d t
  · rw [hb] at ht
    have hne : d ≠ t := fun e => by rw [e, Nat.beq_refl] at hb; cases hb
    rw [Array.getElem?_setIfInBounds_ne hne]
    exact h t u ht
  · rw [hb] at ht
    obtain rfl : d = t := Nat.eq_of_beq_eq_true hb
    cases ht
    simp [hd]

theorem EnvOk.put_none {e : Env} {a : Act} (h : EnvOk e a) (v : Value) : EnvOk e (a.put none v) := h

theorem EnvOk.sub {e e' : Env} {a : Act} (h : EnvOk e a) (hs : ∀ t v, eget e' t = some v → eget e t = some v) : EnvOk e' a :=
  fun t v ht => h t v (hs t v ht)

/-- What is known of the world: the streams are as they were; what was there is as it was, but for the blocks that are ours; these blocks are known. -/
structure St (W0 : World) (own : List Nat) (hs : Hs) (w : World) : Prop where
  os : w.os = W0.os
  tape : w.tape = W0.tape
  output : w.output = W0.output
  size : W0.heap.size ≤ w.heap.size
  old : ∀ k, k < W0.heap.size → k ∉ own → w.heap[k]? = W0.heap[k]?
  has : ∀ x ∈ hs, w.heap[x.1]? = some x.2
  nodup : (hs.map (·.1)).Nodup
  mine : ∀ x ∈ hs, x.1 ∈ own ∨ W0.heap.size ≤ x.1

theorem St.start (W : World) : St W [] [] W := ⟨rfl, rfl, rfl, Nat.le_refl _, fun _ _ _ => rfl, by simp, by simp, by simp⟩

theorem St.below {W0 w : World} {hs : Hs} (h : St W0 [] hs w) : Below W0.heap.size W0 w :=
  ⟨h.os, h.tape, h.output, h.size, fun k hk => h.old k hk (by simp)⟩

theorem St.lt {W0 w : World} {own : List Nat} {hs : Hs} (h : St W0 own hs w) {x : Nat × Obj} (hx : x ∈ hs) : x.1 < w.heap.size :=
  (Array.getElem?_eq_some_iff.1 (h.has x hx)).1

/-- Fewer blocks may be named. -/
theorem St.sub {W0 w : World} {own : List Nat} {hs hs' : Hs} (h : St W0 own hs w) (hss : hs'.Sublist hs) : St W0 own hs' w :=
  ⟨h.os, h.tape, h.output, h.size, h.old, fun x hx => h.has x (hss.subset hx), h.nodup.sublist (hss.map _), fun x hx => h.mine x (hss.subset hx)⟩

theorem St.perm {W0 w : World} {own : List Nat} {hs hs' : Hs} (h : St W0 own hs w) (hp : hs'.Perm hs) : St W0 own hs' w :=
  ⟨h.os, h.tape, h.output, h.size, h.old, fun x hx => h.has x (hp.subset hx), (hp.map _).nodup_iff.2 h.nodup, fun x hx => h.mine x (hp.subset hx)⟩

/-- Another world that has all known blocks, and the old ones. -/
theorem St.keep {W0 w w' : World} {own : List Nat} {hs : Hs} (h : St W0 own hs w) (hb : Below w.heap.size w w') : St W0 own hs w' :=
  ⟨hb.os.trans h.os, hb.tape.trans h.tape, hb.output.trans h.output, Nat.le_trans h.size hb.size,
    fun k hk ho => (hb.block k (Nat.lt_of_lt_of_le hk h.size)).trans (h.old k hk ho),
    fun x hx => (hb.block x.1 (h.lt hx)).trans (h.has x hx), h.nodup, h.mine⟩

/-- ..and a block more, which is new. -/
theorem St.more {W0 w w' : World} {own : List Nat} {hs : Hs} (h : St W0 own hs w) (hb : Below w.heap.size w w') {b : Nat} {o : Obj}
    (hB : w.heap.size ≤ b) (ho : w'.heap[b]? = some o) : St W0 own ((b, o) :: hs) w' := by
  have k := h.keep hb
  refine ⟨k.os, k.tape, k.output, k.size, k.old, ?_, ?_, ?_⟩
  · intro x hx
    rcases List.mem_cons.1 hx with rfl | hx
    · exact ho
    · exact k.has x hx
  · rw [List.map_cons, List.nodup_cons]
    refine ⟨fun hm => ?_, k.nodup⟩
    obtain ⟨x, hx, he⟩ := List.mem_map.1 hm
    have := h.lt hx
    simp only at he
    omega
  · intro x hx
    rcases List.mem_cons.1 hx with rfl | hx
    · right; exact Nat.le_trans h.size hB
    · exact k.mine x hx

theorem St.push {W0 w : World} {own : List Nat} {hs : Hs} (h : St W0 own hs w) (o : Obj) :
    St W0 own ((w.heap.size, o) :: hs) { w with heap := w.heap.push o } :=
  St.more (w' := { w with heap := w.heap.push o }) h
    ⟨rfl, rfl, rfl, by simp, fun k hk => by show (w.heap.push o)[k]? = _; rw [Array.getElem?_push, if_neg (by omega)]⟩ (Nat.le_refl _) (by simp)

theorem St.drew {W0 w : World} {own : List Nat} {hs : Hs} (h : St W0 own hs w) (n : Nat) : St W0 own hs { w with drawn := n } :=
  ⟨h.os, h.tape, h.output, h.size, h.old, h.has, h.nodup, h.mine⟩

/-- One known block is written. -/
theorem St.set {W0 w w' : World} {own : List Nat} {hs : Hs} (h : St W0 own hs w) {i b : Nat} {o o' : Obj} (hi : hs[i]? = some (b, o))
    (hos : w'.os = w.os) (htape : w'.tape = w.tape) (hout : w'.output = w.output) (hsz : w'.heap.size = w.heap.size)
    (hb : w'.heap[b]? = some o') (hne : ∀ k, k ≠ b → w'.heap[k]? = w.heap[k]?) : St W0 own (hs.set i (b, o')) w' := by
  have hil : i < hs.length := (List.getElem?_eq_some_iff.1 hi).1
  have hie : hs[i] = (b, o) := (List.getElem?_eq_some_iff.1 hi).2
  have hm : (b, o) ∈ hs := hie ▸ List.getElem_mem hil
  have hmap : (hs.set i (b, o')).map (·.1) = hs.map (·.1) := by
    rw [List.map_set]
    have h2 : (hs.map (·.1))[i]? = some b := by simp [hi]
    obtain ⟨h3, h4⟩ := List.getElem?_eq_some_iff.1 h2
    rw [← h4]; exact List.set_getElem_self h3
  refine ⟨hos.trans h.os, htape.trans h.tape, hout.trans h.output, by rw [hsz]; exact h.size, ?_, ?_, ?_, ?_⟩
  · intro k hk ho
    have hkb : k ≠ b := by
      rintro rfl
      rcases h.mine _ hm with h1 | h1
      · exact ho h1
      · simp only at h1; omega
    rw [hne k hkb]; exact h.old k hk ho
  · intro x hx
    obtain ⟨j, hj, rfl⟩ := List.mem_iff_getElem.1 hx
    rw [List.length_set] at hj
    by_cases hij : i = j
    · subst hij; simp only [List.getElem_set_self]; exact hb
    · rw [List.getElem_set_ne hij]
      have hjm : hs[j] ∈ hs := List.getElem_mem hj
      have hjb : hs[j].1 ≠ b := by
        intro he
        have hnd := h.nodup
        have e1 : (hs.map (·.1))[i]'(by simpa using hil) = b := by simp [hie]
        have e2 : (hs.map (·.1))[j]'(by simpa using hj) = b := by simpa using he
        have hpw := List.pairwise_iff_getElem.1 hnd
        rcases Nat.lt_or_gt_of_ne hij with hlt | hlt
        · exact hpw i j (by simpa using hil) (by simpa using hj) hlt (e1.trans e2.symm)
        · exact hpw j i (by simpa using hj) (by simpa using hil) hlt (e2.trans e1.symm)
      rw [hne _ hjb]; exact h.has _ hjm
  · rw [hmap]; exact h.nodup
  · intro x hx
    have : x.1 ∈ hs.map (·.1) := by rw [← hmap]; exact List.mem_map_of_mem hx
    obtain ⟨y, hy, he⟩ := List.mem_map.1 this
    rw [← he]; exact h.mine y hy

/-- What a function is walked in: the program, the function, how many temporaries it has, the world that it came to, which old blocks are its own, and what is asked of its end. -/
structure Cx where
  P : Program
  f : FuncId
  fn : Func
  hf : P.funcs[f]? = some fn
  N : Nat
  W0 : World
  own : List Nat
  R : Ending → World → Prop
  rd : Option (Option Nat)
  ms : List Nat

def Cx.b (C : Cx) : Frame := { (default : Frame) with fn := C.f, kind := .normal, roundOf := C.rd.join }
def Cx.F (C : Cx) : Fence := { Fence.wide with round := C.rd.join }
def markOf (r : Nat) : Deferred := { target := .collected r, args := #[] }

/-- The end is as asked: a function's, or that of a round of a loop over a function (its caller is the one that yields). -/
def Fin (C : Cx) (m : Machine) (cs : List Frame) : Prop :=
  match C.rd.join with
  | none => ∃ en w' fr, C.R en w' ∧ Comes C.P m (lone fr cs w') en ∧ fr.fn = C.f ∧ fr.leaving C.P w' en
  | some _ => ∀ c cs', cs = c :: cs' → ∃ en w', C.R en w' ∧ Comes C.P m
      (match en with
       | .returned v => lone (c.finish v) cs' w'
       | .panicked chain => lone (c.raise chain) cs' w'
       | .outgrown => lone c cs' w') en
theorem Fin.of_steps {C : Cx} {m m' : Machine} {cs : List Frame} (h : Steps C.P m m') (h' : Fin C m' cs) : Fin C m cs := by
  unfold Fin at *
  cases hr : C.rd.join with
  | none =>
    simp only [hr] at h' ⊢
    obtain ⟨en, w2, fr, hR, hc, hfn, hl⟩ := h'
    exact ⟨en, w2, fr, hR, Comes.of_steps h hc, hfn, hl⟩
  | some l =>
    simp only [hr] at h' ⊢
    intro c cs' hcs
    obtain ⟨en, w2, hR, hc⟩ := h' c cs' hcs
    exact ⟨en, w2, hR, Comes.of_steps h hc⟩

/-- From here, with what is left to do, the function comes to its end, and that is as asked. -/
def Cont (C : Cx) (k : List Item) (a : Act) (w : World) : Prop :=
  ∀ cs, Fin C (lone (C.b.atR a k) cs w) cs

structure Ok (C : Cx) (e : Env) (hs : Hs) (a : Act) (w : World) : Prop where
  n : a.tmps.size = C.N
  d : a.defers = C.ms.map markOf
  e : EnvOk e a
  st : St C.W0 C.own hs w

structure Run (C : Cx) (k : List Item) (e : Env) (hs : Hs) : Prop where
  go : ∀ a w, Ok C e hs a w → Cont C k a w

theorem Cont.of_steps {C : Cx} {k k' : List Item} {a a' : Act} {w w' : World}
    (h : ∀ cs, Steps C.P (lone (C.b.atR a k) cs w) (lone (C.b.atR a' k') cs w')) (h' : Cont C k' a' w') : Cont C k a w :=
  fun cs => Fin.of_steps (h cs) (h' cs)

/-- THE START. -/
theorem calls_of_run {P : Program} {f : FuncId} {fn : Func} {c : Code} {args : Array Value} {w : World} {R : Ending → World → Prop} {n : Nat}
    (hf : P.funcs[f]? = some fn) (hb : fn.body = some c) (hn : fn.ntmps = n) (hle : args.size ≤ n) (own : List Nat) (hs : Hs) (hst : St w own hs w)
    (h : Run ⟨P, f, fn, hf, n, w, own, R, none, []⟩ [.code c] (args.toList.zipIdx.map fun x => (x.2, x.1)) hs) : Calls P f args w R := by
  intro cs
  have henter : Frame.enter P f args .normal =
      (Cx.b ⟨P, f, fn, hf, n, w, own, R, none, []⟩).atR { tmps := args ++ Array.replicate (fn.ntmps - args.size) undef, defers := [] } [.code c] := by
    simp [Frame.enter, Frame.atR, hf, hb, Cx.b]
  rw [henter]
  refine h.go _ _ ⟨?_, rfl, ?_, hst⟩ cs
  · simp [hn]; omega
  · intro t v ht
    have key : ∀ (l : List Value) (k : Nat), eget ((l.zipIdx k).map fun x => (x.2, x.1)) t = some v → k ≤ t ∧ l[t - k]? = some v := by
      intro l
      induction l with
      | nil => intro k h; simp [eget] at h
      | cons x l ih =>
        intro k h
        simp only [List.zipIdx_cons, List.map_cons, eget] at h
        cases hb : Nat.beq k t
        · rw [hb] at h
          obtain ⟨h1, h2⟩ := ih (k + 1) h
          refine ⟨by omega, ?_⟩
          have : t - k = (t - (k + 1)) + 1 := by omega
          rw [this, List.getElem?_cons_succ]; exact h2
        · rw [hb] at h
          obtain rfl : k = t := Nat.eq_of_beq_eq_true hb
          cases h
          simp
    obtain ⟨_, h2⟩ := key args.toList 0 ht
    simp only [Nat.sub_zero, Array.getElem?_toList] at h2
    have hlt := (Array.getElem?_eq_some_iff.1 h2).1
    rw [Array.getElem?_append_left hlt]; exact h2

section control
variable {C : Cx} {k : List Item} {e : Env} {hs : Hs}

theorem sq {x y : Code} (h : Run C (.code x :: .code y :: k) e hs) : Run C (.code (.seq x y) :: k) e hs :=
  ⟨fun a w ok => Cont.of_steps (fun _ => .one stepR_seq) (h.go a w ok)⟩
theorem sk (h : Run C k e hs) : Run C (.code .skip :: k) e hs :=
  ⟨fun a w ok => Cont.of_steps (fun _ => .one stepR_skip) (h.go a w ok)⟩
theorem lb {l : Nat} (h : Run C k e hs) : Run C (.code (.label l) :: k) e hs :=
  ⟨fun a w ok => Cont.of_steps (fun _ => .one stepR_label) (h.go a w ok)⟩
theorem bl {id : Nat} {c : Code} (h : Run C (.code c :: .inBlock id :: k) e hs) : Run C (.code (.block id c) :: k) e hs :=
  ⟨fun a w ok => Cont.of_steps (fun _ => .one stepR_block) (h.go a w ok)⟩
theorem ib {id : Nat} (h : Run C k e hs) : Run C (.inBlock id :: k) e hs :=
  ⟨fun a w ok => Cont.of_steps (fun _ => .one stepR_inBlock) (h.go a w ok)⟩
theorem xt {id : Nat} {k' : List Item} (hk : exitTo id k = some k') (h : Run C k' e hs) : Run C (.code (.exit id) :: k) e hs :=
  ⟨fun a w ok => Cont.of_steps (fun _ => .one (stepR_exit hk)) (h.go a w ok)⟩
theorem run_cond {c : Operand} {x y : Code} {t : Bool} (hc : ev e c = some (.bool t))
    (h1 : t = true → Run C (.code x :: k) e hs) (h2 : t = false → Run C (.code y :: k) e hs) : Run C (.code (.cond c x y) :: k) e hs := by
  refine ⟨fun a w ok => ?_⟩
  have hs1 := fun cs => stepR_cond (P := C.P) (b := C.b) (k := k) (cs := cs) (w := w) (x := x) (y := y) (ok.e.eval hc)
  cases t
  · exact Cont.of_steps (fun cs => .one (hs1 cs)) ((h2 rfl).go a w ok)
  · exact Cont.of_steps (fun cs => .one (hs1 cs)) ((h1 rfl).go a w ok)
theorem it {c : Operand} {x y : Code} (hc : ev e c = some (.bool true)) (h : Run C (.code x :: k) e hs) : Run C (.code (.cond c x y) :: k) e hs :=
  run_cond hc (fun _ => h) (fun h => by cases h)
theorem fi {c : Operand} {x y : Code} (hc : ev e c = some (.bool false)) (h : Run C (.code y :: k) e hs) : Run C (.code (.cond c x y) :: k) e hs :=
  run_cond hc (fun h => by cases h) (fun _ => h)
theorem run_loop {c : Code} (h : Run C (.code c :: .inLoop c :: k) e hs) : Run C (.code (.loop c) :: k) e hs :=
  ⟨fun a w ok => Cont.of_steps (fun _ => .one stepR_loop) (h.go a w ok)⟩
theorem run_inLoop {c : Code} (h : Run C (.code c :: .inLoop c :: k) e hs) : Run C (.inLoop c :: k) e hs :=
  ⟨fun a w ok => Cont.of_steps (fun _ => .one stepR_inLoop) (h.go a w ok)⟩

/-- Less may be known. -/
theorem run_weak {e' : Env} {hs' : Hs} (he : ∀ t v, eget e' t = some v → eget e t = some v) (hh : hs'.Sublist hs) (h : Run C k e' hs') : Run C k e hs :=
  ⟨fun a w ok => h.go a w ⟨ok.n, ok.d, ok.e.sub he, ok.st.sub hh⟩⟩

/-- A list of what is known is part of another. -/
def Sub : Env → Env → Prop
  | [], _ => True
  | (t, v) :: r, e => eget e t = some v ∧ Sub r e
theorem Sub.get {e' e : Env} : Sub e' e → ∀ t v, eget e' t = some v → eget e t = some v := by
  induction e' with
  | nil => intro _ t v h; simp [eget] at h
  | cons x r ih =>
    obtain ⟨u, x⟩ := x
    rintro ⟨h1, h2⟩ t v h
    unfold eget at h
    cases hb : Nat.beq u t
    · rw [hb] at h; exact ih h2 t v h
    · rw [hb] at h
      obtain rfl : u = t := Nat.eq_of_beq_eq_true hb
      cases h; exact h1

theorem weak {e' : Env} {hs' : Hs} (he : Sub e' e) (hh : hs'.Sublist hs) (h : Run C k e' hs') : Run C k e hs := run_weak he.get hh h

theorem cb {c : Operand} {x y : Code} {b : Bool} (hc : ev e c = some (.bool b))
    (h1 : b = true → Run C (.code x :: k) e hs) (h2 : b = false → Run C (.code y :: k) e hs) : Run C (.code (.cond c x y) :: k) e hs := run_cond hc h1 h2
theorem cd {c : Operand} {x y : Code} {p : Prop} {dp : Decidable p} (hc : ev e c = some (.bool (@decide p dp)))
    (h1 : p → Run C (.code x :: k) e hs) (h2 : ¬ p → Run C (.code y :: k) e hs) : Run C (.code (.cond c x y) :: k) e hs :=
  run_cond hc (fun h => h1 (of_decide_eq_true h)) (fun h => h2 (of_decide_eq_false h))

/-- A LOOP, by what is left to go: a family of states, of which something holds. -/
theorem rounds {c : Code} {ι : Type} (I : ι → Prop) (μ : ι → Nat) (E : ι → Env) (H : ι → Hs)
    (round : ∀ i, I i → (∀ j, I j → μ j < μ i → Run C (.inLoop c :: k) (E j) (H j)) → Run C (.code c :: .inLoop c :: k) (E i) (H i)) :
    ∀ i, I i → Run C (.code (.loop c) :: k) (E i) (H i) := by
  have key : ∀ n i, μ i = n → I i → Run C (.inLoop c :: k) (E i) (H i) := by
    intro n
    induction n using Nat.strongRecOn with
    | _ n ih => intro i hi hI; exact run_inLoop (round i hI fun j hJ hj => ih (μ j) (hi ▸ hj) j rfl hJ)
  exact fun i hI => run_loop (round i hI fun j hJ _ => key _ j rfl hJ)

/-- A LOOP, by what is left to go: a family of states. -/
theorem run_rounds {c : Code} {ι : Type} (μ : ι → Nat) (E : ι → Env) (H : ι → Hs)
    (round : ∀ i, (∀ j, μ j < μ i → Run C (.inLoop c :: k) (E j) (H j)) → Run C (.code c :: .inLoop c :: k) (E i) (H i)) :
    ∀ i, Run C (.inLoop c :: k) (E i) (H i) := by
  have key : ∀ n i, μ i = n → Run C (.inLoop c :: k) (E i) (H i) := by
    intro n
    induction n using Nat.strongRecOn with
    | _ n ih => intro i hi; exact run_inLoop (round i fun j hj => ih (μ j) (hi ▸ hj) j rfl)
  exact fun i => key _ i rfl

theorem results_eq {fn : Func} {tmps : Array Value} {P : Program} {w : World} {l : List (Nat × Value)} {v : Value}
    (hr : fn.results = (l.map fun x => ResultVar.tmp x.1).toArray) (hl : ∀ x ∈ l, tmps[x.1]? = some x.2)
    (hv : v = match l.map (·.2) with | [x] => x | xs => .tuple xs.toArray) : (results fn tmps).run P w = .ok v w := by
  have key : ∀ (g : ResultVar → Sem Value) (_ : ∀ t, g (.tmp t) = pure (tmps.getD t undef)) (l : List (Nat × Value)), (∀ x ∈ l, tmps[x.1]? = some x.2) →
      (List.mapM (m := Sem) g (l.map fun x => ResultVar.tmp x.1)).run P w = .ok (l.map (·.2)) w := by
    intro g hg l
    induction l with
    | nil => intro _; simp
    | cons x l ih =>
      intro h
      have hx := h x (by simp)
      simp only [List.map_cons, List.mapM_cons, hg, Sem.run_bind, Sem.run_pure, Result.andThen_ok, ih (fun y hy => h y (by simp [hy]))]
      simp [hx]
  unfold results
  rw [hr, List.mapM_toArray, Sem.run_bind, Sem.run_map, key _ (fun _ => rfl) l hl]
  subst hv
  rcases l with _ | ⟨x, _ | ⟨y, l⟩⟩ <;> simp

def getAll (e : Env) : List Nat → Option (List Value)
  | [] => some []
  | t :: ts => match eget e t, getAll e ts with
    | some v, some vs => some (v :: vs)
    | _, _ => none

def resOf : List Value → Value
  | [x] => x
  | xs => .tuple xs.toArray

theorem run_ret {ts : List Nat} {vs : List Value} (hr : C.fn.results = (ts.map ResultVar.tmp).toArray) (hg : getAll e ts = some vs)
    (h : ∀ w, St C.W0 C.own hs w → C.R (.returned (resOf vs)) w) (hrd : C.rd.join = none := by rfl) (hms : C.ms = [] := by rfl) : Run C (.code .ret :: k) e hs := by
  refine ⟨fun a w ok cs => ?_⟩
  have hb : C.b.roundOf = none := hrd
  have hdf : a.defers = [] := by rw [ok.d, hms]; rfl
  unfold Fin
  simp only [hrd]
  refine ⟨.returned (resOf vs), w, { C.b.atR a (.code .ret :: k) with mode := .returning }, h w ok.st, Steps.one (stepR_ret hb), rfl, rfl, hdf, rfl, C.fn, C.hf, ?_⟩
  have key : ∀ (ts : List Nat) (vs : List Value), getAll e ts = some vs → ∃ l : List (Nat × Value), ts = l.map (·.1) ∧ vs = l.map (·.2) ∧ ∀ x ∈ l, eget e x.1 = some x.2 := by
    intro ts
    induction ts with
    | nil => intro vs h; simp [getAll] at h; exact ⟨[], by simp, by simp [h], by simp⟩
    | cons t ts ih =>
      intro vs h
      unfold getAll at h
      split at h
      · rename_i v vs' hv hvs
        obtain ⟨l, h1, h2, h3⟩ := ih vs' hvs
        cases h
        exact ⟨(t, v) :: l, by simp [h1], by simp [h2], fun y hy => by rcases List.mem_cons.1 hy with rfl | hy; exact hv; exact h3 y hy⟩
      · cases h
  obtain ⟨l, rfl, rfl, h3⟩ := key ts vs hg
  refine results_eq (l := l) (by rw [hr]; simp) (fun x hx => ok.e _ _ (h3 x hx)) ?_
  unfold resOf
  rcases l with _ | ⟨x, _ | ⟨y, l⟩⟩ <;> rfl

theorem run_end (hr : C.fn.results = #[]) (h : ∀ w, St C.W0 C.own hs w → C.R (.returned (.tuple #[])) w) (hrd : C.rd.join = none := by rfl) (hms : C.ms = [] := by rfl) : Run C [] e hs := by
  refine ⟨fun a w ok cs => ?_⟩
  have hb : C.b.roundOf = none := hrd
  have hdf : a.defers = [] := by rw [ok.d, hms]; rfl
  unfold Fin
  simp only [hrd]
  exact ⟨.returned (.tuple #[]), w, { C.b.atR a [] with mode := .returning }, h w ok.st, Steps.one (stepR_end hb), rfl, rfl, hdf, rfl, C.fn, C.hf, results_none hr _ _ _⟩

end control

/-- The operations of a region that stand still to be done, in the order of the text; then what is left to do. -/
def Qk (C : Cx) (k : List Item) : Exit → Act → World → Prop
  | .normal, a, w => Cont C k a w
  | .panic chain, a, w => C.rd.join = none ∧ a.defers = [] ∧ C.R (.panicked chain) w
  | .outgrown, _, w => C.R .outgrown w
  | _, _, _ => False

/-- ..as the kit walks them: plainly, or (in a round, or where rounds are run) by the walk that knows of rounds. -/
def wpX (C : Cx) (ops : Array Oper) (Q : Exit → Act → World → Prop) (l : List Oper) (a : Act) (w : World) : Prop :=
  match C.rd with
  | none => wpList C.P ops Q l a w
  | some _ => wpListIn C.F 0 C.P ops Q l a w
structure Ops (C : Cx) (ops : Array Oper) (l : List Oper) (k : List Item) (e : Env) (hs : Hs) : Prop where
  go : ∀ a w, Ok C e hs a w → wpX C ops (Qk C k) l a w

theorem cont_of_wp {C : Cx} {k : List Item} {c : Code} {a : Act} {w : World} (h : c.wpIn C.F 0 C.P (Qk C k) a w) : Cont C (.code c :: k) a w := by
  intro cs
  obtain ⟨e, a', w', hq, harr⟩ := h C.b k cs rfl trivial (room_wide _)
  cases e with
  | normal => exact Fin.of_steps (StepsIn.steps harr) (hq cs)
  | panic chain =>
    obtain ⟨todo, hst⟩ := harr
    unfold Fin
    simp only [hq.1]
    exact ⟨.panicked chain, w', _, hq.2.2, StepsIn.steps hst, rfl, rfl, hq.2.1, C.fn, C.hf⟩
  | outgrown =>
    rcases harr with h1 | h1
    · cases h1
    · unfold Fin
      cases hr : C.rd.join with
      | none => exact ⟨.outgrown, w', C.b, hq, h1, rfl, trivial⟩
      | some l => exact fun c cs' _ => ⟨.outgrown, w', hq, h1⟩
  | exit id => exact hq.elim
  | goto l => exact hq.elim
  | ret => exact hq.elim

/-- In a round, an operation that is no defer does what it does elsewhere. -/
theorem run_semAt {P : Program} {rd : Option Nat} {ρ : Operand → Value} {o : Oper} {w w' : World} {x : Next} (h : (execOp ρ o).run P w = .ok x w') (hx : ∀ d, x ≠ .defer d) : (o.semAt rd ρ).run P w = .ok x w' := by
  unfold Oper.semAt
  split
  · rename_i l c hop
    exfalso
    unfold execOp at h
    rw [hop] at h
    simp only [Sem.run_bind] at h
    cases hr : (resolve ρ c o.type).run P w with
    | ok d w1 =>
      simp [hr] at h
      exact hx d h.1.symm
    | halt hh w1 => simp [hr] at h
  · exact h
theorem wpIn_mk {C : Cx} {o : Oper} {a : Act} {w w' : World} {x : Next} {K : Act → World → Prop} {Q : Exit → Act → World → Prop} (h : (execOp a.eval o).run C.P w = .ok x w') (hx : ∀ d, x ≠ .defer d) (hu : o.uponIn C.F 0 C.P a K Q (.ok x w')) : o.wpIn C.F 0 C.P a w K Q := by
  refine ⟨fun _ _ => trivial, ?_⟩
  rw [show C.F.round = C.rd.join from rfl, run_semAt h hx]
  exact hu
theorem calls_in {C : Cx} {n : Nat} {P : Program} {f : FuncId} {args : Array Value} {w : World} {R : Ending → World → Prop} (h : Calls P f args w R) : CallsIn C.F n P f args w R := (callsIn_wide (n := n)).2 h

theorem cont_of_wp0 {C : Cx} {k : List Item} {c : Code} {a : Act} {w : World} (hrd : C.rd = none) (h : c.wp C.P (Qk C k) a w) : Cont C (.code c :: k) a w := by
  refine cont_of_wp ?_
  have e : C.F = Fence.wide := by unfold Cx.F; rw [hrd]; rfl
  rw [e]
  exact wpIn_wide.2 h
theorem wpX_region {C : Cx} {k : List Item} {id : Nat} {l : List Oper} {a : Act} {w : World} (h : wpX C l.toArray (Qk C k) l a w) : Cont C (.code (.region id l.toArray false) :: k) a w := by
  unfold wpX at h
  split at h
  · rename_i hr; exact cont_of_wp0 hr (wp_region_lit h)
  · exact cont_of_wp (wpIn_region_lit h)
theorem wpX_nil {C : Cx} {ops : Array Oper} {Q : Exit → Act → World → Prop} {a : Act} {w : World} (h : Q .normal a w) : wpX C ops Q [] a w := by
  unfold wpX
  split
  · exact wpList_nil h
  · exact wpListIn_nil h
theorem wpX_val {C : Cx} {ops : Array Oper} {Q : Exit → Act → World → Prop} {rest : List Oper} {o : Oper} {a : Act} {w w' : World} {v : Value} (hg : o.guard = none) (hr : (execOp a.eval o).run C.P w = .ok (.value v) w')
    (h : wpX C ops Q rest (a.put o.dst v) w') : wpX C ops Q (o :: rest) a w := by
  unfold wpX at h ⊢
  split at h
  · refine wpList_plain hg fun K hK => ?_
    simp only [Oper.wp, hr, Oper.upon]
    exact hK _ _ h
  · exact wpListIn_plain hg fun K hK => wpIn_mk hr (fun _ h => by cases h) (hK _ _ h)
theorem wpX_skip {C : Cx} {ops : Array Oper} {Q : Exit → Act → World → Prop} {rest : List Oper} {o : Oper} {a : Act} {w w' : World} (hg : o.guard = none) (hr : (execOp a.eval o).run C.P w = .ok .skip w')
    (h : wpX C ops Q rest (a.put o.dst undef) w') : wpX C ops Q (o :: rest) a w := by
  unfold wpX at h ⊢
  split at h
  · refine wpList_plain hg fun K hK => ?_
    simp only [Oper.wp, hr, Oper.upon]
    exact hK _ _ h
  · exact wpListIn_plain hg fun K hK => wpIn_mk hr (fun _ h => by cases h) (hK _ _ h)
theorem wpX_enter {C : Cx} {ops : Array Oper} {Q : Exit → Act → World → Prop} {rest : List Oper} {o : Oper} {a : Act} {w w1 : World} {f : FuncId} {args : Array Value} {Φ : Value → World → Prop} (hg : o.guard = none) (hr : (execOp a.eval o).run C.P w = .ok (.enter f args) w1)
    (hc : Calls C.P f args w1 fun en w' => ∃ v, en = .returned v ∧ Φ v w') (h : ∀ v w', Φ v w' → wpX C ops Q rest (a.put o.dst v) w') : wpX C ops Q (o :: rest) a w := by
  unfold wpX at h ⊢
  split at h
  · refine wpList_plain hg fun K hK => ?_
    simp only [Oper.wp, hr, Oper.upon]
    refine Calls.mono hc ?_
    rintro en w' ⟨v, rfl, hΦ⟩
    exact hK _ _ (h v w' hΦ)
  · refine wpListIn_plain hg fun K hK => wpIn_mk hr (fun _ h => by cases h) ⟨(fun hh => by cases hh), calls_in (Calls.mono hc ?_)⟩
    rintro en w' ⟨v, rfl, hΦ⟩
    exact hK _ _ (h v w' hΦ)
theorem wpX_gy {C : Cx} {ops : Array Oper} {Q : Exit → Act → World → Prop} {rest : List Oper} {dst : Option Tmp} {op : Op} {ty : TypeId} {pos : String} {af : Array Edge} {j : Nat} {want : Bool} {a : Act} {w : World} (hy : yielded ops a.tmps j = some want)
    (h : wpX C ops Q (⟨dst, op, ty, pos, af, none⟩ :: rest) a w) : wpX C ops Q (⟨dst, op, ty, pos, af, some (j, want)⟩ :: rest) a w := by
  unfold wpX at h ⊢
  split at h
  · unfold wpList at h ⊢
    simp only [Region.wanted, if_true] at h
    simp only [Region.wanted, hy, beq_self_eq_true, if_true]
    exact h
  · unfold wpListIn at h ⊢
    simp only [Region.wanted, if_true] at h
    simp only [Region.wanted, hy, beq_self_eq_true, if_true]
    exact h
theorem wpX_gn {C : Cx} {ops : Array Oper} {Q : Exit → Act → World → Prop} {rest : List Oper} {o : Oper} {a : Act} {w : World} (hw : Region.wanted o (yielded ops a.tmps) = false)
    (h : wpX C ops Q rest (a.put o.dst undef) w) : wpX C ops Q (o :: rest) a w := by
  unfold wpX at h ⊢
  split at h
  · unfold wpList
    rw [hw]
    exact h
  · unfold wpListIn
    rw [hw]
    exact ⟨fun _ _ => trivial, h⟩

section
variable {C : Cx} {ops : Array Oper} {rest : List Oper} {k : List Item} {e : Env} {hs : Hs}

theorem rg {id : Nat} {l : List Oper} (h : Ops C l.toArray l k e hs) : Run C (.code (.region id l.toArray false) :: k) e hs :=
  ⟨fun a w ok => wpX_region (h.go a w ok)⟩

theorem nl (h : Run C k e hs) : Ops C ops [] k e hs := ⟨fun a w ok => wpX_nil (h.go a w ok)⟩

theorem Ok.put {a : Act} {w : World} (ok : Ok C e hs a w) {d : Nat} (hd : Nat.blt d C.N = true) (v : Value) : Ok C ((d, v) :: e) hs (a.put (some d) v) w :=
  ⟨by simp [Act.put, ok.n], ok.d, ok.e.put (by rw [ok.n]; exact Nat.le_of_ble_eq_true hd) v, ok.st⟩

theorem Ok.world {a : Act} {w w' : World} {hs' : Hs} (ok : Ok C e hs a w) (h : St C.W0 C.own hs' w') : Ok C e hs' a w' := ⟨ok.n, ok.d, ok.e, h⟩

/-- An operation that gives a value; the world may have turned. -/
theorem op_val {d : Nat} {op : Op} {ty : TypeId} {pos : String} {af : Array Edge} {v : Value} {hs' : Hs} (hd : Nat.blt d C.N = true)
    (h : ∀ a w, Ok C e hs a w → ∃ w', (execOp a.eval ⟨some d, op, ty, pos, af, none⟩).run C.P w = .ok (.value v) w' ∧ St C.W0 C.own hs' w')
    (next : Ops C ops rest k ((d, v) :: e) hs') : Ops C ops (⟨some d, op, ty, pos, af, none⟩ :: rest) k e hs := by
  refine ⟨fun a w ok => ?_⟩
  obtain ⟨w', hr, hst⟩ := h a w ok
  exact wpX_val rfl hr (next.go _ _ ((ok.world hst).put hd v))

/-- ..whose value is only known to be some such. -/
theorem op_some {d : Nat} {op : Op} {ty : TypeId} {pos : String} {af : Array Edge} {Φ : Value → Hs → Prop} (hd : Nat.blt d C.N = true)
    (h : ∀ a w, Ok C e hs a w → ∃ v hs' w', (execOp a.eval ⟨some d, op, ty, pos, af, none⟩).run C.P w = .ok (.value v) w' ∧ St C.W0 C.own hs' w' ∧ Φ v hs')
    (next : ∀ v hs', Φ v hs' → Ops C ops rest k ((d, v) :: e) hs') : Ops C ops (⟨some d, op, ty, pos, af, none⟩ :: rest) k e hs := by
  refine ⟨fun a w ok => ?_⟩
  obtain ⟨v, hs', w', hr, hst, hΦ⟩ := h a w ok
  exact wpX_val rfl hr ((next v hs' hΦ).go _ _ ((ok.world hst).put hd v))

/-- An operation that gives none. -/
theorem op_do {op : Op} {ty : TypeId} {pos : String} {af : Array Edge} {hs' : Hs}
    (h : ∀ a w, Ok C e hs a w → ∃ w', (execOp a.eval ⟨none, op, ty, pos, af, none⟩).run C.P w = .ok .skip w' ∧ St C.W0 C.own hs' w')
    (next : Ops C ops rest k e hs') : Ops C ops (⟨none, op, ty, pos, af, none⟩ :: rest) k e hs := by
  refine ⟨fun a w ok => ?_⟩
  obtain ⟨w', hr, hst⟩ := h a w ok
  exact wpX_skip rfl hr (next.go _ _ (ok.world hst))

def dstAt : List Oper → Nat → Option Nat
  | [], _ => none
  | o :: _, 0 => o.dst
  | _ :: l, n + 1 => dstAt l n
theorem dstAt_eq : ∀ (l : List Oper) (j : Nat), (l.toArray[j]?).bind (·.dst) = dstAt l j
  | [], j => by simp [dstAt]
  | o :: l, 0 => by simp [dstAt]
  | o :: l, j + 1 => by have := dstAt_eq l j; simpa [dstAt] using this

theorem gy' {dst : Option Tmp} {op : Op} {ty : TypeId} {pos : String} {af : Array Edge} {j d : Nat} {want : Bool} (hj : (ops[j]?).bind (·.dst) = some d)
    (hg : eget e d = some (.bool want)) (h : Ops C ops (⟨dst, op, ty, pos, af, none⟩ :: rest) k e hs) : Ops C ops (⟨dst, op, ty, pos, af, some (j, want)⟩ :: rest) k e hs := by
  refine ⟨fun a w ok => ?_⟩
  have := h.go a w ok
  have hy : yielded ops a.tmps j = some want := by simp [yielded, hj, ok.e _ _ hg]
  exact wpX_gy hy this

theorem gn' {d0 : Nat} {op : Op} {ty : TypeId} {pos : String} {af : Array Edge} {j d : Nat} {want was : Bool} (hd : Nat.blt d0 C.N = true) (hj : (ops[j]?).bind (·.dst) = some d)
    (hg : eget e d = some (.bool was)) (hw : (was == want) = false) (h : Ops C ops rest k ((d0, undef) :: e) hs) : Ops C ops (⟨some d0, op, ty, pos, af, some (j, want)⟩ :: rest) k e hs := by
  refine ⟨fun a w ok => ?_⟩
  have hy : yielded ops a.tmps j = some was := by simp [yielded, hj, ok.e _ _ hg]
  have hw' : (some was == some want) = false := by simpa using hw
  exact wpX_gn (by simpa [Region.wanted, hy] using hw) (h.go _ _ (ok.put hd undef))

def notBool : Value → Bool
  | .bool _ => false
  | _ => true
/-- What hangs on what was left out, is left out. -/
theorem gu' {d0 : Nat} {op : Op} {ty : TypeId} {pos : String} {af : Array Edge} {j d : Nat} {want : Bool} {v : Value} (hd : Nat.blt d0 C.N = true) (hj : (ops[j]?).bind (·.dst) = some d)
    (hg : eget e d = some v) (hw : notBool v = true) (h : Ops C ops rest k ((d0, undef) :: e) hs) : Ops C ops (⟨some d0, op, ty, pos, af, some (j, want)⟩ :: rest) k e hs := by
  refine ⟨fun a w ok => ?_⟩
  have hy : yielded ops a.tmps j = none := by
    simp only [yielded, hj, Option.bind_some, ok.e _ _ hg]
    cases v <;> simp_all [notBool]
  exact wpX_gn (by simp [Region.wanted, hy]) (h.go _ _ (ok.put hd undef))

/-- A truth that is not known yet: both ways. -/
theorem ops_split {d : Nat} {b : Bool} (hg : eget e d = some (.bool b)) (h1 : b = true → Ops C ops rest k ((d, .bool true) :: e) hs)
    (h2 : b = false → Ops C ops rest k ((d, .bool false) :: e) hs) : Ops C ops rest k e hs := by
  have key : ∀ c, b = c → Ops C ops rest k ((d, .bool c) :: e) hs → Ops C ops rest k e hs := by
    intro c hc h
    refine ⟨fun a w ok => ?_⟩
    refine h.go a w ⟨ok.n, ok.d, ok.e.sub ?_, ok.st⟩
    intro t v ht
    unfold eget at ht
    cases hb : Nat.beq d t
    · rw [hb] at ht; exact ht
    · rw [hb] at ht
      obtain rfl : d = t := Nat.eq_of_beq_eq_true hb
      cases ht; rw [← hc]; exact hg
  cases b
  · exact key false rfl (h2 rfl)
  · exact key true rfl (h1 rfl)

theorem gs' {dst : Option Tmp} {op : Op} {ty : TypeId} {pos : String} {af : Array Edge} {j d : Nat} {want : Bool} {p : Prop} {dp : Decidable p} (_ : (ops[j]?).bind (·.dst) = some d)
    (hg : eget e d = some (.bool (@decide p dp))) (h1 : p → Ops C ops (⟨dst, op, ty, pos, af, some (j, want)⟩ :: rest) k ((d, .bool true) :: e) hs)
    (h2 : ¬ p → Ops C ops (⟨dst, op, ty, pos, af, some (j, want)⟩ :: rest) k ((d, .bool false) :: e) hs) : Ops C ops (⟨dst, op, ty, pos, af, some (j, want)⟩ :: rest) k e hs :=
  ops_split hg (fun h => h1 (of_decide_eq_true h)) (fun h => h2 (of_decide_eq_false h))

theorem gb' {dst : Option Tmp} {op : Op} {ty : TypeId} {pos : String} {af : Array Edge} {j d : Nat} {want b : Bool} (_ : (ops[j]?).bind (·.dst) = some d)
    (hg : eget e d = some (.bool b)) (h1 : b = true → Ops C ops (⟨dst, op, ty, pos, af, some (j, want)⟩ :: rest) k ((d, .bool true) :: e) hs)
    (h2 : b = false → Ops C ops (⟨dst, op, ty, pos, af, some (j, want)⟩ :: rest) k ((d, .bool false) :: e) hs) : Ops C ops (⟨dst, op, ty, pos, af, some (j, want)⟩ :: rest) k e hs :=
  ops_split hg h1 h2

section
variable {l0 : List Oper} {dst : Option Tmp} {op : Op} {ty : TypeId} {pos : String} {af : Array Edge} {j d d0 : Nat} {want was : Bool}
theorem gy (hj : dstAt l0 j = some d) (hg : eget e d = some (.bool want)) (h : Ops C l0.toArray (⟨dst, op, ty, pos, af, none⟩ :: rest) k e hs) : Ops C l0.toArray (⟨dst, op, ty, pos, af, some (j, want)⟩ :: rest) k e hs :=
  gy' (by rw [dstAt_eq]; exact hj) hg h
theorem gn (hd : Nat.blt d0 C.N = true) (hj : dstAt l0 j = some d) (hg : eget e d = some (.bool was)) (hw : (was == want) = false)
    (h : Ops C l0.toArray rest k ((d0, undef) :: e) hs) : Ops C l0.toArray (⟨some d0, op, ty, pos, af, some (j, want)⟩ :: rest) k e hs :=
  gn' hd (by rw [dstAt_eq]; exact hj) hg hw h
theorem gu {v : Value} (hd : Nat.blt d0 C.N = true) (hj : dstAt l0 j = some d) (hg : eget e d = some v) (hw : notBool v = true)
    (h : Ops C l0.toArray rest k ((d0, undef) :: e) hs) : Ops C l0.toArray (⟨some d0, op, ty, pos, af, some (j, want)⟩ :: rest) k e hs :=
  gu' hd (by rw [dstAt_eq]; exact hj) hg hw h
theorem gs {p : Prop} {dp : Decidable p} (hj : dstAt l0 j = some d)
    (hg : eget e d = some (.bool (@decide p dp))) (h1 : p → Ops C l0.toArray (⟨dst, op, ty, pos, af, some (j, want)⟩ :: rest) k ((d, .bool true) :: e) hs)
    (h2 : ¬ p → Ops C l0.toArray (⟨dst, op, ty, pos, af, some (j, want)⟩ :: rest) k ((d, .bool false) :: e) hs) : Ops C l0.toArray (⟨dst, op, ty, pos, af, some (j, want)⟩ :: rest) k e hs :=
  gs' (by rw [dstAt_eq]; exact hj) hg h1 h2
theorem gb {b : Bool} (hj : dstAt l0 j = some d)
    (hg : eget e d = some (.bool b)) (h1 : b = true → Ops C l0.toArray (⟨dst, op, ty, pos, af, some (j, want)⟩ :: rest) k ((d, .bool true) :: e) hs)
    (h2 : b = false → Ops C l0.toArray (⟨dst, op, ty, pos, af, some (j, want)⟩ :: rest) k ((d, .bool false) :: e) hs) : Ops C l0.toArray (⟨dst, op, ty, pos, af, some (j, want)⟩ :: rest) k e hs :=
  gb' (by rw [dstAt_eq]; exact hj) hg h1 h2
end

/-- A CALL of a function whose contract is known. -/
theorem op_call {d : Nat} {c : Call} {f : FuncId} {args : Array Value} {ty : TypeId} {pos : String} {af : Array Edge} {Φ : Value → Hs → Prop} (hd : Nat.blt d C.N = true)
    (hr : ∀ a w, Ok C e hs a w → (execOp a.eval ⟨some d, .call c, ty, pos, af, none⟩).run C.P w = .ok (.enter f args) w)
    (h : ∀ w, St C.W0 C.own hs w → Calls C.P f args w fun en w' => ∃ v hs', en = .returned v ∧ St C.W0 C.own hs' w' ∧ Φ v hs')
    (next : ∀ v hs', Φ v hs' → Ops C ops rest k ((d, v) :: e) hs') : Ops C ops (⟨some d, .call c, ty, pos, af, none⟩ :: rest) k e hs := by
  refine ⟨fun a w ok => ?_⟩
  refine wpX_enter (Φ := fun v w' => ∃ hs', St C.W0 C.own hs' w' ∧ Φ v hs') rfl (hr a w ok) (Calls.mono (h w ok.st) ?_) ?_
  · rintro en w' ⟨v, hs', rfl, hst, hΦ⟩
    exact ⟨v, rfl, hs', hst, hΦ⟩
  · rintro v w' ⟨hs', hst, hΦ⟩
    exact (next v hs' hΦ).go _ _ ((ok.world hst).put hd v)
end
end Go.Fl
