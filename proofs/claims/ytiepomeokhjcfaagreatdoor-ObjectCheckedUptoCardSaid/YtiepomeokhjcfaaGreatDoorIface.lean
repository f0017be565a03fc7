/-
  Interface values: held against each other, asserted; calls in drawn regions; calls by a method's name. No condition.
-/
import Derived.Test.YtiepomeokhjcfaaGreatDoorMore
import Derived.Stop.Asserts
import Derived.LaidEql
namespace Go.Fl
open Go.Proofs Go.RowKit

section
variable {C : Cx} {e : Env} {hs : Hs} {tb : Tab}
/-- Two interface values of different types. -/
theorem p_if {x y : Operand} {tx ty ti t' : TypeId} {vx vy : Value} (hx : ev e x = some (.iface tx vx)) (hy : ev e y = some (.iface ty vy)) (hne : Nat.beq tx ty = false) (hk : kindT C.P ti = 5) :
    PV C e (.binOp .eql ti x y t') (.bool false) := by
  refine ⟨fun o d w ho ok => ?_⟩
  have hne' : tx ≠ ty := fun h => by rw [h, Nat.beq_refl] at hne; cases hne
  unfold kindT at hk
  cases hu : C.P.underlying ti with
  | none => simp [hu] at hk
  | some u =>
    cases u <;> simp [hu] at hk
    have := run_eql_iface_types (P := C.P) tx ty vx vy hu hne' w
    simp only [execOp, ho, ok.eval hx, ok.eval hy, eqGuard]
    simp [this]
theorem p_ni {x y : Operand} {ty ti t' : TypeId} {vy : Value} (hx : ev e x = some .nilIface) (hy : ev e y = some (.iface ty vy)) (hk : kindT C.P ti = 5) : PV C e (.binOp .eql ti x y t') (.bool false) := by
  refine ⟨fun o d w ho ok => ?_⟩
  unfold kindT at hk
  cases hu : C.P.underlying ti with
  | none => simp [hu] at hk
  | some u =>
    cases u <;> simp [hu] at hk
    have := run_eql_iface_nil_left (P := C.P) (w := w) ty vy hu
    simp only [execOp, ho, ok.eval hx, ok.eval hy, eqGuard]
    simp [this]
/-- Two of one type of integers. -/
theorem p_ii {x y : Operand} {t ti t' : TypeId} {a b : Int} {k : IntKind} (hx : ev e x = some (.iface t (.int k a))) (hy : ev e y = some (.iface t (.int k b))) (hk : kindT C.P ti = 5) (hu : C.P.underlying t = some (.int k))
    (hc : (C.P.info? t).map (·.comparable) = some true) : PV C e (.binOp .eql ti x y t') (.bool (decide (a = b))) := by
  refine ⟨fun o d w ho ok => ?_⟩
  obtain ⟨i, hi, hcmp⟩ := Option.map_eq_some_iff.1 hc
  have h1 : ∀ n, (Op.equalIn (n + 1) t (.int k a) (.int k b)).run C.P w = .ok (a == b) w := fun n => by simp [Op.equalIn, run_underlying_some hu]
  have h2 : (Op.equal ti (.iface t (.int k a)) (.iface t (.int k b))).run C.P w = .ok (a == b) w := by
    unfold kindT at hk
    cases hv : C.P.underlying ti with
    | none => simp [hv] at hk
    | some u =>
      cases u <;> simp [hv] at hk
      show (Op.equalIn (9998 + 1 + 1) ti _ _).run C.P w = _
      have h3 := h1 9998
      generalize 9998 = m at *
      rw [Op.equalIn]
      simp [run_underlying_some hv, typeInfo, hi, hcmp, h3]
  simp only [execOp, ho, ok.eval hx, ok.eval hy, eqGuard, binOp]
  have h4 : (a == b) = decide (a = b) := by cases h : (a == b) <;> simp_all
  simp [h2, h4]

/-- What an assertion finds. -/
structure Ta (P : Program) (v : Value) (s t : TypeId) (r : Value) : Prop where
  go : ∀ w, (Instr.typeAssert v s t true).run P w = .ok r w
theorem p_ta {x : Operand} {v r : Value} {s t : TypeId} (hx : ev e x = some v) (h : Ta C.P v s t r) : PV C e (.typeAssert x s t true) r :=
  ⟨fun o d w ho ok => by simp [execOp, ho, ok.eval hx, h.go w]⟩

/-! calls as values -/
theorem cv_w {f : FuncId} {xs : List Operand} {vs : List Value} {at_ : Array TypeId} {v : Value} {pre : World → Prop} (hf : isFn C.P f = true) (hx : evAll e xs = some vs) (h : RetIf C.P f vs pre v) (hp : ∀ w, St C.W0 C.own hs w → pre w) :
    CV C e hs (.call { callee := .value (.func f), args := xs.toArray, argTypes := at_ }) v := by
  refine ⟨fun o a w ho ok => ⟨f, vs.toArray, w, ?_, (h.go w (hp w ok.st)).mono ?_⟩⟩
  · have h1 := evAll_eval ok.e xs vs hx
    unfold isFn at hf
    cases hg : C.P.funcs[f]? with
    | none => simp [hg] at hf
    | some fn =>
      simp only [hg, Bool.and_eq_true, bne_iff_ne, ne_eq] at hf
      obtain ⟨h2, h3⟩ := hf
      obtain ⟨bd, h4⟩ := Option.isSome_iff_exists.1 h3
      simp [execOp, ho, resolve, Act.eval, Deferred.ofValue, invoke, callFunc, hg, h2, h4, ← h1]
  · rintro en w' ⟨rfl, hb⟩
    exact ⟨rfl, ok.st.keep hb⟩
theorem cv_of {f : FuncId} {xs : List Operand} {vs : List Value} {at_ : Array TypeId} {v : Value} (hf : isFn C.P f = true) (hx : evAll e xs = some vs) (h : RetIf C.P f vs (fun _ => True) v) :
    CV C e hs (.call { callee := .value (.func f), args := xs.toArray, argTypes := at_ }) v := cv_w hf hx h (fun _ _ => trivial)
theorem cv_m {f : FuncId} {t : TypeId} {u r : Value} {x : Operand} {name : String} {xs : List Operand} {vs : List Value} {at_ : Array TypeId} {v : Value} (hx0 : ev e x = some (.iface t u)) (hx : evAll e xs = some vs) (hm : Mt C.P t u name f r)
    (hf : isFn C.P f = true) (h : RetIf C.P f (r :: vs) (fun _ => True) v) : CV C e hs (.call { callee := .invoke x name, args := xs.toArray, argTypes := at_ }) v := by
  refine ⟨fun o a w ho ok => ⟨f, (r :: vs).toArray, w, ?_, (h.go w trivial).mono ?_⟩⟩
  · have h1 := evAll_eval ok.e xs vs hx
    have h3 := hm.go w
    unfold isFn at hf
    cases hg : C.P.funcs[f]? with
    | none => simp [hg] at hf
    | some fn =>
      simp only [hg, Bool.and_eq_true, bne_iff_ne, ne_eq] at hf
      obtain ⟨h2, h3'⟩ := hf
      obtain ⟨bd, h4⟩ := Option.isSome_iff_exists.1 h3'
      simp only [execOp, ho, resolve, ok.e.eval hx0, List.map_toArray, h1]
      simp [invoke, callMethod, h3, callFunc, hg, h2, h4]
  · rintro en w' ⟨rfl, hb⟩
    exact ⟨rfl, ok.st.keep hb⟩
end

section
variable {C : Cx} {ops : Array Oper} {rest : List Oper} {k : List Item} {e : Env} {hs : Hs} {d : Nat} {ty : TypeId} {pos : String} {af : Array Edge}
/-- Such a function that makes one new block. -/
structure Xn (P : Program) (f : FuncId) (args : List Value) (v : Nat → Value) (o : Obj) : Prop where
  go : ∀ w, (callFunc f args.toArray).run P w = .ok (.value (v w.heap.size)) (w.alloc o)
theorem xn {f : FuncId} {xs : List Operand} {vs : List Value} {at_ : Array TypeId} {v : Nat → Value} {o : Obj} (hd : Nat.blt d C.N = true) (hx : evAll e xs = some vs) (h : Xn C.P f vs v o)
    (next : ∀ b, Ops C ops rest k ((d, v b) :: e) ((b, o) :: hs)) : Ops C ops (⟨some d, .call { callee := .value (.func f), args := xs.toArray, argTypes := at_ }, ty, pos, af, none⟩ :: rest) k e hs := by
  refine op_some (Φ := fun v' hs' => ∃ b, v' = v b ∧ hs' = (b, o) :: hs) hd (fun a w ok => ⟨_, _, _, ?_, ok.st.push o, _, rfl, rfl⟩) ?_
  · have h1 := evAll_eval ok.e xs vs hx
    have h2 := h.go w
    simp only [execOp, resolve, List.map_toArray, h1, Act.eval, Deferred.ofValue]
    simpa [invoke] using h2
  · rintro v' hs' ⟨b, rfl, rfl⟩; exact next b
theorem xn_of {P : Program} {f : FuncId} {fn : Func} {g : Array Value → Sem Value} {args : List Value} {v : Nat → Value} {o : Obj} (hf : P.funcs[f]? = some fn) (hname : (fn.name == "runtime.NumGoroutine") = false)
    (hb : fn.body.isNone = true) (hn : Extern.findNext fn = none) (he : Extern.find fn = some g) (h : ∀ w, (g args.toArray).run P w = .ok (v w.heap.size) (w.alloc o)) : Xn P f args v o :=
  ⟨fun w => by rw [run_callFunc_extern hf hname hb hn he, h w]; rfl⟩
/-- Such a function that reads one cell of a block. -/
structure Xr (P : Program) (f : FuncId) (args : List Value) (b off : Nat) (u v : Value) : Prop where
  go : ∀ w, w.cell? ⟨b, off, none⟩ = some u → (callFunc f args.toArray).run P w = .ok (.value v) w
theorem xr_of {P : Program} {f : FuncId} {fn : Func} {g : Array Value → Sem Value} {args : List Value} {b off : Nat} {u v : Value} (hf : P.funcs[f]? = some fn) (hname : (fn.name == "runtime.NumGoroutine") = false)
    (hb : fn.body.isNone = true) (hn : Extern.findNext fn = none) (he : Extern.find fn = some g) (h : ∀ w, w.cell? ⟨b, off, none⟩ = some u → (g args.toArray).run P w = .ok v w) : Xr P f args b off u v :=
  ⟨fun w hw => by rw [run_callFunc_extern hf hname hb hn he, h w hw]; rfl⟩
theorem r_x (i : Nat) {f : FuncId} {xs : List Operand} {vs : List Value} {at_ : Array TypeId} {b off : Nat} {c : Array Value} {t' : TypeId} {fz : Nat × Nat} {u v : Value} (hx : evAll e xs = some vs) (h : Xr C.P f vs b off u v)
    (hi : hs[i]? = some (b, .cells c t' fz)) (hc : lget c.toList off = some u) : RV C e hs (.call { callee := .value (.func f), args := xs.toArray, argTypes := at_ }) v := by
  rw [lget_eq, Array.getElem?_toList] at hc
  refine .of_same fun o a w ho ok => ?_
  have hb : w.heap[b]? = some (.cells c t' fz) := ok.st.has _ (List.mem_of_getElem? hi)
  have h1 := evAll_eval ok.e xs vs hx
  have h2 := h.go w (by simp [World.cell?, hb, hc])
  simp only [execOp, ho, resolve, List.map_toArray, h1, Act.eval, Deferred.ofValue]
  simpa [invoke] using h2
end
end Go.Fl
