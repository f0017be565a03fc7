/-
  Values told by names of our own, and what the operations that only reckon give of them. No condition.
-/
import Derived.Test.YtiepomeokhjcfaaDoorSl
namespace Go.Fl
open Go.Proofs Go.RowKit
set_option maxRecDepth 10000

inductive V where
  | raw (v : Go.Value)
  | nat (n : Nat)
  | int (k : IntKind) (i : Int)
  | bl (b : Bool)
  | bd (p : Prop) (d : Decidable p)
  | str (s : ByteArray)
  | ptr (own : Bool) (key b o0 sz i off : Nat)
  | sl (own : Bool) (key b o0 sz : Nat) (i : Option Nat) (n c : Nat)
  | agg (vs : List V)
  | tup (vs : List V)
  | ifc (t : TypeId) (v : V)
  | fn (f : FuncId) (first cap : List V)

/-- Where a slice begins in its block. -/
def stN : Option Nat → Nat
  | none => 0
  | some n => n
mutual
def V.val : V → Go.Value
  | .raw v => v
  | .nat n => .int .i64 (Int.ofNat n)
  | .int k i => .int k i
  | .bl b => .bool b
  | .bd p d => .bool (@decide p d)
  | .str s => .string s
  | .ptr _ _ b o0 sz i off => .pointer (some ⟨b, o0 + i * sz + off, none⟩)
  | .sl _ _ b o0 sz i n c => .slice (some ⟨b, o0 + stN i * sz, none⟩) n c
  | .agg vs => .agg (V.vals vs).toArray
  | .tup vs => .tuple (V.vals vs).toArray
  | .ifc t v => .iface t v.val
  | .fn f a b => .func (.func f) (V.vals a).toArray (V.vals b).toArray
def V.vals : List V → List Go.Value
  | [] => []
  | v :: r => v.val :: V.vals r
end
theorem vals_map : ∀ l : List V, V.vals l = l.map V.val
  | [] => rfl
  | v :: r => by rw [V.vals, vals_map r]; rfl

def V.of : Go.Value → V
  | .int .i64 (.ofNat n) => .nat (@OfNat.ofNat Nat n (instOfNatNat n))
  | .int k (.ofNat n) => .int k ((@OfNat.ofNat Nat n (instOfNatNat n) : Nat) : Int)
  | .int k (.negSucc n) => .int k (-((@OfNat.ofNat Nat n (instOfNatNat n) + 1 : Nat) : Int))
  | .bool b => .bl b
  | .string s => .str s
  | v => .raw v
theorem val_of (v : Go.Value) : (V.of v).val = v := by
  unfold V.of
  split <;> first | rfl | skip

abbrev VEnv := List (Nat × V)
def rE (e : VEnv) : Env := e.map fun x => (x.1, x.2.val)
def egV : VEnv → Nat → Option V
  | [], _ => none
  | (k, v) :: r, t => bif Nat.beq k t then some v else egV r t
theorem eg_re : ∀ (e : VEnv) (t : Nat), eget (rE e) t = (egV e t).map V.val
  | [], t => rfl
  | (k, v) :: r, t => by
    have := eg_re r t
    simp only [rE, List.map_cons, eget, egV] at this ⊢
    cases Nat.beq k t
    · exact this
    · rfl
def evV (e : VEnv) : Operand → Option V
  | .tmp t => egV e t
  | .const v => some (V.of v)
  | .global g => some (.raw (.pointer (some ⟨g, 0, none⟩)))
  | .func f => some (.fn f [] [])
theorem ev_re {e : VEnv} {x : Operand} {v : V} (h : evV e x = some v) : ev (rE e) x = some v.val := by
  cases x with
  | tmp t => simp only [evV] at h; simp only [ev, eg_re, h, Option.map_some]
  | const u => simp only [evV, Option.some.injEq] at h; subst h; simp only [ev, val_of]
  | global g => simp only [evV, Option.some.injEq] at h; subst h; rfl
  | func f => simp only [evV, Option.some.injEq] at h; subst h; rfl
def evVs (e : VEnv) : List Operand → Option (List V)
  | [] => some []
  | x :: xs => match evV e x, evVs e xs with
    | some v, some vs => some (v :: vs)
    | _, _ => none
theorem evs_re {e : VEnv} : ∀ {xs : List Operand} {vs : List V}, evVs e xs = some vs → evAll (rE e) xs = some (V.vals vs)
  | [], vs, h => by simp only [evVs, Option.some.injEq] at h; subst h; rfl
  | x :: xs, vs, h => by
    unfold evVs at h
    split at h
    · rename_i v vs' h1 h2
      cases h
      simp only [evAll, ev_re h1, evs_re h2, V.vals]
    · cases h

def cellsV : V → List V
  | .agg vs => vs
  | .raw v => v.cells.toList.map V.of
  | v => [v]
theorem cells_val (v : V) : v.val.cells.toList = V.vals (cellsV v) := by
  cases v with
  | raw v =>
    simp only [V.val, cellsV, vals_map, List.map_map]
    conv => lhs; rw [← List.map_id v.cells.toList]
    exact List.map_congr_left fun x _ => (val_of x).symm
  | agg vs => simp only [V.val, cellsV, Value.cells]
  | _ => simp only [V.val, cellsV, V.vals, Value.cells]
theorem vals_length (l : List V) : (V.vals l).length = l.length := by rw [vals_map, List.length_map]

/-! integers -/
def inI64 (x : Int) : Prop := -9223372036854775808 ≤ x ∧ x ≤ 9223372036854775807
def asI : V → Option (IntKind × Int)
  | .nat n => some (.i64, (n : Int))
  | .int k i => some (k, i)
  | _ => none
theorem asI_val {v : V} {k : IntKind} {i : Int} (h : asI v = some (k, i)) : v.val = .int k i := by
  cases v <;> simp only [asI, Option.some.injEq, Prod.mk.injEq, reduceCtorEq] at h
  · obtain ⟨rfl, rfl⟩ := h; rfl
  · obtain ⟨rfl, rfl⟩ := h; rfl
def arI (k : IntKind) (x : Int) : V × Option Prop := match k with
  | .i64 => (.int .i64 x, some (inI64 x))
  | k => (.int k (k.wrap x), none)
def holds : Option Prop → Prop
  | none => True
  | some p => p
theorem arI_val {k : IntKind} {x : Int} (h : holds (arI k x).2) : (arI k x).1.val = .int k (k.wrap x) := by
  unfold arI at h ⊢
  split at h
  · obtain ⟨h1, h2⟩ := h
    show Go.Value.int _ _ = _
    rw [wrap_i64 h1 h2]
  · rfl

def cmpZ (op : BinOp) (a b : Int) : Option V := match op with
  | .eql => some (.bd (a = b) inferInstance)
  | .neq => some (.bd (a ≠ b) inferInstance)
  | .lss => some (.bd (a < b) inferInstance)
  | .leq => some (.bd (a ≤ b) inferInstance)
  | .gtr => some (.bd (b < a) inferInstance)
  | .geq => some (.bd (b ≤ a) inferInstance)
  | _ => none
def binI (op : BinOp) (k : IntKind) (a b : Int) : Option (V × Option Prop) := match op with
  | .add => some (arI k (a + b))
  | .sub => some (arI k (a - b))
  | .mul => some (arI k (a * b))
  | .rem => some (.int k (a.tmod b), some (b ≠ 0))
  | .quo => some ((arI k (a.tdiv b)).1, some (holds (arI k (a.tdiv b)).2 ∧ b ≠ 0))
  | op => (cmpZ op a b).map fun v => (v, none)
def cmpN (op : BinOp) (a b : Nat) : Option V := match op with
  | .eql => some (.bd (a = b) inferInstance)
  | .neq => some (.bd (a ≠ b) inferInstance)
  | .lss => some (.bd (a < b) inferInstance)
  | .leq => some (.bd (a ≤ b) inferInstance)
  | .gtr => some (.bd (b < a) inferInstance)
  | .geq => some (.bd (b ≤ a) inferInstance)
  | _ => none
def binN (op : BinOp) (a b : Nat) : Option (V × Option Prop) := match op with
  | .add => some (.nat (a + b), some (a + b ≤ 9223372036854775807))
  | .sub => some (.int .i64 ((a : Int) - (b : Int)), some (a ≤ 9223372036854775807 ∧ b ≤ 9223372036854775807))
  | .mul => some (.nat (a * b), some (a * b ≤ 9223372036854775807))
  | .rem => some (.nat (a % b), some (b ≠ 0))
  | .quo => some (.nat (a / b), some (a ≤ 9223372036854775807 ∧ b ≠ 0))
  | op => (cmpN op a b).map fun v => (v, none)
def strS (op : BinOp) (a b : ByteArray) : Option (V × Option Prop) := match op with
  | .add => some (.str (a ++ b), some (a.size + b.size ≤ 9223372036854775807))
  | .eql => some (.bd (tl a = tl b) inferInstance, none)
  | .neq => some (.bd (tl a ≠ tl b) inferInstance, none)
  | .lss => some (.bd (Op.bytesLess (tl a) (tl b) = true) inferInstance, none)
  | .geq => some (.bd (¬ (Op.bytesLess (tl a) (tl b) = true)) inferInstance, none)
  | .leq => some (.bd (Op.bytesLess (tl a) (tl b) = true ∨ tl a = tl b) inferInstance, none)
  | .gtr => some (.bd (¬ (Op.bytesLess (tl a) (tl b) = true ∨ tl a = tl b)) inferInstance, none)
  | _ => none
structure PD where
  p : Prop
  d : Decidable p
def asB : V → Option PD
  | .bl b => some ⟨b = true, inferInstance⟩
  | .bd p d => some ⟨p, d⟩
  | _ => none
theorem asB_val {v : V} {x : PD} (h : asB v = some x) : v.val = .bool (@decide x.p x.d) := by
  cases v <;> simp only [asB, Option.some.injEq, reduceCtorEq] at h
  · subst h; simp [V.val]
  · subst h; rfl
def binB (op : BinOp) : PD → PD → Option V
  | ⟨p, dp⟩, ⟨q, dq⟩ => match op with
    | .eql => some (.bd (p ↔ q) (@instDecidableIff _ _ dp dq))
    | .neq => some (.bd (¬ (p ↔ q)) (@instDecidableNot _ (@instDecidableIff _ _ dp dq)))
    | _ => none

def cmpB (op : BinOp) (a b : Int) : Option Bool := match op with
  | .eql => some (decide (a = b))
  | .neq => some (decide (a ≠ b))
  | .lss => some (decide (a < b))
  | .leq => some (decide (a ≤ b))
  | .gtr => some (decide (b < a))
  | .geq => some (decide (b ≤ a))
  | _ => none
section
variable {C : Cx} {e : Env}
theorem pv_ii {x y : Operand} {a b : Int} {k : IntKind} {t t' : TypeId} {op : BinOp} {v : V} {p : Option Prop} (hx : ev e x = some (.int k a)) (hy : ev e y = some (.int k b)) (h : binI op k a b = some (v, p)) (hp : holds p) :
    PV C e (.binOp op t x y t') v.val := by
  have cmp : ∀ r : Bool, cmpB op a b = some r → v.val = .bool r → PV C e (.binOp op t x y t') v.val := fun r h1 h2 => by
    rw [h2]
    cases op <;> simp only [cmpB, Option.some.injEq, reduceCtorEq] at h1 <;> subst h1 <;> exact p_cm hx hy rfl
  cases op <;> simp only [binI, cmpZ, Option.map_some, Option.map_none, Option.some.injEq, Prod.mk.injEq, reduceCtorEq] at h
  case add =>
    obtain ⟨rfl, rfl⟩ : v = (arI k (a + b)).1 ∧ p = (arI k (a + b)).2 := by rw [h]; exact ⟨rfl, rfl⟩
    rw [arI_val hp]; exact p_ar hx hy rfl
  case sub =>
    obtain ⟨rfl, rfl⟩ : v = (arI k (a - b)).1 ∧ p = (arI k (a - b)).2 := by rw [h]; exact ⟨rfl, rfl⟩
    rw [arI_val hp]; exact p_ar hx hy rfl
  case mul =>
    obtain ⟨rfl, rfl⟩ : v = (arI k (a * b)).1 ∧ p = (arI k (a * b)).2 := by rw [h]; exact ⟨rfl, rfl⟩
    rw [arI_val hp]; exact p_ar hx hy rfl
  case rem =>
    obtain ⟨rfl, rfl⟩ := h
    refine ⟨fun o d w ho ok => ?_⟩
    have hb : b ≠ 0 := hp
    simp [execOp, ho, ok.eval hx, ok.eval hy, eqGuard, binOp, Op.intDiv, hb, V.val]
  case quo =>
    obtain ⟨rfl, rfl⟩ := h
    rw [arI_val hp.1]
    refine ⟨fun o d w ho ok => ?_⟩
    have hb : b ≠ 0 := hp.2
    simp [execOp, ho, ok.eval hx, ok.eval hy, eqGuard, binOp, Op.intDiv, hb]
  all_goals (obtain ⟨rfl, rfl⟩ := h; exact cmp _ rfl rfl)

theorem pv_nn {x y : Operand} {a b : Nat} {t t' : TypeId} {op : BinOp} {v : V} {p : Option Prop} (hx : ev e x = some (.int .i64 (Int.ofNat a))) (hy : ev e y = some (.int .i64 (Int.ofNat b))) (h : binN op a b = some (v, p)) (hp : holds p) :
    PV C e (.binOp op t x y t') v.val := by
  have key : ∀ {v' : V} {p' : Option Prop}, binI op .i64 (Int.ofNat a) (Int.ofNat b) = some (v', p') → holds p' → v'.val = v.val → PV C e (.binOp op t x y t') v.val := fun h1 h2 h3 => h3 ▸ pv_ii hx hy h1 h2
  have bdc : ∀ {q q' : Prop} {d : Decidable q} {d' : Decidable q'}, (q ↔ q') → (V.bd q d).val = (V.bd q' d').val := by
    intro q q' d d' hq
    show Go.Value.bool _ = Go.Value.bool _
    congr 1
    exact decide_eq_decide.2 hq
  cases op <;> simp only [binN, cmpN, Option.map_some, Option.map_none, Option.some.injEq, Prod.mk.injEq, reduceCtorEq] at h
  case add =>
    obtain ⟨rfl, rfl⟩ := h
    have hp : a + b ≤ 9223372036854775807 := hp
    refine key (v' := .int .i64 (Int.ofNat a + Int.ofNat b)) rfl ⟨?_, ?_⟩ rfl
    · show _ ≤ (a : Int) + (b : Int); omega
    · show (a : Int) + (b : Int) ≤ _; omega
  case sub =>
    obtain ⟨rfl, rfl⟩ := h
    obtain ⟨h1, h2⟩ : a ≤ 9223372036854775807 ∧ b ≤ 9223372036854775807 := hp
    refine key (v' := .int .i64 (Int.ofNat a - Int.ofNat b)) rfl ⟨?_, ?_⟩ rfl
    · show _ ≤ (a : Int) - (b : Int); omega
    · show (a : Int) - (b : Int) ≤ _; omega
  case mul =>
    obtain ⟨rfl, rfl⟩ := h
    have hp : a * b ≤ 9223372036854775807 := hp
    refine key (v' := .int .i64 (Int.ofNat a * Int.ofNat b)) rfl ⟨?_, ?_⟩ rfl
    · show _ ≤ (a : Int) * (b : Int); rw [← Int.natCast_mul]; omega
    · show (a : Int) * (b : Int) ≤ _; rw [← Int.natCast_mul]; omega
  case rem =>
    obtain ⟨rfl, rfl⟩ := h
    have hp : b ≠ 0 := hp
    refine key (v' := .int .i64 ((Int.ofNat a).tmod (Int.ofNat b))) rfl ?_ rfl
    show (b : Int) ≠ 0
    omega
  case quo =>
    obtain ⟨rfl, rfl⟩ := h
    obtain ⟨h1, h2⟩ : a ≤ 9223372036854775807 ∧ b ≠ 0 := hp
    have h3 : a / b ≤ a := Nat.div_le_self a b
    refine key (v' := .int .i64 ((Int.ofNat a).tdiv (Int.ofNat b))) rfl ⟨⟨?_, ?_⟩, ?_⟩ rfl
    · show _ ≤ ((a / b : Nat) : Int); generalize a / b = q at *; omega
    · show ((a / b : Nat) : Int) ≤ _; generalize a / b = q at *; omega
    · show (b : Int) ≠ 0; omega
  all_goals
    obtain ⟨rfl, rfl⟩ := h
    refine key rfl trivial (bdc ?_)
    simp only [Int.ofNat_eq_natCast]
    omega

theorem pv_ss {x y : Operand} {a b : ByteArray} {t t' : TypeId} {op : BinOp} {v : V} {p : Option Prop} (hx : ev e x = some (.string a)) (hy : ev e y = some (.string b)) (h : strS op a b = some (v, p)) (hp : holds p) :
    PV C e (.binOp op t x y t') v.val := by
  cases op <;> simp only [strS, Option.some.injEq, Prod.mk.injEq, reduceCtorEq] at h
  case add => obtain ⟨rfl, rfl⟩ := h; exact p_ct hx hy hp
  all_goals
    obtain ⟨rfl, rfl⟩ := h
    refine p_sc hx hy ?_
    simp [Bool.decide_or]

theorem run_eql_bool {t t' : TypeId} {x y : Operand} {op : BinOp} {a b : PD} {v : V} (hx : ev e x = some (.bool (@decide a.p a.d))) (hy : ev e y = some (.bool (@decide b.p b.d))) (hu : C.P.underlying t = some .bool) (h : binB op a b = some v) :
    PV C e (.binOp op t x y t') v.val := by
  obtain ⟨p, dp⟩ := a
  obtain ⟨q, dq⟩ := b
  cases op <;> simp only [binB, Option.some.injEq, reduceCtorEq] at h
  case eql =>
    subst h
    have := p_be (C := C) (t' := t') hx hy hu
    have e1 : decide (decide p = decide q) = decide (p ↔ q) := by by_cases hp : p <;> by_cases hq : q <;> simp [hp, hq]
    simp only [V.val]
    rw [← e1]; exact this
  case neq =>
    subst h
    have := p_bn (C := C) (t' := t') hx hy hu
    have e1 : decide (decide p ≠ decide q) = decide (¬ (p ↔ q)) := by by_cases hp : p <;> by_cases hq : q <;> simp [hp, hq]
    simp only [V.val]
    rw [← e1]; exact this
end
end Go.Fl
