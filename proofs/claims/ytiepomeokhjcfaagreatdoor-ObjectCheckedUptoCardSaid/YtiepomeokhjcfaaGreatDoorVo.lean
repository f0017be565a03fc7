/-
  Values told by names of our own: what the operations that only reckon give. No condition.
-/
import Derived.Test.YtiepomeokhjcfaaGreatDoorSl
import Derived.ChangeKeysEq
namespace Go.Fl
open Go.Proofs Go.RowKit
set_option maxRecDepth 10000

inductive V where
  | raw (v : Go.Value)
  | nat (n : Nat)
  | int (k : IntKind) (i : Int)
  | bl (b : Bool)
  | bd (p : Prop) (d : Decidable p)
  | str (s : ByteArray)
  | ptr (own : Bool) (key b o0 sz i off : Nat)
  | sl (own : Bool) (key b o0 sz : Nat) (i : Option Nat) (n c : Nat)
  | agg (vs : List V)
  | tup (vs : List V)
  | ifc (t : TypeId) (v : V)
  | fn (f : FuncId) (first cap : List V)

/-- Where a slice begins in its block. -/
def stN : Option Nat → Nat
  | none => 0
  | some n => n
mutual
def V.val : V → Go.Value
  | .raw v => v
  | .nat n => .int .i64 (Int.ofNat n)
  | .int k i => .int k i
  | .bl b => .bool b
  | .bd p d => .bool (@decide p d)
  | .str s => .string s
  | .ptr _ _ b o0 sz i off => .pointer (some ⟨b, o0 + i * sz + off, none⟩)
  | .sl _ _ b o0 sz i n c => .slice (some ⟨b, o0 + stN i * sz, none⟩) n c
  | .agg vs => .agg (V.vals vs).toArray
  | .tup vs => .tuple (V.vals vs).toArray
  | .ifc t v => .iface t v.val
  | .fn f a b => .func (.func f) (V.vals a).toArray (V.vals b).toArray
def V.vals : List V → List Go.Value
  | [] => []
  | v :: r => v.val :: V.vals r
end
theorem vals_map : ∀ l : List V, V.vals l = l.map V.val
  | [] => rfl
  | v :: r => by rw [V.vals, vals_map r]; rfl

def V.of : Go.Value → V
  | .int .i64 (.ofNat n) => .nat (@OfNat.ofNat Nat n (instOfNatNat n))
  | .int k (.ofNat n) => .int k ((@OfNat.ofNat Nat n (instOfNatNat n) : Nat) : Int)
  | .int k (.negSucc n) => .int k (-((@OfNat.ofNat Nat n (instOfNatNat n) + 1 : Nat) : Int))
  | .bool b => .bl b
  | .string s => .str s
  | v => .raw v
theorem val_of (v : Go.Value) : (V.of v).val = v := by
  unfold V.of
  split <;> first | rfl | skip

abbrev VEnv := List (Nat × V)
def rE (e : VEnv) : Env := e.map fun x => (x.1, x.2.val)
def egV : VEnv → Nat → Option V
  | [], _ => none
  | (k, v) :: r, t => bif Nat.beq k t then some v else egV r t
theorem eg_re : ∀ (e : VEnv) (t : Nat), eget (rE e) t = (egV e t).map V.val
  | [], t => rfl
  | (k, v) :: r, t => by
    have := eg_re r t
    simp only [rE, List.map_cons, eget, egV] at this ⊢
    cases Nat.beq k t
    · exact this
    · rfl
def evV (e : VEnv) : Operand → Option V
  | .tmp t => egV e t
  | .const v => some (V.of v)
  | .global g => some (.raw (.pointer (some ⟨g, 0, none⟩)))
  | .func f => some (.fn f [] [])
theorem ev_re {e : VEnv} {x : Operand} {v : V} (h : evV e x = some v) : ev (rE e) x = some v.val := by
  cases x with
  | tmp t => simp only [evV] at h; simp only [ev, eg_re, h, Option.map_some]
  | const u => simp only [evV, Option.some.injEq] at h; subst h; simp only [ev, val_of]
  | global g => simp only [evV, Option.some.injEq] at h; subst h; rfl
  | func f => simp only [evV, Option.some.injEq] at h; subst h; rfl
def evVs (e : VEnv) : List Operand → Option (List V)
  | [] => some []
  | x :: xs => match evV e x, evVs e xs with
    | some v, some vs => some (v :: vs)
    | _, _ => none
theorem evs_re {e : VEnv} : ∀ {xs : List Operand} {vs : List V}, evVs e xs = some vs → evAll (rE e) xs = some (V.vals vs)
  | [], vs, h => by simp only [evVs, Option.some.injEq] at h; subst h; rfl
  | x :: xs, vs, h => by
    unfold evVs at h
    split at h
    · rename_i v vs' h1 h2
      cases h
      simp only [evAll, ev_re h1, evs_re h2, V.vals]
    · cases h

def cellsV : V → List V
  | .agg vs => vs
  | .raw v => v.cells.toList.map V.of
  | v => [v]
theorem cells_val (v : V) : v.val.cells.toList = V.vals (cellsV v) := by
  cases v with
  | raw v =>
    simp only [V.val, cellsV, vals_map, List.map_map]
    conv => lhs; rw [← List.map_id v.cells.toList]
    exact List.map_congr_left fun x _ => (val_of x).symm
  | agg vs => simp only [V.val, cellsV, Value.cells]
  | _ => simp only [V.val, cellsV, V.vals, Value.cells]
theorem vals_length (l : List V) : (V.vals l).length = l.length := by rw [vals_map, List.length_map]

/-! integers -/
def inI64 (x : Int) : Prop := -9223372036854775808 ≤ x ∧ x ≤ 9223372036854775807
def asI : V → Option (IntKind × Int)
  | .nat n => some (.i64, (n : Int))
  | .int k i => some (k, i)
  | _ => none
theorem asI_val {v : V} {k : IntKind} {i : Int} (h : asI v = some (k, i)) : v.val = .int k i := by
  cases v <;> simp only [asI, Option.some.injEq, Prod.mk.injEq, reduceCtorEq] at h
  · obtain ⟨rfl, rfl⟩ := h; rfl
  · obtain ⟨rfl, rfl⟩ := h; rfl
def arI (k : IntKind) (x : Int) : V × Option Prop := match k with
  | .i64 => (.int .i64 x, some (inI64 x))
  | k => (.int k (k.wrap x), none)
def holds : Option Prop → Prop
  | none => True
  | some p => p
theorem arI_val {k : IntKind} {x : Int} (h : holds (arI k x).2) : (arI k x).1.val = .int k (k.wrap x) := by
  unfold arI at h ⊢
  split at h
  · obtain ⟨h1, h2⟩ := h
    show Go.Value.int _ _ = _
    rw [wrap_i64 h1 h2]
  · rfl

def cmpZ (op : BinOp) (a b : Int) : Option V := match op with
  | .eql => some (.bd (a = b) inferInstance)
  | .neq => some (.bd (a ≠ b) inferInstance)
  | .lss => some (.bd (a < b) inferInstance)
  | .leq => some (.bd (a ≤ b) inferInstance)
  | .gtr => some (.bd (b < a) inferInstance)
  | .geq => some (.bd (b ≤ a) inferInstance)
  | _ => none
def binI (op : BinOp) (k : IntKind) (a b : Int) : Option (V × Option Prop) := match op with
  | .add => some (arI k (a + b))
  | .sub => some (arI k (a - b))
  | .mul => some (arI k (a * b))
  | .rem => some (.int k (a.tmod b), some (b ≠ 0))
  | .quo => some ((arI k (a.tdiv b)).1, some (holds (arI k (a.tdiv b)).2 ∧ b ≠ 0))
  | op => (cmpZ op a b).map fun v => (v, none)
def cmpN (op : BinOp) (a b : Nat) : Option V := match op with
  | .eql => some (.bd (a = b) inferInstance)
  | .neq => some (.bd (a ≠ b) inferInstance)
  | .lss => some (.bd (a < b) inferInstance)
  | .leq => some (.bd (a ≤ b) inferInstance)
  | .gtr => some (.bd (b < a) inferInstance)
  | .geq => some (.bd (b ≤ a) inferInstance)
  | _ => none
def binN (op : BinOp) (a b : Nat) : Option (V × Option Prop) := match op with
  | .add => some (.nat (a + b), some (a + b ≤ 9223372036854775807))
  | .sub => some (.int .i64 ((a : Int) - (b : Int)), some (a ≤ 9223372036854775807 ∧ b ≤ 9223372036854775807))
  | .mul => some (.nat (a * b), some (a * b ≤ 9223372036854775807))
  | .rem => some (.nat (a % b), some (b ≠ 0))
  | .quo => some (.nat (a / b), some (a ≤ 9223372036854775807 ∧ b ≠ 0))
  | op => (cmpN op a b).map fun v => (v, none)
def strS (op : BinOp) (a b : ByteArray) : Option (V × Option Prop) := match op with
  | .add => some (.str (a ++ b), some (a.size + b.size ≤ 9223372036854775807))
  | .eql => some (.bd (tl a = tl b) inferInstance, none)
  | .neq => some (.bd (tl a ≠ tl b) inferInstance, none)
  | .lss => some (.bd (Op.bytesLess (tl a) (tl b) = true) inferInstance, none)
  | .geq => some (.bd (¬ (Op.bytesLess (tl a) (tl b) = true)) inferInstance, none)
  | .leq => some (.bd (Op.bytesLess (tl a) (tl b) = true ∨ tl a = tl b) inferInstance, none)
  | .gtr => some (.bd (¬ (Op.bytesLess (tl a) (tl b) = true ∨ tl a = tl b)) inferInstance, none)
  | _ => none
structure PD where
  p : Prop
  d : Decidable p
def asB : V → Option PD
  | .bl b => some ⟨b = true, inferInstance⟩
  | .bd p d => some ⟨p, d⟩
  | _ => none
theorem asB_val {v : V} {x : PD} (h : asB v = some x) : v.val = .bool (@decide x.p x.d) := by
  cases v <;> simp only [asB, Option.some.injEq, reduceCtorEq] at h
  · subst h; simp [V.val]
  · subst h; rfl
def binB (op : BinOp) : PD → PD → Option V
  | ⟨p, dp⟩, ⟨q, dq⟩ => match op with
    | .eql => some (.bd (p ↔ q) (@instDecidableIff _ _ dp dq))
    | .neq => some (.bd (¬ (p ↔ q)) (@instDecidableNot _ (@instDecidableIff _ _ dp dq)))
    | _ => none

def cmpB (op : BinOp) (a b : Int) : Option Bool := match op with
  | .eql => some (decide (a = b))
  | .neq => some (decide (a ≠ b))
  | .lss => some (decide (a < b))
  | .leq => some (decide (a ≤ b))
  | .gtr => some (decide (b < a))
  | .geq => some (decide (b ≤ a))
  | _ => none
section
variable {C : Cx} {e : Env}
theorem pv_ii {x y : Operand} {a b : Int} {k : IntKind} {t t' : TypeId} {op : BinOp} {v : V} {p : Option Prop} (hx : ev e x = some (.int k a)) (hy : ev e y = some (.int k b)) (h : binI op k a b = some (v, p)) (hp : holds p) :
    PV C e (.binOp op t x y t') v.val := by
  have cmp : ∀ r : Bool, cmpB op a b = some r → v.val = .bool r → PV C e (.binOp op t x y t') v.val := fun r h1 h2 => by
    rw [h2]
    cases op <;> simp only [cmpB, Option.some.injEq, reduceCtorEq] at h1 <;> subst h1 <;> exact p_cm hx hy rfl
  cases op <;> simp only [binI, cmpZ, Option.map_some, Option.map_none, Option.some.injEq, Prod.mk.injEq, reduceCtorEq] at h
  case add =>
    obtain ⟨rfl, rfl⟩ : v = (arI k (a + b)).1 ∧ p = (arI k (a + b)).2 := by rw [h]; exact ⟨rfl, rfl⟩
    rw [arI_val hp]; exact p_ar hx hy rfl
  case sub =>
    obtain ⟨rfl, rfl⟩ : v = (arI k (a - b)).1 ∧ p = (arI k (a - b)).2 := by rw [h]; exact ⟨rfl, rfl⟩
    rw [arI_val hp]; exact p_ar hx hy rfl
  case mul =>
    obtain ⟨rfl, rfl⟩ : v = (arI k (a * b)).1 ∧ p = (arI k (a * b)).2 := by rw [h]; exact ⟨rfl, rfl⟩
    rw [arI_val hp]; exact p_ar hx hy rfl
  case rem =>
    obtain ⟨rfl, rfl⟩ := h
    refine ⟨fun o d w ho ok => ?_⟩
    have hb : b ≠ 0 := hp
    simp [execOp, ho, ok.eval hx, ok.eval hy, eqGuard, binOp, Op.intDiv, hb, V.val]
  case quo =>
    obtain ⟨rfl, rfl⟩ := h
    rw [arI_val hp.1]
    refine ⟨fun o d w ho ok => ?_⟩
    have hb : b ≠ 0 := hp.2
    simp [execOp, ho, ok.eval hx, ok.eval hy, eqGuard, binOp, Op.intDiv, hb]
  all_goals (obtain ⟨rfl, rfl⟩ := h; exact cmp _ rfl rfl)

theorem pv_nn {x y : Operand} {a b : Nat} {t t' : TypeId} {op : BinOp} {v : V} {p : Option Prop} (hx : ev e x = some (.int .i64 (Int.ofNat a))) (hy : ev e y = some (.int .i64 (Int.ofNat b))) (h : binN op a b = some (v, p)) (hp : holds p) :
    PV C e (.binOp op t x y t') v.val := by
  have key : ∀ {v' : V} {p' : Option Prop}, binI op .i64 (Int.ofNat a) (Int.ofNat b) = some (v', p') → holds p' → v'.val = v.val → PV C e (.binOp op t x y t') v.val := fun h1 h2 h3 => h3 ▸ pv_ii hx hy h1 h2
  have bdc : ∀ {q q' : Prop} {d : Decidable q} {d' : Decidable q'}, (q ↔ q') → (V.bd q d).val = (V.bd q' d').val := by
    intro q q' d d' hq
    show Go.Value.bool _ = Go.Value.bool _
    congr 1
    exact decide_eq_decide.2 hq
  cases op <;> simp only [binN, cmpN, Option.map_some, Option.map_none, Option.some.injEq, Prod.mk.injEq, reduceCtorEq] at h
  case add =>
    obtain ⟨rfl, rfl⟩ := h
    have hp : a + b ≤ 9223372036854775807 := hp
    refine key (v' := .int .i64 (Int.ofNat a + Int.ofNat b)) rfl ⟨?_, ?_⟩ rfl
    · show _ ≤ (a : Int) + (b : Int); omega
    · show (a : Int) + (b : Int) ≤ _; omega
  case sub =>
    obtain ⟨rfl, rfl⟩ := h
    obtain ⟨h1, h2⟩ : a ≤ 9223372036854775807 ∧ b ≤ 9223372036854775807 := hp
    refine key (v' := .int .i64 (Int.ofNat a - Int.ofNat b)) rfl ⟨?_, ?_⟩ rfl
    · show _ ≤ (a : Int) - (b : Int); omega
    · show (a : Int) - (b : Int) ≤ _; omega
  case mul =>
    obtain ⟨rfl, rfl⟩ := h
    have hp : a * b ≤ 9223372036854775807 := hp
    refine key (v' := .int .i64 (Int.ofNat a * Int.ofNat b)) rfl ⟨?_, ?_⟩ rfl
    · show _ ≤ (a : Int) * (b : Int); rw [← Int.natCast_mul]; omega
    · show (a : Int) * (b : Int) ≤ _; rw [← Int.natCast_mul]; omega
  case rem =>
    obtain ⟨rfl, rfl⟩ := h
    have hp : b ≠ 0 := hp
    refine key (v' := .int .i64 ((Int.ofNat a).tmod (Int.ofNat b))) rfl ?_ rfl
    show (b : Int) ≠ 0
    omega
  case quo =>
    obtain ⟨rfl, rfl⟩ := h
    obtain ⟨h1, h2⟩ : a ≤ 9223372036854775807 ∧ b ≠ 0 := hp
    have h3 : a / b ≤ a := Nat.div_le_self a b
    refine key (v' := .int .i64 ((Int.ofNat a).tdiv (Int.ofNat b))) rfl ⟨⟨?_, ?_⟩, ?_⟩ rfl
    · show _ ≤ ((a / b : Nat) : Int); generalize a / b = q at *; omega
    · show ((a / b : Nat) : Int) ≤ _; generalize a / b = q at *; omega
    · show (b : Int) ≠ 0; omega
  all_goals
    obtain ⟨rfl, rfl⟩ := h
    refine key rfl trivial (bdc ?_)
    simp only [Int.ofNat_eq_natCast]
    omega

theorem pv_ss {x y : Operand} {a b : ByteArray} {t t' : TypeId} {op : BinOp} {v : V} {p : Option Prop} (hx : ev e x = some (.string a)) (hy : ev e y = some (.string b)) (h : strS op a b = some (v, p)) (hp : holds p) :
    PV C e (.binOp op t x y t') v.val := by
  cases op <;> simp only [strS, Option.some.injEq, Prod.mk.injEq, reduceCtorEq] at h
  case add => obtain ⟨rfl, rfl⟩ := h; exact p_ct hx hy hp
  all_goals
    obtain ⟨rfl, rfl⟩ := h
    refine p_sc hx hy ?_
    simp [Bool.decide_or]

theorem run_eql_bool {t t' : TypeId} {x y : Operand} {op : BinOp} {a b : PD} {v : V} (hx : ev e x = some (.bool (@decide a.p a.d))) (hy : ev e y = some (.bool (@decide b.p b.d))) (hu : C.P.underlying t = some .bool) (h : binB op a b = some v) :
    PV C e (.binOp op t x y t') v.val := by
  obtain ⟨p, dp⟩ := a
  obtain ⟨q, dq⟩ := b
  cases op <;> simp only [binB, Option.some.injEq, reduceCtorEq] at h
  case eql =>
    subst h
    have := p_be (C := C) (t' := t') hx hy hu
    have e1 : decide (decide p = decide q) = decide (p ↔ q) := by by_cases hp : p <;> by_cases hq : q <;> simp [hp, hq]
    simp only [V.val]
    rw [← e1]; exact this
  case neq =>
    subst h
    have := p_bn (C := C) (t' := t') hx hy hu
    have e1 : decide (decide p ≠ decide q) = decide (¬ (p ↔ q)) := by by_cases hp : p <;> by_cases hq : q <;> simp [hp, hq]
    simp only [V.val]
    rw [← e1]; exact this
end
end Go.Fl

namespace Go.Fl
open Go.Proofs Go.RowKit
set_option maxRecDepth 10000
set_option maxHeartbeats 1000000

def eqFs (F : TypeId → Option (List Nat)) (P : Program) (off : Nat) : List Field → Option (List Nat)
  | [] => some []
  | f :: fs => bif (f.name == "_") || !(Nat.beq f.offset off) then none else match F f.type, P.info? f.type with
    | some ks, some i => bif Nat.beq i.size ks.length then (match eqFs F P (off + ks.length) fs with
      | some r => some (ks ++ r)
      | none => none) else none
    | _, _ => none
def eqFlat (P : Program) : Nat → TypeId → Option (List Nat)
  | 0, _ => none
  | d + 1, t => match P.underlying t with
    | some .bool => some [0]
    | some (.int _) => some [1]
    | some .string => some [2]
    | some (.struct fs) => bif P.stoodInHeld t then none else eqFs (eqFlat P d) P 0 fs.toList
    | some (.array n e) => match P.underlying e, P.info? e with
      | some .bool, some i => bif Nat.beq i.size 1 && Nat.blt 0 d then some (List.replicate n 0) else none
      | some (.int _), some i => bif Nat.beq i.size 1 && Nat.blt 0 d then some (List.replicate n 1) else none
      | some .string, some i => bif Nat.beq i.size 1 && Nat.blt 0 d then some (List.replicate n 2) else none
      | _, _ => none
    | _ => none
def eqA : Nat → Go.Value → Go.Value → Option Bool
  | 0, .bool a, .bool b => some (a == b)
  | 1, .int k a, .int k' b => if k = k' then some (a == b) else none
  | 2, .string a, .string b => some (a == b)
  | _, _, _ => none
def eqCs : List Nat → List Go.Value → List Go.Value → Option Bool
  | [], [], [] => some true
  | k :: ks, x :: xs, y :: ys => match eqA k x y, eqCs ks xs ys with
    | some a, some b => some (a && b)
    | _, _ => none
  | _, _, _ => none
theorem eqCs_len : ∀ {ks : List Nat} {xs ys : List Go.Value} {r : Bool}, eqCs ks xs ys = some r → xs.length = ks.length ∧ ys.length = ks.length
  | [], [], [], _, _ => ⟨rfl, rfl⟩
  | k :: ks, x :: xs, y :: ys, r, h => by
    simp only [eqCs] at h
    split at h
    · rename_i a b h1 h2
      have := eqCs_len h2
      exact ⟨by simp [this.1], by simp [this.2]⟩
    · cases h
  | [], _ :: _, _, _, h => by simp [eqCs] at h
  | [], [], _ :: _, _, h => by simp [eqCs] at h
  | _ :: _, [], _, _, h => by simp [eqCs] at h
  | _ :: _, _ :: _, [], _, h => by simp [eqCs] at h
theorem eqCs_split : ∀ {k1 k2 : List Nat} {xs ys : List Go.Value} {r : Bool}, eqCs (k1 ++ k2) xs ys = some r →
    ∃ a b, eqCs k1 (xs.take k1.length) (ys.take k1.length) = some a ∧ eqCs k2 (xs.drop k1.length) (ys.drop k1.length) = some b ∧ r = (a && b)
  | [], k2, xs, ys, r, h => ⟨true, r, by simp [eqCs], by simpa using h, by simp⟩
  | k :: k1, k2, xs, ys, r, h => by
    cases xs with
    | nil => simp [eqCs] at h
    | cons x xs => cases ys with
      | nil => simp [eqCs] at h
      | cons y ys =>
        simp only [List.cons_append, eqCs] at h
        split at h
        · rename_i a b h1 h2
          cases h
          obtain ⟨a', b', h3, h4, rfl⟩ := eqCs_split h2
          refine ⟨a && a', b', ?_, by simpa using h4, by rw [Bool.and_assoc]⟩
          simp only [List.length_cons, List.take_succ_cons, eqCs, h1, h3]
        · cases h

def isAggB (P : Program) (t : TypeId) : Bool := match P.underlying t with
  | some (.struct _) => true
  | some (.array _ _) => true
  | _ => false
theorem run_isAggB {P : Program} {w : World} {t : TypeId} (h : (P.underlying t).isSome = true) : (isAgg t).run P w = .ok (isAggB P t) w := by
  obtain ⟨u, hu⟩ := Option.isSome_iff_exists.1 h
  unfold isAgg isAggB
  cases u <;> simp [underlying, hu]

theorem eqAtom {P : Program} {w : World} {t : TypeId} {k : Nat} {x y : Go.Value} {r : Bool} (h : eqA k x y = some r) (m : Nat)
    (ht : (k = 0 ∧ P.underlying t = some .bool) ∨ (k = 1 ∧ ∃ q, P.underlying t = some (.int q)) ∨ (k = 2 ∧ P.underlying t = some .string)) : (Op.equalIn (m + 1) t x y).run P w = .ok r w := by
  rcases ht with ⟨rfl, ht⟩ | ⟨rfl, q, ht⟩ | ⟨rfl, ht⟩
  · cases x <;> cases y <;> simp only [eqA, Option.some.injEq, reduceCtorEq] at h
    subst h; exact run_equalIn_bool' w m t _ _ ht
  · cases x <;> cases y <;> simp only [eqA, reduceCtorEq] at h
    split at h
    · rename_i hk; subst hk; cases h; exact run_equalIn_int w m t _ q _ _ ht
    · cases h
  · cases x <;> cases y <;> simp only [eqA, Option.some.injEq, reduceCtorEq] at h
    subst h; rw [beq_toListBytes]; exact run_equalIn_string w m t _ _ ht

theorem eqFlat_ok {P : Program} {w : World} : ∀ (d : Nat) (t : TypeId) (ks : List Nat), eqFlat P d t = some ks → ∀ (xs ys : List Go.Value) (r : Bool), eqCs ks xs ys = some r → ∀ m, d ≤ m →
    (isAggB P t = true → (Op.equalIn m t (.agg xs.toArray) (.agg ys.toArray)).run P w = .ok r w) ∧ (isAggB P t = false → ∃ x y, xs = [x] ∧ ys = [y] ∧ (Op.equalIn m t x y).run P w = .ok r w) := by
  intro d
  induction d with
  | zero => intro t ks h; simp [eqFlat] at h
  | succ d ih =>
    intro t ks h xs ys r hr m hm
    obtain ⟨m, rfl⟩ : ∃ m', m = m' + 1 := ⟨m - 1, by omega⟩
    have atom : ∀ k, ks = [k] → isAggB P t = false → ((k = 0 ∧ P.underlying t = some .bool) ∨ (k = 1 ∧ ∃ q, P.underlying t = some (.int q)) ∨ (k = 2 ∧ P.underlying t = some .string)) →
        (isAggB P t = true → (Op.equalIn (m + 1) t (.agg xs.toArray) (.agg ys.toArray)).run P w = .ok r w) ∧ (isAggB P t = false → ∃ x y, xs = [x] ∧ ys = [y] ∧ (Op.equalIn (m + 1) t x y).run P w = .ok r w) := by
      rintro k rfl ha ht
      refine ⟨fun h => (by rw [ha] at h; cases h), fun _ => ?_⟩
      obtain ⟨l1, l2⟩ := eqCs_len hr
      obtain ⟨x, rfl⟩ := List.length_eq_one_iff.1 l1
      obtain ⟨y, rfl⟩ := List.length_eq_one_iff.1 l2
      simp only [eqCs] at hr
      split at hr
      · rename_i a b h1 h2
        cases h2; cases hr
        rw [Bool.and_true]
        exact ⟨x, y, rfl, rfl, eqAtom h1 m ht⟩
      · cases hr
    unfold eqFlat at h
    split at h
    · rename_i hu; cases h; exact atom 0 rfl (by simp [isAggB, hu]) (Or.inl ⟨rfl, hu⟩)
    · rename_i hu; cases h; exact atom 1 rfl (by simp [isAggB, hu]) (Or.inr (Or.inl ⟨rfl, _, hu⟩))
    · rename_i hu; cases h; exact atom 2 rfl (by simp [isAggB, hu]) (Or.inr (Or.inr ⟨rfl, hu⟩))
    · rename_i fs hu
      refine ⟨fun _ => ?_, fun h => by simp [isAggB, hu] at h⟩
      cases hs : P.stoodInHeld t
      · rw [hs] at h
        simp only [cond_false] at h
        have hf : P.fieldsOf t = fs := by simp [Program.fieldsOf, hu]
        rw [run_equalIn_struct (P := P) w m t _ _ (by rw [hf]; exact hu) hs, hf]
        have key : ∀ (fl : List Field) (off : Nat) (ks : List Nat) (r : Bool), eqFs (eqFlat P d) P off fl = some ks → eqCs ks (xs.drop off) (ys.drop off) = some r → (Op.eqFields m xs.toArray ys.toArray fl).run P w = .ok r w := by
          intro fl
          induction fl with
          | nil =>
            intro off ks r h1 h2
            simp only [eqFs, Option.some.injEq] at h1
            subst h1
            have : r = true := by
              obtain ⟨l1, l2⟩ := eqCs_len h2
              rw [List.length_eq_zero_iff.1 l1, List.length_eq_zero_iff.1 l2] at h2
              simpa [eqCs] using h2.symm
            subst this
            simp [Op.eqFields]
          | cons f fl ihf =>
            intro off ks r h1 h2
            unfold eqFs at h1
            cases hc : ((f.name == "_") || !(Nat.beq f.offset off))
            · rw [hc] at h1
              simp only [Bool.or_eq_false_iff, Bool.not_eq_false'] at hc
              obtain ⟨hn, ho⟩ := hc
              have ho := Nat.eq_of_beq_eq_true ho
              simp only [cond_false] at h1
              split at h1
              · rename_i k1 i hk1 hi
                cases hsz : Nat.beq i.size k1.length
                · rw [hsz] at h1; cases h1
                · rw [hsz] at h1
                  have hsz := Nat.eq_of_beq_eq_true hsz
                  simp only [cond_true] at h1
                  split at h1
                  · rename_i k2 hk2
                    cases h1
                    obtain ⟨a, b, ha, hb, rfl⟩ := eqCs_split h2
                    rw [List.drop_drop, List.drop_drop] at hb
                    have hrest := ihf _ _ _ hk2 hb
                    have hone := ih f.type k1 hk1 _ _ _ ha m (by omega)
                    have hsome : (P.underlying f.type).isSome = true := by
                      cases d with
                      | zero => simp [eqFlat] at hk1
                      | succ d =>
                        cases hq : P.underlying f.type with
                        | none => simp [eqFlat, hq] at hk1
                        | some _ => rfl
                    have hag := run_isAggB (w := w) hsome
                    obtain ⟨l1, l2⟩ := eqCs_len ha
                    have hn' : f.name ≠ "_" := by simpa using hn
                    have hsize : (sizeOf f.type).run P w = .ok i.size w := by simp [sizeOf, typeInfo, hi]
                    have hpart : ∀ zs : List Go.Value, ((zs.drop off).take k1.length).length = k1.length → (isAggB P f.type = true → (part f.type zs.toArray f.offset).run P w = .ok (.agg ((zs.drop off).take k1.length).toArray) w) ∧
                        (isAggB P f.type = false → ∀ z, (zs.drop off).take k1.length = [z] → (part f.type zs.toArray f.offset).run P w = .ok z w) := by
                      intro zs hzl
                      constructor
                      · intro hA
                        simp only [part, Sem.run_bind, hag, Result.andThen_ok, hA, if_true, hsize, Sem.run_pure]
                        rw [ho, hsz]
                        simp [List.extract_eq_take_drop]
                      · intro hA z hz
                        have hz0 : zs[off]? = some z := by
                          have h0 : ((zs.drop off).take k1.length)[0]? = some z := by rw [hz]; rfl
                          rw [List.getElem?_take] at h0
                          split at h0
                          · rw [List.getElem?_drop] at h0; simpa using h0
                          · cases h0
                        simp only [part, Sem.run_bind, hag, Result.andThen_ok, hA]
                        rw [ho]
                        simp [hz0]
                    rw [Op.eqFields]
                    simp only [if_pos hn', Sem.run_bind]
                    cases hA : isAggB P f.type
                    · obtain ⟨x, y, hx, hy, he⟩ := hone.2 hA
                      simp only [(hpart xs l1).2 hA x hx, (hpart ys l2).2 hA y hy, he, Result.andThen_ok]
                      cases a
                      · simp
                      · simpa using hrest
                    · have he := hone.1 hA
                      simp only [(hpart xs l1).1 hA, (hpart ys l2).1 hA, he, Result.andThen_ok]
                      cases a
                      · simp
                      · simpa using hrest
                  · cases h1
              · cases h1
            · rw [hc] at h1; cases h1
        exact key fs.toList 0 ks r h (by simpa using hr)
      · rw [hs] at h; cases h
    · rename_i n e hu
      refine ⟨fun _ => ?_, fun h => by simp [isAggB, hu] at h⟩
      have key : ∀ (k : Nat) (i : TypeInfo), P.info? e = some i → i.size = 1 → ks = List.replicate n k → 0 < d → isAggB P e = false → (P.underlying e).isSome = true → ((k = 0 ∧ P.underlying e = some .bool) ∨ (k = 1 ∧ ∃ q, P.underlying e = some (.int q)) ∨ (k = 2 ∧ P.underlying e = some .string)) →
          (Op.equalIn (m + 1) t (.agg xs.toArray) (.agg ys.toArray)).run P w = .ok r w := by
        intro k i hi hsz hks hd hA hsome ht
        rw [run_equalIn_array w m xs.toArray ys.toArray hu hi]
        have hc1 : P.cellsOf e = 1 := by simp [Program.cellsOf, hi, hsz]
        rw [hc1]
        have hag := run_isAggB (w := w) hsome
        obtain ⟨m, rfl⟩ : ∃ m', m = m' + 1 := ⟨m - 1, by omega⟩
        have go : ∀ (q o : Nat) (r : Bool), eqCs (List.replicate q k) (xs.drop o) (ys.drop o) = some r → (Op.eqItems (m + 1) e 1 xs.toArray ys.toArray (List.range' o q)).run P w = .ok r w := by
          intro q
          induction q with
          | zero =>
            intro o r hr
            have : r = true := by
              obtain ⟨l1, l2⟩ := eqCs_len hr
              simp only [List.replicate_zero, List.length_nil] at l1 l2
              rw [List.length_eq_zero_iff.1 l1, List.length_eq_zero_iff.1 l2] at hr
              simpa [eqCs] using hr.symm
            subst this
            simp [Op.eqItems]
          | succ q ihq =>
            intro o r hr
            obtain ⟨l1, l2⟩ := eqCs_len hr
            rw [List.length_replicate, List.length_drop] at l1 l2
            have hx := List.drop_eq_getElem_cons (l := xs) (i := o) (by omega)
            have hy := List.drop_eq_getElem_cons (l := ys) (i := o) (by omega)
            rw [hx, hy] at hr
            simp only [List.replicate_succ, eqCs] at hr
            split at hr
            · rename_i a b h1 h2
              cases hr
              have h3 := ihq _ _ h2
              have h4 := eqAtom (P := P) (w := w) (t := e) h1 m ht
              have hp : ∀ (zs : List Go.Value) (hz : o < zs.length), (part e zs.toArray (o * 1)).run P w = .ok zs[o] w := by
                intro zs hz
                simp [part, hag, hA, hz]
              rw [List.range'_succ]
              simp only [Op.eqItems, Sem.run_bind, hp xs (by omega), hp ys (by omega), h4, Result.andThen_ok]
              cases a
              · simp
              · simpa using h3
            · cases hr
        rw [List.range_eq_range']
        exact go n 0 r (by rw [← hks]; simpa using hr)
      split at h
      · rename_i i hue hi
        cases hc : (Nat.beq i.size 1 && Nat.blt 0 d)
        · rw [hc] at h; cases h
        · rw [hc] at h; cases h
          simp only [Bool.and_eq_true] at hc
          exact key 0 i hi (Nat.eq_of_beq_eq_true hc.1) rfl (Nat.le_of_ble_eq_true hc.2) (by simp [isAggB, hue]) (by rw [hue]; rfl) (Or.inl ⟨rfl, hue⟩)
      · rename_i q i hue hi
        cases hc : (Nat.beq i.size 1 && Nat.blt 0 d)
        · rw [hc] at h; cases h
        · rw [hc] at h; cases h
          simp only [Bool.and_eq_true] at hc
          exact key 1 i hi (Nat.eq_of_beq_eq_true hc.1) rfl (Nat.le_of_ble_eq_true hc.2) (by simp [isAggB, hue]) (by rw [hue]; rfl) (Or.inr (Or.inl ⟨rfl, _, hue⟩))
      · rename_i i hue hi
        cases hc : (Nat.beq i.size 1 && Nat.blt 0 d)
        · rw [hc] at h; cases h
        · rw [hc] at h; cases h
          simp only [Bool.and_eq_true] at hc
          exact key 2 i hi (Nat.eq_of_beq_eq_true hc.1) rfl (Nat.le_of_ble_eq_true hc.2) (by simp [isAggB, hue]) (by rw [hue]; rfl) (Or.inr (Or.inr ⟨rfl, hue⟩))
      · cases h
    · cases h

/-! ..told by our own names -/
def eqVA (x y : V) : Option (Nat × PD) := match x, y with
  | .nat a, .nat b => some (1, ⟨a = b, inferInstance⟩)
  | .str a, .str b => some (2, ⟨tl a = tl b, inferInstance⟩)
  | x, y => match asB x, asB y with
    | some ⟨p, dp⟩, some ⟨q, dq⟩ => some (0, ⟨p ↔ q, @instDecidableIff _ _ dp dq⟩)
    | _, _ => match asI x, asI y with
      | some (k, i), some (k', j) => bif decide (k = k') then some (1, ⟨i = j, inferInstance⟩) else none
      | _, _ => none
def eqVs : List V → List V → Option (List Nat × PD)
  | [], [] => some ([], ⟨True, inferInstance⟩)
  | x :: xs, y :: ys => match eqVA x y, eqVs xs ys with
    | some (k, ⟨p, dp⟩), some (ks, ⟨q, dq⟩) => some (k :: ks, ⟨p ∧ q, @instDecidableAnd _ _ dp dq⟩)
    | _, _ => none
  | _, _ => none
theorem eqVA_val {x y : V} {k : Nat} {p : PD} (h : eqVA x y = some (k, p)) : eqA k x.val y.val = some (@decide p.p p.d) := by
  unfold eqVA at h
  split at h
  · cases h
    rename_i a b
    have h2 : decide ((a : Int) = (b : Int)) = decide (a = b) := decide_eq_decide.2 Int.ofNat_inj
    show (if IntKind.i64 = IntKind.i64 then some (Int.ofNat a == Int.ofNat b) else none) = _
    rw [if_pos rfl, ← h2]
    congr 1
  · cases h
    rename_i a b
    show some (a == b) = some (decide (tl a = tl b))
    rw [beq_toListBytes, ByteArray.toList_eq, ByteArray.toList_eq]
    congr 1
    rw [Bool.eq_iff_iff, beq_iff_eq, decide_eq_true_iff]; rfl
  · split at h
    · rename_i p dp q dq h1 h2
      cases h
      rw [asB_val h1, asB_val h2]
      show some (_ == _) = _
      congr 1
      by_cases hp : p <;> by_cases hq : q <;> simp [hp, hq]
    · split at h
      · rename_i k i k' j h1 h2
        cases hd : decide (k = k')
        · rw [hd] at h; cases h
        · rw [hd] at h
          obtain rfl := of_decide_eq_true hd
          cases h
          rw [asI_val h1, asI_val h2]
          show (if k = k then some (i == j) else none) = _
          rw [if_pos rfl]
          congr 1
      · cases h
theorem eqVs_val : ∀ {xs ys : List V} {ks : List Nat} {p : PD}, eqVs xs ys = some (ks, p) → eqCs ks (V.vals xs) (V.vals ys) = some (@decide p.p p.d)
  | [], [], ks, p, h => by cases h; rfl
  | x :: xs, y :: ys, ks, p, h => by
    unfold eqVs at h
    split at h
    · rename_i k p dp ks q dq h1 h2
      cases h
      simp only [V.vals, eqCs, eqVA_val h1, eqVs_val h2]
      by_cases hp : p <;> by_cases hq : q <;> simp [hp, hq]
    · cases h
  | [], _ :: _, _, _, h => by simp [eqVs] at h
  | _ :: _, [], _, _, h => by simp [eqVs] at h

section
variable {C : Cx} {e : Env}
theorem pv_eq {x y : Operand} {xs ys : List V} {ks : List Nat} {p : PD} {t t' : TypeId} (hx : ev e x = some (.agg (V.vals xs).toArray)) (hy : ev e y = some (.agg (V.vals ys).toArray)) (h : eqVs xs ys = some (ks, p))
    (hf : eqFlat C.P 8 t = some ks) (hg : C.P.eqGuardType C.P.depth t = false) (hA : isAggB C.P t = true) :
    PV C e (.binOp .eql t x y t') (.bool (@decide p.p p.d)) ∧ PV C e (.binOp .neq t x y t') (.bool (@decide (¬ p.p) (@instDecidableNot _ p.d))) := by
  have hq : ∀ w, (Op.equalIn 10000 t (.agg (V.vals xs).toArray) (.agg (V.vals ys).toArray)).run C.P w = .ok (@decide p.p p.d) w := fun w => (eqFlat_ok 8 t ks hf _ _ _ (eqVs_val h) 10000 (by decide)).1 hA
  constructor <;> refine ⟨fun o d w ho ok => ?_⟩
  · simp only [execOp, ho, ok.eval hx, ok.eval hy, Sem.run_bind, run_eqGuard_agg _ _ _ _ _ _ _ hg, Result.andThen_ok, run_eql_struct, hq, Sem.run_pure]
  · simp only [execOp, ho, ok.eval hx, ok.eval hy, Sem.run_bind, run_eqGuard_agg _ _ _ _ _ _ _ hg, Result.andThen_ok, run_neq_struct, hq, Sem.run_pure]
    simp
end
end Go.Fl

namespace Go.Fl
open Go.Proofs Go.RowKit
set_option maxRecDepth 10000
set_option maxHeartbeats 1000000

def isNilV : V → Option Bool
  | .ifc _ _ => some false
  | .raw .nilIface => some true
  | .raw (.iface _ _) => some false
  | _ => none
def isConstNil : Operand → Bool
  | .const .nilIface => true
  | _ => false
def isConstNilS : Operand → Bool
  | .const (.slice none 0 0) => true
  | _ => false
def isNilS : V → Option Bool
  | .sl _ _ _ _ _ _ _ _ => some false
  | .raw (.slice none _ _) => some true
  | _ => none
def lgV : List V → Nat → Option V
  | [], _ => none
  | v :: _, 0 => some v
  | _ :: l, n + 1 => lgV l n
theorem lgV_val : ∀ (l : List V) (i : Nat) (v : V), lgV l i = some v → lget (V.vals l) i = some v.val
  | [], i, v, h => by simp [lgV] at h
  | u :: l, 0, v, h => by simp only [lgV, Option.some.injEq] at h; subst h; rfl
  | u :: l, i + 1, v, h => lgV_val l i v h
def takeL : Nat → List V → Option (List V)
  | 0, _ => some []
  | n + 1, v :: l => match takeL n l with
    | some r => some (v :: r)
    | none => none
  | _ + 1, [] => none
theorem takeL_eq : ∀ (n : Nat) (l r : List V), takeL n l = some r → r = l.take n ∧ r.length = n
  | 0, l, r, h => by simp only [takeL, Option.some.injEq] at h; subst h; exact ⟨by simp, rfl⟩
  | n + 1, [], r, h => by simp [takeL] at h
  | n + 1, v :: l, r, h => by
    unfold takeL at h
    split at h
    · rename_i r' hr
      cases h
      obtain ⟨h1, h2⟩ := takeL_eq n l r' hr
      exact ⟨by rw [List.take_succ_cons, ← h1], by rw [List.length_cons, h2]⟩
    · cases h
/-- The value of such a shape at the beginning of these cells. -/
def takeV : Option Nat → List V → Option V
  | none, v :: _ => some v
  | none, [] => none
  | some n, l => match takeL n l with
    | some r => some (.agg r)
    | none => none
/-- An index: what is asked of it, and the number. -/
def asIx : V → Option (Prop × Nat)
  | .nat n => some (True, n)
  | .int _ i => some (0 ≤ i, i.toNat)
  | _ => none
theorem asIx_val {v : V} {p : Prop} {j : Nat} (h : asIx v = some (p, j)) (hp : p) : ∃ k, v.val = .int k (Int.ofNat j) := by
  cases v <;> simp only [asIx, Option.some.injEq, Prod.mk.injEq, reduceCtorEq] at h
  · obtain ⟨rfl, rfl⟩ := h; exact ⟨_, rfl⟩
  · rename_i k i
    obtain ⟨rfl, rfl⟩ := h
    refine ⟨k, ?_⟩
    show Go.Value.int _ _ = _
    rw [Int.ofNat_eq_natCast, Int.toNat_of_nonneg hp]
def evParV (e : VEnv) : List (Nat × Operand) → Option (List (Nat × V))
  | [] => some []
  | (i, x) :: r => match evV e x, evParV e r with
    | some v, some vs => some ((i, v) :: vs)
    | _, _ => none
theorem evPar_re {e : VEnv} : ∀ {ps : List (Nat × Operand)} {vs : List (Nat × V)}, evParV e ps = some vs → evParts (rE e) ps = some (vs.map fun x => (x.1, x.2.val))
  | [], vs, h => by simp only [evParV, Option.some.injEq] at h; subst h; rfl
  | (i, x) :: ps, vs, h => by
    unfold evParV at h
    split at h
    · rename_i v vs' h1 h2
      cases h
      simp only [evParts, ev_re h1, evPar_re h2, List.map_cons]
    · cases h
def layV : List V → Nat → List V → List V
  | c, _, [] => c
  | c, 0, v :: vs => match c with
    | [] => []
    | _ :: c => v :: layV c 0 vs
  | c, o + 1, v :: vs => match c with
    | [] => []
    | x :: c => x :: layV c o (v :: vs)
theorem layV_val : ∀ (c : List V) (o : Nat) (vs : List V), V.vals (layV c o vs) = (lay (V.vals c).toArray o (V.vals vs)).toList
  | c, o, [] => by simp [layV, lay, V.vals]
  | [], 0, v :: vs => by
    have : ∀ (l : List Go.Value) o, lay (#[] : Array Go.Value) o l = #[] := by intro l; induction l with | nil => intro o; rfl | cons x l ih => intro o; rw [lay]; exact ih _
    simp [layV, V.vals, this]
  | [], o + 1, v :: vs => by
    have : ∀ (l : List Go.Value) o, lay (#[] : Array Go.Value) o l = #[] := by intro l; induction l with | nil => intro o; rfl | cons x l ih => intro o; rw [lay]; exact ih _
    simp [layV, V.vals, this]
  | x :: c, 0, v :: vs => by
    have h := layV_val c 0 vs
    have key : ∀ (l : List Go.Value) (u : Go.Value) (a : List Go.Value) (o : Nat), (lay (u :: a).toArray (o + 1) l).toList = u :: (lay a.toArray o l).toList := by
      intro l
      induction l with
      | nil => intro u a o; rfl
      | cons y l ih => intro u a o; simp only [lay, List.setIfInBounds_toArray, List.set_cons_succ]; exact ih _ _ _
    simp only [layV, V.vals, lay, List.setIfInBounds_toArray, List.set_cons_zero]
    rw [key, h]
  | x :: c, o + 1, v :: vs => by
    have h := layV_val c o (v :: vs)
    have key : ∀ (l : List Go.Value) (u : Go.Value) (a : List Go.Value) (o : Nat), (lay (u :: a).toArray (o + 1) l).toList = u :: (lay a.toArray o l).toList := by
      intro l
      induction l with
      | nil => intro u a o; rfl
      | cons y l ih => intro u a o; simp only [lay, List.setIfInBounds_toArray, List.set_cons_succ]; exact ih _ _ _
    simp only [layV]
    rw [V.vals, h]
    simp only [V.vals]
    rw [key]
def layPV (tb : Tab) (s : TypeId) (c : List V) : List (Nat × V) → Option (List V)
  | [] => some c
  | (i, v) :: r => match fieldL tb s i with
    | some (o, ft) => match sizeL tb ft with
      | some n => bif Nat.beq (cellsV v).length n && Nat.ble (o + n) c.length then layPV tb s (layV c o (cellsV v)) r else none
      | none => none
    | none => none
theorem layPV_val {tb : Tab} {s : TypeId} : ∀ (ps : List (Nat × V)) (c c' : List V), layPV tb s c ps = some c' → layParts tb s (V.vals c).toArray (ps.map fun x => (x.1, x.2.val)) = some (V.vals c').toArray
  | [], c, c', h => by simp only [layPV, Option.some.injEq] at h; subst h; rfl
  | (i, v) :: r, c, c', h => by
    unfold layPV at h
    split at h
    · rename_i o ft hf
      split at h
      · rename_i n hn
        cases hb : (Nat.beq (cellsV v).length n && Nat.ble (o + n) c.length)
        · rw [hb] at h; cases h
        · rw [hb] at h
          have ih := layPV_val r _ _ h
          simp only [List.map_cons, layParts, hf, hn]
          have e1 : v.val.cells.size = (cellsV v).length := by rw [← Array.length_toList, cells_val, vals_length]
          have e2 : (V.vals c).toArray.size = c.length := by simp [vals_length]
          rw [e1, e2, hb, cells_val]
          simp only [cond_true]
          rw [layV_val] at ih
          simpa using ih
      · cases h
    · cases h
def buildV (tb : Tab) (s : TypeId) (ps : List (Nat × V)) : Option V := match zeroL tb s with
  | some z => match layPV tb s (cellsV (V.raw z)) ps with
    | some c => some (.agg c)
    | none => none
  | none => none
theorem buildV_val {tb : Tab} {s : TypeId} {ps : List (Nat × V)} {v : V} (h : buildV tb s ps = some v) : buildL tb s (ps.map fun x => (x.1, x.2.val)) = some v.val := by
  unfold buildV at h
  unfold buildL
  split at h
  · rename_i z hz
    split at h
    · rename_i c hc
      cases h
      have := layPV_val ps _ _ hc
      rw [← cells_val] at this
      have e : (V.raw z).val.cells.toList.toArray = z.cells := by simp [V.val]
      rw [e] at this
      simp only [hz, this, Option.map_some, V.val]
    · cases h
  · cases h

def lenV : V → Option (Nat × Nat)
  | .sl _ _ _ _ _ _ n _ => some (1, n)
  | .raw (.slice _ n _) => some (1, n)
  | .str s => some (2, s.size)
  | _ => none

/-- An end of a slice. -/
def ixO (e : VEnv) (dflt : Nat) : Option Operand → Option (Prop × Nat)
  | none => some (True, dflt)
  | some x => match evV e x with
    | some v => asIx v
    | none => none
def ixIs (e : Env) (j dflt : Nat) : Option Operand → Prop
  | some o => ∃ kd, ev e o = some (.int kd (Int.ofNat j))
  | none => j = dflt
theorem ixO_val {e : VEnv} {dflt : Nat} {x : Option Operand} {p : Prop} {j : Nat} (h : ixO e dflt x = some (p, j)) (hp : p) : ixIs (rE e) j dflt x := by
  cases x with
  | none => simp only [ixO, Option.some.injEq, Prod.mk.injEq] at h; exact h.2.symm
  | some o =>
    simp only [ixO] at h
    split at h
    · rename_i v hv
      obtain ⟨k, hk⟩ := asIx_val h hp
      exact ⟨k, by rw [ev_re hv, hk]⟩
    · cases h

def addSt : Option Nat → Nat → Option Nat
  | none, i => some i
  | some n, i => some (n + i)
def ixSt : Option Nat → Nat → Nat
  | none, j => j
  | some n, j => n + j
theorem addSt_eq (a : Option Nat) (i : Nat) : stN (addSt a i) = stN a + i := by cases a <;> simp [addSt, stN]
theorem ixSt_eq (a : Option Nat) (i : Nat) : ixSt a i = stN a + i := by cases a <;> simp [ixSt, stN]

/-- What it gives, and what is asked for it. -/
def opV (P : Program) (tb : Tab) (e : VEnv) : Op → Option (V × Option Prop)
  | .move x | .assign x => match evV e x with
    | some v => some (v, none)
    | none => none
  | .pick c x y => match evV e c with
    | some (.bl true) => match evV e x with
      | some v => some (v, none)
      | none => none
    | some (.bl false) => match evV e y with
      | some v => some (v, none)
      | none => none
    | some (.bd p d) => match evV e x, evV e y with
      | some a, some (.bl false) => match asB a with
        | some ⟨q, dq⟩ => some (.bd (p ∧ q) (@instDecidableAnd _ _ d dq), none)
        | none => none
      | some (.bl true), some b => match asB b with
        | some ⟨q, dq⟩ => some (.bd (p ∨ q) (@instDecidableOr _ _ d dq), none)
        | none => none
      | _, _ => none
    | _ => none
  | .nilCheck x => match evV e x with
    | some (.ptr o k b o0 sz i off) => some (.ptr o k b o0 sz i off, none)
    | _ => none
  | .unOp .not _ x => match evV e x with
    | some (.bl b) => some (.bl (!b), none)
    | some (.bd p d) => some (.bd (¬ p) (@instDecidableNot p d), none)
    | _ => none
  | .unOp .neg _ x => match evV e x with
    | some v => match asI v with
      | some (k, i) => some (arI k (-i))
      | none => none
    | none => none
  | .extract x i => match evV e x with
    | some (.tup vs) => match lgV vs i with
      | some v => some (v, none)
      | none => none
    | _ => none
  | .binOp op t x y _ => match evV e x, evV e y with
    | some (.nat a), some (.nat b) => binN op a b
    | some (.str a), some (.str b) => strS op a b
    | some (.agg xs), some (.agg ys) => match eqVs xs ys, op with
      | some (ks, ⟨p, dp⟩), .eql => some (.bd p dp, some (eqFlat P 8 t = some ks ∧ P.eqGuardType P.depth t = false ∧ isAggB P t = true))
      | some (ks, ⟨p, dp⟩), .neq => some (.bd (¬ p) (@instDecidableNot _ dp), some (eqFlat P 8 t = some ks ∧ P.eqGuardType P.depth t = false ∧ isAggB P t = true))
      | _, _ => none
    | some a, some b => match asI a, asI b with
      | some (k, i), some (k', j) => bif decide (k = k') then binI op k i j else none
      | _, _ => match asB a, asB b with
        | some p, some q => match binB op p q with
          | some v => some (v, some (P.underlying t = some .bool))
          | none => none
        | _, _ => bif isConstNil y then (match isNilV a, kindL tb t, op with
            | some r, some 5, .eql => some (.bl r, none)
            | some r, some 5, .neq => some (.bl (!r), none)
            | _, _, _ => none)
          else bif isConstNilS y then (match isNilS a, kindL tb t, op with
            | some r, some 1, .eql => some (.bl r, none)
            | some r, some 1, .neq => some (.bl (!r), none)
            | _, _, _ => none)
          else none
    | _, _ => none
  | .call { callee := .builtin .len, args := xs, argTypes := ts } => match xs.toList, ts.toList with
    | [x], [t] => match evV e x with
      | some v => match lenV v, kindL tb t with
        | some (k, n), some k' => bif Nat.beq k k' then some (.nat n, none) else none
        | _, _ => none
      | none => none
    | _, _ => none
  | .call { callee := .builtin .cap, args := xs, argTypes := ts } => match xs.toList, ts.toList with
    | [x], [t] => match evV e x, kindL tb t with
      | some (.sl _ _ _ _ _ _ _ c), some 1 => some (.nat c, none)
      | _, _ => none
    | _, _ => none
  | .index t x i => match evV e x, kindL tb t with
    | some (.str s), some 2 => match evV e i with
      | some iv => match asIx iv with
        | some (p, j) => some (.int .u8 (((tl s).getD j 0).toNat : Int), some (p ∧ j < s.size))
        | none => none
      | none => none
    | _, _ => none
  | .slice t x lo hi none => match evV e x with
    | some (.str s) => match ixO e 0 lo, ixO e s.size hi, kindL tb t with
      | some (p, i), some (q, j), some 2 => some (.str (s.extract i j), some ((p ∧ q) ∧ i ≤ j ∧ j ≤ s.size))
      | _, _, _ => none
    | some (.sl o k b o0 sz i0 n c) => match lo with
      | none => match ixO e n hi, elemL tb t with
        | some (q, j), some (_, sz') => bif Nat.beq sz sz' then some (.sl o k b o0 sz i0 j c, some (q ∧ j ≤ c)) else none
        | _, _ => none
      | some l => match ixO e 0 (some l), ixO e n hi, elemL tb t with
        | some (p, i), some (q, j), some (_, sz') => bif Nat.beq sz sz' then (match i0 with
          | none => some (.sl o k b o0 sz (some i) (j - i) (c - i), some ((p ∧ q) ∧ i ≤ j ∧ j ≤ c ∧ (c ≠ i ∨ i = 0)))
          | some m => some (.sl o k b o0 sz (some (m + i)) (j - i) (c - i), some ((p ∧ q) ∧ i ≤ j ∧ j ≤ c ∧ (c ≠ i ∨ i = 0)))) else none
        | _, _, _ => none
    | _ => none
  | .convert s t x => match evV e x, ikL tb t, tget tb s with
    | some (.nat n), some .i64, some _ => some (.nat n, some (n ≤ 9223372036854775807))
    | some v, some k, some _ => match asI v with
      | some (_, i) => some (arI k i)
      | none => none
    | _, _, _ => none
  | .makeInterface t x => match evV e x, kindL tb t with
    | some v, some n => bif Nat.beq n 5 || Nat.beq n 0 then none else some (.ifc t v, none)
    | _, _ => none
  | .fieldAddr s x f => match evV e x, fieldL tb s f with
    | some (.ptr o k b o0 sz i off), some (j, _) => some (.ptr o k b o0 sz i (off + j), none)
    | _, _ => none
  | .indexAddr t x i => match evV e x, evV e i, elemL tb t with
    | some (.sl o k b o0 sz i0 n _), some iv, some (_, sz') => bif Nat.beq sz sz' then (match asIx iv with
        | some (p, j) => (match i0 with
          | none => some (.ptr o k b o0 sz j 0, some (p ∧ j < n))
          | some m => some (.ptr o k b o0 sz (m + j) 0, some (p ∧ j < n)))
        | none => none) else none
    | _, _, _ => none
  | .field s x f => match evV e x, fieldL tb s f with
    | some (.agg vs), some (o, ft) => match shapeL tb ft with
      | some sh => match takeV sh (vs.drop o) with
        | some v => some (v, none)
        | none => none
      | none => none
    | _, _ => none
  | .build s parts => match evParV e parts.toList, kindL tb s, tget tb s with
    | some ps, some 6, some ⟨_, _, _, _, _, _, _, _ :: _⟩ => bif allFields tb s then (match buildV tb s ps with
        | some v => some (v, none)
        | none => none) else none
    | _, _, _ => none
  | .makeFunc (.func f) first cap => match evVs e first.toList, evVs e cap.toList with
    | some a, some b => some (.fn f a b, none)
    | _, _ => none
  | _ => none
end Go.Fl
