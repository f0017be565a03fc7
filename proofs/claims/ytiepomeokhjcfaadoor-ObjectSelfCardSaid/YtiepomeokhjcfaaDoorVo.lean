/-
  Values told by names of our own: what the operations that only reckon give. No condition.
-/
import Derived.Test.YtiepomeokhjcfaaDoorVe
namespace Go.Fl
open Go.Proofs Go.RowKit
set_option maxRecDepth 10000
set_option maxHeartbeats 1000000

def isNilV : V → Option Bool
  | .ifc _ _ => some false
  | .raw .nilIface => some true
  | .raw (.iface _ _) => some false
  | _ => none
def isConstNil : Operand → Bool
  | .const .nilIface => true
  | _ => false
def isConstNilS : Operand → Bool
  | .const (.slice none 0 0) => true
  | _ => false
def isNilS : V → Option Bool
  | .sl _ _ _ _ _ _ _ _ => some false
  | .raw (.slice none _ _) => some true
  | _ => none
def lgV : List V → Nat → Option V
  | [], _ => none
  | v :: _, 0 => some v
  | _ :: l, n + 1 => lgV l n
theorem lgV_val : ∀ (l : List V) (i : Nat) (v : V), lgV l i = some v → lget (V.vals l) i = some v.val
  | [], i, v, h => by simp [lgV] at h
  | u :: l, 0, v, h => by simp only [lgV, Option.some.injEq] at h; subst h; rfl
  | u :: l, i + 1, v, h => lgV_val l i v h
def takeL : Nat → List V → Option (List V)
  | 0, _ => some []
  | n + 1, v :: l => match takeL n l with
    | some r => some (v :: r)
    | none => none
  | _ + 1, [] => none
theorem takeL_eq : ∀ (n : Nat) (l r : List V), takeL n l = some r → r = l.take n ∧ r.length = n
  | 0, l, r, h => by simp only [takeL, Option.some.injEq] at h; subst h; exact ⟨by simp, rfl⟩
  | n + 1, [], r, h => by simp [takeL] at h
  | n + 1, v :: l, r, h => by
    unfold takeL at h
    split at h
    · rename_i r' hr
      cases h
      obtain ⟨h1, h2⟩ := takeL_eq n l r' hr
      exact ⟨by rw [List.take_succ_cons, ← h1], by rw [List.length_cons, h2]⟩
    · cases h
/-- The value of such a shape at the beginning of these cells. -/
def takeV : Option Nat → List V → Option V
  | none, v :: _ => some v
  | none, [] => none
  | some n, l => match takeL n l with
    | some r => some (.agg r)
    | none => none
/-- An index: what is asked of it, and the number. -/
def asIx : V → Option (Prop × Nat)
  | .nat n => some (True, n)
  | .int _ i => some (0 ≤ i, i.toNat)
  | _ => none
theorem asIx_val {v : V} {p : Prop} {j : Nat} (h : asIx v = some (p, j)) (hp : p) : ∃ k, v.val = .int k (Int.ofNat j) := by
  cases v <;> simp only [asIx, Option.some.injEq, Prod.mk.injEq, reduceCtorEq] at h
  · obtain ⟨rfl, rfl⟩ := h; exact ⟨_, rfl⟩
  · rename_i k i
    obtain ⟨rfl, rfl⟩ := h
    refine ⟨k, ?_⟩
    show Go.Value.int _ _ = _
    rw [Int.ofNat_eq_natCast, Int.toNat_of_nonneg hp]
def evParV (e : VEnv) : List (Nat × Operand) → Option (List (Nat × V))
  | [] => some []
  | (i, x) :: r => match evV e x, evParV e r with
    | some v, some vs => some ((i, v) :: vs)
    | _, _ => none
theorem evPar_re {e : VEnv} : ∀ {ps : List (Nat × Operand)} {vs : List (Nat × V)}, evParV e ps = some vs → evParts (rE e) ps = some (vs.map fun x => (x.1, x.2.val))
  | [], vs, h => by simp only [evParV, Option.some.injEq] at h; subst h; rfl
  | (i, x) :: ps, vs, h => by
    unfold evParV at h
    split at h
    · rename_i v vs' h1 h2
      cases h
      simp only [evParts, ev_re h1, evPar_re h2, List.map_cons]
    · cases h
def layV : List V → Nat → List V → List V
  | c, _, [] => c
  | c, 0, v :: vs => match c with
    | [] => []
    | _ :: c => v :: layV c 0 vs
  | c, o + 1, v :: vs => match c with
    | [] => []
    | x :: c => x :: layV c o (v :: vs)
theorem layV_val : ∀ (c : List V) (o : Nat) (vs : List V), V.vals (layV c o vs) = (lay (V.vals c).toArray o (V.vals vs)).toList
  | c, o, [] => by simp [layV, lay, V.vals]
  | [], 0, v :: vs => by
    have : ∀ (l : List Go.Value) o, lay (#[] : Array Go.Value) o l = #[] := by intro l; induction l with | nil => intro o; rfl | cons x l ih => intro o; rw [lay]; exact ih _
    simp [layV, V.vals, this]
  | [], o + 1, v :: vs => by
    have : ∀ (l : List Go.Value) o, lay (#[] : Array Go.Value) o l = #[] := by intro l; induction l with | nil => intro o; rfl | cons x l ih => intro o; rw [lay]; exact ih _
    simp [layV, V.vals, this]
  | x :: c, 0, v :: vs => by
    have h := layV_val c 0 vs
    have key : ∀ (l : List Go.Value) (u : Go.Value) (a : List Go.Value) (o : Nat), (lay (u :: a).toArray (o + 1) l).toList = u :: (lay a.toArray o l).toList := by
      intro l
      induction l with
      | nil => intro u a o; rfl
      | cons y l ih => intro u a o; simp only [lay, List.setIfInBounds_toArray, List.set_cons_succ]; exact ih _ _ _
    simp only [layV, V.vals, lay, List.setIfInBounds_toArray, List.set_cons_zero]
    rw [key, h]
  | x :: c, o + 1, v :: vs => by
    have h := layV_val c o (v :: vs)
    have key : ∀ (l : List Go.Value) (u : Go.Value) (a : List Go.Value) (o : Nat), (lay (u :: a).toArray (o + 1) l).toList = u :: (lay a.toArray o l).toList := by
      intro l
      induction l with
      | nil => intro u a o; rfl
      | cons y l ih => intro u a o; simp only [lay, List.setIfInBounds_toArray, List.set_cons_succ]; exact ih _ _ _
    simp only [layV]
    rw [V.vals, h]
    simp only [V.vals]
    rw [key]
def layPV (tb : Tab) (s : TypeId) (c : List V) : List (Nat × V) → Option (List V)
  | [] => some c
  | (i, v) :: r => match fieldL tb s i with
    | some (o, ft) => match sizeL tb ft with
      | some n => bif Nat.beq (cellsV v).length n && Nat.ble (o + n) c.length then layPV tb s (layV c o (cellsV v)) r else none
      | none => none
    | none => none
theorem layPV_val {tb : Tab} {s : TypeId} : ∀ (ps : List (Nat × V)) (c c' : List V), layPV tb s c ps = some c' → layParts tb s (V.vals c).toArray (ps.map fun x => (x.1, x.2.val)) = some (V.vals c').toArray
  | [], c, c', h => by simp only [layPV, Option.some.injEq] at h; subst h; rfl
  | (i, v) :: r, c, c', h => by
    unfold layPV at h
    split at h
    · rename_i o ft hf
      split at h
      · rename_i n hn
        cases hb : (Nat.beq (cellsV v).length n && Nat.ble (o + n) c.length)
        · rw [hb] at h; cases h
        · rw [hb] at h
          have ih := layPV_val r _ _ h
          simp only [List.map_cons, layParts, hf, hn]
          have e1 : v.val.cells.size = (cellsV v).length := by rw [← Array.length_toList, cells_val, vals_length]
          have e2 : (V.vals c).toArray.size = c.length := by simp [vals_length]
          rw [e1, e2, hb, cells_val]
          simp only [cond_true]
          rw [layV_val] at ih
          simpa using ih
      · cases h
    · cases h
def buildV (tb : Tab) (s : TypeId) (ps : List (Nat × V)) : Option V := match zeroL tb s with
  | some z => match layPV tb s (cellsV (V.raw z)) ps with
    | some c => some (.agg c)
    | none => none
  | none => none
theorem buildV_val {tb : Tab} {s : TypeId} {ps : List (Nat × V)} {v : V} (h : buildV tb s ps = some v) : buildL tb s (ps.map fun x => (x.1, x.2.val)) = some v.val := by
  unfold buildV at h
  unfold buildL
  split at h
  · rename_i z hz
    split at h
    · rename_i c hc
      cases h
      have := layPV_val ps _ _ hc
      rw [← cells_val] at this
      have e : (V.raw z).val.cells.toList.toArray = z.cells := by simp [V.val]
      rw [e] at this
      simp only [hz, this, Option.map_some, V.val]
    · cases h
  · cases h

def lenV : V → Option (Nat × Nat)
  | .sl _ _ _ _ _ _ n _ => some (1, n)
  | .raw (.slice _ n _) => some (1, n)
  | .str s => some (2, s.size)
  | _ => none

/-- An end of a slice. -/
def ixO (e : VEnv) (dflt : Nat) : Option Operand → Option (Prop × Nat)
  | none => some (True, dflt)
  | some x => match evV e x with
    | some v => asIx v
    | none => none
def ixIs (e : Env) (j dflt : Nat) : Option Operand → Prop
  | some o => ∃ kd, ev e o = some (.int kd (Int.ofNat j))
  | none => j = dflt
theorem ixO_val {e : VEnv} {dflt : Nat} {x : Option Operand} {p : Prop} {j : Nat} (h : ixO e dflt x = some (p, j)) (hp : p) : ixIs (rE e) j dflt x := by
  cases x with
  | none => simp only [ixO, Option.some.injEq, Prod.mk.injEq] at h; exact h.2.symm
  | some o =>
    simp only [ixO] at h
    split at h
    · rename_i v hv
      obtain ⟨k, hk⟩ := asIx_val h hp
      exact ⟨k, by rw [ev_re hv, hk]⟩
    · cases h

def addSt : Option Nat → Nat → Option Nat
  | none, i => some i
  | some n, i => some (n + i)
def ixSt : Option Nat → Nat → Nat
  | none, j => j
  | some n, j => n + j
theorem addSt_eq (a : Option Nat) (i : Nat) : stN (addSt a i) = stN a + i := by cases a <;> simp [addSt, stN]
theorem ixSt_eq (a : Option Nat) (i : Nat) : ixSt a i = stN a + i := by cases a <;> simp [ixSt, stN]

/-- What it gives, and what is asked for it. -/
def opV (P : Program) (tb : Tab) (e : VEnv) : Op → Option (V × Option Prop)
  | .move x | .assign x => match evV e x with
    | some v => some (v, none)
    | none => none
  | .pick c x y => match evV e c with
    | some (.bl true) => match evV e x with
      | some v => some (v, none)
      | none => none
    | some (.bl false) => match evV e y with
      | some v => some (v, none)
      | none => none
    | some (.bd p d) => match evV e x, evV e y with
      | some a, some (.bl false) => match asB a with
        | some ⟨q, dq⟩ => some (.bd (p ∧ q) (@instDecidableAnd _ _ d dq), none)
        | none => none
      | some (.bl true), some b => match asB b with
        | some ⟨q, dq⟩ => some (.bd (p ∨ q) (@instDecidableOr _ _ d dq), none)
        | none => none
      | _, _ => none
    | _ => none
  | .nilCheck x => match evV e x with
    | some (.ptr o k b o0 sz i off) => some (.ptr o k b o0 sz i off, none)
    | _ => none
  | .unOp .not _ x => match evV e x with
    | some (.bl b) => some (.bl (!b), none)
    | some (.bd p d) => some (.bd (¬ p) (@instDecidableNot p d), none)
    | _ => none
  | .unOp .neg _ x => match evV e x with
    | some v => match asI v with
      | some (k, i) => some (arI k (-i))
      | none => none
    | none => none
  | .extract x i => match evV e x with
    | some (.tup vs) => match lgV vs i with
      | some v => some (v, none)
      | none => none
    | _ => none
  | .binOp op t x y _ => match evV e x, evV e y with
    | some (.nat a), some (.nat b) => binN op a b
    | some (.str a), some (.str b) => strS op a b
    | some (.agg xs), some (.agg ys) => match eqVs xs ys, op with
      | some (ks, ⟨p, dp⟩), .eql => some (.bd p dp, some (eqFlat P 8 t = some ks ∧ P.eqGuardType P.depth t = false ∧ isAggB P t = true))
      | some (ks, ⟨p, dp⟩), .neq => some (.bd (¬ p) (@instDecidableNot _ dp), some (eqFlat P 8 t = some ks ∧ P.eqGuardType P.depth t = false ∧ isAggB P t = true))
      | _, _ => none
    | some a, some b => match asI a, asI b with
      | some (k, i), some (k', j) => bif decide (k = k') then binI op k i j else none
      | _, _ => match asB a, asB b with
        | some p, some q => match binB op p q with
          | some v => some (v, some (P.underlying t = some .bool))
          | none => none
        | _, _ => bif isConstNil y then (match isNilV a, kindL tb t, op with
            | some r, some 5, .eql => some (.bl r, none)
            | some r, some 5, .neq => some (.bl (!r), none)
            | _, _, _ => none)
          else bif isConstNilS y then (match isNilS a, kindL tb t, op with
            | some r, some 1, .eql => some (.bl r, none)
            | some r, some 1, .neq => some (.bl (!r), none)
            | _, _, _ => none)
          else none
    | _, _ => none
  | .call { callee := .builtin .len, args := xs, argTypes := ts } => match xs.toList, ts.toList with
    | [x], [t] => match evV e x with
      | some v => match lenV v, kindL tb t with
        | some (k, n), some k' => bif Nat.beq k k' then some (.nat n, none) else none
        | _, _ => none
      | none => none
    | _, _ => none
  | .call { callee := .builtin .cap, args := xs, argTypes := ts } => match xs.toList, ts.toList with
    | [x], [t] => match evV e x, kindL tb t with
      | some (.sl _ _ _ _ _ _ _ c), some 1 => some (.nat c, none)
      | _, _ => none
    | _, _ => none
  | .index t x i => match evV e x, kindL tb t with
    | some (.str s), some 2 => match evV e i with
      | some iv => match asIx iv with
        | some (p, j) => some (.int .u8 (((tl s).getD j 0).toNat : Int), some (p ∧ j < s.size))
        | none => none
      | none => none
    | _, _ => none
  | .slice t x lo hi none => match evV e x with
    | some (.str s) => match ixO e 0 lo, ixO e s.size hi, kindL tb t with
      | some (p, i), some (q, j), some 2 => some (.str (s.extract i j), some ((p ∧ q) ∧ i ≤ j ∧ j ≤ s.size))
      | _, _, _ => none
    | some (.sl o k b o0 sz i0 n c) => match lo with
      | none => match ixO e n hi, elemL tb t with
        | some (q, j), some (_, sz') => bif Nat.beq sz sz' then some (.sl o k b o0 sz i0 j c, some (q ∧ j ≤ c)) else none
        | _, _ => none
      | some l => match ixO e 0 (some l), ixO e n hi, elemL tb t with
        | some (p, i), some (q, j), some (_, sz') => bif Nat.beq sz sz' then (match i0 with
          | none => some (.sl o k b o0 sz (some i) (j - i) (c - i), some ((p ∧ q) ∧ i ≤ j ∧ j ≤ c ∧ (c ≠ i ∨ i = 0)))
          | some m => some (.sl o k b o0 sz (some (m + i)) (j - i) (c - i), some ((p ∧ q) ∧ i ≤ j ∧ j ≤ c ∧ (c ≠ i ∨ i = 0)))) else none
        | _, _, _ => none
    | _ => none
  | .convert s t x => match evV e x, ikL tb t, tget tb s with
    | some (.nat n), some .i64, some _ => some (.nat n, some (n ≤ 9223372036854775807))
    | some v, some k, some _ => match asI v with
      | some (_, i) => some (arI k i)
      | none => none
    | _, _, _ => none
  | .makeInterface t x => match evV e x, kindL tb t with
    | some v, some n => bif Nat.beq n 5 || Nat.beq n 0 then none else some (.ifc t v, none)
    | _, _ => none
  | .fieldAddr s x f => match evV e x, fieldL tb s f with
    | some (.ptr o k b o0 sz i off), some (j, _) => some (.ptr o k b o0 sz i (off + j), none)
    | _, _ => none
  | .indexAddr t x i => match evV e x, evV e i, elemL tb t with
    | some (.sl o k b o0 sz i0 n _), some iv, some (_, sz') => bif Nat.beq sz sz' then (match asIx iv with
        | some (p, j) => (match i0 with
          | none => some (.ptr o k b o0 sz j 0, some (p ∧ j < n))
          | some m => some (.ptr o k b o0 sz (m + j) 0, some (p ∧ j < n)))
        | none => none) else none
    | _, _, _ => none
  | .field s x f => match evV e x, fieldL tb s f with
    | some (.agg vs), some (o, ft) => match shapeL tb ft with
      | some sh => match takeV sh (vs.drop o) with
        | some v => some (v, none)
        | none => none
      | none => none
    | _, _ => none
  | .build s parts => match evParV e parts.toList, kindL tb s, tget tb s with
    | some ps, some 6, some ⟨_, _, _, _, _, _, _, _ :: _⟩ => bif allFields tb s then (match buildV tb s ps with
        | some v => some (v, none)
        | none => none) else none
    | _, _, _ => none
  | .makeFunc (.func f) first cap => match evVs e first.toList, evVs e cap.toList with
    | some a, some b => some (.fn f a b, none)
    | _, _ => none
  | _ => none
end Go.Fl
