/-
  The rules of the single operations, each a lemma about the model. No condition.
-/
import Derived.Test.YtiepomeokhjcfaaGreatDoorCore
import Derived.IntWalk
import Derived.Lib.Strings
namespace Go.Fl
open Go.RowKit

/-! ### what the program's tables say, as closed facts -/
def isFn (P : Program) (f : FuncId) : Bool := match P.funcs[f]? with
  | some fn => fn.name != "runtime.NumGoroutine" && fn.body.isSome
  | none => false
/-- none: no such type; some none: one cell; some (some n): a struct or an array of n cells. -/
def shapeT (P : Program) (t : TypeId) : Option (Option Nat) := match P.underlying t, P.info? t with
  | some (.struct _), some i | some (.array _ _), some i => some (some i.size)
  | some _, some _ => some none
  | _, _ => none
def sizeT (P : Program) (t : TypeId) : Option Nat := (P.info? t).map (·.size)
def zeroT (P : Program) (t : TypeId) : Option Value := (P.info? t).bind (·.zero)
/-- A field's offset (where it has cells at all). -/
def fieldT (P : Program) (s : TypeId) (i : Nat) : Option (Nat × TypeId) := match P.underlying s with
  | some (.struct fs) => match fs[i]? with
    | some f => match P.info? f.type with
      | some j => if j.size = 0 then none else some (f.offset, f.type)
      | none => none
    | none => none
  | _ => none
def elemT (P : Program) (t : TypeId) : Option (TypeId × Nat) := match P.underlying t with
  | some (.slice e) => (P.info? e).map fun i => (e, i.size)
  | _ => none
def kindT (P : Program) (t : TypeId) : Nat := match P.underlying t with
  | some (.slice _) => 1 | some .string => 2 | some (.array _ _) => 3 | some (.map _ _) => 4 | some (.interface _) => 5 | some _ => 6 | none => 0

section runs
variable {P : Program} {w : World}
theorem run_underlying_some {t : TypeId} {d : TypeDesc} (h : P.underlying t = some d) : (underlying t).run P w = .ok d w := by
  simp [underlying, h]
theorem run_typeInfo_some {t : TypeId} {d : TypeInfo} (h : P.info? t = some d) : (typeInfo t).run P w = .ok d w := by
  simp [typeInfo, h]

theorem run_isAgg {t : TypeId} {r : Option Nat} (h : shapeT P t = some r) : (isAgg t).run P w = .ok r.isSome w := by
  unfold shapeT at h
  unfold isAgg
  cases hu : P.underlying t with
  | none => simp [hu] at h
  | some d =>
    cases hi : P.info? t with
    | none => simp [hu, hi] at h
    | some i => cases d <;> simp [hu, hi] at h <;> subst h <;> simp [underlying, hu]

theorem run_sizeOf {t : TypeId} {n : Nat} (h : sizeT P t = some n) : (sizeOf t).run P w = .ok n w := by
  unfold sizeT at h
  cases hi : P.info? t with
  | none => simp [hi] at h
  | some i => simp [hi] at h; simp [sizeOf, typeInfo, hi, h]

theorem sizeT_of_shape {t : TypeId} {n : Nat} (h : shapeT P t = some (some n)) : sizeT P t = some n := by
  unfold shapeT at h; unfold sizeT
  split at h <;> simp_all

def lget : List Value → Nat → Option Value
  | [], _ => none
  | v :: _, 0 => some v
  | _ :: l, n + 1 => lget l n
theorem lget_eq : ∀ (l : List Value) (i : Nat), lget l i = l[i]?
  | [], i => by simp [lget]
  | v :: l, 0 => by simp [lget]
  | v :: l, i + 1 => by simpa [lget] using lget_eq l i
/-- The cells from a place on, as many. -/
def cellsAt (c : Array Value) (off : Nat) : Nat → Option (List Value)
  | 0 => some []
  | n + 1 => match lget c.toList off, cellsAt c (off + 1) n with
    | some v, some vs => some (v :: vs)
    | _, _ => none

def Reads (w : World) (a : Addr) : List Value → Prop
  | [] => True
  | v :: vs => w.cell? a = some v ∧ Reads w (a.add 1) vs

theorem add_add (a : Addr) (i j : Nat) : (a.add i).add j = a.add (i + j) := by
  by_cases hi : i = 0 <;> by_cases hj : j = 0 <;> simp [Addr.add, hi, hj, Nat.add_assoc]

theorem add_none (b o i : Nat) : (Addr.add ⟨b, o, none⟩ i) = ⟨b, o + i, none⟩ := by
  by_cases hi : i = 0 <;> simp [Addr.add, hi]

theorem run_loadCellsFrom (a : Addr) (vs : List Value) : ∀ (i : Nat) (acc : Array Value), Reads w (a.add i) vs →
    (loadCellsFrom a i vs.length acc).run P w = .ok (acc ++ vs.toArray) w := by
  induction vs with
  | nil => intro i acc _; simp [loadCellsFrom]
  | cons v vs ih =>
    intro i acc h
    obtain ⟨h1, h2⟩ := h
    rw [add_add] at h2
    simp [loadCellsFrom, h1, ih (i + 1) (acc.push v) h2]

theorem run_loadCells {a : Addr} {vs : List Value} {n : Nat} (hn : vs.length = n) (h : Reads w a vs) : (loadCells a n).run P w = .ok vs.toArray w := by
  subst hn
  have := run_loadCellsFrom (P := P) a vs 0 #[] (by simpa [Addr.add] using h)
  simpa [loadCells] using this

theorem run_loadVar1 {t : TypeId} {a : Addr} {v : Value} (ht : shapeT P t = some none) (h : w.cell? a = some v) : (loadVar t a).run P w = .ok v w := by
  simp [loadVar, run_isAgg ht, h]

theorem run_loadVarN {t : TypeId} {a : Addr} {vs : List Value} (ht : shapeT P t = some (some vs.length)) (h : Reads w a vs) : (loadVar t a).run P w = .ok (.agg vs.toArray) w := by
  simp [loadVar, run_isAgg ht, run_sizeOf (sizeT_of_shape ht), run_loadCells rfl h]

theorem reads_of_block {b : Nat} {c : Array Value} {t : TypeId} {fz : Nat × Nat} (hb : w.heap[b]? = some (.cells c t fz)) :
    ∀ (n off : Nat) (vs : List Value), cellsAt c off n = some vs → Reads w ⟨b, off, none⟩ vs ∧ vs.length = n := by
  intro n
  induction n with
  | zero => intro off vs h; simp [cellsAt] at h; subst h; exact ⟨trivial, rfl⟩
  | succ n ih =>
    intro off vs h
    unfold cellsAt at h
    split at h
    · rename_i v vs' hv hvs
      cases h
      rw [lget_eq, Array.getElem?_toList] at hv
      obtain ⟨h1, h2⟩ := ih _ _ hvs
      exact ⟨⟨by simp [World.cell?, hb, hv], h1⟩, by simp [h2]⟩
    · cases h
end runs


/-! ### what an operation gives -/
/-- Whatever the world: this value. -/
structure PV (C : Cx) (e : Env) (op : Op) (v : Value) : Prop where
  go : ∀ (o : Oper) a w, o.op = op → EnvOk e a → (execOp a.eval o).run C.P w = .ok (.value v) w
/-- In a world with these blocks: this value; the blocks stay. -/
structure RV (C : Cx) (e : Env) (hs : Hs) (op : Op) (v : Value) : Prop where
  go : ∀ (o : Oper) a w, o.op = op → Ok C e hs a w → ∃ w', (execOp a.eval o).run C.P w = .ok (.value v) w' ∧ St C.W0 C.own hs w'
/-- A call that answers this value; the blocks stay. -/
structure CV (C : Cx) (e : Env) (hs : Hs) (op : Op) (v : Value) : Prop where
  go : ∀ (o : Oper) a w, o.op = op → Ok C e hs a w → ∃ g args w1, (execOp a.eval o).run C.P w = .ok (.enter g args) w1 ∧
    Calls C.P g args w1 fun en w' => en = .returned v ∧ St C.W0 C.own hs w'

theorem RV.of_same {C : Cx} {e : Env} {hs : Hs} {op : Op} {v : Value} (h : ∀ (o : Oper) a w, o.op = op → Ok C e hs a w → (execOp a.eval o).run C.P w = .ok (.value v) w) : RV C e hs op v :=
  ⟨fun o a w ho ok => ⟨w, h o a w ho ok, ok.st⟩⟩

def tl (s : ByteArray) : List UInt8 := s.data.toList
theorem tl_mk (a : Array UInt8) : tl ⟨a⟩ = a.toList := rfl
theorem tl_inj {a b : ByteArray} : tl a = tl b ↔ a = b :=
  ⟨fun h => by cases a; cases b; simp [tl, Array.toList_inj] at h; rw [h], fun h => by rw [h]⟩
theorem tl_app (a b : ByteArray) : tl (a ++ b) = tl a ++ tl b := by simp [tl]

theorem wrap_i64 {x : Int} (h1 : -9223372036854775808 ≤ x) (h2 : x ≤ 9223372036854775807) : IntKind.i64.wrap x = x := by
  rw [IntKind.wrap_i64]; omega

theorem run_equalIn_bool {P : Program} {w : World} {t : TypeId} (n : Nat) (a b : Bool) (hu : P.underlying t = some .bool) : (Op.equalIn (n + 1) t (.bool a) (.bool b)).run P w = .ok (a == b) w := by
  unfold Op.equalIn
  simp [underlying, hu]
theorem run_equal_bool {P : Program} {w : World} {t : TypeId} (a b : Bool) (hu : P.underlying t = some .bool) : (Op.equal t (.bool a) (.bool b)).run P w = .ok (a == b) w :=
  run_equalIn_bool 9999 a b hu
theorem run_equalIn_nil1 {P : Program} {w : World} {t : TypeId} (n : Nat) (hk : kindT P t = 5) : (Op.equalIn (n + 1) t .nilIface .nilIface).run P w = .ok true w := by
  unfold kindT at hk
  unfold Op.equalIn
  cases hu : P.underlying t with
  | none => simp [hu] at hk
  | some u => cases u <;> simp [hu] at hk; simp [underlying, hu]
theorem run_equalIn_nil2 {P : Program} {w : World} {t u : TypeId} {x : Value} (n : Nat) (hk : kindT P t = 5) : (Op.equalIn (n + 1) t (.iface u x) .nilIface).run P w = .ok false w := by
  unfold kindT at hk
  unfold Op.equalIn
  cases hu : P.underlying t with
  | none => simp [hu] at hk
  | some u => cases u <;> simp [hu] at hk; simp [underlying, hu]

section vals
variable {C : Cx} {e : Env} {hs : Hs}

theorem p_cm {x y : Operand} {a b : Int} {kd : IntKind} {t t' : TypeId} {op : BinOp} {r : Bool} (hx : ev e x = some (.int kd a)) (hy : ev e y = some (.int kd b))
    (hop : (match op with | .eql => some (decide (a = b)) | .neq => some (decide (a ≠ b)) | .lss => some (decide (a < b)) | .leq => some (decide (a ≤ b)) | .gtr => some (decide (b < a)) | .geq => some (decide (b ≤ a)) | _ => none) = some r) :
    PV C e (.binOp op t x y t') (.bool r) := by
  refine ⟨fun o c w ho ok => ?_⟩
  cases op <;> simp only [Option.some.injEq, reduceCtorEq] at hop <;> subst hop <;> simp [execOp, ho, ok.eval hx, ok.eval hy, eqGuard, binOp, Op.intCmp] <;> (try (cases hab : (a == b) <;> simp_all))

theorem p_sc {x y : Operand} {a b : ByteArray} {t t' : TypeId} {op : BinOp} {r : Bool} (hx : ev e x = some (.string a)) (hy : ev e y = some (.string b))
    (hop : (match op with | .eql => some (decide (tl a = tl b)) | .neq => some (decide (tl a ≠ tl b)) | .lss => some (Op.bytesLess (tl a) (tl b)) | .leq => some (Op.bytesLess (tl a) (tl b) || decide (tl a = tl b)) | .gtr => some (!(Op.bytesLess (tl a) (tl b) || decide (tl a = tl b))) | .geq => some (!Op.bytesLess (tl a) (tl b)) | _ => none) = some r) :
    PV C e (.binOp op t x y t') (.bool r) := by
  refine ⟨fun o c w ho ok => ?_⟩
  have ha : a.toList = tl a := ByteArray.toList_eq a
  have hb : b.toList = tl b := ByteArray.toList_eq b
  have hd1 : (tl a == tl b) = decide (tl a = tl b) := by rw [Bool.eq_iff_iff, beq_iff_eq, decide_eq_true_iff]
  generalize tl a = la at *
  generalize tl b = lb at *
  cases op <;> simp only [Option.some.injEq, reduceCtorEq] at hop <;> subst hop <;> simp only [execOp, ho, ok.eval hx, ok.eval hy, eqGuard, binOp, Op.stringOp, ha, hb, hd1] <;> simp

/-! the operations that only reckon, all at once -/
def pureV (e : Env) : Op → Option Value
  | .move x | .assign x => ev e x
  | .pick c x y => match ev e c with
    | some (.bool true) => ev e x
    | some (.bool false) => ev e y
    | _ => none
  | .unOp .not _ x => match ev e x with
    | some (.bool b) => some (.bool (!b))
    | _ => none
  | .extract x i => match ev e x with
    | some (.tuple vs) => lget vs.toList i
    | _ => none
  | .binOp op _ x y _ => match ev e x, ev e y with
    | some (.int _ a), some (.int _ b) => match op with
      | .eql => some (.bool (decide (a = b)))
      | .neq => some (.bool (decide (a ≠ b)))
      | .lss => some (.bool (decide (a < b)))
      | .leq => some (.bool (decide (a ≤ b)))
      | .gtr => some (.bool (decide (b < a)))
      | .geq => some (.bool (decide (b ≤ a)))
      | _ => none
    | some (.string a), some (.string b) => match op with
      | .eql => some (.bool (decide (tl a = tl b)))
      | .neq => some (.bool (decide (tl a ≠ tl b)))
      | .lss => some (.bool (Op.bytesLess (tl a) (tl b)))
      | .gtr => some (.bool (!(Op.bytesLess (tl a) (tl b) || decide (tl a = tl b))))
      | .leq => some (.bool (Op.bytesLess (tl a) (tl b) || decide (tl a = tl b)))
      | .geq => some (.bool (!Op.bytesLess (tl a) (tl b)))
      | _ => none
    | _, _ => none
  | _ => none
/-- ..but for integers of different kinds, which the program's text has not. -/
def sameKind (e : Env) : Op → Bool
  | .binOp _ _ x y _ => match ev e x, ev e y with
    | some (.int k _), some (.int k' _) => decide (k = k')
    | _, _ => true
  | _ => true
def boolOf : Value → Bool
  | .bool r => r
  | _ => false

theorem pv {op : Op} {v : Value} (hv : pureV e op = some v) (hk : sameKind e op = true) : PV C e op v := by
  cases op <;> (try (simp [pureV] at hv; done))
  case move x => exact ⟨fun o a w ho ok => by simp [execOp, ho, ok.eval hv]⟩
  case assign x => exact ⟨fun o a w ho ok => by simp [execOp, ho, ok.eval hv]⟩
  case pick c x y =>
    simp only [pureV] at hv
    split at hv
    · rename_i h; exact ⟨fun o a w ho ok => by simp [execOp, ho, ok.eval h, ok.eval hv, asBool]⟩
    · rename_i h; exact ⟨fun o a w ho ok => by simp [execOp, ho, ok.eval h, ok.eval hv, asBool]⟩
    · cases hv
  case unOp o t x =>
    cases o <;> (try (simp [pureV] at hv; done))
    simp only [pureV] at hv
    split at hv
    · rename_i h; cases hv; exact ⟨fun o a w ho ok => by simp [execOp, ho, ok.eval h, Op.unary]⟩
    · cases hv
  case extract x i =>
    simp only [pureV] at hv
    split at hv
    · rename_i h; rw [lget_eq, Array.getElem?_toList] at hv; exact ⟨fun o a w ho ok => by simp [execOp, ho, ok.eval h, Instr.extract, hv]⟩
    · cases hv
  case binOp o t x y t' =>
    simp only [pureV, sameKind] at hv hk
    split at hv
    · rename_i ka a kb b h1 h2
      rw [h1, h2] at hk
      obtain rfl : ka = kb := by simpa using hk
      obtain ⟨r, rfl⟩ : ∃ r, v = .bool r := by cases o <;> simp only [Option.some.injEq, reduceCtorEq] at hv <;> exact ⟨_, hv.symm⟩
      refine p_cm h1 h2 ?_
      cases o <;> simp only [Option.some.injEq, reduceCtorEq, Value.bool.injEq] at hv <;> subst hv <;> rfl
    · rename_i a b h1 h2
      obtain ⟨r, rfl⟩ : ∃ r, v = .bool r := by cases o <;> simp only [Option.some.injEq, reduceCtorEq] at hv <;> exact ⟨_, hv.symm⟩
      refine p_sc h1 h2 ?_
      cases o <;> simp only [Option.some.injEq, reduceCtorEq, Value.bool.injEq] at hv <;> subst hv <;> rfl
    · cases hv

theorem p_ar {x y : Operand} {a b c : Int} {kd : IntKind} {t t' : TypeId} {op : BinOp} (hx : ev e x = some (.int kd a)) (hy : ev e y = some (.int kd b))
    (hop : (match op with | .add => some (kd.wrap (a + b)) | .sub => some (kd.wrap (a - b)) | .mul => some (kd.wrap (a * b)) | _ => none) = some c) : PV C e (.binOp op t x y t') (.int kd c) := by
  refine ⟨fun o d w ho ok => ?_⟩
  cases op <;> simp only [Option.some.injEq, reduceCtorEq] at hop <;> subst hop <;> simp [execOp, ho, ok.eval hx, ok.eval hy, eqGuard, binOp, Op.intArith]
/-- i + 1, where it stays an int. -/
theorem p_ic {x : Operand} {n : Nat} {t t' : TypeId} (hx : ev e x = some (.int .i64 (Int.ofNat n))) (hn : n < 9223372036854775807) : PV C e (.binOp .add t x (.const (.int .i64 1)) t') (.int .i64 ((n + 1 : Nat) : Int)) :=
  p_ar hx rfl (c := ((n + 1 : Nat) : Int)) (by show some (IntKind.i64.wrap ((n : Int) + 1)) = _; rw [wrap_i64 (by omega) (by omega)]; simp)
theorem p_sb {x y : Operand} {a b : Nat} {t t' : TypeId} (hx : ev e x = some (.int .i64 (Int.ofNat a))) (hy : ev e y = some (.int .i64 (Int.ofNat b))) (hle : b ≤ a) (ha : a < 9223372036854775808) :
    PV C e (.binOp .sub t x y t') (.int .i64 ((a - b : Nat) : Int)) :=
  p_ar hx hy (c := ((a - b : Nat) : Int)) (by show some (IntKind.i64.wrap (((a : Nat) : Int) - ((b : Nat) : Int))) = _; rw [wrap_i64 (by omega) (by omega)]; congr 1; omega)
theorem p_ad {x y : Operand} {a b : Nat} {t t' : TypeId} (hx : ev e x = some (.int .i64 (Int.ofNat a))) (hy : ev e y = some (.int .i64 (Int.ofNat b))) (ha : a + b < 9223372036854775808) :
    PV C e (.binOp .add t x y t') (.int .i64 ((a + b : Nat) : Int)) :=
  p_ar hx hy (c := ((a + b : Nat) : Int)) (by show some (IntKind.i64.wrap (((a : Nat) : Int) + ((b : Nat) : Int))) = _; rw [wrap_i64 (by omega) (by omega)]; congr 1)
theorem p_s1 {x : Operand} {a : Nat} {t t' : TypeId} (hx : ev e x = some (.int .i64 (Int.ofNat a))) (hle : 1 ≤ a) (ha : a < 9223372036854775808) : PV C e (.binOp .sub t x (.const (.int .i64 1)) t') (.int .i64 ((a - 1 : Nat) : Int)) :=
  p_sb hx (b := 1) rfl hle ha

theorem p_ct {x y : Operand} {a b : ByteArray} {t t' : TypeId} (hx : ev e x = some (.string a)) (hy : ev e y = some (.string b)) (hsz : a.size + b.size ≤ 9223372036854775807) : PV C e (.binOp .add t x y t') (.string (a ++ b)) := by
  refine ⟨fun o d w ho ok => ?_⟩
  have : ¬ (((a.size + b.size : Nat) : Int) > IntKind.i64.max) := by
    have : IntKind.i64.max = 9223372036854775807 := by decide
    rw [this]; omega
  simp only [execOp, ho, ok.eval hx, ok.eval hy, eqGuard, binOp, Op.stringOp]
  simp only [if_neg this]
  simp

theorem p_ll {x : Operand} {a : Option Addr} {n c : Nat} {t : TypeId} (hx : ev e x = some (.slice a n c)) (ht : kindT C.P t = 1) : PV C e (.call { callee := .builtin .len, args := #[x], argTypes := #[t] }) (.int .i64 (n : Int)) := by
  refine ⟨fun o d w ho ok => ?_⟩
  unfold kindT at ht
  cases hu : C.P.underlying t with
  | none => simp [hu] at ht
  | some u =>
    cases u <;> simp [hu] at ht
    simp [execOp, ho, resolve, ok.eval hx, invoke, builtin, Builtin.len_, underlying, hu, goInt]
theorem p_ls {x : Operand} {s : ByteArray} {t : TypeId} (hx : ev e x = some (.string s)) (ht : kindT C.P t = 2) : PV C e (.call { callee := .builtin .len, args := #[x], argTypes := #[t] }) (.int .i64 (s.size : Int)) := by
  refine ⟨fun o d w ho ok => ?_⟩
  unfold kindT at ht
  cases hu : C.P.underlying t with
  | none => simp [hu] at ht
  | some u =>
    cases u <;> simp [hu] at ht
    simp [execOp, ho, resolve, ok.eval hx, invoke, builtin, Builtin.len_, underlying, hu, goInt]

theorem p_by {x i : Operand} {s : ByteArray} {j : Nat} {kd : IntKind} {t : TypeId} (hx : ev e x = some (.string s)) (hi : ev e i = some (.int kd (Int.ofNat j))) (hj : j < s.size) (ht : kindT C.P t = 2) :
    PV C e (.index t x i) (.int .u8 (((tl s).getD j 0).toNat : Int)) := by
  refine ⟨fun o d w ho ok => ?_⟩
  unfold kindT at ht
  cases hu : C.P.underlying t with
  | none => simp [hu] at ht
  | some u =>
    cases u <;> simp [hu] at ht
    have hb : s[j]? = some s[j] := by simp [hj]
    have hj2 : j < s.data.size := hj
    have hg : (tl s).getD j 0 = s[j] := by
      show s.data.toList.getD j 0 = s[j]
      rw [List.getD_eq_getElem?_getD, Array.getElem?_toList, Array.getElem?_eq_getElem hj2]; rfl
    rw [hg]
    simp [execOp, ho, ok.eval hx, ok.eval hi, Instr.index, asIntOf, underlying, hu, hb]
/-- ..at a number that the text has. -/
theorem p_bk {x : Operand} {s : ByteArray} {m : Int} {kd : IntKind} {t : TypeId} (hx : ev e x = some (.string s)) (h0 : 0 ≤ m) (hj : m < (s.size : Int)) (ht : kindT C.P t = 2) :
    PV C e (.index t x (.const (.int kd m))) (.int .u8 (((tl s).getD m.toNat 0).toNat : Int)) :=
  p_by (j := m.toNat) hx (by show some (Value.int kd m) = some (Value.int kd ((m.toNat : Nat) : Int)); rw [Int.toNat_of_nonneg h0]) (by omega) ht

/-- s[lo:hi] of a string. -/
theorem p_ss {x : Operand} {lo hi : Option Operand} {s : ByteArray} {i j : Nat} {t : TypeId} (hx : ev e x = some (.string s)) (ht : kindT C.P t = 2)
    (hlo : match lo with | some o => ∃ kd, ev e o = some (.int kd (Int.ofNat i)) | none => i = 0)
    (hhi : match hi with | some o => ∃ kd, ev e o = some (.int kd (Int.ofNat j)) | none => j = s.size) (hij : i ≤ j) (hj : j ≤ s.size) : PV C e (.slice t x lo hi none) (.string (s.extract i j)) := by
  refine ⟨fun o d w ho ok => ?_⟩
  unfold kindT at ht
  cases hu : C.P.underlying t with
  | none => simp [hu] at ht
  | some u =>
    cases u <;> simp [hu] at ht
    cases lo with
    | none =>
      simp only at hlo; subst hlo
      cases hi with
      | none => simp only at hhi; subst hhi; simp [execOp, ho, ok.eval hx, Instr.sliceAt, Instr.slice, Instr.sliceBounds, underlying, hu]
      | some o =>
        obtain ⟨kd, h2⟩ := hhi
        simp [execOp, ho, ok.eval hx, ok.eval h2, Instr.sliceAt, Instr.slice, Instr.sliceBounds, Instr.sliceBound, asIntOf, underlying, hu, hj]
    | some l =>
      obtain ⟨kl, hl⟩ := hlo
      cases hi with
      | none =>
        simp only at hhi; subst hhi
        simp [execOp, ho, ok.eval hx, ok.eval hl, Instr.sliceAt, Instr.slice, Instr.sliceBounds, Instr.sliceBound, asIntOf, underlying, hu, hij]
      | some o =>
        obtain ⟨kd, h2⟩ := hhi
        simp [execOp, ho, ok.eval hx, ok.eval h2, ok.eval hl, Instr.sliceAt, Instr.slice, Instr.sliceBounds, Instr.sliceBound, asIntOf, underlying, hu, hj, hij]

/-- x[lo:hi] of a slice: its start stays, or goes on. -/
theorem p_sl {x : Operand} {lo hi : Option Operand} {b off n c i j : Nat} {t et : TypeId} {sz : Nat} (hx : ev e x = some (.slice (some ⟨b, off, none⟩) n c)) (ht : elemT C.P t = some (et, sz))
    (hlo : match lo with | some o => ∃ kd, ev e o = some (.int kd (Int.ofNat i)) | none => i = 0)
    (hhi : match hi with | some o => ∃ kd, ev e o = some (.int kd (Int.ofNat j)) | none => j = n) (hij : i ≤ j) (hj : j ≤ c) :
    PV C e (.slice t x lo hi none) (.slice (some ⟨b, if c = i then off else off + i * sz, none⟩) (j - i) (c - i)) := by
  refine ⟨fun o d w ho ok => ?_⟩
  unfold elemT at ht
  cases hu : C.P.underlying t with
  | none => simp [hu] at ht
  | some u =>
    cases u <;> simp [hu] at ht
    obtain ⟨inf, hinf, rfl, rfl⟩ := ht
    have hfin : ∀ (i : Nat), (if c = i then (some ⟨b, off, none⟩ : Option Addr) else some (Addr.add ⟨b, off, none⟩ (i * inf.size))) = some ⟨b, if c = i then off else off + i * inf.size, none⟩ := by
      intro i; by_cases h : c = i <;> simp [h, Addr.add]
    cases lo with
    | none =>
      simp only at hlo; subst hlo
      cases hi with
      | none => simp only at hhi; subst hhi; simp [execOp, ho, ok.eval hx, Instr.sliceAt, Instr.slice, Instr.sliceBounds, underlying, hu, sizeOf, typeInfo, hinf, Addr.add]
      | some o =>
        obtain ⟨kd, h2⟩ := hhi
        simp [execOp, ho, ok.eval hx, ok.eval h2, Instr.sliceAt, Instr.slice, Instr.sliceBounds, Instr.sliceBound, asIntOf, underlying, hu, hj, sizeOf, typeInfo, hinf, Addr.add]
    | some l =>
      obtain ⟨kl, hl⟩ := hlo
      cases hi with
      | none =>
        simp only at hhi; subst hhi
        simp [execOp, ho, ok.eval hx, ok.eval hl, Instr.sliceAt, Instr.slice, Instr.sliceBounds, Instr.sliceBound, asIntOf, underlying, hu, hij, sizeOf, typeInfo, hinf]
        by_cases h : c = i <;> simp [h, Addr.add]
      | some o =>
        obtain ⟨kd, h2⟩ := hhi
        simp [execOp, ho, ok.eval hx, ok.eval h2, ok.eval hl, Instr.sliceAt, Instr.slice, Instr.sliceBounds, Instr.sliceBound, asIntOf, underlying, hu, hj, hij, sizeOf, typeInfo, hinf]
        by_cases h : c = i <;> simp [h, Addr.add]

theorem p_cv {x : Operand} {a : Int} {kd kd' : IntKind} {s t : TypeId} (hx : ev e x = some (.int kd' a)) (ht : C.P.underlying t = some (.int kd)) (hsrc : (C.P.underlying s).isSome = true) : PV C e (.convert s t x) (.int kd (kd.wrap a)) := by
  refine ⟨fun o d w ho ok => ?_⟩
  obtain ⟨u, hu⟩ := Option.isSome_iff_exists.1 hsrc
  cases u <;> simp [execOp, ho, ok.eval hx, convert, underlying, ht, hu, Conv.intToInt]

theorem p_mi {x : Operand} {v : Value} {t : TypeId} (hx : ev e x = some v) (hk : kindT C.P t ≠ 5 ∧ kindT C.P t ≠ 0) : PV C e (.makeInterface t x) (.iface t v) := by
  refine ⟨fun o d w ho ok => ?_⟩
  unfold kindT at hk
  cases hu : C.P.underlying t with
  | none => simp [hu] at hk
  | some u => cases u <;> first | (simp [hu] at hk; done) | simp [execOp, ho, ok.eval hx, Instr.makeInterface, underlying, hu]

/-- Truths held against each other. -/
theorem p_be {x y : Operand} {a b : Bool} {t t' : TypeId} (hx : ev e x = some (.bool a)) (hy : ev e y = some (.bool b)) (hu : C.P.underlying t = some .bool) : PV C e (.binOp .eql t x y t') (.bool (decide (a = b))) := by
  refine ⟨fun o d w ho ok => ?_⟩
  simp only [execOp, ho, ok.eval hx, ok.eval hy, eqGuard, binOp]
  cases a <;> cases b <;> simp [run_equal_bool _ _ hu]
theorem p_bn {x y : Operand} {a b : Bool} {t t' : TypeId} (hx : ev e x = some (.bool a)) (hy : ev e y = some (.bool b)) (hu : C.P.underlying t = some .bool) : PV C e (.binOp .neq t x y t') (.bool (decide (a ≠ b))) := by
  refine ⟨fun o d w ho ok => ?_⟩
  simp only [execOp, ho, ok.eval hx, ok.eval hy, eqGuard, binOp]
  cases a <;> cases b <;> simp [run_equal_bool _ _ hu]

/-- An interface value against nil. -/
def isNilI : Value → Option Bool
  | .nilIface => some true
  | .iface _ _ => some false
  | _ => none
theorem p_en {x : Operand} {v : Value} {t t' : TypeId} {r : Bool} (hx : ev e x = some v) (hv : isNilI v = some r) (hk : kindT C.P t = 5) : PV C e (.binOp .eql t x (.const .nilIface) t') (.bool r) := by
  refine ⟨fun o d w ho ok => ?_⟩
  have hc : d.eval (.const .nilIface) = .nilIface := rfl
  cases v <;> simp [isNilI] at hv <;> subst hv <;> simp only [execOp, ho, ok.eval hx, hc, eqGuard, binOp, Op.equal, Op.maxDepth]
  · simp [run_equalIn_nil2 9999 hk]
  · simp [run_equalIn_nil1 9999 hk]
theorem p_nn {x : Operand} {v : Value} {t t' : TypeId} {r : Bool} (hx : ev e x = some v) (hv : isNilI v = some r) (hk : kindT C.P t = 5) : PV C e (.binOp .neq t x (.const .nilIface) t') (.bool (!r)) := by
  refine ⟨fun o d w ho ok => ?_⟩
  have hc : d.eval (.const .nilIface) = .nilIface := rfl
  cases v <;> simp [isNilI] at hv <;> subst hv <;> simp only [execOp, ho, ok.eval hx, hc, eqGuard, binOp, Op.equal, Op.maxDepth]
  · simp [run_equalIn_nil2 9999 hk]
  · simp [run_equalIn_nil1 9999 hk]

theorem p_fa {s : TypeId} {x : Operand} {f : Nat} {b off o : Nat} {ft : TypeId} (hx : ev e x = some (.pointer (some ⟨b, off, none⟩))) (hf : fieldT C.P s f = some (o, ft)) : PV C e (.fieldAddr s x f) (.pointer (some ⟨b, off + o, none⟩)) := by
  refine ⟨fun op d w ho ok => ?_⟩
  unfold fieldT at hf
  cases hu : C.P.underlying s with
  | none => simp [hu] at hf
  | some u =>
    cases u <;> simp [hu] at hf
    rename_i fs
    cases hg : fs[f]? with
    | none => simp [hg] at hf
    | some g =>
      simp only [hg] at hf
      cases hi : C.P.info? g.type with
      | none => simp [hi] at hf
      | some i =>
        simp only [hi] at hf
        by_cases hz : i.size = 0
        · simp [hz] at hf
        · simp only [hz, if_false, Option.some.injEq, Prod.mk.injEq] at hf
          obtain ⟨rfl, rfl⟩ := hf
          simp [execOp, ho, ok.eval hx, Instr.fieldAt, underlying, hu, hg, Instr.sureAddr, fieldPlace, sizeOf, typeInfo, hi, hz, Addr.add]

theorem p_ia {t : TypeId} {x i : Operand} {b off n c j : Nat} {kd : IntKind} {et : TypeId} {sz : Nat} (hx : ev e x = some (.slice (some ⟨b, off, none⟩) n c)) (hi : ev e i = some (.int kd (Int.ofNat j))) (ht : elemT C.P t = some (et, sz)) (hj : j < n) :
    PV C e (.indexAddr t x i) (.pointer (some ⟨b, off + j * sz, none⟩)) := by
  refine ⟨fun o d w ho ok => ?_⟩
  unfold elemT at ht
  cases hu : C.P.underlying t with
  | none => simp [hu] at ht
  | some u =>
    cases u <;> simp [hu] at ht
    obtain ⟨inf, hinf, rfl, rfl⟩ := ht
    simp [execOp, ho, ok.eval hx, ok.eval hi, Instr.indexAt, asIntOf, underlying, hu, hj, sizeOf, typeInfo, hinf, Addr.add]

/-! reading memory -/
theorem r_l1 (i : Nat) {t : TypeId} {x : Operand} {b off : Nat} {c : Array Value} {t' : TypeId} {fz : Nat × Nat} {v : Value} (ht : shapeT C.P t = some none)
    (hx : ev e x = some (.pointer (some ⟨b, off, none⟩))) (hi : hs[i]? = some (b, .cells c t' fz)) (hc : lget c.toList off = some v) : RV C e hs (.load t x) v := by
  rw [lget_eq, Array.getElem?_toList] at hc
  refine .of_same fun o a w ho ok => ?_
  have hb : w.heap[b]? = some (.cells c t' fz) := ok.st.has _ (List.mem_of_getElem? hi)
  simp [execOp, ho, ok.e.eval hx, Instr.loadAt, Instr.sureAddr, run_loadVar1 ht (show w.cell? ⟨b, off, none⟩ = some v by simp [World.cell?, hb, hc])]
theorem r_ln (i : Nat) {t : TypeId} {x : Operand} {b off n : Nat} {c : Array Value} {t' : TypeId} {fz : Nat × Nat} {vs : List Value} (ht : shapeT C.P t = some (some n))
    (hx : ev e x = some (.pointer (some ⟨b, off, none⟩))) (hi : hs[i]? = some (b, .cells c t' fz)) (hc : cellsAt c off n = some vs) : RV C e hs (.load t x) (.agg vs.toArray) := by
  refine .of_same fun o a w ho ok => ?_
  have hb : w.heap[b]? = some (.cells c t' fz) := ok.st.has _ (List.mem_of_getElem? hi)
  obtain ⟨h1, h2⟩ := reads_of_block hb n off vs hc
  simp [execOp, ho, ok.e.eval hx, Instr.loadAt, Instr.sureAddr, run_loadVarN (vs := vs) (by rw [h2]; exact ht) h1]

/-- Of old memory that is not ours. -/
theorem Reads.keep {W0 w : World} {own : List Nat} {hs : Hs} (h : St W0 own hs w) {b : Nat} (hb : b < W0.heap.size) (ho : b ∉ own) :
    ∀ (vs : List Value) (off : Nat), Reads W0 ⟨b, off, none⟩ vs → Reads w ⟨b, off, none⟩ vs := by
  intro vs
  induction vs with
  | nil => intro _ _; trivial
  | cons v vs ih =>
    intro off hr
    obtain ⟨h1, h2⟩ := hr
    rw [add_none] at h2
    refine ⟨?_, by rw [add_none]; exact ih _ h2⟩
    rw [← h1]
    simp only [World.cell?, h.old b hb ho]
theorem Reads.lt {w : World} {b off : Nat} {v : Value} {vs : List Value} (h : Reads w ⟨b, off, none⟩ (v :: vs)) : b < w.heap.size := by
  have h1 := h.1
  unfold World.cell? at h1
  rcases Nat.lt_or_ge b w.heap.size with hl | hl
  · exact hl
  · simp [Array.getElem?_eq_none hl] at h1
theorem r_o1 {t : TypeId} {x : Operand} {b off : Nat} {v : Value} (ht : shapeT C.P t = some none) (hx : ev e x = some (.pointer (some ⟨b, off, none⟩))) (ho : b ∉ C.own) (hr : Reads C.W0 ⟨b, off, none⟩ [v]) : RV C e hs (.load t x) v := by
  refine .of_same fun o a w hop ok => ?_
  have hw := Reads.keep ok.st hr.lt ho _ _ hr
  simp [execOp, hop, ok.e.eval hx, Instr.loadAt, Instr.sureAddr, run_loadVar1 ht hw.1]
theorem r_on {t : TypeId} {x : Operand} {b off n : Nat} {vs : List Value} (ht : shapeT C.P t = some (some n)) (hx : ev e x = some (.pointer (some ⟨b, off, none⟩))) (ho : b ∉ C.own) (hr : Reads C.W0 ⟨b, off, none⟩ vs) (hn : vs.length = n) (hn0 : 0 < n) :
    RV C e hs (.load t x) (.agg vs.toArray) := by
  refine .of_same fun o a w hop ok => ?_
  have hlt : b < C.W0.heap.size := by
    cases vs with
    | nil => simp at hn; omega
    | cons v vs => exact hr.lt
  have hw := Reads.keep ok.st hlt ho _ _ hr
  simp [execOp, hop, ok.e.eval hx, Instr.loadAt, Instr.sureAddr, run_loadVarN (vs := vs) (by rw [hn]; exact ht) hw]
end vals

section
variable {C : Cx} {ops : Array Oper} {rest : List Oper} {k : List Item} {e : Env} {hs : Hs} {d : Nat} {op : Op} {ty : TypeId} {pos : String} {af : Array Edge} {v : Value}
theorem o1 (hd : Nat.blt d C.N = true) (h : PV C e op v) (next : Ops C ops rest k ((d, v) :: e) hs) : Ops C ops (⟨some d, op, ty, pos, af, none⟩ :: rest) k e hs :=
  op_val hd (fun a w ok => ⟨w, h.go _ a w rfl ok.e, ok.st⟩) next
theorem o2 (hd : Nat.blt d C.N = true) (h : RV C e hs op v) (next : Ops C ops rest k ((d, v) :: e) hs) : Ops C ops (⟨some d, op, ty, pos, af, none⟩ :: rest) k e hs :=
  op_val hd (fun a w ok => h.go _ a w rfl ok) next
theorem o3 (hd : Nat.blt d C.N = true) (h : CV C e hs op v) (next : Ops C ops rest k ((d, v) :: e) hs) : Ops C ops (⟨some d, op, ty, pos, af, none⟩ :: rest) k e hs := by
  refine ⟨fun a w ok => ?_⟩
  obtain ⟨g, args, w1, hr, hc⟩ := h.go ⟨some d, op, ty, pos, af, none⟩ a w rfl ok
  refine wpX_enter (Φ := fun u w' => u = v ∧ St C.W0 C.own hs w') rfl hr (Calls.mono hc ?_) ?_
  · rintro en w' ⟨rfl, hst⟩
    exact ⟨v, rfl, rfl, hst⟩
  · rintro u w' ⟨rfl, hst⟩
    exact next.go _ _ ((ok.world hst).put hd u)

/-! making and writing memory -/
theorem al {t : TypeId} {z : Value} (hd : Nat.blt d C.N = true) (hz : zeroT C.P t = some z)
    (next : ∀ b, Ops C ops rest k ((d, .pointer (some ⟨b, 0, none⟩)) :: e) ((b, .cells z.cells t) :: hs)) : Ops C ops (⟨some d, .alloc t, ty, pos, af, none⟩ :: rest) k e hs := by
  refine op_some (Φ := fun v hs' => ∃ b, v = .pointer (some ⟨b, 0, none⟩) ∧ hs' = (b, .cells z.cells t) :: hs) hd (fun _ w ok => ⟨_, _, _, ?_, ok.st.push _, _, rfl, rfl⟩) ?_
  · unfold zeroT at hz
    cases hi : C.P.info? t with
    | none => simp [hi] at hz
    | some i => simp [hi] at hz; simp [execOp, Instr.alloc, zeroValue, typeInfo, hi, hz, newVar, newRow]
  · rintro v hs' ⟨b, rfl, rfl⟩; exact next b
theorem bx {t : TypeId} {x : Operand} (hd : Nat.blt d C.N = true) (hx : ev e x = some v)
    (next : ∀ b, Ops C ops rest k ((d, .pointer (some ⟨b, 0, none⟩)) :: e) ((b, .cells v.cells t) :: hs)) : Ops C ops (⟨some d, .box t x, ty, pos, af, none⟩ :: rest) k e hs := by
  refine op_some (Φ := fun v' hs' => ∃ b, v' = .pointer (some ⟨b, 0, none⟩) ∧ hs' = (b, .cells v.cells t) :: hs) hd (fun _ w ok => ⟨_, _, _, ?_, ok.st.push _, _, rfl, rfl⟩) ?_
  · simp [execOp, ok.e.eval hx, Instr.box, newVar, newRow]
  · rintro v hs' ⟨b, rfl, rfl⟩; exact next b

theorem storeCells_one {P : Program} {w : World} {b off : Nat} {c : Array Value} {t : TypeId} (hb : w.heap[b]? = some (.cells c t (0, 0))) (hlt : off < c.size) {v : Value} (hv : v.oneCell' = true) :
    (store ⟨b, off, none⟩ v).run P w = .ok () (w.setCell ⟨b, off, none⟩ v) := by
  rw [run_store P w _ v _ hv]
  have h1 : w.cell? ⟨b, off, none⟩ = some c[off] := by simp [World.cell?, hb, hlt]
  have h2 : w.frozen? ⟨b, off, none⟩ = false := by simp [World.frozen?, hb]
  simp [h1, h2]

theorem heap_setCell_at {w : World} {b off : Nat} {c : Array Value} {t : TypeId} {fz : Nat × Nat} (hb : w.heap[b]? = some (.cells c t fz)) (v : Value) :
    (w.setCell ⟨b, off, none⟩ v).heap[b]? = some (.cells (c.setIfInBounds off v) t fz) := by
  simp [World.setCell, Array.getElem?_modify, hb]

theorem St.setCell {W0 w : World} {own : List Nat} {hs : Hs} (h : St W0 own hs w) {i b off : Nat} {c : Array Value} {t : TypeId} {fz : Nat × Nat}
    (hi : hs[i]? = some (b, .cells c t fz)) (v : Value) : St W0 own (hs.set i (b, .cells (c.setIfInBounds off v) t fz)) (w.setCell ⟨b, off, none⟩ v) := by
  have hb : w.heap[b]? = some (.cells c t fz) := h.has _ (List.mem_of_getElem? hi)
  exact h.set hi rfl rfl rfl (by simp [World.setCell]) (heap_setCell_at hb v) (fun k hk => Below.heap_setCell _ _ _ _ hk)

/-- Cells laid over others from a place on. -/
def lay (c : Array Value) (off : Nat) : List Value → Array Value
  | [] => c
  | v :: vs => lay (c.setIfInBounds off v) (off + 1) vs

theorem size_lay (vs : List Value) : ∀ (c : Array Value) (off : Nat), (lay c off vs).size = c.size := by
  induction vs with
  | nil => intro c off; rfl
  | cons v vs ih => intro c off; rw [lay, ih]; simp

theorem run_storeCells {P : Program} {W0 : World} {own : List Nat} {i b : Nat} {t : TypeId} (o0 : Nat) :
    ∀ (vs : List Value) (w : World) (hs : Hs) (c : Array Value) (j : Nat), St W0 own hs w → hs[i]? = some (b, .cells c t (0, 0)) → o0 + j + vs.length ≤ c.size → (∀ v ∈ vs, v.oneCell' = true) →
      ∃ w', (storeCells ⟨b, o0, none⟩ vs j).run P w = .ok () w' ∧ St W0 own (hs.set i (b, .cells (lay c (o0 + j) vs) t (0, 0))) w' := by
  intro vs
  induction vs with
  | nil =>
    intro w hs c j hst hi _ _
    refine ⟨w, by simp [storeCells], ?_⟩
    obtain ⟨h1, h2⟩ := List.getElem?_eq_some_iff.1 hi
    rw [lay, ← h2, List.set_getElem_self]; exact hst
  | cons v vs ih =>
    intro w hs c j hst hi hle hv
    have hb : w.heap[b]? = some (.cells c t (0, 0)) := hst.has _ (List.mem_of_getElem? hi)
    have hlt : o0 + j < c.size := by simp at hle; omega
    have h1 := storeCells_one (P := P) hb hlt (hv v (by simp))
    have hst1 := hst.setCell (off := o0 + j) hi v
    have hi1 : (hs.set i (b, Obj.cells (c.setIfInBounds (o0 + j) v) t (0, 0)))[i]? = some (b, .cells (c.setIfInBounds (o0 + j) v) t (0, 0)) := by
      have := (List.getElem?_eq_some_iff.1 hi).1
      simp [this]
    obtain ⟨w', hr, hst2⟩ := ih _ _ _ (j + 1) hst1 hi1 (by simp at hle ⊢; omega) (fun u hu => hv u (by simp [hu]))
    refine ⟨w', ?_, ?_⟩
    · simp only [storeCells, Sem.run_bind]
      rw [add_none, h1]; simpa using hr
    · rw [List.set_set] at hst2
      exact hst2

theorem so (i : Nat) {t : TypeId} {x y : Operand} {b off n : Nat} {c : Array Value} {t' : TypeId} {v : Value} (ht : sizeT C.P t = some n)
    (hx : ev e x = some (.pointer (some ⟨b, off, none⟩))) (hy : ev e y = some v) (hi : hs[i]? = some (b, .cells c t' (0, 0)))
    (hn : v.cells.size = n) (hle : off + n ≤ c.size) (hone : ∀ u ∈ v.cells.toList, u.oneCell' = true)
    (next : Ops C ops rest k e (hs.set i (b, .cells (lay c off v.cells.toList) t' (0, 0)))) : Ops C ops (⟨none, .store t x y, ty, pos, af, none⟩ :: rest) k e hs := by
  refine op_do (fun _ w ok => ?_) next
  obtain ⟨w', hr, hst⟩ := run_storeCells (P := C.P) off v.cells.toList w hs c 0 ok.st hi (by simp; omega) hone
  refine ⟨w', ?_, by simpa using hst⟩
  simp [execOp, ok.e.eval hx, ok.e.eval hy, Instr.storeAt, Instr.sureAddr, storeVar, run_sizeOf ht, hn, hr]

/-! calls -/
def evAll (e : Env) : List Operand → Option (List Value)
  | [] => some []
  | x :: xs => match ev e x, evAll e xs with
    | some v, some vs => some (v :: vs)
    | _, _ => none

theorem evAll_eval {a : Act} (h : EnvOk e a) : ∀ (xs : List Operand) (vs : List Value), evAll e xs = some vs → xs.map a.eval = vs := by
  intro xs
  induction xs with
  | nil => intro vs h; simpa [evAll] using h
  | cons x xs ih =>
    intro vs hx
    unfold evAll at hx
    split at hx
    · rename_i v vs' hv hvs
      cases hx
      simp [h.eval hv, ih _ hvs]
    · cases hx

theorem op_callF {f : FuncId} {xs : List Operand} {vs : List Value} {at_ : Array TypeId} {Φ : Value → Hs → Prop} (hd : Nat.blt d C.N = true) (hf : isFn C.P f = true) (hx : evAll e xs = some vs)
    (h : ∀ w, St C.W0 C.own hs w → Calls C.P f vs.toArray w fun en w' => ∃ v hs', en = .returned v ∧ St C.W0 C.own hs' w' ∧ Φ v hs')
    (next : ∀ v hs', Φ v hs' → Ops C ops rest k ((d, v) :: e) hs') :
    Ops C ops (⟨some d, .call { callee := .value (.func f), args := xs.toArray, argTypes := at_ }, ty, pos, af, none⟩ :: rest) k e hs := by
  refine op_call hd (fun a w ok => ?_) h next
  have h1 := evAll_eval ok.e xs vs hx
  unfold isFn at hf
  cases hg : C.P.funcs[f]? with
  | none => simp [hg] at hf
  | some fn =>
    simp only [hg, Bool.and_eq_true, bne_iff_ne, ne_eq] at hf
    obtain ⟨h2, h3⟩ := hf
    obtain ⟨bd, h4⟩ := Option.isSome_iff_exists.1 h3
    simp [execOp, resolve, Act.eval, Deferred.ofValue, invoke, callFunc, hg, h2, h4, ← h1]

/-- A call of a function value. -/
theorem op_callV {x : Operand} {f : FuncId} {first captured : Array Value} {xs : List Operand} {vs : List Value} {at_ : Array TypeId} {Φ : Value → Hs → Prop} (hd : Nat.blt d C.N = true)
    (hx0 : ev e x = some (.func (.func f) first captured)) (hf : isFn C.P f = true) (hx : evAll e xs = some vs)
    (h : ∀ w, St C.W0 C.own hs w → Calls C.P f (first ++ vs.toArray ++ captured) w fun en w' => ∃ v hs', en = .returned v ∧ St C.W0 C.own hs' w' ∧ Φ v hs')
    (next : ∀ v hs', Φ v hs' → Ops C ops rest k ((d, v) :: e) hs') :
    Ops C ops (⟨some d, .call { callee := .value x, args := xs.toArray, argTypes := at_ }, ty, pos, af, none⟩ :: rest) k e hs := by
  refine op_call hd (fun a w ok => ?_) h next
  have h1 := evAll_eval ok.e xs vs hx
  unfold isFn at hf
  cases hg : C.P.funcs[f]? with
  | none => simp [hg] at hf
  | some fn =>
    simp only [hg, Bool.and_eq_true, bne_iff_ne, ne_eq] at hf
    obtain ⟨h2, h3⟩ := hf
    obtain ⟨bd, h4⟩ := Option.isSome_iff_exists.1 h3
    simp [execOp, resolve, ok.e.eval hx0, Deferred.ofValue, invoke, callFunc, hg, h2, h4, ← h1]
end
end Go.Fl
