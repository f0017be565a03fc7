/-
  More operations that only reckon: bits, shifts, the greater and the lesser, what type a value of an interface has. No condition.
-/
import Derived.Test.YtiepomeokhjcfaaGreatDoorVs
namespace Go.Fl
open Go.Proofs Go.RowKit
set_option maxRecDepth 10000
set_option maxHeartbeats 4000000

def bitsZ (op : BinOp) (k : IntKind) (x y : Int) : Option Int := match op with
  | .and => some (k.wrap (BitVec.ofInt k.bits x &&& BitVec.ofInt k.bits y).toNat)
  | .or => some (k.wrap (BitVec.ofInt k.bits x ||| BitVec.ofInt k.bits y).toNat)
  | .xor => some (k.wrap (BitVec.ofInt k.bits x ^^^ BitVec.ofInt k.bits y).toNat)
  | .andNot => some (k.wrap (BitVec.ofInt k.bits x &&& ~~~ BitVec.ofInt k.bits y).toNat)
  | _ => none
def binW (op : BinOp) (k : IntKind) (i : Int) (k' : IntKind) (j : Int) : Option (V × Option Prop) := match op with
  | .shl => some ((arI k (i * 2 ^ min j.toNat k.bits)).1, some (holds (arI k (i * 2 ^ min j.toNat k.bits)).2 ∧ 0 ≤ j))
  | .shr => some (.int k (i.fdiv (2 ^ min j.toNat k.bits)), some (0 ≤ j))
  | op => bif decide (k = k') then (match bitsZ op k i j with
    | some r => some (.int k r, none)
    | none => none) else none
def mxV (gt : Bool) (a b : V) : Option V := match a, b with
  | .nat x, .nat y => some (.nat (bif gt then max x y else min x y))
  | a, b => match asI a, asI b with
    | some (k, x), some (_, y) => some (.int k (bif gt then max x y else min x y))
    | _, _ => none
def tyV (tb : Tab) (a : TypeId) (ok : Bool) : V → Option V
  | .ifc t v => bif Nat.beq t a then some (bif ok then .tup [v, .bl true] else v) else bif ok then (match zeroL tb a with
    | some z => some (.tup [.raw z, .bl false])
    | none => none) else none
  | .raw .nilIface => bif ok then (match zeroL tb a with
    | some z => some (.tup [.raw z, .bl false])
    | none => none) else none
  | _ => none
def opW (tb : Tab) (e : VEnv) : Op → Option (V × Option Prop)
  | .binOp op _ x y _ => match evV e x, evV e y with
    | some a, some b => match asI a, asI b with
      | some (k, i), some (k', j) => binW op k i k' j
      | _, _ => none
    | _, _ => none
  | .call { callee := .builtin .max, args := xs, argTypes := _ } => match xs.toList with
    | [x, y] => match evV e x, evV e y with
      | some a, some b => match mxV true a b with
        | some v => some (v, none)
        | none => none
      | _, _ => none
    | _ => none
  | .call { callee := .builtin .min, args := xs, argTypes := _ } => match xs.toList with
    | [x, y] => match evV e x, evV e y with
      | some a, some b => match mxV false a b with
        | some v => some (v, none)
        | none => none
      | _, _ => none
    | _ => none
  | .typeAssert x _ a ok => match evV e x, kindL tb a with
    | some v, some n => bif Nat.beq n 5 || Nat.beq n 0 then none else (match tyV tb a ok v with
      | some u => some (u, none)
      | none => none)
    | _, _ => none
  | _ => none

section
variable {C : Cx} {e : VEnv} {tb : Tab}
theorem toList_two {α : Type} {a : Array α} {x y : α} (h : a.toList = [x, y]) : a = #[x, y] := by
  cases a; simp at h; subst h; rfl
theorem binW_sound {x y : Operand} {t t' : TypeId} {op : BinOp} {k k' : IntKind} {i j : Int} {v : V} {p : Option Prop} {e : Env} (hx : ev e x = some (.int k i)) (hy : ev e y = some (.int k' j)) (h : binW op k i k' j = some (v, p)) (hp : holds p) : PV C e (.binOp op t x y t') v.val := by
  unfold binW at h
  split at h
  · cases h
    obtain ⟨h1, h2⟩ : holds (arI k (i * 2 ^ min j.toNat k.bits)).2 ∧ 0 ≤ j := hp
    refine ⟨fun o a w ho ok => ?_⟩
    have hn : ¬ j < 0 := by omega
    rw [arI_val h1]
    simp [execOp, ho, ok.eval hx, ok.eval hy, eqGuard, binOp, Op.shift, hn]
  · cases h
    have hp : 0 ≤ j := hp
    refine ⟨fun o a w ho ok => ?_⟩
    have hn : ¬ j < 0 := by omega
    simp [execOp, ho, ok.eval hx, ok.eval hy, eqGuard, binOp, Op.shift, hn, V.val]
  · cases hd : decide (k = k')
    · rw [hd] at h; cases h
    · rw [hd] at h
      obtain rfl := of_decide_eq_true hd
      simp only [cond_true] at h
      split at h
      · rename_i r hr
        cases h
        refine ⟨fun o a w ho ok => ?_⟩
        cases op <;> simp only [bitsZ, Option.some.injEq, reduceCtorEq] at hr <;> subst hr <;> simp [execOp, ho, ok.eval hx, ok.eval hy, eqGuard, binOp, Op.intBits, V.val]
      · cases h
theorem run_zero {P : Program} {w : World} {t : TypeId} {z : Go.Value} (h : zeroT P t = some z) : (zeroValue t).run P w = .ok z w := by
  unfold zeroT at h
  rw [Option.bind_eq_some_iff] at h
  obtain ⟨i, h1, h2⟩ := h
  simp [zeroValue, run_typeInfo_some h1, h2]
theorem mx_val {gt : Bool} {a b v : V} (h : mxV gt a b = some v) : ∃ k x k' y, a.val = .int k x ∧ b.val = .int k' y ∧ v.val = .int k (bif gt then max x y else min x y) := by
  unfold mxV at h
  split at h
  · rename_i x y
    cases h
    refine ⟨.i64, x, .i64, y, rfl, rfl, ?_⟩
    cases gt
    · show Go.Value.int .i64 (Int.ofNat (min x y)) = _
      rw [cond_false, Int.ofNat_eq_natCast]; congr 1; omega
    · show Go.Value.int .i64 (Int.ofNat (max x y)) = _
      rw [cond_true, Int.ofNat_eq_natCast]; congr 1; omega
  · split at h
    · rename_i k x k' y h1 h2
      cases h
      exact ⟨k, x, k', y, asI_val h1, asI_val h2, rfl⟩
    · cases h
theorem mx_run {gt : Bool} {x y : Operand} {a b v : V} {ts : Array TypeId} (hx : evV e x = some a) (hy : evV e y = some b) (h : mxV gt a b = some v) :
    PV C (rE e) (.call { callee := .builtin (bif gt then .max else .min), args := #[x, y], argTypes := ts }) v.val := by
  obtain ⟨k, i, k', j, h1, h2, h3⟩ := mx_val h
  have e1 := ev_re hx
  have e2 := ev_re hy
  rw [h1] at e1
  rw [h2] at e2
  rw [h3]
  refine ⟨fun o d w ho ok => ?_⟩
  cases gt
  · have : (if j < i then j else i) = min i j := by omega
    simp [execOp, ho, ok.eval e1, ok.eval e2, resolve, invoke, builtin, Builtin.min_, Builtin.min2, this]
  · have : (if i < j then j else i) = max i j := by omega
    simp [execOp, ho, ok.eval e1, ok.eval e2, resolve, invoke, builtin, Builtin.max_, Builtin.max2, this]
theorem ty_run (hT : TabOk C.P tb) {x : Operand} {s a : TypeId} {ok : Bool} {v u : V} {n : Nat} (hx : evV e x = some v) (hk : kindL tb a = some n) (hn : (Nat.beq n 5 || Nat.beq n 0) = false) (h : tyV tb a ok v = some u) : PV C (rE e) (.typeAssert x s a ok) u.val := by
  obtain ⟨k5, k0⟩ := p_mi_ok (kind_of hT hk) hn
  have e1 := ev_re hx
  obtain ⟨d, hu, hd⟩ : ∃ d, C.P.underlying a = some d ∧ ∀ m, d ≠ .interface m := by
    unfold kindT at k5 k0
    cases hu : C.P.underlying a with
    | none => simp [hu] at k0
    | some d => exact ⟨d, rfl, fun m hm => by subst hm; simp [hu] at k5⟩
  have hz : ∀ {z}, zeroL tb a = some z → ∀ w, (zeroValue a).run C.P w = .ok z w := fun h w => run_zero (zero_of hT h)
  unfold tyV at h
  split at h
  · rename_i t v
    cases hb : Nat.beq t a
    · rw [hb] at h
      simp only [cond_false] at h
      cases ok
      · cases h
      · simp only [cond_true] at h
        split at h
        · rename_i z hz'
          cases h
          have hne : ¬ t = a := fun he => by subst he; simp at hb
          refine ⟨fun o c w ho okk => ?_⟩
          have h1 := okk.eval e1
          simp only [V.val] at h1
          cases d <;> first | exact absurd rfl (hd _) | simp [execOp, ho, h1, Instr.typeAssert, run_underlying_some hu, hne, hz hz', V.val, V.vals]
        · cases h
    · rw [hb] at h
      obtain rfl := Nat.eq_of_beq_eq_true hb
      cases h
      refine ⟨fun o c w ho okk => ?_⟩
      have h1 := okk.eval e1
      simp only [V.val] at h1
      cases ok <;> cases d <;> first | exact absurd rfl (hd _) | simp [execOp, ho, h1, Instr.typeAssert, run_underlying_some hu, V.val, V.vals]
  · cases ok
    · cases h
    · simp only [cond_true] at h
      split at h
      · rename_i z hz'
        cases h
        refine ⟨fun o c w ho okk => ?_⟩
        have h1 := okk.eval e1
        simp only [V.val] at h1
        cases d <;> first | exact absurd rfl (hd _) | simp [execOp, ho, h1, Instr.typeAssert, run_underlying_some hu, hz hz', V.val, V.vals]
      · cases h
  · cases h
theorem opW_sound (hT : TabOk C.P tb) {op : Op} {v : V} {p : Option Prop} (h : opW tb e op = some (v, p)) (hp : holds p) : PV C (rE e) op v.val := by
  unfold opW at h
  split at h
  · split at h
    · rename_i a b hx hy
      split at h
      · rename_i k i k' j h1 h2
        have e1 := ev_re hx
        have e2 := ev_re hy
        rw [asI_val h1] at e1
        rw [asI_val h2] at e2
        exact binW_sound e1 e2 h hp
      · cases h
    · cases h
  · split at h
    · rename_i x y hxs
      obtain rfl := toList_two hxs
      split at h
      · rename_i a b hx hy
        split at h
        · rename_i u hm; cases h; exact mx_run (gt := true) hx hy hm
        · cases h
      · cases h
    · cases h
  · split at h
    · rename_i x y hxs
      obtain rfl := toList_two hxs
      split at h
      · rename_i a b hx hy
        split at h
        · rename_i u hm; cases h; exact mx_run (gt := false) hx hy hm
        · cases h
      · cases h
    · cases h
  · split at h
    · rename_i u n hx hk
      cases hn : (Nat.beq n 5 || Nat.beq n 0)
      · rw [hn] at h
        simp only [cond_false] at h
        split at h
        · rename_i r hr; cases h; exact ty_run hT hx hk hn hr
        · cases h
      · rw [hn] at h; cases h
    · cases h
  · cases h
end
def evSeqV (e : VEnv) : Nat → List (Nat × Operand) → Option (List V)
  | _, [] => some []
  | i, (j, x) :: r => match Nat.beq i j, evV e x, evSeqV e (i + 1) r with
    | true, some v, some vs => some (v :: vs)
    | _, _, _ => none

theorem seq_re {e : VEnv} : ∀ {i : Nat} {ps : List (Nat × Operand)} {vs : List V}, evSeqV e i ps = some vs → evSeq (rE e) i ps = some (V.vals vs)
  | i, [], vs, h => by simp only [evSeqV, Option.some.injEq] at h; subst h; rfl
  | i, (j, x) :: r, vs, h => by
    unfold evSeqV at h
    split at h
    · rename_i v vs' hb h1 h2
      cases h
      simp only [evSeq, hb, ev_re h1, seq_re h2, V.vals]
    · cases h

/-- An array written out: cells one by one. -/
def simple1 : V → Bool
  | .nat _ => true
  | .int _ _ => true
  | .bl _ => true
  | .bd _ _ => true
  | .str _ => true
  | _ => false
def arr1 (P : Program) (s : TypeId) (n : Nat) : Bool := match P.underlying s, P.info? s with
  | some (.array _ e), some i => match P.info? e, i.zero with
    | some j, some z => Nat.beq j.size 1 && Nat.beq z.cells.size n
    | _, _ => false
  | _, _ => false
def opA (P : Program) (e : VEnv) : Op → Option (V × Option Prop)
  | .build s parts => match evSeqV e 0 parts.toList with
    | some vs => bif vs.all simple1 then some (.agg vs, some (arr1 P s vs.length = true)) else none
    | none => none
  | _ => none
theorem simple_cells {v : V} (h : simple1 v = true) : v.val.cells = #[v.val] := by cases v <;> first | rfl | cases h
theorem simple_flat : ∀ {vs : List V}, vs.all simple1 = true → flatC (V.vals vs) = V.vals vs
  | [], _ => rfl
  | v :: vs, h => by
    simp only [List.all_cons, Bool.and_eq_true] at h
    have ih := simple_flat h.2
    simp only [flatC] at ih ⊢
    simp only [V.vals, List.flatMap_cons, ih, simple_cells h.1]
    rfl
section
variable {C : Cx} {e : VEnv} {tb : Tab}
theorem opA_sound {op : Op} {v : V} {p : Option Prop} (h : opA C.P e op = some (v, p)) (hp : holds p) : PV C (rE e) op v.val := by
  unfold opA at h
  split at h
  · rename_i s parts
    split at h
    · rename_i vs hvs
      cases ha : vs.all simple1
      · rw [ha] at h; cases h
      · rw [ha] at h
        cases h
        have hp : arr1 C.P s vs.length = true := hp
        unfold arr1 at hp
        split at hp
        · rename_i m et i hu hi
          split at hp
          · rename_i j z hj hz
            simp only [Bool.and_eq_true] at hp
            have h1 := Nat.eq_of_beq_eq_true hp.1
            have h2 := Nat.eq_of_beq_eq_true hp.2
            refine ⟨fun o a w ho ok => ?_⟩
            have hparts : (parts.map fun x => (x.1, a.eval x.2)).toList = ((V.vals vs).zipIdx 0).map fun x => (x.2, x.1) := by rw [Array.toList_map]; exact evSeq_eq ok parts.toList 0 _ (seq_re hvs)
            have hfill : Instr.fill (fun i => some (i * 1, 1)) z.cells (((V.vals vs).zipIdx 0).map fun x => (x.2, x.1)) = some (V.vals vs).toArray := by
              have h := fill_seq 1 (V.vals vs) 0 [] z.cells.toList (fun u hu => by
                rw [vals_map, List.mem_map] at hu
                obtain ⟨x, hx, rfl⟩ := hu
                rw [simple_cells (List.all_eq_true.1 ha x hx)]; rfl) (by simp) (by rw [Array.length_toList, h2, vals_length, Nat.mul_one])
              rw [List.nil_append, Array.toArray_toList, List.nil_append, simple_flat ha] at h
              exact h
            have hsz : (sizeOf et).run C.P w = .ok 1 w := by simp [sizeOf, typeInfo, hj, h1]
            have hzr : (zeroValue s).run C.P w = .ok z w := by simp [zeroValue, typeInfo, hi, hz]
            simp only [execOp, ho, Instr.build, Sem.run_bind, hzr, Result.andThen_ok, run_underlying_some hu, hsz, hparts, hfill, Sem.run_pure, V.val]
          · cases hp
        · cases hp
    · cases h
  · cases h
/-- All of them. -/
def opX (P : Program) (tb : Tab) (e : VEnv) (op : Op) : Option (V × Option Prop) := match opV P tb e op with
  | some r => some r
  | none => match opW tb e op with
    | some r => some r
    | none => opA P e op
theorem opX_sound (hT : TabOk C.P tb) {op : Op} {v : V} {p : Option Prop} (h : opX C.P tb e op = some (v, p)) (hp : holds p) : PV C (rE e) op v.val := by
  unfold opX at h
  split at h
  · rename_i r hr; cases h; exact opV_sound hT hr hp
  · split at h
    · rename_i r hr; cases h; exact opW_sound hT hr hp
    · exact opA_sound h hp
end
end Go.Fl
