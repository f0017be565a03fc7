/-
  Slices written out, of whatever length. No condition.
-/
import Derived.Test.YtiepomeokhjcfaaGreatDoorCon
import Derived.Laws.IdiomStrings
namespace Go.Fl
open Go.Proofs Go.RowKit

def evSeq (e : Env) : Nat → List (Nat × Operand) → Option (List Value)
  | _, [] => some []
  | i, (j, x) :: r => match Nat.beq i j, ev e x, evSeq e (i + 1) r with
    | true, some v, some vs => some (v :: vs)
    | _, _, _ => none
theorem evSeq_eq {e : Env} {a : Act} (h : EnvOk e a) : ∀ (l : List (Nat × Operand)) (i : Nat) (vs : List Value), evSeq e i l = some vs → l.map (fun x => (x.1, a.eval x.2)) = (vs.zipIdx i).map (fun x => (x.2, x.1)) := by
  intro l
  induction l with
  | nil => intro i vs h; simp [evSeq] at h; subst h; rfl
  | cons x l ih =>
    obtain ⟨j, x⟩ := x
    intro i vs hv
    unfold evSeq at hv
    split at hv
    · rename_i v vs' hb hx hvs
      cases hv
      obtain rfl : i = j := Nat.eq_of_beq_eq_true hb
      simp [ih (i + 1) vs' hvs, h.eval hx]
    · cases hv

def flatC (vs : List Value) : List Value := vs.flatMap fun v => v.cells.toList
theorem lay_mid (vs : List Value) : ∀ (pre c : List Value), vs.length ≤ c.length → lay (pre ++ c).toArray pre.length vs = (pre ++ vs ++ c.drop vs.length).toArray := by
  induction vs with
  | nil => intro pre c _; simp [lay]
  | cons v vs ih =>
    intro pre c h
    cases c with
    | nil => simp at h
    | cons x c =>
      have := ih (pre ++ [v]) c (by simpa using h)
      simp only [List.length_append, List.length_cons, List.length_nil, List.append_assoc, List.singleton_append] at this
      simp only [lay]
      have e1 : (pre ++ x :: c).toArray.setIfInBounds pre.length v = (pre ++ v :: c).toArray := by simp
      rw [e1]
      simp only [List.append_assoc, List.cons_append, List.length_cons, List.drop_succ_cons]
      exact this

theorem fill_seq (sz : Nat) : ∀ (vs : List Value) (i : Nat) (pre c : List Value), (∀ v ∈ vs, v.cells.size = sz) → pre.length = i * sz → c.length = vs.length * sz →
    Instr.fill (fun i => some (i * sz, sz)) (pre ++ c).toArray ((vs.zipIdx i).map fun x => (x.2, x.1)) = some (pre ++ flatC vs).toArray := by
  intro vs
  induction vs with
  | nil => intro i pre c _ _ hc; simp at hc; subst hc; rfl
  | cons v vs ih =>
    intro i pre c hv hp hc
    have hv1 : v.cells.size = sz := hv v (by simp)
    simp only [List.zipIdx_cons, List.map_cons, Instr.fill]
    rw [if_neg (by
      simp only [hv1, ne_eq, not_true_eq_false, decide_false, Bool.false_or, decide_eq_true_eq, List.size_toArray, List.length_append, hp, hc, List.length_cons, Nat.add_mul]
      omega)]
    rw [← Array.foldl_toList, Array.toList_zipIdx, fill_lay]
    have hl : v.cells.toList.length ≤ c.length := by rw [Array.length_toList, hv1, hc, List.length_cons, Nat.add_mul]; omega
    have h1 := lay_mid v.cells.toList pre c hl
    rw [hp] at h1
    rw [show i * sz + 0 = i * sz from rfl, h1]
    have h2 := ih (i + 1) (pre ++ v.cells.toList) (c.drop v.cells.toList.length) (fun u hu => hv u (by simp [hu])) (by simp [hp, hv1, Nat.add_mul]) (by
      have h5 : v.cells.toList.length = sz := by rw [Array.length_toList, hv1]
      rw [List.length_drop, hc, h5, List.length_cons, Nat.add_mul]; omega)
    rw [h2]
    simp [flatC]

section
variable {C : Cx} {ops : Array Oper} {rest : List Oper} {k : List Item} {e : Env} {hs hs' : Hs} {d : Nat} {ty : TypeId} {pos : String} {af : Array Edge} {tb : Tab}
/-- Elements written out: '[]T{x, y, ..}'. -/
theorem bsn {t et : TypeId} {n : Nat} {parts : Array (Nat × Operand)} {sz : Nat} {z : Value} {vs : List Value} (hT : TabOk C.P tb) (hd : Nat.blt d C.N = true) (hp : evSeq e 0 parts.toList = some vs) (hn : vs.length = n) (ht : elemL tb t = some (et, sz)) (h1 : sizeL tb et = some sz)
    (h3 : zeroL tb et = some z) (_ : z.cells.size = sz) (hv : ∀ v ∈ vs, v.cells.size = sz) (hs0 : Nat.blt 0 (n * sz) = true) (hs1 : Nat.ble (n * sz) 16777216 = true)
    (next : ∀ b, Ops C ops rest k ((d, .slice (some ⟨b, 0, none⟩) n n) :: e) ((b, .cells (flatC vs).toArray et) :: hs)) : Ops C ops (⟨some d, .buildSlice t n parts, ty, pos, af, none⟩ :: rest) k e hs := by
  have hs0' : 0 < n * sz := Nat.le_of_ble_eq_true hs0
  have hs1' : n * sz ≤ 16777216 := Nat.le_of_ble_eq_true hs1
  have hu : C.P.underlying t = some (.slice et) := by
    have := elem_of hT ht
    unfold elemT at this
    cases hu : C.P.underlying t with
    | none => simp [hu] at this
    | some u => cases u <;> simp [hu] at this; obtain ⟨_, _, rfl, _⟩ := this; rfl
  refine op_some (Φ := fun v' hs' => ∃ b, v' = .slice (some ⟨b, 0, none⟩) n n ∧ hs' = (b, .cells (flatC vs).toArray et) :: hs) hd (fun a w ok => ⟨_, _, _, ?_, ok.st.push _, _, rfl, rfl⟩) ?_
  · have hsz := run_sizeOf (w := w) (size_of hT h1)
    have hzz := zero_of hT h3
    have hzr : (zeroValue et).run C.P w = .ok z w := by
      unfold zeroT at hzz
      cases hi : C.P.info? et with
      | none => simp [hi] at hzz
      | some i => simp [hi] at hzz; simp [zeroValue, typeInfo, hi, hzz]
    have hparts : (parts.map fun x => (x.1, a.eval x.2)).toList = (vs.zipIdx 0).map fun x => (x.2, x.1) := by rw [Array.toList_map]; exact evSeq_eq ok.e parts.toList 0 vs hp
    have hfill : Instr.fill (fun i => some (i * sz, sz)) ((Array.range (n * sz)).map (z.cells[· % z.cells.size]!)) ((vs.zipIdx 0).map fun x => (x.2, x.1)) = some (flatC vs).toArray := by
      have h := fill_seq sz vs 0 [] ((Array.range (n * sz)).map (z.cells[· % z.cells.size]!)).toList hv (by simp) (by simp [hn])
      rw [List.nil_append, Array.toArray_toList] at h
      exact h
    have hn1 : ¬ (n * sz > 2 ^ 24) := by simp; omega
    have hn2 : ¬ (n * sz = 0) := by omega
    simp only [execOp, Instr.buildSlice, run_underlying_some hu, Sem.run_bind, Result.andThen_ok, hsz, if_neg hn1, if_neg hn2, Sem.run_pure, hzr, hparts, hfill]
    simp [newRow]
  · rintro v' hs' ⟨b, rfl, rfl⟩; exact next b

theorem bsq {t et : TypeId} {n : Nat} {parts : Array (Nat × Operand)} {sz : Nat} {z : Value} {vs : List Value} (hT : TabOk C.P tb) (hd : Nat.blt d C.N = true) (hp : evSeq e 0 parts.toList = some vs) (hn : vs.length = n) (ht : elemL tb t = some (et, sz)) (h1 : sizeL tb et = some sz)
    (h3 : zeroL tb et = some z) (hz : z.cells.size = sz) (hv : (vs.all fun v => Nat.beq v.cells.size sz) = true) (hs0 : Nat.blt 0 (n * sz) = true) (hs1 : Nat.ble (n * sz) 16777216 = true)
    (next : ∀ b, Ops C ops rest k ((d, .slice (some ⟨b, 0, none⟩) n n) :: e) ((b, .cells (flatC vs).toArray et) :: hs)) : Ops C ops (⟨some d, .buildSlice t n parts, ty, pos, af, none⟩ :: rest) k e hs :=
  bsn hT hd hp hn ht h1 h3 hz (fun v hm => Nat.eq_of_beq_eq_true (List.all_eq_true.1 hv v hm)) hs0 hs1 next

theorem p_ng {x : Operand} {a : Int} {kd : IntKind} {t : TypeId} (hx : ev e x = some (.int kd a)) : PV C e (.unOp .neg t x) (.int kd (kd.wrap (-a))) :=
  ⟨fun o d w ho ok => by simp [execOp, ho, ok.eval hx, Op.unary, Op.intArith]⟩
theorem p_a0 {x y : Operand} {a : Nat} {t t' : TypeId} (hx : ev e x = some (.int .i64 (Int.ofNat a))) (hy : ev e y = some (.int .i64 0)) (ha : a < 9223372036854775808) : PV C e (.binOp .add t x y t') (.int .i64 (a : Int)) :=
  p_ar hx hy (c := (a : Int)) (by show some (IntKind.i64.wrap ((a : Int) + 0)) = _; rw [wrap_i64 (by omega) (by omega)]; simp)
theorem p_rm {x : Operand} {a m : Int} {kd : IntKind} {t t' : TypeId} (hx : ev e x = some (.int kd a)) (hm : m ≠ 0) : PV C e (.binOp .rem t x (.const (.int kd m)) t') (.int kd (a.tmod m)) :=
  ⟨fun o d w ho ok => by
    have hy : d.eval (.const (.int kd m)) = .int kd m := rfl
    simp [execOp, ho, ok.eval hx, hy, eqGuard, binOp, Op.intDiv, hm]⟩
theorem p_qt {x : Operand} {a m : Int} {kd : IntKind} {t t' : TypeId} (hx : ev e x = some (.int kd a)) (hm : m ≠ 0) : PV C e (.binOp .quo t x (.const (.int kd m)) t') (.int kd (kd.wrap (a.tdiv m))) :=
  ⟨fun o d w ho ok => by
    have hy : d.eval (.const (.int kd m)) = .int kd m := rfl
    simp [execOp, ho, ok.eval hx, hy, eqGuard, binOp, Op.intDiv, hm]⟩
/-- A text of our own bytes. -/
theorem r_cs (i : Nat) {x : Operand} {src dst et t' : TypeId} {b c : Nat} {cur : Array Value} {l : List UInt8} (hx : ev e x = some (.slice (some ⟨b, 0, none⟩) l.length c)) (hs : C.P.underlying src = some (.slice et)) (he : C.P.underlying et = some (.int .u8))
    (hd : C.P.underlying dst = some .string) (hi : hs'[i]? = some (b, .cells cur t')) (hc : cur.toList.take l.length = l.map fun c => .int .u8 (c.toNat : Int)) : RV C e hs' (.convert src dst x) (.string ⟨l.toArray⟩) := by
  refine RV.of_same fun o a w ho ok => ?_
  have hb : w.heap[b]? = some (.cells cur t' (0, 0)) := ok.st.has _ (List.mem_of_getElem? hi)
  have h := run_convert_bytes_back (P := C.P) w src dst et ⟨b, 0, none⟩ c l hs he hd (fun j hj => by
    have h1 : (cur.toList.take l.length)[j]? = some (.int .u8 (l[j].toNat : Int)) := by rw [hc]; simp [hj]
    rw [List.getElem?_take, if_pos hj] at h1
    rw [add_none]
    simp [World.cell?, hb]
    simpa using h1)
  simp [execOp, ho, ok.e.eval hx, h]
end
end Go.Fl
