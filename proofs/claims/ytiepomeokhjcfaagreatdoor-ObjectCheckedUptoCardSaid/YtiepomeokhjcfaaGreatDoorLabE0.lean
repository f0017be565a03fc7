/-
  A block of labels, and what lies behind them; slices without elements; lists cut off. No condition.
-/
import Derived.Test.YtiepomeokhjcfaaGreatDoorLabA
import Derived.Test.YtiepomeokhjcfaaGreatDoorCon
import Derived.Laws.MakeOwn
namespace Go.Fl
open Go.Proofs
set_option maxRecDepth 10000
set_option maxHeartbeats 4000000

/-! a block of labels, and what lies behind them -/
def blockL (M : List Lab) (spare : List Go.Value) : Array Go.Value := (cellsL M ++ spare).toArray
theorem cellsL_length : ∀ M : List Lab, (cellsL M).length = M.length * 2
  | [] => rfl
  | x :: M => by simp only [cellsL, List.length_cons, cellsL_length M]; omega
theorem cellsL_get : ∀ (M : List Lab) (j : Nat) (x : Lab), M[j]? = some x → (cellsL M)[j * 2]? = some (.string x.1) ∧ (cellsL M)[j * 2 + 1]? = some (.string x.2)
  | [], j, x, h => by simp at h
  | y :: M, 0, x, h => by simp at h; subst h; exact ⟨rfl, rfl⟩
  | y :: M, j + 1, x, h => by
    have := cellsL_get M j x (by simpa using h)
    rw [show (j + 1) * 2 = j * 2 + 1 + 1 by omega]
    exact this
theorem block_at {M : List Lab} {spare : List Go.Value} {j : Nat} {x : Lab} (h : M[j]? = some x) : cellsAt (blockL M spare) (0 + j * 2) 2 = some [.string x.1, .string x.2] := by
  obtain ⟨h1, h2⟩ := cellsL_get M j x h
  have hl := cellsL_length M
  have hj := (List.getElem?_eq_some_iff.1 h).1
  simp only [cellsAt, lget_eq, blockL, Nat.zero_add]
  rw [List.getElem?_append_left (by omega), List.getElem?_append_left (by omega), h1, h2]
theorem cellsL_set : ∀ (M : List Lab) (j : Nat) (x : Lab), j < M.length → cellsL (M.set j x) = ((cellsL M).set (j * 2) (.string x.1)).set (j * 2 + 1) (.string x.2)
  | [], j, x, h => by simp at h
  | y :: M, 0, x, h => rfl
  | y :: M, j + 1, x, h => by
    have := cellsL_set M j x (by simpa using h)
    rw [show (j + 1) * 2 = j * 2 + 1 + 1 by omega]
    simp only [List.set_cons_succ, cellsL, this]
theorem block_lay {M : List Lab} {spare : List Go.Value} {j : Nat} (x : Lab) (h : j < M.length) : lay (blockL M spare) (0 + j * 2) [.string x.1, .string x.2] = blockL (M.set j x) spare := by
  have hl := cellsL_length M
  simp only [lay, blockL, Nat.zero_add, List.setIfInBounds_toArray]
  rw [cellsL_set M j x h, List.set_append_left _ _ (by omega), List.set_append_left _ _ (by rw [List.length_set]; omega)]
theorem block_size (M : List Lab) (spare : List Go.Value) : (blockL M spare).size = M.length * 2 + spare.length := by simp [blockL, cellsL_length]

section
variable {C : Cx} {k : List Item} {e : Env} {hs : Hs}
theorem rcn {P : Program} {f : FuncId} {fn : Func} {hf : P.funcs[f]? = some fn} {n : Nat} {w0 : World} {ids : List Nat} {post : Go.Value → Hs → Prop} (hr : fn.results = #[]) (hp : post (.tuple #[]) hs) :
    Run ⟨P, f, fn, hf, n, w0, ids, ConPost w0 ids post, none, []⟩ (.code .ret :: k) e hs :=
  rc_ret (ts := []) (vs := []) (by rw [hr]; rfl) rfl hp
theorem p_sn {x : Operand} {a : Option Addr} {n c : Nat} {t t' : TypeId} (hx : ev e x = some (.slice a n c)) (hk : kindT C.P t = 1) : PV C e (.binOp .eql t x (.const (.slice none 0 0)) t') (.bool a.isNone) := by
  refine ⟨fun o d w ho ok => ?_⟩
  have hc : d.eval (.const (.slice none 0 0)) = .slice none 0 0 := rfl
  have h : ∀ m, (Op.equalIn (m + 1) t (.slice a n c) (.slice none 0 0)).run C.P w = .ok a.isNone w := by
    intro m
    unfold kindT at hk
    unfold Op.equalIn
    cases hu : C.P.underlying t with
    | none => simp [hu] at hk
    | some u => cases u <;> simp [hu] at hk; cases a <;> simp [underlying, hu]
  simp only [execOp, ho, ok.eval hx, hc, eqGuard, binOp, Op.equal, Op.maxDepth]
  simp [h 9999]
end

section
variable {C : Cx} {ops : Array Oper} {rest : List Oper} {k : List Item} {e : Env} {hs : Hs} {d : Nat} {ty : TypeId} {pos : String} {af : Array Edge} {tb : Tab}
/-- '[]T{}'. -/
theorem bs0 {t et : TypeId} {sz : Nat} (hT : TabOk C.P tb) (hd : Nat.blt d C.N = true) (ht : elemL tb t = some (et, sz)) (h1 : sizeL tb et = some sz)
    (next : ∀ b, Ops C ops rest k ((d, .slice (some ⟨b, 0, none⟩) 0 0) :: e) ((b, .cells #[] et) :: hs)) : Ops C ops (⟨some d, .buildSlice t 0 #[], ty, pos, af, none⟩ :: rest) k e hs := by
  have hu : C.P.underlying t = some (.slice et) := by
    have := elem_of hT ht
    unfold elemT at this
    cases hu : C.P.underlying t with
    | none => simp [hu] at this
    | some u => cases u <;> simp [hu] at this; obtain ⟨_, _, rfl, _⟩ := this; rfl
  refine op_some (Φ := fun v' hs' => ∃ b, v' = .slice (some ⟨b, 0, none⟩) 0 0 ∧ hs' = (b, .cells #[] et) :: hs) hd (fun a w ok => ⟨_, _, _, ?_, ok.st.push _, _, rfl, rfl⟩) ?_
  · have hsz := run_sizeOf (w := w) (size_of hT h1)
    simp [execOp, Instr.buildSlice, run_underlying_some hu, hsz, Instr.fill, newRow, Array.range_zero']
  · rintro v' hs' ⟨b, rfl, rfl⟩; exact next b
/-- Nothing is appended. -/
theorem p_az {t et : TypeId} {x y : Operand} {g n cap c sz : Nat} {b : Option Addr} (hT : TabOk C.P tb) (hx : ev e x = some (.slice (some ⟨g, 0, none⟩) n cap)) (hy : ev e y = some (.slice b 0 c)) (ht : elemL tb t = some (et, sz)) (h1 : sizeL tb et = some sz) (hn : n ≤ cap) :
    PV C e (.call { callee := .builtin .append, args := #[x, y], argTypes := #[t, t] }) (.slice (some ⟨g, 0, none⟩) n cap) := by
  have hu : C.P.underlying t = some (.slice et) := by
    have := elem_of hT ht
    unfold elemT at this
    cases hu : C.P.underlying t with
    | none => simp [hu] at this
    | some u => cases u <;> simp [hu] at this; obtain ⟨_, _, rfl, _⟩ := this; rfl
  refine ⟨fun o a w ho ok => ?_⟩
  have hsz := run_sizeOf (w := w) (size_of hT h1)
  have hfc : (Builtin.firstCells sz 0 (.slice b 0 c)).run C.P w = .ok #[] w := by
    cases b <;> simp [Builtin.firstCells, loadCells, loadCellsFrom]
  simp only [execOp, ho, resolve, invoke]
  simp [ok.eval hx, ok.eval hy, builtin, Builtin.append_, run_underlying_some hu, hsz, Builtin.lenOf, hn, hfc, storeCells]
end

theorem grew_block {L : List Lab} {g m cap : Nat} {cur : Array Go.Value} {xs : List Go.Value} (hg : Grew g m cap 2 cur xs) (hx : xs = cellsL L) (_ : m = L.length) : ∃ spare, cur = blockL L spare := by
  refine ⟨cur.toList.drop (m * 2), ?_⟩
  have h := hg.cells
  rw [hx] at h
  unfold blockL
  rw [← h, List.take_append_drop]

section
variable {C : Cx} {e : Env}
/-- x[:hi] of a slice: its start stays. -/
theorem p_sh {x h : Operand} {b off n c j : Nat} {t et : TypeId} {sz : Nat} {kd : IntKind} (hx : ev e x = some (.slice (some ⟨b, off, none⟩) n c)) (ht : elemT C.P t = some (et, sz)) (hh : ev e h = some (.int kd (Int.ofNat j))) (hj : j ≤ c) :
    PV C e (.slice t x none (some h) none) (.slice (some ⟨b, off, none⟩) j c) := by
  have := p_sl (C := C) (e := e) (x := x) (lo := none) (hi := some h) (i := 0) (j := j) hx ht rfl ⟨kd, hh⟩ (Nat.zero_le _) hj
  simpa using this
end

theorem LabAt.take {w : World} {a : Option Addr} {L : List Lab} (h : LabAt w a L) (i : Nat) : LabAt w a (L.take i) := by
  refine ⟨fun b off ha => ?_, fun hne => h.is (fun hL => hne (by rw [hL]; simp))⟩
  have hr := h.go b off ha
  clear h ha
  induction L generalizing i off with
  | nil => simpa using hr
  | cons x L ih =>
    cases i with
    | zero => trivial
    | succ i =>
      obtain ⟨h1, h2, h3⟩ := hr
      refine ⟨h1, h2, ?_⟩
      rw [add_none, add_none] at h3 ⊢
      exact ih i _ h3
end Go.Fl
