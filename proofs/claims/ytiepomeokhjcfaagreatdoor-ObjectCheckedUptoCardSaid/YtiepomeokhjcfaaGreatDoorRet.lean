/-
  Contracts of functions that answer data and leave what was there as it was; ranges over strings. No condition.
-/
import Derived.Test.YtiepomeokhjcfaaGreatDoorRules
import Derived.Laws.RangeAny
import Derived.Lib.Strings
namespace Go.Fl
open Go.RowKit

/-- Called with these values in a world that fits, it answers this value; what was there stays. -/
structure RetIf (P : Program) (f : FuncId) (args : List Value) (pre : World → Prop) (v : Value) : Prop where
  go : ∀ w, pre w → Calls P f args.toArray w fun en w' => en = .returned v ∧ Below w.heap.size w w'

def RetPost (w : World) (v : Value) : Ending → World → Prop := fun en w' => en = .returned v ∧ Below w.heap.size w w'

theorem ret_start {P : Program} {f : FuncId} {fn : Func} {c : Code} {args : List Value} {pre : World → Prop} {v : Value} {n : Nat}
    (hf : P.funcs[f]? = some fn) (hb : fn.body = some c) (hn : fn.ntmps = n) (hle : Nat.ble args.length n = true)
    (h : ∀ w, pre w → Run ⟨P, f, fn, hf, n, w, [], RetPost w v, none, []⟩ [.code c] (args.zipIdx.map fun x => (x.2, x.1)) []) : RetIf P f args pre v := by
  exact ⟨fun w hp => calls_of_run hf hb hn (by simpa using Nat.le_of_ble_eq_true hle) [] [] (St.start w) (h w hp)⟩

section starts
variable {P : Program} {f : FuncId} {fn : Func} {c : Code} {pre : World → Prop} {v : Value} {n : Nat} {v0 v1 v2 v3 v4 v5 : Value}
theorem ret_start0 (hf : P.funcs[f]? = some fn) (hb : fn.body = some c) (hn : fn.ntmps = n)
    (h : ∀ w, pre w → Run ⟨P, f, fn, hf, n, w, [], RetPost w v, none, []⟩ [.code c] [] []) : RetIf P f [] pre v :=
  ret_start hf hb hn (by simp) h
theorem ret_start1 (hf : P.funcs[f]? = some fn) (hb : fn.body = some c) (hn : fn.ntmps = n) (hle : Nat.ble 1 n = true)
    (h : ∀ w, pre w → Run ⟨P, f, fn, hf, n, w, [], RetPost w v, none, []⟩ [.code c] [(0, v0)] []) : RetIf P f [v0] pre v :=
  ret_start hf hb hn hle h
theorem ret_start2 (hf : P.funcs[f]? = some fn) (hb : fn.body = some c) (hn : fn.ntmps = n) (hle : Nat.ble 2 n = true)
    (h : ∀ w, pre w → Run ⟨P, f, fn, hf, n, w, [], RetPost w v, none, []⟩ [.code c] [(0, v0), (1, v1)] []) : RetIf P f [v0, v1] pre v :=
  ret_start hf hb hn hle h
theorem ret_start3 (hf : P.funcs[f]? = some fn) (hb : fn.body = some c) (hn : fn.ntmps = n) (hle : Nat.ble 3 n = true)
    (h : ∀ w, pre w → Run ⟨P, f, fn, hf, n, w, [], RetPost w v, none, []⟩ [.code c] [(0, v0), (1, v1), (2, v2)] []) : RetIf P f [v0, v1, v2] pre v :=
  ret_start hf hb hn hle h
theorem ret_start4 (hf : P.funcs[f]? = some fn) (hb : fn.body = some c) (hn : fn.ntmps = n) (hle : Nat.ble 4 n = true)
    (h : ∀ w, pre w → Run ⟨P, f, fn, hf, n, w, [], RetPost w v, none, []⟩ [.code c] [(0, v0), (1, v1), (2, v2), (3, v3)] []) : RetIf P f [v0, v1, v2, v3] pre v :=
  ret_start hf hb hn hle h
theorem ret_start5 (hf : P.funcs[f]? = some fn) (hb : fn.body = some c) (hn : fn.ntmps = n) (hle : Nat.ble 5 n = true)
    (h : ∀ w, pre w → Run ⟨P, f, fn, hf, n, w, [], RetPost w v, none, []⟩ [.code c] [(0, v0), (1, v1), (2, v2), (3, v3), (4, v4)] []) : RetIf P f [v0, v1, v2, v3, v4] pre v :=
  ret_start hf hb hn hle h
end starts

theorem RetIf.mono {P : Program} {f : FuncId} {args : List Value} {pre pre' : World → Prop} {v : Value} (h : RetIf P f args pre v) (hp : ∀ w, pre' w → pre w) : RetIf P f args pre' v :=
  ⟨fun w hw => h.go w (hp w hw)⟩

section
variable {C : Cx} {ops : Array Oper} {rest : List Oper} {k : List Item} {e : Env} {hs : Hs} {d : Nat} {ty : TypeId} {pos : String} {af : Array Edge}

/-- A call of a function with such a contract. -/
theorem op_callRI {f : FuncId} {xs : List Operand} {vs : List Value} {at_ : Array TypeId} {v : Value} {pre : World → Prop} (hd : Nat.blt d C.N = true) (hf : isFn C.P f = true) (hx : evAll e xs = some vs)
    (h : RetIf C.P f vs pre v) (hp : ∀ w, St C.W0 C.own hs w → pre w) (next : Ops C ops rest k ((d, v) :: e) hs) :
    Ops C ops (⟨some d, .call { callee := .value (.func f), args := xs.toArray, argTypes := at_ }, ty, pos, af, none⟩ :: rest) k e hs := by
  refine op_callF (Φ := fun v' hs' => v' = v ∧ hs' = hs) hd hf hx (fun w hst => Calls.mono (h.go w (hp w hst)) ?_) ?_
  · rintro en w' ⟨rfl, hb⟩
    exact ⟨v, hs, rfl, hst.keep hb, rfl, rfl⟩
  · rintro v' hs' ⟨rfl, rfl⟩; exact next

theorem cr {f : FuncId} {xs : List Operand} {vs : List Value} {at_ : Array TypeId} {v : Value} (hd : Nat.blt d C.N = true) (hf : isFn C.P f = true) (hx : evAll e xs = some vs)
    (h : RetIf C.P f vs (fun _ => True) v) (next : Ops C ops rest k ((d, v) :: e) hs) :
    Ops C ops (⟨some d, .call { callee := .value (.func f), args := xs.toArray, argTypes := at_ }, ty, pos, af, none⟩ :: rest) k e hs :=
  op_callRI hd hf hx h (fun _ _ => trivial) next

section rets
variable {k : List Item} {P : Program} {f : FuncId} {fn : Func} {hf : P.funcs[f]? = some fn} {n : Nat} {w0 : World} {v x y z : Value} {t t2 t3 : Nat}
theorem rr0 (hr : fn.results = #[]) (hv : v = .tuple #[]) : Run ⟨P, f, fn, hf, n, w0, [], RetPost w0 v, none, []⟩ [] e hs :=
  run_end hr (fun _ hst => ⟨by rw [hv], hst.below⟩)
theorem rr1 (hr : fn.results = #[.tmp t]) (hg : eget e t = some x) (hv : v = x) : Run ⟨P, f, fn, hf, n, w0, [], RetPost w0 v, none, []⟩ (.code .ret :: k) e hs :=
  run_ret (ts := [t]) (vs := [x]) hr (by simp [getAll, hg]) (fun _ hst => ⟨by rw [hv]; rfl, hst.below⟩)
theorem rr2 (hr : fn.results = #[.tmp t, .tmp t2]) (hg : eget e t = some x) (hg2 : eget e t2 = some y) (hv : v = .tuple #[x, y]) : Run ⟨P, f, fn, hf, n, w0, [], RetPost w0 v, none, []⟩ (.code .ret :: k) e hs :=
  run_ret (ts := [t, t2]) (vs := [x, y]) hr (by simp [getAll, hg, hg2]) (fun _ hst => ⟨by rw [hv]; rfl, hst.below⟩)
theorem rr3 (hr : fn.results = #[.tmp t, .tmp t2, .tmp t3]) (hg : eget e t = some x) (hg2 : eget e t2 = some y) (hg3 : eget e t3 = some z) (hv : v = .tuple #[x, y, z]) : Run ⟨P, f, fn, hf, n, w0, [], RetPost w0 v, none, []⟩ (.code .ret :: k) e hs :=
  run_ret (ts := [t, t2, t3]) (vs := [x, y, z]) hr (by simp [getAll, hg, hg2, hg3]) (fun _ hst => ⟨by rw [hv]; rfl, hst.below⟩)
end rets

/-! ranges over strings -/
theorem rs {x : Operand} {s : ByteArray} {t : TypeId} (hd : Nat.blt d C.N = true) (hx : ev e x = some (.string s)) (ht : kindT C.P t = 2)
    (next : ∀ b, Ops C ops rest k ((d, .pointer (some ⟨b, 0, none⟩)) :: e) ((b, .stringIter s 0) :: hs)) : Ops C ops (⟨some d, .range t x, ty, pos, af, none⟩ :: rest) k e hs := by
  refine op_some (Φ := fun v hs' => ∃ b, v = .pointer (some ⟨b, 0, none⟩) ∧ hs' = (b, .stringIter s 0) :: hs) hd (fun _ w ok => ⟨_, _, _, ?_, ok.st.push _, _, rfl, rfl⟩) ?_
  · unfold kindT at ht
    cases hu : C.P.underlying t with
    | none => simp [hu] at ht
    | some u =>
      cases u <;> simp [hu] at ht
      simp [execOp, ok.e.eval hx, Instr.range, underlying, hu]
  · rintro v hs' ⟨b, rfl, rfl⟩; exact next b

theorem run_getObj_iter {P : Program} {w : World} {b : Nat} {s : ByteArray} {p : Nat} (hb : w.heap[b]? = some (.stringIter s p)) : (getObj b).run P w = .ok (.stringIter s p) w := by
  simp [getObj, Sem.run, hb]

theorem run_setObj_iter {P : Program} {w : World} {b : Nat} {s : ByteArray} {p : Nat} (hb : w.heap[b]? = some (.stringIter s p)) (o : Obj) :
    (setObj b o).run P w = .ok () { w with heap := w.heap.setIfInBounds b o } := by
  simp [setObj, Sem.run, hb]

/-- The next rune, where there is one. -/
theorem ns0 (i : Nat) {x : Operand} {b p : Nat} {s : ByteArray} (hp : p < s.size) (hd : Nat.blt d C.N = true) (hx : ev e x = some (.pointer (some ⟨b, 0, none⟩))) (hi : hs[i]? = some (b, .stringIter s p))
    (next : Ops C ops rest k ((d, .tuple #[.bool true, .int .i64 (p : Int), .int .i32 ((Utf8.decode s p).1 : Int)]) :: e) (hs.set i (b, .stringIter s (p + (Utf8.decode s p).2)))) :
    Ops C ops (⟨some d, .next x true, ty, pos, af, none⟩ :: rest) k e hs := by
  refine op_val hd (fun _ w ok => ?_) next
  have hb : w.heap[b]? = some (.stringIter s p) := ok.st.has _ (List.mem_of_getElem? hi)
  have hlt : b < w.heap.size := (Array.getElem?_eq_some_iff.1 hb).1
  refine ⟨{ w with heap := w.heap.setIfInBounds b (.stringIter s (p + (Utf8.decode s p).2)) }, ?_, ?_⟩
  · simp [execOp, ok.e.eval hx, Instr.next, run_getObj_iter hb, run_setObj_iter hb, hp, goInt]
  · exact ok.st.set hi rfl rfl rfl (by simp) (by simp [hlt]) (fun k hk => by simp [Array.getElem?_setIfInBounds_ne (Ne.symm hk)])
theorem ns (i : Nat) {x : Operand} {b p r wd : Nat} {s : ByteArray} (hdec : Utf8.decode s p = (r, wd)) (hp : p < s.size) (hd : Nat.blt d C.N = true) (hx : ev e x = some (.pointer (some ⟨b, 0, none⟩))) (hi : hs[i]? = some (b, .stringIter s p))
    (next : Ops C ops rest k ((d, .tuple #[.bool true, .int .i64 (p : Int), .int .i32 (r : Int)]) :: e) (hs.set i (b, .stringIter s (p + wd)))) :
    Ops C ops (⟨some d, .next x true, ty, pos, af, none⟩ :: rest) k e hs := by
  refine ns0 i hp hd hx hi ?_
  rw [hdec]; exact next

theorem ne (i : Nat) {x : Operand} {b p : Nat} {s : ByteArray} (hd : Nat.blt d C.N = true) (hx : ev e x = some (.pointer (some ⟨b, 0, none⟩))) (hi : hs[i]? = some (b, .stringIter s p)) (hp : s.size ≤ p)
    (next : Ops C ops rest k ((d, .tuple #[.bool false]) :: e) hs) :
    Ops C ops (⟨some d, .next x true, ty, pos, af, none⟩ :: rest) k e hs := by
  refine op_val hd (fun _ w ok => ⟨w, ?_, ok.st⟩) next
  have hb : w.heap[b]? = some (.stringIter s p) := ok.st.has _ (List.mem_of_getElem? hi)
  have : ¬ p < s.size := by omega
  simp [execOp, ok.e.eval hx, Instr.next, run_getObj_iter hb, this]
end

/-! bytes and runes -/
theorem size_tl (s : ByteArray) : s.size = (tl s).length := by show s.data.size = s.data.toList.length; rw [Array.length_toList]
theorem drop_tl (s : ByteArray) (p : Nat) (h : p < s.size) : (tl s).drop p = (tl s).getD p 0 :: (tl s).drop (p + 1) := by
  have h' : p < (tl s).length := by rw [← size_tl]; exact h
  rw [List.drop_eq_getElem_cons h', List.getD_eq_getElem?_getD, List.getElem?_eq_getElem h']; rfl
theorem getD_tl (s : ByteArray) (p : Nat) (h : p < s.size) : (tl s).getD p 0 = s[p] := by
  have h2 : p < s.data.size := h
  show s.data.toList.getD p 0 = s[p]
  rw [List.getD_eq_getElem?_getD, Array.getElem?_toList, Array.getElem?_eq_getElem h2]; rfl
theorem dec_low (s : ByteArray) (p : Nat) (h : p < s.size) (ha : ((tl s).getD p 0).toNat < 128) : Utf8.decode s p = (((tl s).getD p 0).toNat, 1) := by
  rw [getD_tl s p h] at ha ⊢
  exact decode_ascii s p h ha
theorem dec_high (s : ByteArray) (p : Nat) (h : p < s.size) (ha : 128 ≤ ((tl s).getD p 0).toNat) : ∃ r wd, Utf8.decode s p = (r, wd) ∧ 128 ≤ r ∧ 1 ≤ wd ∧ r ≤ 2147483647 := by
  rw [getD_tl s p h] at ha
  obtain ⟨h1, h2⟩ := decode_high s p h ha
  exact ⟨_, _, rfl, h1, h2, decode_le s p⟩

theorem wrap32_byte (c : UInt8) : IntKind.i32.wrap (c.toNat : Int) = (c.toNat : Int) := IntWalk.i32_in _ (by have := c.toNat_lt; omega)
theorem wrap64_byte (c : UInt8) : IntKind.i64.wrap (c.toNat : Int) = (c.toNat : Int) := IntWalk.i64_in _ (by have := c.toNat_lt; omega)
theorem tl_extract (s : ByteArray) (a b : Nat) : tl (s.extract a b) = ((tl s).drop a).take (b - a) := Lib.extract_data s a b
theorem tl_from (s : ByteArray) (a : Nat) : tl (s.extract a s.size) = (tl s).drop a := by
  rw [tl_extract, List.take_of_length_le]; rw [List.length_drop, size_tl]; exact Nat.le_refl _
theorem tl_to (s : ByteArray) (b : Nat) : tl (s.extract 0 b) = (tl s).take b := by
  rw [tl_extract]; simp
end Go.Fl
