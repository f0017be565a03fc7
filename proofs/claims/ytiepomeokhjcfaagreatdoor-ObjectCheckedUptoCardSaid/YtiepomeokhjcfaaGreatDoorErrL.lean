/-
  errors.As: what all types share; a variable that is set; what start-up laid. No condition.
-/
import Derived.Test.YtiepomeokhjcfaaGreatDoorIface
import Derived.Test.YtiepomeokhjcfaaGreatDoorCon
namespace Go.Fl
open Go.Proofs Go.Extern Go.Extern.Stop Go.Stop
set_option maxRecDepth 10000

def gN : Nat := 7
def han (t : TypeId) : Go.Value := .pointer (some ⟨gN, t, none⟩)
def rty (t : TypeId) : Go.Value := .iface 196 (.agg #[han t])
def errno (n : Int) : Go.Value := .iface 79 (.int .i64 n)
def fault (n i : Int) : Go.Value := .iface 81 (.agg #[.int .i64 n, .int .i64 i])

end Go.Fl

namespace Go.Fl
open Go.Proofs Go.Extern Go.Extern.Stop Go.Stop Go.RowKit
set_option maxRecDepth 10000
set_option maxHeartbeats 4000000

theorem m_kind (u : Go.Value) : Mt Tryz.prog 196 (.agg #[u]) "Kind" 239 u := ⟨fun w => by kernel_rfl⟩
theorem m_elem (u : Go.Value) : Mt Tryz.prog 196 (.agg #[u]) "Elem" 253 (.agg #[u]) := ⟨fun w => by kernel_rfl⟩
theorem m_asg (u : Go.Value) : Mt Tryz.prog 196 (.agg #[u]) "AssignableTo" 251 (.agg #[u]) := ⟨fun w => by kernel_rfl⟩
theorem rlm (z : Sem Go.Value) (f : TypeId → Addr → Nat → Nat → Sem Go.Value) (v : Go.Value) :
    ReflectliteValue.method z f #[v] = (do match ← ReflectliteValue.parts v with | none => z | some (t, a, fl) => f t a fl (fl % 32)) := rfl
/-- What start-up laid: errors.errorType. -/
def Laid (w : World) : Prop := w.cell? ⟨0, 0, none⟩ = some (.iface 196 (.agg #[han 31]))
theorem Laid.st {W0 w : World} {hs : Hs} (h : Laid W0) (hst : St W0 [] hs w) : Laid w := by
  have := Reads.keep hst (b := 0) (Reads.lt (w := W0) (off := 0) (vs := []) ⟨h, trivial⟩) List.not_mem_nil [_] 0 ⟨h, trivial⟩
  exact this.1
theorem m_imp (u : Go.Value) : Mt Tryz.prog 196 (.agg #[u]) "Implements" 254 (.agg #[u]) := ⟨fun w => by kernel_rfl⟩

theorem rls (v x : Go.Value) : ReflectliteValue.set #[v, x] = (do
    let (some (dst, a, fl), some (src, b, _)) := (← ReflectliteValue.parts v, ← ReflectliteValue.parts x)
      | unsupported (.noEntry "extern/(internal/reflectlite.Value).Set.zeroValue")
    if fl / ReflectliteValue.flagAddr % 2 == 0 then unsupported (.noEntry "extern/(internal/reflectlite.Value).Set.unaddressable")
    let val ← loadVar src b
    if ← Rtype.directlyAssignable dst src then storeVar dst a val
    else if ← Rtype.implements dst src then
      if (← Rtype.kind src) == 20 then
        match val with
        | .nilIface => unsupported (.noEntry "extern/reflectlite: a nil value of one interface type handed on as a value of another")
        | _ => storeVar dst a val
      else storeVar dst a (.iface src val)
    else panicString ("reflectlite.Set: value of type " ++ (← Rtype.spelt src) ++ " is not assignable to type " ++ (← Rtype.spelt dst))
    pure (.tuple #[])) := rfl

/-- (Value).Set: a variable gets what another one holds. -/
structure Xs (P : Program) (f : FuncId) (t : TypeId) (fa fb : Int) : Prop where
  go : ∀ a b w w' val, (loadVar t b).run P w = .ok val w → (storeVar t a val).run P w = .ok () w' →
    (callFunc f #[.agg #[han t, .pointer (some a), .int .u64 fa], .agg #[han t, .pointer (some b), .int .u64 fb]]).run P w = .ok (.value (.tuple #[])) w'

theorem xs_of {P : Program} {f : FuncId} {fn : Func} {t : TypeId} {fa fb : Nat} (hf : P.funcs[f]? = some fn) (hname : (fn.name == "runtime.NumGoroutine") = false) (hb : fn.body.isNone = true) (hn : Extern.findNext fn = none) (he : Extern.find fn = some ReflectliteValue.set)
    (h1 : ∀ a w, (ReflectliteValue.parts (.agg #[han t, .pointer (some a), .int .u64 fa])).run P w = .ok (some (t, a, fa)) w) (h2 : ∀ a w, (ReflectliteValue.parts (.agg #[han t, .pointer (some a), .int .u64 fb])).run P w = .ok (some (t, a, fb)) w)
    (h3 : (fa / ReflectliteValue.flagAddr % 2 == 0) = false) (h4 : ∀ w, (Rtype.directlyAssignable t t).run P w = .ok true w) : Xs P f t fa fb := by
  refine ⟨fun a b w w' val hl hs => ?_⟩
  rw [run_callFunc_extern hf hname hb hn he, rls]
  simp only [Sem.run_bind, h1, h2, Result.andThen, h3, Bool.false_eq_true, if_false, hl, h4, if_true, hs, Sem.run_pure]

section
variable {C : Cx} {ops : Array Oper} {rest : List Oper} {k : List Item} {e : Env} {hs : Hs} {d : Nat} {ty : TypeId} {pos : String} {af : Array Edge}
theorem xset (i j : Nat) {f : FuncId} {xs : List Operand} {t : TypeId} {at_ : Array TypeId} {fa fb : Int} {a b n : Nat} {c cur : Array Go.Value} {t1 t2 : TypeId} (val : Go.Value) (hd : Nat.blt d C.N = true)
    (hx : evAll e xs = some [.agg #[han t, .pointer (some ⟨a, 0, none⟩), .int .u64 fa], .agg #[han t, .pointer (some ⟨b, 0, none⟩), .int .u64 fb]]) (h : Xs C.P f t fa fb)
    (hi : hs[i]? = some (a, .cells cur t1)) (hj : hs[j]? = some (b, .cells c t2)) (hval : (c = #[val] ∧ shapeT C.P t = some none) ∨ (val = .agg c ∧ shapeT C.P t = some (some n))) (hc : val.cells = c) (hsz : sizeT C.P t = some n) (hn : c.size = n) (hn2 : cur.size = n) (hone : c.toList.all Value.oneCell' = true)
    (next : Ops C ops rest k ((d, .tuple #[]) :: e) (hs.set i (a, .cells c t1))) :
    Ops C ops (⟨some d, .call { callee := .value (.func f), args := xs.toArray, argTypes := at_ }, ty, pos, af, none⟩ :: rest) k e hs := by
  refine op_val hd (fun act w ok => ?_) next
  have hb : w.heap[b]? = some (.cells c t2) := ok.st.has _ (List.mem_of_getElem? hj)
  have hl : (loadVar t ⟨b, 0, none⟩).run C.P w = .ok val w := by
    rcases hval with ⟨rfl, hsh⟩ | ⟨rfl, hsh⟩
    · exact run_loadVar1 hsh (by simp [World.cell?, hb])
    · have hr : Reads w ⟨b, 0, none⟩ c.toList := by
        have : ∀ (l : List Go.Value) (o : Nat), (∀ j v, l[j]? = some v → w.cell? ⟨b, o + j, none⟩ = some v) → Reads w ⟨b, o, none⟩ l := by
          intro l
          induction l with
          | nil => intro o _; trivial
          | cons v l ih => intro o h; exact ⟨by simpa using h 0 v rfl, by rw [add_none]; exact ih (o + 1) fun j u hj => by rw [show o + 1 + j = o + (j + 1) by omega]; exact h (j + 1) u (by simpa using hj)⟩
        refine this _ _ fun j v hj => ?_
        simp only [World.cell?, hb, Nat.zero_add]
        simpa using hj
      have := run_loadVarN (P := C.P) (vs := c.toList) (by rw [Array.length_toList, hn]; exact hsh) hr
      simpa using this
  obtain ⟨w', hw', hst⟩ := run_storeCells (P := C.P) 0 c.toList w hs cur 0 ok.st hi (by simp [hn, hn2]) (fun u hu => List.all_eq_true.1 hone u hu)
  have hlay : lay cur (0 + 0) c.toList = c := by
    have := lay_whole c.toList [] cur.toList (by simp [hn, hn2])
    simpa using this
  rw [hlay] at hst
  have hs2 : (storeVar t ⟨a, 0, none⟩ val).run C.P w = .ok () w' := by
    simp [storeVar, hc, run_sizeOf hsz, hn, hw']
  have h1 := evAll_eval ok.e xs _ hx
  have h2 := h.go _ _ w w' val hl hs2
  refine ⟨w', ?_, hst⟩
  simp only [execOp, resolve, List.map_toArray, h1, Act.eval, Deferred.ofValue]
  simpa [invoke] using h2
end

theorem new_ne {C : Cx} {hs : Hs} {w : World} {i vb : Nat} {o : Obj} (hL : Laid C.W0) (hst : St C.W0 C.own hs w) (ho : C.own = []) (hi : hs[i]? = some (vb, o)) : vb ≠ 0 := by
  have hlt := Reads.lt (w := C.W0) (b := 0) (off := 0) (vs := []) ⟨hL, trivial⟩
  rcases hst.mine _ (List.mem_of_getElem? hi) with h | h
  · rw [ho] at h; cases h
  · simp only at h; omega

end Go.Fl
