/-
  More rules: what is made, built, appended; functions that the model gives. No condition.
-/
import Derived.Test.YtiepomeokhjcfaaGreatDoorTab
import Derived.Test.YtiepomeokhjcfaaGreatDoorRet
import Derived.Laws.MakeOwn
import Derived.Laws.AppendOwn
import Derived.ArgAppend
import Derived.Laws.Externs
namespace Go.Fl
open Go.Proofs Go.RowKit

theorem so_le {a b : Nat} (h : Nat.ble a b = true) : a ≤ b := Nat.le_of_ble_eq_true h
theorem so_one {v : Value} (h : v.cells.toList.all Value.oneCell' = true) : ∀ u ∈ v.cells.toList, u.oneCell' = true := fun u hu => List.all_eq_true.1 h u hu
theorem p_mi_ok {P : Program} {t : TypeId} {n : Nat} (h : kindT P t = n) (h2 : (Nat.beq n 5 || Nat.beq n 0) = false) : kindT P t ≠ 5 ∧ kindT P t ≠ 0 := by
  rw [h]; constructor <;> (rintro rfl; simp at h2)

section vals
variable {C : Cx} {e : Env} {hs : Hs} {tb : Tab}

theorem p_nc {x : Operand} {a : Addr} (hx : ev e x = some (.pointer (some a))) : PV C e (.nilCheck x) (.pointer (some a)) :=
  ⟨fun o c w ho ok => by simp [execOp, ho, ok.eval hx]⟩

/-! building structs -/
def evParts (e : Env) : List (Nat × Operand) → Option (List (Nat × Value))
  | [] => some []
  | (i, x) :: r => match ev e x, evParts e r with
    | some v, some vs => some ((i, v) :: vs)
    | _, _ => none
theorem evParts_eq {a : Act} (h : EnvOk e a) : ∀ (l : List (Nat × Operand)) (r : List (Nat × Value)), evParts e l = some r → l.map (fun x => (x.1, a.eval x.2)) = r := by
  intro l
  induction l with
  | nil => intro r h; simpa [evParts] using h
  | cons x l ih =>
    obtain ⟨i, x⟩ := x
    intro r hr
    unfold evParts at hr
    split at hr
    · rename_i v vs hv hvs
      cases hr
      simp [h.eval hv, ih _ hvs]
    · cases hr
/-- Parts laid over the zero, each a struct's field. -/
def layParts (tb : Tab) (s : TypeId) (c : Array Value) : List (Nat × Value) → Option (Array Value)
  | [] => some c
  | (i, v) :: r => match fieldL tb s i with
    | some (o, ft) => match sizeL tb ft with
      | some n => bif Nat.beq v.cells.size n && Nat.ble (o + n) c.size then layParts tb s (lay c o v.cells.toList) r else none
      | none => none
    | none => none
theorem fill_lay (vs : List Value) : ∀ (c : Array Value) (o k : Nat), (vs.zipIdx k).foldl (fun cs (x : Value × Nat) => cs.setIfInBounds (o + x.2) x.1) c = lay c (o + k) vs := by
  induction vs with
  | nil => intro c o k; rfl
  | cons v vs ih => intro c o k; simp only [List.zipIdx_cons, List.foldl_cons, lay]; rw [ih]; rfl
def buildL (tb : Tab) (s : TypeId) (ps : List (Nat × Value)) : Option Value := match zeroL tb s with
  | some z => (layParts tb s z.cells ps).map .agg
  | none => none

theorem fields_at {P : Program} (hT : TabOk P tb) {s : TypeId} {i : Nat} {o : Nat} {ft : TypeId} (h : fieldL tb s i = some (o, ft)) : ∃ fs f, P.underlying s = some (.struct fs) ∧ fs[i]? = some f ∧ f.offset = o ∧ f.type = ft := by
  have := field_of hT h
  unfold fieldT at this
  cases hu : P.underlying s with
  | none => simp [hu] at this
  | some u =>
    cases u <;> simp [hu] at this
    rename_i fs
    cases hg : fs[i]? with
    | none => simp [hg] at this
    | some g =>
      simp only [hg] at this
      cases hi : P.info? g.type with
      | none => simp [hi] at this
      | some j =>
        simp only [hi] at this
        by_cases hz : j.size = 0
        · simp [hz] at this
        · simp only [hz, if_false, Option.some.injEq, Prod.mk.injEq] at this
          exact ⟨fs, g, rfl, hg, this.1, this.2⟩

theorem mapM_sem {α β : Type} {P : Program} {w : World} (f : α → Sem β) (g : α → β) : ∀ (l : List α), (∀ x ∈ l, (f x).run P w = .ok (g x) w) → (List.mapM (m := Sem) f l).run P w = .ok (l.map g) w := by
  intro l
  induction l with
  | nil => intro _; simp
  | cons x l ih => intro h; simp [List.mapM_cons, h x (by simp), ih (fun y hy => h y (by simp [hy]))]

theorem fill_layParts {P : Program} (hT : TabOk P tb) {s : TypeId} {fs : Array Field} (hu : P.underlying s = some (.struct fs)) (pl : Array (Nat × Nat))
    (hpl : ∀ (i : Nat) f, fs[i]? = some f → ∀ j, P.info? f.type = some j → pl[i]? = some (f.offset, j.size)) : ∀ (ps : List (Nat × Value)) (c c' : Array Value), layParts tb s c ps = some c' → Instr.fill (pl[·]?) c ps = some c' := by
  intro ps
  induction ps with
  | nil => intro c c' h; simpa [layParts, Instr.fill] using h
  | cons x ps ih =>
    obtain ⟨i, v⟩ := x
    intro c c' h
    unfold layParts at h
    split at h
    · rename_i o ft hf
      split at h
      · rename_i n hn
        obtain ⟨fs', f, hu', hfi, ho, hft⟩ := fields_at hT hf
        rw [hu] at hu'
        cases hu'
        have hsz := size_of hT hn
        unfold sizeT at hsz
        cases hj : P.info? ft with
        | none => simp [hj] at hsz
        | some j =>
          simp [hj] at hsz
          have hp := hpl i f hfi j (by rw [hft]; exact hj)
          cases hb : (Nat.beq v.cells.size n && Nat.ble (o + n) c.size) with
          | false => rw [hb] at h; simp at h
          | true =>
            rw [hb] at h
            simp only [cond_true] at h
            rw [Bool.and_eq_true] at hb
            have e1 : v.cells.size = n := Nat.eq_of_beq_eq_true hb.1
            have e2 : o + n ≤ c.size := Nat.le_of_ble_eq_true hb.2
            unfold Instr.fill
            simp only [hp, ho, hsz]
            have hc : (decide (v.cells.size ≠ n) || decide (o + v.cells.size > c.size)) = false := by
              rw [e1]; simp; omega
            simp only [hc, Bool.false_eq_true, if_false]
            rw [← Array.foldl_toList, Array.toList_zipIdx, fill_lay]
            exact ih _ _ h
      · cases h
    · cases h

theorem run_places {P : Program} {w : World} {fs : Array Field} (h : ∀ f ∈ fs, ∃ j, P.info? f.type = some j) :
    (fs.mapM (m := Sem) fun f => do pure (f.offset, ← sizeOf f.type)).run P w = .ok (fs.map fun f => (f.offset, ((P.info? f.type).map (·.size)).getD 0)) w := by
  obtain ⟨l⟩ := fs
  rw [List.mapM_toArray, Sem.run_map, mapM_sem _ (fun f => (f.offset, ((P.info? f.type).map (·.size)).getD 0)) l]
  · simp
  · intro f hf
    obtain ⟨j, hj⟩ := h f (by simpa using hf)
    simp [sizeOf, typeInfo, hj]

def allFields (tb : Tab) (s : TypeId) : Bool := match tget tb s with
  | some i => i.fields.all fun x => (tget tb x.2).isSome
  | none => false
theorem p_bd {s : TypeId} {parts : Array (Nat × Operand)} {ps : List (Nat × Value)} {v : Value} (hT : TabOk C.P tb) (hall : allFields tb s = true) (hp : evParts e parts.toList = some ps) (hv : buildL tb s ps = some v) (hag : kindL tb s = some 6 ∧ ((tget tb s).map (·.fields.isEmpty)) = some false) :
    PV C e (.build s parts) v := by
  refine ⟨fun op a w ho ok => ?_⟩
  obtain ⟨-, hne⟩ := hag
  unfold buildL at hv
  cases hz : zeroL tb s with
  | none => simp [hz] at hv
  | some z =>
    simp only [hz, Option.map_eq_some_iff] at hv
    obtain ⟨c', hv, rfl⟩ := hv
    have hz' := zero_of hT hz
    unfold zeroT at hz'
    unfold allFields at hall
    cases hi : tget tb s with
    | none => simp [hi] at hall
    | some i =>
      obtain ⟨u, inf, hu, hinf, h1, hby, h2, h3, h4, h5, h6, h7⟩ := tab_split hT hi
      simp only [hi] at hall
      simp only [hi, Option.map_some, Option.some.injEq] at hne
      simp [hinf] at hz'
      rw [h6] at hall hne
      cases u <;> first | (simp at hne; done) | skip
      rename_i fs
      have hfs : ∀ f ∈ fs, ∃ j, C.P.info? f.type = some j := by
        intro f hf
        simp only [List.all_map, List.all_eq_true, Function.comp] at hall
        have := hall f (by simpa using hf)
        obtain ⟨i', hi'⟩ := Option.isSome_iff_exists.1 this
        obtain ⟨_, inf', _, hinf', -⟩ := tab_split hT hi'
        exact ⟨inf', hinf'⟩
      have hrun := run_places (w := w) hfs
      have hrun2 : (fs.mapM (m := Sem) fun f => Prod.mk f.offset <$> sizeOf f.type).run C.P w = .ok (fs.map fun f => (f.offset, ((C.P.info? f.type).map (·.size)).getD 0)) w := by simpa using hrun
      have hfill := fill_layParts hT hu (fs.map fun f => (f.offset, ((C.P.info? f.type).map (·.size)).getD 0)) (fun i f hf j hj => by simp [hf, hj]) ps z.cells c' hv
      simp only [Array.getElem?_map] at hfill
      have hpp := evParts_eq ok parts.toList ps hp
      have hpa : (parts.map fun x => (x.1, a.eval x.2)).toList = ps := by rw [Array.toList_map]; exact hpp
      simp only [execOp, ho, Instr.build, Sem.run_bind, zeroValue, run_typeInfo_some hinf, Result.andThen_ok]
      simp [hz', run_underlying_some hu, hrun2, Array.toList_map, hpp, hfill]
end vals

/-! a whole block is written -/
def cellsO : Value → Option (Array Value)
  | .agg xs => some xs
  | v => some #[v]
theorem cellsO_eq (v : Value) : cellsO v = some v.cells := by cases v <;> rfl
theorem lay_whole (vs : List Value) : ∀ (pre c : List Value), c.length = vs.length → lay (pre ++ c).toArray pre.length vs = (pre ++ vs).toArray := by
  induction vs with
  | nil => intro pre c h; simp at h; subst h; rfl
  | cons v vs ih =>
    intro pre c h
    cases c with
    | nil => simp at h
    | cons x c =>
      have := ih (pre ++ [v]) c (by simpa using h)
      simp only [List.length_append, List.length_cons, List.length_nil, List.append_assoc, List.singleton_append] at this
      simp only [lay]
      rw [← this]
      congr 1
      simp
theorem sw (i : Nat) {C : Cx} {ops : Array Oper} {rest : List Oper} {k : List Item} {e : Env} {hs : Hs} {ty : TypeId} {pos : String} {af : Array Edge} {v : Value}
    {t : TypeId} {x y : Operand} {b n : Nat} {c c' : Array Value} {t' : TypeId} (ht : sizeT C.P t = some n)
    (hx : ev e x = some (.pointer (some ⟨b, 0, none⟩))) (hy : ev e y = some v) (hi : hs[i]? = some (b, .cells c t' (0, 0)))
    (hc : cellsO v = some c') (hn : c'.size = n) (hn2 : c.size = n) (hone : c'.toList.all Value.oneCell' = true)
    (next : Ops C ops rest k e (hs.set i (b, .cells c' t' (0, 0)))) : Ops C ops (⟨none, .store t x y, ty, pos, af, none⟩ :: rest) k e hs := by
  rw [cellsO_eq] at hc
  cases hc
  refine so i ht hx hy hi hn (by omega) (so_one hone) ?_
  have := lay_whole v.cells.toList [] c.toList (by simp [hn, hn2])
  simp only [List.nil_append, List.length_nil, Array.toArray_toList] at this
  rw [this]; exact next

/-! making slices -/
section
variable {C : Cx} {ops : Array Oper} {rest : List Oper} {k : List Item} {e : Env} {hs : Hs} {d : Nat} {op : Op} {ty : TypeId} {pos : String} {af : Array Edge} {v : Value} {tb : Tab}
def bytesL (tab : Tab) (t : TypeId) : Option Nat := match tget tab t with
  | some ⟨_, _, _, x, _, _, _, _⟩ => some x
  | none => none
theorem bytesL_eq (tab : Tab) (t : TypeId) : bytesL tab t = (tget tab t).map (·.bytes) := by
  unfold bytesL; cases tget tab t <;> rfl
theorem info_of {P : Program} (hT : TabOk P tb) {t : TypeId} {s b : Nat} {z : Value} (h1 : sizeL tb t = some s) (h2 : bytesL tb t = some b) (h3 : zeroL tb t = some z) : ∃ i, P.info? t = some i ∧ i.size = s ∧ i.bytes = b ∧ i.zero = some z := by
  rw [sizeL_eq, Option.map_eq_some_iff] at h1
  obtain ⟨i, hi, rfl⟩ := h1
  rw [bytesL_eq, hi] at h2
  rw [zeroL_eq, hi] at h3
  simp at h2 h3
  obtain ⟨u, inf, hu, hinf, g1, hby, g2, -⟩ := tab_split hT hi
  exact ⟨inf, hinf, g1, by rw [hby, h2], by rw [g2, h3]⟩

theorem ms {t et : TypeId} {x y : Operand} {n sz by_ : Nat} {z : Value} {k1 k2 : IntKind} (hT : TabOk C.P tb) (hd : Nat.blt d C.N = true) (hx : ev e x = some (.int k1 (Int.ofNat n))) (hy : ev e y = some (.int k2 (Int.ofNat n)))
    (ht : elemL tb t = some (et, sz)) (h1 : sizeL tb et = some sz) (h2 : bytesL tb et = some by_) (h3 : zeroL tb et = some z) (hn : by_ * n ≤ 281474976710656) (h63 : n ≤ 9223372036854775807)
    (next : ∀ b, Ops C ops rest k ((d, .slice (some ⟨b, 0, none⟩) n n) :: e) ((b, .cells (madeCells z.cells (n * sz)) et) :: hs)) : Ops C ops (⟨some d, .makeSlice t x y, ty, pos, af, none⟩ :: rest) k e hs := by
  refine op_some (Φ := fun v hs' => ∃ b, v = .slice (some ⟨b, 0, none⟩) n n ∧ hs' = (b, .cells (madeCells z.cells (n * sz)) et) :: hs) hd (fun _ w ok => ⟨_, _, _, ?_, ok.st.push _, _, rfl, rfl⟩) ?_
  · obtain ⟨i, hi, g1, g2, g3⟩ := info_of hT h1 h2 h3
    have hu : C.P.underlying t = some (.slice et) := by
      have := elem_of hT ht
      unfold elemT at this
      cases hu : C.P.underlying t with
      | none => simp [hu] at this
      | some u => cases u <;> simp [hu] at this; obtain ⟨_, _, rfl, _⟩ := this; rfl
    have hr := run_make (P := C.P) w t et i z hu hi g3 k1 k2 (Int.ofNat n) (Int.ofNat n) (by simp) (Int.le_refl _) (by rw [g2]; show (by_ : Int) * (n : Int) ≤ _; rw [← Int.natCast_mul]; omega) (by simp; omega)
    simp only [Int.ofNat_eq_natCast, Int.toNat_natCast, g1] at hr
    simp only [execOp, ok.e.eval hx, ok.e.eval hy, Int.ofNat_eq_natCast, Sem.run_bind, hr, Result.andThen_ok, Sem.run_pure]
    rfl
  · rintro v hs' ⟨b, rfl, rfl⟩; exact next b
end

/-! functions that the model gives -/
/-- Such a call answers so, and nothing turns. -/
structure Xt (P : Program) (f : FuncId) (args : List Value) (v : Value) : Prop where
  go : ∀ w, (callFunc f args.toArray).run P w = .ok (.value v) w

section
variable {C : Cx} {e : Env} {hs : Hs}
theorem xt_of {P : Program} {f : FuncId} {fn : Func} {g : Array Value → Sem Value} {args : List Value} {v : Value} (hf : P.funcs[f]? = some fn) (hname : (fn.name == "runtime.NumGoroutine") = false)
    (hb : fn.body.isNone = true) (hn : Extern.findNext fn = none) (he : Extern.find fn = some g) (h : ∀ w, (g args.toArray).run P w = .ok v w) : Xt P f args v :=
  ⟨fun w => by rw [run_callFunc_extern hf hname hb hn he, h w]; rfl⟩

theorem p_xf {f : FuncId} {xs : List Operand} {vs : List Value} {at_ : Array TypeId} {v : Value} (hx : evAll e xs = some vs) (h : Xt C.P f vs v) : PV C e (.call { callee := .value (.func f), args := xs.toArray, argTypes := at_ }) v := by
  refine ⟨fun o a w ho ok => ?_⟩
  have h1 := evAll_eval ok xs vs hx
  have h2 := h.go w
  simp [execOp, ho, resolve, Act.eval, Deferred.ofValue, invoke, h1, h2]

/-- A method of an interface value. -/
structure Mt (P : Program) (t : TypeId) (u : Value) (name : String) (f : FuncId) (r : Value) : Prop where
  go : ∀ w, (method (P.types.size + Made.depth) t u name).run P w = .ok (f, r) w

theorem p_xm {f : FuncId} {t : TypeId} {u r : Value} {x : Operand} {name : String} {xs : List Operand} {vs : List Value} {at_ : Array TypeId} {v : Value} (hx0 : ev e x = some (.iface t u)) (hx : evAll e xs = some vs) (hm : Mt C.P t u name f r) (h : Xt C.P f (r :: vs) v) :
    PV C e (.call { callee := .invoke x name, args := xs.toArray, argTypes := at_ }) v := by
  refine ⟨fun o a w ho ok => ?_⟩
  have h1 := evAll_eval ok xs vs hx
  have h2 := h.go w
  have h3 := hm.go w
  simp only [execOp, ho, resolve, ok.eval hx0, List.map_toArray, h1]
  simp [invoke, callMethod, h3]
  simpa using h2
end
end Go.Fl
