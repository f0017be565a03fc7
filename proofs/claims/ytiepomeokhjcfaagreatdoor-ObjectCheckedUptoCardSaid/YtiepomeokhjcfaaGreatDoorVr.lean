/-
  Functions whose one result lies in a variable, in the reckoned walk; regions walked order by order. No condition.
-/
import Derived.Test.YtiepomeokhjcfaaGreatDoorCon
import Derived.Test.YtiepomeokhjcfaaGreatDoorSl
import Derived.OrdersHeld
import Derived.Test.YtiepomeokhjcfaaGreatDoorVl
import Derived.Test.YtiepomeokhjcfaaGreatDoorMark
namespace Go.Fl
open Go.Proofs Go.RowKit
set_option maxRecDepth 10000
set_option maxHeartbeats 4000000

/-- The blocks that no operation of the region writes: they stay as they were. -/
def Kept (kp : List Nat) (h0 : Hs) (w : World) : Prop := ∀ i ∈ kp, ∀ x, h0[i]? = some x → w.heap[x.1]? = some x.2
def KeptH (kp : List Nat) (h0 hs : Hs) : Prop := ∀ i ∈ kp, ∃ x, h0[i]? = some x ∧ hs[i]? = some x
theorem KeptH.st {kp : List Nat} {h0 hs : Hs} (h : KeptH kp h0 hs) {W0 w : World} {own : List Nat} (hst : St W0 own hs w) : Kept kp h0 w := by
  intro i hi x hx
  obtain ⟨y, h1, h2⟩ := h i hi
  rw [h1] at hx; cases hx
  exact hst.has _ (List.mem_of_getElem? h2)
theorem KeptH.app {kp : List Nat} {h0 hs : Hs} (h : KeptH kp h0 hs) (q : Hs) : KeptH kp h0 (hs ++ q) := fun i hi => by
  obtain ⟨y, h1, h2⟩ := h i hi
  exact ⟨y, h1, by rw [List.getElem?_append_left (List.getElem?_eq_some_iff.1 h2).1]; exact h2⟩
theorem KeptH.set {kp : List Nat} {h0 hs : Hs} (h : KeptH kp h0 hs) {j : Nat} (hj : kp.contains j = false) (x : Nat × Obj) : KeptH kp h0 (hs.set j x) := fun i hi => by
  obtain ⟨y, h1, h2⟩ := h i hi
  have hne : j ≠ i := by rintro rfl; rw [List.contains_iff_mem.2 hi] at hj; cases hj
  exact ⟨y, h1, by rw [List.getElem?_set_ne hne]; exact h2⟩
/-- What is left to do of a region, where some of its operations (m) are done. -/
structure Any (C : Cx) (ops : List Oper) (k : List Item) (kp : List Nat) (h0 : Hs) (m : List Bool) (e : Env) (hs : Hs) : Prop where
  go : KeptH kp h0 hs → ∀ fuel a w, m.countP (!·) ≤ fuel → Ok C e hs a w → wpAnyH C.P .any ops.toArray (Qk C k) (Kept kp h0) fuel m.toArray a w
/-- ..and one is done now. -/
structure AnyO (C : Cx) (ops : List Oper) (k : List Item) (kp : List Nat) (h0 : Hs) (m : List Bool) (o : Oper) (e : Env) (hs : Hs) : Prop where
  go : KeptH kp h0 hs → ∀ fuel a w, m.countP (!·) ≤ fuel → Ok C e hs a w →
    if Region.wanted o (yielded ops.toArray a.tmps) then o.wp C.P a w (fun a w => Kept kp h0 w ∧ wpAnyH C.P .any ops.toArray (Qk C k) (Kept kp h0) fuel m.toArray a w) (Qk C k) ∨ (o.asks C.P a w ∧ LetsOut (Qk C k))
    else Kept kp h0 w ∧ wpAnyH C.P .any ops.toArray (Qk C k) (Kept kp h0) fuel m.toArray (a.put o.dst undef) w
theorem any_region {C : Cx} {l0 : Array Oper} {k : List Item} {e : Env} {hs : Hs} {id : Nat} (kp : List Nat) (hm : C.P.follows .mixedOrders = true) (hk : kp.all (fun i => Nat.blt i hs.length) = true) (h : Any C l0.toList k kp hs (List.replicate l0.toList.length false) e hs) (hrd : C.rd = none := by rfl) : Run C (.code (.region id l0 true) :: k) e hs := by
  refine ⟨fun a w ok => cont_of_wp0 hrd (wp_region_held (S := Kept kp hs) hm ?_)⟩
  have hK : KeptH kp hs hs := fun i hi => by
    have := Nat.le_of_ble_eq_true (List.all_eq_true.1 hk i hi)
    exact ⟨_, List.getElem?_eq_getElem this, List.getElem?_eq_getElem this⟩
  have := h.go hK l0.size a { w with drawn := w.drawn + 1 } (by have := List.countP_le_length (l := List.replicate l0.toList.length false) (p := (!·)); simpa using this) ⟨ok.n, ok.d, ok.e, ok.st.drew _⟩
  simpa using this
section
variable {C : Cx} {ops : List Oper} {k : List Item} {kp : List Nat} {h0 : Hs} {m m' : List Bool} {e : Env} {hs : Hs} {d : Nat} {op : Op} {ty : TypeId} {pos : String} {af : Array Edge} {v : Go.Value}
theorem any_end (h : Region.ready .any ops.toArray m.toArray = []) (hr : Run C k e hs) : Any C ops k kp h0 m e hs := ⟨fun _ fuel a w _ ok => wpAnyH_done h (hr.go a w ok) fuel⟩
theorem any_step (js : List Nat) (h : Region.ready .any ops.toArray m.toArray = js) (hne : js.isEmpty = false) (hc : (js.all fun i => Nat.ble ((m.set i true).countP (!·) + 1) (m.countP (!·)) && Nat.blt i ops.length) = true)
    (next : ∀ i, i ∈ js → AnyO C ops k kp h0 (m.set i true) (operAt ops i) e hs) : Any C ops k kp h0 m e hs := by
  refine ⟨fun hK fuel a w hf ok => ?_⟩
  rw [List.all_eq_true] at hc
  cases fuel with
  | zero =>
    exfalso
    cases js with
    | nil => cases hne
    | cons i js =>
      have := hc i List.mem_cons_self
      rw [Bool.and_eq_true] at this
      have := Nat.le_of_ble_eq_true this.1
      omega
  | succ fuel =>
    refine ⟨fun h0 => ?_, fun i hi => ?_⟩
    · rw [h] at h0; rw [h0] at hne; cases hne
    · rw [h] at hi
      have h1 := hc i hi
      rw [Bool.and_eq_true] at h1
      have h2 := Nat.le_of_ble_eq_true h1.1
      have h3 : i < ops.length := Nat.le_of_ble_eq_true h1.2
      have ho : ops[i]? = some ops[i] := List.getElem?_eq_getElem h3
      have hop : operAt ops i = ops[i] := by simp [operAt, ho]
      have := (next i hi).go hK fuel a w (by omega) ok
      rw [hop] at this
      unfold wpOp
      rw [List.getElem?_toArray, ho, List.setIfInBounds_toArray]
      exact this
def apartOk (ops : List Oper) (m : List Bool) (i : Nat) : Bool :=
  Region.noSelect ops.toArray && Nat.blt i ops.length && Nat.ble ((m.set i true).countP (!·) + 1) (m.countP (!·)) && (Region.ready .any ops.toArray m.toArray).contains i &&
  (List.range ops.length).all fun j => Nat.beq j i || m.getD j true || (edgesOf (operAt ops j)).contains i || (operAt ops i).apart ops.toArray (operAt ops j)
/-- What only reckons may be done at once. -/
theorem any_firstY (i : Nat) {o : Oper} (ho : operAt ops i = o) (hdst : o.dst = some d) (hd : Nat.blt d C.N = true) (hok : apartOk ops m i = true) (hy : ∀ a, EnvOk e a → YieldsIf C.P ops.toArray (Kept kp h0) o v a) (next : Any C ops k kp h0 (m.set i true) ((d, v) :: e) hs) : Any C ops k kp h0 m e hs := by
  unfold apartOk at hok
  simp only [Bool.and_eq_true, List.contains_iff_mem, List.all_eq_true, List.mem_range, Bool.or_eq_true] at hok
  obtain ⟨⟨⟨⟨h1, h2⟩, h3⟩, h4⟩, h5⟩ := hok
  have h2 : i < ops.length := Nat.le_of_ble_eq_true h2
  have h3 := Nat.le_of_ble_eq_true h3
  refine ⟨fun hK fuel a w hf ok => ?_⟩
  have hop : ops.toArray[i]? = some o := by rw [← ho]; simp [operAt, h2]
  cases fuel with
  | zero => omega
  | succ fuel =>
    refine wpAnyH_first (oi := o) (v := v) hop (Region.noSelect_spec h1) (fun c a w hq => ⟨hq.1, by rw [← put_defers]; exact hq.2.1, hq.2.2⟩) fuel m.toArray a w ?_ h4 ?_ (hK.st ok.st) ?_
    · intro j oj hj hne hun hno
      have hjl : j < ops.length := by
        have := (Array.getElem?_eq_some_iff.1 hj).1
        simpa using this
      have hoj : operAt ops j = oj := by
        have : ops[j]? = some oj := by simpa using hj
        simp [operAt, this]
      rcases h5 j hjl with ((h6 | h6) | h6) | h6
      · exact absurd (Nat.eq_of_beq_eq_true h6) hne
      · have hun' : m.getD j true = false := by simpa using hun
        rw [hun'] at h6; cases h6
      · exfalso
        rw [hoj] at h6
        obtain ⟨e, he, hb, hon⟩ := edges_mem h6
        exact hno e he hb hon
      · rw [ho, hoj] at h6; exact h6
    · exact hy a ok.e
    · rw [List.setIfInBounds_toArray, hdst]
      exact next.go hK fuel _ _ (by omega) (ok.put hd v)
theorem any_first (i : Nat) {o : Oper} (ho : operAt ops i = o) (hg : o.guard = none) (hdst : o.dst = some d) (hd : Nat.blt d C.N = true) (hok : apartOk ops m i = true) (h : PV C e o.op v) (next : Any C ops k kp h0 (m.set i true) ((d, v) :: e) hs) : Any C ops k kp h0 m e hs :=
  any_firstY i ho hdst hd hok (fun a ok => Or.inl ⟨by simp [Region.wanted, hg], fun w _ => h.go o a w rfl ok⟩) next
/-- ..so may what reads a block that is kept. -/
structure LV (C : Cx) (kp : List Nat) (h0 : Hs) (e : Env) (op : Op) (v : Go.Value) : Prop where
  go : ∀ (o : Oper) a w, o.op = op → EnvOk e a → Kept kp h0 w → (execOp a.eval o).run C.P w = .ok (.value v) w
theorem any_firstL (i : Nat) {o : Oper} (ho : operAt ops i = o) (hg : o.guard = none) (hdst : o.dst = some d) (hd : Nat.blt d C.N = true) (hok : apartOk ops m i = true) (h : LV C kp h0 e o.op v) (next : Any C ops k kp h0 (m.set i true) ((d, v) :: e) hs) : Any C ops k kp h0 m e hs :=
  any_firstY i ho hdst hd hok (fun a ok => Or.inl ⟨by simp [Region.wanted, hg], fun w hw => h.go o a w rfl ok hw⟩) next
/-- ..where its guard is known. -/
theorem any_firstG (i : Nat) {o : Oper} {j gd : Nat} {want : Bool} (ho : operAt ops i = o) (hg : o.guard = some (j, want)) (hj : dstAt ops j = some gd) (hge : eget e gd = some (.bool want)) (hdst : o.dst = some d) (hd : Nat.blt d C.N = true) (hok : apartOk ops m i = true) (h : PV C e o.op v) (next : Any C ops k kp h0 (m.set i true) ((d, v) :: e) hs) : Any C ops k kp h0 m e hs :=
  any_firstY i ho hdst hd hok (fun a ok => Or.inl ⟨by
    have hy : yielded ops.toArray a.tmps j = some want := by simp only [yielded, show (ops.toArray[j]?).bind (·.dst) = some gd from by rw [dstAt_eq]; exact hj, Option.bind_some, ok _ _ hge]
    simp [Region.wanted, hg, hy], fun w _ => h.go o a w rfl ok⟩) next
theorem any_firstLG (i : Nat) {o : Oper} {j gd : Nat} {want : Bool} (ho : operAt ops i = o) (hg : o.guard = some (j, want)) (hj : dstAt ops j = some gd) (hge : eget e gd = some (.bool want)) (hdst : o.dst = some d) (hd : Nat.blt d C.N = true) (hok : apartOk ops m i = true) (h : LV C kp h0 e o.op v) (next : Any C ops k kp h0 (m.set i true) ((d, v) :: e) hs) : Any C ops k kp h0 m e hs :=
  any_firstY i ho hdst hd hok (fun a ok => Or.inl ⟨by
    have hy : yielded ops.toArray a.tmps j = some want := by simp only [yielded, show (ops.toArray[j]?).bind (·.dst) = some gd from by rw [dstAt_eq]; exact hj, Option.bind_some, ok _ _ hge]
    simp [Region.wanted, hg, hy], fun w hw => h.go o a w rfl ok hw⟩) next
/-- What is guarded by what isn't so, is left out at once. -/
theorem any_firstN (i : Nat) {o : Oper} {j gd : Nat} {want was : Bool} (ho : operAt ops i = o) (hg : o.guard = some (j, want)) (hj : dstAt ops j = some gd) (hge : eget e gd = some (.bool was)) (hne : (was == want) = false) (hdst : o.dst = some d) (hd : Nat.blt d C.N = true) (hok : apartOk ops m i = true) (next : Any C ops k kp h0 (m.set i true) ((d, undef) :: e) hs) : Any C ops k kp h0 m e hs :=
  any_firstY i ho hdst hd hok (fun a ok => Or.inr ⟨by
    have hy : yielded ops.toArray a.tmps j = some was := by simp only [yielded, show (ops.toArray[j]?).bind (·.dst) = some gd from by rw [dstAt_eq]; exact hj, Option.bind_some, ok _ _ hge]
    simp [Region.wanted, hg, hy]; simpa using hne, rfl⟩) next
theorem l1 (i : Nat) {t : TypeId} {x : Operand} {b off : Nat} {c : Array Go.Value} {t' : TypeId} {fz : Nat × Nat} {v : Go.Value} (ht : shapeT C.P t = some none)
    (hx : ev e x = some (.pointer (some ⟨b, off, none⟩))) (hi : h0[i]? = some (b, .cells c t' fz)) (hk : kp.contains i = true) (hc : lget c.toList off = some v) : LV C kp h0 e (.load t x) v := by
  rw [lget_eq, Array.getElem?_toList] at hc
  refine ⟨fun o a w ho ok hw => ?_⟩
  have hb : w.heap[b]? = some (.cells c t' fz) := hw i (List.contains_iff_mem.1 hk) _ hi
  simp [execOp, ho, ok.eval hx, Instr.loadAt, Instr.sureAddr, run_loadVar1 ht (show w.cell? ⟨b, off, none⟩ = some v by simp [World.cell?, hb, hc])]
theorem ln (i : Nat) {t : TypeId} {x : Operand} {b off n : Nat} {c : Array Go.Value} {t' : TypeId} {fz : Nat × Nat} {vs : List Go.Value} (ht : shapeT C.P t = some (some n))
    (hx : ev e x = some (.pointer (some ⟨b, off, none⟩))) (hi : h0[i]? = some (b, .cells c t' fz)) (hk : kp.contains i = true) (hc : cellsAt c off n = some vs) : LV C kp h0 e (.load t x) (.agg vs.toArray) := by
  refine ⟨fun o a w ho ok hw => ?_⟩
  have hb : w.heap[b]? = some (.cells c t' fz) := hw i (List.contains_iff_mem.1 hk) _ hi
  obtain ⟨h1, h2⟩ := reads_of_block hb n off vs hc
  simp [execOp, ho, ok.eval hx, Instr.loadAt, Instr.sureAddr, run_loadVarN (vs := vs) (by rw [h2]; exact ht) h1]
theorem any_val {o : Oper} {hs' : Hs} (hg : o.guard = none) (hdst : o.dst = some d) (hd : Nat.blt d C.N = true) (h : ∀ a w, Ok C e hs a w → ∃ w', (execOp a.eval o).run C.P w = .ok (.value v) w' ∧ St C.W0 C.own hs' w') (hkk : KeptH kp h0 hs → KeptH kp h0 hs') (next : Any C ops k kp h0 m ((d, v) :: e) hs') :
    AnyO C ops k kp h0 m o e hs := by
  refine ⟨fun hK fuel a w hf ok => ?_⟩
  obtain ⟨w', hr, hst⟩ := h a w ok
  rw [if_pos (by simp [Region.wanted, hg])]
  refine Or.inl ?_
  simp only [Oper.wp, hr, Oper.upon, hdst]
  exact ⟨(hkk hK).st hst, next.go (hkk hK) fuel _ _ hf ((ok.world hst).put hd v)⟩
theorem a1 (hd : Nat.blt d C.N = true) (h : PV C e op v) (next : Any C ops k kp h0 m ((d, v) :: e) hs) : AnyO C ops k kp h0 m ⟨some d, op, ty, pos, af, none⟩ e hs :=
  any_val rfl rfl hd (fun a w ok => ⟨w, h.go _ a w rfl ok.e, ok.st⟩) id next
theorem a2 (hd : Nat.blt d C.N = true) (h : RV C e hs op v) (next : Any C ops k kp h0 m ((d, v) :: e) hs) : AnyO C ops k kp h0 m ⟨some d, op, ty, pos, af, none⟩ e hs :=
  any_val rfl rfl hd (fun a w ok => h.go _ a w rfl ok) id next
theorem any_enter {o : Oper} {f : FuncId} {args : Array Go.Value} {Φ : Go.Value → Hs → Prop} (hg : o.guard = none) (hdst : o.dst = some d) (hd : Nat.blt d C.N = true) (hr : ∀ a w, Ok C e hs a w → ∃ w1, (execOp a.eval o).run C.P w = .ok (.enter f args) w1 ∧
    Calls C.P f args w1 fun en w' => ∃ v hs', en = .returned v ∧ St C.W0 C.own hs' w' ∧ Φ v hs') (hkk : ∀ v hs', Φ v hs' → KeptH kp h0 hs → KeptH kp h0 hs') (next : ∀ v hs', Φ v hs' → Any C ops k kp h0 m ((d, v) :: e) hs') : AnyO C ops k kp h0 m o e hs := by
  refine ⟨fun hK fuel a w hf ok => ?_⟩
  obtain ⟨w1, hr, hc⟩ := hr a w ok
  rw [if_pos (by simp [Region.wanted, hg])]
  refine Or.inl ?_
  simp only [Oper.wp, hr, Oper.upon, hdst]
  refine Calls.mono hc ?_
  rintro en w' ⟨v, hs', rfl, hst, hΦ⟩
  have hK' := hkk v hs' hΦ hK
  exact ⟨hK'.st hst, (next v hs' hΦ).go hK' fuel _ _ hf ((ok.world hst).put hd v)⟩
theorem a3 {f : FuncId} {xs : List Operand} {vs : List Go.Value} {at_ : Array TypeId} {pre : World → Prop} (hd : Nat.blt d C.N = true) (hf : isFn C.P f = true) (hx : evAll e xs = some vs) (h : RetIf C.P f vs pre v) (hp : ∀ w, St C.W0 C.own hs w → pre w) (next : Any C ops k kp h0 m ((d, v) :: e) hs) :
    AnyO C ops k kp h0 m ⟨some d, .call { callee := .value (.func f), args := xs.toArray, argTypes := at_ }, ty, pos, af, none⟩ e hs := by
  have h1 := cv_w (at_ := at_) (e := e) hf hx h hp
  refine ⟨fun hK fuel a w hfu ok => ?_⟩
  obtain ⟨g, args, w1, hr, hc⟩ := h1.go ⟨some d, .call { callee := .value (.func f), args := xs.toArray, argTypes := at_ }, ty, pos, af, none⟩ a w rfl ok
  rw [if_pos (by simp [Region.wanted])]
  refine Or.inl ?_
  simp only [Oper.wp, hr, Oper.upon]
  refine Calls.mono hc ?_
  rintro en w' ⟨rfl, hst⟩
  exact ⟨hK.st hst, next.go hK fuel _ _ hfu ((ok.world hst).put hd v)⟩
/-- A call that makes memory. -/
theorem ac {f : FuncId} {xs : List Operand} {vs : List Go.Value} {at_ : Array TypeId} {pre : World → Prop} {post : Go.Value → Hs → Prop} (hd : Nat.blt d C.N = true) (hf : isFn C.P f = true) (hx : evAll e xs = some vs)
    (h : Con C.P f vs [] pre post) (hp : ∀ w, St C.W0 C.own hs w → pre w) (next : ∀ v hs', post v hs' → Any C ops k kp h0 m ((d, v) :: e) (hs ++ hs')) :
    AnyO C ops k kp h0 m ⟨some d, .call { callee := .value (.func f), args := xs.toArray, argTypes := at_ }, ty, pos, af, none⟩ e hs := by
  refine any_enter (f := f) (args := vs.toArray) (Φ := fun v hs1 => ∃ hs', hs1 = hs ++ hs' ∧ post v hs') rfl rfl hd (fun a w ok => ⟨w, ?_, (h.go w (St.start w) (hp w ok.st)).mono ?_⟩) ?_ ?_
  · have h1 := evAll_eval ok.e xs vs hx
    unfold isFn at hf
    cases hg : C.P.funcs[f]? with
    | none => simp [hg] at hf
    | some fn =>
      simp only [hg, Bool.and_eq_true, bne_iff_ne, ne_eq] at hf
      obtain ⟨h2, h3⟩ := hf
      obtain ⟨bd, h4⟩ := Option.isSome_iff_exists.1 h3
      simp [execOp, resolve, Act.eval, Deferred.ofValue, invoke, callFunc, hg, h2, h4, ← h1]
  · rintro en w' ⟨v, hs', rfl, hst', hpost⟩
    exact ⟨v, hs ++ hs', rfl, (St.call (bs := []) ok.st hst').perm List.perm_append_comm, hs', rfl, hpost⟩
  · rintro v hs1 ⟨hs', rfl, hpost⟩ hK; exact hK.app _
  · rintro v hs1 ⟨hs', rfl, hpost⟩; exact next v hs' hpost
/-- A slice written out. -/
theorem ab {tb : Tab} {t et : TypeId} {n : Nat} {parts : Array (Nat × Operand)} {sz : Nat} {z : Go.Value} {vs : List Go.Value} (hT : TabOk C.P tb) (hd : Nat.blt d C.N = true) (hp : evSeq e 0 parts.toList = some vs) (hn : vs.length = n) (ht : elemL tb t = some (et, sz)) (h1 : sizeL tb et = some sz)
    (h3 : zeroL tb et = some z) (_ : z.cells.size = sz) (hv0 : (vs.all fun v => Nat.beq v.cells.size sz) = true) (hs0 : Nat.blt 0 (n * sz) = true) (hs1 : Nat.ble (n * sz) 16777216 = true)
    (next : ∀ b, Any C ops k kp h0 m ((d, .slice (some ⟨b, 0, none⟩) n n) :: e) (hs ++ [(b, .cells (flatC vs).toArray et)])) : AnyO C ops k kp h0 m ⟨some d, .buildSlice t n parts, ty, pos, af, none⟩ e hs := by
  have hv : ∀ v ∈ vs, v.cells.size = sz := fun v hm => Nat.eq_of_beq_eq_true (List.all_eq_true.1 hv0 v hm)
  have hs0' : 0 < n * sz := Nat.le_of_ble_eq_true hs0
  have hs1' : n * sz ≤ 16777216 := Nat.le_of_ble_eq_true hs1
  have hu : C.P.underlying t = some (.slice et) := by
    have := elem_of hT ht
    unfold elemT at this
    cases hu : C.P.underlying t with
    | none => simp [hu] at this
    | some u => cases u <;> simp [hu] at this; obtain ⟨_, _, rfl, _⟩ := this; rfl
  refine ⟨fun hK fuel a w hfu ok => ?_⟩
  rw [if_pos (by simp [Region.wanted])]
  refine Or.inl ?_
  have hr : ∃ w', (execOp a.eval ⟨some d, .buildSlice t n parts, ty, pos, af, none⟩).run C.P w = .ok (.value (.slice (some ⟨w.heap.size, 0, none⟩) n n)) w' ∧ St C.W0 C.own (hs ++ [(w.heap.size, .cells (flatC vs).toArray et)]) w' := by
    refine ⟨_, ?_, (ok.st.push _).perm (List.perm_append_comm (l₁ := hs) (l₂ := [_]))⟩
    have hsz := run_sizeOf (w := w) (size_of hT h1)
    have hzz := zero_of hT h3
    have hzr : (zeroValue et).run C.P w = .ok z w := by
      unfold zeroT at hzz
      cases hi : C.P.info? et with
      | none => simp [hi] at hzz
      | some i => simp [hi] at hzz; simp [zeroValue, typeInfo, hi, hzz]
    have hparts : (parts.map fun x => (x.1, a.eval x.2)).toList = (vs.zipIdx 0).map fun x => (x.2, x.1) := by rw [Array.toList_map]; exact evSeq_eq ok.e parts.toList 0 vs hp
    have hfill : Instr.fill (fun i => some (i * sz, sz)) ((Array.range (n * sz)).map (z.cells[· % z.cells.size]!)) ((vs.zipIdx 0).map fun x => (x.2, x.1)) = some (flatC vs).toArray := by
      have h := fill_seq sz vs 0 [] ((Array.range (n * sz)).map (z.cells[· % z.cells.size]!)).toList hv (by simp) (by simp [hn])
      rw [List.nil_append, Array.toArray_toList] at h
      exact h
    have hn1 : ¬ (n * sz > 2 ^ 24) := by simp; omega
    have hn2 : ¬ (n * sz = 0) := by omega
    simp only [execOp, Instr.buildSlice, run_underlying_some hu, Sem.run_bind, Result.andThen_ok, hsz, if_neg hn1, if_neg hn2, Sem.run_pure, hzr, hparts, hfill]
    simp [newRow]
  obtain ⟨w', hr, hst⟩ := hr
  simp only [Oper.wp, hr, Oper.upon]
  exact ⟨(hK.app _).st hst, (next w.heap.size).go (hK.app _) fuel _ _ hfu ((ok.world hst).put hd _)⟩
/-- A variable of our own is set. -/
theorem aso (i : Nat) {t : TypeId} {x y : Operand} {b off n : Nat} {c : Array Go.Value} {t' : TypeId} {v : Go.Value} (ht : sizeT C.P t = some n)
    (hx : ev e x = some (.pointer (some ⟨b, off, none⟩))) (hy : ev e y = some v) (hi : hs[i]? = some (b, .cells c t' (0, 0))) (hik : kp.contains i = false)
    (hn : v.cells.size = n) (hle : off + n ≤ c.size) (hone : ∀ u ∈ v.cells.toList, u.oneCell' = true)
    (next : Any C ops k kp h0 m e (hs.set i (b, .cells (lay c off v.cells.toList) t' (0, 0)))) : AnyO C ops k kp h0 m ⟨none, .store t x y, ty, pos, af, none⟩ e hs := by
  refine ⟨fun hK fuel a w hfu ok => ?_⟩
  rw [if_pos (by simp [Region.wanted])]
  refine Or.inl ?_
  obtain ⟨w', hr, hst⟩ := run_storeCells (P := C.P) off v.cells.toList w hs c 0 ok.st hi (by simp; omega) hone
  have hr2 : (execOp a.eval ⟨none, .store t x y, ty, pos, af, none⟩).run C.P w = .ok .skip w' := by
    simp [execOp, ok.e.eval hx, ok.e.eval hy, Instr.storeAt, Instr.sureAddr, storeVar, run_sizeOf ht, hn, hr]
  simp only [Oper.wp, hr2, Oper.upon]
  exact ⟨(hK.set hik _).st (by simpa using hst), next.go (hK.set hik _) fuel _ _ hfu (ok.world (by simpa using hst))⟩
theorem agy {dst : Option Tmp} {j gd : Nat} {want : Bool} (hj : dstAt ops j = some gd) (hg : eget e gd = some (.bool want)) (h : AnyO C ops k kp h0 m ⟨dst, op, ty, pos, af, none⟩ e hs) : AnyO C ops k kp h0 m ⟨dst, op, ty, pos, af, some (j, want)⟩ e hs := by
  refine ⟨fun hK fuel a w hf ok => ?_⟩
  have := h.go hK fuel a w hf ok
  have hy : yielded ops.toArray a.tmps j = some want := by simp only [yielded, show (ops.toArray[j]?).bind (·.dst) = some gd from by rw [dstAt_eq]; exact hj, Option.bind_some, ok.e _ _ hg]
  rw [if_pos (by simp [Region.wanted])] at this
  rw [if_pos (by simp [Region.wanted, hy])]
  exact this
theorem agn {j gd : Nat} {want was : Bool} (hd : Nat.blt d C.N = true) (hj : dstAt ops j = some gd) (hg : eget e gd = some (.bool was)) (hw : (was == want) = false) (h : Any C ops k kp h0 m ((d, undef) :: e) hs) : AnyO C ops k kp h0 m ⟨some d, op, ty, pos, af, some (j, want)⟩ e hs := by
  refine ⟨fun hK fuel a w hf ok => ?_⟩
  have hy : yielded ops.toArray a.tmps j = some was := by simp only [yielded, show (ops.toArray[j]?).bind (·.dst) = some gd from by rw [dstAt_eq]; exact hj, Option.bind_some, ok.e _ _ hg]
  rw [if_neg (by simp [Region.wanted, hy]; simpa using hw)]
  exact ⟨hK.st ok.st, h.go hK fuel _ _ hf (ok.put hd undef)⟩
theorem agu {j gd : Nat} {want : Bool} {v : Go.Value} (hd : Nat.blt d C.N = true) (hj : dstAt ops j = some gd) (hg : eget e gd = some v) (hw : notBool v = true) (h : Any C ops k kp h0 m ((d, undef) :: e) hs) : AnyO C ops k kp h0 m ⟨some d, op, ty, pos, af, some (j, want)⟩ e hs := by
  refine ⟨fun hK fuel a w hf ok => ?_⟩
  have hy : yielded ops.toArray a.tmps j = none := by
    simp only [yielded, show (ops.toArray[j]?).bind (·.dst) = some gd from by rw [dstAt_eq]; exact hj, Option.bind_some, ok.e _ _ hg]
    cases v <;> simp_all [notBool]
  rw [if_neg (by simp [Region.wanted, hy])]
  exact ⟨hK.st ok.st, h.go hK fuel _ _ hf (ok.put hd undef)⟩
end
end Go.Fl

namespace Go.Fl
open Go.Proofs Go.RowKit
set_option maxRecDepth 10000
set_option maxHeartbeats 4000000

section
variable {P : Program} {f : FuncId} {fn : Func} {hf : P.funcs[f]? = some fn} {n : Nat} {w0 : World} {ids : List Nat} {k : List Item} {e : VEnv} {ho : List OB} {tl : Hs} {x : V} {t key b o0 sz : Nat} {y y' : TypeId} {cells : List V} {sp : List Go.Value} {sh : Option Nat} {tb : Tab} {v : Go.Value}
theorem cell_load {C : Cx} (hT : TabOk C.P tb) (hk : nthU ho key = some ⟨b, y', .var cells, sp⟩) (hs : shapeL tb y = some sh) (hx : takeV sh cells = some x) {W0 w : World} {own : List Nat} (hst : St W0 own (rh ho ++ tl) w) : (loadVar y ⟨b, 0, none⟩).run C.P w = .ok x.val w := by
  rw [nthU_eq] at hk
  have hm : ((⟨b, y', .var cells, sp⟩ : OB).b, (⟨b, y', .var cells, sp⟩ : OB).obj) ∈ rh ho := List.mem_map.2 ⟨_, List.mem_of_getElem? hk, rfl⟩
  exact run_take (shape_of hT hs) hx (reads_obj (hst.has _ (List.mem_append_left _ hm)))
theorem vrc1 (hT : TabOk P tb) (hr : fn.results = #[.cell t y]) (hg : egV e t = some (.ptr true key b 0 sz 0 0)) (hk : nthU ho key = some ⟨b, y', .var cells, sp⟩) (hs : shapeL tb y = some sh) (hx : takeV sh cells = some x) (hv : v = x.val) :
    Here ⟨P, f, fn, hf, n, w0, [], RetPost w0 v, none, []⟩ tl (.run (.code .ret :: k)) e ho :=
  ⟨rcc1 (v1 := x.val) (Or.inl ⟨rfl, rfl⟩) (b1 := b) rfl hr (by rw [eg_re, hg]; simp [V.val]) (fun w hst => cell_load (C := ⟨P, f, fn, hf, n, w0, [], RetPost w0 v, none, []⟩) hT hk hs hx hst) (fun w hst => ⟨by rw [hv], hst.below⟩)⟩
variable {post : Go.Value → Hs → Prop} {bs : Hs}
theorem vcc1 (hT : TabOk P tb) (hr : fn.results = #[.cell t y]) (hg : egV e t = some (.ptr true key b 0 sz 0 0)) (hk : nthU ho key = some ⟨b, y', .var cells, sp⟩) (hs : shapeL tb y = some sh) (hx : takeV sh cells = some x) (hsub : bs.Sublist (rh ho ++ tl)) (hp : post x.val bs) :
    Here ⟨P, f, fn, hf, n, w0, ids, ConPost w0 ids post, none, []⟩ tl (.run (.code .ret :: k)) e ho :=
  ⟨rcc1 (v1 := x.val) (Or.inl ⟨rfl, rfl⟩) (b1 := b) rfl hr (by rw [eg_re, hg]; simp [V.val]) (fun w hst => cell_load (C := ⟨P, f, fn, hf, n, w0, [], RetPost w0 x.val, none, []⟩) hT hk hs hx hst) (fun w hst => ⟨_, _, rfl, hst.sub hsub, hp⟩)⟩
end
theorem bd_bd {p q : Prop} {dp : Decidable p} {dq : Decidable q} (h : p ↔ q) : (V.bd p dp).val = (V.bd q dq).val := by
  show Go.Value.bool _ = Go.Value.bool _
  congr 1
  exact decide_eq_decide.2 h
theorem bd_t {p : Prop} {dp : Decidable p} (h : p) : (V.bd p dp).val = (V.bl true).val := by
  show Go.Value.bool _ = Go.Value.bool _
  congr 1
  exact decide_eq_true h
theorem bd_f {p : Prop} {dp : Decidable p} (h : ¬ p) : (V.bd p dp).val = (V.bl false).val := by
  show Go.Value.bool _ = Go.Value.bool _
  congr 1
  exact decide_eq_false h
theorem vopenP {C : Cx} {l0 l : List Oper} {k : List Item} {e : VEnv} {tl : Hs} (bs : List OB) (tl' : Hs) (hp : (rh bs ++ tl').Perm tl) (h : Here C tl' (.ops l0 l k) e bs) : Here C tl (.ops l0 l k) e [] :=
  ⟨ops_st (hs' := rh bs ++ tl') (fun _ hst => hst.perm hp) h.go⟩
theorem vloop {C : Cx} {k : List Item} {e : VEnv} {ho : List OB} {tl : Hs} {c : Code} (h : Here C tl (.run (.code c :: .inLoop c :: k)) e ho) : Here C tl (.run (.code (.loop c) :: k)) e ho := ⟨run_loop h.go⟩
theorem vagain {C : Cx} {k : List Item} {e : VEnv} {ho : List OB} {tl : Hs} {c : Code} (h : Here C tl (.run (.code c :: .inLoop c :: k)) e ho) : Here C tl (.run (.inLoop c :: k)) e ho := ⟨run_inLoop h.go⟩
/-- A region walked order by order. -/
theorem vany (kp : List Nat) {C : Cx} {l0 : Array Oper} {k : List Item} {e : VEnv} {ho : List OB} {tl : Hs} {id : Nat} (hm : C.P.follows .mixedOrders = true) (hk : kp.all (fun i => Nat.blt i (rh ho ++ tl).length) = true) (h : Any C l0.toList k kp (rh ho ++ tl) (List.replicate l0.toList.length false) (rE e) (rh ho ++ tl)) (hrd : C.rd = none := by rfl) : Here C tl (.run (.code (.region id l0 true) :: k)) e ho :=
  ⟨any_region kp hm hk h hrd⟩
theorem vanyE (kp : List Nat) {C : Cx} {l0 : Array Oper} {k : List Item} {e : VEnv} {ho : List OB} {tl : Hs} {id : Nat} {ι : Type} (E : ι → VEnv) (H : ι → List OB) (T : ι → Hs) (Φ : ι → Prop) (hm : C.P.follows .mixedOrders = true) (hk : kp.all (fun i => Nat.blt i (rh ho ++ tl).length) = true) (hend : ∀ i, Φ i → Here C (T i) (.run k) (E i) (H i))
    (h : (∀ i e0 hs, Φ i → Sub (rE (E i)) e0 → (rh (H i) ++ T i).Perm hs → Run C k e0 hs) → Any C l0.toList k kp (rh ho ++ tl) (List.replicate l0.toList.length false) (rE e) (rh ho ++ tl)) (hrd : C.rd = none := by rfl) : Here C tl (.run (.code (.region id l0 true) :: k)) e ho :=
  ⟨any_region kp hm hk (h fun i _ _ hi he hp => ⟨fun a w ok => (hend i hi).go.go a w ⟨ok.n, ok.d, ok.e.sub he.get, ok.st.perm hp⟩⟩) hrd⟩
theorem vback {C : Cx} {k : List Item} {e : VEnv} {ho : List OB} {tl : Hs} {e0 : Env} {hs : Hs} (h : Here C tl (.run k) e ho) (he : Sub (rE e) e0) (l : Hs) (hp : l.Perm hs) (hh : (rh ho ++ tl).Sublist l) : Run C k e0 hs :=
  ⟨fun a w ok => h.go.go a w ⟨ok.n, ok.d, ok.e.sub he.get, (ok.st.perm hp).sub hh⟩⟩
end Go.Fl
