/-
  Labels and texts in the reckoned walk. No condition.
-/
import Derived.Test.YtiepomeokhjcfaaGreatDoorVd
import Derived.Test.YtiepomeokhjcfaaGreatDoorLabA
namespace Go.Fl
open Go.Proofs Go.RowKit
set_option maxRecDepth 10000
set_option maxHeartbeats 4000000

def cdL : Cd Lab where
  sz := 2
  enc x := [.str x.1, .str x.2]
  dec
    | [.str a, .str b] => some (a, b)
    | _ => none
  hsz _ := rfl
  hdec c x h := by
    split at h
    · cases h; rfl
    · cases h
  one x v hv := by
    simp only [V.vals, V.val, List.mem_cons, List.not_mem_nil, or_false] at hv
    rcases hv with rfl | rfl <;> rfl
theorem vals_cdL : ∀ L : List Lab, V.vals (Bk.arr cdL L).flat = cellsL L
  | [] => rfl
  | x :: L => by
    have := vals_cdL L
    simp only [Bk.flat, List.flatMap_cons, vals_app] at this ⊢
    rw [this]; rfl

theorem lent_nil {C : Cx} : LentOk C [] := fun _ h => by cases h
theorem lent_cons {C : Cx} {b o0 : Nat} {bk : Bk} {hl : List LB} (h1 : b ∉ C.own) (h2 : Reads C.W0 ⟨b, o0, none⟩ (V.vals bk.flat)) (h : LentOk C hl) : LentOk C (⟨b, o0, bk⟩ :: hl) := by
  intro x hx
  rcases List.mem_cons.1 hx with rfl | hx
  · exact ⟨h1, h2⟩
  · exact h x hx
theorem lent_lab {C : Cx} {b o0 : Nat} {L : List Lab} {hl : List LB} (h : LentOk C hl) (h1 : b ∉ C.own) (h2 : Reads C.W0 ⟨b, o0, none⟩ (cellsL L)) : LentOk C (⟨b, o0, .arr cdL L⟩ :: hl) :=
  lent_cons h1 (by rw [vals_cdL]; exact h2) h

theorem vwith {C : Cx} {tb : Tab} {tl : Hs} {pt : Pt} (e : VEnv) (ho : List OB) (hl : List LB) (hT : TabOk C.P tb) (hL : LentOk C hl) (h : (∀ n tl pt e ho, vc C tb hl tl n pt e ho → Here C tl pt e ho) → Here C tl pt e ho) : Here C tl pt e ho := h fun n tl => vc_sound hT hL tl n

/-! less is known; loops -/
def VSub : VEnv → VEnv → Prop
  | [], _ => True
  | (t, v) :: r, e => (egV e t).map V.val = some v.val ∧ VSub r e
theorem vsub_sub : ∀ {e' e : VEnv}, VSub e' e → Sub (rE e') (rE e)
  | [], _, _ => trivial
  | (t, v) :: r, e, h => ⟨by rw [eg_re]; exact h.1, vsub_sub h.2⟩
section
variable {C : Cx} {k : List Item} {e e' : VEnv} {ho ho' : List OB} {tl tl' : Hs}
theorem vweak (e' : VEnv) (ho' : List OB) (tl' : Hs) (h : Here C tl' (.run k) e' ho') (he : VSub e' e) (hh : (rh ho' ++ tl').Sublist (rh ho ++ tl)) : Here C tl (.run k) e ho := ⟨weak (vsub_sub he) hh h.go⟩
/-- A LOOP: a family of states. -/
theorem vrounds {c : Code} {ι : Type} (I : ι → Prop) (μ : ι → Nat) (E : ι → VEnv) (H : ι → List OB) (T : ι → Hs) (i0 : ι)
    (round : ∀ i, I i → (∀ j, I j → μ j < μ i → Here C (T j) (.run (.inLoop c :: k)) (E j) (H j)) → Here C (T i) (.run (.code c :: .inLoop c :: k)) (E i) (H i))
    (h0 : I i0) (he : VSub (E i0) e) (hh : (rh (H i0) ++ T i0).Sublist (rh ho ++ tl)) : Here C tl (.run (.code (.loop c) :: k)) e ho := by
  refine ⟨weak (vsub_sub he) hh ?_⟩
  have key : ∀ n i, μ i = n → I i → Run C (.inLoop c :: k) (rE (E i)) (rh (H i) ++ T i) := by
    intro n
    induction n using Nat.strongRecOn with
    | _ n ih => intro i hi hI; exact run_inLoop (round i hI fun j hJ hj => ⟨ih (μ j) (hi ▸ hj) j rfl hJ⟩).go
  exact run_loop (round i0 h0 fun j hJ _ => ⟨key _ j rfl hJ⟩).go
/-- A drawn region. -/
theorem vdraw {id : Nat} {l0 : Array Oper} (fl : List Nat) (hm : C.P.follows .mixedOrders = true) (hok : drawOk l0.toList fl = true) (hlen : fl.length = l0.toList.length)
    (h : Here C tl (.drw l0.toList fl k (l0.toList.zip fl)) e ho) (hrd : C.rd = none := by rfl) : Here C tl (.run (.code (.region id l0 true) :: k)) e ho := by
  have := run_draw (id := id) (l0 := l0.toList) fl hm hok hlen h.go hrd
  rw [Array.toArray_toList] at this
  exact ⟨this⟩
end

/-- The same environment, told by other names. -/
theorem vre {C : Cx} {tl : Hs} {pt : Pt} {e : VEnv} {ho : List OB} (e' : VEnv) (he : rE e' = rE e) (h : Here C tl pt e' ho) : Here C tl pt e ho := by
  have h := h.go
  cases pt <;> (refine ⟨?_⟩; simp only [HereF] at h ⊢; rw [he] at h; exact h)

/-! calls -/
theorem RetIf.bd {P : Program} {f : FuncId} {args : List Go.Value} {pre : World → Prop} {b : Bool} (h : RetIf P f args pre (.bool b)) : RetIf P f args pre (V.bd (b = true) inferInstance).val := by
  have : (V.bd (b = true) inferInstance).val = .bool b := by cases b <;> rfl
  rw [this]; exact h
section
variable {C : Cx} {l0 rest : List Oper} {fl0 : List Nat} {l : List (Oper × Nat)} {k : List Item} {e : VEnv} {ho : List OB} {tl : Hs} {d : Nat} {ty : TypeId} {pos : String} {af : Array Edge} {f : FuncId} {xs : Array Operand} {vs : List V} {at_ : Array TypeId} {v : V} {pre : World → Prop}
theorem vcall (hx : evVs e xs.toList = some vs) (hd : Nat.blt d C.N = true) (hf : isFn C.P f = true) (h : RetIf C.P f (V.vals vs) pre v.val) (hp : ∀ w, St C.W0 C.own (rh ho ++ tl) w → pre w)
    (next : Here C tl (.ops l0 rest k) ((d, v) :: e) ho) : Here C tl (.ops l0 (⟨some d, .call { callee := .value (.func f), args := xs, argTypes := at_ }, ty, pos, af, none⟩ :: rest) k) e ho := by
  have h1 := cv_w (at_ := at_) (e := rE e) hf (evs_re hx) h hp
  rw [Array.toArray_toList] at h1
  exact ⟨o3 hd h1 next.go⟩
theorem vcallD (hx : evVs e xs.toList = some vs) (hd : Nat.blt d C.N = true) (hf : isFn C.P f = true) (h : RetIf C.P f (V.vals vs) pre v.val) (hp : ∀ w, St C.W0 C.own (rh ho ++ tl) w → pre w)
    (next : Here C tl (.drw l0 fl0 k l) ((d, v) :: e) ho) : Here C tl (.drw l0 fl0 k ((⟨some d, .call { callee := .value (.func f), args := xs, argTypes := at_ }, ty, pos, af, none⟩, 1) :: l)) e ho := by
  have h1 := cv_w (at_ := at_) (e := rE e) hf (evs_re hx) h hp
  rw [Array.toArray_toList] at h1
  exact ⟨d3 hd h1 next.go⟩
/-- ..that makes memory. -/
theorem vcc {post : Go.Value → Hs → Prop} (hx : evVs e xs.toList = some vs) (hd : Nat.blt d C.N = true) (hf : isFn C.P f = true) (h : Con C.P f (V.vals vs) [] pre post) (hp : ∀ w, St C.W0 C.own (rh ho ++ tl) w → pre w)
    (next : ∀ v bs, post v bs → ∃ v' : V, v = v'.val ∧ Here C (bs ++ tl) (.ops l0 rest k) ((d, v') :: e) ho) : Here C tl (.ops l0 (⟨some d, .call { callee := .value (.func f), args := xs, argTypes := at_ }, ty, pos, af, none⟩ :: rest) k) e ho := by
  have h1 := cc0 (C := C) (ops := l0.toArray) (rest := rest) (k := k) (ty := ty) (pos := pos) (af := af) (at_ := at_) hd hf (evs_re hx) h hp (hs := rh ho ++ tl) (fun v bs hpost => by
    obtain ⟨v', rfl, hn⟩ := next v bs hpost
    refine ops_st (fun w hst => hst.perm ?_) hn.go
    rw [← List.append_assoc, ← List.append_assoc]
    exact List.perm_append_comm.append_right tl)
  rw [Array.toArray_toList] at h1
  exact ⟨h1⟩
/-- ..that is handed blocks of ours. -/
theorem vccp {bs qs : Hs} {post : Go.Value → Hs → Prop} (hx : evVs e xs.toList = some vs) (hd : Nat.blt d C.N = true) (hf : isFn C.P f = true) (hi : (bs ++ qs).Perm (rh ho ++ tl)) (h : Con C.P f (V.vals vs) bs pre post) (hp : ∀ w, St C.W0 C.own (rh ho ++ tl) w → pre w)
    (next : ∀ v bs', post v bs' → ∃ v' : V, v = v'.val ∧ Here C (bs' ++ qs) (.ops l0 rest k) ((d, v') :: e) []) : Here C tl (.ops l0 (⟨some d, .call { callee := .value (.func f), args := xs, argTypes := at_ }, ty, pos, af, none⟩ :: rest) k) e ho := by
  have h1 := ccp (C := C) (ops := l0.toArray) (rest := rest) (k := k) (ty := ty) (pos := pos) (af := af) (at_ := at_) hd hf (evs_re hx) hi h hp (fun v bs' hpost => by obtain ⟨v', rfl, hn⟩ := next v bs' hpost; exact hn.go)
  rw [Array.toArray_toList] at h1
  exact ⟨h1⟩
/-- What is known of a block that was opaque. -/
theorem vopen {pt : Pt} {e' : VEnv} (bs : List OB) (tl' : Hs) (h : Here C tl' pt e' (ho ++ bs)) (he : rE e' = rE e) (ht : tl = rh bs ++ tl') : Here C tl pt e ho := by
  subst ht
  have e1 : rh (ho ++ bs) ++ tl' = rh ho ++ (rh bs ++ tl') := by simp [rh]
  cases pt <;> (refine ⟨?_⟩; have h := h.go; simp only [HereF] at h ⊢; rw [e1, he] at h; exact h)
end

/-- One label more, to a list of our own that is opaque. -/
theorem vapL {C : Cx} {l0 rest : List Oper} {k : List Item} {e : VEnv} {ho : List OB} {tl : Hs} {d : Nat} {ty : TypeId} {pos : String} {af : Array Edge} (ho0 : List OB) {out : List Lab} {l : Lab} {v : Go.Value} {yv : V} {bs qs : Hs} {b : Nat} {x y : Operand} (hT : TabOk C.P tab) (hO : OutAt out v bs) (hlen : out.length ≤ 4398046511103)
    (hd : Nat.blt d C.N = true) (hx : evV e x = some (.raw v)) (hy : evV e y = some yv) (hyv : yv.val = .slice (some ⟨b, 0, none⟩) 1 1) (heq : ho = ho0 ++ [⟨b, 125, .var [.str l.1, .str l.2], []⟩]) (ht : tl = bs ++ qs)
    (next : ∀ v' bs', OutAt (out ++ [l]) v' bs' → Here C (bs' ++ qs) (.ops l0 rest k) ((d, .raw v') :: e) ho0) :
    Here C tl (.ops l0 (⟨some d, .call { callee := .builtin .append, args := #[x, y], argTypes := #[22, 22] }, ty, pos, af, none⟩ :: rest) k) e ho := by
  subst heq ht
  refine ⟨ops_st (hs' := bs ++ (b, .cells #[.string l.1, .string l.2] 125) :: (rh ho0 ++ qs)) (fun w hst => hst.perm ?_) (apLw (l := l) hT hd hO hlen (ev_re hx) (by rw [ev_re hy, hyv]) (fun v' bs' h => ops_st (fun w hst => hst.perm ?_) (next v' bs' h).go))⟩
  · simp only [rh, List.map_append, List.map_cons, List.map_nil, List.append_assoc, List.singleton_append]
    refine List.perm_middle.trans ?_
    refine ((List.perm_append_comm_assoc _ _ _).cons _).trans ?_
    exact List.perm_middle.symm
  · exact List.perm_append_comm_assoc _ _ _

/-! ends -/
section
variable {P : Program} {f : FuncId} {fn : Func} {hf : P.funcs[f]? = some fn} {n : Nat} {w0 : World} {ids : List Nat} {k : List Item} {e : VEnv} {ho : List OB} {tl : Hs} {x y z : V} {t t2 t3 : Nat} {v : Go.Value}
theorem vr1 (hr : fn.results = #[.tmp t]) (hg : egV e t = some x) (hv : v = x.val) : Here ⟨P, f, fn, hf, n, w0, [], RetPost w0 v, none, []⟩ tl (.run (.code .ret :: k)) e ho :=
  ⟨rr1 hr (by rw [eg_re, hg]; rfl) hv⟩
theorem vr2 (hr : fn.results = #[.tmp t, .tmp t2]) (hg : egV e t = some x) (hg2 : egV e t2 = some y) (hv : v = .tuple #[x.val, y.val]) : Here ⟨P, f, fn, hf, n, w0, [], RetPost w0 v, none, []⟩ tl (.run (.code .ret :: k)) e ho :=
  ⟨rr2 hr (by rw [eg_re, hg]; rfl) (by rw [eg_re, hg2]; rfl) hv⟩
theorem vr3 (hr : fn.results = #[.tmp t, .tmp t2, .tmp t3]) (hg : egV e t = some x) (hg2 : egV e t2 = some y) (hg3 : egV e t3 = some z) (hv : v = .tuple #[x.val, y.val, z.val]) : Here ⟨P, f, fn, hf, n, w0, [], RetPost w0 v, none, []⟩ tl (.run (.code .ret :: k)) e ho :=
  ⟨rr3 hr (by rw [eg_re, hg]; rfl) (by rw [eg_re, hg2]; rfl) (by rw [eg_re, hg3]; rfl) hv⟩
variable {post : Go.Value → Hs → Prop} {bs : Hs}
theorem vc0 (hr : fn.results = #[]) (hp : post (.tuple #[]) bs) (hs : bs.Sublist (rh ho ++ tl)) : Here ⟨P, f, fn, hf, n, w0, ids, ConPost w0 ids post, none, []⟩ tl (.run []) e ho :=
  ⟨weak (e' := []) trivial hs (rc0 hr hp)⟩
theorem vc1 (hr : fn.results = #[.tmp t]) (hg : egV e t = some x) (hs : bs.Sublist (rh ho ++ tl)) (hp : post x.val bs) : Here ⟨P, f, fn, hf, n, w0, ids, ConPost w0 ids post, none, []⟩ tl (.run (.code .ret :: k)) e ho :=
  ⟨run_weak (fun _ _ h => h) hs (rc1 hr (by rw [eg_re, hg]; rfl) hp)⟩
theorem vc2 (hr : fn.results = #[.tmp t, .tmp t2]) (hg : egV e t = some x) (hg2 : egV e t2 = some y) (hs : bs.Sublist (rh ho ++ tl)) (hp : post (.tuple #[x.val, y.val]) bs) : Here ⟨P, f, fn, hf, n, w0, ids, ConPost w0 ids post, none, []⟩ tl (.run (.code .ret :: k)) e ho :=
  ⟨run_weak (fun _ _ h => h) hs (rc2 hr (by rw [eg_re, hg]; rfl) (by rw [eg_re, hg2]; rfl) hp)⟩
theorem vc3 (hr : fn.results = #[.tmp t, .tmp t2, .tmp t3]) (hg : egV e t = some x) (hg2 : egV e t2 = some y) (hg3 : egV e t3 = some z) (hs : bs.Sublist (rh ho ++ tl)) (hp : post (.tuple #[x.val, y.val, z.val]) bs) : Here ⟨P, f, fn, hf, n, w0, ids, ConPost w0 ids post, none, []⟩ tl (.run (.code .ret :: k)) e ho :=
  ⟨run_weak (fun _ _ h => h) hs (rc3 hr (by rw [eg_re, hg]; rfl) (by rw [eg_re, hg2]; rfl) (by rw [eg_re, hg3]; rfl) hp)⟩
end
/-- At the start. -/
theorem vstart {C : Cx} {k : List Item} (e : VEnv) (ho : List OB) (tl : Hs) (h : Here C tl (.run k) e ho) : Run C k (rE e) (rh ho ++ tl) := h.go
end Go.Fl
