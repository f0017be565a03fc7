/-
  Functions whose one result lies in a variable, in the reckoned walk; regions walked order by order. No condition.
-/
import Derived.Test.YtiepomeokhjcfaaDoorVl
import Derived.Test.YtiepomeokhjcfaaDoorMark
import Derived.Test.YtiepomeokhjcfaaDoorAny
namespace Go.Fl
open Go.Proofs Go.RowKit
set_option maxRecDepth 10000
set_option maxHeartbeats 4000000

section
variable {P : Program} {f : FuncId} {fn : Func} {hf : P.funcs[f]? = some fn} {n : Nat} {w0 : World} {ids : List Nat} {k : List Item} {e : VEnv} {ho : List OB} {tl : Hs} {x : V} {t key b o0 sz : Nat} {y y' : TypeId} {cells : List V} {sp : List Go.Value} {sh : Option Nat} {tb : Tab} {v : Go.Value}
theorem cell_load {C : Cx} (hT : TabOk C.P tb) (hk : nthU ho key = some ⟨b, y', .var cells, sp⟩) (hs : shapeL tb y = some sh) (hx : takeV sh cells = some x) {W0 w : World} {own : List Nat} (hst : St W0 own (rh ho ++ tl) w) : (loadVar y ⟨b, 0, none⟩).run C.P w = .ok x.val w := by
  rw [nthU_eq] at hk
  have hm : ((⟨b, y', .var cells, sp⟩ : OB).b, (⟨b, y', .var cells, sp⟩ : OB).obj) ∈ rh ho := List.mem_map.2 ⟨_, List.mem_of_getElem? hk, rfl⟩
  exact run_take (shape_of hT hs) hx (reads_obj (hst.has _ (List.mem_append_left _ hm)))
theorem vrc1 (hT : TabOk P tb) (hr : fn.results = #[.cell t y]) (hg : egV e t = some (.ptr true key b 0 sz 0 0)) (hk : nthU ho key = some ⟨b, y', .var cells, sp⟩) (hs : shapeL tb y = some sh) (hx : takeV sh cells = some x) (hv : v = x.val) :
    Here ⟨P, f, fn, hf, n, w0, [], RetPost w0 v, none, []⟩ tl (.run (.code .ret :: k)) e ho :=
  ⟨rcc1 (v1 := x.val) (Or.inl ⟨rfl, rfl⟩) (b1 := b) rfl hr (by rw [eg_re, hg]; simp [V.val]) (fun w hst => cell_load (C := ⟨P, f, fn, hf, n, w0, [], RetPost w0 v, none, []⟩) hT hk hs hx hst) (fun w hst => ⟨by rw [hv], hst.below⟩)⟩
variable {post : Go.Value → Hs → Prop} {bs : Hs}
theorem vcc1 (hT : TabOk P tb) (hr : fn.results = #[.cell t y]) (hg : egV e t = some (.ptr true key b 0 sz 0 0)) (hk : nthU ho key = some ⟨b, y', .var cells, sp⟩) (hs : shapeL tb y = some sh) (hx : takeV sh cells = some x) (hsub : bs.Sublist (rh ho ++ tl)) (hp : post x.val bs) :
    Here ⟨P, f, fn, hf, n, w0, ids, ConPost w0 ids post, none, []⟩ tl (.run (.code .ret :: k)) e ho :=
  ⟨rcc1 (v1 := x.val) (Or.inl ⟨rfl, rfl⟩) (b1 := b) rfl hr (by rw [eg_re, hg]; simp [V.val]) (fun w hst => cell_load (C := ⟨P, f, fn, hf, n, w0, [], RetPost w0 x.val, none, []⟩) hT hk hs hx hst) (fun w hst => ⟨_, _, rfl, hst.sub hsub, hp⟩)⟩
end
theorem bd_bd {p q : Prop} {dp : Decidable p} {dq : Decidable q} (h : p ↔ q) : (V.bd p dp).val = (V.bd q dq).val := by
  show Go.Value.bool _ = Go.Value.bool _
  congr 1
  exact decide_eq_decide.2 h
theorem bd_t {p : Prop} {dp : Decidable p} (h : p) : (V.bd p dp).val = (V.bl true).val := by
  show Go.Value.bool _ = Go.Value.bool _
  congr 1
  exact decide_eq_true h
theorem bd_f {p : Prop} {dp : Decidable p} (h : ¬ p) : (V.bd p dp).val = (V.bl false).val := by
  show Go.Value.bool _ = Go.Value.bool _
  congr 1
  exact decide_eq_false h
theorem vopenP {C : Cx} {l0 l : List Oper} {k : List Item} {e : VEnv} {tl : Hs} (bs : List OB) (tl' : Hs) (hp : (rh bs ++ tl').Perm tl) (h : Here C tl' (.ops l0 l k) e bs) : Here C tl (.ops l0 l k) e [] :=
  ⟨ops_st (hs' := rh bs ++ tl') (fun _ hst => hst.perm hp) h.go⟩
theorem vloop {C : Cx} {k : List Item} {e : VEnv} {ho : List OB} {tl : Hs} {c : Code} (h : Here C tl (.run (.code c :: .inLoop c :: k)) e ho) : Here C tl (.run (.code (.loop c) :: k)) e ho := ⟨run_loop h.go⟩
theorem vagain {C : Cx} {k : List Item} {e : VEnv} {ho : List OB} {tl : Hs} {c : Code} (h : Here C tl (.run (.code c :: .inLoop c :: k)) e ho) : Here C tl (.run (.inLoop c :: k)) e ho := ⟨run_inLoop h.go⟩
/-- A region walked order by order. -/
theorem vany (kp : List Nat) {C : Cx} {l0 : Array Oper} {k : List Item} {e : VEnv} {ho : List OB} {tl : Hs} {id : Nat} (hm : C.P.follows .mixedOrders = true) (hk : kp.all (fun i => Nat.blt i (rh ho ++ tl).length) = true) (h : Any C l0.toList k kp (rh ho ++ tl) (List.replicate l0.toList.length false) (rE e) (rh ho ++ tl)) (hrd : C.rd = none := by rfl) : Here C tl (.run (.code (.region id l0 true) :: k)) e ho :=
  ⟨any_region kp hm hk h hrd⟩
theorem vanyE (kp : List Nat) {C : Cx} {l0 : Array Oper} {k : List Item} {e : VEnv} {ho : List OB} {tl : Hs} {id : Nat} {ι : Type} (E : ι → VEnv) (H : ι → List OB) (T : ι → Hs) (Φ : ι → Prop) (hm : C.P.follows .mixedOrders = true) (hk : kp.all (fun i => Nat.blt i (rh ho ++ tl).length) = true) (hend : ∀ i, Φ i → Here C (T i) (.run k) (E i) (H i))
    (h : (∀ i e0 hs, Φ i → Sub (rE (E i)) e0 → (rh (H i) ++ T i).Perm hs → Run C k e0 hs) → Any C l0.toList k kp (rh ho ++ tl) (List.replicate l0.toList.length false) (rE e) (rh ho ++ tl)) (hrd : C.rd = none := by rfl) : Here C tl (.run (.code (.region id l0 true) :: k)) e ho :=
  ⟨any_region kp hm hk (h fun i _ _ hi he hp => ⟨fun a w ok => (hend i hi).go.go a w ⟨ok.n, ok.d, ok.e.sub he.get, ok.st.perm hp⟩⟩) hrd⟩
theorem vback {C : Cx} {k : List Item} {e : VEnv} {ho : List OB} {tl : Hs} {e0 : Env} {hs : Hs} (h : Here C tl (.run k) e ho) (he : Sub (rE e) e0) (l : Hs) (hp : l.Perm hs) (hh : (rh ho ++ tl).Sublist l) : Run C k e0 hs :=
  ⟨fun a w ok => h.go.go a w ⟨ok.n, ok.d, ok.e.sub he.get, (ok.st.perm hp).sub hh⟩⟩
end Go.Fl
