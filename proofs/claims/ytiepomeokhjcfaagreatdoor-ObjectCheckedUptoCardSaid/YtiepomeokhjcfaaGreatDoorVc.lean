/-
  A walk that is reckoned: what is left to show of a piece of code, by its text. No condition.
-/
import Derived.Test.YtiepomeokhjcfaaGreatDoorVw
import Derived.Test.YtiepomeokhjcfaaGreatDoorWide
namespace Go.Fl
open Go.Proofs Go.RowKit
set_option maxRecDepth 10000
set_option maxHeartbeats 4000000

/-! blocks -/
structure Cd (α : Type) where
  sz : Nat
  enc : α → List V
  dec : List V → Option α
  hsz : ∀ x, (enc x).length = sz
  hdec : ∀ c x, dec c = some x → V.vals (enc x) = V.vals c
  one : ∀ x, ∀ v ∈ V.vals (enc x), v.oneCell' = true
inductive Bk : Type 1
  | var (cells : List V)
  | arr {α : Type} (cd : Cd α) (L : List α)
def Bk.flat : Bk → List V
  | .var c => c
  | .arr cd L => L.flatMap cd.enc
structure OB : Type 1 where
  b : Nat
  ty : TypeId
  bk : Bk
  spare : List Go.Value
def OB.obj (x : OB) : Obj := .cells (V.vals x.bk.flat ++ x.spare).toArray x.ty
abbrev rh (ho : List OB) : Hs := ho.map fun x => (x.b, x.obj)
structure LB : Type 1 where
  b : Nat
  o0 : Nat
  bk : Bk
def LentOk (C : Cx) (hl : List LB) : Prop := ∀ x ∈ hl, x.b ∉ C.own ∧ Reads C.W0 ⟨x.b, x.o0, none⟩ (V.vals x.bk.flat)
structure Cod : Type 1 where
  α : Type
  cd : Cd α

def nthU {α : Type 1} : List α → Nat → Option α
  | [], _ => none
  | x :: _, 0 => some x
  | _ :: l, n + 1 => nthU l n
theorem nthU_eq {α : Type 1} : ∀ (l : List α) (i : Nat), nthU l i = l[i]?
  | [], i => by simp [nthU]
  | x :: l, 0 => by simp [nthU]
  | x :: l, i + 1 => by simpa [nthU] using nthU_eq l i

/-! values laid open before they go on -/
def force1 (v : V) (K : V → Prop) : Prop := match v with
  | .raw u => K (.raw u)
  | .nat n => K (.nat n)
  | .int k i => K (.int k i)
  | .bl b => K (.bl b)
  | .bd p d => K (.bd p d)
  | .str s => K (.str s)
  | .ptr o k b o0 sz i off => K (.ptr o k b o0 sz i off)
  | .sl o k b o0 sz i n c => K (.sl o k b o0 sz i n c)
  | .agg vs => K (.agg vs)
  | .tup vs => K (.tup vs)
  | .ifc t v => K (.ifc t v)
  | .fn f a b => K (.fn f a b)
theorem force1_eq {v : V} {K : V → Prop} : force1 v K = K v := by cases v <;> rfl
def forceL : List V → (List V → Prop) → Prop
  | [], K => K []
  | v :: r, K => force1 v fun v' => forceL r fun r' => K (v' :: r')
theorem forceL_eq : ∀ (l : List V) (K : List V → Prop), forceL l K = K l
  | [], K => rfl
  | v :: r, K => by simp only [forceL, force1_eq, forceL_eq r]
def forceV (v : V) (K : V → Prop) : Prop := match v with
  | .agg vs => forceL vs fun vs' => K (.agg vs')
  | .tup vs => forceL vs fun vs' => K (.tup vs')
  | v => force1 v K
theorem forceV_eq {v : V} {K : V → Prop} : forceV v K = K v := by
  unfold forceV
  split
  · rw [forceL_eq]
  · rw [forceL_eq]
  · rw [force1_eq]
def setU {α : Type 1} : List α → Nat → α → (List α → Prop) → Prop
  | [], _, _, K => K []
  | _ :: r, 0, y, K => K (y :: r)
  | x :: r, n + 1, y, K => setU r n y fun r' => K (x :: r')
theorem setU_eq {α : Type 1} : ∀ (l : List α) (n : Nat) (y : α) (K : List α → Prop), setU l n y K = K (l.set n y)
  | [], n, y, K => by simp [setU]
  | x :: r, 0, y, K => by simp [setU]
  | x :: r, n + 1, y, K => by simp only [setU, setU_eq r, List.set_cons_succ]
def pushU {α : Type 1} : List α → α → (List α → Prop) → Prop
  | [], y, K => K [y]
  | x :: r, y, K => pushU r y fun r' => K (x :: r')
theorem pushU_eq {α : Type 1} : ∀ (l : List α) (y : α) (K : List α → Prop), pushU l y K = K (l ++ [y])
  | [], y, K => rfl
  | x :: r, y, K => by simp only [pushU, pushU_eq r, List.cons_append]

/-! the walk -/
inductive Pt
  | run (k : List Item)
  | ops (l0 l : List Oper) (k : List Item)
  | drw (l0 : List Oper) (fl0 : List Nat) (k : List Item) (l : List (Oper × Nat))
def HereF (C : Cx) (tl : Hs) : Pt → VEnv → List OB → Prop
  | .run k, e, ho => Run C k (rE e) (rh ho ++ tl)
  | .ops l0 l k, e, ho => Ops C l0.toArray l k (rE e) (rh ho ++ tl)
  | .drw l0 fl0 k l, e, ho => Drw C l0 fl0 k l (rE e) (rh ho ++ tl)
structure Here (C : Cx) (tl : Hs) (pt : Pt) (e : VEnv) (ho : List OB) : Prop where
  go : HereF C tl pt e ho

def blkOf (ho : List OB) (hl : List LB) (own : Bool) (key : Nat) : Option (Nat × Nat × Bk) := match own with
  | true => match nthU ho key with
    | some x => some (x.b, 0, x.bk)
    | none => none
  | false => match nthU hl key with
    | some x => some (x.b, x.o0, x.bk)
    | none => none

def lenK {α : Type 1} : List α → (Nat → Prop) → Prop
  | [], K => K 0
  | _ :: r, K => lenK r fun n => K (n + 1)
theorem lenK_eq {α : Type 1} : ∀ (l : List α) (K : Nat → Prop), lenK l K = K l.length
  | [], K => rfl
  | _ :: r, K => by simp only [lenK, lenK_eq r, List.length_cons]
section
variable (C : Cx) (tb : Tab) (hl : List LB) (tl : Hs)

def loadStep (e : VEnv) (ho : List OB) (t : TypeId) (x : Operand) (leaf : Prop) (K : V → Prop) : Prop := match evV e x, shapeL tb t with
  | some (.ptr own key b o0 sz i off), some sh => match blkOf ho hl own key with
    | some (b', o0', .var cells) => match takeV sh (cells.drop (i * sz + off)) with
      | some v => (b = b' ∧ o0 = o0') ∧ forceV v K
      | none => leaf
    | some (b', o0', .arr cd L) => ((b = b' ∧ o0 = o0' ∧ sz = cd.sz) ∧ i < L.length) ∧ ∀ y, L[i]? = some y → match takeV sh ((cd.enc y).drop off) with
      | some v => forceV v K
      | none => False
    | none => leaf
  | _, _ => leaf

def allOne : List V → Bool
  | [] => true
  | .agg _ :: _ => false
  | .tup _ :: _ => false
  | .raw v :: r => v.oneCell' && allOne r
  | _ :: r => allOne r
def storeStep (e : VEnv) (ho : List OB) (t : TypeId) (x y : Operand) (leaf : Prop) (K : List OB → Prop) : Prop := match evV e x, evV e y, sizeL tb t with
  | some (.ptr true key b o0 sz i off), some v, some m => bif Nat.beq (cellsV v).length m && allOne (cellsV v) then match nthU ho key with
    | some ⟨b', ty, .var cells, sp⟩ => bif Nat.ble (i * sz + off + m) cells.length then ((b = b' ∧ o0 = 0) ∧ forceL (layV cells (i * sz + off) (cellsV v)) fun cells' => setU ho key ⟨b', ty, .var cells', sp⟩ K) else leaf
    | some ⟨b', ty, .arr cd L, sp⟩ => ((b = b' ∧ o0 = 0 ∧ sz = cd.sz) ∧ i < L.length ∧ off + m ≤ cd.sz) ∧ (bif Nat.beq off 0 && Nat.beq m cd.sz
      then (match cd.dec (cellsV v) with
        | some z => setU ho key ⟨b', ty, .arr cd (L.set i z), sp⟩ K
        | none => False)
      else ∀ y, L[i]? = some y → match cd.dec (layV (cd.enc y) off (cellsV v)) with
        | some z => setU ho key ⟨b', ty, .arr cd (L.set i z), sp⟩ K
        | none => False)
    | none => leaf
    else leaf
  | _, _, _ => leaf

/-- An operation that gives a value, and turns nothing. -/
def valStep (e : VEnv) (op : Op) (leaf : Prop) (K : V → Prop) : Prop := match opX C.P tb e op with
  | some (v, none) => forceV v K
  | some (v, some p) => p ∧ forceV v K
  | none => leaf

/-- An operation that makes a block. -/
def makeStep (e : VEnv) (ho : List OB) (op : Op) (leaf : Prop) (K : V → List OB → Prop) : Prop := match op with
  | .alloc t => match zeroL tb t with
    | some z => forceL (cellsV (.raw z)) fun cells => ∀ b, pushU ho ⟨b, t, .var cells, []⟩ fun ho' => lenK ho fun key => K (.ptr true key b 0 1 0 0) ho'
    | none => leaf
  | .box t x => match evV e x with
    | some v => forceL (cellsV v) fun cells => ∀ b, pushU ho ⟨b, t, .var cells, []⟩ fun ho' => lenK ho fun key => K (.ptr true key b 0 1 0 0) ho'
    | none => leaf
  | .buildSlice t n parts => match evSeqV e 0 parts.toList, elemL tb t with
    | some vs, some (et, sz) => match sizeL tb et, zeroL tb et with
      | some sz', some z => bif Nat.beq sz sz' && Nat.beq vs.length n && (Nat.beq z.cells.size sz && (vs.all fun v => Nat.beq (cellsV v).length sz) && (Nat.blt 0 (n * sz) && Nat.ble (n * sz) 16777216)) then
          forceL (vs.flatMap cellsV) fun cells => ∀ b, pushU ho ⟨b, et, .var cells, []⟩ fun ho' => lenK ho fun key => K (.sl true key b 0 sz none n n) ho'
        else leaf
      | _, _ => leaf
    | _, _ => leaf
  | _ => leaf

def stepOps (K : Pt → VEnv → List OB → Prop) (l0 l : List Oper) (k : List Item) (e : VEnv) (ho : List OB) : Prop := match l with
  | [] => K (.run k) e ho
  | ⟨dst, op, ty, pos, af, some (j, want)⟩ :: r => match dstAt l0 j with
    | some gd => match egV e gd with
      | some (.bl b) => bif b == want then K (.ops l0 (⟨dst, op, ty, pos, af, none⟩ :: r) k) e ho else (match dst with
        | some d => bif Nat.blt d C.N then K (.ops l0 r k) ((d, .raw undef) :: e) ho else Here C tl (.ops l0 l k) e ho
        | none => Here C tl (.ops l0 l k) e ho)
      | some (.bd p _) => (p → K (.ops l0 l k) ((gd, .bl true) :: e) ho) ∧ (¬ p → K (.ops l0 l k) ((gd, .bl false) :: e) ho)
      | some (.raw v) => bif notBool v then (match dst with
        | some d => bif Nat.blt d C.N then K (.ops l0 r k) ((d, .raw undef) :: e) ho else Here C tl (.ops l0 l k) e ho
        | none => Here C tl (.ops l0 l k) e ho) else Here C tl (.ops l0 l k) e ho
      | _ => Here C tl (.ops l0 l k) e ho
    | none => Here C tl (.ops l0 l k) e ho
  | ⟨some d, op, _, _, _, none⟩ :: r => bif Nat.blt d C.N then (match op with
      | .load t x => loadStep tb hl e ho t x (Here C tl (.ops l0 l k) e ho) fun v => K (.ops l0 r k) ((d, v) :: e) ho
      | op => valStep C tb e op (makeStep tb e ho op (Here C tl (.ops l0 l k) e ho) fun v ho' => K (.ops l0 r k) ((d, v) :: e) ho') fun v => K (.ops l0 r k) ((d, v) :: e) ho)
      else Here C tl (.ops l0 l k) e ho
  | ⟨none, .store t x y, _, _, _, none⟩ :: r => storeStep tb e ho t x y (Here C tl (.ops l0 l k) e ho) fun ho' => K (.ops l0 r k) e ho'
  | _ :: _ => Here C tl (.ops l0 l k) e ho

def stepDrw (K : Pt → VEnv → List OB → Prop) (l0 : List Oper) (fl0 : List Nat) (k : List Item) (l : List (Oper × Nat)) (e : VEnv) (ho : List OB) : Prop := match l with
  | [] => match C.rd with
    | none => K (.ops l0 (effOps (l0.zip fl0)) k) e ho
    | some _ => Here C tl (.drw l0 fl0 k l) e ho
  | (_, 2) :: r => K (.drw l0 fl0 k r) e ho
  | (⟨some d, op, ty, pos, af, some (j, want)⟩, f) :: r => match dstAt l0 j with
    | some gd => match egV e gd with
      | some (.bl b) => bif b == want then K (.drw l0 fl0 k ((⟨some d, op, ty, pos, af, none⟩, f) :: r)) e ho else
        (bif Nat.blt d C.N && !(f == 2) then K (.drw l0 fl0 k r) ((d, .raw undef) :: e) ho else Here C tl (.drw l0 fl0 k l) e ho)
      | some (.bd p _) => (p → K (.drw l0 fl0 k l) ((gd, .bl true) :: e) ho) ∧ (¬ p → K (.drw l0 fl0 k l) ((gd, .bl false) :: e) ho)
      | some (.raw v) => bif notBool v && (Nat.blt d C.N && !(f == 2)) then K (.drw l0 fl0 k r) ((d, .raw undef) :: e) ho else Here C tl (.drw l0 fl0 k l) e ho
      | _ => Here C tl (.drw l0 fl0 k l) e ho
    | none => Here C tl (.drw l0 fl0 k l) e ho
  | (⟨some d, op, _, _, _, none⟩, f) :: r => bif Nat.blt d C.N && !(f == 2) then (match op with
      | .load t x => bif f == 1 then loadStep tb hl e ho t x (Here C tl (.drw l0 fl0 k l) e ho) fun v => K (.drw l0 fl0 k r) ((d, v) :: e) ho else Here C tl (.drw l0 fl0 k l) e ho
      | op => valStep C tb e op (Here C tl (.drw l0 fl0 k l) e ho) fun v => K (.drw l0 fl0 k r) ((d, v) :: e) ho)
      else Here C tl (.drw l0 fl0 k l) e ho
  | _ :: _ => Here C tl (.drw l0 fl0 k l) e ho

def stepRun (K : Pt → VEnv → List OB → Prop) (k : List Item) (e : VEnv) (ho : List OB) : Prop := match k with
  | .code (.seq x y) :: k => K (.run (.code x :: .code y :: k)) e ho
  | .code .skip :: k => K (.run k) e ho
  | .code (.label _) :: k => K (.run k) e ho
  | .code (.block id c) :: k => K (.run (.code c :: .inBlock id :: k)) e ho
  | .inBlock _ :: k => K (.run k) e ho
  | .code (.exit id) :: k' => match exitTo id k' with
    | some k'' => K (.run k'') e ho
    | none => Here C tl (.run k) e ho
  | .code (.cond c x y) :: k' => match evV e c with
    | some (.bl true) => K (.run (.code x :: k')) e ho
    | some (.bl false) => K (.run (.code y :: k')) e ho
    | some (.bd p _) => (p → K (.run (.code x :: k')) e ho) ∧ (¬ p → K (.run (.code y :: k')) e ho)
    | _ => Here C tl (.run k) e ho
  | .code (.region _ ops false) :: k' => K (.ops ops.toList ops.toList k') e ho
  | _ => Here C tl (.run k) e ho

def vc : Nat → Pt → VEnv → List OB → Prop
  | 0, pt, e, ho => Here C tl pt e ho
  | n + 1, .run k, e, ho => stepRun C tl (vc n) k e ho
  | n + 1, .ops l0 l k, e, ho => stepOps C tb hl tl (vc n) l0 l k e ho
  | n + 1, .drw l0 fl0 k l, e, ho => stepDrw C tb hl tl (vc n) l0 fl0 k l e ho
end

/-! it is so -/
theorem reads_ix {w : World} {b : Nat} : ∀ (l : List Go.Value) (o : Nat), (∀ j v, l[j]? = some v → w.cell? ⟨b, o + j, none⟩ = some v) → Reads w ⟨b, o, none⟩ l
  | [], o, _ => trivial
  | v :: l, o, h => ⟨by simpa using h 0 v rfl, by rw [add_none]; exact reads_ix l (o + 1) fun j u hj => by rw [show o + 1 + j = o + (j + 1) by omega]; exact h (j + 1) u (by simpa using hj)⟩
theorem reads_cell {w : World} {b : Nat} (l : List Go.Value) (o : Nat) (h : Reads w ⟨b, o, none⟩ l) : ∀ j v, l[j]? = some v → w.cell? ⟨b, o + j, none⟩ = some v := by
  intro j v hj
  have := reads_get l o h j v hj
  rwa [add_none] at this
theorem reads_drop {w : World} {b o : Nat} {l : List Go.Value} (h : Reads w ⟨b, o, none⟩ l) (j : Nat) : Reads w ⟨b, o + j, none⟩ (l.drop j) :=
  reads_ix _ _ fun i v hi => by
    rw [Nat.add_assoc]
    exact reads_cell l o h (j + i) v (by rw [List.getElem?_drop] at hi; exact hi)
theorem reads_take {w : World} {b o : Nat} {l : List Go.Value} (h : Reads w ⟨b, o, none⟩ l) (n : Nat) : Reads w ⟨b, o, none⟩ (l.take n) :=
  reads_ix _ _ fun i v hi => reads_cell l o h i v (by
    rw [List.getElem?_take] at hi
    split at hi
    · exact hi
    · cases hi)
theorem reads_obj {w : World} {b : Nat} {l r : List Go.Value} {t : TypeId} {fz : Nat × Nat} (h : w.heap[b]? = some (.cells (l ++ r).toArray t fz)) : Reads w ⟨b, 0, none⟩ l :=
  reads_ix _ _ fun j v hj => by
    have hlt := (List.getElem?_eq_some_iff.1 hj).1
    simp only [World.cell?, h, Option.isSome_none, Bool.false_eq_true, if_false, Nat.zero_add, List.getElem?_toArray]
    rw [List.getElem?_append_left hlt]; exact hj

theorem flat_at {α : Type} (cd : Cd α) : ∀ (L : List α) (i : Nat) (y : α), L[i]? = some y → (L.flatMap cd.enc).drop (i * cd.sz) = cd.enc y ++ (L.drop (i + 1)).flatMap cd.enc
  | [], i, y, h => by simp at h
  | x :: L, 0, y, h => by simp at h; subst h; simp
  | x :: L, i + 1, y, h => by
    have ih := flat_at cd L i y (by simpa using h)
    rw [List.flatMap_cons, show (i + 1) * cd.sz = (cd.enc x).length + i * cd.sz by rw [cd.hsz, Nat.add_mul]; omega, List.drop_length_add_append, ih]
    rfl
theorem flat_len {α : Type} (cd : Cd α) : ∀ (L : List α), (L.flatMap cd.enc).length = L.length * cd.sz
  | [] => by simp
  | x :: L => by rw [List.flatMap_cons, List.length_append, cd.hsz, flat_len cd L, List.length_cons, Nat.add_mul]; omega

section
variable {C : Cx} {tb : Tab} {hl : List LB}

/-- A load at cells that are read. -/
theorem run_take {w : World} {t : TypeId} {a : Addr} {sh : Option Nat} {l : List V} {v : V} (hs : shapeT C.P t = some sh) (hv : takeV sh l = some v) (hr : Reads w a (V.vals l)) : (loadVar t a).run C.P w = .ok v.val w := by
  cases sh with
  | none =>
    have h1 := takeV_one hv
    cases hl : V.vals l with
    | nil => rw [hl] at h1; cases h1
    | cons u r => rw [hl] at h1 hr; cases h1; exact run_loadVar1 hs hr.1
  | some n =>
    obtain ⟨h1, h2⟩ := takeV_some hv
    rw [h1]
    have hlen : ((V.vals l).take n).length = n := by rw [List.length_take]; omega
    obtain ⟨b, o, sp⟩ := a
    refine run_loadVarN (vs := (V.vals l).take n) (by rw [hlen]; exact hs) ?_
    have : ∀ (l : List Go.Value) (n : Nat) (a : Addr), Reads w a l → Reads w a (l.take n) := by
      intro l
      induction l with
      | nil => intro n a h; simpa using h
      | cons x l ih =>
        intro n a h
        cases n with
        | zero => trivial
        | succ n => exact ⟨h.1, ih n _ h.2⟩
    exact this _ _ _ hr

theorem blk_reads (hL : LentOk C hl) {ho : List OB} {own : Bool} {key b o0 : Nat} {bk : Bk} (h : blkOf ho hl own key = some (b, o0, bk)) {e : Env} {a : Act} {w : World} {tl : Hs} (ok : Ok C e (rh ho ++ tl) a w) (hne : bk.flat ≠ []) :
    Reads w ⟨b, o0, none⟩ (V.vals bk.flat) := by
  unfold blkOf at h
  split at h
  · split at h
    · rename_i x hx
      cases h
      rw [nthU_eq] at hx
      have hm : (x.b, x.obj) ∈ rh ho := List.mem_map.2 ⟨x, List.mem_of_getElem? hx, rfl⟩
      exact reads_obj (ok.st.has _ (List.mem_append_left _ hm))
    · cases h
  · split at h
    · rename_i x hx
      cases h
      rw [nthU_eq] at hx
      obtain ⟨h1, h2⟩ := hL x (List.mem_of_getElem? hx)
      have hlt : x.b < C.W0.heap.size := by
        cases hf : V.vals x.bk.flat with
        | nil =>
          exfalso
          apply hne
          have := congrArg List.length hf
          rw [vals_length] at this
          exact List.length_eq_zero_iff.1 this
        | cons u r => rw [hf] at h2; exact h2.lt
      exact Reads.keep ok.st hlt h1 _ _ h2
    · cases h

theorem takeV_ne {sh : Option Nat} {l : List V} {v : V} (h : takeV sh l = some v) (hs : sh ≠ some 0) : l ≠ [] := by
  rintro rfl
  cases sh with
  | none => simp [takeV] at h
  | some n =>
    cases n with
    | zero => exact hs rfl
    | succ n => simp [takeV, takeL] at h

theorem load_sound (hT : TabOk C.P tb) (hL : LentOk C hl) {e : VEnv} {ho : List OB} {t : TypeId} {x : Operand} {leaf : Prop} {K : V → Prop} (h : loadStep tb hl e ho t x leaf K) : leaf ∨ ∃ v, (∀ tl, RV C (rE e) (rh ho ++ tl) (.load t x) v.val) ∧ K v := by
  unfold loadStep at h
  split at h
  · rename_i own key b o0 sz i off sh hx hs
    split at h
    · rename_i b' o0' cells hb
      split at h
      · rename_i v hv
        obtain ⟨⟨rfl, rfl⟩, hK⟩ := h
        rw [forceV_eq] at hK
        refine Or.inr ⟨v, fun tl => RV.of_same fun o a w ho' ok => ?_, hK⟩
        have e1 := ok.e.eval (ev_re hx)
        simp only [V.val] at e1
        have hr : Reads w ⟨b, o0 + i * sz + off, none⟩ (V.vals (cells.drop (i * sz + off))) := by
          by_cases hc : cells = []
          · subst hc; simp [V.vals]; trivial
          · have := reads_drop (blk_reads hL hb ok hc) (i * sz + off)
            rw [vals_drop, Nat.add_assoc]; exact this
        simp [execOp, ho', e1, Instr.loadAt, Instr.sureAddr, run_take (shape_of hT hs) hv hr]
      · exact Or.inl h
    · rename_i b' o0' α cd L hb
      obtain ⟨⟨⟨rfl, rfl, rfl⟩, hi⟩, hK⟩ := h
      have hy := List.getElem?_eq_getElem hi
      have hK' := hK _ hy
      split at hK'
      · rename_i v hv
        rw [forceV_eq] at hK'
        refine Or.inr ⟨v, fun tl => RV.of_same fun o a w ho' ok => ?_, hK'⟩
        have e1 := ok.e.eval (ev_re hx)
        simp only [V.val] at e1
        have hr : Reads w ⟨b, o0 + i * cd.sz + off, none⟩ (V.vals ((cd.enc L[i]).drop off)) := by
          by_cases hz : cd.enc L[i] = []
          · rw [hz]; simp [V.vals]; trivial
          · have hne : (Bk.arr cd L).flat ≠ [] := by
              intro h0
              have := flat_at cd L i _ hy
              rw [show L.flatMap cd.enc = [] from h0] at this
              simp at this
              exact hz this.1
            have h1 := reads_drop (blk_reads hL hb ok hne) (i * cd.sz)
            rw [← vals_drop] at h1
            simp only [Bk.flat] at h1
            rw [flat_at cd L i _ hy, vals_map, List.map_append, ← vals_map] at h1
            have h2 := reads_take h1 (V.vals (cd.enc L[i])).length
            rw [List.take_left] at h2
            have h3 := reads_drop h2 off
            rw [vals_drop]; exact h3
        simp [execOp, ho', e1, Instr.loadAt, Instr.sureAddr, run_take (shape_of hT hs) hv hr]
      · exact hK'.elim
    · exact Or.inl h
  · exact Or.inl h

theorem val_sound (hT : TabOk C.P tb) {e : VEnv} {op : Op} {leaf : Prop} {K : V → Prop} (h : valStep C tb e op leaf K) : leaf ∨ ∃ v, PV C (rE e) op v.val ∧ K v := by
  unfold valStep at h
  split at h
  · rename_i v hv
    rw [forceV_eq] at h
    exact Or.inr ⟨v, opX_sound hT hv trivial, h⟩
  · rename_i v p hv
    rw [forceV_eq] at h
    exact Or.inr ⟨v, opX_sound hT hv h.1, h.2⟩
  · exact Or.inl h
end
end Go.Fl
