/-
  What the program's type tables say, as a small table of our own, held against them once. No condition.
-/
import Derived.Test.YtiepomeokhjcfaaGreatDoorDraw
import Derived.Test.YtiepomeokhjcfaaGreatDoorProg
namespace Go.Fl
open Go.Proofs

structure TI where
  kind : Nat
  ik : Option IntKind
  size : Nat
  bytes : Nat
  agg : Bool
  zero : Value
  elem : Option (TypeId × Nat)
  fields : List (Nat × TypeId)

def infoOf (P : Program) (t : TypeId) : Option TI := match P.underlying t, P.info? t with
  | some u, some i => i.zero.map fun z =>
    { kind := kindT P t, ik := (match u with | .int k => some k | _ => none), size := i.size, bytes := i.bytes, agg := (match u with | .struct _ => true | .array _ _ => true | _ => false), zero := z
      elem := (match u with | .slice e => (P.info? e).map fun j => (e, j.size) | _ => none), fields := (match u with | .struct fs => fs.toList.map fun f => (f.offset, f.type) | _ => []) }
  | _, _ => none

abbrev Tab := List (TypeId × TI)
def tget : Tab → TypeId → Option TI
  | [], _ => none
  | (k, v) :: r, t => bif Nat.beq k t then some v else tget r t
def TabOk (P : Program) (tab : Tab) : Prop := tab.map (fun x => infoOf P x.1) = tab.map (fun x => some x.2)

theorem TabOk.get {P : Program} : ∀ {tab : Tab}, TabOk P tab → ∀ {t : TypeId} {i : TI}, tget tab t = some i → infoOf P t = some i := by
  intro tab
  induction tab with
  | nil => intro _ t i h; simp [tget] at h
  | cons x r ih =>
    obtain ⟨k, v⟩ := x
    intro hT t i h
    unfold TabOk at hT
    simp only [List.map_cons, List.cons.injEq] at hT
    unfold tget at h
    cases hb : Nat.beq k t
    · rw [hb] at h; exact ih hT.2 h
    · rw [hb] at h
      obtain rfl : k = t := Nat.eq_of_beq_eq_true hb
      cases h; exact hT.1

def shapeL (tab : Tab) (t : TypeId) : Option (Option Nat) := match tget tab t with
  | some ⟨_, _, n, _, true, _, _, _⟩ => some (some n)
  | some ⟨_, _, _, _, false, _, _, _⟩ => some none
  | none => none
theorem shapeL_eq (tab : Tab) (t : TypeId) : shapeL tab t = (tget tab t).map fun i => bif i.agg then some i.size else none := by
  unfold shapeL
  cases tget tab t with
  | none => rfl
  | some i => obtain ⟨_, _, _, _, b, _, _, _⟩ := i; cases b <;> rfl
def sizeL (tab : Tab) (t : TypeId) : Option Nat := match tget tab t with
  | some ⟨_, _, x, _, _, _, _, _⟩ => some x
  | none => none
theorem sizeL_eq (tab : Tab) (t : TypeId) : sizeL tab t = (tget tab t).map (·.size) := by
  unfold sizeL; cases tget tab t <;> rfl
def zeroL (tab : Tab) (t : TypeId) : Option Value := match tget tab t with
  | some ⟨_, _, _, _, _, x, _, _⟩ => some x
  | none => none
theorem zeroL_eq (tab : Tab) (t : TypeId) : zeroL tab t = (tget tab t).map (·.zero) := by
  unfold zeroL; cases tget tab t <;> rfl
def kindL (tab : Tab) (t : TypeId) : Option Nat := match tget tab t with
  | some ⟨x, _, _, _, _, _, _, _⟩ => some x
  | none => none
theorem kindL_eq (tab : Tab) (t : TypeId) : kindL tab t = (tget tab t).map (·.kind) := by
  unfold kindL; cases tget tab t <;> rfl
def elemL (tab : Tab) (t : TypeId) : Option (TypeId × Nat) := match tget tab t with
  | some ⟨_, _, _, _, _, _, x, _⟩ => x
  | none => none
theorem elemL_eq (tab : Tab) (t : TypeId) : elemL tab t = (tget tab t).bind (·.elem) := by
  unfold elemL; cases tget tab t <;> rfl
def ikL (tab : Tab) (t : TypeId) : Option IntKind := match tget tab t with
  | some ⟨_, x, _, _, _, _, _, _⟩ => x
  | none => none
theorem ikL_eq (tab : Tab) (t : TypeId) : ikL tab t = (tget tab t).bind (·.ik) := by
  unfold ikL; cases tget tab t <;> rfl
def nthF : List (Nat × TypeId) → Nat → Option (Nat × TypeId)
  | [], _ => none
  | x :: _, 0 => some x
  | _ :: l, n + 1 => nthF l n
theorem nthF_eq : ∀ (l : List (Nat × TypeId)) (n : Nat), nthF l n = l[n]?
  | [], n => by simp [nthF]
  | x :: l, 0 => by simp [nthF]
  | x :: l, n + 1 => by simpa [nthF] using nthF_eq l n
/-- A field's offset, where it has cells. -/
def fieldL (tab : Tab) (t : TypeId) (n : Nat) : Option (Nat × TypeId) := match tget tab t with
  | some ⟨_, _, _, _, _, _, _, fs⟩ => match nthF fs n with
    | some (o, ft) => match sizeL tab ft with
      | some (_ + 1) => some (o, ft)
      | _ => none
    | none => none
  | none => none

section
variable {P : Program} {tab : Tab} {t : TypeId}
theorem tab_split (hT : TabOk P tab) {i : TI} (h : tget tab t = some i) : ∃ u inf, P.underlying t = some u ∧ P.info? t = some inf ∧ inf.size = i.size ∧ inf.bytes = i.bytes ∧ inf.zero = some i.zero ∧ kindT P t = i.kind ∧
    i.agg = (match u with | .struct _ => true | .array _ _ => true | _ => false) ∧ i.elem = (match u with | .slice e => (P.info? e).map fun j => (e, j.size) | _ => none) ∧ i.fields = (match u with | .struct fs => fs.toList.map fun f => (f.offset, f.type) | _ => [])
    ∧ i.ik = (match u with | .int k => some k | _ => none) := by
  have h1 := hT.get h
  unfold infoOf at h1
  cases hu : P.underlying t with
  | none => simp [hu] at h1
  | some u =>
    cases hi : P.info? t with
    | none => simp [hu, hi] at h1
    | some inf =>
      simp only [hu, hi, Option.map_eq_some_iff] at h1
      obtain ⟨z, hz, rfl⟩ := h1
      exact ⟨u, inf, rfl, rfl, rfl, rfl, hz, rfl, rfl, rfl, rfl, rfl⟩

theorem shape_of (hT : TabOk P tab) {r : Option Nat} (h : shapeL tab t = some r) : shapeT P t = some r := by
  rw [shapeL_eq, Option.map_eq_some_iff] at h
  obtain ⟨i, hi, rfl⟩ := h
  obtain ⟨u, inf, hu, hinf, h1, hby, h2, h3, h4, h5, h6, h7⟩ := tab_split hT hi
  unfold shapeT
  rw [hu, hinf, h4]
  cases u <;> simp [h1]
theorem size_of (hT : TabOk P tab) {n : Nat} (h : sizeL tab t = some n) : sizeT P t = some n := by
  rw [sizeL_eq, Option.map_eq_some_iff] at h
  obtain ⟨i, hi, rfl⟩ := h
  obtain ⟨u, inf, hu, hinf, h1, hby, h2, h3, h4, h5, h6, h7⟩ := tab_split hT hi
  unfold sizeT
  simp [hinf, h1]
theorem zero_of (hT : TabOk P tab) {z : Value} (h : zeroL tab t = some z) : zeroT P t = some z := by
  rw [zeroL_eq, Option.map_eq_some_iff] at h
  obtain ⟨i, hi, rfl⟩ := h
  obtain ⟨u, inf, hu, hinf, h1, hby, h2, h3, h4, h5, h6, h7⟩ := tab_split hT hi
  unfold zeroT
  simp [hinf, h2]
theorem kind_of (hT : TabOk P tab) {n : Nat} (h : kindL tab t = some n) : kindT P t = n := by
  rw [kindL_eq, Option.map_eq_some_iff] at h
  obtain ⟨i, hi, rfl⟩ := h
  obtain ⟨u, inf, hu, hinf, h1, hby, h2, h3, h4, h5, h6, h7⟩ := tab_split hT hi
  exact h3
theorem elem_of (hT : TabOk P tab) {r : TypeId × Nat} (h : elemL tab t = some r) : elemT P t = some r := by
  rw [elemL_eq, Option.bind_eq_some_iff] at h
  obtain ⟨i, hi, h⟩ := h
  obtain ⟨u, inf, hu, hinf, h1, hby, h2, h3, h4, h5, h6, h7⟩ := tab_split hT hi
  unfold elemT
  rw [hu]
  rw [h5] at h
  cases u <;> simp_all
theorem field_of (hT : TabOk P tab) {n : Nat} {r : Nat × TypeId} (h : fieldL tab t n = some r) : fieldT P t n = some r := by
  unfold fieldL at h
  cases hi : tget tab t with
  | none => simp [hi] at h
  | some i =>
    simp only [hi] at h
    cases hn : nthF i.fields n with
    | none => simp [hn] at h
    | some x =>
      obtain ⟨o, ft⟩ := x
      simp only [hn] at h
      cases hj : sizeL tab ft with
      | none => simp [hj] at h
      | some m =>
        cases m with
        | zero => simp [hj] at h
        | succ m =>
          simp only [hj, Option.some.injEq] at h
          subst h
          have hsz := size_of hT hj
          unfold sizeT at hsz
          rw [Option.map_eq_some_iff] at hsz
          obtain ⟨inf', hinf', h1'⟩ := hsz
          obtain ⟨u, inf, hu, hinf, h1, hby, h2, h3, h4, h5, h6, h7⟩ := tab_split hT hi
          rw [nthF_eq, h6] at hn
          have hz' : inf'.size ≠ 0 := by omega
          unfold fieldT
          rw [hu]
          cases u <;> simp at hn
          rename_i fs
          obtain ⟨f, hf, rfl, rfl⟩ := hn
          simp [hf, hinf', hz']
theorem int_of (hT : TabOk P tab) {k : IntKind} (h : ikL tab t = some k) : P.underlying t = some (.int k) := by
  rw [ikL_eq, Option.bind_eq_some_iff] at h
  obtain ⟨i, hi, h⟩ := h
  obtain ⟨u, inf, hu, hinf, h1, hby, h2, h3, h4, h5, h6, h7⟩ := tab_split hT hi
  rw [h7] at h
  cases u <;> simp at h
  rw [hu, h]
theorem under_of (hT : TabOk P tab) {i : TI} (h : tget tab t = some i) : (P.underlying t).isSome = true := by
  obtain ⟨u, inf, hu, -⟩ := tab_split hT h
  rw [hu]; rfl
end

def tab : Tab := [
  (1, ⟨6, none, 1, 8, false, .nilFunc, none, []⟩),
  (2, ⟨6, (some .i64), 1, 8, false, (.int .i64 0), none, []⟩),
  (3, ⟨6, (some .i64), 1, 8, false, (.int .i64 0), none, []⟩),
  (4, ⟨6, none, 1, 1, false, (.bool false), none, []⟩),
  (5, ⟨6, (some .u8), 1, 1, false, (.int .u8 0), none, []⟩),
  (6, ⟨6, (some .u8), 1, 1, false, (.int .u8 0), none, []⟩),
  (7, ⟨6, none, 4, 24, true, (.agg #[(.int .i64 0), (.int .i64 0), (.bool false), (.int .u8 0)]), none, [(0, 2), (1, 3), (2, 4), (3, 6)]⟩),
  (8, ⟨6, none, 4, 24, true, (.agg #[(.int .i64 0), (.int .i64 0), (.bool false), (.int .u8 0)]), none, [(0, 2), (1, 3), (2, 4), (3, 6)]⟩),
  (9, ⟨2, none, 1, 16, false, (.string ⟨#[]⟩), none, []⟩),
  (10, ⟨2, none, 1, 16, false, (.string ⟨#[]⟩), none, []⟩),
  (11, ⟨2, none, 1, 16, false, (.string ⟨#[]⟩), none, []⟩),
  (12, ⟨6, (some .u64), 1, 8, false, (.int .u64 0), none, []⟩),
  (13, ⟨6, none, 2, 24, true, (.agg #[(.string ⟨#[]⟩), (.int .u64 0)]), none, [(0, 9), (1, 12)]⟩),
  (14, ⟨6, none, 2, 24, true, (.agg #[(.string ⟨#[]⟩), (.int .u64 0)]), none, [(0, 9), (1, 12)]⟩),
  (15, ⟨6, none, 1, 8, false, (.pointer none), none, []⟩),
  (16, ⟨6, none, 1, 8, false, (.pointer none), none, []⟩),
  (17, ⟨6, none, 1, 8, false, (.pointer none), none, []⟩),
  (18, ⟨6, none, 1, 8, true, (.agg #[(.pointer none)]), none, [(0, 17)]⟩),
  (19, ⟨6, none, 1, 8, true, (.agg #[(.pointer none)]), none, [(0, 17)]⟩),
  (20, ⟨5, none, 1, 16, false, .nilIface, none, []⟩),
  (21, ⟨6, (some .i32), 1, 4, false, (.int .i32 0), none, []⟩),
  (22, ⟨1, none, 1, 24, false, (.slice none 0 0), (some (125, 2)), []⟩),
  (23, ⟨6, none, 2, 16, true, (.agg #[(.int .i64 0), (.int .i64 0)]), none, [(0, 3), (1, 3)]⟩),
  (24, ⟨6, none, 2, 16, true, (.agg #[(.int .i64 0), (.int .i64 0)]), none, [(0, 3), (1, 3)]⟩),
  (25, ⟨6, (some .u64), 1, 8, false, (.int .u64 0), none, []⟩),
  (26, ⟨6, none, 32, 312, true, (.agg #[(.int .i64 0), (.string ⟨#[]⟩), (.int .i64 0), (.int .i64 0), (.slice none 0 0), (.int .i64 0), (.int .i64 0), (.bool false), (.bool false), (.bool false), (.int .i64 0), (.string ⟨#[]⟩), (.string ⟨#[]⟩), (.string ⟨#[]⟩), (.int .i64 0), (.bool false), (.bool false), (.int .i64 0), (.int .i64 0), (.string ⟨#[]⟩), (.int .i64 0), (.int .i64 0), (.int .i64 0), (.int .i64 0), (.int .i64 0), (.bool false), (.int .u64 0), (.slice none 0 0), (.int .i64 0), (.string ⟨#[]⟩), (.int .i64 0), (.int .i64 0)]), none, [(0, 3), (1, 9), (2, 3), (3, 3), (4, 22), (5, 24), (7, 4), (8, 4), (9, 4), (10, 3), (11, 9), (12, 9), (13, 9), (14, 3), (15, 4), (16, 4), (17, 24), (19, 9), (20, 3), (21, 3), (22, 3), (23, 3), (24, 3), (25, 4), (26, 25), (27, 22), (28, 3), (29, 9), (30, 3), (31, 3)]⟩),
  (27, ⟨6, none, 32, 312, true, (.agg #[(.int .i64 0), (.string ⟨#[]⟩), (.int .i64 0), (.int .i64 0), (.slice none 0 0), (.int .i64 0), (.int .i64 0), (.bool false), (.bool false), (.bool false), (.int .i64 0), (.string ⟨#[]⟩), (.string ⟨#[]⟩), (.string ⟨#[]⟩), (.int .i64 0), (.bool false), (.bool false), (.int .i64 0), (.int .i64 0), (.string ⟨#[]⟩), (.int .i64 0), (.int .i64 0), (.int .i64 0), (.int .i64 0), (.int .i64 0), (.bool false), (.int .u64 0), (.slice none 0 0), (.int .i64 0), (.string ⟨#[]⟩), (.int .i64 0), (.int .i64 0)]), none, [(0, 3), (1, 9), (2, 3), (3, 3), (4, 22), (5, 24), (7, 4), (8, 4), (9, 4), (10, 3), (11, 9), (12, 9), (13, 9), (14, 3), (15, 4), (16, 4), (17, 24), (19, 9), (20, 3), (21, 3), (22, 3), (23, 3), (24, 3), (25, 4), (26, 25), (27, 22), (28, 3), (29, 9), (30, 3), (31, 3)]⟩),
  (28, ⟨6, none, 1, 8, false, .nilFunc, none, []⟩),
  (29, ⟨6, none, 1, 8, false, .nilFunc, none, []⟩),
  (30, ⟨5, none, 1, 16, false, .nilIface, none, []⟩),
  (31, ⟨5, none, 1, 16, false, .nilIface, none, []⟩),
  (32, ⟨6, none, 1, 8, false, .nilFunc, none, []⟩),
  (33, ⟨6, none, 1, 8, false, .nilFunc, none, []⟩),
  (34, ⟨6, none, 1, 8, false, .nilFunc, none, []⟩),
  (35, ⟨6, none, 2, 24, true, (.agg #[(.int .i64 0), (.string ⟨#[]⟩)]), none, [(0, 3), (1, 9)]⟩),
  (36, ⟨6, none, 2, 24, true, (.agg #[(.int .i64 0), (.string ⟨#[]⟩)]), none, [(0, 3), (1, 9)]⟩),
  (37, ⟨6, none, 1, 8, false, .nilFunc, none, []⟩),
  (38, ⟨6, none, 1, 8, false, (.pointer none), none, []⟩),
  (39, ⟨1, none, 1, 24, false, (.slice none 0 0), (some (151, 1)), []⟩),
  (40, ⟨1, none, 1, 24, false, (.slice none 0 0), (some (117, 1)), []⟩),
  (41, ⟨1, none, 1, 24, false, (.slice none 0 0), (some (126, 1)), []⟩),
  (42, ⟨1, none, 1, 24, false, (.slice none 0 0), (some (158, 1)), []⟩),
  (43, ⟨1, none, 1, 24, false, (.slice none 0 0), (some (160, 1)), []⟩),
  (44, ⟨1, none, 1, 24, false, (.slice none 0 0), (some (22, 1)), []⟩),
  (45, ⟨1, none, 1, 24, false, (.slice none 0 0), (some (163, 1)), []⟩),
  (46, ⟨1, none, 1, 24, false, (.slice none 0 0), (some (165, 1)), []⟩),
  (47, ⟨1, none, 1, 24, false, (.slice none 0 0), (some (169, 1)), []⟩),
  (48, ⟨1, none, 1, 24, false, (.slice none 0 0), (some (171, 1)), []⟩),
  (49, ⟨1, none, 1, 24, false, (.slice none 0 0), (some (60, 1)), []⟩),
  (50, ⟨1, none, 1, 24, false, (.slice none 0 0), (some (153, 1)), []⟩),
  (51, ⟨6, none, 12, 288, true, (.agg #[(.slice none 0 0), (.slice none 0 0), (.slice none 0 0), (.slice none 0 0), (.slice none 0 0), (.slice none 0 0), (.slice none 0 0), (.slice none 0 0), (.slice none 0 0), (.slice none 0 0), (.slice none 0 0), (.slice none 0 0)]), none, [(0, 39), (1, 40), (2, 41), (3, 42), (4, 43), (5, 44), (6, 45), (7, 46), (8, 47), (9, 48), (10, 49), (11, 50)]⟩),
  (52, ⟨6, none, 12, 288, true, (.agg #[(.slice none 0 0), (.slice none 0 0), (.slice none 0 0), (.slice none 0 0), (.slice none 0 0), (.slice none 0 0), (.slice none 0 0), (.slice none 0 0), (.slice none 0 0), (.slice none 0 0), (.slice none 0 0), (.slice none 0 0)]), none, [(0, 39), (1, 40), (2, 41), (3, 42), (4, 43), (5, 44), (6, 45), (7, 46), (8, 47), (9, 48), (10, 49), (11, 50)]⟩),
  (53, ⟨6, none, 1, 8, false, .nilFunc, none, []⟩),
  (54, ⟨6, none, 1, 8, false, .nilFunc, none, []⟩),
  (55, ⟨6, none, 1, 8, false, .nilFunc, none, []⟩),
  (57, ⟨6, none, 1, 8, false, .nilFunc, none, []⟩),
  (59, ⟨6, none, 1, 8, false, .nilFunc, none, []⟩),
  (60, ⟨1, none, 1, 24, false, (.slice none 0 0), (some (27, 32)), []⟩),
  (61, ⟨6, none, 4, 96, true, (.agg #[(.slice none 0 0), (.slice none 0 0), (.slice none 0 0), (.slice none 0 0)]), none, [(0, 60), (1, 60), (2, 60), (3, 60)]⟩),
  (62, ⟨6, none, 4, 96, true, (.agg #[(.slice none 0 0), (.slice none 0 0), (.slice none 0 0), (.slice none 0 0)]), none, [(0, 60), (1, 60), (2, 60), (3, 60)]⟩),
  (63, ⟨6, none, 1, 8, false, .nilFunc, none, []⟩),
  (64, ⟨6, none, 1, 8, false, .nilFunc, none, []⟩),
  (65, ⟨6, none, 1, 8, false, .nilFunc, none, []⟩),
  (66, ⟨1, none, 1, 24, false, (.slice none 0 0), (some (110, 42)), []⟩),
  (67, ⟨6, none, 1, 8, false, .nilFunc, none, []⟩),
  (68, ⟨6, none, 1, 8, false, .nilFunc, none, []⟩),
  (69, ⟨6, none, 1, 8, false, .nilFunc, none, []⟩),
  (70, ⟨6, none, 1, 8, false, .nilFunc, none, []⟩),
  (71, ⟨6, none, 1, 8, false, .nilFunc, none, []⟩),
  (72, ⟨6, none, 1, 8, false, .nilFunc, none, []⟩),
  (73, ⟨6, none, 1, 8, false, .nilFunc, none, []⟩),
  (75, ⟨6, none, 1, 8, false, .nilFunc, none, []⟩),
  (76, ⟨6, none, 1, 8, false, .nilFunc, none, []⟩),
  (77, ⟨6, none, 1, 8, false, .nilFunc, none, []⟩),
  (78, ⟨6, none, 1, 8, false, .nilFunc, none, []⟩),
  (79, ⟨6, (some .i64), 1, 8, false, (.int .i64 0), none, []⟩),
  (80, ⟨6, none, 2, 16, true, (.agg #[(.int .i64 0), (.int .i64 0)]), none, [(0, 79), (1, 3)]⟩),
  (81, ⟨6, none, 2, 16, true, (.agg #[(.int .i64 0), (.int .i64 0)]), none, [(0, 79), (1, 3)]⟩),
  (82, ⟨6, none, 1, 8, false, .nilFunc, none, []⟩),
  (83, ⟨6, none, 1, 8, false, .nilFunc, none, []⟩),
  (84, ⟨6, none, 1, 8, false, (.pointer none), none, []⟩),
  (85, ⟨6, none, 2, 24, true, (.agg #[(.int .i64 0), (.string ⟨#[]⟩)]), none, [(0, 79), (1, 9)]⟩),
  (86, ⟨6, none, 2, 24, true, (.agg #[(.int .i64 0), (.string ⟨#[]⟩)]), none, [(0, 79), (1, 9)]⟩),
  (87, ⟨6, none, 1, 8, false, (.pointer none), none, []⟩),
  (88, ⟨6, none, 1, 8, false, .nilFunc, none, []⟩),
  (89, ⟨6, none, 1, 8, false, .nilFunc, none, []⟩),
  (90, ⟨6, none, 1, 8, false, .nilFunc, none, []⟩),
  (91, ⟨6, none, 1, 8, false, .nilFunc, none, []⟩),
  (92, ⟨6, none, 1, 8, false, .nilFunc, none, []⟩),
  (93, ⟨6, none, 1, 8, false, .nilFunc, none, []⟩),
  (94, ⟨6, none, 1, 8, false, .nilFunc, none, []⟩),
  (95, ⟨6, none, 1, 8, false, .nilFunc, none, []⟩),
  (96, ⟨6, none, 1, 8, false, .nilFunc, none, []⟩),
  (97, ⟨6, none, 1, 8, false, .nilFunc, none, []⟩),
  (98, ⟨6, none, 1, 8, false, .nilFunc, none, []⟩),
  (99, ⟨6, none, 1, 8, false, .nilFunc, none, []⟩),
  (100, ⟨6, none, 1, 8, false, .nilFunc, none, []⟩),
  (101, ⟨6, none, 1, 8, false, .nilFunc, none, []⟩),
  (102, ⟨6, none, 1, 8, false, .nilFunc, none, []⟩),
  (103, ⟨6, none, 1, 8, false, .nilFunc, none, []⟩),
  (104, ⟨6, none, 1, 8, false, .nilFunc, none, []⟩),
  (105, ⟨6, none, 1, 8, false, .nilFunc, none, []⟩),
  (106, ⟨6, none, 1, 8, false, .nilFunc, none, []⟩),
  (107, ⟨6, none, 1, 8, false, .nilFunc, none, []⟩),
  (108, ⟨6, none, 1, 8, false, .nilFunc, none, []⟩),
  (109, ⟨6, none, 42, 416, true, (.agg #[(.int .i64 0), (.int .i64 0), (.string ⟨#[]⟩), (.int .i64 0), (.int .i64 0), (.slice none 0 0), (.int .i64 0), (.int .i64 0), (.bool false), (.bool false), (.bool false), (.int .i64 0), (.string ⟨#[]⟩), (.string ⟨#[]⟩), (.string ⟨#[]⟩), (.int .i64 0), (.bool false), (.bool false), (.int .i64 0), (.int .i64 0), (.string ⟨#[]⟩), (.int .i64 0), (.int .i64 0), (.int .i64 0), (.int .i64 0), (.int .i64 0), (.bool false), (.int .u64 0), (.slice none 0 0), (.int .i64 0), (.string ⟨#[]⟩), (.int .i64 0), (.int .i64 0), (.int .i64 0), (.string ⟨#[]⟩), (.int .i64 0), (.string ⟨#[]⟩), (.int .i64 0), (.bool false), (.int .i64 0), (.string ⟨#[]⟩), (.int .i64 0)]), none, [(0, 3), (1, 27), (33, 3), (34, 9), (35, 3), (36, 9), (37, 3), (38, 4), (39, 3), (40, 9), (41, 3)]⟩),
  (110, ⟨6, none, 42, 416, true, (.agg #[(.int .i64 0), (.int .i64 0), (.string ⟨#[]⟩), (.int .i64 0), (.int .i64 0), (.slice none 0 0), (.int .i64 0), (.int .i64 0), (.bool false), (.bool false), (.bool false), (.int .i64 0), (.string ⟨#[]⟩), (.string ⟨#[]⟩), (.string ⟨#[]⟩), (.int .i64 0), (.bool false), (.bool false), (.int .i64 0), (.int .i64 0), (.string ⟨#[]⟩), (.int .i64 0), (.int .i64 0), (.int .i64 0), (.int .i64 0), (.int .i64 0), (.bool false), (.int .u64 0), (.slice none 0 0), (.int .i64 0), (.string ⟨#[]⟩), (.int .i64 0), (.int .i64 0), (.int .i64 0), (.string ⟨#[]⟩), (.int .i64 0), (.string ⟨#[]⟩), (.int .i64 0), (.bool false), (.int .i64 0), (.string ⟨#[]⟩), (.int .i64 0)]), none, [(0, 3), (1, 27), (33, 3), (34, 9), (35, 3), (36, 9), (37, 3), (38, 4), (39, 3), (40, 9), (41, 3)]⟩),
  (111, ⟨6, none, 1, 8, false, .nilFunc, none, []⟩),
  (112, ⟨6, none, 1, 8, false, .nilFunc, none, []⟩),
  (113, ⟨6, none, 1, 8, false, .nilFunc, none, []⟩),
  (114, ⟨6, none, 1, 8, false, .nilFunc, none, []⟩),
  (115, ⟨6, none, 1, 8, false, .nilFunc, none, []⟩),
  (116, ⟨6, none, 1, 8, false, .nilFunc, none, []⟩),
  (117, ⟨1, none, 1, 24, false, (.slice none 0 0), (some (9, 1)), []⟩),
  (118, ⟨6, none, 1, 8, false, .nilFunc, none, []⟩),
  (119, ⟨6, none, 1, 8, false, .nilFunc, none, []⟩),
  (120, ⟨6, none, 1, 8, false, .nilFunc, none, []⟩),
  (121, ⟨6, none, 1, 8, false, .nilFunc, none, []⟩),
  (122, ⟨6, none, 1, 8, false, .nilFunc, none, []⟩),
  (123, ⟨6, none, 1, 8, false, .nilFunc, none, []⟩),
  (124, ⟨6, none, 2, 32, true, (.agg #[(.string ⟨#[]⟩), (.string ⟨#[]⟩)]), none, [(0, 9), (1, 9)]⟩),
  (125, ⟨6, none, 2, 32, true, (.agg #[(.string ⟨#[]⟩), (.string ⟨#[]⟩)]), none, [(0, 9), (1, 9)]⟩),
  (126, ⟨1, none, 1, 24, false, (.slice none 0 0), (some (3, 1)), []⟩),
  (127, ⟨6, none, 1, 8, false, .nilFunc, none, []⟩),
  (128, ⟨6, none, 1, 8, false, .nilFunc, none, []⟩),
  (129, ⟨6, (some .u64), 1, 8, false, (.int .u64 0), none, []⟩),
  (130, ⟨6, (some .u64), 1, 8, false, (.int .u64 0), none, []⟩),
  (131, ⟨6, none, 1, 8, false, .nilFunc, none, []⟩),
  (132, ⟨6, none, 1, 8, false, .nilFunc, none, []⟩),
  (133, ⟨6, none, 1, 8, false, (.pointer none), none, []⟩),
  (134, ⟨6, (some .u64), 1, 8, false, (.int .u64 0), none, []⟩),
  (135, ⟨6, none, 3, 24, true, (.agg #[(.pointer none), (.pointer none), (.int .u64 0)]), none, [(0, 17), (1, 133), (2, 134)]⟩),
  (136, ⟨6, none, 3, 24, true, (.agg #[(.pointer none), (.pointer none), (.int .u64 0)]), none, [(0, 17), (1, 133), (2, 134)]⟩),
  (137, ⟨6, none, 1, 8, false, .nilFunc, none, []⟩),
  (138, ⟨5, none, 1, 16, false, .nilIface, none, []⟩),
  (139, ⟨5, none, 1, 16, false, .nilIface, none, []⟩),
  (140, ⟨6, none, 1, 8, false, .nilFunc, none, []⟩),
  (141, ⟨6, (some .u8), 1, 1, false, (.int .u8 0), none, []⟩),
  (142, ⟨6, none, 1, 8, false, .nilFunc, none, []⟩),
  (143, ⟨6, none, 1, 8, false, .nilFunc, none, []⟩),
  (144, ⟨6, none, 1, 8, false, .nilFunc, none, []⟩),
  (145, ⟨6, none, 1, 8, false, .nilFunc, none, []⟩),
  (147, ⟨6, none, 1, 8, false, .nilFunc, none, []⟩),
  (148, ⟨6, none, 1, 8, false, .nilFunc, none, []⟩),
  (149, ⟨6, none, 1, 8, false, .nilFunc, none, []⟩),
  (150, ⟨6, none, 1, 8, false, .nilFunc, none, []⟩),
  (151, ⟨1, none, 1, 24, false, (.slice none 0 0), (some (5, 1)), []⟩),
  (152, ⟨6, none, 1, 8, false, .nilFunc, none, []⟩),
  (153, ⟨1, none, 1, 24, false, (.slice none 0 0), (some (155, 35)), []⟩),
  (154, ⟨6, none, 35, 344, true, (.agg #[(.int .i64 0), (.string ⟨#[]⟩), (.bool false), (.int .i64 0), (.string ⟨#[]⟩), (.int .i64 0), (.int .i64 0), (.slice none 0 0), (.int .i64 0), (.int .i64 0), (.bool false), (.bool false), (.bool false), (.int .i64 0), (.string ⟨#[]⟩), (.string ⟨#[]⟩), (.string ⟨#[]⟩), (.int .i64 0), (.bool false), (.bool false), (.int .i64 0), (.int .i64 0), (.string ⟨#[]⟩), (.int .i64 0), (.int .i64 0), (.int .i64 0), (.int .i64 0), (.int .i64 0), (.bool false), (.int .u64 0), (.slice none 0 0), (.int .i64 0), (.string ⟨#[]⟩), (.int .i64 0), (.int .i64 0)]), none, [(0, 36), (2, 4), (3, 27)]⟩),
  (155, ⟨6, none, 35, 344, true, (.agg #[(.int .i64 0), (.string ⟨#[]⟩), (.bool false), (.int .i64 0), (.string ⟨#[]⟩), (.int .i64 0), (.int .i64 0), (.slice none 0 0), (.int .i64 0), (.int .i64 0), (.bool false), (.bool false), (.bool false), (.int .i64 0), (.string ⟨#[]⟩), (.string ⟨#[]⟩), (.string ⟨#[]⟩), (.int .i64 0), (.bool false), (.bool false), (.int .i64 0), (.int .i64 0), (.string ⟨#[]⟩), (.int .i64 0), (.int .i64 0), (.int .i64 0), (.int .i64 0), (.int .i64 0), (.bool false), (.int .u64 0), (.slice none 0 0), (.int .i64 0), (.string ⟨#[]⟩), (.int .i64 0), (.int .i64 0)]), none, [(0, 36), (2, 4), (3, 27)]⟩),
  (156, ⟨6, none, 1, 8, false, .nilFunc, none, []⟩),
  (157, ⟨6, none, 1, 8, false, .nilFunc, none, []⟩),
  (158, ⟨1, none, 1, 24, false, (.slice none 0 0), (some (25, 1)), []⟩),
  (159, ⟨6, none, 1, 8, false, .nilFunc, none, []⟩),
  (160, ⟨1, none, 1, 24, false, (.slice none 0 0), (some (4, 1)), []⟩),
  (161, ⟨6, none, 1, 8, false, .nilFunc, none, []⟩),
  (162, ⟨6, none, 1, 8, false, .nilFunc, none, []⟩),
  (163, ⟨1, none, 1, 24, false, (.slice none 0 0), (some (36, 2)), []⟩),
  (164, ⟨6, none, 1, 8, false, .nilFunc, none, []⟩),
  (165, ⟨1, none, 1, 24, false, (.slice none 0 0), (some (167, 3)), []⟩),
  (166, ⟨6, none, 3, 32, true, (.agg #[(.int .i64 0), (.string ⟨#[]⟩), (.int .i64 0)]), none, [(0, 36), (2, 3)]⟩),
  (167, ⟨6, none, 3, 32, true, (.agg #[(.int .i64 0), (.string ⟨#[]⟩), (.int .i64 0)]), none, [(0, 36), (2, 3)]⟩),
  (168, ⟨6, none, 1, 8, false, .nilFunc, none, []⟩),
  (169, ⟨1, none, 1, 24, false, (.slice none 0 0), (some (24, 2)), []⟩),
  (170, ⟨6, none, 1, 8, false, .nilFunc, none, []⟩),
  (171, ⟨1, none, 1, 24, false, (.slice none 0 0), (some (173, 3)), []⟩),
  (172, ⟨6, none, 3, 24, true, (.agg #[(.int .i64 0), (.int .i64 0), (.bool false)]), none, [(0, 3), (1, 3), (2, 4)]⟩),
  (173, ⟨6, none, 3, 24, true, (.agg #[(.int .i64 0), (.int .i64 0), (.bool false)]), none, [(0, 3), (1, 3), (2, 4)]⟩),
  (174, ⟨6, none, 1, 8, false, .nilFunc, none, []⟩),
  (175, ⟨3, none, 6, 6, true, (.agg #[(.bool false), (.bool false), (.bool false), (.bool false), (.bool false), (.bool false)]), none, []⟩),
  (176, ⟨3, none, 13, 104, true, (.agg #[(.int .i64 0), (.int .i64 0), (.int .i64 0), (.int .i64 0), (.int .i64 0), (.int .i64 0), (.int .i64 0), (.int .i64 0), (.int .i64 0), (.int .i64 0), (.int .i64 0), (.int .i64 0), (.int .i64 0)]), none, []⟩),
  (177, ⟨4, none, 1, 8, false, (.map none), none, []⟩),
  (179, ⟨6, none, 1, 8, false, .nilFunc, none, []⟩),
  (180, ⟨6, none, 1, 8, false, .nilFunc, none, []⟩),
  (182, ⟨6, none, 1, 8, false, .nilFunc, none, []⟩),
  (183, ⟨6, none, 1, 8, false, .nilFunc, none, []⟩),
  (184, ⟨6, none, 1, 8, false, .nilFunc, none, []⟩),
  (186, ⟨6, none, 1, 8, false, .nilFunc, none, []⟩),
  (187, ⟨6, none, 1, 8, false, .nilFunc, none, []⟩),
  (188, ⟨6, none, 1, 8, false, .nilFunc, none, []⟩),
  (189, ⟨6, none, 1, 8, false, (.pointer none), none, []⟩),
  (190, ⟨1, none, 1, 24, false, (.slice none 0 0), (some (20, 1)), []⟩),
  (191, ⟨6, none, 1, 8, false, .nilFunc, none, []⟩),
  (192, ⟨6, none, 1, 8, false, .nilFunc, none, []⟩),
  (193, ⟨6, none, 1, 8, false, .nilFunc, none, []⟩),
  (194, ⟨6, none, 1, 8, false, .nilFunc, none, []⟩),
  (195, ⟨6, none, 1, 8, true, (.agg #[(.pointer none)]), none, [(0, 17)]⟩),
  (196, ⟨6, none, 1, 8, true, (.agg #[(.pointer none)]), none, [(0, 17)]⟩),
  (197, ⟨6, none, 1, 8, false, (.pointer none), none, []⟩),
  (198, ⟨6, none, 1, 8, false, .nilFunc, none, []⟩),
  (199, ⟨6, none, 1, 8, false, .nilFunc, none, []⟩),
  (200, ⟨5, none, 1, 16, false, .nilIface, none, []⟩),
  (202, ⟨6, none, 1, 8, false, .nilFunc, none, []⟩),
  (203, ⟨5, none, 1, 16, false, .nilIface, none, []⟩),
  (204, ⟨6, none, 1, 8, false, .nilFunc, none, []⟩),
  (205, ⟨5, none, 1, 16, false, .nilIface, none, []⟩),
  (206, ⟨1, none, 1, 24, false, (.slice none 0 0), (some (31, 1)), []⟩),
  (207, ⟨6, none, 1, 8, false, .nilFunc, none, []⟩),
  (208, ⟨6, none, 1, 8, false, .nilFunc, none, []⟩),
  (209, ⟨6, none, 1, 8, false, .nilFunc, none, []⟩),
  (210, ⟨6, none, 1, 8, false, .nilFunc, none, []⟩),
  (211, ⟨6, none, 1, 8, false, .nilFunc, none, []⟩),
  (212, ⟨6, none, 1, 8, false, .nilFunc, none, []⟩),
  (213, ⟨6, none, 1, 8, false, .nilFunc, none, []⟩),
  (214, ⟨6, none, 1, 8, false, .nilFunc, none, []⟩),
  (215, ⟨3, none, 4, 32, true, (.agg #[(.int .i64 0), (.int .i64 0), (.int .i64 0), (.int .i64 0)]), none, []⟩),
  (216, ⟨3, none, 4, 32, true, (.agg #[(.int .i64 0), (.int .i64 0), (.int .i64 0), (.int .i64 0)]), none, []⟩),
  (217, ⟨6, none, 1, 8, false, .nilFunc, none, []⟩),
  (218, ⟨6, none, 1, 8, false, .nilFunc, none, []⟩),
  (219, ⟨6, none, 1, 8, false, .nilFunc, none, []⟩),
  (220, ⟨6, none, 1, 8, false, .nilFunc, none, []⟩),
  (221, ⟨6, none, 1, 8, false, .nilFunc, none, []⟩),
  (222, ⟨6, none, 1, 8, false, .nilFunc, none, []⟩),
  (223, ⟨5, none, 1, 16, false, .nilIface, none, []⟩),
  (225, ⟨6, none, 1, 8, false, .nilFunc, none, []⟩),
  (226, ⟨6, none, 1, 8, false, .nilFunc, none, []⟩),
  (228, ⟨6, none, 1, 8, false, .nilFunc, none, []⟩),
  (229, ⟨6, none, 1, 8, false, .nilFunc, none, []⟩),
  (233, ⟨6, none, 1, 8, false, .nilFunc, none, []⟩),
  (234, ⟨6, none, 1, 8, false, .nilFunc, none, []⟩),
  (235, ⟨6, none, 1, 8, false, (.pointer none), none, []⟩),
  (236, ⟨6, none, 1, 8, false, .nilFunc, none, []⟩),
  (237, ⟨6, none, 1, 8, false, .nilFunc, none, []⟩),
  (239, ⟨6, none, 1, 8, false, .nilFunc, none, []⟩),
  (240, ⟨3, none, 24, 24, true, (.agg #[(.int .u8 0), (.int .u8 0), (.int .u8 0), (.int .u8 0), (.int .u8 0), (.int .u8 0), (.int .u8 0), (.int .u8 0), (.int .u8 0), (.int .u8 0), (.int .u8 0), (.int .u8 0), (.int .u8 0), (.int .u8 0), (.int .u8 0), (.int .u8 0), (.int .u8 0), (.int .u8 0), (.int .u8 0), (.int .u8 0), (.int .u8 0), (.int .u8 0), (.int .u8 0), (.int .u8 0)]), none, []⟩),
  (241, ⟨6, none, 1, 8, false, .nilFunc, none, []⟩),
  (242, ⟨6, none, 1, 8, false, .nilFunc, none, []⟩),
  (244, ⟨6, none, 1, 8, false, .nilFunc, none, []⟩),
  (245, ⟨6, none, 1, 8, false, .nilFunc, none, []⟩),
  (246, ⟨6, none, 1, 8, false, .nilFunc, none, []⟩),
  (247, ⟨3, none, 20, 160, true, (.agg #[(.int .u64 0), (.int .u64 0), (.int .u64 0), (.int .u64 0), (.int .u64 0), (.int .u64 0), (.int .u64 0), (.int .u64 0), (.int .u64 0), (.int .u64 0), (.int .u64 0), (.int .u64 0), (.int .u64 0), (.int .u64 0), (.int .u64 0), (.int .u64 0), (.int .u64 0), (.int .u64 0), (.int .u64 0), (.int .u64 0)]), none, []⟩),
  (248, ⟨6, (some .u32), 1, 4, false, (.int .u32 0), none, []⟩),
  (250, ⟨6, none, 1, 8, false, .nilFunc, none, []⟩),
  (252, ⟨6, none, 2, 2, true, (.agg #[(.int .u8 0), (.int .u8 0)]), none, [(0, 5), (1, 5)]⟩),
  (253, ⟨6, none, 2, 2, true, (.agg #[(.int .u8 0), (.int .u8 0)]), none, [(0, 5), (1, 5)]⟩),
  (254, ⟨3, none, 32, 32, true, (.agg #[(.int .u8 0), (.int .u8 0), (.int .u8 0), (.int .u8 0), (.int .u8 0), (.int .u8 0), (.int .u8 0), (.int .u8 0), (.int .u8 0), (.int .u8 0), (.int .u8 0), (.int .u8 0), (.int .u8 0), (.int .u8 0), (.int .u8 0), (.int .u8 0), (.int .u8 0), (.int .u8 0), (.int .u8 0), (.int .u8 0), (.int .u8 0), (.int .u8 0), (.int .u8 0), (.int .u8 0), (.int .u8 0), (.int .u8 0), (.int .u8 0), (.int .u8 0), (.int .u8 0), (.int .u8 0), (.int .u8 0), (.int .u8 0)]), none, []⟩),
  (255, ⟨6, none, 1, 8, false, .nilFunc, none, []⟩),
  (256, ⟨6, none, 1, 8, false, .nilFunc, none, []⟩),
  (257, ⟨3, none, 32, 32, true, (.agg #[(.int .u8 0), (.int .u8 0), (.int .u8 0), (.int .u8 0), (.int .u8 0), (.int .u8 0), (.int .u8 0), (.int .u8 0), (.int .u8 0), (.int .u8 0), (.int .u8 0), (.int .u8 0), (.int .u8 0), (.int .u8 0), (.int .u8 0), (.int .u8 0), (.int .u8 0), (.int .u8 0), (.int .u8 0), (.int .u8 0), (.int .u8 0), (.int .u8 0), (.int .u8 0), (.int .u8 0), (.int .u8 0), (.int .u8 0), (.int .u8 0), (.int .u8 0), (.int .u8 0), (.int .u8 0), (.int .u8 0), (.int .u8 0)]), none, []⟩),
  (258, ⟨3, none, 64, 64, true, (.agg #[(.int .u8 0), (.int .u8 0), (.int .u8 0), (.int .u8 0), (.int .u8 0), (.int .u8 0), (.int .u8 0), (.int .u8 0), (.int .u8 0), (.int .u8 0), (.int .u8 0), (.int .u8 0), (.int .u8 0), (.int .u8 0), (.int .u8 0), (.int .u8 0), (.int .u8 0), (.int .u8 0), (.int .u8 0), (.int .u8 0), (.int .u8 0), (.int .u8 0), (.int .u8 0), (.int .u8 0), (.int .u8 0), (.int .u8 0), (.int .u8 0), (.int .u8 0), (.int .u8 0), (.int .u8 0), (.int .u8 0), (.int .u8 0), (.int .u8 0), (.int .u8 0), (.int .u8 0), (.int .u8 0), (.int .u8 0), (.int .u8 0), (.int .u8 0), (.int .u8 0), (.int .u8 0), (.int .u8 0), (.int .u8 0), (.int .u8 0), (.int .u8 0), (.int .u8 0), (.int .u8 0), (.int .u8 0), (.int .u8 0), (.int .u8 0), (.int .u8 0), (.int .u8 0), (.int .u8 0), (.int .u8 0), (.int .u8 0), (.int .u8 0), (.int .u8 0), (.int .u8 0), (.int .u8 0), (.int .u8 0), (.int .u8 0), (.int .u8 0), (.int .u8 0), (.int .u8 0)]), none, []⟩),
  (259, ⟨6, none, 1, 8, false, .nilFunc, none, []⟩),
  (260, ⟨6, none, 4, 40, true, (.agg #[(.pointer none), (.pointer none), (.pointer none), (.string ⟨#[]⟩)]), none, [(0, 17), (1, 17), (2, 17), (3, 9)]⟩),
  (261, ⟨6, none, 4, 40, true, (.agg #[(.pointer none), (.pointer none), (.pointer none), (.string ⟨#[]⟩)]), none, [(0, 17), (1, 17), (2, 17), (3, 9)]⟩),
  (262, ⟨3, none, 0, 0, true, (.agg #[]), none, []⟩),
  (263, ⟨6, none, 0, 0, true, (.agg #[]), none, [(0, 262)]⟩),
  (264, ⟨6, none, 0, 0, true, (.agg #[]), none, [(0, 262)]⟩),
  (265, ⟨6, none, 1, 8, false, .nilFunc, none, []⟩),
  (266, ⟨6, none, 1, 8, false, .nilFunc, none, []⟩),
  (267, ⟨6, (some .u8), 1, 1, false, (.int .u8 0), none, []⟩),
  (268, ⟨6, none, 1, 8, false, .nilFunc, none, []⟩),
  (269, ⟨6, none, 1, 8, false, (.pointer none), none, []⟩),
  (270, ⟨6, (some .i32), 1, 4, false, (.int .i32 0), none, []⟩),
  (271, ⟨6, (some .i32), 1, 4, false, (.int .i32 0), none, []⟩),
  (272, ⟨6, none, 11, 48, true, (.agg #[(.int .u64 0), (.int .u64 0), (.int .u32 0), (.int .u8 0), (.int .u8 0), (.int .u8 0), (.int .u8 0), .nilFunc, (.pointer none), (.int .i32 0), (.int .i32 0)]), none, [(0, 12), (1, 12), (2, 248), (3, 267), (4, 5), (5, 5), (6, 141), (7, 268), (8, 269), (9, 270), (10, 271)]⟩),
  (273, ⟨6, none, 11, 48, true, (.agg #[(.int .u64 0), (.int .u64 0), (.int .u32 0), (.int .u8 0), (.int .u8 0), (.int .u8 0), (.int .u8 0), .nilFunc, (.pointer none), (.int .i32 0), (.int .i32 0)]), none, [(0, 12), (1, 12), (2, 248), (3, 267), (4, 5), (5, 5), (6, 141), (7, 268), (8, 269), (9, 270), (10, 271)]⟩),
  (274, ⟨6, none, 1, 8, false, .nilFunc, none, []⟩),
  (275, ⟨6, none, 1, 8, false, .nilFunc, none, []⟩),
  (276, ⟨6, none, 2, 24, true, (.agg #[(.string ⟨#[]⟩), (.int .u8 0)]), none, [(0, 9), (1, 141)]⟩),
  (277, ⟨6, none, 2, 24, true, (.agg #[(.string ⟨#[]⟩), (.int .u8 0)]), none, [(0, 9), (1, 141)]⟩),
  (278, ⟨6, none, 1, 8, false, (.pointer none), none, []⟩),
  (279, ⟨6, none, 1, 8, false, .nilFunc, none, []⟩),
  (280, ⟨6, (some .u16), 1, 2, false, (.int .u16 0), none, []⟩),
  (281, ⟨6, none, 5, 16, true, (.agg #[(.int .i32 0), (.int .u16 0), (.int .u16 0), (.int .u32 0), (.int .u32 0)]), none, [(0, 270), (1, 280), (2, 280), (3, 248), (4, 248)]⟩),
  (282, ⟨6, none, 5, 16, true, (.agg #[(.int .i32 0), (.int .u16 0), (.int .u16 0), (.int .u32 0), (.int .u32 0)]), none, [(0, 270), (1, 280), (2, 280), (3, 248), (4, 248)]⟩),
  (283, ⟨1, none, 1, 24, false, (.slice none 0 0), (some (286, 4)), []⟩),
  (284, ⟨6, (some .i32), 1, 4, false, (.int .i32 0), none, []⟩),
  (285, ⟨6, none, 4, 16, true, (.agg #[(.int .i32 0), (.int .i32 0), (.int .i32 0), (.int .i32 0)]), none, [(0, 270), (1, 271), (2, 284), (3, 284)]⟩),
  (286, ⟨6, none, 4, 16, true, (.agg #[(.int .i32 0), (.int .i32 0), (.int .i32 0), (.int .i32 0)]), none, [(0, 270), (1, 271), (2, 284), (3, 284)]⟩),
  (287, ⟨6, none, 1, 8, false, (.pointer none), none, []⟩)]
set_option maxRecDepth 100000 in
theorem tabOk : TabOk Tryz.prog tab := by unfold TabOk; kernel_rfl
end Go.Fl
