/-
  Two texts held against each other, as a Lean function on lists of bytes; it is an order of all texts. No program in sight. No condition.
-/
import Derived.Test.YtggbiiicoabkmaaDoorWordsA
namespace Go.Fl
open Go.Proofs
set_option maxRecDepth 10000

/-- What may be asked of 'held against each other'. -/
structure OrdC {α : Type} (c : α → α → Int) : Prop where
  rng : ∀ a b, c a b = -1 ∨ c a b = 0 ∨ c a b = 1
  anti : ∀ a b, c b a = - c a b
  eq : ∀ a b, c a b = 0 ↔ a = b
  tr : ∀ a b d, c a b ≤ 0 → c b d ≤ 0 → c a d ≤ 0

def natC (a b : Nat) : Int := if a < b then -1 else if b < a then 1 else 0
theorem natC_ord : OrdC natC where
  rng a b := by unfold natC; split <;> (try split) <;> simp
  anti a b := by unfold natC; split <;> split <;> (try split) <;> omega
  eq a b := by unfold natC; constructor <;> intro h <;> (repeat' split at h) <;> (repeat' split) <;> omega
  tr a b d := by unfold natC; intro h1 h2; (repeat' split at h1) <;> (repeat' split at h2) <;> (repeat' split) <;> omega

def lexC {α : Type} (c : α → α → Int) : List α → List α → Int
  | [], [] => 0
  | [], _ :: _ => -1
  | _ :: _, [] => 1
  | x :: xs, y :: ys => if c x y = 0 then lexC c xs ys else c x y

theorem lexC_ord {α : Type} {c : α → α → Int} (h : OrdC c) : OrdC (lexC c) where
  rng := by
    intro a
    induction a with
    | nil => intro b; cases b <;> simp [lexC]
    | cons x xs ih =>
      intro b
      cases b with
      | nil => simp [lexC]
      | cons y ys => unfold lexC; split; exact ih ys; exact h.rng x y
  anti := by
    intro a
    induction a with
    | nil => intro b; cases b <;> simp [lexC]
    | cons x xs ih =>
      intro b
      cases b with
      | nil => simp [lexC]
      | cons y ys =>
        unfold lexC
        rw [h.anti x y, ih ys]
        by_cases h0 : c x y = 0
        · simp [h0]
        · rw [if_neg (by omega), if_neg h0]
  eq := by
    intro a
    induction a with
    | nil => intro b; cases b <;> simp [lexC]
    | cons x xs ih =>
      intro b
      cases b with
      | nil => simp [lexC]
      | cons y ys =>
        unfold lexC
        by_cases h0 : c x y = 0
        · rw [if_pos h0, ih ys, (h.eq x y).1 h0]; simp
        · rw [if_neg h0]
          constructor
          · intro h1; exact absurd h1 h0
          · intro h1; cases h1; exact absurd ((h.eq x x).2 rfl) h0
  tr := by
    intro a
    induction a with
    | nil => intro b d; cases b <;> cases d <;> simp [lexC]
    | cons x xs ih =>
      intro b d
      cases b with
      | nil => cases d <;> simp [lexC]
      | cons y ys =>
        cases d with
        | nil => simp [lexC]
        | cons z zs =>
          unfold lexC
          intro h1 h2
          by_cases e1 : c x y = 0
          · obtain rfl := (h.eq x y).1 e1
            rw [if_pos e1] at h1
            by_cases e2 : c x z = 0
            · rw [if_pos e2] at h2 ⊢; exact ih ys zs h1 h2
            · rw [if_neg e2] at h2 ⊢; exact h2
          · rw [if_neg e1] at h1
            by_cases e2 : c y z = 0
            · obtain rfl := (h.eq y z).1 e2
              rw [if_neg e1]; exact h1
            · rw [if_neg e2] at h2
              have h3 := h.tr x y z h1 h2
              have e3 : c x z ≠ 0 := by
                intro h0
                obtain rfl := (h.eq x z).1 h0
                have := h.anti x y
                omega
              rw [if_neg e3]; exact h3

def dgB (c : UInt8) : Bool := digitI (ci c)
def lessI (a b : Int) : Int := if a < b then -1 else if b < a then 1 else 0
theorem lessI_nat (a b : Nat) : lessI (a : Int) (b : Int) = natC a b := by
  unfold lessI natC
  by_cases h : a < b
  · rw [if_pos (by omega), if_pos h]
  · rw [if_neg (by omega), if_neg h]
    by_cases h' : b < a
    · rw [if_pos (by omega), if_pos h']
    · rw [if_neg (by omega), if_neg h']

/-- Byte by byte. -/
def strC (a b : List UInt8) : Int := lexC natC (a.map (·.toNat)) (b.map (·.toNat))
def bareL (l : List UInt8) : List UInt8 := l.dropWhile (· == 48)
/-- Two rows. -/
def rowsL (a b : List UInt8) : Int :=
  if dgB (a.getD 0 0) = true ∧ dgB (b.getD 0 0) = false then -1
  else if dgB (a.getD 0 0) = false ∧ dgB (b.getD 0 0) = true then 1
  else if dgB (a.getD 0 0) = false then strC a b
  else if natC (bareL a).length (bareL b).length ≠ 0 then natC (bareL a).length (bareL b).length
  else if strC (bareL a) (bareL b) ≠ 0 then strC (bareL a) (bareL b)
  else natC a.length b.length

def keyT (a : List UInt8) : List Nat :=
  if dgB (a.getD 0 0) = true then 0 :: (bareL a).length :: ((bareL a).map (·.toNat) ++ [a.length]) else 1 :: a.map (·.toNat)

theorem lexC_app {α : Type} {c : α → α → Int} (h : OrdC c) : ∀ (a b : List α) (x y : α), a.length = b.length → lexC c (a ++ [x]) (b ++ [y]) = if lexC c a b ≠ 0 then lexC c a b else c x y := by
  intro a
  induction a with
  | nil =>
    intro b x y hl
    have : b = [] := by simpa using hl.symm
    subst this
    simp only [List.nil_append, lexC]
    by_cases h0 : c x y = 0 <;> simp [h0]
  | cons u a ih =>
    intro b x y hl
    cases b with
    | nil => simp at hl
    | cons v b =>
      simp only [List.cons_append, lexC]
      by_cases h0 : c u v = 0
      · simp only [h0, if_true]; exact ih b x y (by simpa using hl)
      · simp [h0]

theorem rowsL_key (a b : List UInt8) : rowsL a b = lexC natC (keyT a) (keyT b) := by
  unfold rowsL keyT
  cases ha : dgB (a.getD 0 0) <;> cases hb : dgB (b.getD 0 0)
  · simp only [Bool.false_eq_true, false_and, true_and, if_false, and_false, if_true, lexC]
    have : natC 1 1 = 0 := by decide
    simp [this, strC]
  · have : natC 1 0 = 1 := by decide
    simp [lexC, this]
  · have : natC 0 1 = -1 := by decide
    simp [lexC, this]
  · have h00 : natC 0 0 = 0 := by decide
    simp only [Bool.true_eq_false, and_false, false_and, if_false, if_true, lexC, h00]
    by_cases hl : natC (bareL a).length (bareL b).length = 0
    · simp only [hl, ne_eq, not_true_eq_false, if_false, if_true]
      have hle : (bareL a).length = (bareL b).length := (natC_ord.eq _ _).1 hl
      rw [lexC_app natC_ord _ _ _ _ (by simpa using hle)]
      rfl
    · simp [hl]

theorem takeW_eq (l : List UInt8) : List.replicate (l.length - (bareL l).length) 48 ++ bareL l = l := by
  have h1 : l.takeWhile (· == 48) ++ bareL l = l := List.takeWhile_append_dropWhile
  have h2 : l.takeWhile (· == 48) = List.replicate (l.length - (bareL l).length) 48 := by
    rw [List.eq_replicate_iff]
    constructor
    · have := congrArg List.length h1
      rw [List.length_append] at this
      omega
    · intro x hx
      have := List.all_eq_true.1 (List.all_takeWhile (p := (· == (48 : UInt8))) (l := l)) x hx
      simpa using this
  rw [← h2]; exact h1

theorem map_toNat_inj {a b : List UInt8} (h : a.map (·.toNat) = b.map (·.toNat)) : a = b := by
  induction a generalizing b with
  | nil => cases b with
    | nil => rfl
    | cons y b => simp at h
  | cons x a ih =>
    cases b with
    | nil => simp at h
    | cons y b =>
      simp only [List.map_cons, List.cons.injEq] at h
      rw [ih h.2, UInt8.toNat_inj.1 h.1]

theorem keyT_inj {a b : List UInt8} (h : keyT a = keyT b) : a = b := by
  unfold keyT at h
  cases ha : dgB (a.getD 0 0) <;> cases hb : dgB (b.getD 0 0) <;> simp only [ha, hb, Bool.false_eq_true, if_false, if_true, List.cons.injEq] at h
  · exact map_toNat_inj h.2
  · omega
  · omega
  · obtain ⟨_, h1, h2⟩ := h
    have h3 := List.append_inj' h2 rfl
    have h4 := map_toNat_inj h3.1
    have h5 : a.length = b.length := by simpa using h3.2
    rw [← takeW_eq a, ← takeW_eq b, h4, h5]

/-- A text's rows. -/
def toks : List UInt8 → List (List UInt8)
  | [] => []
  | c :: l => match toks l with
    | [] => [[c]]
    | t :: ts => if dgB c = dgB (t.getD 0 0) then (c :: t) :: ts else [c] :: t :: ts

theorem toks_flat : ∀ l : List UInt8, (toks l).flatten = l
  | [] => rfl
  | c :: l => by
    have ih := toks_flat l
    unfold toks
    split
    · rename_i h; rw [h] at ih; simp at ih; subst ih; rfl
    · rename_i t ts h
      rw [h] at ih
      split
      · simp only [List.flatten_cons, List.cons_append, ← ih]
      · simp only [List.flatten_cons, List.cons_append, List.nil_append, ← ih]

/-- Two texts. -/
def cmpL (a b : List UInt8) : Int := lexC rowsL (toks a) (toks b)

theorem lexC_map {α β : Type} {c : α → α → Int} {d : β → β → Int} (f : α → β) (h : ∀ a b, c a b = d (f a) (f b)) : ∀ a b : List α, lexC c a b = lexC d (a.map f) (b.map f) := by
  intro a
  induction a with
  | nil => intro b; cases b <;> rfl
  | cons x a ih => intro b; cases b with
    | nil => rfl
    | cons y b => simp only [lexC, List.map_cons, h x y, ih b]

theorem map_keyT_inj : ∀ {a b : List (List UInt8)}, a.map keyT = b.map keyT → a = b
  | [], [], _ => rfl
  | [], _ :: _, h => by simp at h
  | _ :: _, [], h => by simp at h
  | x :: a, y :: b, h => by
    simp only [List.map_cons, List.cons.injEq] at h
    rw [keyT_inj h.1, map_keyT_inj h.2]

theorem cmpL_ord : OrdC cmpL := by
  have h := lexC_ord (lexC_ord natC_ord)
  have e : ∀ a b, cmpL a b = lexC (lexC natC) ((toks a).map keyT) ((toks b).map keyT) := fun a b => lexC_map keyT rowsL_key _ _
  refine ⟨fun a b => by rw [e]; exact h.rng _ _, fun a b => by rw [e, e]; exact h.anti _ _, fun a b => ?_, fun a b d => by rw [e, e, e]; exact h.tr _ _ _⟩
  rw [e, h.eq]
  constructor
  · intro h1
    have := map_keyT_inj h1
    rw [← toks_flat a, ← toks_flat b, this]
  · rintro rfl; rfl

/-! a text's first row, and the rest -/
def rowA (l : List UInt8) : List UInt8 := l.takeWhile fun x => dgB x == dgB (l.getD 0 0)
def rowB (l : List UInt8) : List UInt8 := l.dropWhile fun x => dgB x == dgB (l.getD 0 0)

theorem toks_head : ∀ (l : List UInt8) t ts, toks l = t :: ts → t ≠ [] ∧ t.getD 0 0 = l.getD 0 0
  | [], t, ts, h => by simp [toks] at h
  | c :: l, t, ts, h => by
    unfold toks at h
    split at h
    · cases h; simp
    · split at h <;> cases h <;> simp

theorem toks_row : ∀ (l : List UInt8), l ≠ [] → toks l = rowA l :: toks (rowB l)
  | [], h => absurd rfl h
  | [c], _ => by simp [toks, rowA, rowB]
  | c :: d :: l, _ => by
    have ih := toks_row (d :: l) (by simp)
    have hu : toks (c :: d :: l) = if dgB c = dgB d then (c :: rowA (d :: l)) :: toks (rowB (d :: l)) else [c] :: rowA (d :: l) :: toks (rowB (d :: l)) := by
      conv => lhs; unfold toks
      rw [ih]
      simp only
      rw [show (rowA (d :: l)).getD 0 0 = d by simp [rowA]]
    rw [hu]
    have hA : rowA (c :: d :: l) = c :: (d :: l).takeWhile (fun x => dgB x == dgB c) := by simp [rowA]
    have hB : rowB (c :: d :: l) = (d :: l).dropWhile (fun x => dgB x == dgB c) := by simp [rowB]
    split
    · rename_i he
      rw [hA, hB, he]
      rfl
    · rename_i he
      have h1 : (dgB d == dgB c) = false := by cases hd : dgB d <;> cases hc : dgB c <;> simp_all
      rw [hA, hB, List.takeWhile_cons, List.dropWhile_cons, h1]
      simp only [Bool.false_eq_true, if_false]
      rw [ih]

theorem cmpL_step (a b : List UInt8) (ha : a ≠ []) (hb : b ≠ []) : cmpL a b = if rowsL (rowA a) (rowA b) = 0 then cmpL (rowB a) (rowB b) else rowsL (rowA a) (rowA b) := by
  unfold cmpL
  rw [toks_row a ha, toks_row b hb]
  rfl
theorem cmpL_nil (a b : List UInt8) (h : a = [] ∨ b = []) : cmpL a b = natC a.length b.length := by
  unfold cmpL
  rcases h with rfl | rfl
  · cases b with
    | nil => simp [toks, lexC, natC]
    | cons y b => rw [toks_row (y :: b) (by simp)]; simp [toks, lexC, natC]
  · cases a with
    | nil => simp [toks, lexC, natC]
    | cons y b => rw [toks_row (y :: b) (by simp)]; simp [toks, lexC, natC]
theorem rowB_lt (a : List UInt8) (ha : a ≠ []) : (rowB a).length < a.length := by
  cases a with
  | nil => exact absurd rfl ha
  | cons c l =>
    have h0 : (c :: l).getD 0 0 = c := rfl
    unfold rowB
    rw [h0, List.dropWhile_cons]
    simp only [beq_self_eq_true, if_true]
    have := (List.dropWhile_sublist (fun x => dgB x == dgB c) (l := l)).length_le
    simp only [List.length_cons]; omega
theorem rowAB (a : List UInt8) : rowA a ++ rowB a = a := List.takeWhile_append_dropWhile
end Go.Fl
