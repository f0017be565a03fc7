/-
  Numbered names: taken apart and held against each other, on lists of bytes. No program in sight. No condition.
-/
import Derived.Test.YtggbiiicoabkmaaDoorWordsQ
namespace Go.Fl
open Go.Proofs Go.Lib
set_option maxRecDepth 10000

theorem dg45 : dgB 45 = false := by decide
theorem dash_no (d : List UInt8) (h : d.all dgB = true) : dashAt d = none := by
  induction d with
  | nil => rfl
  | cons c d ih =>
    rw [List.all_cons, Bool.and_eq_true] at h
    have hc : c ≠ 45 := by rintro rfl; rw [dg45] at h; cases h.1
    simp [dashAt, ih h.2, hc]
theorem dash_app (b d : List UInt8) (h : d.all dgB = true) : dashAt (b ++ 45 :: d) = some b.length := by
  induction b with
  | nil => simp [dashAt, dash_no d h]
  | cons c b ih => simp [dashAt, ih]
theorem numOf_dec (n : Nat) (h : n < 9223372036854775808) : numOf (decDigits n) = some n := by
  unfold numOf; rw [dec_val, if_pos ⟨dec_canon n, h⟩]
theorem split_numb (b : List UInt8) (n : Nat) (hb : nameL b = true) (hn : n < 9223372036854775808) : splitL (b ++ 45 :: decDigits n) = some (b, n) := by
  unfold splitL
  rw [dash_app b _ (dec_all n)]
  simp [hb, numOf_dec n hn]
theorem dash_at : ∀ {l : List UInt8} {i : Nat}, dashAt l = some i → l = l.take i ++ 45 :: l.drop (i + 1)
  | [], i, h => by simp [dashAt] at h
  | c :: l, i, h => by
    unfold dashAt at h
    cases hd : dashAt l with
    | some j =>
      rw [hd] at h
      obtain rfl : j + 1 = i := by simpa using h
      have := dash_at hd
      simp only [List.take_succ_cons, List.drop_succ_cons, List.cons_append]
      rw [← this]
    | none =>
      rw [hd] at h
      by_cases hc : c = 45
      · obtain rfl : i = 0 := by simpa [hc] using h.symm
        simp [hc]
      · simp [hc] at h
theorem split_is {s b : List UInt8} {k : Nat} (h : splitL s = some (b, k)) : s = b ++ 45 :: decDigits k ∧ nameL b = true ∧ k < 9223372036854775808 := by
  unfold splitL at h
  split at h
  · cases h
  · rename_i i hi
    split at h
    · cases h
    · rename_i hn
      split at h
      · cases h
      · rename_i n hnum
        cases h
        unfold numOf at hnum
        split at hnum
        · rename_i hc
          cases hnum
          refine ⟨?_, by simpa using hn, hc.2⟩
          rw [canon_dec hc.1]
          exact dash_at hi
        · cases hnum

/-! which comes first -/
theorem val_lt (d : List UInt8) (h : d.all dgB = true) : val d < 10 ^ d.length := by
  induction d using snoc_ind with
  | h0 => simp [val, valF]
  | h1 d c ih =>
    rw [List.all_append, Bool.and_eq_true] at h
    have hc := (dgB_iff c).1 (by simpa using h.2)
    have h1 := ih h.1
    unfold val at h1 ⊢
    rw [valF_snoc, List.length_append, List.length_singleton, Nat.pow_succ]
    omega
theorem val_cons (c : UInt8) (d : List UInt8) : val (c :: d) = (c.toNat - 48) * 10 ^ d.length + val d := by
  have key : ∀ (d : List UInt8) (acc : Nat), valF acc d = acc * 10 ^ d.length + valF 0 d := by
    intro d
    induction d with
    | nil => intro acc; simp [valF]
    | cons x d ih =>
      intro acc
      rw [valF_cons, ih (acc * 10 + (x.toNat - 48)), valF_cons, ih (0 * 10 + (x.toNat - 48)), List.length_cons, Nat.pow_succ, Nat.add_mul, Nat.zero_mul, Nat.zero_add, Nat.mul_assoc, Nat.mul_comm 10, Nat.add_assoc]
  unfold val
  rw [valF_cons, key d, Nat.zero_mul, Nat.zero_add]
theorem natC_lt {a b : Nat} (h : a < b) : natC a b = -1 := by unfold natC; rw [if_pos h]
theorem natC_gt {a b : Nat} (h : b < a) : natC a b = 1 := by unfold natC; rw [if_neg (by omega), if_pos h]
theorem natC_add (k a b : Nat) : natC (k + a) (k + b) = natC a b := by
  rcases Nat.lt_trichotomy a b with h | h | h
  · rw [natC_lt h, natC_lt (by omega)]
  · rw [h, (natC_ord.eq _ _).2 rfl, (natC_ord.eq _ _).2 rfl]
  · rw [natC_gt h, natC_gt (by omega)]
theorem strC_val : ∀ (a b : List UInt8), a.all dgB = true → b.all dgB = true → a.length = b.length → strC a b = natC (val a) (val b)
  | [], [], _, _, _ => by decide
  | [], _ :: _, _, _, h => by simp at h
  | _ :: _, [], _, _, h => by simp at h
  | c :: a, d :: b, ha, hb, hl => by
    rw [List.all_cons, Bool.and_eq_true] at ha hb
    have hl' : a.length = b.length := by simpa using hl
    have ih := strC_val a b ha.2 hb.2 hl'
    have hc := (dgB_iff c).1 ha.1
    have hd := (dgB_iff d).1 hb.1
    have va := val_lt a ha.2
    have vb := val_lt b hb.2
    rw [val_cons, val_cons]
    unfold strC at ih ⊢
    simp only [List.map_cons, lexC, ih]
    rw [hl'] at va ⊢
    generalize 10 ^ b.length = p at *
    rcases Nat.lt_trichotomy c.toNat d.toNat with h1 | h1 | h1
    · have h2 : (c.toNat - 48 + 1) * p ≤ (d.toNat - 48) * p := Nat.mul_le_mul_right _ (by omega)
      rw [Nat.add_mul, Nat.one_mul] at h2
      rw [natC_lt h1, if_neg (by decide), natC_lt (by omega)]
    · rw [h1, (natC_ord.eq _ _).2 rfl, if_pos rfl, natC_add]
    · have h2 : (d.toNat - 48 + 1) * p ≤ (c.toNat - 48) * p := Nat.mul_le_mul_right _ (by omega)
      rw [Nat.add_mul, Nat.one_mul] at h2
      rw [natC_gt h1, if_neg (by decide), natC_gt (by omega)]

theorem bare_dec (n : Nat) : (bareL (decDigits n)).all dgB = true ∧ val (bareL (decDigits n)) = n ∧ (0 < n → 10 ^ ((bareL (decDigits n)).length - 1) ≤ n ∧ 0 < (bareL (decDigits n)).length) ∧ (n = 0 → bareL (decDigits n) = []) := by
  by_cases h0 : 0 < n
  · have hh := dec_head n h0
    have hne := dec_ne n
    have he : bareL (decDigits n) = decDigits n := by
      unfold bareL
      cases hd : decDigits n with
      | nil => exact absurd hd hne
      | cons c l =>
        rw [hd] at hh
        have hc : ¬ c = 48 := by simpa using hh
        simp [hc]
    rw [he]
    have hl := lead_dec (decDigits n) hne (dec_all n) hh
    rw [dec_val] at hl
    exact ⟨dec_all n, dec_val n, fun _ => ⟨hl.2.2, List.length_pos_iff.2 hne⟩, fun h => by omega⟩
  · obtain rfl : n = 0 := by omega
    have e : decDigits 0 = [48] := by unfold decDigits; rfl
    rw [e]
    exact ⟨by decide, by decide, fun h => by omega, fun _ => by decide⟩

theorem rows_dec (n m : Nat) : rowsL (decDigits n) (decDigits m) = natC n m := by
  have hd : ∀ k, dgB ((decDigits k).getD 0 0) = true := by
    intro k
    have h1 := dec_all k
    cases h : decDigits k with
    | nil => exact absurd h (dec_ne k)
    | cons c l => rw [h, List.all_cons, Bool.and_eq_true] at h1; exact h1.1
  unfold rowsL
  rw [hd n, hd m]
  simp only [Bool.true_eq_false, and_false, false_and, if_false]
  obtain ⟨a1, a2, a3, a4⟩ := bare_dec n
  obtain ⟨b1, b2, b3, b4⟩ := bare_dec m
  have la := val_lt _ a1
  have lb := val_lt _ b1
  rw [a2] at la
  rw [b2] at lb
  have hlt : ∀ {x y k l : Nat}, x < 10 ^ k → (0 < y → 10 ^ (l - 1) ≤ y ∧ 0 < l) → (y = 0 → l = 0) → k < l → x < y := by
    intro x y k l h1 h2 h3 h4
    by_cases h0 : 0 < y
    · have h5 : 10 ^ k ≤ 10 ^ (l - 1) := Nat.pow_le_pow_right (by decide) (by omega)
      have := (h2 h0).1
      omega
    · have := h3 (by omega); omega
  by_cases h1 : (bareL (decDigits n)).length < (bareL (decDigits m)).length
  · have h2 : n < m := hlt la b3 (fun h => by rw [b4 h]; rfl) h1
    rw [natC_lt h1, natC_lt h2]; simp
  · by_cases h2 : (bareL (decDigits m)).length < (bareL (decDigits n)).length
    · have h3 : m < n := hlt lb a3 (fun h => by rw [a4 h]; rfl) h2
      rw [natC_gt h2, natC_gt h3]; simp
    · have hl : (bareL (decDigits n)).length = (bareL (decDigits m)).length := by omega
      rw [hl, (natC_ord.eq _ _).2 rfl, strC_val _ _ a1 b1 hl, a2, b2]
      by_cases h3 : natC n m = 0
      · obtain rfl := (natC_ord.eq _ _).1 h3
        simp [(natC_ord.eq _ _).2 rfl]
      · simp [h3]

theorem lexC_pre {α : Type} {c : α → α → Int} (h : ∀ x, c x x = 0) : ∀ (p a b : List α), lexC c (p ++ a) (p ++ b) = lexC c a b
  | [], _, _ => rfl
  | x :: p, a, b => by simp only [List.cons_append, lexC, h x, if_true, lexC_pre h p a b]
theorem rowsL_refl (x : List UInt8) : rowsL x x = 0 := by rw [rowsL_key]; exact ((lexC_ord natC_ord).eq _ _).2 rfl

theorem toks_digits (d : List UInt8) (h : d.all dgB = true) (hne : d ≠ []) : toks d = [d] := by
  induction d with
  | nil => exact absurd rfl hne
  | cons c d ih =>
    rw [List.all_cons, Bool.and_eq_true] at h
    cases d with
    | nil => rfl
    | cons x d =>
      have h2 := ih h.2 (by simp)
      have hx : dgB x = true := by have := h.2; rw [List.all_cons, Bool.and_eq_true] at this; exact this.1
      unfold toks
      rw [h2]
      simp [h.1, hx]
theorem toks_dash (d : List UInt8) (h : d.all dgB = true) (hne : d ≠ []) : ∀ (b : List UInt8), toks (b ++ 45 :: d) = toks (b ++ [45]) ++ [d]
  | [] => by
    have hx : dgB (d.getD 0 0) = true := by
      cases d with
      | nil => exact absurd rfl hne
      | cons x d => rw [List.all_cons, Bool.and_eq_true] at h; exact h.1
    simp only [List.nil_append]
    conv => lhs; unfold toks
    rw [toks_digits d h hne]
    simp only [hx, dg45]
    rfl
  | c :: b => by
    have ih := toks_dash d h hne b
    simp only [List.cons_append]
    conv => lhs; unfold toks
    conv => rhs; unfold toks
    rw [ih]
    cases ht : toks (b ++ [45]) with
    | nil =>
      have := toks_flat (b ++ [45])
      rw [ht] at this
      simp at this
    | cons t ts =>
      simp only [List.cons_append]
      split <;> rfl

theorem cmp_numb (b : List UInt8) (n m : Nat) : cmpL (b ++ 45 :: decDigits n) (b ++ 45 :: decDigits m) = natC n m := by
  unfold cmpL
  rw [toks_dash _ (dec_all n) (dec_ne n), toks_dash _ (dec_all m) (dec_ne m), lexC_pre rowsL_refl]
  simp only [lexC, rows_dec]
  split
  · rename_i h; exact h.symm
  · rfl
end Go.Fl
