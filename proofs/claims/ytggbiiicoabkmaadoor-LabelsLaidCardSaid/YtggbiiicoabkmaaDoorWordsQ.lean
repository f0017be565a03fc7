/-
  Digits and what they tell, as Lean functions on lists of bytes. No program in sight. No condition.
-/
import Derived.Test.YtggbiiicoabkmaaDoorWordsP
import Derived.Lib.ItoaNum
import Derived.Lib.AtoiAllCases
namespace Go.Fl
open Go.Proofs Go.Lib
set_option maxRecDepth 10000

theorem dgB_iff (c : UInt8) : dgB c = true ↔ 48 ≤ c.toNat ∧ c.toNat ≤ 57 := by
  unfold dgB digitI ci
  simp only [Bool.and_eq_true, decide_eq_true_eq]
  omega

def valF (acc : Nat) (d : List UInt8) : Nat := d.foldl (fun v c => v * 10 + (c.toNat - 48)) acc
def val (d : List UInt8) : Nat := valF 0 d
theorem valF_cons (acc : Nat) (c : UInt8) (d : List UInt8) : valF acc (c :: d) = valF (acc * 10 + (c.toNat - 48)) d := by simp only [valF, List.foldl_cons]
theorem valF_snoc (acc : Nat) (c : UInt8) (d : List UInt8) : valF acc (d ++ [c]) = valF acc d * 10 + (c.toNat - 48) := by simp [valF]
theorem valF_ge : ∀ (d : List UInt8) (acc : Nat), acc ≤ valF acc d
  | [], acc => Nat.le_refl _
  | c :: d, acc => by
    rw [valF_cons]
    exact Nat.le_trans (by omega) (valF_ge d _)
theorem valF_ge10 (c : UInt8) (d : List UInt8) (acc : Nat) : acc * 10 ≤ valF acc (c :: d) := by
  rw [valF_cons]; exact Nat.le_trans (by omega) (valF_ge d _)

/-- A numeral as it is written. -/
def canonL (d : List UInt8) : Bool := !d.isEmpty && d.all dgB && (decide (d.length = 1) || decide (d.getD 0 0 ≠ 48))

theorem chr_digit (k : Nat) (hk : k < 10) : (UInt8.ofNat (48 + k)).toNat = 48 + k := by simp; omega
theorem dec_all (n : Nat) : (decDigits n).all dgB = true := by
  induction n using Nat.strongRecOn with
  | _ n ih =>
    unfold decDigits
    split
    · rename_i h
      have := chr_digit n h
      simp only [List.all_cons, List.all_nil, Bool.and_true]
      rw [dgB_iff, this]; omega
    · rename_i h
      have := chr_digit (n % 10) (by omega)
      simp only [List.all_append, List.all_cons, List.all_nil, Bool.and_true, Bool.and_eq_true]
      refine ⟨ih (n / 10) (by omega), ?_⟩
      rw [dgB_iff, this]; omega
theorem dec_val (n : Nat) : val (decDigits n) = n := by
  induction n using Nat.strongRecOn with
  | _ n ih =>
    unfold decDigits
    split
    · rename_i h
      have := chr_digit n h
      simp only [val, valF, List.foldl_cons, List.foldl_nil]
      rw [this]; omega
    · rename_i h
      have := chr_digit (n % 10) (by omega)
      unfold val
      rw [valF_snoc, this]
      have h2 := ih (n / 10) (by omega)
      unfold val at h2
      rw [h2]; omega
theorem dec_ne (n : Nat) : decDigits n ≠ [] := by
  unfold decDigits; split <;> simp
theorem dec_head (n : Nat) (h0 : 0 < n) : (decDigits n).getD 0 0 ≠ 48 := by
  induction n using Nat.strongRecOn with
  | _ n ih =>
    unfold decDigits
    split
    · rename_i h
      intro he
      have h1 := congrArg UInt8.toNat he
      have := chr_digit n h
      simp only [List.getD_cons_zero] at h1
      rw [this] at h1
      simp at h1; omega
    · rename_i h
      have h2 := ih (n / 10) (by omega) (by omega)
      have hne := dec_ne (n / 10)
      cases hd : decDigits (n / 10) with
      | nil => exact absurd hd hne
      | cons x l => rw [hd] at h2; simpa using h2
theorem dec_canon (n : Nat) : canonL (decDigits n) = true := by
  unfold canonL
  rw [dec_all]
  have hne := dec_ne n
  have h1 : (decDigits n).isEmpty = false := by cases h : decDigits n <;> simp_all
  rw [h1]
  by_cases h0 : 0 < n
  · have := dec_head n h0; simp_all
  · obtain rfl : n = 0 := by omega
    simp [decDigits]

/-- A list, from its end. -/
theorem snoc_ind {α : Type} {p : List α → Prop} (h0 : p []) (h1 : ∀ l x, p l → p (l ++ [x])) (l : List α) : p l := by
  have : ∀ r : List α, p r.reverse := by
    intro r
    induction r with
    | nil => exact h0
    | cons x r ih => rw [List.reverse_cons]; exact h1 _ _ ih
  have h := this l.reverse
  rwa [List.reverse_reverse] at h

theorem lead_dec : ∀ d : List UInt8, d ≠ [] → d.all dgB = true → d.getD 0 0 ≠ 48 → 1 ≤ val d ∧ decDigits (val d) = d ∧ 10 ^ (d.length - 1) ≤ val d := by
  intro d
  induction d using snoc_ind with
  | h0 => intro h; exact absurd rfl h
  | h1 d c ih =>
    intro _ hall hhead
    rw [List.all_append, Bool.and_eq_true] at hall
    have hc : dgB c = true := by simpa using hall.2
    have hc' := (dgB_iff c).1 hc
    cases d with
    | nil =>
      have hne : c ≠ 48 := by simpa using hhead
      have hne' : c.toNat ≠ 48 := fun h => hne (UInt8.toNat_inj.1 (by rw [h]; rfl))
      have hv : val [c] = c.toNat - 48 := by simp [val, valF]
      simp only [List.nil_append]
      rw [hv]
      refine ⟨by omega, ?_, by simp; omega⟩
      unfold decDigits
      rw [dif_pos (by omega)]
      congr 1
      rw [← UInt8.toNat_inj, chr_digit _ (by omega)]; omega
    | cons x l =>
      obtain ⟨h1, h2, h3⟩ := ih (by simp) hall.1 (by simpa using hhead)
      have hv : val (x :: l ++ [c]) = val (x :: l) * 10 + (c.toNat - 48) := valF_snoc 0 c (x :: l)
      rw [hv]
      refine ⟨by omega, ?_, ?_⟩
      · unfold decDigits
        rw [dif_neg (by omega), show (val (x :: l) * 10 + (c.toNat - 48)) / 10 = val (x :: l) by omega, show (val (x :: l) * 10 + (c.toNat - 48)) % 10 = c.toNat - 48 by omega, h2]
        congr 2
        rw [← UInt8.toNat_inj, chr_digit _ (by omega)]; omega
      · simp only [List.length_append, List.length_cons, List.length_nil, Nat.add_sub_cancel, Nat.zero_add] at h3 ⊢
        rw [Nat.pow_succ]
        omega

theorem canon_dec {d : List UInt8} (h : canonL d = true) : decDigits (val d) = d := by
  unfold canonL at h
  simp only [Bool.and_eq_true, Bool.not_eq_true', Bool.or_eq_true, decide_eq_true_eq] at h
  obtain ⟨⟨h1, h2⟩, h3⟩ := h
  have hne : d ≠ [] := by rintro rfl; simp at h1
  by_cases h0 : d.getD 0 0 ≠ 48
  · exact (lead_dec d hne h2 h0).2.1
  · have hl : d.length = 1 := by rcases h3 with h3 | h3; exact h3; exact absurd h3 h0
    obtain ⟨c, rfl⟩ : ∃ c, d = [c] := by
      match d, hl with
      | [c], _ => exact ⟨c, rfl⟩
    have hc : c = 48 := by simpa using h0
    subst hc
    simp [val, valF, decDigits]
theorem canon_len {d : List UInt8} (h : canonL d = true) (hv : val d < 9223372036854775808) : d.length ≤ 19 := by
  have hh := h
  unfold canonL at h
  simp only [Bool.and_eq_true, Bool.not_eq_true', Bool.or_eq_true, decide_eq_true_eq] at h
  obtain ⟨⟨h1, h2⟩, h3⟩ := h
  have hne : d ≠ [] := by rintro rfl; simp at h1
  rcases h3 with h3 | h3
  · omega
  · have h4 := (lead_dec d hne h2 h3).2.2
    rcases Nat.lt_or_ge 19 d.length with h5 | h5
    · have h6 : 10 ^ 19 ≤ 10 ^ (d.length - 1) := Nat.pow_le_pow_right (by decide) (by omega)
      have h7 : (9223372036854775808 : Nat) ≤ 10 ^ 19 := by decide
      omega
    · exact h5
theorem canon_iff {d : List UInt8} (hall : d.all dgB = true) : decDigits (val d) = d ↔ canonL d = true :=
  ⟨fun h => by rw [← h]; exact dec_canon _, canon_dec⟩

/-- What a numeral tells. -/
def numOf (d : List UInt8) : Option Nat := if canonL d = true ∧ val d < 9223372036854775808 then some (val d) else none

theorem parse_digits : ∀ (d : List UInt8) (acc : Nat), d.all dgB = true → acc < 18446744073709551616 → parseUint10 acc d = if valF acc d < 18446744073709551616 then .ok (valF acc d) else .range
  | [], acc, _, ha => by simp [parseUint10, valF, ha]
  | c :: d, acc, h, ha => by
    rw [List.all_cons, Bool.and_eq_true] at h
    have hc := (dgB_iff c).1 h.1
    have h10 := valF_ge10 c d acc
    have hge : acc * 10 + (c.toNat - 48) ≤ valF acc (c :: d) := by rw [valF_cons]; exact valF_ge _ _
    unfold parseUint10
    rw [if_pos hc]
    split
    · rw [if_neg (by omega)]
    · split
      · rw [if_neg (by omega)]
      · rw [parse_digits d _ h.2 (by omega), valF_cons]

theorem atoi_digits {d : List UInt8} (hall : d.all dgB = true) : atoiAll d = if d = [] then atoiAll [] else if val d < 9223372036854775808 then .ok (val d : Int) else .range := by
  cases d with
  | nil => rfl
  | cons c r =>
    have hc : dgB c = true := by rw [List.all_cons, Bool.and_eq_true] at hall; exact hall.1
    have hc' := (dgB_iff c).1 hc
    rw [atoiAll_plain c r (by omega) (by omega)]
    rw [if_neg (by simp)]
    unfold parseMag
    rw [if_neg (by simp), parse_digits _ 0 hall (by decide)]
    unfold val
    by_cases h1 : valF 0 (c :: r) < 9223372036854775808
    · rw [if_pos (by omega), if_pos h1]
      simp [signless]; omega
    · rw [if_neg h1]
      split
      · simp [signless]; omega
      · rfl

/-- Where a '-' stands last. -/
def dashAt : List UInt8 → Option Nat
  | [] => none
  | c :: l => match dashAt l with
    | some i => some (i + 1)
    | none => if c = 45 then some 0 else none

/-- A name with a number. -/
def numbL (base : List UInt8) (n : Int) : List UInt8 × Int :=
  if nameL base = false then ([], 8) else if n < 0 then ([], 1)
  else if nameL (base ++ 45 :: decDigits n.toNat) = false then ([], 8) else (base ++ 45 :: decDigits n.toNat, 0)
/-- ..and taken apart. -/
def splitL (s : List UInt8) : Option (List UInt8 × Nat) :=
  match dashAt s with
  | none => none
  | some at_ => if nameL (s.take at_) = false then none else match numOf (s.drop (at_ + 1)) with
    | none => none
    | some n => some (s.take at_, n)
end Go.Fl
