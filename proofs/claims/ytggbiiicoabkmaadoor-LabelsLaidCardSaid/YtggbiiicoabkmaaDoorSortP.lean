/-
  Labels in order: the library's way and the document's come to the same. No condition.
-/
import Derived.Test.YtggbiiicoabkmaaDoorLabF
import Derived.Test.YtggbiiicoabkmaaDoorLabH
namespace Go.Fl
open Go.Proofs
set_option maxRecDepth 10000

theorem bl_trans : ∀ {a b c : List UInt8}, Op.bytesLess a b = false → Op.bytesLess b c = false → Op.bytesLess a c = false
  | _, _, [], _, _ => by simp [Op.bytesLess]
  | [], [], _ :: _, _, h => by simp [Op.bytesLess] at h
  | [], _ :: _, _ :: _, h, _ => by simp [Op.bytesLess] at h
  | _ :: _, [], _ :: _, _, h => by simp [Op.bytesLess] at h
  | a :: x, b :: y, c :: z, h1, h2 => by
    simp only [Op.bytesLess, Bool.or_eq_false_iff, Bool.and_eq_false_iff, decide_eq_false_iff_not, beq_eq_false_iff_ne, ne_eq] at h1 h2 ⊢
    have key : ∀ p q : UInt8, ¬ p < q ↔ q.toNat ≤ p.toNat := fun p q => by rw [UInt8.lt_iff_toNat_lt]; omega
    have keq : ∀ p q : UInt8, p = q ↔ p.toNat = q.toNat := fun p q => ⟨fun h => by rw [h], UInt8.toNat_inj.1⟩
    rw [key] at h1 h2 ⊢
    simp only [keq] at h1 h2 ⊢
    refine ⟨by omega, ?_⟩
    by_cases e : a.toNat = c.toNat
    · right
      exact bl_trans (h1.2.resolve_left (by omega)) (h2.2.resolve_left (by omega))
    · exact Or.inl e
theorem bl_irr : ∀ a : List UInt8, Op.bytesLess a a = false
  | [] => by simp [Op.bytesLess]
  | a :: x => by
    have : ¬ a < a := by rw [UInt8.lt_iff_toNat_lt]; omega
    simp [Op.bytesLess, bl_irr x, this]
theorem bl_asymm {a b : List UInt8} (h : Op.bytesLess a b = true) : Op.bytesLess b a = false := by
  cases hb : Op.bytesLess b a
  · rfl
  · exfalso
    have : ∀ {a b : List UInt8}, Op.bytesLess a b = true → Op.bytesLess b a = true → False := by
      intro a
      induction a with
      | nil => intro b h1 h2; simp [Op.bytesLess] at h2
      | cons x a ih =>
        intro b h1 h2
        cases b with
        | nil => simp [Op.bytesLess] at h1
        | cons y b =>
          simp only [Op.bytesLess, Bool.or_eq_true, Bool.and_eq_true, decide_eq_true_eq, beq_iff_eq, UInt8.lt_iff_toNat_lt] at h1 h2
          rcases h1 with h1 | ⟨rfl, h1⟩
          · rcases h2 with h2 | ⟨rfl, _⟩
            · omega
            · omega
          · rcases h2 with h2 | ⟨_, h2⟩
            · omega
            · exact ih h1 h2
    exact this h hb

/-- No later one is less than an earlier one. -/
def Ordered (S : List Lab) : Prop := S.Pairwise fun a b => ltL b a = false
theorem putL_mem {S : List Lab} {x y : Lab} : y ∈ putL S x ↔ y = x ∨ y ∈ S := by
  induction S with
  | nil => simp [putL]
  | cons z S ih =>
    unfold putL
    split
    · simp
    · rw [List.mem_cons, ih, List.mem_cons]
      constructor
      · rintro (h | h | h)
        · exact Or.inr (Or.inl h)
        · exact Or.inl h
        · exact Or.inr (Or.inr h)
      · rintro (h | h | h)
        · exact Or.inr (Or.inl h)
        · exact Or.inl h
        · exact Or.inr (Or.inr h)
theorem ordered_put {S : List Lab} (x : Lab) (h : Ordered S) : Ordered (putL S x) := by
  induction S with
  | nil => exact List.pairwise_singleton _ _
  | cons y S ih =>
    obtain ⟨h1, h2⟩ := List.pairwise_cons.1 h
    unfold putL
    split
    · rename_i hlt
      have hyx : ltL y x = false := bl_asymm hlt
      refine List.pairwise_cons.2 ⟨fun z hz => ?_, h⟩
      rcases List.mem_cons.1 hz with rfl | hz
      · exact hyx
      · exact bl_trans (h1 z hz) hyx
    · rename_i hlt
      refine List.pairwise_cons.2 ⟨fun z hz => ?_, ih h2⟩
      rcases putL_mem.1 hz with rfl | hz
      · exact by simpa using hlt
      · exact h1 z hz
theorem putL_end {S : List Lab} {x : Lab} (h : ∀ y ∈ S, ltL x y = false) : putL S x = S ++ [x] := by
  induction S with
  | nil => rfl
  | cons y S ih =>
    unfold putL
    rw [if_neg (by rw [h y (by simp)]; decide), ih fun z hz => h z (by simp [hz])]; rfl
theorem putL_snoc {S : List Lab} {x y : Lab} (h : ltL x y = true) : putL (S ++ [y]) x = putL S x ++ [y] := by
  induction S with
  | nil => simp [putL, h]
  | cons z S ih =>
    simp only [List.cons_append, putL]
    split
    · rfl
    · rw [ih]; rfl

theorem sink_put : ∀ (n : Nat) (S R : List Lab) (x : Lab), S.length = n → Ordered S → sinkL (S ++ x :: R) n = putL S x ++ R := by
  intro n
  induction n with
  | zero => intro S R x hS _; obtain rfl := List.length_eq_zero_iff.1 hS; rfl
  | succ n ih =>
    intro S R x hS hO
    obtain ⟨S', y, rfl⟩ : ∃ S' y, S = S' ++ [y] := ⟨S.dropLast, S.getLast (by rintro rfl; simp at hS), (List.dropLast_concat_getLast _).symm⟩
    have hn : S'.length = n := by simpa using hS
    have hx : (S' ++ [y] ++ x :: R).getD (n + 1) default = x := by
      rw [List.getD_eq_getElem?_getD, List.getElem?_append_right (by simp; omega)]
      simp [hn]
    have hy : (S' ++ [y] ++ x :: R).getD n default = y := by
      rw [List.getD_eq_getElem?_getD, List.getElem?_append_left (by simp; omega), List.getElem?_append_right (by omega)]
      simp [hn]
    rw [sinkL, hx, hy]
    obtain ⟨hO1, _, hO2⟩ := List.pairwise_append.1 hO
    cases hlt : ltL x y
    · rw [if_neg (by decide), putL_end]
      · simp
      · intro z hz
        rcases List.mem_append.1 hz with hz | hz
        · exact bl_trans hlt (hO2 z hz y (by simp))
        · rw [List.mem_singleton.1 hz]; exact hlt
    · rw [if_pos rfl, putL_snoc hlt]
      have hsw : swapL (S' ++ [y] ++ x :: R) (n + 1) = S' ++ x :: (y :: R) := by
        unfold swapL
        rw [show n + 1 - 1 = n by omega, hx, hy]
        rw [List.set_append_right _ _ (by simp; omega)]
        simp only [List.length_append, List.length_cons, List.length_nil, hn, Nat.zero_add, Nat.sub_self, List.set_cons_zero, List.append_assoc, List.singleton_append]
        rw [List.set_append_right _ _ (by omega), hn]
        simp
      rw [hsw, ih S' (y :: R) x hn hO1]
      simp
theorem putL_len (M : List Lab) (x : Lab) : (putL M x).length = M.length + 1 := by
  induction M with
  | nil => rfl
  | cons y M ih => unfold putL; split <;> simp [ih]
theorem foldl_putL_len : ∀ (L M : List Lab), (L.foldl putL M).length = M.length + L.length
  | [], M => rfl
  | x :: L, M => by rw [List.foldl_cons, foldl_putL_len L, putL_len, List.length_cons]; omega
theorem isort_put (L : List Lab) : ∀ (m i : Nat), L.length - i = m → i ≤ L.length → isortL L.length ((L.take i).foldl putL [] ++ L.drop i) i = L.foldl putL [] ∧ Ordered ((L.take i).foldl putL []) := by
  have hO : ∀ i, Ordered ((L.take i).foldl putL []) := by
    intro i
    induction i with
    | zero => exact List.Pairwise.nil
    | succ i ih =>
      rw [List.take_add_one, List.foldl_append]
      cases L[i]? with
      | none => exact ih
      | some x => exact ordered_put x ih
  intro m
  induction m with
  | zero =>
    intro i h hi
    obtain rfl : i = L.length := by omega
    refine ⟨?_, hO _⟩
    rw [isort_end _ (by omega)]
    simp
  | succ m ih =>
    intro i h hi
    refine ⟨?_, hO _⟩
    have hlt : i < L.length := by omega
    rw [isort_step _ hlt, List.drop_eq_getElem_cons hlt]
    have hl : ((L.take i).foldl putL []).length = i := by rw [foldl_putL_len]; simp; omega
    rw [sink_put i _ _ _ hl (hO i)]
    have := (ih (i + 1) (by omega) (by omega)).1
    rw [List.take_add_one, List.foldl_append, List.getElem?_eq_getElem hlt] at this
    exact this
theorem isort_is (L : List Lab) : isortL L.length L 1 = L.foldl putL [] := by
  cases L with
  | nil => rw [isort_end _ (by simp)]; rfl
  | cons x L =>
    have := (isort_put (x :: L) _ 1 rfl (by simp)).1
    simpa [putL] using this
end Go.Fl
