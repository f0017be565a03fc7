/-
  Labels laid over others: what both come to. No condition.
-/
import Derived.Test.YtggbiiicoabkmaaDoorSortP
import Derived.Test.YtggbiiicoabkmaaDoorOut
namespace Go.Fl
open Go.Proofs
set_option maxRecDepth 10000

theorem bl_eq : ∀ {a b : List UInt8}, Op.bytesLess a b = false → Op.bytesLess b a = false → a = b
  | [], [], _, _ => rfl
  | [], _ :: _, h, _ => by simp [Op.bytesLess] at h
  | _ :: _, [], _, h => by simp [Op.bytesLess] at h
  | a :: x, b :: y, h1, h2 => by
    simp only [Op.bytesLess, Bool.or_eq_false_iff, Bool.and_eq_false_iff, decide_eq_false_iff_not, beq_eq_false_iff_ne, ne_eq, UInt8.lt_iff_toNat_lt] at h1 h2
    have e : a = b := UInt8.toNat_inj.1 (by omega)
    subst e
    rw [bl_eq (h1.2.resolve_left (fun h => h rfl)) (h2.2.resolve_left (fun h => h rfl))]

theorem chk_zero {L : List Lab} (h : (chk L).1 = 0) : L.length ≤ 8 ∧ ∀ j, j < L.length → bad L j = 0 := by
  by_cases h8 : 8 < L.length
  · rw [chk_many h8] at h; simp at h
  · refine ⟨by omega, fun j hj => ?_⟩
    unfold chk at h
    rw [if_neg h8] at h
    split at h
    · rename_i hf
      have := List.find?_eq_none.1 hf j (by simpa using hj)
      simpa using this
    · rename_i i hf
      have h1 := List.find?_some hf
      simp only at h
      simp [h] at h1
/-- An earlier and a later one: other keys, in order. -/
def Str (a b : Lab) : Prop := tl a.1 ≠ tl b.1 ∧ ltL b a = false
theorem str_trans {x y z : Lab} (h1 : Str x y) (h2 : Str y z) : Str x z := by
  refine ⟨fun h => ?_, bl_trans h2.2 h1.2⟩
  have h3 : Op.bytesLess (tl x.1) (tl y.1) = false := by rw [h]; exact h2.2
  exact h1.1 (bl_eq h3 h1.2)
theorem pairwise_adj : ∀ (L : List Lab), (∀ j x y, L[j]? = some x → L[j + 1]? = some y → Str x y) → L.Pairwise Str
  | [], _ => List.Pairwise.nil
  | [x], _ => List.pairwise_singleton _ _
  | x :: y :: L, h => by
    have ih := pairwise_adj (y :: L) fun j a b ha hb => h (j + 1) a b (by simpa using ha) (by simpa using hb)
    have hxy := h 0 x y rfl rfl
    refine List.pairwise_cons.2 ⟨fun z hz => ?_, ih⟩
    rcases List.mem_cons.1 hz with rfl | hz
    · exact hxy
    · exact str_trans hxy ((List.pairwise_cons.1 ih).1 z hz)
theorem chk_strict {L : List Lab} (h : (chk L).1 = 0) : L.Pairwise Str ∧ ∀ x ∈ L, oneL x = true := by
  obtain ⟨h8, hb⟩ := chk_zero h
  constructor
  · refine pairwise_adj L fun j x y hx hy => ?_
    have hj := (List.getElem?_eq_some_iff.1 hy).1
    have h1 := hb (j + 1) hj
    have e1 : L.getD (j + 1) default = y := by rw [List.getD_eq_getElem?_getD, hy]; rfl
    have e2 : L.getD (j + 1 - 1) default = x := by rw [List.getD_eq_getElem?_getD, Nat.add_sub_cancel, hx]; rfl
    rw [bad_eq e1 e2] at h1
    split at h1
    · cases h1
    · split at h1
      · cases h1
      · split at h1
        · cases h1
        · rename_i h2 h3 h4
          refine ⟨fun h => h3 ⟨by omega, h.symm⟩, ?_⟩
          cases h5 : ltL y x
          · rfl
          · exact absurd ⟨by omega, h5⟩ h4
  · intro x hx
    obtain ⟨i, hi, rfl⟩ := List.mem_iff_getElem.1 hx
    have h1 := hb i hi
    have e1 : L.getD i default = L[i] := by rw [List.getD_eq_getElem?_getD, List.getElem?_eq_getElem hi]; rfl
    rw [bad_eq e1 rfl] at h1
    split at h1
    · cases h1
    · rename_i h2; simpa using h2

theorem getL_none {L : List Lab} {k : ByteArray} : getL L k = none ↔ ∀ x ∈ L, tl x.1 ≠ tl k := by
  unfold getL
  rw [List.find?_eq_none]
  simp
theorem sbad_zero {M : List Lab} {i : Nat} (h1 : ∀ x ∈ M, oneL x = true) (h2 : M.Pairwise fun a b => tl a.1 ≠ tl b.1) (hi : i < M.length) : sbad M i = 0 := by
  have e1 : M.getD i default = M[i] := by rw [List.getD_eq_getElem?_getD, List.getElem?_eq_getElem hi]; rfl
  have hg : getL (M.take i) M[i].1 = none := by
    rw [getL_none]
    intro x hx
    obtain ⟨j, hj, rfl⟩ := List.mem_iff_getElem.1 hx
    rw [List.length_take] at hj
    rw [List.getElem_take]
    exact List.pairwise_iff_getElem.1 h2 j i (by omega) hi (by omega)
  unfold sbad
  rw [e1, h1 _ (List.getElem_mem hi), hg]
  simp

/-- Those that are not among others. -/
def newL (A B : List Lab) : List Lab := A.filter fun x => (getL B x.1).isNone
def mergeE (A B : List Lab) : Int := if (chk A).1 ≠ 0 then (chk A).1 else if (chk B).1 ≠ 0 then (chk B).1 else if 8 < (B ++ newL A B).length then 5 else 0
def mergeL (A B : List Lab) : List Lab := if mergeE A B = 0 then (newL A B).foldl putL B else []
theorem foldl_ord : ∀ (B S : List Lab), Ordered (S ++ B) → B.foldl putL S = S ++ B
  | [], S, _ => by simp
  | b :: B, S, h => by
    obtain ⟨_, _, h3⟩ := List.pairwise_append.1 h
    rw [List.foldl_cons, putL_end fun y hy => h3 y hy b (by simp), foldl_ord B (S ++ [b]) (by rw [List.append_assoc]; exact h)]
    simp
theorem merge_sort {A B : List Lab} (hA : (chk A).1 = 0) (hB : (chk B).1 = 0) :
    schk (B ++ newL A B) = (if 8 < (B ++ newL A B).length then (5, -1) else (0, -1)) ∧ (B ++ newL A B).foldl putL [] = (newL A B).foldl putL B := by
  obtain ⟨pA, oA⟩ := chk_strict hA
  obtain ⟨pB, oB⟩ := chk_strict hB
  constructor
  · split
    · rename_i h; exact schk_many h
    · rename_i h
      refine schk_ok (by omega) fun j hj => sbad_zero ?_ ?_ hj
      · intro x hx
        rcases List.mem_append.1 hx with hx | hx
        · exact oB x hx
        · exact oA x (List.mem_filter.1 hx).1
      · refine List.pairwise_append.2 ⟨pB.imp fun h => h.1, (pA.filter _).imp fun h => h.1, fun x hx y hy => ?_⟩
        have := (List.mem_filter.1 hy).2
        rw [Option.isNone_iff_eq_none, getL_none] at this
        exact this x hx
  · rw [List.foldl_append, foldl_ord B [] (pB.imp fun h => h.2)]
    rfl

theorem LabAt.none' {w : World} {L : List Lab} (h : LabAt w none L) : L = [] := by
  cases L with
  | nil => rfl
  | cons x L => obtain ⟨b, off, h⟩ := h.is (by simp); cases h
theorem sort_out2 {L : List Lab} {a : Option Addr} {v : Go.Value} {bs : Hs} (h0 : a = none → L = []) (h : SortPost L a v bs) : ∃ u, v = .tuple #[u, errOf (schk L)] ∧ OutAt (if (schk L).1 = 0 then L.foldl putL [] else []) u bs := by
  rcases h with ⟨h1, rfl, rfl⟩ | ⟨h1, h2⟩
  · exact ⟨_, rfl, by rw [if_neg h1]; exact Or.inl ⟨rfl, rfl, rfl⟩⟩
  · have he : errOf (schk L) = .nilIface := by unfold errOf; rw [if_pos h1]
    rw [he, if_pos h1]
    have hl : (isortL L.length L 1).length = L.length := isortL_length _ _ _ _ rfl
    rcases h2 with ⟨ha, rfl, rfl⟩ | ⟨g, cap, spare, rfl, rfl, hg⟩
    · obtain rfl := h0 ha
      exact ⟨_, rfl, Or.inl ⟨rfl, rfl, rfl⟩⟩
    · refine ⟨_, rfl, ?_⟩
      rw [← isort_is]
      exact Or.inr ⟨g, cap, spare, by rw [hl], rfl, by rw [hl]; exact hg⟩
end Go.Fl
