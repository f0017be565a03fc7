/-
  Labels as text: what is printed is read back, and the other way round. No condition.
-/
import Derived.Test.YtggbiiicoabkmaaDoorParse
namespace Go.Fl
open Go.Proofs Go.RowKit
set_option maxRecDepth 10000

theorem pieceL_app : ∀ (p r : List UInt8), (∀ c ∈ p, c ≠ 44) → pieceL (p ++ 44 :: r) = p :: pieceL r
  | [], r, _ => rfl
  | c :: p, r, h => by
    have ih := pieceL_app p r (fun d hd => h d (List.mem_cons_of_mem _ hd))
    have hc := h c List.mem_cons_self
    show (if c = 44 then [] :: pieceL (p ++ 44 :: r) else match pieceL (p ++ 44 :: r) with | [] => [[c]] | q :: qs => (c :: q) :: qs) = _
    rw [if_neg hc, ih]
theorem pieceL_no : ∀ (p : List UInt8), (∀ c ∈ p, c ≠ 44) → pieceL p = [p]
  | [], _ => rfl
  | c :: p, h => by
    have ih := pieceL_no p (fun d hd => h d (List.mem_cons_of_mem _ hd))
    have hc := h c List.mem_cons_self
    show (if c = 44 then [] :: pieceL p else match pieceL p with | [] => [[c]] | q :: qs => (c :: q) :: qs) = _
    rw [if_neg hc, ih]
theorem join2 (p q : List UInt8) (ps : List (List UInt8)) : Lib.join (p :: q :: ps) [44] = p ++ 44 :: Lib.join (q :: ps) [44] := by
  simp [Lib.join_cons, Lib.joinTail]
theorem piece_join : ∀ (ps : List (List UInt8)) (p : List UInt8), (∀ q ∈ p :: ps, ∀ c ∈ q, c ≠ 44) → pieceL (Lib.join (p :: ps) [44]) = p :: ps
  | [], p, h => by rw [Lib.join_one]; exact pieceL_no p (h p List.mem_cons_self)
  | q :: ps, p, h => by
    rw [join2, pieceL_app _ _ (h p List.mem_cons_self), piece_join ps q (fun r hr => h r (List.mem_cons_of_mem _ hr))]
theorem join_piece : ∀ l : List UInt8, Lib.join (pieceL l) [44] = l
  | [] => rfl
  | c :: l => by
    have ih := join_piece l
    have hne := pieceL_ne l
    show Lib.join (if c = 44 then [] :: pieceL l else match pieceL l with | [] => [[c]] | q :: qs => (c :: q) :: qs) [44] = _
    cases hp : pieceL l with
    | nil => exact absurd hp hne
    | cons q qs =>
      rw [hp] at ih
      by_cases hc : c = 44
      · rw [if_pos hc, join2, ih, hc]; rfl
      · rw [if_neg hc]
        show Lib.join ((c :: q) :: qs) [44] = _
        rw [← ih]
        cases qs with
        | nil => simp [Lib.join_one]
        | cons r rs => rw [join2, join2]; rfl
theorem firstAt_app : ∀ (p r : List UInt8) (d : UInt8), (∀ c ∈ p, c ≠ d) → firstAt (p ++ d :: r) d = some p.length
  | [], r, d, _ => by show firstAt (d :: r) d = _; unfold firstAt; simp
  | c :: p, r, d, h => by
    have ih := firstAt_app p r d (fun e he => h e (List.mem_cons_of_mem _ he))
    show (if c = d then some 0 else (firstAt (p ++ d :: r) d).map (· + 1)) = _
    rw [if_neg (h c List.mem_cons_self), ih]; rfl
theorem firstAt_split : ∀ (l : List UInt8) (d : UInt8) (i : Nat), firstAt l d = some i → l = l.take i ++ d :: l.drop (i + 1)
  | [], d, i, h => by simp [firstAt] at h
  | b :: l, d, i, h => by
    unfold firstAt at h
    by_cases hb : b = d
    · rw [if_pos hb] at h; cases h; simp [hb]
    · rw [if_neg hb, Option.map_eq_some_iff] at h
      obtain ⟨j, hj, rfl⟩ := h
      have := firstAt_split l d j hj
      simp only [List.take_succ_cons, List.drop_succ_cons, List.cons_append]
      rw [← this]

theorem tl_pieceB (x : Lab) : tl (pieceB x) = tl x.1 ++ 61 :: tl x.2 := by
  unfold pieceB; rw [tl_app, tl_app]; simp [tl_mk]
theorem ba_ext {a b : ByteArray} (h : tl a = tl b) : a = b := by
  cases a; cases b
  congr 1
  exact Array.toList_inj.1 h
theorem labB_piece {x : Lab} (h : ∀ c ∈ tl x.1, c ≠ 61) : labB (pieceB x) = some x := by
  unfold labB
  rw [tl_pieceB, firstAt_app _ _ _ h]
  have h1 : (pieceB x).extract 0 (tl x.1).length = x.1 := by
    apply ba_ext
    rw [tl_to, tl_pieceB]; simp
  have h2 : (pieceB x).extract ((tl x.1).length + 1) (pieceB x).size = x.2 := by
    apply ba_ext
    rw [tl_from, tl_pieceB]; simp
  show some ((pieceB x).extract 0 (tl x.1).length, (pieceB x).extract ((tl x.1).length + 1) (pieceB x).size) = some x
  rw [h1, h2]
theorem piece_labB {b : ByteArray} {x : Lab} (h : labB b = some x) : pieceB x = b := by
  unfold labB at h
  cases hf : firstAt (tl b) 61 with
  | none => rw [hf] at h; cases h
  | some i =>
    rw [hf] at h
    cases h
    apply ba_ext
    rw [tl_pieceB]
    simp only [tl_to, tl_from]
    exact (firstAt_split _ _ _ hf).symm

/-- The bytes of a word. -/
theorem made_not {l o : List UInt8} {d : UInt8} (h : madeL l o = true) (hd : goodB o d = false) : ∀ c ∈ l, c ≠ d := by
  intro c hc he
  subst he
  unfold madeL at h
  simp only [Bool.and_eq_true, List.all_eq_true] at h
  rw [h.2 c hc] at hd; cases hd
theorem key_not {x : Lab} {d : UInt8} (h : oneL x = true) (hd : goodB [46, 45, 47] d = false) : ∀ c ∈ tl x.1, c ≠ d := by
  unfold oneL keyL at h
  simp only [Bool.and_eq_true] at h
  exact made_not h.1.2 hd
theorem value_not {x : Lab} {d : UInt8} (h : oneL x = true) (hd : goodB [45, 95, 46] d = false) : ∀ c ∈ tl x.2, c ≠ d := by
  unfold oneL valueL at h
  simp only [Bool.and_eq_true] at h
  exact made_not h.2 hd
theorem chk_one {L : List Lab} (h : (chk L).1 = 0) {x : Lab} (hx : x ∈ L) : oneL x = true := by
  obtain ⟨i, hi, he⟩ := List.mem_iff_getElem.1 hx
  have := bad_one (chk_all h i hi)
  rw [List.getD_eq_getElem?_getD, List.getElem?_eq_getElem hi, he] at this
  exact this
theorem labsL_map : ∀ (L : List Lab), (∀ x ∈ L, oneL x = true) → labsL (L.map fun x => tl (pieceB x)) = some L
  | [], _ => rfl
  | x :: L, h => by
    have ih := labsL_map L (fun y hy => h y (List.mem_cons_of_mem _ hy))
    show (match labB ⟨(tl (pieceB x)).toArray⟩, labsL (L.map fun x => tl (pieceB x)) with | some x, some L => some (x :: L) | _, _ => none) = _
    rw [ih, show (⟨(tl (pieceB x)).toArray⟩ : ByteArray) = pieceB x from ba_ext (by simp [tl]), labB_piece (key_not (h x List.mem_cons_self) (by decide))]
theorem print_not {L : List Lab} (h : (chk L).1 = 0) : ∀ q ∈ L.map (fun x => tl (pieceB x)), ∀ c ∈ q, c ≠ 44 := by
  intro q hq c hc
  obtain ⟨x, hx, rfl⟩ := List.mem_map.1 hq
  have h1 := chk_one h hx
  rw [tl_pieceB] at hc
  rcases List.mem_append.1 hc with hc | hc
  · exact key_not h1 (by decide) c hc
  · rcases List.mem_cons.1 hc with rfl | hc
    · decide
    · exact value_not h1 (by decide) c hc
/-- WHAT IS PRINTED is read back. -/
theorem parse_print {L : List Lab} (h : (chk L).1 = 0) : parseE (printL L) = 0 ∧ parseL (printL L) = L := by
  have h8 := chk_len h
  cases L with
  | nil => exact ⟨rfl, rfl⟩
  | cons x L =>
    have hp : pieceL (printL (x :: L)) = (x :: L).map fun x => tl (pieceB x) := piece_join _ _ (print_not h)
    have hne : printL (x :: L) ≠ [] := by
      unfold printL
      rw [List.map_cons, Lib.join_cons, tl_pieceB]
      simp
    exact parseE_ok hne (by rw [hp]; exact labsL_map _ (fun y hy => chk_one h hy)) (by omega) h
theorem map_labsL : ∀ (ps : List (List UInt8)) (L : List Lab), labsL ps = some L → (L.map fun x => tl (pieceB x)) = ps
  | [], L, h => by cases h; rfl
  | p :: ps, L, h => by
    have h' : (match labB ⟨p.toArray⟩, labsL ps with | some x, some L => some (x :: L) | _, _ => none) = some L := h
    cases hb : labB ⟨p.toArray⟩ with
    | none => rw [hb] at h'; cases h'
    | some x =>
      cases hl : labsL ps with
      | none => rw [hb, hl] at h'; cases h'
      | some M =>
        rw [hb, hl] at h'
        cases h'
        rw [List.map_cons, map_labsL ps M hl, piece_labB hb]
        simp [tl]
/-- WHAT IS READ is printed back. -/
theorem print_parse {l : List UInt8} (h : parseE l = 0) : (chk (parseL l)).1 = 0 ∧ printL (parseL l) = l := by
  unfold parseE at h
  unfold parseL
  by_cases hn : l = []
  · subst hn; exact ⟨rfl, rfl⟩
  · rw [if_neg hn] at h ⊢
    cases hl : labsL (pieceL l) with
    | none => rw [hl] at h; simp at h
    | some L =>
      rw [hl] at h
      simp only at h ⊢
      by_cases h8 : 8 < L.length
      · rw [if_pos h8] at h; simp at h
      · rw [if_neg h8] at h ⊢
        by_cases hc : (chk L).1 = 0
        · rw [if_pos hc]
          refine ⟨hc, ?_⟩
          unfold printL
          rw [map_labsL _ _ hl, join_piece]
        · rw [if_neg hc] at h; simp at h
theorem parse_err {l : List UInt8} (h : parseE l ≠ 0) : parseL l = [] := by
  unfold parseE at h
  unfold parseL
  by_cases hn : l = []
  · rw [if_pos hn]
  · rw [if_neg hn] at h ⊢
    cases hl : labsL (pieceL l) with
    | none => rfl
    | some L =>
      rw [hl] at h
      simp only at h ⊢
      by_cases h8 : 8 < L.length
      · rw [if_pos h8]
      · rw [if_neg h8] at h ⊢
        by_cases hc : (chk L).1 = 0
        · rw [if_pos hc] at h; exact absurd rfl h
        · rw [if_neg hc]
end Go.Fl
