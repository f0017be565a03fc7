/-
  Labels as an argument: what the row's reading says of the slice and of its cells; what start-up laid. No condition.
-/
import Derived.Test.YtggbiiicoabkmaaDoorLabB
import Derived.Test.YtggbiiicoabkmaaDoorLaidH
import Derived.Test.YtggbiiicoabkmaaDoorRows
import Derived.Test.YtggbiiicoabkmaaDoorLaw
import Derived.Deep.Slices
import Derived.Deep.Fields
import Derived.ChangeSame
import Derived.LaidLaws
import Derived.LaidHandle
import Derived.Stop.Joined
namespace Go.Fl
open Go.Proofs Go.Proofs.YtggbiiicoabkmaaDoor Go.ChangeShapes Go.WideShapes Go.Deep Go.RowKit
set_option maxRecDepth 10000

theorem reads_of_cells {w : World} : ∀ (L : List Lab) (b off : Nat), (∀ i x, L[i]? = some x → w.cell? ⟨b, off + i * 2, none⟩ = some (.string x.1) ∧ w.cell? ⟨b, off + i * 2 + 1, none⟩ = some (.string x.2)) → Reads w ⟨b, off, none⟩ (cellsL L) := by
  intro L
  induction L with
  | nil => intro b off _; trivial
  | cons x L ih =>
    intro b off h
    have h0 := h 0 x rfl
    refine ⟨by simpa using h0.1, ?_, ?_⟩
    · rw [add_none]; simpa using h0.2
    · rw [add_none, add_none]
      refine ih b (off + 1 + 1) fun i y hy => ?_
      have := h (i + 1) y hy
      rw [show off + (i + 1) * 2 = off + 1 + 1 + i * 2 by omega] at this
      exact this

theorem open_labels {H : Type} {enc : TypeId × Go.Value → H} {W : World} {b0 base : Nat} {v : Go.Value} {d : DataW H} {ps : List MemPlace} {sp : Nat → Bool} {held : Bool} {r : Reach}
    (hv : Go.Value.okWide Tryd.prog W r b0 22 v) (h : DataW.Trod enc Tryd.prog W base sp held 22 v d ps) :
    ∃ (a : Option Addr) (L : List Lab) (c : Nat), v = .slice a L.length c ∧ LabAt W a L := by
  obtain ⟨a, len, cap, rfl⟩ := okWide_slice Tryd.underlying22 hv
  obtain ⟨fuel, hf⟩ := h
  rcases open_slice Tryd.underlying22 hf with ⟨h1, _⟩ | ⟨a', len', cap', m, n, D, Pl, h1, _, hl, _, hm, _, hi⟩
  · have h2 : Go.Value.slice a len cap = .slice none 0 0 := by simpa [Go.Value.cells] using h1
    cases h2
    exact ⟨none, [], 0, rfl, ⟨fun b off h => (by cases h), fun h => absurd rfl h⟩⟩
  · have h2 : Go.Value.slice a len cap = .slice (some a') len' cap' := by simpa [Go.Value.cells] using h1
    cases h2
    have hC : Tryd.prog.cellsOf 62 = 2 := by kernel_rfl
    have hmge : len ≤ m := by rw [hm]; split <;> omega
    have each : ∀ i, i < len → ∃ x : Lab, W.cell? (a'.add (i * 2)) = some (.string x.1) ∧ W.cell? ((a'.add (i * 2)).add 1) = some (.string x.2) := by
      intro i hilt
      obtain ⟨cs', hc, ht'⟩ := hi i (by omega)
      rw [hC] at hc
      obtain ⟨ys, n', hn', hy, hlen, hyl, hfl⟩ := DataW.trod_struct Tryd.underlying62 ht'
      obtain ⟨_, hcl, hat⟩ := World.cells?_some hc
      obtain ⟨c0, c1, rfl⟩ : ∃ c0 c1, cs' = [c0, c1] := by
        match cs', hcl with
        | [c0, c1], _ => exact ⟨c0, c1, rfl⟩
      have hy0 : DataW.trod enc Tryd.prog W base sp held n' 9 (([c0, c1].drop 0).take (Tryd.prog.cellsOf 9)) = ys[0]? := hfl 0 _ rfl
      have hy1 : DataW.trod enc Tryd.prog W base sp held n' 9 (([c0, c1].drop 1).take (Tryd.prog.cellsOf 9)) = ys[1]? := hfl 1 _ rfl
      have h9 : Tryd.prog.cellsOf 9 = 1 := by kernel_rfl
      rw [h9] at hy0 hy1
      simp at hyl
      obtain ⟨y0, hy0'⟩ : ∃ y0, ys[0]? = some y0 := ⟨_, List.getElem?_eq_getElem (by rw [hyl]; decide)⟩
      obtain ⟨y1, hy1'⟩ : ∃ y1, ys[1]? = some y1 := ⟨_, List.getElem?_eq_getElem (by rw [hyl]; decide)⟩
      rw [hy0'] at hy0
      rw [hy1'] at hy1
      obtain ⟨s0, e0, _, _⟩ := DataW.trod_string Tryd.underlying9 hy0
      obtain ⟨s1, e1, _, _⟩ := DataW.trod_string Tryd.underlying9 hy1
      simp at e0 e1
      have a0 := hat 0 (by decide)
      have a1 := hat 1 (by decide)
      simp only [List.getElem?_cons_zero, List.getElem?_cons_succ] at a0 a1
      refine ⟨(s0, s1), ?_, ?_⟩
      · rw [← e0, ← a0]; rfl
      · rw [← e1, ← a1]
    let L : List Lab := (List.range len).map fun i => if h : i < len then (each i h).choose else default
    have hLlen : L.length = len := by simp [L]
    have hLget : ∀ i x, L[i]? = some x → ∃ h : i < len, x = (each i h).choose := by
      intro i x hx
      simp only [L, List.getElem?_map] at hx
      by_cases hi : i < len
      · simp [hi] at hx; exact ⟨hi, hx.symm⟩
      · simp [hi] at hx
    refine ⟨some a', L, cap, by rw [hLlen], ⟨?_, ?_⟩⟩
    · intro b off ha
      cases ha
      refine reads_of_cells L b off fun i x hx => ?_
      obtain ⟨hilt, rfl⟩ := hLget i x hx
      have key : ∀ A : Addr, A = (Addr.add ⟨b, off, none⟩ (i * 2)) → W.cell? A = some (.string (each i hilt).choose.1) ∧ W.cell? (A.add 1) = some (.string (each i hilt).choose.2) := by
        rintro _ rfl; exact (each i hilt).choose_spec
      have h2 := key ⟨b, off + i * 2, none⟩ (add_none b off (i * 2)).symm
      exact ⟨h2.1, (congrArg W.cell? (add_none b (off + i * 2) 1)).symm.trans h2.2⟩
    · intro hne
      have h0 : 0 < len := by rw [← hLlen]; exact List.length_pos_iff.2 hne
      obtain ⟨x, hx, _⟩ := each 0 h0
      obtain ⟨bk, of, sp'⟩ := a'
      refine ⟨bk, of, ?_⟩
      cases sp' with
      | none => rfl
      | some k =>
        simp [Addr.add, World.cell?] at hx
        split at hx <;> simp at hx

/-! their number, held against their room and against the reach -/
section
open Go.Proofs Go.Proofs.YtggbiiicoabkmaaDoor Go.ChangeShapes Go.WideShapes Go.Deep Go.RowKit
theorem weights1 {H : Type} {P : Program} {t : TypeId} {d : DataW H} {p : Nat → Bool} (h : (DataW.weightsEach P ([t] ++ []) ([d] ++ [])).all p = true) : (d.weights P t).all p = true := by
  have e : DataW.weightsEach P ([t] ++ []) ([d] ++ []) = d.weights P t ++ [] := rfl
  rw [e, List.append_nil] at h
  exact h
theorem weights2 {H : Type} {P : Program} {t u : TypeId} {d f : DataW H} {p : Nat → Bool} (h : (DataW.weightsEach P ([t, u] ++ []) ([d, f] ++ [])).all p = true) : (d.weights P t).all p = true ∧ (f.weights P u).all p = true := by
  have e : DataW.weightsEach P ([t, u] ++ []) ([d, f] ++ []) = d.weights P t ++ (f.weights P u ++ []) := rfl
  rw [e, List.append_nil, List.all_append, Bool.and_eq_true] at h
  exact h

theorem open_labelsW {H : Type} {enc : TypeId × Go.Value → H} {W : World} {b0 base : Nat} {v : Go.Value} {d : DataW H} {ps : List MemPlace} {sp : Nat → Bool} {held : Bool} {r : Reach}
    (hv : Go.Value.okWide Tryd.prog W r b0 22 v) (h : DataW.Trod enc Tryd.prog W base sp held 22 v d ps) :
    ∃ (a : Option Addr) (L : List Lab) (c : Nat), v = .slice a L.length c ∧ LabAt W a L ∧ L.length ≤ c ∧ ((d.weights Tryd.prog 22).all (· ≤ reachBytes) = true → L.length * 32 ≤ 140737488351232) := by
  obtain ⟨a, L, c, rfl, hl⟩ := open_labels hv h
  refine ⟨a, L, c, rfl, hl, ?_⟩
  obtain ⟨fuel, hf⟩ := h
  rcases open_slice Tryd.underlying22 hf with ⟨h1, _⟩ | ⟨a', len', cap', m, n, D, Pl, h1, _, hle, _, hm, hx, _⟩
  · have h2 : Go.Value.slice a L.length c = .slice none 0 0 := by simpa [Go.Value.cells] using h1
    injection h2 with _ h3 h4
    exact ⟨by omega, fun _ => by omega⟩
  · have h2 : Go.Value.slice a L.length c = .slice (some a') len' cap' := by simpa [Go.Value.cells] using h1
    injection h2 with _ h3 h4
    refine ⟨by omega, fun hw => ?_⟩
    have hd : d = .slice ((List.range len').map D) ((List.range (m - len')).map fun j => D (len' + j)) := congrArg Prod.fst hx
    have hB : Tryd.prog.bytesOf 62 = 32 := by kernel_rfl
    rw [hd] at hw
    simp only [DataW.weights, Tryd.underlying22, List.all_cons, Bool.and_eq_true, decide_eq_true_eq, List.length_map, List.length_range, hB] at hw
    have hr : reachBytes = 140737488351232 := by kernel_rfl
    rw [hr] at hw
    have hmge : len' ≤ m := by rw [hm]; split <;> omega
    have := hw.1
    omega
end
end Go.Fl
