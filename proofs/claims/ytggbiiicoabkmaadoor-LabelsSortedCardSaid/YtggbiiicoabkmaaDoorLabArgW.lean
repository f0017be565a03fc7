/-
  Labels as an argument: their number, held against their room and against the reach. No condition.
-/
import Derived.Test.YtggbiiicoabkmaaDoorLabArg
namespace Go.Fl
open Go.Proofs Go.Proofs.YtggbiiicoabkmaaDoor Go.ChangeShapes Go.WideShapes Go.Deep Go.RowKit
set_option maxRecDepth 10000

theorem weights1 {H : Type} {P : Program} {t : TypeId} {d : DataW H} {p : Nat → Bool} (h : (DataW.weightsEach P ([t] ++ []) ([d] ++ [])).all p = true) : (d.weights P t).all p = true := by
  have e : DataW.weightsEach P ([t] ++ []) ([d] ++ []) = d.weights P t ++ [] := rfl
  rw [e, List.append_nil] at h
  exact h
theorem weights2 {H : Type} {P : Program} {t u : TypeId} {d f : DataW H} {p : Nat → Bool} (h : (DataW.weightsEach P ([t, u] ++ []) ([d, f] ++ [])).all p = true) : (d.weights P t).all p = true ∧ (f.weights P u).all p = true := by
  have e : DataW.weightsEach P ([t, u] ++ []) ([d, f] ++ []) = d.weights P t ++ (f.weights P u ++ []) := rfl
  rw [e, List.append_nil, List.all_append, Bool.and_eq_true] at h
  exact h

theorem open_labelsW {H : Type} {enc : TypeId × Go.Value → H} {W : World} {b0 base : Nat} {v : Go.Value} {d : DataW H} {ps : List MemPlace} {sp : Nat → Bool} {held : Bool} {r : Reach}
    (hv : Go.Value.okWide Tryd.prog W r b0 22 v) (h : DataW.Trod enc Tryd.prog W base sp held 22 v d ps) :
    ∃ (a : Option Addr) (L : List Lab) (c : Nat), v = .slice a L.length c ∧ LabAt W a L ∧ L.length ≤ c ∧ ((d.weights Tryd.prog 22).all (· ≤ reachBytes) = true → L.length * 32 ≤ 140737488351232) := by
  obtain ⟨a, L, c, rfl, hl⟩ := open_labels hv h
  refine ⟨a, L, c, rfl, hl, ?_⟩
  obtain ⟨fuel, hf⟩ := h
  rcases open_slice Tryd.underlying22 hf with ⟨h1, _⟩ | ⟨a', len', cap', m, n, D, Pl, h1, _, hle, _, hm, hx, _⟩
  · have h2 : Go.Value.slice a L.length c = .slice none 0 0 := by simpa [Go.Value.cells] using h1
    injection h2 with _ h3 h4
    exact ⟨by omega, fun _ => by omega⟩
  · have h2 : Go.Value.slice a L.length c = .slice (some a') len' cap' := by simpa [Go.Value.cells] using h1
    injection h2 with _ h3 h4
    refine ⟨by omega, fun hw => ?_⟩
    have hd : d = .slice ((List.range len').map D) ((List.range (m - len')).map fun j => D (len' + j)) := congrArg Prod.fst hx
    have hB : Tryd.prog.bytesOf 62 = 32 := by kernel_rfl
    rw [hd] at hw
    simp only [DataW.weights, Tryd.underlying22, List.all_cons, Bool.and_eq_true, decide_eq_true_eq, List.length_map, List.length_range, hB] at hw
    have hr : reachBytes = 140737488351232 := by kernel_rfl
    rw [hr] at hw
    have hmge : len' ≤ m := by rw [hm]; split <;> omega
    have := hw.1
    omega
end Go.Fl
