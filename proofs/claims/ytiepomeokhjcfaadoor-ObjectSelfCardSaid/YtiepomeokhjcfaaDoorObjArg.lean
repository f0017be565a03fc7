/-
  An object as an argument: what the row's reading says of it. No condition.
-/
import Derived.Test.YtiepomeokhjcfaaDoorErrL
import Derived.Test.YtiepomeokhjcfaaDoorRows
import Derived.LaidLaws
import Derived.LaidHandle
import Derived.LaidSub
import Derived.Stop.Joined
import Derived.Test.YtiepomeokhjcfaaDoorObjT
import Derived.Test.YtiepomeokhjcfaaDoorLaw
import Derived.Deep.Slices
import Derived.Deep.Fields
import Derived.ChangeSame
namespace Go.Fl
open Go.Proofs Go.Proofs.YtiepomeokhjcfaaDoor Go.ChangeShapes Go.WideShapes Go.RowKit
set_option maxRecDepth 10000
theorem g_et : Tryd.prog.globalNamed "errors.errorType" = some 0 := by kernel_rfl
theorem g_rt : (Tryd.prog.cutTypes.find? (·.1 == "internal/reflectlite.rtype")).map (·.2) = some 135 := by kernel_rfl
theorem g_row : ((List.range Tryd.prog.types.size).filter fun t => Tryd.prog.rowNamed t [101, 114, 114, 111, 114]) = [44] := by kernel_rfl
theorem laid_of_handle {W : World} {l : List (String × DataW Unit)} (h : handlesMet Tryd.prog l W) (hm : ("errors.errorType", Rows.laid_errors_errorType) ∈ l) : Laid W := by
  obtain ⟨name, u, ty, e1, e2, e3, e4, e5⟩ := h _ hm
  have en : name = [101, 114, 114, 111, 114] := (Option.some.inj e1).symm
  subst en
  obtain rfl := Option.some.inj (g_rt.symm.trans e2)
  have hm : ty ∈ (List.range Tryd.prog.types.size).filter fun t => Tryd.prog.rowNamed t [101, 114, 114, 111, 114] := List.mem_filter.2 ⟨List.mem_range.2 e3, e4⟩
  rw [g_row] at hm
  obtain rfl := List.mem_singleton.1 hm
  have hh : typeHandle Tryd.prog 44 = han 44 := by kernel_rfl
  rw [hh] at e5
  have h0 := World.var?_cell g_et e5 0
  simp at h0
  exact h0
end Go.Fl

namespace Go.Fl
open Go.Proofs Go.Proofs.YtiepomeokhjcfaaDoor Go.ChangeShapes Go.WideShapes Go.Deep Go.RowKit
set_option maxRecDepth 10000
set_option maxHeartbeats 4000000

theorem reads_of_cells {w : World} : ∀ (L : List Lab) (b off : Nat), (∀ i x, L[i]? = some x → w.cell? ⟨b, off + i * 2, none⟩ = some (.string x.1) ∧ w.cell? ⟨b, off + i * 2 + 1, none⟩ = some (.string x.2)) → Reads w ⟨b, off, none⟩ (cellsL L) := by
  intro L
  induction L with
  | nil => intro b off _; trivial
  | cons x L ih =>
    intro b off h
    have h0 := h 0 x rfl
    refine ⟨by simpa using h0.1, ?_, ?_⟩
    · rw [add_none]; simpa using h0.2
    · rw [add_none, add_none]
      refine ih b (off + 1 + 1) fun i y hy => ?_
      have := h (i + 1) y hy
      rw [show off + (i + 1) * 2 = off + 1 + 1 + i * 2 by omega] at this
      exact this

theorem open_labT {H : Type} {enc : TypeId × Go.Value → H} {W : World} {base fuel : Nat} {cs : List Go.Value} {x : DataW H × List MemPlace} {sp : Nat → Bool} {held : Bool} (hf : DataW.trod enc Tryd.prog W base sp held fuel 33 cs = some x) :
    ∃ (a : Option Addr) (L : List Lab) (c : Nat), cs = [.slice a L.length c] ∧ LabAt W a L ∧ SzL L ∧ L.length ≤ c ∧ ((x.1.weights Tryd.prog 33).all (· ≤ reachBytes) = true → L.length * 32 ≤ 140737488351232) := by
  rcases open_slice Tryd.underlying33 hf with ⟨rfl, _⟩ | ⟨a', len, cap, m, n, D, Pl, rfl, _, hl, _, hm, hx, hi⟩
  · exact ⟨none, [], 0, rfl, ⟨fun b off h => (by cases h), fun h => absurd rfl h⟩, (fun _ h => by cases h), Nat.le_refl _, fun _ => (by simp)⟩
  · have hC : Tryd.prog.cellsOf 64 = 2 := by kernel_rfl
    have hmge : len ≤ m := by rw [hm]; split <;> omega
    have each : ∀ i, i < len → ∃ x : Lab, W.cell? (a'.add (i * 2)) = some (.string x.1) ∧ W.cell? ((a'.add (i * 2)).add 1) = some (.string x.2) ∧ x.1.size ≤ 9223372036854775807 ∧ x.2.size ≤ 9223372036854775807 := by
      intro i hilt
      obtain ⟨cs', hc, ht'⟩ := hi i (by omega)
      rw [hC] at hc
      obtain ⟨ys, n', hn', hy, hlen, hyl, hfl⟩ := DataW.trod_struct Tryd.underlying64 ht'
      obtain ⟨_, hcl, hat⟩ := World.cells?_some hc
      obtain ⟨c0, c1, rfl⟩ : ∃ c0 c1, cs' = [c0, c1] := by
        match cs', hcl with
        | [c0, c1], _ => exact ⟨c0, c1, rfl⟩
      have hy0 : DataW.trod enc Tryd.prog W base sp held n' 9 (([c0, c1].drop 0).take (Tryd.prog.cellsOf 9)) = ys[0]? := hfl 0 _ rfl
      have hy1 : DataW.trod enc Tryd.prog W base sp held n' 9 (([c0, c1].drop 1).take (Tryd.prog.cellsOf 9)) = ys[1]? := hfl 1 _ rfl
      have h9 : Tryd.prog.cellsOf 9 = 1 := by kernel_rfl
      rw [h9] at hy0 hy1
      simp at hyl
      obtain ⟨y0, hy0'⟩ : ∃ y0, ys[0]? = some y0 := ⟨_, List.getElem?_eq_getElem (by rw [hyl]; decide)⟩
      obtain ⟨y1, hy1'⟩ : ∃ y1, ys[1]? = some y1 := ⟨_, List.getElem?_eq_getElem (by rw [hyl]; decide)⟩
      rw [hy0'] at hy0
      rw [hy1'] at hy1
      obtain ⟨s0, e0, _, z0⟩ := DataW.trod_string Tryd.underlying9 hy0
      obtain ⟨s1, e1, _, z1⟩ := DataW.trod_string Tryd.underlying9 hy1
      simp at e0 e1
      have a0 := hat 0 (by decide)
      have a1 := hat 1 (by decide)
      simp only [List.getElem?_cons_zero, List.getElem?_cons_succ] at a0 a1
      refine ⟨(s0, s1), ?_, ?_, z0, z1⟩
      · rw [← e0, ← a0]; rfl
      · rw [← e1, ← a1]
    let L : List Lab := (List.range len).map fun i => if h : i < len then (each i h).choose else default
    have hLlen : L.length = len := by simp [L]
    have hLget : ∀ i x, L[i]? = some x → ∃ h : i < len, x = (each i h).choose := by
      intro i x hx
      simp only [L, List.getElem?_map] at hx
      by_cases hi : i < len
      · simp [hi] at hx; exact ⟨hi, hx.symm⟩
      · simp [hi] at hx
    refine ⟨some a', L, cap, by rw [hLlen], ⟨?_, ?_⟩, (fun x hx => ?_), by omega, fun hw => ?_⟩
    · intro b off ha
      cases ha
      refine reads_of_cells L b off fun i x hx => ?_
      obtain ⟨hilt, rfl⟩ := hLget i x hx
      have key : ∀ A : Addr, A = (Addr.add ⟨b, off, none⟩ (i * 2)) → W.cell? A = some (.string (each i hilt).choose.1) ∧ W.cell? (A.add 1) = some (.string (each i hilt).choose.2) := by
        rintro _ rfl; exact ⟨(each i hilt).choose_spec.1, (each i hilt).choose_spec.2.1⟩
      have h2 := key ⟨b, off + i * 2, none⟩ (add_none b off (i * 2)).symm
      exact ⟨h2.1, (congrArg W.cell? (add_none b (off + i * 2) 1)).symm.trans h2.2⟩
    · intro hne
      have h0 : 0 < len := by rw [← hLlen]; exact List.length_pos_iff.2 hne
      obtain ⟨x, hx, _⟩ := each 0 h0
      obtain ⟨bk, of, sp'⟩ := a'
      refine ⟨bk, of, ?_⟩
      cases sp' with
      | none => rfl
      | some k =>
        simp [Addr.add, World.cell?] at hx
        split at hx <;> simp at hx
    · obtain ⟨i, hi2⟩ := List.getElem?_of_mem hx
      obtain ⟨hilt, rfl⟩ := hLget i x hi2
      exact (each i hilt).choose_spec.2.2
    · have hB : Tryd.prog.bytesOf 64 = 32 := by kernel_rfl
      rw [hx] at hw
      simp only [DataW.weights, Tryd.underlying33, List.all_cons, Bool.and_eq_true, decide_eq_true_eq, List.length_map, List.length_range, hB] at hw
      have hr : reachBytes = 140737488351232 := by kernel_rfl
      rw [hr] at hw
      have := hw.1
      omega

theorem weights1 {H : Type} {P : Program} {t : TypeId} {d : DataW H} {p : Nat → Bool} (h : (DataW.weightsEach P ([t] ++ []) ([d] ++ [])).all p = true) : (d.weights P t).all p = true := by
  have e : DataW.weightsEach P ([t] ++ []) ([d] ++ []) = d.weights P t ++ [] := rfl
  rw [e, List.append_nil] at h
  exact h
theorem weights2 {H : Type} {P : Program} {t u : TypeId} {d f : DataW H} {p : Nat → Bool} (h : (DataW.weightsEach P ([t, u] ++ []) ([d, f] ++ [])).all p = true) : (d.weights P t).all p = true ∧ (f.weights P u).all p = true := by
  have e : DataW.weightsEach P ([t, u] ++ []) ([d, f] ++ []) = d.weights P t ++ (f.weights P u ++ []) := rfl
  rw [e, List.append_nil, List.all_append, Bool.and_eq_true] at h
  exact h

theorem weights_at {H : Type} {P : Program} {p : Nat → Bool} : ∀ {ts : List TypeId} {ds : List (DataW H)}, (DataW.weightsEach P ts ds).all p = true → ∀ (i : Nat) (t : TypeId) (d : DataW H), ts[i]? = some t → ds[i]? = some d → (d.weights P t).all p = true
  | [], ds, _, i, t, d, ht, _ => by simp at ht
  | _ :: _, [], _, i, t, d, _, hd => by simp at hd
  | t0 :: ts, d0 :: ds, h, i, t, d, ht, hd => by
    have e : DataW.weightsEach P (t0 :: ts) (d0 :: ds) = d0.weights P t0 ++ DataW.weightsEach P ts ds := rfl
    rw [e, List.all_append, Bool.and_eq_true] at h
    cases i with
    | zero => simp at ht hd; subst ht hd; exact h.1
    | succ i => exact weights_at h.2 i t d (by simpa using ht) (by simpa using hd)
theorem list_getD {α : Type} (d : α) (l : List α) : l = (List.range l.length).map fun i => l.getD i d :=
  List.ext_getElem (by simp) (by intro i h1 h2; simp [h1])
section
variable {H : Type} {enc : TypeId × Go.Value → H} {P : Program} {W : World} {base : Nat} {sp : Nat → Bool} {held : Bool} {n : Nat} {l : List Go.Value} {xs : List (DataW H × List MemPlace)} {t : TypeId} {off i : Nat} {k : IntKind}
theorem f_int (h : DataW.trod enc P W base sp held n t ((l.drop off).take (P.cellsOf t)) = xs[i]?) (hi : i < xs.length) (ho : off < l.length) (hc : P.cellsOf t = 1) (hu : P.underlying t = some (.int k)) : ∃ z, l.getD off undef = .int k z := by
  rw [List.getElem?_eq_getElem hi, hc, take1_drop l off undef ho] at h
  obtain ⟨z, hz, _⟩ := DataW.trod_int hu h
  exact ⟨z, by simpa using hz⟩
theorem f_str (h : DataW.trod enc P W base sp held n t ((l.drop off).take (P.cellsOf t)) = xs[i]?) (hi : i < xs.length) (ho : off < l.length) (hc : P.cellsOf t = 1) (hu : P.underlying t = some .string) : ∃ z, l.getD off undef = .string z ∧ z.size ≤ 9223372036854775807 := by
  rw [List.getElem?_eq_getElem hi, hc, take1_drop l off undef ho] at h
  obtain ⟨z, hz, _, hs⟩ := DataW.trod_string hu h
  exact ⟨z, by simpa using hz, hs⟩
theorem f_bool (h : DataW.trod enc P W base sp held n t ((l.drop off).take (P.cellsOf t)) = xs[i]?) (hi : i < xs.length) (ho : off < l.length) (hc : P.cellsOf t = 1) (hu : P.underlying t = some .bool) : ∃ z : Bool, l.getD off undef = (bV z).val := by
  rw [List.getElem?_eq_getElem hi, hc, take1_drop l off undef ho] at h
  obtain ⟨z, hz, _⟩ := DataW.trod_bool hu h
  exact ⟨z, by simpa [V.val] using hz⟩
end

theorem f_amt {H : Type} {enc : TypeId × Go.Value → H} {W : World} {base : Nat} {sp : Nat → Bool} {held : Bool} {n : Nat} {l : List Go.Value} {xs : List (DataW H × List MemPlace)} {off i : Nat} (h : DataW.trod enc Tryd.prog W base sp held n 35 ((l.drop off).take (Tryd.prog.cellsOf 35)) = xs[i]?) (hi : i < xs.length) (ho : off + 1 < l.length) :
    ∃ z1 z2, l.getD off undef = .int .i64 z1 ∧ l.getD (off + 1) undef = .int .i64 z2 := by
  rw [List.getElem?_eq_getElem hi, show Tryd.prog.cellsOf 35 = 2 from by kernel_rfl] at h
  obtain ⟨ys, m, _, _, _, hyl, hg⟩ := DataW.trod_struct Tryd.underlying35 h
  have hyl : ys.length = 2 := hyl
  have h2 : ((l.drop off).take 2).length = 2 := by simp; omega
  obtain ⟨z1, e1⟩ := f_int (t := 3) (l := (l.drop off).take 2) (off := 0) (hg 0 _ rfl) (by omega) (by omega) (by kernel_rfl) Tryd.underlying3
  obtain ⟨z2, e2⟩ := f_int (t := 3) (l := (l.drop off).take 2) (off := 1) (hg 1 _ rfl) (by omega) (by omega) (by kernel_rfl) Tryd.underlying3
  refine ⟨z1, z2, ?_, ?_⟩
  · rw [← e1]; simp [List.getD_eq_getElem?_getD]
  · rw [← e2]; simp [List.getD_eq_getElem?_getD]

/-- Both lists can be read. -/
def OAt (w : World) (o : Oj) (a : Option Addr) (a' : Option Addr) : Prop := LabAt w a o.labs ∧ LabAt w a' o.sel
theorem open_object {H : Type} {enc : TypeId × Go.Value → H} {W : World} {b0 base : Nat} {v : Go.Value} {d : DataW H} {ps : List MemPlace} {sp : Nat → Bool} {held : Bool} {r : Reach}
    (hv : Go.Value.okWide Tryd.prog W r b0 38 v) (h : DataW.Trod enc Tryd.prog W base sp held 38 v d ps) :
    ∃ (o : Oj) (a : Option Addr) (c : Nat) (a' : Option Addr) (c' : Nat), v = (ov o a c a' c').val ∧ OAt W o a a' ∧ Sz o ∧ o.labs.length ≤ c ∧ o.sel.length ≤ c' ∧ ((d.weights Tryd.prog 38).all (· ≤ reachBytes) = true → o.labs.length * 32 ≤ 140737488351232 ∧ o.sel.length * 32 ≤ 140737488351232) := by
  obtain ⟨⟨l⟩, rfl, hsz⟩ := okWide_struct Tryd.underlying38 hv
  have hlen : l.length = 32 := hsz.trans (by kernel_rfl)
  obtain ⟨fuel, hf⟩ := h
  obtain ⟨xs, n, rfl, hx, _, hxl, hfl⟩ := DataW.trod_struct Tryd.underlying38 hf
  have hxl : xs.length = 30 := hxl
  obtain ⟨z0, e0⟩ := f_int (t := 3) (l := l) (off := 0) (hfl 0 _ rfl) (by omega) (by omega) (by kernel_rfl) Tryd.underlying3
  obtain ⟨z1, e1, zs1⟩ := f_str (t := 9) (l := l) (off := 1) (hfl 1 _ rfl) (by omega) (by omega) (by kernel_rfl) Tryd.underlying9
  obtain ⟨z2, e2⟩ := f_int (t := 3) (l := l) (off := 2) (hfl 2 _ rfl) (by omega) (by omega) (by kernel_rfl) Tryd.underlying3
  obtain ⟨z3, e3⟩ := f_int (t := 3) (l := l) (off := 3) (hfl 3 _ rfl) (by omega) (by omega) (by kernel_rfl) Tryd.underlying3
  have h4 : DataW.trod enc Tryd.prog W base sp held n 33 ((l.drop 4).take (Tryd.prog.cellsOf 33)) = xs[4]? := hfl 4 _ rfl
  rw [List.getElem?_eq_getElem (by omega), show Tryd.prog.cellsOf 33 = 1 from by kernel_rfl, take1_drop l 4 undef (by omega)] at h4
  obtain ⟨a4, L4, c4, e4, hl4, hz4, hc4, hw4⟩ := open_labT h4
  replace e4 := (List.cons.inj e4).1
  obtain ⟨z5, z6, e5, e6⟩ := f_amt (l := l) (off := 5) (hfl 5 _ rfl) (by omega) (by omega)
  obtain ⟨z7, e7⟩ := f_bool (t := 4) (l := l) (off := 7) (hfl 6 _ rfl) (by omega) (by omega) (by kernel_rfl) Tryd.underlying4
  obtain ⟨z8, e8⟩ := f_bool (t := 4) (l := l) (off := 8) (hfl 7 _ rfl) (by omega) (by omega) (by kernel_rfl) Tryd.underlying4
  obtain ⟨z9, e9⟩ := f_bool (t := 4) (l := l) (off := 9) (hfl 8 _ rfl) (by omega) (by omega) (by kernel_rfl) Tryd.underlying4
  obtain ⟨z10, e10⟩ := f_int (t := 3) (l := l) (off := 10) (hfl 9 _ rfl) (by omega) (by omega) (by kernel_rfl) Tryd.underlying3
  obtain ⟨z11, e11, zs11⟩ := f_str (t := 9) (l := l) (off := 11) (hfl 10 _ rfl) (by omega) (by omega) (by kernel_rfl) Tryd.underlying9
  obtain ⟨z12, e12, zs12⟩ := f_str (t := 9) (l := l) (off := 12) (hfl 11 _ rfl) (by omega) (by omega) (by kernel_rfl) Tryd.underlying9
  obtain ⟨z13, e13, zs13⟩ := f_str (t := 9) (l := l) (off := 13) (hfl 12 _ rfl) (by omega) (by omega) (by kernel_rfl) Tryd.underlying9
  obtain ⟨z14, e14⟩ := f_int (t := 3) (l := l) (off := 14) (hfl 13 _ rfl) (by omega) (by omega) (by kernel_rfl) Tryd.underlying3
  obtain ⟨z15, e15⟩ := f_bool (t := 4) (l := l) (off := 15) (hfl 14 _ rfl) (by omega) (by omega) (by kernel_rfl) Tryd.underlying4
  obtain ⟨z16, e16⟩ := f_bool (t := 4) (l := l) (off := 16) (hfl 15 _ rfl) (by omega) (by omega) (by kernel_rfl) Tryd.underlying4
  obtain ⟨z17, z18, e17, e18⟩ := f_amt (l := l) (off := 17) (hfl 16 _ rfl) (by omega) (by omega)
  obtain ⟨z19, e19, zs19⟩ := f_str (t := 9) (l := l) (off := 19) (hfl 17 _ rfl) (by omega) (by omega) (by kernel_rfl) Tryd.underlying9
  obtain ⟨z20, e20⟩ := f_int (t := 3) (l := l) (off := 20) (hfl 18 _ rfl) (by omega) (by omega) (by kernel_rfl) Tryd.underlying3
  obtain ⟨z21, e21⟩ := f_int (t := 3) (l := l) (off := 21) (hfl 19 _ rfl) (by omega) (by omega) (by kernel_rfl) Tryd.underlying3
  obtain ⟨z22, e22⟩ := f_int (t := 3) (l := l) (off := 22) (hfl 20 _ rfl) (by omega) (by omega) (by kernel_rfl) Tryd.underlying3
  obtain ⟨z23, e23⟩ := f_int (t := 3) (l := l) (off := 23) (hfl 21 _ rfl) (by omega) (by omega) (by kernel_rfl) Tryd.underlying3
  obtain ⟨z24, e24⟩ := f_int (t := 3) (l := l) (off := 24) (hfl 22 _ rfl) (by omega) (by omega) (by kernel_rfl) Tryd.underlying3
  obtain ⟨z25, e25⟩ := f_bool (t := 4) (l := l) (off := 25) (hfl 23 _ rfl) (by omega) (by omega) (by kernel_rfl) Tryd.underlying4
  obtain ⟨z26, e26⟩ := f_int (t := 36) (l := l) (off := 26) (hfl 24 _ rfl) (by omega) (by omega) (by kernel_rfl) Tryd.underlying36
  have h27 : DataW.trod enc Tryd.prog W base sp held n 33 ((l.drop 27).take (Tryd.prog.cellsOf 33)) = xs[25]? := hfl 25 _ rfl
  rw [List.getElem?_eq_getElem (by omega), show Tryd.prog.cellsOf 33 = 1 from by kernel_rfl, take1_drop l 27 undef (by omega)] at h27
  obtain ⟨a27, L27, c27, e27, hl27, hz27, hc27, hw27⟩ := open_labT h27
  replace e27 := (List.cons.inj e27).1
  obtain ⟨z28, e28⟩ := f_int (t := 3) (l := l) (off := 28) (hfl 26 _ rfl) (by omega) (by omega) (by kernel_rfl) Tryd.underlying3
  obtain ⟨z29, e29, zs29⟩ := f_str (t := 9) (l := l) (off := 29) (hfl 27 _ rfl) (by omega) (by omega) (by kernel_rfl) Tryd.underlying9
  obtain ⟨z30, e30⟩ := f_int (t := 3) (l := l) (off := 30) (hfl 28 _ rfl) (by omega) (by omega) (by kernel_rfl) Tryd.underlying3
  obtain ⟨z31, e31⟩ := f_int (t := 3) (l := l) (off := 31) (hfl 29 _ rfl) (by omega) (by omega) (by kernel_rfl) Tryd.underlying3
  have e := list_getD undef l
  rw [hlen] at e
  replace e : l = [l.getD 0 undef, l.getD 1 undef, l.getD 2 undef, l.getD 3 undef, l.getD 4 undef, l.getD 5 undef, l.getD 6 undef, l.getD 7 undef, l.getD 8 undef, l.getD 9 undef, l.getD 10 undef, l.getD 11 undef, l.getD 12 undef, l.getD 13 undef, l.getD 14 undef, l.getD 15 undef, l.getD 16 undef, l.getD 17 undef, l.getD 18 undef, l.getD 19 undef, l.getD 20 undef, l.getD 21 undef, l.getD 22 undef, l.getD 23 undef, l.getD 24 undef, l.getD 25 undef, l.getD 26 undef, l.getD 27 undef, l.getD 28 undef, l.getD 29 undef, l.getD 30 undef, l.getD 31 undef] := e
  refine ⟨⟨z0, z1, z2, z3, L4, z5, z6, z7, z8, z9, z10, z11, z12, z13, z14, z15, z16, z17, z18, z19, z20, z21, z22, z23, z24, z25, z26, L27, z28, z29, z30, z31⟩, a4, c4, a27, c27, ?_, ⟨hl4, hl27⟩, ⟨zs19, hz4⟩, hc4, hc27, fun hw => ?_⟩
  · rw [e, e0, e1, e2, e3, e4, e5, e6, e7, e8, e9, e10, e11, e12, e13, e14, e15, e16, e17, e18, e19, e20, e21, e22, e23, e24, e25, e26, e27, e28, e29, e30, e31]
    rfl
  · have hd : d = .agg (xs.map (·.1)) := congrArg Prod.fst hx
    rw [hd] at hw
    simp only [DataW.weights, Tryd.underlying38] at hw
    exact ⟨hw4 (weights_at hw 4 _ _ rfl (by rw [List.getElem?_map, List.getElem?_eq_getElem (by omega)]; rfl)), hw27 (weights_at hw 25 _ _ rfl (by rw [List.getElem?_map, List.getElem?_eq_getElem (by omega)]; rfl))⟩
end Go.Fl
