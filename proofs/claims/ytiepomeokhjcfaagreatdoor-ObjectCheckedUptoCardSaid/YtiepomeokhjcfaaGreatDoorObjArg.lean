/-
  An object as an argument: what the row's reading says of it. No condition.
-/
import Derived.Test.YtiepomeokhjcfaaGreatDoorErrL
import Derived.Test.YtiepomeokhjcfaaGreatDoorRows
import Derived.LaidLaws
import Derived.LaidHandle
import Derived.LaidSub
import Derived.Stop.Joined
import Derived.Test.YtiepomeokhjcfaaGreatDoorObjT
import Derived.Test.YtiepomeokhjcfaaGreatDoorLaw
import Derived.Deep.Slices
import Derived.Deep.Fields
import Derived.ChangeSame
namespace Go.Fl
open Go.Proofs Go.Proofs.YtiepomeokhjcfaaGreatDoor Go.ChangeShapes Go.WideShapes Go.RowKit
set_option maxRecDepth 10000
theorem g_et : Tryz.prog.globalNamed "errors.errorType" = some 0 := by kernel_rfl
theorem g_rt : (Tryz.prog.cutTypes.find? (·.1 == "internal/reflectlite.rtype")).map (·.2) = some 196 := by kernel_rfl
theorem g_row : ((List.range Tryz.prog.types.size).filter fun t => Tryz.prog.rowNamed t [101, 114, 114, 111, 114]) = [31] := by kernel_rfl
theorem laid_of_handle {W : World} {l : List (String × DataW Unit)} (h : handlesMet Tryz.prog l W) (hm : ("errors.errorType", Rows.laid_errors_errorType) ∈ l) : Laid W := by
  obtain ⟨name, u, ty, e1, e2, e3, e4, e5⟩ := h _ hm
  have en : name = [101, 114, 114, 111, 114] := (Option.some.inj e1).symm
  subst en
  obtain rfl := Option.some.inj (g_rt.symm.trans e2)
  have hm : ty ∈ (List.range Tryz.prog.types.size).filter fun t => Tryz.prog.rowNamed t [101, 114, 114, 111, 114] := List.mem_filter.2 ⟨List.mem_range.2 e3, e4⟩
  rw [g_row] at hm
  obtain rfl := List.mem_singleton.1 hm
  have hh : typeHandle Tryz.prog 31 = han 31 := by kernel_rfl
  rw [hh] at e5
  have h0 := World.var?_cell g_et e5 0
  simp at h0
  exact h0
end Go.Fl

namespace Go.Fl
open Go.Proofs Go.Proofs.YtiepomeokhjcfaaGreatDoor Go.ChangeShapes Go.WideShapes Go.Deep Go.RowKit
set_option maxRecDepth 10000
set_option maxHeartbeats 4000000

theorem reads_of_cells {w : World} : ∀ (L : List Lab) (b off : Nat), (∀ i x, L[i]? = some x → w.cell? ⟨b, off + i * 2, none⟩ = some (.string x.1) ∧ w.cell? ⟨b, off + i * 2 + 1, none⟩ = some (.string x.2)) → Reads w ⟨b, off, none⟩ (cellsL L) := by
  intro L
  induction L with
  | nil => intro b off _; trivial
  | cons x L ih =>
    intro b off h
    have h0 := h 0 x rfl
    refine ⟨by simpa using h0.1, ?_, ?_⟩
    · rw [add_none]; simpa using h0.2
    · rw [add_none, add_none]
      refine ih b (off + 1 + 1) fun i y hy => ?_
      have := h (i + 1) y hy
      rw [show off + (i + 1) * 2 = off + 1 + 1 + i * 2 by omega] at this
      exact this

theorem bulk_pos {H : Type} (d : DataW H) : 1 ≤ Rows.uptoBulk d := by
  cases d with
  | lit l => cases l <;> simp only [Rows.uptoBulk] <;> omega
  | nil => simp only [Rows.uptoBulk]; omega
  | ptr d => simp only [Rows.uptoBulk]; omega
  | slice a b => simp only [Rows.uptoBulk]; omega
  | agg a => simp only [Rows.uptoBulk]; omega
  | iface n d => simp only [Rows.uptoBulk]; omega
  | map m => simp only [Rows.uptoBulk]; omega
  | held h => simp only [Rows.uptoBulk]; omega
theorem bulk_mem {H : Type} : ∀ {ds : List (DataW H)} {d : DataW H}, d ∈ ds → Rows.uptoBulk d ≤ Rows.uptoBulkAll ds
  | [], d, h => by cases h
  | x :: ds, d, h => by
    simp only [Rows.uptoBulkAll]
    rcases List.mem_cons.1 h with rfl | h
    · omega
    · have := bulk_mem h; omega
theorem bulk_len {H : Type} : ∀ (ds : List (DataW H)), ds.length ≤ Rows.uptoBulkAll ds
  | [] => by simp only [Rows.uptoBulkAll, List.length_nil]; omega
  | x :: ds => by
    have h1 := bulk_pos x
    have h2 := bulk_len ds
    simp only [Rows.uptoBulkAll, List.length_cons]
    omega
theorem bulk_str {H : Type} {d : DataW H} {z : ByteArray} (h : d = .lit (.string z.data.toList)) : z.size ≤ Rows.uptoBulk d := by
  subst h
  simp only [Rows.uptoBulk, Array.length_toList]
  show z.data.size ≤ _
  omega
theorem bulk_agg {H : Type} {ds : List (DataW H)} {d : DataW H} (h : d ∈ ds) : Rows.uptoBulk d ≤ Rows.uptoBulk (.agg ds) := by
  have := bulk_mem h
  simp only [Rows.uptoBulk]; omega

theorem open_labT {H : Type} {enc : TypeId × Go.Value → H} {W : World} {base fuel : Nat} {cs : List Go.Value} {x : DataW H × List MemPlace} {sp : Nat → Bool} {held : Bool} (hf : DataW.trod enc Tryz.prog W base sp held fuel 22 cs = some x) :
    ∃ (a : Option Addr) (L : List Lab) (c : Nat), cs = [.slice a L.length c] ∧ LabAt W a L ∧ SzL L ∧ L.length ≤ c ∧ ((x.1.weights Tryz.prog 22).all (· ≤ reachBytes) = true → L.length * 32 ≤ 140737488351232) ∧ (∀ k, Rows.uptoBulk x.1 ≤ k → L.length ≤ k ∧ ∀ y ∈ L, y.1.size ≤ k ∧ y.2.size ≤ k) := by
  rcases open_slice Tryz.underlying22 hf with ⟨rfl, _⟩ | ⟨a', len, cap, m, n, D, Pl, rfl, _, hl, _, hm, hx, hi⟩
  · exact ⟨none, [], 0, rfl, ⟨fun b off h => (by cases h), fun h => absurd rfl h⟩, (fun _ h => by cases h), Nat.le_refl _, fun _ => (by simp), fun k _ => ⟨Nat.zero_le _, fun _ h => by cases h⟩⟩
  · have hC : Tryz.prog.cellsOf 125 = 2 := by kernel_rfl
    have hmge : len ≤ m := by rw [hm]; split <;> omega
    have each : ∀ i, i < len → ∃ x : Lab, W.cell? (a'.add (i * 2)) = some (.string x.1) ∧ W.cell? ((a'.add (i * 2)).add 1) = some (.string x.2) ∧ (x.1.size ≤ 9223372036854775807 ∧ x.2.size ≤ 9223372036854775807) ∧ x.1.size ≤ Rows.uptoBulk (D i) ∧ x.2.size ≤ Rows.uptoBulk (D i) := by
      intro i hilt
      obtain ⟨cs', hc, ht'⟩ := hi i (by omega)
      rw [hC] at hc
      obtain ⟨ys, n', hn', hy, hlen, hyl, hfl⟩ := DataW.trod_struct Tryz.underlying125 ht'
      obtain ⟨_, hcl, hat⟩ := World.cells?_some hc
      obtain ⟨c0, c1, rfl⟩ : ∃ c0 c1, cs' = [c0, c1] := by
        match cs', hcl with
        | [c0, c1], _ => exact ⟨c0, c1, rfl⟩
      have hy0 : DataW.trod enc Tryz.prog W base sp held n' 9 (([c0, c1].drop 0).take (Tryz.prog.cellsOf 9)) = ys[0]? := hfl 0 _ rfl
      have hy1 : DataW.trod enc Tryz.prog W base sp held n' 9 (([c0, c1].drop 1).take (Tryz.prog.cellsOf 9)) = ys[1]? := hfl 1 _ rfl
      have h9 : Tryz.prog.cellsOf 9 = 1 := by kernel_rfl
      rw [h9] at hy0 hy1
      simp at hyl
      obtain ⟨y0, hy0'⟩ : ∃ y0, ys[0]? = some y0 := ⟨_, List.getElem?_eq_getElem (by rw [hyl]; decide)⟩
      obtain ⟨y1, hy1'⟩ : ∃ y1, ys[1]? = some y1 := ⟨_, List.getElem?_eq_getElem (by rw [hyl]; decide)⟩
      rw [hy0'] at hy0
      rw [hy1'] at hy1
      obtain ⟨s0, e0, k0, z0⟩ := DataW.trod_string Tryz.underlying9 hy0
      obtain ⟨s1, e1, k1, z1⟩ := DataW.trod_string Tryz.underlying9 hy1
      simp at e0 e1
      have a0 := hat 0 (by decide)
      have a1 := hat 1 (by decide)
      simp only [List.getElem?_cons_zero, List.getElem?_cons_succ] at a0 a1
      have hDi : D i = .agg (ys.map (·.1)) := congrArg Prod.fst hy
      have m0 : y0.1 ∈ ys.map (·.1) := List.mem_map_of_mem (List.mem_of_getElem? hy0')
      have m1 : y1.1 ∈ ys.map (·.1) := List.mem_map_of_mem (List.mem_of_getElem? hy1')
      refine ⟨(s0, s1), ?_, ?_, ⟨z0, z1⟩, ?_, ?_⟩
      rotate_left 2
      · rw [hDi]; exact Nat.le_trans (bulk_str (congrArg Prod.fst k0)) (bulk_agg m0)
      · rw [hDi]; exact Nat.le_trans (bulk_str (congrArg Prod.fst k1)) (bulk_agg m1)
      · rw [← e0, ← a0]; rfl
      · rw [← e1, ← a1]
    let L : List Lab := (List.range len).map fun i => if h : i < len then (each i h).choose else default
    have hLlen : L.length = len := by simp [L]
    have hLget : ∀ i x, L[i]? = some x → ∃ h : i < len, x = (each i h).choose := by
      intro i x hx
      simp only [L, List.getElem?_map] at hx
      by_cases hi : i < len
      · simp [hi] at hx; exact ⟨hi, hx.symm⟩
      · simp [hi] at hx
    refine ⟨some a', L, cap, by rw [hLlen], ⟨?_, ?_⟩, (fun x hx => ?_), by omega, fun hw => ?_, fun k hk => ?_⟩
    · intro b off ha
      cases ha
      refine reads_of_cells L b off fun i x hx => ?_
      obtain ⟨hilt, rfl⟩ := hLget i x hx
      have key : ∀ A : Addr, A = (Addr.add ⟨b, off, none⟩ (i * 2)) → W.cell? A = some (.string (each i hilt).choose.1) ∧ W.cell? (A.add 1) = some (.string (each i hilt).choose.2) := by
        rintro _ rfl; exact ⟨(each i hilt).choose_spec.1, (each i hilt).choose_spec.2.1⟩
      have h2 := key ⟨b, off + i * 2, none⟩ (add_none b off (i * 2)).symm
      exact ⟨h2.1, (congrArg W.cell? (add_none b (off + i * 2) 1)).symm.trans h2.2⟩
    · intro hne
      have h0 : 0 < len := by rw [← hLlen]; exact List.length_pos_iff.2 hne
      obtain ⟨x, hx, _⟩ := each 0 h0
      obtain ⟨bk, of, sp'⟩ := a'
      refine ⟨bk, of, ?_⟩
      cases sp' with
      | none => rfl
      | some k =>
        simp [Addr.add, World.cell?] at hx
        split at hx <;> simp at hx
    · obtain ⟨i, hi2⟩ := List.getElem?_of_mem hx
      obtain ⟨hilt, rfl⟩ := hLget i x hi2
      exact (each i hilt).choose_spec.2.2.1
    · have hB : Tryz.prog.bytesOf 125 = 32 := by kernel_rfl
      rw [hx] at hw
      simp only [DataW.weights, Tryz.underlying22, List.all_cons, Bool.and_eq_true, decide_eq_true_eq, List.length_map, List.length_range, hB] at hw
      have hr : reachBytes = 140737488351232 := by kernel_rfl
      rw [hr] at hw
      have := hw.1
      omega
    · rw [hx] at hk
      simp only [Rows.uptoBulk] at hk
      refine ⟨?_, fun y hy => ?_⟩
      · have := bulk_len ((List.range len).map D)
        rw [List.length_map, List.length_range] at this
        rw [hLlen]; omega
      · obtain ⟨i, hi2⟩ := List.getElem?_of_mem hy
        obtain ⟨hilt, rfl⟩ := hLget i y hi2
        have hm := bulk_mem (List.mem_map_of_mem (f := D) (List.mem_range.2 hilt))
        have := (each i hilt).choose_spec.2.2.2
        omega

theorem weights1 {H : Type} {P : Program} {t : TypeId} {d : DataW H} {p : Nat → Bool} (h : (DataW.weightsEach P ([t] ++ []) ([d] ++ [])).all p = true) : (d.weights P t).all p = true := by
  have e : DataW.weightsEach P ([t] ++ []) ([d] ++ []) = d.weights P t ++ [] := rfl
  rw [e, List.append_nil] at h
  exact h
theorem weights2 {H : Type} {P : Program} {t u : TypeId} {d f : DataW H} {p : Nat → Bool} (h : (DataW.weightsEach P ([t, u] ++ []) ([d, f] ++ [])).all p = true) : (d.weights P t).all p = true ∧ (f.weights P u).all p = true := by
  have e : DataW.weightsEach P ([t, u] ++ []) ([d, f] ++ []) = d.weights P t ++ (f.weights P u ++ []) := rfl
  rw [e, List.append_nil, List.all_append, Bool.and_eq_true] at h
  exact h

theorem weights_at {H : Type} {P : Program} {p : Nat → Bool} : ∀ {ts : List TypeId} {ds : List (DataW H)}, (DataW.weightsEach P ts ds).all p = true → ∀ (i : Nat) (t : TypeId) (d : DataW H), ts[i]? = some t → ds[i]? = some d → (d.weights P t).all p = true
  | [], ds, _, i, t, d, ht, _ => by simp at ht
  | _ :: _, [], _, i, t, d, _, hd => by simp at hd
  | t0 :: ts, d0 :: ds, h, i, t, d, ht, hd => by
    have e : DataW.weightsEach P (t0 :: ts) (d0 :: ds) = d0.weights P t0 ++ DataW.weightsEach P ts ds := rfl
    rw [e, List.all_append, Bool.and_eq_true] at h
    cases i with
    | zero => simp at ht hd; subst ht hd; exact h.1
    | succ i => exact weights_at h.2 i t d (by simpa using ht) (by simpa using hd)
theorem list_getD {α : Type} (d : α) (l : List α) : l = (List.range l.length).map fun i => l.getD i d :=
  List.ext_getElem (by simp) (by intro i h1 h2; simp [h1])
section
variable {H : Type} {enc : TypeId × Go.Value → H} {P : Program} {W : World} {base : Nat} {sp : Nat → Bool} {held : Bool} {n : Nat} {l : List Go.Value} {xs : List (DataW H × List MemPlace)} {t : TypeId} {off i : Nat} {k : IntKind}
theorem f_int (h : DataW.trod enc P W base sp held n t ((l.drop off).take (P.cellsOf t)) = xs[i]?) (hi : i < xs.length) (ho : off < l.length) (hc : P.cellsOf t = 1) (hu : P.underlying t = some (.int k)) : ∃ z, l.getD off undef = .int k z := by
  rw [List.getElem?_eq_getElem hi, hc, take1_drop l off undef ho] at h
  obtain ⟨z, hz, _⟩ := DataW.trod_int hu h
  exact ⟨z, by simpa using hz⟩
theorem f_str (h : DataW.trod enc P W base sp held n t ((l.drop off).take (P.cellsOf t)) = xs[i]?) (hi : i < xs.length) (ho : off < l.length) (hc : P.cellsOf t = 1) (hu : P.underlying t = some .string) : ∃ z, l.getD off undef = .string z ∧ z.size ≤ 9223372036854775807 ∧ z.size ≤ Rows.uptoBulk (xs[i]'hi).1 := by
  rw [List.getElem?_eq_getElem hi, hc, take1_drop l off undef ho] at h
  obtain ⟨z, hz, hk, hs⟩ := DataW.trod_string hu h
  exact ⟨z, by simpa using hz, hs, bulk_str (congrArg Prod.fst hk)⟩
theorem f_bool (h : DataW.trod enc P W base sp held n t ((l.drop off).take (P.cellsOf t)) = xs[i]?) (hi : i < xs.length) (ho : off < l.length) (hc : P.cellsOf t = 1) (hu : P.underlying t = some .bool) : ∃ z : Bool, l.getD off undef = (bV z).val := by
  rw [List.getElem?_eq_getElem hi, hc, take1_drop l off undef ho] at h
  obtain ⟨z, hz, _⟩ := DataW.trod_bool hu h
  exact ⟨z, by simpa [V.val] using hz⟩
end

theorem f_amt {H : Type} {enc : TypeId × Go.Value → H} {W : World} {base : Nat} {sp : Nat → Bool} {held : Bool} {n : Nat} {l : List Go.Value} {xs : List (DataW H × List MemPlace)} {off i : Nat} (h : DataW.trod enc Tryz.prog W base sp held n 24 ((l.drop off).take (Tryz.prog.cellsOf 24)) = xs[i]?) (hi : i < xs.length) (ho : off + 1 < l.length) :
    ∃ z1 z2, l.getD off undef = .int .i64 z1 ∧ l.getD (off + 1) undef = .int .i64 z2 := by
  rw [List.getElem?_eq_getElem hi, show Tryz.prog.cellsOf 24 = 2 from by kernel_rfl] at h
  obtain ⟨ys, m, _, _, _, hyl, hg⟩ := DataW.trod_struct Tryz.underlying24 h
  have hyl : ys.length = 2 := hyl
  have h2 : ((l.drop off).take 2).length = 2 := by simp; omega
  obtain ⟨z1, e1⟩ := f_int (t := 3) (l := (l.drop off).take 2) (off := 0) (hg 0 _ rfl) (by omega) (by omega) (by kernel_rfl) Tryz.underlying3
  obtain ⟨z2, e2⟩ := f_int (t := 3) (l := (l.drop off).take 2) (off := 1) (hg 1 _ rfl) (by omega) (by omega) (by kernel_rfl) Tryz.underlying3
  refine ⟨z1, z2, ?_, ?_⟩
  · rw [← e1]; simp [List.getD_eq_getElem?_getD]
  · rw [← e2]; simp [List.getD_eq_getElem?_getD]

/-- Its texts and lists are no longer than this. -/
def BulkO (k : Nat) (o : Oj) : Prop := (o.name.size ≤ k ∧ o.dep.size ≤ k ∧ o.set.size ≤ k ∧ o.node.size ≤ k ∧ o.holder.size ≤ k) ∧ (o.image.size ≤ k ∧ o.labs.length ≤ k ∧ ∀ x ∈ o.labs, x.1.size ≤ k ∧ x.2.size ≤ k) ∧ o.sel.length ≤ k
/-- Both lists can be read. -/
def OAt (w : World) (o : Oj) (a : Option Addr) (a' : Option Addr) : Prop := LabAt w a o.labs ∧ LabAt w a' o.sel
theorem open_object {H : Type} {enc : TypeId × Go.Value → H} {W : World} {b0 base : Nat} {v : Go.Value} {d : DataW H} {ps : List MemPlace} {sp : Nat → Bool} {held : Bool} {r : Reach}
    (hv : Go.Value.okWide Tryz.prog W r b0 27 v) (h : DataW.Trod enc Tryz.prog W base sp held 27 v d ps) :
    ∃ (o : Oj) (a : Option Addr) (c : Nat) (a' : Option Addr) (c' : Nat), v = (ov o a c a' c').val ∧ OAt W o a a' ∧ Sz o ∧ o.labs.length ≤ c ∧ o.sel.length ≤ c' ∧ ((d.weights Tryz.prog 27).all (· ≤ reachBytes) = true → o.labs.length * 32 ≤ 140737488351232 ∧ o.sel.length * 32 ≤ 140737488351232) ∧ (∀ k, Rows.uptoBulk d ≤ k → BulkO k o) := by
  obtain ⟨⟨l⟩, rfl, hsz⟩ := okWide_struct Tryz.underlying27 hv
  have hlen : l.length = 32 := hsz.trans (by kernel_rfl)
  obtain ⟨fuel, hf⟩ := h
  obtain ⟨xs, n, rfl, hx, _, hxl, hfl⟩ := DataW.trod_struct Tryz.underlying27 hf
  have hxl : xs.length = 30 := hxl
  obtain ⟨z0, e0⟩ := f_int (t := 3) (l := l) (off := 0) (hfl 0 _ rfl) (by omega) (by omega) (by kernel_rfl) Tryz.underlying3
  obtain ⟨z1, e1, zs1⟩ := f_str (t := 9) (l := l) (off := 1) (hfl 1 _ rfl) (by omega) (by omega) (by kernel_rfl) Tryz.underlying9
  obtain ⟨z2, e2⟩ := f_int (t := 3) (l := l) (off := 2) (hfl 2 _ rfl) (by omega) (by omega) (by kernel_rfl) Tryz.underlying3
  obtain ⟨z3, e3⟩ := f_int (t := 3) (l := l) (off := 3) (hfl 3 _ rfl) (by omega) (by omega) (by kernel_rfl) Tryz.underlying3
  have h4 : DataW.trod enc Tryz.prog W base sp held n 22 ((l.drop 4).take (Tryz.prog.cellsOf 22)) = xs[4]? := hfl 4 _ rfl
  rw [List.getElem?_eq_getElem (by omega), show Tryz.prog.cellsOf 22 = 1 from by kernel_rfl, take1_drop l 4 undef (by omega)] at h4
  obtain ⟨a4, L4, c4, e4, hl4, hz4, hc4, hw4, hb4⟩ := open_labT h4
  replace e4 := (List.cons.inj e4).1
  obtain ⟨z5, z6, e5, e6⟩ := f_amt (l := l) (off := 5) (hfl 5 _ rfl) (by omega) (by omega)
  obtain ⟨z7, e7⟩ := f_bool (t := 4) (l := l) (off := 7) (hfl 6 _ rfl) (by omega) (by omega) (by kernel_rfl) Tryz.underlying4
  obtain ⟨z8, e8⟩ := f_bool (t := 4) (l := l) (off := 8) (hfl 7 _ rfl) (by omega) (by omega) (by kernel_rfl) Tryz.underlying4
  obtain ⟨z9, e9⟩ := f_bool (t := 4) (l := l) (off := 9) (hfl 8 _ rfl) (by omega) (by omega) (by kernel_rfl) Tryz.underlying4
  obtain ⟨z10, e10⟩ := f_int (t := 3) (l := l) (off := 10) (hfl 9 _ rfl) (by omega) (by omega) (by kernel_rfl) Tryz.underlying3
  obtain ⟨z11, e11, zs11⟩ := f_str (t := 9) (l := l) (off := 11) (hfl 10 _ rfl) (by omega) (by omega) (by kernel_rfl) Tryz.underlying9
  obtain ⟨z12, e12, zs12⟩ := f_str (t := 9) (l := l) (off := 12) (hfl 11 _ rfl) (by omega) (by omega) (by kernel_rfl) Tryz.underlying9
  obtain ⟨z13, e13, zs13⟩ := f_str (t := 9) (l := l) (off := 13) (hfl 12 _ rfl) (by omega) (by omega) (by kernel_rfl) Tryz.underlying9
  obtain ⟨z14, e14⟩ := f_int (t := 3) (l := l) (off := 14) (hfl 13 _ rfl) (by omega) (by omega) (by kernel_rfl) Tryz.underlying3
  obtain ⟨z15, e15⟩ := f_bool (t := 4) (l := l) (off := 15) (hfl 14 _ rfl) (by omega) (by omega) (by kernel_rfl) Tryz.underlying4
  obtain ⟨z16, e16⟩ := f_bool (t := 4) (l := l) (off := 16) (hfl 15 _ rfl) (by omega) (by omega) (by kernel_rfl) Tryz.underlying4
  obtain ⟨z17, z18, e17, e18⟩ := f_amt (l := l) (off := 17) (hfl 16 _ rfl) (by omega) (by omega)
  obtain ⟨z19, e19, zs19⟩ := f_str (t := 9) (l := l) (off := 19) (hfl 17 _ rfl) (by omega) (by omega) (by kernel_rfl) Tryz.underlying9
  obtain ⟨z20, e20⟩ := f_int (t := 3) (l := l) (off := 20) (hfl 18 _ rfl) (by omega) (by omega) (by kernel_rfl) Tryz.underlying3
  obtain ⟨z21, e21⟩ := f_int (t := 3) (l := l) (off := 21) (hfl 19 _ rfl) (by omega) (by omega) (by kernel_rfl) Tryz.underlying3
  obtain ⟨z22, e22⟩ := f_int (t := 3) (l := l) (off := 22) (hfl 20 _ rfl) (by omega) (by omega) (by kernel_rfl) Tryz.underlying3
  obtain ⟨z23, e23⟩ := f_int (t := 3) (l := l) (off := 23) (hfl 21 _ rfl) (by omega) (by omega) (by kernel_rfl) Tryz.underlying3
  obtain ⟨z24, e24⟩ := f_int (t := 3) (l := l) (off := 24) (hfl 22 _ rfl) (by omega) (by omega) (by kernel_rfl) Tryz.underlying3
  obtain ⟨z25, e25⟩ := f_bool (t := 4) (l := l) (off := 25) (hfl 23 _ rfl) (by omega) (by omega) (by kernel_rfl) Tryz.underlying4
  obtain ⟨z26, e26⟩ := f_int (t := 25) (l := l) (off := 26) (hfl 24 _ rfl) (by omega) (by omega) (by kernel_rfl) Tryz.underlying25
  have h27 : DataW.trod enc Tryz.prog W base sp held n 22 ((l.drop 27).take (Tryz.prog.cellsOf 22)) = xs[25]? := hfl 25 _ rfl
  rw [List.getElem?_eq_getElem (by omega), show Tryz.prog.cellsOf 22 = 1 from by kernel_rfl, take1_drop l 27 undef (by omega)] at h27
  obtain ⟨a27, L27, c27, e27, hl27, hz27, hc27, hw27, hb27⟩ := open_labT h27
  replace e27 := (List.cons.inj e27).1
  obtain ⟨z28, e28⟩ := f_int (t := 3) (l := l) (off := 28) (hfl 26 _ rfl) (by omega) (by omega) (by kernel_rfl) Tryz.underlying3
  obtain ⟨z29, e29, zs29⟩ := f_str (t := 9) (l := l) (off := 29) (hfl 27 _ rfl) (by omega) (by omega) (by kernel_rfl) Tryz.underlying9
  obtain ⟨z30, e30⟩ := f_int (t := 3) (l := l) (off := 30) (hfl 28 _ rfl) (by omega) (by omega) (by kernel_rfl) Tryz.underlying3
  obtain ⟨z31, e31⟩ := f_int (t := 3) (l := l) (off := 31) (hfl 29 _ rfl) (by omega) (by omega) (by kernel_rfl) Tryz.underlying3
  have e := list_getD undef l
  rw [hlen] at e
  replace e : l = [l.getD 0 undef, l.getD 1 undef, l.getD 2 undef, l.getD 3 undef, l.getD 4 undef, l.getD 5 undef, l.getD 6 undef, l.getD 7 undef, l.getD 8 undef, l.getD 9 undef, l.getD 10 undef, l.getD 11 undef, l.getD 12 undef, l.getD 13 undef, l.getD 14 undef, l.getD 15 undef, l.getD 16 undef, l.getD 17 undef, l.getD 18 undef, l.getD 19 undef, l.getD 20 undef, l.getD 21 undef, l.getD 22 undef, l.getD 23 undef, l.getD 24 undef, l.getD 25 undef, l.getD 26 undef, l.getD 27 undef, l.getD 28 undef, l.getD 29 undef, l.getD 30 undef, l.getD 31 undef] := e
  refine ⟨⟨z0, z1, z2, z3, L4, z5, z6, z7, z8, z9, z10, z11, z12, z13, z14, z15, z16, z17, z18, z19, z20, z21, z22, z23, z24, z25, z26, L27, z28, z29, z30, z31⟩, a4, c4, a27, c27, ?_, ⟨hl4, hl27⟩, ⟨zs19.1, hz4⟩, hc4, hc27, fun hw => ?_, fun k hk => ?_⟩
  · rw [e, e0, e1, e2, e3, e4, e5, e6, e7, e8, e9, e10, e11, e12, e13, e14, e15, e16, e17, e18, e19, e20, e21, e22, e23, e24, e25, e26, e27, e28, e29, e30, e31]
    rfl
  · have hd : d = .agg (xs.map (·.1)) := congrArg Prod.fst hx
    rw [hd] at hw
    simp only [DataW.weights, Tryz.underlying27] at hw
    exact ⟨hw4 (weights_at hw 4 _ _ rfl (by rw [List.getElem?_map, List.getElem?_eq_getElem (by omega)]; rfl)), hw27 (weights_at hw 25 _ _ rfl (by rw [List.getElem?_map, List.getElem?_eq_getElem (by omega)]; rfl))⟩
  · have hd : d = .agg (xs.map (·.1)) := congrArg Prod.fst hx
    rw [hd] at hk
    have hmm : ∀ i (h : i < xs.length), Rows.uptoBulk (xs[i]'h).1 ≤ k := fun i h => Nat.le_trans (bulk_agg (List.mem_map_of_mem (List.getElem_mem h))) hk
    exact ⟨⟨Nat.le_trans zs1.2 (hmm 1 (by omega)), Nat.le_trans zs11.2 (hmm 10 (by omega)), Nat.le_trans zs12.2 (hmm 11 (by omega)), Nat.le_trans zs13.2 (hmm 12 (by omega)), Nat.le_trans zs29.2 (hmm 27 (by omega))⟩,
      ⟨Nat.le_trans zs19.2 (hmm 17 (by omega)), hb4 k (hmm 4 (by omega))⟩, (hb27 k (hmm 25 (by omega))).1⟩
end Go.Fl
