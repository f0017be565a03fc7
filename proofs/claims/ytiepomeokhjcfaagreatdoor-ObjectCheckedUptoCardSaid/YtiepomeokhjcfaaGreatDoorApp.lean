/-
  Appending to a slice of our own; small slices written out. No condition.
-/
import Derived.Test.YtiepomeokhjcfaaGreatDoorIface
import Derived.Laws.Append
namespace Go.Fl
open Go.Proofs Go.RowKit

theorem set_perm_eraseIdx {α : Type} : ∀ (l : List α) (i : Nat) (x : α), i < l.length → (l.set i x).Perm (x :: l.eraseIdx i)
  | [], i, x, h => by simp at h
  | y :: l, 0, x, _ => List.Perm.refl _
  | y :: l, i + 1, x, h => by
    have := set_perm_eraseIdx l i x (by simpa using h)
    simp only [List.set_cons_succ, List.eraseIdx_cons_succ]
    exact (this.cons y).trans (List.Perm.swap x y _)

theorem reads_get {w : World} {b : Nat} : ∀ (vs : List Value) (off : Nat), Reads w ⟨b, off, none⟩ vs → ∀ j v, vs[j]? = some v → w.cell? ((⟨b, off, none⟩ : Addr).add j) = some v := by
  intro vs
  induction vs with
  | nil => intro off _ j v h; simp at h
  | cons x vs ih =>
    intro off hr j v h
    obtain ⟨h1, h2⟩ := hr
    rw [add_none] at h2
    rw [add_none]
    cases j with
    | zero => simp at h; subst h; simpa using h1
    | succ j =>
      have := ih (off + 1) h2 j v (by simpa using h)
      rw [add_none] at this
      rw [show off + (j + 1) = off + 1 + j by omega]; exact this

section
variable {C : Cx} {ops : Array Oper} {rest : List Oper} {k : List Item} {e : Env} {hs : Hs} {d : Nat} {ty : TypeId} {pos : String} {af : Array Edge} {tb : Tab}

/-- What a slice of our own came to. -/
structure Grew (g n cap sz : Nat) (cur : Array Value) (xs : List Value) : Prop where
  size : cur.size = cap * sz
  le : n ≤ cap
  max : cap ≤ maxLen
  cells : cur.toList.take (n * sz) = xs

theorem St.alloc_own {W0 w : World} {own : List Nat} {hs hs' : Hs} (h : St W0 own hs w) (hss : hs'.Sublist hs) (o : Obj) : St W0 own ((w.heap.size, o) :: hs') (w.drew.alloc o) := by
  have h1 := (h.sub hss).push o
  exact ⟨h1.os, h1.tape, h1.output, h1.size, h1.old, h1.has, h1.nodup, h1.mine⟩

/-- To no slice yet. -/
theorem apN {t et : TypeId} {x y : Operand} {b off m c sz by_ : Nat} {z : Value} {news : List Value} (hT : TabOk C.P tb) (hd : Nat.blt d C.N = true) (hx : ev e x = some (.slice none 0 0)) (hy : ev e y = some (.slice (some ⟨b, off, none⟩) m c))
    (ht : elemL tb t = some (et, sz)) (h1 : sizeL tb et = some sz) (h2 : bytesL tb et = some by_) (h3 : zeroL tb et = some z) (hz : z.cells.size = sz) (hm : 0 < m) (hmm : m ≤ 4194304) (hby : by_ ≤ 1024)
    (hnews : ∀ w, St C.W0 C.own hs w → Reads w ⟨b, off, none⟩ news) (hl : news.length = m * sz)
    (next : ∀ g cap cur, Grew g m cap sz cur news → Ops C ops rest k ((d, .slice (some ⟨g, 0, none⟩) m cap) :: e) ((g, .cells cur et) :: hs)) :
    Ops C ops (⟨some d, .call { callee := .builtin .append, args := #[x, y], argTypes := #[t, t] }, ty, pos, af, none⟩ :: rest) k e hs := by
  obtain ⟨i, hi, g1, g2, g3⟩ := info_of hT h1 h2 h3
  have hu : C.P.underlying t = some (.slice et) := by
    have := elem_of hT ht
    unfold elemT at this
    cases hu : C.P.underlying t with
    | none => simp [hu] at this
    | some u => cases u <;> simp [hu] at this; obtain ⟨_, _, rfl, _⟩ := this; rfl
  have hmax : m ≤ maxLen := by unfold maxLen; omega
  refine op_some (Φ := fun v hs' => ∃ g cap cur, v = .slice (some ⟨g, 0, none⟩) m cap ∧ hs' = (g, .cells cur et) :: hs ∧ Grew g m cap sz cur news) hd (fun a w ok => ?_) ?_
  · have hr := run_append_nil (P := C.P) w t ty et i z hu hi g3 ⟨b, off, none⟩ m c news (by rw [g1]; exact hl) (reads_get news off (hnews w ok.st)) hm (by omega) (by
      rw [g2]; calc m * by_ ≤ 4194304 * 1024 := Nat.mul_le_mul hmm hby
                   _ ≤ _ := by decide)
    refine ⟨_, _, w.drew.alloc (.cells (news.toArray ++ Builtin.zeroCells z.cells (grownCap w m 0 et - m)) et), ?_, ok.st.alloc_own (List.Sublist.refl _) _, w.heap.size, grownCap w m 0 et, _, rfl, rfl, ?_⟩
    · simp only [execOp, resolve, invoke]
      simp [ok.e.eval hx, ok.e.eval hy, builtin, hr]
    · have hge := grownCap_ge w m 0 et
      refine ⟨?_, hge, grownCap_le_maxLen w m 0 et hmax, ?_⟩
      · simp only [Array.size_append, List.size_toArray, size_zeroCells, hz, hl, ← Nat.add_mul]
        congr 1; omega
      · rw [Array.toList_append, List.take_append_of_le_length (by simp [hl]), List.take_of_length_le (by simp [hl])]
  · rintro v hs' ⟨g, cap, cur, rfl, rfl, hg⟩; exact next g cap cur hg

/-- To a slice of our own: in its place, or in a new one. -/
theorem apO (i : Nat) {t et : TypeId} {x y : Operand} {g n cap b off m c sz by_ : Nat} {cur : Array Value} {xs : List Value} {z : Value} {news : List Value} (hT : TabOk C.P tb) (hd : Nat.blt d C.N = true)
    (hx : ev e x = some (.slice (some ⟨g, 0, none⟩) n cap)) (hy : ev e y = some (.slice (some ⟨b, off, none⟩) m c)) (hi : hs[i]? = some (g, .cells cur et)) (hg : Grew g n cap sz cur xs)
    (ht : elemL tb t = some (et, sz)) (h1 : sizeL tb et = some sz) (h2 : bytesL tb et = some by_) (h3 : zeroL tb et = some z) (hz : z.cells.size = sz) (_ : 0 < sz) (hmm : n + m ≤ 4194304) (hby : by_ ≤ 1024)
    (hnews : ∀ w, St C.W0 C.own hs w → Reads w ⟨b, off, none⟩ news) (hl : news.length = m * sz) (hone : ∀ u ∈ news, u.oneCell' = true)
    (next : ∀ g cap cur, Grew g (n + m) cap sz cur (xs ++ news) → Ops C ops rest k ((d, .slice (some ⟨g, 0, none⟩) (n + m) cap) :: e) ((g, .cells cur et) :: hs.eraseIdx i)) :
    Ops C ops (⟨some d, .call { callee := .builtin .append, args := #[x, y], argTypes := #[t, t] }, ty, pos, af, none⟩ :: rest) k e hs := by
  obtain ⟨inf, hinf, g1, g2, g3⟩ := info_of hT h1 h2 h3
  have hu : C.P.underlying t = some (.slice et) := by
    have := elem_of hT ht
    unfold elemT at this
    cases hu : C.P.underlying t with
    | none => simp [hu] at this
    | some u => cases u <;> simp [hu] at this; obtain ⟨_, _, rfl, _⟩ := this; rfl
  have hxl : xs.length = n * sz := by rw [← hg.cells, List.length_take, Array.length_toList, hg.size]; exact Nat.min_eq_left (Nat.mul_le_mul_right _ hg.le)
  refine op_some (Φ := fun v hs' => ∃ g cap cur, v = .slice (some ⟨g, 0, none⟩) (n + m) cap ∧ hs' = (g, .cells cur et) :: hs.eraseIdx i ∧ Grew g (n + m) cap sz cur (xs ++ news)) hd (fun a w ok => ?_) ?_
  · have hil : i < hs.length := (List.getElem?_eq_some_iff.1 hi).1
    have hb : w.heap[g]? = some (.cells cur et (0, 0)) := ok.st.has _ (List.mem_of_getElem? hi)
    have hnw := reads_get news off (hnews w ok.st)
    by_cases hroom : n + m ≤ cap
    · have hfit : n * sz + news.length ≤ cur.size := by rw [hl, ← Nat.add_mul, hg.size]; exact Nat.mul_le_mul_right _ hroom
      have hr := run_append_room (P := C.P) w t ty et inf hu hinf g n cap cur hb ⟨b, off, none⟩ m c news (by rw [g1]; exact hl) hnw hone hroom (by rw [g1]; exact hfit)
      rw [g1] at hr
      refine ⟨_, _, w.setRow g (cur.toList.take (n * sz) ++ news ++ cur.toList.drop (n * sz + news.length)).toArray, ?_, ?_, g, cap, (cur.toList.take (n * sz) ++ news ++ cur.toList.drop (n * sz + news.length)).toArray, rfl, rfl, ?_⟩
      · simp only [execOp, resolve, invoke]
        simp [ok.e.eval hx, ok.e.eval hy, builtin, hr]
      · refine (St.set (w' := w.setRow g (cur.toList.take (n * sz) ++ news ++ cur.toList.drop (n * sz + news.length)).toArray) ok.st hi rfl rfl rfl (by simp) (setRow_heap w g cur _ et (0, 0) hb) (fun k hk => setRow_other w g k _ hk)).perm (set_perm_eraseIdx _ _ _ hil).symm
      · refine ⟨?_, hroom, hg.max, ?_⟩
        · simp only [List.size_toArray, List.length_append, List.length_take, List.length_drop, Array.length_toList]
          rw [← hg.size]; omega
        · rw [hg.cells]
          simp only [List.append_assoc]
          rw [← List.append_assoc, List.take_append_of_le_length (by rw [List.length_append, hxl, hl, ← Nat.add_mul]; exact Nat.le_refl _), List.take_of_length_le (by rw [List.length_append, hxl, hl, ← Nat.add_mul]; exact Nat.le_refl _)]
    · have holds : ∀ j v, xs[j]? = some v → w.cell? ((⟨g, 0, none⟩ : Addr).add j) = some v := by
        intro j v hj
        rw [add_none]
        rw [← hg.cells, List.getElem?_take] at hj
        split at hj
        · simp [World.cell?, hb]; simpa using hj
        · cases hj
      have hmax : n + m ≤ maxLen := by unfold maxLen; omega
      have hr := run_append_grow (P := C.P) w t ty et inf z hu hinf g3 ⟨g, 0, none⟩ n cap xs (by rw [g1]; exact hxl) holds ⟨b, off, none⟩ m c news (by rw [g1]; exact hl) hnw (by omega) (by omega)
        (growslice_fits (by omega) (by rw [g2]; calc (n + m) * by_ ≤ 4194304 * 1024 := Nat.mul_le_mul hmm hby
                                                    _ ≤ _ := by decide))
      refine ⟨_, _, _, ?_, ok.st.alloc_own (List.eraseIdx_sublist _ i) (.cells (xs.toArray ++ news.toArray ++ Builtin.zeroCells z.cells (grownCap w (n + m) cap et - (n + m))) et), w.heap.size, grownCap w (n + m) cap et, _, rfl, rfl, ?_⟩
      · simp only [execOp, resolve, invoke]
        simp [ok.e.eval hx, ok.e.eval hy, builtin, hr]
      · have hge := grownCap_ge w (n + m) cap et
        refine ⟨?_, hge, grownCap_le_maxLen w (n + m) cap et hmax, ?_⟩
        · simp only [Array.size_append, List.size_toArray, size_zeroCells, hz, hxl, hl, ← Nat.add_mul]
          congr 1; omega
        · rw [Array.toList_append, List.take_append_of_le_length (by simp [hxl, hl, Nat.add_mul]), List.take_of_length_le (by simp [hxl, hl, Nat.add_mul])]
          simp
  · rintro v hs' ⟨g, cap, cur, rfl, rfl, hg⟩; exact next g cap cur hg

/-- One element written out: '[]T{x}'. -/
theorem bs1 {t et : TypeId} {x : Operand} {sz : Nat} {v z : Value} (hT : TabOk C.P tb) (hd : Nat.blt d C.N = true) (hx : ev e x = some v) (ht : elemL tb t = some (et, sz)) (h1 : sizeL tb et = some sz) (h3 : zeroL tb et = some z) (_ : z.cells.size = sz)
    (hv : v.cells.size = sz) (hs0 : Nat.blt 0 sz = true) (hs1 : Nat.ble sz 16777216 = true)
    (next : ∀ b, Ops C ops rest k ((d, .slice (some ⟨b, 0, none⟩) 1 1) :: e) ((b, .cells v.cells et) :: hs)) : Ops C ops (⟨some d, .buildSlice t 1 #[(0, x)], ty, pos, af, none⟩ :: rest) k e hs := by
  have hs0' : 0 < sz := Nat.le_of_ble_eq_true hs0
  have hs1' : sz ≤ 16777216 := Nat.le_of_ble_eq_true hs1
  have hu : C.P.underlying t = some (.slice et) := by
    have := elem_of hT ht
    unfold elemT at this
    cases hu : C.P.underlying t with
    | none => simp [hu] at this
    | some u => cases u <;> simp [hu] at this; obtain ⟨_, _, rfl, _⟩ := this; rfl
  refine op_some (Φ := fun v' hs' => ∃ b, v' = .slice (some ⟨b, 0, none⟩) 1 1 ∧ hs' = (b, .cells v.cells et) :: hs) hd (fun a w ok => ⟨_, _, _, ?_, ok.st.push _, _, rfl, rfl⟩) ?_
  · have hsz := run_sizeOf (w := w) (size_of hT h1)
    have hzz := zero_of hT h3
    have hzr : (zeroValue et).run C.P w = .ok z w := by
      unfold zeroT at hzz
      cases hi : C.P.info? et with
      | none => simp [hi] at hzz
      | some i => simp [hi] at hzz; simp [zeroValue, typeInfo, hi, hzz]
    have hfill : Instr.fill (fun i => some (i * sz, sz)) ((Array.range (1 * sz)).map (z.cells[· % z.cells.size]!)) [(0, v)] = some v.cells := by
      have hlen : ((Array.range (1 * sz)).map (z.cells[· % z.cells.size]!)).toList.length = v.cells.toList.length := by simp [hv]
      unfold Instr.fill
      have hc : (decide (v.cells.size ≠ sz) || decide (0 * sz + v.cells.size > ((Array.range (1 * sz)).map (z.cells[· % z.cells.size]!)).size)) = false := by
        rw [hv]; simp
      simp only [hc, Bool.false_eq_true, if_false]
      rw [← Array.foldl_toList, Array.toList_zipIdx, fill_lay]
      have h := lay_whole v.cells.toList [] ((Array.range (1 * sz)).map (z.cells[· % z.cells.size]!)).toList hlen
      simp only [List.nil_append, List.length_nil, Array.toArray_toList] at h
      simp only [Instr.fill, Nat.zero_mul, Nat.add_zero]
      rw [h]
    have hn1 : ¬ (1 * sz > 2 ^ 24) := by simp; omega
    have hn2 : ¬ (1 * sz = 0) := by omega
    simp only [execOp, Instr.buildSlice, run_underlying_some hu, Sem.run_bind, Result.andThen_ok, hsz, if_neg hn1, if_neg hn2, Sem.run_pure, hzr, List.map_toArray, List.map_cons, List.map_nil, ok.e.eval hx, hfill]
    simp [newRow]
  · rintro v' hs' ⟨b, rfl, rfl⟩; exact next b
end
end Go.Fl
