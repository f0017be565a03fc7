/-
  Append, up to the room that the language gives. No condition.
-/
import Derived.Test.YtiepomeokhjcfaaGreatDoorApp
import Derived.Test.YtiepomeokhjcfaaGreatDoorOut
namespace Go.Fl
open Go.Proofs Go.RowKit
set_option maxRecDepth 10000
set_option maxHeartbeats 4000000

theorem apNw {C : Cx} {ops : Array Oper} {rest : List Oper} {k : List Item} {e : Env} {hs : Hs} {d : Nat} {ty : TypeId} {pos : String} {af : Array Edge} {tb : Tab} {t et : TypeId} {x y : Operand} {b off m c sz by_ : Nat} {z : Go.Value} {news : List Go.Value} (hT : TabOk C.P tb) (hd : Nat.blt d C.N = true) (hx : ev e x = some (.slice none 0 0)) (hy : ev e y = some (.slice (some ⟨b, off, none⟩) m c))
    (ht : elemL tb t = some (et, sz)) (h1 : sizeL tb et = some sz) (h2 : bytesL tb et = some by_) (h3 : zeroL tb et = some z) (hz : z.cells.size = sz) (hm : 0 < m) (hmm : m ≤ 70368744177664) (hby : m * by_ ≤ 140737488355328)
    (hnews : ∀ w, St C.W0 C.own hs w → Reads w ⟨b, off, none⟩ news) (hl : news.length = m * sz)
    (next : ∀ g cap cur, Grew g m cap sz cur news → Ops C ops rest k ((d, .slice (some ⟨g, 0, none⟩) m cap) :: e) ((g, .cells cur et) :: hs)) :
    Ops C ops (⟨some d, .call { callee := .builtin .append, args := #[x, y], argTypes := #[t, t] }, ty, pos, af, none⟩ :: rest) k e hs := by
  obtain ⟨i, hi, g1, g2, g3⟩ := info_of hT h1 h2 h3
  have hu : C.P.underlying t = some (.slice et) := by
    have := elem_of hT ht
    unfold elemT at this
    cases hu : C.P.underlying t with
    | none => simp [hu] at this
    | some u => cases u <;> simp [hu] at this; obtain ⟨_, _, rfl, _⟩ := this; rfl
  have hmax : m ≤ maxLen := by unfold maxLen; omega
  refine op_some (Φ := fun v hs' => ∃ g cap cur, v = .slice (some ⟨g, 0, none⟩) m cap ∧ hs' = (g, .cells cur et) :: hs ∧ Grew g m cap sz cur news) hd (fun a w ok => ?_) ?_
  · have hr := run_append_nil (P := C.P) w t ty et i z hu hi g3 ⟨b, off, none⟩ m c news (by rw [g1]; exact hl) (reads_get news off (hnews w ok.st)) hm (by omega) (by rw [g2]; exact Nat.le_trans hby (by decide))
    refine ⟨_, _, w.drew.alloc (.cells (news.toArray ++ Builtin.zeroCells z.cells (grownCap w m 0 et - m)) et), ?_, ok.st.alloc_own (List.Sublist.refl _) _, w.heap.size, grownCap w m 0 et, _, rfl, rfl, ?_⟩
    · simp only [execOp, resolve, invoke]
      simp [ok.e.eval hx, ok.e.eval hy, builtin, hr]
    · have hge := grownCap_ge w m 0 et
      refine ⟨?_, hge, grownCap_le_maxLen w m 0 et hmax, ?_⟩
      · simp only [Array.size_append, List.size_toArray, size_zeroCells, hz, hl, ← Nat.add_mul]
        congr 1; omega
      · rw [Array.toList_append, List.take_append_of_le_length (by simp [hl]), List.take_of_length_le (by simp [hl])]
  · rintro v hs' ⟨g, cap, cur, rfl, rfl, hg⟩; exact next g cap cur hg

/-- To a slice of our own: in its place, or in a new one. -/
theorem apOw {C : Cx} {ops : Array Oper} {rest : List Oper} {k : List Item} {e : Env} {hs : Hs} {d : Nat} {ty : TypeId} {pos : String} {af : Array Edge} {tb : Tab} (i : Nat) {t et : TypeId} {x y : Operand} {g n cap b off m c sz by_ : Nat} {cur : Array Go.Value} {xs : List Go.Value} {z : Go.Value} {news : List Go.Value} (hT : TabOk C.P tb) (hd : Nat.blt d C.N = true)
    (hx : ev e x = some (.slice (some ⟨g, 0, none⟩) n cap)) (hy : ev e y = some (.slice (some ⟨b, off, none⟩) m c)) (hi : hs[i]? = some (g, .cells cur et)) (hg : Grew g n cap sz cur xs)
    (ht : elemL tb t = some (et, sz)) (h1 : sizeL tb et = some sz) (h2 : bytesL tb et = some by_) (h3 : zeroL tb et = some z) (hz : z.cells.size = sz) (_ : 0 < sz) (hmm : n + m ≤ 70368744177664) (hby : (n + m) * by_ ≤ 140737488355328)
    (hnews : ∀ w, St C.W0 C.own hs w → Reads w ⟨b, off, none⟩ news) (hl : news.length = m * sz) (hone : ∀ u ∈ news, u.oneCell' = true)
    (next : ∀ g cap cur, Grew g (n + m) cap sz cur (xs ++ news) → Ops C ops rest k ((d, .slice (some ⟨g, 0, none⟩) (n + m) cap) :: e) ((g, .cells cur et) :: hs.eraseIdx i)) :
    Ops C ops (⟨some d, .call { callee := .builtin .append, args := #[x, y], argTypes := #[t, t] }, ty, pos, af, none⟩ :: rest) k e hs := by
  obtain ⟨inf, hinf, g1, g2, g3⟩ := info_of hT h1 h2 h3
  have hu : C.P.underlying t = some (.slice et) := by
    have := elem_of hT ht
    unfold elemT at this
    cases hu : C.P.underlying t with
    | none => simp [hu] at this
    | some u => cases u <;> simp [hu] at this; obtain ⟨_, _, rfl, _⟩ := this; rfl
  have hxl : xs.length = n * sz := by rw [← hg.cells, List.length_take, Array.length_toList, hg.size]; exact Nat.min_eq_left (Nat.mul_le_mul_right _ hg.le)
  refine op_some (Φ := fun v hs' => ∃ g cap cur, v = .slice (some ⟨g, 0, none⟩) (n + m) cap ∧ hs' = (g, .cells cur et) :: hs.eraseIdx i ∧ Grew g (n + m) cap sz cur (xs ++ news)) hd (fun a w ok => ?_) ?_
  · have hil : i < hs.length := (List.getElem?_eq_some_iff.1 hi).1
    have hb : w.heap[g]? = some (.cells cur et (0, 0)) := ok.st.has _ (List.mem_of_getElem? hi)
    have hnw := reads_get news off (hnews w ok.st)
    by_cases hroom : n + m ≤ cap
    · have hfit : n * sz + news.length ≤ cur.size := by rw [hl, ← Nat.add_mul, hg.size]; exact Nat.mul_le_mul_right _ hroom
      have hr := run_append_room (P := C.P) w t ty et inf hu hinf g n cap cur hb ⟨b, off, none⟩ m c news (by rw [g1]; exact hl) hnw hone hroom (by rw [g1]; exact hfit)
      rw [g1] at hr
      refine ⟨_, _, w.setRow g (cur.toList.take (n * sz) ++ news ++ cur.toList.drop (n * sz + news.length)).toArray, ?_, ?_, g, cap, (cur.toList.take (n * sz) ++ news ++ cur.toList.drop (n * sz + news.length)).toArray, rfl, rfl, ?_⟩
      · simp only [execOp, resolve, invoke]
        simp [ok.e.eval hx, ok.e.eval hy, builtin, hr]
      · refine (St.set (w' := w.setRow g (cur.toList.take (n * sz) ++ news ++ cur.toList.drop (n * sz + news.length)).toArray) ok.st hi rfl rfl rfl (by simp) (setRow_heap w g cur _ et (0, 0) hb) (fun k hk => setRow_other w g k _ hk)).perm (set_perm_eraseIdx _ _ _ hil).symm
      · refine ⟨?_, hroom, hg.max, ?_⟩
        · simp only [List.size_toArray, List.length_append, List.length_take, List.length_drop, Array.length_toList]
          rw [← hg.size]; omega
        · rw [hg.cells]
          simp only [List.append_assoc]
          rw [← List.append_assoc, List.take_append_of_le_length (by rw [List.length_append, hxl, hl, ← Nat.add_mul]; exact Nat.le_refl _), List.take_of_length_le (by rw [List.length_append, hxl, hl, ← Nat.add_mul]; exact Nat.le_refl _)]
    · have holds : ∀ j v, xs[j]? = some v → w.cell? ((⟨g, 0, none⟩ : Addr).add j) = some v := by
        intro j v hj
        rw [add_none]
        rw [← hg.cells, List.getElem?_take] at hj
        split at hj
        · simp [World.cell?, hb]; simpa using hj
        · cases hj
      have hmax : n + m ≤ maxLen := by unfold maxLen; omega
      have hr := run_append_grow (P := C.P) w t ty et inf z hu hinf g3 ⟨g, 0, none⟩ n cap xs (by rw [g1]; exact hxl) holds ⟨b, off, none⟩ m c news (by rw [g1]; exact hl) hnw (by omega) (by omega)
        (growslice_fits (by omega) (by rw [g2]; exact hby))
      refine ⟨_, _, _, ?_, ok.st.alloc_own (List.eraseIdx_sublist _ i) (.cells (xs.toArray ++ news.toArray ++ Builtin.zeroCells z.cells (grownCap w (n + m) cap et - (n + m))) et), w.heap.size, grownCap w (n + m) cap et, _, rfl, rfl, ?_⟩
      · simp only [execOp, resolve, invoke]
        simp [ok.e.eval hx, ok.e.eval hy, builtin, hr]
      · have hge := grownCap_ge w (n + m) cap et
        refine ⟨?_, hge, grownCap_le_maxLen w (n + m) cap et hmax, ?_⟩
        · simp only [Array.size_append, List.size_toArray, size_zeroCells, hz, hxl, hl, ← Nat.add_mul]
          congr 1; omega
        · rw [Array.toList_append, List.take_append_of_le_length (by simp [hxl, hl, Nat.add_mul]), List.take_of_length_le (by simp [hxl, hl, Nat.add_mul])]
          simp
  · rintro v hs' ⟨g, cap, cur, rfl, rfl, hg⟩; exact next g cap cur hg

/-- One label more, whatever else there is. -/
theorem apLw {C : Cx} {ops : Array Oper} {rest : List Oper} {k : List Item} {e : Env} {bs qs : Hs} {d b : Nat} {ty : TypeId} {pos : String} {af : Array Edge} {x y : Operand} {out : List Lab} {l : Lab} {v : Go.Value} (hT : TabOk C.P tab) (hd : Nat.blt d C.N = true)
    (ho : OutAt out v bs) (hlen : out.length ≤ 4398046511103) (hx : ev e x = some v) (hy : ev e y = some (.slice (some ⟨b, 0, none⟩) 1 1))
    (next : ∀ v' bs', OutAt (out ++ [l]) v' bs' → Ops C ops rest k ((d, v') :: e) (bs' ++ qs)) :
    Ops C ops (⟨some d, .call { callee := .builtin .append, args := #[x, y], argTypes := #[22, 22] }, ty, pos, af, none⟩ :: rest) k e (bs ++ (b, .cells #[.string l.1, .string l.2] 125) :: qs) := by
  have hnews : ∀ (hs : Hs), (b, Obj.cells #[.string l.1, .string l.2] 125) ∈ hs → ∀ w, St C.W0 C.own hs w → Reads w ⟨b, 0, none⟩ [.string l.1, .string l.2] := fun hs hm w hst =>
    (reads_of_block (hst.has _ hm) 2 0 [.string l.1, .string l.2] rfl).1
  have hfin : ∀ g cap cur, Grew g (out.length + 1) cap 2 cur (cellsL out ++ [.string l.1, .string l.2]) → OutAt (out ++ [l]) (.slice (some ⟨g, 0, none⟩) (out.length + 1) cap) [(g, .cells cur 125)] := by
    intro g cap cur hg
    rw [← cellsL_app] at hg
    obtain ⟨spare, rfl⟩ := grew_block (L := out ++ [l]) hg rfl (by simp)
    exact Or.inr ⟨g, cap, spare, by simp, rfl, by simpa using hg⟩
  have hdrop : ∀ (x : Nat × Obj) w, St C.W0 C.own (x :: (b, Obj.cells #[.string l.1, .string l.2] 125) :: qs) w → St C.W0 C.own ([x] ++ qs) w := fun x w h =>
    h.sub (List.Sublist.cons_cons _ (List.Sublist.cons _ (List.Sublist.refl _)))
  rcases ho with ⟨rfl, rfl, rfl⟩ | ⟨g, cap, spare, rfl, rfl, hg⟩
  · refine apNw (news := [.string l.1, .string l.2]) hT hd hx hy rfl rfl rfl rfl rfl (by decide) (by decide) (by decide) (hnews _ (by simp)) rfl (fun g cap cur hg => ?_)
    exact ops_st (hdrop (g, _)) (next _ _ (hfin g cap cur hg))
  · refine apOw 0 (news := [.string l.1, .string l.2]) (xs := cellsL out) hT hd hx hy rfl hg rfl rfl rfl rfl rfl (by decide) (by omega) (by omega) (hnews _ (by simp)) rfl (by intro u hu; simp at hu; rcases hu with rfl | rfl <;> rfl) (fun g' cap' cur' hg' => ?_)
    exact ops_st (hdrop (g', _)) (next _ _ (hfin g' cap' cur' hg'))

end Go.Fl
