/-
  Lists that share memory or do not: what appending to a list of our own leaves of it. No condition.
-/
import Derived.Test.YtggbiiicoabkmaaDoorMark
import Derived.Test.YtggbiiicoabkmaaDoorLabF
namespace Go.Fl
open Go.Proofs Go.RowKit
set_option maxRecDepth 10000
set_option maxHeartbeats 4000000

theorem apO2 {C : Cx} {ops : Array Oper} {rest : List Oper} {k : List Item} {e : Env} {hs : Hs} {d : Nat} {ty : TypeId} {pos : String} {af : Array Edge} {tb : Tab} (i : Nat) {t et : TypeId} {x y : Operand} {g n cap b off m c sz by_ : Nat} {cur : Array Go.Value} {xs : List Go.Value} {z : Go.Value} {news : List Go.Value} (hT : TabOk C.P tb) (hd : Nat.blt d C.N = true)
    (hx : ev e x = some (.slice (some ⟨g, 0, none⟩) n cap)) (hy : ev e y = some (.slice (some ⟨b, off, none⟩) m c)) (hi : hs[i]? = some (g, .cells cur et)) (hg : Grew g n cap sz cur xs)
    (ht : elemL tb t = some (et, sz)) (h1 : sizeL tb et = some sz) (h2 : bytesL tb et = some by_) (h3 : zeroL tb et = some z) (hz : z.cells.size = sz) (hs0 : 0 < sz) (hmm : n + m ≤ 4194304) (hby : by_ ≤ 1024)
    (hnews : ∀ w, St C.W0 C.own hs w → Reads w ⟨b, off, none⟩ news) (hl : news.length = m * sz) (hone : ∀ u ∈ news, u.oneCell' = true)
    (same : ∀ cur, Grew g (n + m) cap sz cur (xs ++ news) → Ops C ops rest k ((d, .slice (some ⟨g, 0, none⟩) (n + m) cap) :: e) ((g, .cells cur et) :: hs.eraseIdx i))
    (moved : ∀ g cap cur, Grew g (n + m) cap sz cur (xs ++ news) → Ops C ops rest k ((d, .slice (some ⟨g, 0, none⟩) (n + m) cap) :: e) ((g, .cells cur et) :: hs)) :
    Ops C ops (⟨some d, .call { callee := .builtin .append, args := #[x, y], argTypes := #[t, t] }, ty, pos, af, none⟩ :: rest) k e hs := by
  obtain ⟨inf, hinf, g1, g2, g3⟩ := info_of hT h1 h2 h3
  have hu : C.P.underlying t = some (.slice et) := by
    have := elem_of hT ht
    unfold elemT at this
    cases hu : C.P.underlying t with
    | none => simp [hu] at this
    | some u => cases u <;> simp [hu] at this; obtain ⟨_, _, rfl, _⟩ := this; rfl
  have hxl : xs.length = n * sz := by rw [← hg.cells, List.length_take, Array.length_toList, hg.size]; exact Nat.min_eq_left (Nat.mul_le_mul_right _ hg.le)
  refine op_some (Φ := fun v hs' => ∃ g' cap' cur' old, v = .slice (some ⟨g', 0, none⟩) (n + m) cap' ∧ hs' = (g', .cells cur' et) :: old ∧ Grew g' (n + m) cap' sz cur' (xs ++ news) ∧ ((g' = g ∧ cap' = cap ∧ old = hs.eraseIdx i) ∨ old = hs)) hd (fun a w ok => ?_) ?_
  · have hil : i < hs.length := (List.getElem?_eq_some_iff.1 hi).1
    have hb : w.heap[g]? = some (.cells cur et (0, 0)) := ok.st.has _ (List.mem_of_getElem? hi)
    have hnw := reads_get news off (hnews w ok.st)
    by_cases hroom : n + m ≤ cap
    · have hfit : n * sz + news.length ≤ cur.size := by rw [hl, ← Nat.add_mul, hg.size]; exact Nat.mul_le_mul_right _ hroom
      have hr := run_append_room (P := C.P) w t ty et inf hu hinf g n cap cur hb ⟨b, off, none⟩ m c news (by rw [g1]; exact hl) hnw hone hroom (by rw [g1]; exact hfit)
      rw [g1] at hr
      refine ⟨_, _, w.setRow g (cur.toList.take (n * sz) ++ news ++ cur.toList.drop (n * sz + news.length)).toArray, ?_, ?_, g, cap, (cur.toList.take (n * sz) ++ news ++ cur.toList.drop (n * sz + news.length)).toArray, _, rfl, rfl, ?_, Or.inl ⟨rfl, rfl, rfl⟩⟩
      · simp only [execOp, resolve, invoke]
        simp [ok.e.eval hx, ok.e.eval hy, builtin, hr]
      · refine (St.set (w' := w.setRow g (cur.toList.take (n * sz) ++ news ++ cur.toList.drop (n * sz + news.length)).toArray) ok.st hi rfl rfl rfl (by simp) (setRow_heap w g cur _ et (0, 0) hb) (fun k hk => setRow_other w g k _ hk)).perm (set_perm_eraseIdx _ _ _ hil).symm
      · refine ⟨?_, hroom, hg.max, ?_⟩
        · simp only [List.size_toArray, List.length_append, List.length_take, List.length_drop, Array.length_toList]
          rw [← hg.size]; omega
        · rw [hg.cells]
          simp only [List.append_assoc]
          rw [← List.append_assoc, List.take_append_of_le_length (by rw [List.length_append, hxl, hl, ← Nat.add_mul]; exact Nat.le_refl _), List.take_of_length_le (by rw [List.length_append, hxl, hl, ← Nat.add_mul]; exact Nat.le_refl _)]
    · have holds : ∀ j v, xs[j]? = some v → w.cell? ((⟨g, 0, none⟩ : Addr).add j) = some v := by
        intro j v hj
        rw [add_none]
        rw [← hg.cells, List.getElem?_take] at hj
        split at hj
        · simp [World.cell?, hb]; simpa using hj
        · cases hj
      have hmax : n + m ≤ maxLen := by unfold maxLen; omega
      have hr := run_append_grow (P := C.P) w t ty et inf z hu hinf g3 ⟨g, 0, none⟩ n cap xs (by rw [g1]; exact hxl) holds ⟨b, off, none⟩ m c news (by rw [g1]; exact hl) hnw (by omega) (by omega)
        (growslice_fits (by omega) (by rw [g2]; calc (n + m) * by_ ≤ 4194304 * 1024 := Nat.mul_le_mul hmm hby
                                                    _ ≤ _ := by decide))
      refine ⟨_, _, _, ?_, ok.st.alloc_own (List.Sublist.refl _) (.cells (xs.toArray ++ news.toArray ++ Builtin.zeroCells z.cells (grownCap w (n + m) cap et - (n + m))) et), w.heap.size, grownCap w (n + m) cap et, _, _, rfl, rfl, ?_, Or.inr rfl⟩
      · simp only [execOp, resolve, invoke]
        simp [ok.e.eval hx, ok.e.eval hy, builtin, hr]
      · have hge := grownCap_ge w (n + m) cap et
        refine ⟨?_, hge, grownCap_le_maxLen w (n + m) cap et hmax, ?_⟩
        · simp only [Array.size_append, List.size_toArray, size_zeroCells, hz, hxl, hl, ← Nat.add_mul]
          congr 1; omega
        · rw [Array.toList_append, List.take_append_of_le_length (by simp [hxl, hl, Nat.add_mul]), List.take_of_length_le (by simp [hxl, hl, Nat.add_mul])]
          simp
  · rintro v hs' ⟨g', cap', cur', old, rfl, rfl, hg', h⟩
    rcases h with ⟨rfl, rfl, rfl⟩ | rfl
    · exact same cur' hg'
    · exact moved g' cap' cur' hg'


/-- 'v' grew out of 'u' by appending: both can be read. -/
def ExtAt (o : List Lab) (u : Go.Value) (e : List Lab) (v : Go.Value) (bs : Hs) : Prop :=
  ∃ bs1 bs2, bs = bs1 ++ bs2 ∧ OutAt e v bs1 ∧ (OutAt o u bs2 ∨ (bs2 = [] ∧ e.take o.length = o ∧ ∃ a c, u = .slice a o.length c ∧ v = .slice a e.length c))
theorem extAt_start {o : List Lab} {u : Go.Value} {bs : Hs} (h : OutAt o u bs) : ExtAt o u o u bs := by
  obtain ⟨a, c, rfl, _, _⟩ := outAt_lab h
  exact ⟨bs, [], (List.append_nil _).symm, h, Or.inr ⟨rfl, List.take_length, a, c, rfl, rfl⟩⟩
theorem cellsL_take (e : List Lab) (n : Nat) : (cellsL e).take (n * 2) = cellsL (e.take n) := by
  induction e generalizing n with
  | nil => simp [cellsL]
  | cons x e ih =>
    cases n with
    | zero => simp [cellsL]
    | succ n => rw [show (n + 1) * 2 = n * 2 + 1 + 1 by omega]; simp only [cellsL, List.take_succ_cons]; rw [ih]
theorem outAt_old {o e : List Lab} {g cap : Nat} {spare : List Go.Value} (hg : Grew g e.length cap 2 (blockL e spare) (cellsL e)) (h : e.take o.length = o) : OutAt o (.slice (some ⟨g, 0, none⟩) o.length cap) [(g, .cells (blockL e spare) 62)] := by
  have hle : o.length ≤ e.length := by rw [← h, List.length_take]; exact Nat.min_le_right _ _
  have hb : blockL e spare = blockL o (cellsL (e.drop o.length) ++ spare) := by
    unfold blockL
    rw [← List.append_assoc]
    congr 2
    have : cellsL e = (cellsL e).take (o.length * 2) ++ (cellsL e).drop (o.length * 2) := (List.take_append_drop _ _).symm
    rw [this, cellsL_take, h]
    congr 1
    have key : ∀ (e : List Lab) (n : Nat), (cellsL e).drop (n * 2) = cellsL (e.drop n) := by
      intro e
      induction e with
      | nil => intro n; simp [cellsL]
      | cons x e ih =>
        intro n
        cases n with
        | zero => rfl
        | succ n => rw [show (n + 1) * 2 = n * 2 + 1 + 1 by omega]; simp only [cellsL, List.drop_succ_cons]; exact ih n
    exact key e o.length
  refine Or.inr ⟨g, cap, _, rfl, by rw [← hb], ⟨by rw [← hb]; exact hg.size, by have := hg.le; omega, hg.max, ?_⟩⟩
  unfold blockL
  rw [List.toList_toArray, List.take_append_of_le_length (by rw [cellsL_length]; exact Nat.le_refl _), List.take_of_length_le (by rw [cellsL_length]; exact Nat.le_refl _)]

/-- One label more. -/
theorem apLk {C : Cx} {ops : Array Oper} {rest : List Oper} {k : List Item} {e : Env} {bs qs : Hs} {d b : Nat} {ty : TypeId} {pos : String} {af : Array Edge} {x y : Operand} {o out : List Lab} {l : Lab} {u v : Go.Value} (hT : TabOk C.P tab) (hd : Nat.blt d C.N = true)
    (ho : ExtAt o u out v bs) (hlen : out.length ≤ 4000000) (hx : ev e x = some v) (hy : ev e y = some (.slice (some ⟨b, 0, none⟩) 1 1))
    (next : ∀ v' bs', ExtAt o u (out ++ [l]) v' bs' → Ops C ops rest k ((d, v') :: e) (bs' ++ qs)) :
    Ops C ops (⟨some d, .call { callee := .builtin .append, args := #[x, y], argTypes := #[22, 22] }, ty, pos, af, none⟩ :: rest) k e (bs ++ (b, .cells #[.string l.1, .string l.2] 62) :: qs) := by
  obtain ⟨bs1, bs2, rfl, hv, hu⟩ := ho
  rcases hu with hu | ⟨rfl, htk, a, c, rfl, hve⟩
  · refine ops_st (hs' := bs1 ++ (b, .cells #[.string l.1, .string l.2] 62) :: (bs2 ++ qs)) (fun w hst => hst.perm ?_) ?_
    · rw [List.append_assoc]; exact (List.perm_append_left_iff _).2 List.perm_middle.symm
    refine apLq hT hd hv hlen hx hy (fun v' bs' h => ?_)
    have := next v' (bs' ++ bs2) ⟨bs', bs2, rfl, h, Or.inl hu⟩
    rw [List.append_assoc] at this
    exact this
  · rw [List.append_nil]
    have hnews : ∀ (hs : Hs), (b, Obj.cells #[.string l.1, .string l.2] 62) ∈ hs → ∀ w, St C.W0 C.own hs w → Reads w ⟨b, 0, none⟩ [.string l.1, .string l.2] := fun hs hm w hst =>
      (reads_of_block (hst.has _ hm) 2 0 [.string l.1, .string l.2] rfl).1
    have hfin : ∀ g cap cur, Grew g (out.length + 1) cap 2 cur (cellsL out ++ [.string l.1, .string l.2]) → OutAt (out ++ [l]) (.slice (some ⟨g, 0, none⟩) (out.length + 1) cap) [(g, .cells cur 62)] := by
      intro g cap cur hg
      rw [← cellsL_app] at hg
      obtain ⟨spare, rfl⟩ := grew_block (L := out ++ [l]) hg rfl (by simp)
      exact Or.inr ⟨g, cap, spare, by simp, rfl, by simpa using hg⟩
    rcases hv with ⟨rfl, rfl, rfl⟩ | ⟨g, cap, spare, rfl, rfl, hg⟩
    · have h0 : o = [] := by rw [← htk]; simp
      subst h0
      cases hve
      refine apLq hT hd (Or.inl ⟨rfl, rfl, rfl⟩) hlen hx hy (fun v' bs' h => ?_)
      have := next v' bs' ⟨bs', [], (List.append_nil _).symm, h, Or.inl (Or.inl ⟨rfl, rfl, rfl⟩)⟩
      exact this
    · cases hve
      have hle : o.length ≤ out.length := by rw [← htk, List.length_take]; exact Nat.min_le_right _ _
      refine apO2 0 (news := [.string l.1, .string l.2]) (xs := cellsL out) hT hd hx hy rfl hg rfl rfl rfl rfl rfl (by decide) (by omega) (by decide) (hnews _ (by simp)) rfl (by intro u hu; simp at hu; rcases hu with rfl | rfl <;> rfl) (fun cur' hg' => ?_) (fun g' cap' cur' hg' => ?_)
      · refine ops_st (fun w h => h.sub (List.Sublist.cons_cons _ (List.Sublist.cons _ (List.Sublist.refl _)))) (next _ [(g, .cells cur' 62)] ⟨_, [], (List.append_nil _).symm, hfin _ _ _ hg', Or.inr ⟨rfl, ?_, _, _, rfl, by simp⟩⟩)
        rw [List.take_append_of_le_length hle]; exact htk
      · refine ops_st (hs' := [(g', .cells cur' 62), (g, .cells (blockL out spare) 62)] ++ qs) (fun w h => h.sub (List.Sublist.cons_cons _ (List.Sublist.cons_cons _ (List.Sublist.cons _ (List.Sublist.refl _))))) (next _ _ ⟨[_], [_], rfl, hfin _ _ _ hg', Or.inl (outAt_old hg htk)⟩)

/-- What a list reads as, by its blocks. -/
def RdAt (a : Option Addr) (L : List Lab) (bs : Hs) : Prop := ∀ (W0 w : World) (own : List Nat) (hs : Hs), (∀ x ∈ bs, x ∈ hs) → St W0 own hs w → LabAt w a L
theorem extAt_reads {o e : List Lab} {u v : Go.Value} {bs : Hs} (h : ExtAt o u e v bs) : ∃ a c a' c', u = .slice a o.length c ∧ v = .slice a' e.length c' ∧ RdAt a o bs ∧ RdAt a' e bs := by
  obtain ⟨bs1, bs2, rfl, hv, hu⟩ := h
  obtain ⟨a', c', rfl, _, hrd'⟩ := outAt_lab hv
  rcases hu with hu | ⟨rfl, htk, a, c, rfl, hve⟩
  · obtain ⟨a, c, rfl, _, hrd⟩ := outAt_lab hu
    exact ⟨a, c, a', c', rfl, rfl, fun W0 w own hs hm hst => hrd W0 w own hs (fun x hx => hm x (List.mem_append_right _ hx)) hst, fun W0 w own hs hm hst => hrd' W0 w own hs (fun x hx => hm x (List.mem_append_left _ hx)) hst⟩
  · cases hve
    refine ⟨a', c', a', c', rfl, rfl, fun W0 w own hs hm hst => ?_, fun W0 w own hs hm hst => hrd' W0 w own hs (fun x hx => hm x (List.mem_append_left _ hx)) hst⟩
    have := (hrd' W0 w own hs (fun x hx => hm x (List.mem_append_left _ hx)) hst).take o.length
    rw [htk] at this
    exact this
end Go.Fl
