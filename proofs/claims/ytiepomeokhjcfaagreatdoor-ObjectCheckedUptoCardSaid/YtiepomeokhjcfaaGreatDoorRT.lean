/-
  The document's digest of what an object's pods are like: over bytes in memory. No condition beyond sizes.
-/
import Derived.Lib.AppendStr
import Derived.Test.YtiepomeokhjcfaaGreatDoorOutG
import Derived.Test.YtiepomeokhjcfaaGreatDoorObjT
namespace Go.Fl
open Go.Proofs Go.RowKit
set_option maxRecDepth 10000
set_option maxHeartbeats 4000000

/-- A text's bytes behind those of a slice of our own. -/
theorem apOs {C : Cx} {ops : Array Oper} {rest : List Oper} {k : List Item} {e : Env} {hs : Hs} {d : Nat} {ty : TypeId} {pos : String} {af : Array Edge} {tb : Tab} (i : Nat) {t u et : TypeId} {x y : Operand} {g n cap : Nat} {cur : Array Go.Value} {xs : List Go.Value} {s : ByteArray} (hT : TabOk C.P tb) (hd : Nat.blt d C.N = true)
    (hx : ev e x = some (.slice (some ⟨g, 0, none⟩) n cap)) (hy : ev e y = some (.string s)) (hi : hs[i]? = some (g, .cells cur et)) (hg : Grew g n cap 1 cur xs)
    (ht : elemL tb t = some (et, 1)) (hu2 : C.P.underlying u = some .string) (h1 : sizeL tb et = some 1) (h2 : bytesL tb et = some 1) (h3 : zeroL tb et = some (.int .u8 0)) (hmm : n + s.size ≤ 70368744177664)
    (next : ∀ g cap cur, Grew g (n + s.size) cap 1 cur (xs ++ Lib.strCells s) → Ops C ops rest k ((d, .slice (some ⟨g, 0, none⟩) (n + s.size) cap) :: e) ((g, .cells cur et) :: hs.eraseIdx i)) :
    Ops C ops (⟨some d, .call { callee := .builtin .append, args := #[x, y], argTypes := #[t, u] }, ty, pos, af, none⟩ :: rest) k e hs := by
  obtain ⟨inf, hinf, g1, g2, g3⟩ := info_of hT h1 h2 h3
  have hu : C.P.underlying t = some (.slice et) := by
    have := elem_of hT ht
    unfold elemT at this
    cases hu : C.P.underlying t with
    | none => simp [hu] at this
    | some u => cases u <;> simp [hu] at this; obtain ⟨_, _, rfl, _⟩ := this; rfl
  have hxl : xs.length = n * 1 := by rw [← hg.cells, List.length_take, Array.length_toList, hg.size]; exact Nat.min_eq_left (Nat.mul_le_mul_right _ hg.le)
  have hsl := Lib.strCells_length s
  refine op_some (Φ := fun v hs' => ∃ g cap cur, v = .slice (some ⟨g, 0, none⟩) (n + s.size) cap ∧ hs' = (g, .cells cur et) :: hs.eraseIdx i ∧ Grew g (n + s.size) cap 1 cur (xs ++ Lib.strCells s)) hd (fun a w ok => ?_) ?_
  · have hil : i < hs.length := (List.getElem?_eq_some_iff.1 hi).1
    have hb : w.heap[g]? = some (.cells cur et (0, 0)) := ok.st.has _ (List.mem_of_getElem? hi)
    by_cases hroom : n + s.size ≤ cap
    · have hfit : n + s.size ≤ cur.size := by rw [hg.size, Nat.mul_one]; exact hroom
      have hr := Lib.run_append_room_string (P := C.P) w t u ty et inf hu hu2 hinf g1 g n cap cur hb s hroom hfit
      refine ⟨_, _, w.setRow g (cur.toList.take n ++ Lib.strCells s ++ cur.toList.drop (n + s.size)).toArray, ?_, ?_, g, cap, (cur.toList.take n ++ Lib.strCells s ++ cur.toList.drop (n + s.size)).toArray, rfl, rfl, ?_⟩
      · simp only [execOp, resolve, invoke]
        simp [ok.e.eval hx, ok.e.eval hy, builtin, hr]
      · refine (St.set (w' := w.setRow g (cur.toList.take n ++ Lib.strCells s ++ cur.toList.drop (n + s.size)).toArray) ok.st hi rfl rfl rfl (by simp) (setRow_heap w g cur _ et (0, 0) hb) (fun k hk => setRow_other w g k _ hk)).perm (set_perm_eraseIdx _ _ _ hil).symm
      · refine ⟨?_, hroom, hg.max, ?_⟩
        · simp only [List.size_toArray, List.length_append, List.length_take, List.length_drop, Array.length_toList, hsl]
          rw [← hg.size]; omega
        · have hc := hg.cells
          rw [Nat.mul_one] at hc ⊢
          rw [hc]
          simp only [List.append_assoc]
          rw [← List.append_assoc, List.take_append_of_le_length (by rw [List.length_append, hxl, hsl]; omega), List.take_of_length_le (by rw [List.length_append, hxl, hsl]; omega)]
    · have holds : ∀ j v, xs[j]? = some v → w.cell? ((⟨g, 0, none⟩ : Addr).add j) = some v := by
        intro j v hj
        rw [add_none]
        rw [← hg.cells, List.getElem?_take] at hj
        split at hj
        · simp [World.cell?, hb]; simpa using hj
        · cases hj
      have hmax : n + s.size ≤ maxLen := by unfold maxLen; omega
      have hr := Lib.run_append_grow_string (P := C.P) w t u ty et inf (.int .u8 0) hu hu2 hinf g3 ⟨g, 0, none⟩ n cap xs (by rw [g1]; exact hxl) holds s (by omega) (by omega)
        (growslice_fits (by omega) (by rw [g2]; omega))
      refine ⟨_, _, _, ?_, ok.st.alloc_own (List.eraseIdx_sublist _ i) (.cells (xs.toArray ++ (Lib.strCells s).toArray ++ Builtin.zeroCells (Value.int .u8 0).cells (grownCap w (n + s.size) cap et - (n + s.size))) et), w.heap.size, grownCap w (n + s.size) cap et, _, rfl, rfl, ?_⟩
      · simp only [execOp, resolve, invoke]
        simp [ok.e.eval hx, ok.e.eval hy, builtin, hr]
      · have hge := grownCap_ge w (n + s.size) cap et
        refine ⟨?_, hge, grownCap_le_maxLen w (n + s.size) cap et hmax, ?_⟩
        · have hz1 : (Value.int IntKind.u8 0).cells.size = 1 := rfl
          simp only [Array.size_append, List.size_toArray, size_zeroCells, hz1, hxl, hsl]
          omega
        · rw [Array.toList_append, List.take_append_of_le_length (by simp [hxl, hsl]), List.take_of_length_le (by simp [hxl, hsl])]
          simp
  · rintro v hs' ⟨g, cap, cur, rfl, rfl, hg⟩; exact next g cap cur hg

theorem flatG_str (s : ByteArray) : flatG cdB (bytesI s) = Lib.strCells s := by
  rw [flatG, vals_cdB, bytesI, List.map_map]; rfl
theorem vapS {C : Cx} {l0 rest : List Oper} {k : List Item} {e : VEnv} {ho : List OB} {tl : Hs} {tb : Tab} {d : Nat} {ty : TypeId} {pos : String} {af : Array Edge} {t u et : TypeId} {out : List Int} {v : Go.Value} {bs qs : Hs} {x y : Operand} {s : ByteArray} (hT : TabOk C.P tb)
    (hO : OutG cdB et out v bs) (h0 : out ≠ []) (ht : elemL tb t = some (et, 1)) (hu2 : C.P.underlying u = some .string) (h1 : sizeL tb et = some 1) (h2 : bytesL tb et = some 1) (h3 : zeroL tb et = some (.int .u8 0)) (hlen : out.length + s.size ≤ 70368744177664)
    (hd : Nat.blt d C.N = true) (hx : evV e x = some (.raw v)) (hy : evV e y = some (.str s)) (htl : tl = bs ++ qs)
    (next : ∀ v' bs', OutG cdB et (out ++ bytesI s) v' bs' → Here C (bs' ++ qs) (.ops l0 rest k) ((d, .raw v') :: e) ho) :
    Here C tl (.ops l0 (⟨some d, .call { callee := .builtin .append, args := #[x, y], argTypes := #[t, u] }, ty, pos, af, none⟩ :: rest) k) e ho := by
  subst htl
  have e1 := ev_re hx
  have e2 := ev_re hy
  simp only [V.val] at e1 e2
  rcases hO with ⟨h, _, _⟩ | ⟨g, cap, spare, rfl, rfl, hg⟩
  · exact absurd h h0
  · have hi : (rh ho ++ ([(g, (⟨g, et, .arr cdB out, spare⟩ : OB).obj)] ++ qs))[(rh ho).length]? = some (g, .cells (flatG cdB out ++ spare).toArray et) := by
      rw [List.getElem?_append_right (Nat.le_refl _), Nat.sub_self]; rfl
    refine ⟨apOs (rh ho).length hT hd e1 e2 hi hg ht hu2 h1 h2 h3 hlen (fun g' cap' cur' hg' => ?_)⟩
    rw [← flatG_str, ← flatG_app] at hg'
    have hn : out.length + s.size = (out ++ bytesI s).length := by rw [List.length_append, bytesI_len]
    rw [hn] at hg' ⊢
    have hcur : cur' = (flatG cdB (out ++ bytesI s) ++ cur'.toList.drop ((out ++ bytesI s).length * 1)).toArray := by
      have h := hg'.cells
      rw [← h, List.take_append_drop]
    rw [hcur] at hg' ⊢
    refine ops_st (fun w h => ?_) (next _ _ (Or.inr ⟨g', cap', _, rfl, rfl, hg'⟩)).go
    rw [List.eraseIdx_append_of_length_le (Nat.le_refl _), Nat.sub_self] at h
    exact h.perm List.perm_middle
theorem outG_reads {α : Type} {cd : Cd α} {ty : TypeId} {out : List α} {v : Go.Value} {bs : Hs} (h : OutG cd ty out v bs) (h0 : out ≠ []) : ∃ g c, v = .slice (some ⟨g, 0, none⟩) out.length c ∧ ∀ (W0 w : World) (own : List Nat) (hs : Hs), (∀ y ∈ bs, y ∈ hs) → St W0 own hs w → Reads w ⟨g, 0, none⟩ (flatG cd out) := by
  rcases h with ⟨h, _, _⟩ | ⟨g, cap, spare, rfl, rfl, hg⟩
  · exact absurd h h0
  · refine ⟨g, cap, rfl, fun W0 w own hs hm hst => reads_ix _ _ fun j v hj => ?_⟩
    have hb := hst.has _ (hm _ (List.mem_singleton_self _))
    simp only [World.cell?, hb, Option.isSome_none, Bool.false_eq_true, if_false, Nat.zero_add, OB.obj, List.getElem?_toArray]
    rw [List.getElem?_append_left (List.getElem?_eq_some_iff.1 hj).1]
    exact hj
theorem vtl {C : Cx} {l0 l : List Oper} {k : List Item} {e : VEnv} {ho : List OB} {tl : Hs} (tl' m : Hs) (hm : m.Perm tl) (hs : tl'.Sublist m) (h : Here C tl' (.ops l0 l k) e ho) : Here C tl (.ops l0 l k) e ho :=
  ⟨ops_st (fun _ hst => (hst.perm ((List.perm_append_left_iff _).2 hm)).sub ((List.Sublist.refl (rh ho)).append hs)) h.go⟩
/-- The same blocks, told by other names. -/
theorem vho {C : Cx} {tl : Hs} {pt : Pt} {e : VEnv} {ho : List OB} (ho' : List OB) (hh : rh ho' = rh ho) (h : Here C tl pt e ho') : Here C tl pt e ho := by
  have h := h.go
  cases pt <;> (refine ⟨?_⟩; simp only [HereF] at h ⊢; rw [hh] at h; exact h)

/-- A number's eight bytes. -/
def numL (n : Int) : List Int := (List.range 8).map fun i => IntKind.u8.wrap ((IntKind.u64.wrap n).fdiv (2 ^ (8 * i)))
theorem numL_len (n : Int) : (numL n).length = 8 := rfl
theorem fdiv2 (v : Int) (i : Nat) : (v.fdiv (2 ^ i)).fdiv (2 ^ 8) = v.fdiv (2 ^ (i + 8)) := by
  have h1 : (0 : Int) ≤ 2 ^ i := Int.pow_nonneg (by decide)
  have h2 : (0 : Int) ≤ 2 ^ (i + 8) := Int.pow_nonneg (by decide)
  rw [Int.fdiv_eq_ediv_of_nonneg _ h1, Int.fdiv_eq_ediv_of_nonneg _ (by decide), Int.fdiv_eq_ediv_of_nonneg _ h2, Int.ediv_ediv_of_nonneg h1, ← Int.pow_add]
theorem numH_bytes (h n : Int) : bytesH h (numL n) = numH h n := by
  unfold numH numL bytesH
  simp only [numR, List.range, List.range.loop, List.map_cons, List.map_nil, List.foldl_cons, List.foldl_nil]
  have e0 : (IntKind.u64.wrap n) = (IntKind.u64.wrap n).fdiv (2 ^ 0) := by rw [Int.pow_zero, Int.fdiv_one]
  generalize IntKind.u64.wrap n = v at *
  have k1 : v.fdiv (2 ^ 8) = v.fdiv (2 ^ (8 * 1)) := rfl
  rw [k1, fdiv2, fdiv2, fdiv2, fdiv2, fdiv2, fdiv2]
  simp only [Nat.mul_zero, Int.pow_zero, Int.fdiv_one]
/-- A text's bytes, their number ahead. -/
def letL (s : ByteArray) : List Int := numL s.size ++ bytesI s
theorem letL_len (s : ByteArray) : (letL s).length = 8 + s.size := by rw [letL, List.length_append, numL_len, bytesI_len]
theorem bytesH_app (h : Int) (a b : List Int) : bytesH h (a ++ b) = bytesH (bytesH h a) b := by unfold bytesH; rw [List.foldl_append]
theorem letH (h : Int) (s : ByteArray) : bytesH h (letL s) = fieldH h (.inr s) := by rw [letL, bytesH_app, numH_bytes]; rfl
def labsB (L : List Lab) : List Int := L.flatMap fun x => letL x.1 ++ letL x.2
def headB (o : Oj) : List Int := letL o.image ++ numL o.ncpu ++ numL o.nmem ++ numL o.rise ++ numL o.fall ++ numL o.labs.length
theorem labsB_H : ∀ (L : List Lab) (h : Int), bytesH h (labsB L) = L.foldl labH h
  | [], h => rfl
  | x :: L, h => by
    rw [labsB, List.flatMap_cons, bytesH_app, ← labsB, labsB_H L, bytesH_app, letH, letH]; rfl
theorem templ_bytes (o : Oj) : bytesH 14695981039346656037 (headB o ++ labsB o.labs) = templH o := by
  rw [bytesH_app, labsB_H, templH]
  congr 1
  rw [headB, bytesH_app, bytesH_app, bytesH_app, bytesH_app, bytesH_app, letH, numH_bytes, numH_bytes, numH_bytes, numH_bytes, numH_bytes]
  rfl
def SzM (o : Oj) : Prop := o.image.size ≤ 1048576 ∧ o.labs.length ≤ 1048576 ∧ ∀ x ∈ o.labs, x.1.size ≤ 1048576 ∧ x.2.size ≤ 1048576
theorem labsB_len : ∀ (L : List Lab), (∀ x ∈ L, x.1.size ≤ 1048576 ∧ x.2.size ≤ 1048576) → (labsB L).length ≤ L.length * 2097168
  | [], _ => Nat.le_refl _
  | x :: L, h => by
    have h1 := h x List.mem_cons_self
    have h2 := labsB_len L fun y hy => h y (List.mem_cons_of_mem _ hy)
    rw [labsB, List.flatMap_cons, List.length_append, List.length_append, letL_len, letL_len, ← labsB, List.length_cons, Nat.add_mul]
    omega

theorem sh8 : ∀ i : Nat, i < 8 → 0 ≤ IntKind.u64.wrap ((8 * i : Nat) : Int) ∧ min (IntKind.u64.wrap ((8 * i : Nat) : Int)).toNat IntKind.u64.bits = 8 * i := by decide
theorem rNumber (n : Int) : Con Tryz.prog 171 [.int .i64 n] [] (fun _ => True) (fun v bs => OutG cdB 5 (numL n) v bs) := by
  refine con_start1 Tryz.func171 rfl rfl rfl (fun w0 hw => ?_)
  refine vstart [(0, .int .i64 n)] [] [] ?_
  refine vwith (pt := .run _) _ _ [] tabOk lent_nil fun go => ?_
  apply go 300
  repeat' (first | apply And.intro | intro _)
  all_goals try (first | (show Here _ _ _ _; try (exfalso; omega)) | exact trivial | omega | kernel_rfl | exact rfl)
  refine vrounds (fun s : Nat × Go.Value × Hs => s.1 ≤ 8 ∧ OutG cdB 5 ((numL n).take s.1) s.2.1 s.2.2) (fun s => 8 - s.1) (fun s => [(0, .int .i64 n), (3, .raw s.2.1), (4, .nat s.1)]) (fun _ => []) (fun s => s.2.2)
    (0, .slice none 0 0, []) (fun s hI ih => ?_) ⟨Nat.zero_le _, Or.inl ⟨rfl, rfl, rfl⟩⟩ ⟨rfl, rfl, rfl, trivial⟩ (List.Sublist.refl _)
  obtain ⟨i, u, bs⟩ := s
  obtain ⟨hi, hO⟩ := hI
  simp only at hi hO ih ⊢
  by_cases hl : i < 8
  · apply go 300
    repeat' (first | apply And.intro | intro _)
    all_goals try (first | (show Here _ _ _ _; try (exfalso; omega)) | exact trivial | omega | kernel_rfl | exact rfl)
    · exact (sh8 i hl).1
    rw [(sh8 i hl).2]
    repeat' (first | apply And.intro | intro _)
    rename_i b
    refine vapG (news := [IntKind.u8.wrap ((IntKind.u64.wrap n).fdiv (2 ^ (8 * i)))]) (bs := bs) (qs := []) tabOk hO rfl rfl rfl rfl rfl (by decide) (by rw [List.length_take, List.length_singleton]; omega) (by rw [List.length_take, List.length_singleton]; omega) Nat.zero_lt_one rfl rfl rfl rfl (fun w hst => (reads_of_block (hst.has _ List.mem_cons_self) 1 0 _ rfl).1) (List.append_nil _).symm ?_
    intro v' bs' hO'
    rw [List.append_nil]
    apply go 300
    repeat' (first | apply And.intro | intro _)
    all_goals try (first | (show Here _ _ _ _; try (exfalso; omega)) | exact trivial | omega | kernel_rfl | exact rfl)
    refine vweak _ _ _ (ih (i + 1, v', bs') ⟨by simp only; omega, ?_⟩ (by simp only; omega)) ⟨rfl, rfl, rfl, trivial⟩ (List.Sublist.cons _ (List.Sublist.refl _))
    have e1 : (numL n)[i]? = some (IntKind.u8.wrap ((IntKind.u64.wrap n).fdiv (2 ^ (8 * i)))) := by
      rw [numL, List.getElem?_map, List.getElem?_range hl]; rfl
    rw [List.take_add_one, e1]
    exact hO'
  · apply go 300
    repeat' (first | apply And.intro | intro _)
    all_goals try (first | (show Here _ _ _ _; try (exfalso; omega)) | exact trivial | omega | kernel_rfl | exact rfl)
    obtain rfl : i = 8 := by omega
    refine vc1 (bs := bs) rfl rfl (List.Sublist.refl _) ?_
    exact hO
theorem rLetters (s : ByteArray) (hs : s.size ≤ 1048576) : Con Tryz.prog 170 [.string s] [] (fun _ => True) (fun v bs => OutG cdB 5 (letL s) v bs) := by
  refine con_start1 Tryz.func170 rfl rfl rfl (fun w0 hw => ?_)
  refine vstart [(0, .str s)] [] [] ?_
  refine vwith (pt := .run _) _ _ [] tabOk lent_nil fun go => ?_
  apply go 300
  repeat' (first | apply And.intro | intro _)
  all_goals try (first | (show Here _ _ _ _; try (exfalso; omega)) | exact trivial | omega | kernel_rfl | exact rfl)
  refine vcc rfl rfl (by kernel_rfl) (rNumber (Int.ofNat s.size)) (by exact fun _ _ => trivial) ?_
  intro u bs hO
  refine ⟨.raw u, rfl, ?_⟩
  apply go 300
  repeat' (first | apply And.intro | intro _)
  all_goals try (first | (show Here _ _ _ _; try (exfalso; omega)) | exact trivial | omega | kernel_rfl | exact rfl)
  refine vapS (bs := bs) (qs := []) tabOk hO (List.ne_nil_of_length_pos (by rw [numL_len]; decide)) rfl Tryz.underlying9 rfl rfl rfl (by rw [numL_len]; omega) rfl rfl rfl (by first | rfl | exact (List.append_nil _).symm) ?_
  intro v' bs' hO'
  rw [List.append_nil]
  apply go 300
  repeat' (first | apply And.intro | intro _)
  all_goals try (first | (show Here _ _ _ _; try (exfalso; omega)) | exact trivial | omega | kernel_rfl | exact rfl)
  refine vc1 (bs := bs') rfl rfl (List.Sublist.refl _) ?_
  exact hO'
theorem rBytes (o : Oj) (a a' : Option Addr) (c c' : Nat) (hz : SzM o) : Con Tryz.prog 124 [(ov o a c a' c').val] [] (fun w => LabAt w a o.labs) (fun v bs => OutG cdB 5 (headB o ++ labsB o.labs) v bs) := by
  obtain ⟨hz1, hz2, hz3⟩ := hz
  refine con_start1 Tryz.func124 rfl rfl rfl (fun w0 hw => ?_)
  refine vstart [(0, ov o a c a' c')] [] [] ?_
  refine vwith (pt := .run _) _ _ [] tabOk lent_nil fun go => ?_
  apply go 300
  repeat' (first | apply And.intro | intro _)
  all_goals try (first | (show Here _ _ _ _; try (exfalso; omega)) | exact trivial | omega | kernel_rfl | exact rfl)
  rename_i b1
  refine vcc rfl rfl (by kernel_rfl) (rLetters o.image hz1) (by exact fun _ _ => trivial) ?_
  intro u0 p0 hO0
  refine ⟨.raw u0, rfl, vtl p0 p0 (by rw [List.append_nil]) (List.Sublist.refl _) ?_⟩
  have hne0 : letL o.image ≠ [] := List.ne_nil_of_length_pos (by rw [letL_len]; omega)
  have hln0 : (letL o.image).length ≤ 1048600 := by rw [letL_len]; omega
  apply go 300
  repeat' (first | apply And.intro | intro _)
  all_goals try (first | (show Here _ _ _ _; try (exfalso; omega)) | exact trivial | omega | kernel_rfl | exact rfl)
  refine vcc rfl rfl (by kernel_rfl) (rNumber o.ncpu) (by exact fun _ _ => trivial) ?_
  intro v1 q1 hQ1
  obtain ⟨g1, c1, rfl, hr1⟩ := outG_reads hQ1 (List.ne_nil_of_length_pos (by rw [numL_len]; decide))
  refine ⟨.raw _, rfl, vtl (p0 ++ q1) (p0 ++ q1) List.perm_append_comm (List.Sublist.refl _) ?_⟩
  apply go 300
  repeat' (first | apply And.intro | intro _)
  all_goals try (first | (show Here _ _ _ _; try (exfalso; omega)) | exact trivial | omega | kernel_rfl | exact rfl)
  refine vapG (news := numL o.ncpu) (bs := p0) (qs := q1) tabOk hO0 rfl rfl rfl rfl rfl (by decide) (by rw [numL_len]; omega) (by rw [numL_len]; omega) (by rw [numL_len]; decide) rfl rfl rfl rfl (fun w hst => hr1 _ _ _ _ (fun y hy => by simp [hy]) hst) rfl ?_
  intro u1 p1 hO1
  refine vtl p1 _ (List.Perm.refl _) (List.sublist_append_left _ _) ?_
  have hne1 := List.append_ne_nil_of_left_ne_nil hne0 (numL o.ncpu)
  have hln1 : (letL o.image ++ numL o.ncpu).length ≤ 1048608 := by rw [List.length_append, numL_len]; omega
  clear hO0 hQ1 hr1 hne0 hln0
  apply go 300
  repeat' (first | apply And.intro | intro _)
  all_goals try (first | (show Here _ _ _ _; try (exfalso; omega)) | exact trivial | omega | kernel_rfl | exact rfl)
  refine vcc rfl rfl (by kernel_rfl) (rNumber o.nmem) (by exact fun _ _ => trivial) ?_
  intro v2 q2 hQ2
  obtain ⟨g2, c2, rfl, hr2⟩ := outG_reads hQ2 (List.ne_nil_of_length_pos (by rw [numL_len]; decide))
  refine ⟨.raw _, rfl, vtl (p1 ++ q2) (p1 ++ q2) List.perm_append_comm (List.Sublist.refl _) ?_⟩
  apply go 300
  repeat' (first | apply And.intro | intro _)
  all_goals try (first | (show Here _ _ _ _; try (exfalso; omega)) | exact trivial | omega | kernel_rfl | exact rfl)
  refine vapG (news := numL o.nmem) (bs := p1) (qs := q2) tabOk hO1 rfl rfl rfl rfl rfl (by decide) (by rw [numL_len]; omega) (by rw [numL_len]; omega) (by rw [numL_len]; decide) rfl rfl rfl rfl (fun w hst => hr2 _ _ _ _ (fun y hy => by simp [hy]) hst) rfl ?_
  intro u2 p2 hO2
  refine vtl p2 _ (List.Perm.refl _) (List.sublist_append_left _ _) ?_
  have hne2 := List.append_ne_nil_of_left_ne_nil hne1 (numL o.nmem)
  have hln2 : (letL o.image ++ numL o.ncpu ++ numL o.nmem).length ≤ 1048616 := by rw [List.length_append, numL_len]; omega
  clear hO1 hQ2 hr2 hne1 hln1
  apply go 300
  repeat' (first | apply And.intro | intro _)
  all_goals try (first | (show Here _ _ _ _; try (exfalso; omega)) | exact trivial | omega | kernel_rfl | exact rfl)
  refine vcc rfl rfl (by kernel_rfl) (rNumber o.rise) (by exact fun _ _ => trivial) ?_
  intro v3 q3 hQ3
  obtain ⟨g3, c3, rfl, hr3⟩ := outG_reads hQ3 (List.ne_nil_of_length_pos (by rw [numL_len]; decide))
  refine ⟨.raw _, rfl, vtl (p2 ++ q3) (p2 ++ q3) List.perm_append_comm (List.Sublist.refl _) ?_⟩
  apply go 300
  repeat' (first | apply And.intro | intro _)
  all_goals try (first | (show Here _ _ _ _; try (exfalso; omega)) | exact trivial | omega | kernel_rfl | exact rfl)
  refine vapG (news := numL o.rise) (bs := p2) (qs := q3) tabOk hO2 rfl rfl rfl rfl rfl (by decide) (by rw [numL_len]; omega) (by rw [numL_len]; omega) (by rw [numL_len]; decide) rfl rfl rfl rfl (fun w hst => hr3 _ _ _ _ (fun y hy => by simp [hy]) hst) rfl ?_
  intro u3 p3 hO3
  refine vtl p3 _ (List.Perm.refl _) (List.sublist_append_left _ _) ?_
  have hne3 := List.append_ne_nil_of_left_ne_nil hne2 (numL o.rise)
  have hln3 : (letL o.image ++ numL o.ncpu ++ numL o.nmem ++ numL o.rise).length ≤ 1048624 := by rw [List.length_append, numL_len]; omega
  clear hO2 hQ3 hr3 hne2 hln2
  apply go 300
  repeat' (first | apply And.intro | intro _)
  all_goals try (first | (show Here _ _ _ _; try (exfalso; omega)) | exact trivial | omega | kernel_rfl | exact rfl)
  refine vcc rfl rfl (by kernel_rfl) (rNumber o.fall) (by exact fun _ _ => trivial) ?_
  intro v4 q4 hQ4
  obtain ⟨g4, c4, rfl, hr4⟩ := outG_reads hQ4 (List.ne_nil_of_length_pos (by rw [numL_len]; decide))
  refine ⟨.raw _, rfl, vtl (p3 ++ q4) (p3 ++ q4) List.perm_append_comm (List.Sublist.refl _) ?_⟩
  apply go 300
  repeat' (first | apply And.intro | intro _)
  all_goals try (first | (show Here _ _ _ _; try (exfalso; omega)) | exact trivial | omega | kernel_rfl | exact rfl)
  refine vapG (news := numL o.fall) (bs := p3) (qs := q4) tabOk hO3 rfl rfl rfl rfl rfl (by decide) (by rw [numL_len]; omega) (by rw [numL_len]; omega) (by rw [numL_len]; decide) rfl rfl rfl rfl (fun w hst => hr4 _ _ _ _ (fun y hy => by simp [hy]) hst) rfl ?_
  intro u4 p4 hO4
  refine vtl p4 _ (List.Perm.refl _) (List.sublist_append_left _ _) ?_
  have hne4 := List.append_ne_nil_of_left_ne_nil hne3 (numL o.fall)
  have hln4 : (letL o.image ++ numL o.ncpu ++ numL o.nmem ++ numL o.rise ++ numL o.fall).length ≤ 1048632 := by rw [List.length_append, numL_len]; omega
  clear hO3 hQ4 hr4 hne3 hln3
  apply go 300
  repeat' (first | apply And.intro | intro _)
  all_goals try (first | (show Here _ _ _ _; try (exfalso; omega)) | exact trivial | omega | kernel_rfl | exact rfl)
  refine vcc rfl rfl (by kernel_rfl) (rNumber (Int.ofNat o.labs.length)) (by exact fun _ _ => trivial) ?_
  intro v5 q5 hQ5
  obtain ⟨g5, c5, rfl, hr5⟩ := outG_reads hQ5 (List.ne_nil_of_length_pos (by rw [numL_len]; decide))
  refine ⟨.raw _, rfl, vtl (p4 ++ q5) (p4 ++ q5) List.perm_append_comm (List.Sublist.refl _) ?_⟩
  apply go 300
  repeat' (first | apply And.intro | intro _)
  all_goals try (first | (show Here _ _ _ _; try (exfalso; omega)) | exact trivial | omega | kernel_rfl | exact rfl)
  refine vapG (news := numL (Int.ofNat o.labs.length)) (bs := p4) (qs := q5) tabOk hO4 rfl rfl rfl rfl rfl (by decide) (by rw [numL_len]; omega) (by rw [numL_len]; omega) (by rw [numL_len]; decide) rfl rfl rfl rfl (fun w hst => hr5 _ _ _ _ (fun y hy => by simp [hy]) hst) rfl ?_
  intro u5 p5 hO5
  refine vtl p5 _ (List.Perm.refl _) (List.sublist_append_left _ _) ?_
  have hne5 := List.append_ne_nil_of_left_ne_nil hne4 (numL (Int.ofNat o.labs.length))
  have hln5 : (letL o.image ++ numL o.ncpu ++ numL o.nmem ++ numL o.rise ++ numL o.fall ++ numL (Int.ofNat o.labs.length)).length ≤ 1048640 := by rw [List.length_append, numL_len]; omega
  clear hO4 hQ5 hr5 hne4 hln4
  apply go 300
  repeat' (first | apply And.intro | intro _)
  all_goals try (first | (show Here _ _ _ _; try (exfalso; omega)) | exact trivial | omega | kernel_rfl | exact rfl)
  change OutG cdB 5 (headB o) u5 p5 at hO5
  change headB o ≠ [] at hne5
  change (headB o).length ≤ 1048640 at hln5
  have hlb := labsB_len o.labs hz3
  refine vrounds (fun s : Nat × Go.Value × Hs => s.1 ≤ o.labs.length ∧ OutG cdB 5 (headB o ++ labsB (o.labs.take s.1)) s.2.1 s.2.2) (fun s => o.labs.length - s.1) (fun s => [(1, .ptr true 0 b1 0 1 0 0), (3, .raw s.2.1), (4, .nat s.1)])
    (fun _ => [⟨b1, 27, .var (ocs o (labV o.labs a c) (labV o.sel a' c')), []⟩]) (fun s => s.2.2) (0, u5, p5) (fun s hI ih => ?_) ⟨Nat.zero_le _, by rw [show labsB (o.labs.take 0) = [] from rfl, List.append_nil]; exact hO5⟩ ⟨rfl, rfl, rfl, trivial⟩ (List.Sublist.refl _)
  clear hO5
  obtain ⟨i, u, p⟩ := s
  obtain ⟨hi, hO⟩ := hI
  simp only at hi hO ih ⊢
  by_cases hl : i < o.labs.length
  · obtain ⟨b, off, rfl⟩ := hw.is (by rintro h0; rw [h0] at hl; simp at hl)
    have hR := hw.go b off rfl
    refine vho [⟨b1, 27, .var (ocs o (.sl false 0 b off 2 none o.labs.length c) (labV o.sel a' c')), []⟩] rfl ?_
    refine vwith (pt := .run _) _ _ [⟨b, off, .arr cdL o.labs⟩] tabOk (lent_lab lent_nil List.not_mem_nil hR) fun go => ?_
    apply go 300
    repeat' (first | apply And.intro | intro _)
    all_goals try (first | (show Here _ _ _ _; try (exfalso; omega)) | exact trivial | omega | kernel_rfl | exact rfl)
    rename_i _ x hx0
    have hsx := hz3 x (List.mem_of_getElem? hx0)
    have hstep : labsB (o.labs.take (i + 1)) = labsB (o.labs.take i) ++ (letL x.1 ++ letL x.2) := by
      rw [List.take_add_one, hx0, labsB, List.flatMap_append]
      simp [labsB]
    have hpart : (labsB (o.labs.take i)).length ≤ i * 2097168 := by
      have := labsB_len (o.labs.take i) fun y hy => hz3 y (List.mem_of_mem_take hy)
      rw [List.length_take, Nat.min_eq_left hi] at this
      exact this
    have hnx : headB o ++ labsB (o.labs.take i) ≠ [] := List.append_ne_nil_of_left_ne_nil hne5 _
    have hlx : (headB o ++ labsB (o.labs.take i)).length ≤ 2200000000000 := by rw [List.length_append]; omega
    repeat' (first | apply And.intro | intro _)
    refine vcc rfl rfl (by kernel_rfl) (rLetters x.1 hsx.1) (by exact fun _ _ => trivial) ?_
    intro v1 q1 hQ1
    obtain ⟨g1, c1, rfl, hr1⟩ := outG_reads hQ1 (List.ne_nil_of_length_pos (by rw [letL_len]; omega))
    refine ⟨.raw _, rfl, vtl (p ++ q1) (p ++ q1) List.perm_append_comm (List.Sublist.refl _) ?_⟩
    apply go 300
    repeat' (first | apply And.intro | intro _)
    all_goals try (first | (show Here _ _ _ _; try (exfalso; omega)) | exact trivial | omega | kernel_rfl | exact rfl)
    refine vapG (news := letL x.1) (bs := p) (qs := q1) tabOk hO rfl rfl rfl rfl rfl (by decide) (by rw [letL_len]; omega) (by rw [letL_len]; omega) (by rw [letL_len]; omega) rfl rfl rfl rfl (fun w hst => hr1 _ _ _ _ (fun y hy => by simp [hy]) hst) rfl ?_
    intro u1 p1 hO1
    refine vtl p1 _ (List.Perm.refl _) (List.sublist_append_left _ _) ?_
    apply go 300
    repeat' (first | apply And.intro | intro _)
    all_goals try (first | (show Here _ _ _ _; try (exfalso; omega)) | exact trivial | omega | kernel_rfl | exact rfl)
    rename_i _ y hy0
    obtain rfl : x = y := Option.some.inj (hx0.symm.trans hy0)
    repeat' (first | apply And.intro | intro _)
    refine vcc rfl rfl (by kernel_rfl) (rLetters x.2 hsx.2) (by exact fun _ _ => trivial) ?_
    intro v2 q2 hQ2
    obtain ⟨g2, c2, rfl, hr2⟩ := outG_reads hQ2 (List.ne_nil_of_length_pos (by rw [letL_len]; omega))
    refine ⟨.raw _, rfl, vtl (p1 ++ q2) (p1 ++ q2) List.perm_append_comm (List.Sublist.refl _) ?_⟩
    apply go 300
    repeat' (first | apply And.intro | intro _)
    all_goals try (first | (show Here _ _ _ _; try (exfalso; omega)) | exact trivial | omega | kernel_rfl | exact rfl)
    refine vapG (news := letL x.2) (bs := p1) (qs := q2) tabOk hO1 rfl rfl rfl rfl rfl (by decide) (by rw [List.length_append, letL_len, letL_len]; omega) (by rw [List.length_append, letL_len, letL_len]; omega) (by rw [letL_len]; omega) rfl rfl rfl rfl (fun w hst => hr2 _ _ _ _ (fun y hy => by simp [hy]) hst) rfl ?_
    intro u2 p2 hO2
    refine vtl p2 _ (List.Perm.refl _) (List.sublist_append_left _ _) ?_
    rw [List.append_assoc, List.append_assoc, ← hstep] at hO2
    apply go 300
    repeat' (first | apply And.intro | intro _)
    all_goals try (first | (show Here _ _ _ _; try (exfalso; omega)) | exact trivial | omega | kernel_rfl | exact rfl)
    exact vweak _ _ _ (ih (i + 1, u2, p2) ⟨by simp only; omega, hO2⟩ (by simp only; omega)) ⟨rfl, rfl, rfl, trivial⟩ (List.Sublist.refl _)
  · apply go 300
    repeat' (first | apply And.intro | intro _)
    all_goals try (first | (show Here _ _ _ _; try (exfalso; omega)) | exact trivial | omega | kernel_rfl | exact rfl)
    obtain rfl : i = o.labs.length := by omega
    rw [List.take_length] at hO
    refine vc1 (bs := p) rfl rfl (List.sublist_append_right _ _) ?_
    exact hO
theorem rMore (h : Int) (l : List Int) (bb c : Nat) (hn : l.length ≤ 9223372036854775807) : RetIf Tryz.prog 169 [.int .u64 h, .slice (some ⟨bb, 0, none⟩) l.length c] (fun w => Reads w ⟨bb, 0, none⟩ (flatG cdB l)) (.int .u64 (bytesH h l)) := by
  refine ret_start2 Tryz.func169 rfl rfl rfl (fun w0 hw => ?_)
  refine vstart [(0, .int .u64 h), (1, .sl false 0 bb 0 1 none l.length c)] [] [] ?_
  refine vwith (pt := .run _) _ _ [⟨bb, 0, .arr cdB l⟩] tabOk (lent_cons List.not_mem_nil hw lent_nil) fun go => ?_
  apply go 300
  repeat' (first | apply And.intro | intro _)
  all_goals try (first | (show Here _ _ _ _; try (exfalso; omega)) | exact trivial | omega | kernel_rfl | exact rfl)
  refine vrounds (fun i : Nat => i ≤ l.length) (fun i => l.length - i) (fun i => [(0, .int .u64 (bytesH h (l.take i))), (1, .sl false 0 bb 0 1 none l.length c), (5, .nat i)]) (fun _ => []) (fun _ => []) 0 (fun i hi ih => ?_) (Nat.zero_le _) ⟨rfl, rfl, rfl, trivial⟩ (List.Sublist.refl _)
  by_cases hl : i < l.length
  · apply go 300
    repeat' (first | apply And.intro | intro _)
    all_goals try (first | (show Here _ _ _ _; try (exfalso; omega)) | exact trivial | omega | kernel_rfl | exact rfl)
    rename_i x hx
    refine vweak _ _ _ (ih (i + 1) (by omega) (by omega)) ⟨?_, rfl, rfl, trivial⟩ (List.Sublist.refl _)
    have : bytesH h (l.take (i + 1)) = mixH (bytesH h (l.take i)) x := by unfold bytesH; rw [List.take_add_one, hx, List.foldl_append]; rfl
    rw [this]
    rfl
  · apply go 300
    repeat' (first | apply And.intro | intro _)
    all_goals try (first | (show Here _ _ _ _; try (exfalso; omega)) | exact trivial | omega | kernel_rfl | exact rfl)
    obtain rfl : i = l.length := by omega
    refine vr1 rfl rfl ?_
    rw [List.take_length]; rfl
theorem reads_st {W0 w : World} {hs : Hs} {b : Nat} {l : List Go.Value} (hst : St W0 [] hs w) (hw : Reads W0 ⟨b, 0, none⟩ l) : Reads w ⟨b, 0, none⟩ l := by
  cases l with
  | nil => trivial
  | cons v vs => exact Reads.keep hst hw.lt List.not_mem_nil _ _ hw
theorem rOf (l : List Int) (bb c : Nat) (hn : l.length ≤ 9223372036854775807) : RetIf Tryz.prog 123 [.slice (some ⟨bb, 0, none⟩) l.length c] (fun w => Reads w ⟨bb, 0, none⟩ (flatG cdB l)) (.int .u64 (bytesH 14695981039346656037 l)) := by
  refine ret_start1 Tryz.func123 rfl rfl rfl (fun w0 hw => ?_)
  refine vstart [(0, .raw (.slice (some ⟨bb, 0, none⟩) l.length c))] [] [] ?_
  refine vwith (pt := .run _) _ _ [] tabOk lent_nil fun go => ?_
  apply go 300
  repeat' (first | apply And.intro | intro _)
  all_goals try (first | (show Here _ _ _ _; try (exfalso; omega)) | exact trivial | omega | kernel_rfl | exact rfl)
  refine vcall (v := .int .u64 (bytesH 14695981039346656037 l)) rfl rfl (by kernel_rfl) (rMore 14695981039346656037 l bb c hn) (by exact fun w hst => reads_st hst hw) ?_
  apply go 300
  repeat' (first | apply And.intro | intro _)
  all_goals try (first | (show Here _ _ _ _; try (exfalso; omega)) | exact trivial | omega | kernel_rfl | exact rfl)
  exact vr1 rfl rfl rfl
theorem rTemplate (o : Oj) (a a' : Option Addr) (c c' : Nat) (hz : SzM o) : RetIf Tryz.prog 58 [(ov o a c a' c').val] (fun w => LabAt w a o.labs) (.int .u64 (templH o)) := by
  refine ret_start1 Tryz.func58 rfl rfl rfl (fun w0 hw => ?_)
  refine vstart [(0, ov o a c a' c')] [] [] ?_
  refine vwith (pt := .run _) _ _ [] tabOk lent_nil fun go => ?_
  apply go 300
  repeat' (first | apply And.intro | intro _)
  all_goals try (first | (show Here _ _ _ _; try (exfalso; omega)) | exact trivial | omega | kernel_rfl | exact rfl)
  have hlen : (headB o ++ labsB o.labs).length ≤ 9223372036854775807 := by
    have := labsB_len o.labs hz.2.2
    have h2 := hz.1
    have h3 := hz.2.1
    rw [List.length_append, headB]
    simp only [List.length_append, numL_len, letL_len]
    omega
  have hne : headB o ++ labsB o.labs ≠ [] := List.ne_nil_of_length_pos (by rw [List.length_append, headB]; simp only [List.length_append, numL_len, letL_len]; omega)
  refine vcc rfl rfl (by kernel_rfl) (rBytes o a a' c c' hz) (by exact fun _ h => hw.st h) ?_
  intro v1 q1 hQ1
  obtain ⟨g1, c1, rfl, hr1⟩ := outG_reads hQ1 hne
  refine ⟨.raw _, rfl, ?_⟩
  apply go 300
  repeat' (first | apply And.intro | intro _)
  all_goals try (first | (show Here _ _ _ _; try (exfalso; omega)) | exact trivial | omega | kernel_rfl | exact rfl)
  refine vcall (v := .int .u64 (templH o)) rfl rfl (by kernel_rfl) (show RetIf _ _ _ _ (.int .u64 (templH o)) by rw [← templ_bytes]; exact rOf _ g1 c1 hlen) (by exact fun w hst => hr1 _ _ _ _ (fun y hy => by simp [hy]) hst) ?_
  apply go 300
  repeat' (first | apply And.intro | intro _)
  all_goals try (first | (show Here _ _ _ _; try (exfalso; omega)) | exact trivial | omega | kernel_rfl | exact rfl)
  exact vr1 rfl rfl rfl
end Go.Fl
