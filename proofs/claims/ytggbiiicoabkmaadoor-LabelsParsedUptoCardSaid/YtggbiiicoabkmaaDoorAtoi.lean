/-
  strconv.Itoa and strconv.Atoi, by the shelf's contracts; where a byte stands last. No condition.
-/
import Derived.Test.YtggbiiicoabkmaaDoorWordsC
import Derived.Lib.SmallJoins
namespace Go.Fl
open Go.Proofs Go.RowKit
set_option maxRecDepth 10000

/-- What start-up laid for numbers. -/
structure LaidN (w : World) : Prop where
  tab : Lib.TabIs Tryd.prog w "internal/strconv.uint64pow10" .u64 Lib.pow10Tab
  syn : ∃ t p, w.cell? ⟨2, 0, none⟩ = some (.iface t p)
  rng : ∃ t p, w.cell? ⟨3, 0, none⟩ = some (.iface t p)
theorem cell_stays {w w' : World} {a : Addr} {v : Go.Value} (h : w.cell? a = some v) (hb : Below w.heap.size w w') : w'.cell? a = some v := by
  have hlt : a.block < w.heap.size := by
    unfold World.cell? at h
    cases hc : w.heap[a.block]? with
    | none => simp [hc] at h
    | some o => exact (Array.getElem?_eq_some_iff.1 hc).1
  unfold World.cell? at h ⊢
  rw [hb.block _ hlt]; exact h
theorem LaidN.below {w w' : World} (h : LaidN w) (hb : Below w.heap.size w w') : LaidN w' := by
  obtain ⟨h1, ⟨t, p, h2⟩, t', p', h3⟩ := h
  exact ⟨Go.Joins.tab_stays (g := 6) (by kernel_rfl) h1 hb (Nat.le_refl _), ⟨t, p, cell_stays h2 hb⟩, ⟨t', p', cell_stays h3 hb⟩⟩
theorem LaidN.st {W0 w : World} {hs : Hs} (h : LaidN W0) (hst : St W0 [] hs w) : LaidN w := h.below hst.below

theorem below_grow (w : World) (k : Nat) (os : Array Obj) : Below w.heap.size w (Sort.grow (w.drewN k) os) := by
  refine ⟨rfl, rfl, rfl, ?_, fun j hj => ?_⟩
  · simp [Sort.grow, World.drewN]
  · simp [Sort.grow, World.drewN, Array.getElem?_append_left hj]

theorem itoa (n : Int) (h0 : -9223372036854775808 ≤ n) (h1 : n ≤ 9223372036854775807) : RetIf Tryd.prog 62 [.int .i64 n] LaidN (.string ⟨(Lib.itoa n).toArray⟩) :=
  ⟨fun w hw => (Tryd.strconv_Itoa n h0 h1 w hw.tab).mono fun _ _ ⟨h2, k, os, h3⟩ => ⟨h2, by rw [h3]; exact below_grow w k os⟩⟩

def AtoiPost (s : ByteArray) (v : Go.Value) (hs : Hs) : Prop :=
  hs = [] ∧ ((∃ n, Lib.atoiAll (tl s) = .ok n ∧ v = .tuple #[.int .i64 n, .nilIface]) ∨ ((∀ n, Lib.atoiAll (tl s) ≠ .ok n) ∧ ∃ n t p, v = .tuple #[.int .i64 n, .iface t p]))
theorem St.of_below {w w' : World} (h : Below w.heap.size w w') : St w [] [] w' := (St.start w).keep h
theorem atoi (s : ByteArray) (hs : s.size ≤ 281474976710656) : Con Tryd.prog 66 [.string s] [] LaidN (AtoiPost s) := by
  refine ⟨fun w _ hw => ?_⟩
  cases h : Lib.atoiAll (tl s)
  · rename_i n
    refine (Tryd.strconv_Atoi_ok s (by omega) n h w).mono fun _ w' ⟨h2, h3⟩ => ⟨_, [], h2, St.of_below ?_, rfl, Or.inl ⟨n, h, rfl⟩⟩
    rcases h3 with rfl | ⟨t, rfl⟩
    · exact Below.refl _ _
    · exact Lib.bytesWorld_below w _ t
  · obtain ⟨t, p, h2⟩ := hw.syn
    refine (Any.strconv_Atoi_syntax Tryd.laysC172 s hs h _ w h2 (Or.inr ⟨t, p, rfl⟩)).mono fun _ w' ⟨N, h3, _, _, h4⟩ => ⟨_, [], h3, St.of_below h4, rfl, Or.inr ⟨(fun n hn => by rw [h] at hn; cases hn), _, _, _, rfl⟩⟩
  · obtain ⟨t, p, h2⟩ := hw.rng
    refine (Tryd.strconv_Atoi_range s hs h _ w h2 (Or.inr ⟨t, p, rfl⟩)).mono fun _ w' ⟨N, h3, _, _, h4⟩ => ⟨_, [], h3, St.of_below h4, rfl, Or.inr ⟨(fun n hn => by rw [h] at hn; cases hn), _, _, _, rfl⟩⟩

def dashI (l : List UInt8) : Int := match dashAt l with
  | none => -1
  | some i => (i : Int)
theorem dashAt_snoc (c : UInt8) : ∀ l : List UInt8, dashAt (l ++ [c]) = if c = 45 then some l.length else dashAt l
  | [] => by simp [dashAt]
  | x :: l => by
    rw [List.cons_append]
    simp only [dashAt, dashAt_snoc c l]
    by_cases h : c = 45
    · simp [h]
    · simp only [if_neg h]
theorem lastIdx_dash (l : List UInt8) : ∀ k, k ≤ l.length → Lib.Pa.lastIdx l 45 k = dashI (l.take k)
  | 0, _ => rfl
  | k + 1, h => by
    have ih := lastIdx_dash l k (by omega)
    rw [Lib.Pa.lastIdx, ih, List.take_add_one, List.getElem?_eq_getElem (by omega), Option.toList_some]
    unfold dashI
    rw [dashAt_snoc]
    by_cases hc : l[k] = 45
    · simp [hc]; omega
    · have : ¬ (some l[k] = some (45 : UInt8)) := by simpa using hc
      simp only [if_neg hc, if_neg this]
theorem dashAt_lt : ∀ {l : List UInt8} {i : Nat}, dashAt l = some i → i < l.length
  | [], i, h => by simp [dashAt] at h
  | c :: l, i, h => by
    unfold dashAt at h
    cases hd : dashAt l with
    | some j => rw [hd] at h; have := dashAt_lt hd; simp at h; simp; omega
    | none =>
      rw [hd] at h
      by_cases hc : c = 45
      · simp [hc] at h; simp; omega
      · simp [hc] at h

theorem lastIB0 (s : ByteArray) (hs : s.size ≤ 9223372036854775807) : RetIf Tryd.prog 97 [.string s, .int .u8 45] (fun _ => True) (.int .i64 (dashI (tl s))) :=
  ⟨fun w _ => (Tryd.bytealg_LastIndexByteString s 45 w hs).mono fun _ _ ⟨h1, h2⟩ => by
    refine ⟨?_, by rw [h2]; exact Below.refl _ _⟩
    rw [h1]
    have h3 := lastIdx_dash (tl s) (tl s).length (Nat.le_refl _)
    rw [List.take_length] at h3
    rw [← h3]; rfl⟩
theorem lastIB (s : ByteArray) (hs : s.size ≤ 9223372036854775807) : RetIf Tryd.prog 64 [.string s, .int .u8 45] (fun _ => True) (.int .i64 (dashI (tl s))) := by
  refine ret_start2 Tryd.func64 rfl rfl rfl (fun w _ => ?_)
  repeat' (first | (first | (apply o1; exact rfl; apply pv; exact rfl; exact rfl) | apply nl | apply sq | apply rg | (apply gy; exact rfl; exact rfl) | (apply gn; exact rfl; exact rfl; exact rfl; exact rfl) | (apply gu; exact rfl; exact rfl; exact rfl; exact rfl) | (apply gs; exact rfl; exact rfl; all_goals intro _) | (apply gb; exact rfl; exact rfl; all_goals intro _) | (apply it; exact rfl) | (apply fi; exact rfl) | (apply cd; exact rfl; all_goals intro _) | (apply cb; exact rfl; all_goals intro _) | apply bl | (apply xt; exact rfl) | apply sk | apply ib | (apply o1; exact rfl; (first | (apply pv; exact rfl; exact rfl) | (apply p_ls; exact rfl; kernel_rfl) | (apply p_ll; exact rfl; kernel_rfl) | (apply p_ic; exact rfl; omega) | (apply p_s1; exact rfl; omega; omega) | (apply p_sb; exact rfl; exact rfl; omega; omega) | (apply p_ad; exact rfl; exact rfl; omega) | (apply p_be; exact rfl; exact rfl; kernel_rfl) | (apply p_bn; exact rfl; exact rfl; kernel_rfl) | (apply p_en; exact rfl; exact rfl; kernel_rfl) | (apply p_nn; exact rfl; exact rfl; kernel_rfl) | (apply p_cv; exact rfl; exact int_of tabOk rfl; kernel_rfl) | (apply p_mi; exact rfl; exact p_mi_ok (kind_of tabOk rfl) rfl) | (apply p_fa; exact rfl; exact field_of tabOk rfl) | (apply p_nc; exact rfl) | (apply p_bk; exact rfl; omega; omega; kernel_rfl) | (apply p_by; exact rfl; exact rfl; omega; kernel_rfl) | (apply p_ia; exact rfl; exact rfl; exact elem_of tabOk rfl; omega) | (apply p_ar; exact rfl; exact rfl; exact rfl) | (apply p_bd tabOk; exact rfl; exact rfl; exact rfl; exact ⟨rfl, rfl⟩))) | (apply o2; exact rfl; (first | (apply r_l1 0; exact shape_of tabOk rfl; exact rfl; exact rfl; exact rfl) | (apply r_ln 0; exact shape_of tabOk rfl; exact rfl; exact rfl; exact rfl) | (apply r_l1 1; exact shape_of tabOk rfl; exact rfl; exact rfl; exact rfl) | (apply r_ln 1; exact shape_of tabOk rfl; exact rfl; exact rfl; exact rfl) | (apply r_l1 2; exact shape_of tabOk rfl; exact rfl; exact rfl; exact rfl) | (apply r_ln 2; exact shape_of tabOk rfl; exact rfl; exact rfl; exact rfl) | (apply r_l1 3; exact shape_of tabOk rfl; exact rfl; exact rfl; exact rfl) | (apply r_ln 3; exact shape_of tabOk rfl; exact rfl; exact rfl; exact rfl))) | (apply al; exact rfl; exact zero_of tabOk rfl; intro _) | (apply bx; exact rfl; exact rfl; intro _) | (apply sw 0; exact size_of tabOk rfl; exact rfl; exact rfl; exact rfl; exact rfl; exact rfl; exact rfl; exact rfl) | (apply so 0; exact size_of tabOk rfl; exact rfl; exact rfl; exact rfl; exact rfl; exact so_le rfl; exact so_one rfl) | (apply sw 1; exact size_of tabOk rfl; exact rfl; exact rfl; exact rfl; exact rfl; exact rfl; exact rfl; exact rfl) | (apply so 1; exact size_of tabOk rfl; exact rfl; exact rfl; exact rfl; exact rfl; exact so_le rfl; exact so_one rfl) | (apply sw 2; exact size_of tabOk rfl; exact rfl; exact rfl; exact rfl; exact rfl; exact rfl; exact rfl; exact rfl) | (apply so 2; exact size_of tabOk rfl; exact rfl; exact rfl; exact rfl; exact rfl; exact so_le rfl; exact so_one rfl) | (apply sw 3; exact size_of tabOk rfl; exact rfl; exact rfl; exact rfl; exact rfl; exact rfl; exact rfl; exact rfl) | (apply so 3; exact size_of tabOk rfl; exact rfl; exact rfl; exact rfl; exact rfl; exact so_le rfl; exact so_one rfl) | (apply rr1; exact rfl; exact rfl) | (apply rr2; exact rfl; exact rfl; exact rfl) | (apply rr3; exact rfl; exact rfl; exact rfl; exact rfl)) | (apply cr; exact rfl; kernel_rfl; exact rfl; exact lastIB0 _ hs))
  all_goals rfl
end Go.Fl
