/-
  The document's own parser of labels: its pieces. No condition.
-/
import Derived.Test.YtggbiiicoabkmaaDoorParse
namespace Go.Fl
open Go.Proofs Go.RowKit
set_option maxRecDepth 10000
set_option maxHeartbeats 4000000

def strs (out : List ByteArray) : List Go.Value := out.map .string
/-- A slice of texts of our own that grows. -/
def StrsAt (out : List ByteArray) (v : Go.Value) (bs : Hs) : Prop :=
  (out = [] ∧ v = .slice none 0 0 ∧ bs = []) ∨
  ∃ g cap cur, v = .slice (some ⟨g, 0, none⟩) out.length cap ∧ bs = [(g, .cells cur 9)] ∧ Grew g out.length cap 1 cur (strs out)
theorem StrsAt.slice {out : List ByteArray} {v : Go.Value} {bs : Hs} (h : StrsAt out v bs) : ∃ a c, v = .slice a out.length c := by
  rcases h with ⟨rfl, rfl, rfl⟩ | ⟨g, cap, cur, rfl, rfl, hg⟩ <;> exact ⟨_, _, rfl⟩
theorem strsAt_get {out : List ByteArray} {v : Go.Value} {bs : Hs} (h : StrsAt out v bs) (h0 : out ≠ []) : ∃ g cap cur, v = .slice (some ⟨g, 0, none⟩) out.length cap ∧ bs = [(g, .cells cur 9)] ∧
    ∀ (i : Nat) (x : ByteArray), out[i]? = some x → lget cur.toList (0 + i * 1) = some (.string x) := by
  rcases h with ⟨rfl, rfl, rfl⟩ | ⟨g, cap, cur, rfl, rfl, hg⟩
  · exact absurd rfl h0
  · refine ⟨g, cap, cur, rfl, rfl, fun i x hx => ?_⟩
    have hc := hg.cells
    have hi := (List.getElem?_eq_some_iff.1 hx).1
    have e : (cur.toList.take (out.length * 1))[i]? = some (.string x) := by rw [hc]; simp [strs, hx]
    rw [List.getElem?_take_of_lt (by omega)] at e
    rw [lget_eq]
    simpa using e
/-- One text more. -/
theorem apS {C : Cx} {ops : Array Oper} {rest : List Oper} {k : List Item} {e : Env} {bs qs : Hs} {d b : Nat} {ty : TypeId} {pos : String} {af : Array Edge} {x y : Operand} {out : List ByteArray} {l : ByteArray} {v : Go.Value} (hT : TabOk C.P tab) (hd : Nat.blt d C.N = true)
    (ho : StrsAt out v bs) (hlen : out.length ≤ 4000000) (hx : ev e x = some v) (hy : ev e y = some (.slice (some ⟨b, 0, none⟩) 1 1))
    (next : ∀ v' bs', StrsAt (out ++ [l]) v' bs' → Ops C ops rest k ((d, v') :: e) (bs' ++ qs)) :
    Ops C ops (⟨some d, .call { callee := .builtin .append, args := #[x, y], argTypes := #[64, 64] }, ty, pos, af, none⟩ :: rest) k e (bs ++ (b, .cells #[.string l] 9) :: qs) := by
  have hnews : ∀ (hs : Hs), (b, Obj.cells #[.string l] 9) ∈ hs → ∀ w, St C.W0 C.own hs w → Reads w ⟨b, 0, none⟩ [.string l] := fun hs hm w hst =>
    (reads_of_block (hst.has _ hm) 1 0 [.string l] rfl).1
  have hfin : ∀ g cap cur, Grew g (out.length + 1) cap 1 cur (strs out ++ [.string l]) → StrsAt (out ++ [l]) (.slice (some ⟨g, 0, none⟩) (out.length + 1) cap) [(g, .cells cur 9)] := by
    intro g cap cur hg
    exact Or.inr ⟨g, cap, cur, by simp, rfl, by simpa [strs] using hg⟩
  have hdrop : ∀ (x : Nat × Obj) w, St C.W0 C.own (x :: (b, Obj.cells #[.string l] 9) :: qs) w → St C.W0 C.own ([x] ++ qs) w := fun x w h =>
    h.sub (List.Sublist.cons_cons _ (List.Sublist.cons _ (List.Sublist.refl _)))
  rcases ho with ⟨rfl, rfl, rfl⟩ | ⟨g, cap, cur, rfl, rfl, hg⟩
  · refine apN (news := [.string l]) hT hd hx hy rfl rfl rfl rfl rfl (by decide) (by decide) (by decide) (hnews _ (by simp)) rfl (fun g cap cur hg => ?_)
    exact ops_st (hdrop (g, _)) (next _ _ (hfin g cap cur hg))
  · refine apO 0 (news := [.string l]) (xs := strs out) hT hd hx hy rfl hg rfl rfl rfl rfl rfl (by decide) (by omega) (by decide) (hnews _ (by simp)) rfl (by intro u hu; simp at hu; rcases hu with rfl; rfl) (fun g' cap' cur' hg' => ?_)
    exact ops_st (hdrop (g', _)) (next _ _ (hfin g' cap' cur' hg'))

theorem pieceL_split : ∀ (p r : List UInt8), (∀ c ∈ p, c ≠ 44) → pieceL (p ++ 44 :: r) = p :: pieceL r
  | [], r, _ => rfl
  | c :: p, r, h => by
    have ih := pieceL_split p r (fun d hd => h d (List.mem_cons_of_mem _ hd))
    have hc := h c List.mem_cons_self
    show (if c = 44 then [] :: pieceL (p ++ 44 :: r) else match pieceL (p ++ 44 :: r) with | [] => [[c]] | q :: qs => (c :: q) :: qs) = _
    rw [if_neg hc, ih]
theorem pieceL_none : ∀ (p : List UInt8), (∀ c ∈ p, c ≠ 44) → pieceL p = [p]
  | [], _ => rfl
  | c :: p, h => by
    have ih := pieceL_none p (fun d hd => h d (List.mem_cons_of_mem _ hd))
    have hc := h c List.mem_cons_self
    show (if c = 44 then [] :: pieceL p else match pieceL p with | [] => [[c]] | q :: qs => (c :: q) :: qs) = _
    rw [if_neg hc, ih]

structure PieceI (l : List UInt8) (i fr : Nat) (out : List ByteArray) : Prop where
  le : i ≤ l.length
  low : fr ≤ i
  eq : pieceL l = out.map tl ++ pieceL (l.drop fr)
  no : ∀ c ∈ (l.drop fr).take (i - fr), c ≠ 44
  len : out.length ≤ i
theorem PieceI.next {l : List UInt8} {i fr : Nat} {out : List ByteArray} (h : PieceI l i fr out) {c : UInt8} (hc : l[i]? = some c) (h44 : c ≠ 44) : PieceI l (i + 1) fr out := by
  have hi := (List.getElem?_eq_some_iff.1 hc).1
  have h1 := h.low
  refine ⟨by omega, by omega, h.eq, fun d hd => ?_, by have := h.len; omega⟩
  have e : (l.drop fr).take (i + 1 - fr) = (l.drop fr).take (i - fr) ++ [c] := by
    rw [show i + 1 - fr = (i - fr) + 1 by omega, List.take_add_one, List.getElem?_drop, show fr + (i - fr) = i by omega, hc]; rfl
  rw [e] at hd
  rcases List.mem_append.1 hd with hd | hd
  · exact h.no d hd
  · simp at hd; subst hd; exact h44
theorem PieceI.cut {s : ByteArray} {i fr : Nat} {out : List ByteArray} (h : PieceI (tl s) i fr out) (hc : (tl s)[i]? = some 44) : PieceI (tl s) (i + 1) (i + 1) (out ++ [s.extract fr i]) := by
  have hi := (List.getElem?_eq_some_iff.1 hc).1
  have h1 := h.low
  refine ⟨by omega, by omega, ?_, by simp, by have := h.len; simp; omega⟩
  have e : (tl s).drop fr = ((tl s).drop fr).take (i - fr) ++ 44 :: (tl s).drop (i + 1) := by
    have e1 : ((tl s).drop fr).drop (i - fr) = 44 :: (tl s).drop (i + 1) := by
      rw [List.drop_drop, show fr + (i - fr) = i by omega, List.drop_eq_getElem_cons hi]
      congr 1
      exact (List.getElem?_eq_some_iff.1 hc).2
    rw [← e1, List.take_append_drop]
  rw [h.eq, e, pieceL_split _ _ h.no]
  simp [tl_extract]
theorem PieceI.done {s : ByteArray} {i fr : Nat} {out : List ByteArray} (h : PieceI (tl s) i fr out) (hi : ¬ i < (tl s).length) : (out ++ [s.extract fr s.size]).map tl = pieceL (tl s) := by
  have hle := h.le
  obtain rfl : i = (tl s).length := by omega
  have h2 := h.no
  rw [List.take_of_length_le (by simp)] at h2
  rw [h.eq, pieceL_none _ h2]
  simp [tl_from]

theorem rpieces (s : ByteArray) (hs : s.size ≤ 2097152) : Con Tryd.prog 47 [.string s] [] (fun _ => True) (fun v bs => ∃ out : List ByteArray, out.map tl = pieceL (tl s) ∧ StrsAt out v bs) := by
  refine con_start1 Tryd.func47 rfl rfl rfl (fun w0 _ => ?_)
  repeat' (first | (apply o1; exact rfl; apply pv; exact rfl; exact rfl) | apply nl | apply sq | apply rg | (apply gy; exact rfl; exact rfl) | (apply gn; exact rfl; exact rfl; exact rfl; exact rfl) | (apply gu; exact rfl; exact rfl; exact rfl; exact rfl) | (apply gs; exact rfl; exact rfl; all_goals intro _) | (apply gb; exact rfl; exact rfl; all_goals intro _) | (apply it; exact rfl) | (apply fi; exact rfl) | (apply cd; exact rfl; all_goals intro _) | (apply cb; exact rfl; all_goals intro _) | apply bl | (apply xt; exact rfl) | apply sk | apply ib | (apply o1; exact rfl; (first | (apply pv; exact rfl; exact rfl) | (apply p_ls; exact rfl; kernel_rfl) | (apply p_ll; exact rfl; kernel_rfl) | (apply p_ic; exact rfl; omega) | (apply p_s1; exact rfl; omega; omega) | (apply p_sb; exact rfl; exact rfl; omega; omega) | (apply p_ad; exact rfl; exact rfl; omega) | (apply p_be; exact rfl; exact rfl; kernel_rfl) | (apply p_bn; exact rfl; exact rfl; kernel_rfl) | (apply p_en; exact rfl; exact rfl; kernel_rfl) | (apply p_nn; exact rfl; exact rfl; kernel_rfl) | (apply p_cv; exact rfl; exact int_of tabOk rfl; kernel_rfl) | (apply p_mi; exact rfl; exact p_mi_ok (kind_of tabOk rfl) rfl) | (apply p_fa; exact rfl; exact field_of tabOk rfl) | (apply p_nc; exact rfl) | (apply p_bk; exact rfl; omega; omega; kernel_rfl) | (apply p_by; exact rfl; exact rfl; omega; kernel_rfl) | (apply p_ia; exact rfl; exact rfl; exact elem_of tabOk rfl; omega) | (apply p_ar; exact rfl; exact rfl; exact rfl) | (apply p_bd tabOk; exact rfl; exact rfl; exact rfl; exact ⟨rfl, rfl⟩))) | (apply o2; exact rfl; (first | (apply r_l1 0; exact shape_of tabOk rfl; exact rfl; exact rfl; exact rfl) | (apply r_ln 0; exact shape_of tabOk rfl; exact rfl; exact rfl; exact rfl) | (apply r_l1 1; exact shape_of tabOk rfl; exact rfl; exact rfl; exact rfl) | (apply r_ln 1; exact shape_of tabOk rfl; exact rfl; exact rfl; exact rfl) | (apply r_l1 2; exact shape_of tabOk rfl; exact rfl; exact rfl; exact rfl) | (apply r_ln 2; exact shape_of tabOk rfl; exact rfl; exact rfl; exact rfl) | (apply r_l1 3; exact shape_of tabOk rfl; exact rfl; exact rfl; exact rfl) | (apply r_ln 3; exact shape_of tabOk rfl; exact rfl; exact rfl; exact rfl))) | (apply al; exact rfl; exact zero_of tabOk rfl; intro _) | (apply bx; exact rfl; exact rfl; intro _) | (apply sw 0; exact size_of tabOk rfl; exact rfl; exact rfl; exact rfl; exact rfl; exact rfl; exact rfl; exact rfl) | (apply so 0; exact size_of tabOk rfl; exact rfl; exact rfl; exact rfl; exact rfl; exact so_le rfl; exact so_one rfl) | (apply sw 1; exact size_of tabOk rfl; exact rfl; exact rfl; exact rfl; exact rfl; exact rfl; exact rfl; exact rfl) | (apply so 1; exact size_of tabOk rfl; exact rfl; exact rfl; exact rfl; exact rfl; exact so_le rfl; exact so_one rfl) | (apply sw 2; exact size_of tabOk rfl; exact rfl; exact rfl; exact rfl; exact rfl; exact rfl; exact rfl; exact rfl) | (apply so 2; exact size_of tabOk rfl; exact rfl; exact rfl; exact rfl; exact rfl; exact so_le rfl; exact so_one rfl) | (apply sw 3; exact size_of tabOk rfl; exact rfl; exact rfl; exact rfl; exact rfl; exact rfl; exact rfl; exact rfl) | (apply so 3; exact size_of tabOk rfl; exact rfl; exact rfl; exact rfl; exact rfl; exact so_le rfl; exact so_one rfl) | (apply rr1; exact rfl; exact rfl) | (apply rr2; exact rfl; exact rfl; exact rfl) | (apply rr3; exact rfl; exact rfl; exact rfl; exact rfl))
  refine weak (e' := [(0, .string s), (3, .slice none 0 0), (4, .int .i64 ((0 : Nat) : Int)), (5, .int .i64 ((0 : Nat) : Int))]) (hs' := []) ⟨rfl, rfl, rfl, rfl, trivial⟩ (List.Sublist.refl _) ?_
  refine rounds (fun p : Nat × Nat × List ByteArray × Go.Value × Hs => PieceI (tl s) p.1 p.2.1 p.2.2.1 ∧ StrsAt p.2.2.1 p.2.2.2.1 p.2.2.2.2) (fun p => s.size - p.1)
    (fun p => [(0, .string s), (3, p.2.2.2.1), (4, .int .i64 (p.2.1 : Int)), (5, .int .i64 (p.1 : Int))]) (fun p => p.2.2.2.2) (fun p hI ih => ?_) (0, 0, [], .slice none 0 0, []) ⟨⟨by simp, by simp, by simp, by simp, by simp⟩, Or.inl ⟨rfl, rfl, rfl⟩⟩
  obtain ⟨i, fr, out, u, obs⟩ := p
  obtain ⟨hI, ho⟩ := hI
  simp only at hI ho ih ⊢
  have h1 := hI.le
  have h2 := hI.low
  have h3 := hI.len
  rw [← size_tl] at h1
  by_cases hlt : i < s.size
  · obtain ⟨c, hc⟩ : ∃ c, (tl s)[i]? = some c := ⟨_, List.getElem?_eq_getElem (by rw [← size_tl]; exact hlt)⟩
    have hcv : (tl s).getD i 0 = c := by rw [List.getD_eq_getElem?_getD, hc]; rfl
    repeat' (first | (first | (apply o1; exact rfl; apply pv; exact rfl; exact rfl) | apply nl | apply sq | apply rg | (apply gy; exact rfl; exact rfl) | (apply gn; exact rfl; exact rfl; exact rfl; exact rfl) | (apply gu; exact rfl; exact rfl; exact rfl; exact rfl) | (apply gs; exact rfl; exact rfl; all_goals intro _) | (apply gb; exact rfl; exact rfl; all_goals intro _) | (apply it; exact rfl) | (apply fi; exact rfl) | (apply cd; exact rfl; all_goals intro _) | (apply cb; exact rfl; all_goals intro _) | apply bl | (apply xt; exact rfl) | apply sk | apply ib | (apply o1; exact rfl; (first | (apply pv; exact rfl; exact rfl) | (apply p_ls; exact rfl; kernel_rfl) | (apply p_ll; exact rfl; kernel_rfl) | (apply p_ic; exact rfl; omega) | (apply p_s1; exact rfl; omega; omega) | (apply p_sb; exact rfl; exact rfl; omega; omega) | (apply p_ad; exact rfl; exact rfl; omega) | (apply p_be; exact rfl; exact rfl; kernel_rfl) | (apply p_bn; exact rfl; exact rfl; kernel_rfl) | (apply p_en; exact rfl; exact rfl; kernel_rfl) | (apply p_nn; exact rfl; exact rfl; kernel_rfl) | (apply p_cv; exact rfl; exact int_of tabOk rfl; kernel_rfl) | (apply p_mi; exact rfl; exact p_mi_ok (kind_of tabOk rfl) rfl) | (apply p_fa; exact rfl; exact field_of tabOk rfl) | (apply p_nc; exact rfl) | (apply p_bk; exact rfl; omega; omega; kernel_rfl) | (apply p_by; exact rfl; exact rfl; omega; kernel_rfl) | (apply p_ia; exact rfl; exact rfl; exact elem_of tabOk rfl; omega) | (apply p_ar; exact rfl; exact rfl; exact rfl) | (apply p_bd tabOk; exact rfl; exact rfl; exact rfl; exact ⟨rfl, rfl⟩))) | (apply o2; exact rfl; (first | (apply r_l1 0; exact shape_of tabOk rfl; exact rfl; exact rfl; exact rfl) | (apply r_ln 0; exact shape_of tabOk rfl; exact rfl; exact rfl; exact rfl) | (apply r_l1 1; exact shape_of tabOk rfl; exact rfl; exact rfl; exact rfl) | (apply r_ln 1; exact shape_of tabOk rfl; exact rfl; exact rfl; exact rfl) | (apply r_l1 2; exact shape_of tabOk rfl; exact rfl; exact rfl; exact rfl) | (apply r_ln 2; exact shape_of tabOk rfl; exact rfl; exact rfl; exact rfl) | (apply r_l1 3; exact shape_of tabOk rfl; exact rfl; exact rfl; exact rfl) | (apply r_ln 3; exact shape_of tabOk rfl; exact rfl; exact rfl; exact rfl))) | (apply al; exact rfl; exact zero_of tabOk rfl; intro _) | (apply bx; exact rfl; exact rfl; intro _) | (apply sw 0; exact size_of tabOk rfl; exact rfl; exact rfl; exact rfl; exact rfl; exact rfl; exact rfl; exact rfl) | (apply so 0; exact size_of tabOk rfl; exact rfl; exact rfl; exact rfl; exact rfl; exact so_le rfl; exact so_one rfl) | (apply sw 1; exact size_of tabOk rfl; exact rfl; exact rfl; exact rfl; exact rfl; exact rfl; exact rfl; exact rfl) | (apply so 1; exact size_of tabOk rfl; exact rfl; exact rfl; exact rfl; exact rfl; exact so_le rfl; exact so_one rfl) | (apply sw 2; exact size_of tabOk rfl; exact rfl; exact rfl; exact rfl; exact rfl; exact rfl; exact rfl; exact rfl) | (apply so 2; exact size_of tabOk rfl; exact rfl; exact rfl; exact rfl; exact rfl; exact so_le rfl; exact so_one rfl) | (apply sw 3; exact size_of tabOk rfl; exact rfl; exact rfl; exact rfl; exact rfl; exact rfl; exact rfl; exact rfl) | (apply so 3; exact size_of tabOk rfl; exact rfl; exact rfl; exact rfl; exact rfl; exact so_le rfl; exact so_one rfl) | (apply rr1; exact rfl; exact rfl) | (apply rr2; exact rfl; exact rfl; exact rfl) | (apply rr3; exact rfl; exact rfl; exact rfl; exact rfl)) | (first | (apply o1; exact rfl; (apply p_ss; exact rfl; kernel_rfl; (first | exact rfl | exact ⟨_, rfl⟩); (first | exact rfl | exact ⟨_, rfl⟩); omega; omega)) | (apply d1; exact rfl; exact rfl; (apply p_ss; exact rfl; kernel_rfl; (first | exact rfl | exact ⟨_, rfl⟩); (first | exact rfl | exact ⟨_, rfl⟩); omega; omega))))
    · rename_i h
      have h44 : c = 44 := by rw [hcv] at h; exact UInt8.toNat_inj.1 (by show c.toNat = 44; omega)
      subst h44
      apply bsq tabOk; exact rfl; exact rfl; exact rfl; exact rfl; exact rfl; exact rfl; exact rfl; exact rfl; exact rfl; exact rfl; intro b8
      refine ops_st (hs' := obs ++ (b8, .cells #[.string (s.extract fr i)] 9) :: []) (fun w' hst => hst.perm (List.perm_append_comm (l₁ := obs) (l₂ := [_]))) ?_
      refine apS (l := s.extract fr i) tabOk rfl ho (by omega) rfl rfl (fun v' bs' ho' => ?_)
      rw [List.append_nil]
      repeat' (first | (apply o1; exact rfl; apply pv; exact rfl; exact rfl) | apply nl | apply sq | apply rg | (apply gy; exact rfl; exact rfl) | (apply gn; exact rfl; exact rfl; exact rfl; exact rfl) | (apply gu; exact rfl; exact rfl; exact rfl; exact rfl) | (apply gs; exact rfl; exact rfl; all_goals intro _) | (apply gb; exact rfl; exact rfl; all_goals intro _) | (apply it; exact rfl) | (apply fi; exact rfl) | (apply cd; exact rfl; all_goals intro _) | (apply cb; exact rfl; all_goals intro _) | apply bl | (apply xt; exact rfl) | apply sk | apply ib | (apply o1; exact rfl; (first | (apply pv; exact rfl; exact rfl) | (apply p_ls; exact rfl; kernel_rfl) | (apply p_ll; exact rfl; kernel_rfl) | (apply p_ic; exact rfl; omega) | (apply p_s1; exact rfl; omega; omega) | (apply p_sb; exact rfl; exact rfl; omega; omega) | (apply p_ad; exact rfl; exact rfl; omega) | (apply p_be; exact rfl; exact rfl; kernel_rfl) | (apply p_bn; exact rfl; exact rfl; kernel_rfl) | (apply p_en; exact rfl; exact rfl; kernel_rfl) | (apply p_nn; exact rfl; exact rfl; kernel_rfl) | (apply p_cv; exact rfl; exact int_of tabOk rfl; kernel_rfl) | (apply p_mi; exact rfl; exact p_mi_ok (kind_of tabOk rfl) rfl) | (apply p_fa; exact rfl; exact field_of tabOk rfl) | (apply p_nc; exact rfl) | (apply p_bk; exact rfl; omega; omega; kernel_rfl) | (apply p_by; exact rfl; exact rfl; omega; kernel_rfl) | (apply p_ia; exact rfl; exact rfl; exact elem_of tabOk rfl; omega) | (apply p_ar; exact rfl; exact rfl; exact rfl) | (apply p_bd tabOk; exact rfl; exact rfl; exact rfl; exact ⟨rfl, rfl⟩))) | (apply o2; exact rfl; (first | (apply r_l1 0; exact shape_of tabOk rfl; exact rfl; exact rfl; exact rfl) | (apply r_ln 0; exact shape_of tabOk rfl; exact rfl; exact rfl; exact rfl) | (apply r_l1 1; exact shape_of tabOk rfl; exact rfl; exact rfl; exact rfl) | (apply r_ln 1; exact shape_of tabOk rfl; exact rfl; exact rfl; exact rfl) | (apply r_l1 2; exact shape_of tabOk rfl; exact rfl; exact rfl; exact rfl) | (apply r_ln 2; exact shape_of tabOk rfl; exact rfl; exact rfl; exact rfl) | (apply r_l1 3; exact shape_of tabOk rfl; exact rfl; exact rfl; exact rfl) | (apply r_ln 3; exact shape_of tabOk rfl; exact rfl; exact rfl; exact rfl))) | (apply al; exact rfl; exact zero_of tabOk rfl; intro _) | (apply bx; exact rfl; exact rfl; intro _) | (apply sw 0; exact size_of tabOk rfl; exact rfl; exact rfl; exact rfl; exact rfl; exact rfl; exact rfl; exact rfl) | (apply so 0; exact size_of tabOk rfl; exact rfl; exact rfl; exact rfl; exact rfl; exact so_le rfl; exact so_one rfl) | (apply sw 1; exact size_of tabOk rfl; exact rfl; exact rfl; exact rfl; exact rfl; exact rfl; exact rfl; exact rfl) | (apply so 1; exact size_of tabOk rfl; exact rfl; exact rfl; exact rfl; exact rfl; exact so_le rfl; exact so_one rfl) | (apply sw 2; exact size_of tabOk rfl; exact rfl; exact rfl; exact rfl; exact rfl; exact rfl; exact rfl; exact rfl) | (apply so 2; exact size_of tabOk rfl; exact rfl; exact rfl; exact rfl; exact rfl; exact so_le rfl; exact so_one rfl) | (apply sw 3; exact size_of tabOk rfl; exact rfl; exact rfl; exact rfl; exact rfl; exact rfl; exact rfl; exact rfl) | (apply so 3; exact size_of tabOk rfl; exact rfl; exact rfl; exact rfl; exact rfl; exact so_le rfl; exact so_one rfl) | (apply rr1; exact rfl; exact rfl) | (apply rr2; exact rfl; exact rfl; exact rfl) | (apply rr3; exact rfl; exact rfl; exact rfl; exact rfl))
      refine weak (hs' := bs') ?_ (List.Sublist.refl _) (ih (i + 1, i + 1, out ++ [s.extract fr i], v', bs') ⟨hI.cut hc, ho'⟩ (by simp only; omega))
      exact ⟨rfl, rfl, rfl, rfl, trivial⟩
    · rename_i h
      have h44 : c ≠ 44 := by rintro rfl; rw [hcv] at h; exact h rfl
      refine weak (hs' := obs) ?_ (List.Sublist.refl _) (ih (i + 1, fr, out, u, obs) ⟨hI.next hc h44, ho⟩ (by simp only; omega))
      exact ⟨rfl, rfl, rfl, rfl, trivial⟩
    all_goals (exfalso; omega)
  · obtain rfl : i = s.size := by omega
    repeat' (first | (first | (apply o1; exact rfl; apply pv; exact rfl; exact rfl) | apply nl | apply sq | apply rg | (apply gy; exact rfl; exact rfl) | (apply gn; exact rfl; exact rfl; exact rfl; exact rfl) | (apply gu; exact rfl; exact rfl; exact rfl; exact rfl) | (apply gs; exact rfl; exact rfl; all_goals intro _) | (apply gb; exact rfl; exact rfl; all_goals intro _) | (apply it; exact rfl) | (apply fi; exact rfl) | (apply cd; exact rfl; all_goals intro _) | (apply cb; exact rfl; all_goals intro _) | apply bl | (apply xt; exact rfl) | apply sk | apply ib | (apply o1; exact rfl; (first | (apply pv; exact rfl; exact rfl) | (apply p_ls; exact rfl; kernel_rfl) | (apply p_ll; exact rfl; kernel_rfl) | (apply p_ic; exact rfl; omega) | (apply p_s1; exact rfl; omega; omega) | (apply p_sb; exact rfl; exact rfl; omega; omega) | (apply p_ad; exact rfl; exact rfl; omega) | (apply p_be; exact rfl; exact rfl; kernel_rfl) | (apply p_bn; exact rfl; exact rfl; kernel_rfl) | (apply p_en; exact rfl; exact rfl; kernel_rfl) | (apply p_nn; exact rfl; exact rfl; kernel_rfl) | (apply p_cv; exact rfl; exact int_of tabOk rfl; kernel_rfl) | (apply p_mi; exact rfl; exact p_mi_ok (kind_of tabOk rfl) rfl) | (apply p_fa; exact rfl; exact field_of tabOk rfl) | (apply p_nc; exact rfl) | (apply p_bk; exact rfl; omega; omega; kernel_rfl) | (apply p_by; exact rfl; exact rfl; omega; kernel_rfl) | (apply p_ia; exact rfl; exact rfl; exact elem_of tabOk rfl; omega) | (apply p_ar; exact rfl; exact rfl; exact rfl) | (apply p_bd tabOk; exact rfl; exact rfl; exact rfl; exact ⟨rfl, rfl⟩))) | (apply o2; exact rfl; (first | (apply r_l1 0; exact shape_of tabOk rfl; exact rfl; exact rfl; exact rfl) | (apply r_ln 0; exact shape_of tabOk rfl; exact rfl; exact rfl; exact rfl) | (apply r_l1 1; exact shape_of tabOk rfl; exact rfl; exact rfl; exact rfl) | (apply r_ln 1; exact shape_of tabOk rfl; exact rfl; exact rfl; exact rfl) | (apply r_l1 2; exact shape_of tabOk rfl; exact rfl; exact rfl; exact rfl) | (apply r_ln 2; exact shape_of tabOk rfl; exact rfl; exact rfl; exact rfl) | (apply r_l1 3; exact shape_of tabOk rfl; exact rfl; exact rfl; exact rfl) | (apply r_ln 3; exact shape_of tabOk rfl; exact rfl; exact rfl; exact rfl))) | (apply al; exact rfl; exact zero_of tabOk rfl; intro _) | (apply bx; exact rfl; exact rfl; intro _) | (apply sw 0; exact size_of tabOk rfl; exact rfl; exact rfl; exact rfl; exact rfl; exact rfl; exact rfl; exact rfl) | (apply so 0; exact size_of tabOk rfl; exact rfl; exact rfl; exact rfl; exact rfl; exact so_le rfl; exact so_one rfl) | (apply sw 1; exact size_of tabOk rfl; exact rfl; exact rfl; exact rfl; exact rfl; exact rfl; exact rfl; exact rfl) | (apply so 1; exact size_of tabOk rfl; exact rfl; exact rfl; exact rfl; exact rfl; exact so_le rfl; exact so_one rfl) | (apply sw 2; exact size_of tabOk rfl; exact rfl; exact rfl; exact rfl; exact rfl; exact rfl; exact rfl; exact rfl) | (apply so 2; exact size_of tabOk rfl; exact rfl; exact rfl; exact rfl; exact rfl; exact so_le rfl; exact so_one rfl) | (apply sw 3; exact size_of tabOk rfl; exact rfl; exact rfl; exact rfl; exact rfl; exact rfl; exact rfl; exact rfl) | (apply so 3; exact size_of tabOk rfl; exact rfl; exact rfl; exact rfl; exact rfl; exact so_le rfl; exact so_one rfl) | (apply rr1; exact rfl; exact rfl) | (apply rr2; exact rfl; exact rfl; exact rfl) | (apply rr3; exact rfl; exact rfl; exact rfl; exact rfl)) | (first | (apply o1; exact rfl; (apply p_ss; exact rfl; kernel_rfl; (first | exact rfl | exact ⟨_, rfl⟩); (first | exact rfl | exact ⟨_, rfl⟩); omega; omega)) | (apply d1; exact rfl; exact rfl; (apply p_ss; exact rfl; kernel_rfl; (first | exact rfl | exact ⟨_, rfl⟩); (first | exact rfl | exact ⟨_, rfl⟩); omega; omega))))
    all_goals try (exfalso; omega)
    apply bsq tabOk; exact rfl; exact rfl; exact rfl; exact rfl; exact rfl; exact rfl; exact rfl; exact rfl; exact rfl; exact rfl; intro b8
    refine ops_st (hs' := obs ++ (b8, .cells #[.string (s.extract fr s.size)] 9) :: []) (fun w' hst => hst.perm (List.perm_append_comm (l₁ := obs) (l₂ := [_]))) ?_
    refine apS (l := s.extract fr s.size) tabOk rfl ho (by omega) rfl rfl (fun v' bs' ho' => ?_)
    rw [List.append_nil]
    repeat' (first | (apply o1; exact rfl; apply pv; exact rfl; exact rfl) | apply nl | apply sq | apply rg | (apply gy; exact rfl; exact rfl) | (apply gn; exact rfl; exact rfl; exact rfl; exact rfl) | (apply gu; exact rfl; exact rfl; exact rfl; exact rfl) | (apply gs; exact rfl; exact rfl; all_goals intro _) | (apply gb; exact rfl; exact rfl; all_goals intro _) | (apply it; exact rfl) | (apply fi; exact rfl) | (apply cd; exact rfl; all_goals intro _) | (apply cb; exact rfl; all_goals intro _) | apply bl | (apply xt; exact rfl) | apply sk | apply ib | (apply o1; exact rfl; (first | (apply pv; exact rfl; exact rfl) | (apply p_ls; exact rfl; kernel_rfl) | (apply p_ll; exact rfl; kernel_rfl) | (apply p_ic; exact rfl; omega) | (apply p_s1; exact rfl; omega; omega) | (apply p_sb; exact rfl; exact rfl; omega; omega) | (apply p_ad; exact rfl; exact rfl; omega) | (apply p_be; exact rfl; exact rfl; kernel_rfl) | (apply p_bn; exact rfl; exact rfl; kernel_rfl) | (apply p_en; exact rfl; exact rfl; kernel_rfl) | (apply p_nn; exact rfl; exact rfl; kernel_rfl) | (apply p_cv; exact rfl; exact int_of tabOk rfl; kernel_rfl) | (apply p_mi; exact rfl; exact p_mi_ok (kind_of tabOk rfl) rfl) | (apply p_fa; exact rfl; exact field_of tabOk rfl) | (apply p_nc; exact rfl) | (apply p_bk; exact rfl; omega; omega; kernel_rfl) | (apply p_by; exact rfl; exact rfl; omega; kernel_rfl) | (apply p_ia; exact rfl; exact rfl; exact elem_of tabOk rfl; omega) | (apply p_ar; exact rfl; exact rfl; exact rfl) | (apply p_bd tabOk; exact rfl; exact rfl; exact rfl; exact ⟨rfl, rfl⟩))) | (apply o2; exact rfl; (first | (apply r_l1 0; exact shape_of tabOk rfl; exact rfl; exact rfl; exact rfl) | (apply r_ln 0; exact shape_of tabOk rfl; exact rfl; exact rfl; exact rfl) | (apply r_l1 1; exact shape_of tabOk rfl; exact rfl; exact rfl; exact rfl) | (apply r_ln 1; exact shape_of tabOk rfl; exact rfl; exact rfl; exact rfl) | (apply r_l1 2; exact shape_of tabOk rfl; exact rfl; exact rfl; exact rfl) | (apply r_ln 2; exact shape_of tabOk rfl; exact rfl; exact rfl; exact rfl) | (apply r_l1 3; exact shape_of tabOk rfl; exact rfl; exact rfl; exact rfl) | (apply r_ln 3; exact shape_of tabOk rfl; exact rfl; exact rfl; exact rfl))) | (apply al; exact rfl; exact zero_of tabOk rfl; intro _) | (apply bx; exact rfl; exact rfl; intro _) | (apply sw 0; exact size_of tabOk rfl; exact rfl; exact rfl; exact rfl; exact rfl; exact rfl; exact rfl; exact rfl) | (apply so 0; exact size_of tabOk rfl; exact rfl; exact rfl; exact rfl; exact rfl; exact so_le rfl; exact so_one rfl) | (apply sw 1; exact size_of tabOk rfl; exact rfl; exact rfl; exact rfl; exact rfl; exact rfl; exact rfl; exact rfl) | (apply so 1; exact size_of tabOk rfl; exact rfl; exact rfl; exact rfl; exact rfl; exact so_le rfl; exact so_one rfl) | (apply sw 2; exact size_of tabOk rfl; exact rfl; exact rfl; exact rfl; exact rfl; exact rfl; exact rfl; exact rfl) | (apply so 2; exact size_of tabOk rfl; exact rfl; exact rfl; exact rfl; exact rfl; exact so_le rfl; exact so_one rfl) | (apply sw 3; exact size_of tabOk rfl; exact rfl; exact rfl; exact rfl; exact rfl; exact rfl; exact rfl; exact rfl) | (apply so 3; exact size_of tabOk rfl; exact rfl; exact rfl; exact rfl; exact rfl; exact so_le rfl; exact so_one rfl) | (apply rr1; exact rfl; exact rfl) | (apply rr2; exact rfl; exact rfl; exact rfl) | (apply rr3; exact rfl; exact rfl; exact rfl; exact rfl))
    exact rc1 rfl rfl ⟨_, hI.done (by rw [← size_tl]; omega), ho'⟩
end Go.Fl
