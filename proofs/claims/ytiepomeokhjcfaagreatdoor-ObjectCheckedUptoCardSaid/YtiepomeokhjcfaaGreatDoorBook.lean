/-
  flotillakit's LentObject, KeptObject, Book. No condition.
-/
import Derived.Test.YtiepomeokhjcfaaGreatDoorApartN
import Derived.Test.YtiepomeokhjcfaaGreatDoorLentK
import Derived.Test.YtiepomeokhjcfaaGreatDoorObjG
namespace Go.Fl
open Go.Proofs Go.RowKit
set_option maxRecDepth 10000
set_option maxHeartbeats 40000000

theorem no_apartObjects : RetIf Tryz.prog 62 [.slice none 0 0] (fun _ => True) (.bool true) := by
  refine ret_start1 Tryz.func62 rfl rfl rfl (fun w0 hw => ?_)
  refine vstart [(0, .raw (.slice none 0 0))] [] [] ?_
  refine vwith (pt := .run _) _ _ [] tabOk lent_nil fun go => ?_
  apply go 300
  repeat' (first | apply And.intro | intro _)
  all_goals try (first | (show Here _ _ _ _; try (exfalso; omega)) | exact trivial | omega | kernel_rfl | exact rfl)
  repeat (refine vloop ?_; apply go 300; (repeat' (first | apply And.intro | intro _)); (all_goals try (first | (show Here _ _ _ _; try (exfalso; omega)) | exact trivial | omega | kernel_rfl | exact rfl)))
  exact vr1 rfl rfl rfl
theorem no_apartOps : RetIf Tryz.prog 63 [.slice none 0 0] (fun _ => True) (.bool true) := by
  refine ret_start1 Tryz.func63 rfl rfl rfl (fun w0 hw => ?_)
  refine vstart [(0, .raw (.slice none 0 0))] [] [] ?_
  refine vwith (pt := .run _) _ _ [] tabOk lent_nil fun go => ?_
  apply go 300
  repeat' (first | apply And.intro | intro _)
  all_goals try (first | (show Here _ _ _ _; try (exfalso; omega)) | exact trivial | omega | kernel_rfl | exact rfl)
  repeat (refine vloop ?_; apply go 300; (repeat' (first | apply And.intro | intro _)); (all_goals try (first | (show Here _ _ _ _; try (exfalso; omega)) | exact trivial | omega | kernel_rfl | exact rfl)))
  exact vr1 rfl rfl rfl
theorem no_ApartBytes : RetIf Tryz.prog 64 [.slice none 0 0] (fun _ => True) (.bool true) := by
  refine ret_start1 Tryz.func64 rfl rfl rfl (fun w0 hw => ?_)
  refine vstart [(0, .raw (.slice none 0 0))] [] [] ?_
  refine vwith (pt := .run _) _ _ [] tabOk lent_nil fun go => ?_
  apply go 300
  repeat' (first | apply And.intro | intro _)
  all_goals try (first | (show Here _ _ _ _; try (exfalso; omega)) | exact trivial | omega | kernel_rfl | exact rfl)
  repeat (refine vloop ?_; apply go 300; (repeat' (first | apply And.intro | intro _)); (all_goals try (first | (show Here _ _ _ _; try (exfalso; omega)) | exact trivial | omega | kernel_rfl | exact rfl)))
  exact vr1 rfl rfl rfl
theorem no_ApartTexts : RetIf Tryz.prog 65 [.slice none 0 0] (fun _ => True) (.bool true) := by
  refine ret_start1 Tryz.func65 rfl rfl rfl (fun w0 hw => ?_)
  refine vstart [(0, .raw (.slice none 0 0))] [] [] ?_
  refine vwith (pt := .run _) _ _ [] tabOk lent_nil fun go => ?_
  apply go 300
  repeat' (first | apply And.intro | intro _)
  all_goals try (first | (show Here _ _ _ _; try (exfalso; omega)) | exact trivial | omega | kernel_rfl | exact rfl)
  repeat (refine vloop ?_; apply go 300; (repeat' (first | apply And.intro | intro _)); (all_goals try (first | (show Here _ _ _ _; try (exfalso; omega)) | exact trivial | omega | kernel_rfl | exact rfl)))
  exact vr1 rfl rfl rfl
theorem no_ApartInts : RetIf Tryz.prog 66 [.slice none 0 0] (fun _ => True) (.bool true) := by
  refine ret_start1 Tryz.func66 rfl rfl rfl (fun w0 hw => ?_)
  refine vstart [(0, .raw (.slice none 0 0))] [] [] ?_
  refine vwith (pt := .run _) _ _ [] tabOk lent_nil fun go => ?_
  apply go 300
  repeat' (first | apply And.intro | intro _)
  all_goals try (first | (show Here _ _ _ _; try (exfalso; omega)) | exact trivial | omega | kernel_rfl | exact rfl)
  repeat (refine vloop ?_; apply go 300; (repeat' (first | apply And.intro | intro _)); (all_goals try (first | (show Here _ _ _ _; try (exfalso; omega)) | exact trivial | omega | kernel_rfl | exact rfl)))
  exact vr1 rfl rfl rfl
theorem no_ApartNumbers : RetIf Tryz.prog 67 [.slice none 0 0] (fun _ => True) (.bool true) := by
  refine ret_start1 Tryz.func67 rfl rfl rfl (fun w0 hw => ?_)
  refine vstart [(0, .raw (.slice none 0 0))] [] [] ?_
  refine vwith (pt := .run _) _ _ [] tabOk lent_nil fun go => ?_
  apply go 300
  repeat' (first | apply And.intro | intro _)
  all_goals try (first | (show Here _ _ _ _; try (exfalso; omega)) | exact trivial | omega | kernel_rfl | exact rfl)
  repeat (refine vloop ?_; apply go 300; (repeat' (first | apply And.intro | intro _)); (all_goals try (first | (show Here _ _ _ _; try (exfalso; omega)) | exact trivial | omega | kernel_rfl | exact rfl)))
  exact vr1 rfl rfl rfl
theorem no_ApartBools : RetIf Tryz.prog 68 [.slice none 0 0] (fun _ => True) (.bool true) := by
  refine ret_start1 Tryz.func68 rfl rfl rfl (fun w0 hw => ?_)
  refine vstart [(0, .raw (.slice none 0 0))] [] [] ?_
  refine vwith (pt := .run _) _ _ [] tabOk lent_nil fun go => ?_
  apply go 300
  repeat' (first | apply And.intro | intro _)
  all_goals try (first | (show Here _ _ _ _; try (exfalso; omega)) | exact trivial | omega | kernel_rfl | exact rfl)
  repeat (refine vloop ?_; apply go 300; (repeat' (first | apply And.intro | intro _)); (all_goals try (first | (show Here _ _ _ _; try (exfalso; omega)) | exact trivial | omega | kernel_rfl | exact rfl)))
  exact vr1 rfl rfl rfl
theorem no_ApartKeys : RetIf Tryz.prog 70 [.slice none 0 0] (fun _ => True) (.bool true) := by
  refine ret_start1 Tryz.func70 rfl rfl rfl (fun w0 hw => ?_)
  refine vstart [(0, .raw (.slice none 0 0))] [] [] ?_
  refine vwith (pt := .run _) _ _ [] tabOk lent_nil fun go => ?_
  apply go 300
  repeat' (first | apply And.intro | intro _)
  all_goals try (first | (show Here _ _ _ _; try (exfalso; omega)) | exact trivial | omega | kernel_rfl | exact rfl)
  repeat (refine vloop ?_; apply go 300; (repeat' (first | apply And.intro | intro _)); (all_goals try (first | (show Here _ _ _ _; try (exfalso; omega)) | exact trivial | omega | kernel_rfl | exact rfl)))
  exact vr1 rfl rfl rfl
theorem no_ApartConds : RetIf Tryz.prog 71 [.slice none 0 0] (fun _ => True) (.bool true) := by
  refine ret_start1 Tryz.func71 rfl rfl rfl (fun w0 hw => ?_)
  refine vstart [(0, .raw (.slice none 0 0))] [] [] ?_
  refine vwith (pt := .run _) _ _ [] tabOk lent_nil fun go => ?_
  apply go 300
  repeat' (first | apply And.intro | intro _)
  all_goals try (first | (show Here _ _ _ _; try (exfalso; omega)) | exact trivial | omega | kernel_rfl | exact rfl)
  repeat (refine vloop ?_; apply go 300; (repeat' (first | apply And.intro | intro _)); (all_goals try (first | (show Here _ _ _ _; try (exfalso; omega)) | exact trivial | omega | kernel_rfl | exact rfl)))
  exact vr1 rfl rfl rfl
theorem no_ApartAmounts : RetIf Tryz.prog 72 [.slice none 0 0] (fun _ => True) (.bool true) := by
  refine ret_start1 Tryz.func72 rfl rfl rfl (fun w0 hw => ?_)
  refine vstart [(0, .raw (.slice none 0 0))] [] [] ?_
  refine vwith (pt := .run _) _ _ [] tabOk lent_nil fun go => ?_
  apply go 300
  repeat' (first | apply And.intro | intro _)
  all_goals try (first | (show Here _ _ _ _; try (exfalso; omega)) | exact trivial | omega | kernel_rfl | exact rfl)
  repeat (refine vloop ?_; apply go 300; (repeat' (first | apply And.intro | intro _)); (all_goals try (first | (show Here _ _ _ _; try (exfalso; omega)) | exact trivial | omega | kernel_rfl | exact rfl)))
  exact vr1 rfl rfl rfl
theorem no_ApartProbes : RetIf Tryz.prog 73 [.slice none 0 0] (fun _ => True) (.bool true) := by
  refine ret_start1 Tryz.func73 rfl rfl rfl (fun w0 hw => ?_)
  refine vstart [(0, .raw (.slice none 0 0))] [] [] ?_
  refine vwith (pt := .run _) _ _ [] tabOk lent_nil fun go => ?_
  apply go 300
  repeat' (first | apply And.intro | intro _)
  all_goals try (first | (show Here _ _ _ _; try (exfalso; omega)) | exact trivial | omega | kernel_rfl | exact rfl)
  repeat (refine vloop ?_; apply go 300; (repeat' (first | apply And.intro | intro _)); (all_goals try (first | (show Here _ _ _ _; try (exfalso; omega)) | exact trivial | omega | kernel_rfl | exact rfl)))
  exact vr1 rfl rfl rfl

/-- A book with these labels. -/
abbrev bookB (b : Nat) (v : Go.Value) : Nat × Obj := (b, .cells #[.slice none 0 0, .slice none 0 0, .slice none 0 0, .slice none 0 0, .slice none 0 0, v, .slice none 0 0, .slice none 0 0, .slice none 0 0, .slice none 0 0, .slice none 0 0, .slice none 0 0] 52)
abbrev nilV : V := .raw (.slice none 0 0)
abbrev bookO (b : Nat) (v : Go.Value) : OB := ⟨b, 52, .var [nilV, nilV, nilV, nilV, nilV, .raw v, nilV, nilV, nilV, nilV, nilV, nilV], []⟩
theorem vapSl {C : Cx} {l0 rest : List Oper} {k : List Item} {e : VEnv} {ho : List OB} {tl : Hs} {d : Nat} {ty : TypeId} {pos : String} {af : Array Edge} (ho0 : List OB) {out : List Go.Value} {l v : Go.Value} {yv : V} {bs qs : Hs} {b : Nat} {x y : Operand} (hT : TabOk C.P tab) (hO : SlsAt out v bs) (hlen : out.length ≤ 4000000) (hone : l.oneCell' = true)
    (hd : Nat.blt d C.N = true) (hx : evV e x = some (.raw v)) (hy : evV e y = some yv) (hyv : yv.val = .slice (some ⟨b, 0, none⟩) 1 1) (heq : ho = ho0 ++ [⟨b, 22, .var [.raw l], []⟩]) (ht : tl = bs ++ qs)
    (next : ∀ v' bs', SlsAt (out ++ [l]) v' bs' → Here C (bs' ++ qs) (.ops l0 rest k) ((d, .raw v') :: e) ho0) :
    Here C tl (.ops l0 (⟨some d, .call { callee := .builtin .append, args := #[x, y], argTypes := #[44, 44] }, ty, pos, af, none⟩ :: rest) k) e ho := by
  subst heq ht
  refine ⟨ops_st (hs' := bs ++ (b, .cells #[l] 22) :: (rh ho0 ++ qs)) (fun w hst => hst.perm ?_) (apSl (l := l) hT hd hO hlen hone (ev_re hx) (by rw [ev_re hy, hyv]) (fun v' bs' h => ops_st (fun w hst => hst.perm ?_) (next v' bs' h).go))⟩
  · simp only [rh, List.map_append, List.map_cons, List.map_nil, List.append_assoc, List.singleton_append]
    refine List.perm_middle.trans ?_
    refine ((List.perm_append_comm_assoc _ _ _).cons _).trans ?_
    exact List.perm_middle.symm
  · exact List.perm_append_comm_assoc _ _ _
theorem slsAt_slice {xs : List Go.Value} {v : Go.Value} {bs : Hs} (h : SlsAt xs v bs) : ∃ a n c, v = .slice a n c := by
  rcases h with ⟨_, rfl, _⟩ | ⟨g, cap, cur, rfl, _, _⟩ <;> exact ⟨_, _, _, rfl⟩
theorem bookLabels (xs : List Go.Value) (v : Go.Value) (bs : Hs) (bk : Nat) (a : Option Addr) (n c : Nat) (hO : SlsAt xs v bs) (hlen : xs.length ≤ 4000000) :
    Con Tryz.prog 61 [.pointer (some ⟨bk, 0, none⟩), .slice a n c] (bookB bk v :: bs) (fun _ => True) (fun r hs => ∃ v' bs', r = .tuple #[] ∧ hs = bookB bk v' :: bs' ∧ SlsAt (xs ++ [.slice a n c]) v' bs') := by
  refine con_start2 Tryz.func61 rfl rfl rfl (fun w0 hw => ?_)
  refine vstart [(0, .ptr true 0 bk 0 1 0 0), (1, .raw (.slice a n c))] [bookO bk v] bs ?_
  refine vwith (pt := .run _) _ _ [] tabOk lent_nil fun go => ?_
  apply go 300
  repeat' (first | apply And.intro | intro _)
  all_goals try (first | (show Here _ _ _ _; try (exfalso; omega)) | exact trivial | omega | kernel_rfl | exact rfl)
  rename_i b8
  refine vapSl [bookO bk v] (l := .slice a n c) (qs := []) tabOk hO hlen rfl rfl rfl rfl rfl rfl (List.append_nil _).symm ?_
  intro v' bs' hO'
  rw [List.append_nil]
  obtain ⟨ga, gn, gc, rfl⟩ := slsAt_slice hO'
  apply go 300
  repeat' (first | apply And.intro | intro _)
  all_goals try (first | (show Here _ _ _ _; try (exfalso; omega)) | exact trivial | omega | kernel_rfl | exact rfl)
  refine vc0 (bs := bookB bk (.slice ga gn gc) :: bs') rfl ?_ ?_
  · exact ⟨_, bs', rfl, rfl, hO'⟩
  · exact List.Sublist.refl _
theorem bookObject (xs : List Go.Value) (v : Go.Value) (bs : Hs) (bk : Nat) (o : Oj) (a a' : Option Addr) (c c' : Nat) (hO : SlsAt xs v bs) (hlen : xs.length ≤ 3999999) :
    Con Tryz.prog 18 [.pointer (some ⟨bk, 0, none⟩), (ov o a c a' c').val] (bookB bk v :: bs) (fun _ => True)
      (fun r hs => ∃ v' bs', r = .tuple #[] ∧ hs = bookB bk v' :: bs' ∧ SlsAt (xs ++ [.slice a o.labs.length c, .slice a' o.sel.length c']) v' bs') := by
  refine con_start2 Tryz.func18 rfl rfl rfl (fun w0 hw => ?_)
  refine vstart [(0, .ptr true 0 bk 0 1 0 0), (1, ov o a c a' c')] [] (bookB bk v :: bs) ?_
  refine vwith (pt := .run _) _ _ [] tabOk lent_nil fun go => ?_
  apply go 300
  repeat' (first | apply And.intro | intro _)
  all_goals try (first | (show Here _ _ _ _; try (exfalso; omega)) | exact trivial | omega | kernel_rfl | exact rfl)
  rename_i b1
  refine vccp (bs := bookB bk v :: bs) (qs := [_]) rfl rfl (by kernel_rfl) List.perm_append_comm (bookLabels xs v bs bk a o.labs.length c hO (by omega)) (by exact fun _ _ => trivial) ?_
  rintro _ _ ⟨v1, p1, rfl, rfl, hO1⟩
  refine ⟨.tup [], rfl, ?_⟩
  refine vopenP [⟨b1, 27, .var (ocs o (labV o.labs a c) (labV o.sel a' c')), []⟩] (bookB bk v1 :: p1) List.perm_append_comm ?_
  apply go 300
  repeat' (first | apply And.intro | intro _)
  all_goals try (first | (show Here _ _ _ _; try (exfalso; omega)) | exact trivial | omega | kernel_rfl | exact rfl)
  refine vccp (bs := bookB bk v1 :: p1) (qs := [_]) rfl rfl (by kernel_rfl) List.perm_append_comm (bookLabels _ v1 p1 bk a' o.sel.length c' hO1 (by rw [List.length_append, List.length_singleton]; omega)) (by exact fun _ _ => trivial) ?_
  rintro _ _ ⟨v2, p2, rfl, rfl, hO2⟩
  refine ⟨.tup [], rfl, ?_⟩
  apply go 300
  repeat' (first | apply And.intro | intro _)
  all_goals try (first | (show Here _ _ _ _; try (exfalso; omega)) | exact trivial | omega | kernel_rfl | exact rfl)
  rw [List.append_assoc] at hO2
  refine vc0 (bs := bookB bk v2 :: p2) rfl ?_ ?_
  · exact ⟨v2, p2, rfl, rfl, hO2⟩
  · exact List.sublist_append_left _ _
theorem bookApart (cap bk bo : Nat) (arr : Array Go.Value) (n : Nat → Nat) (aa : Nat → Option Addr) (cs : Nat → Nat) (L0 : Nat → List Lab) (bs0 : Nat → Hs) (N : Nat) (hNN : N ≤ 1000) (hNp : 0 < N) (hn1000 : ∀ k, n k ≤ 1048576)
    (hld : ∀ k, k < N → lget arr.toList (0 + k * 1) = some (.slice (aa k) (n k) (cs k))) (h0 : ∀ k, k < N → OutAt (L0 k) (.slice (aa k) (n k) (cs k)) (bs0 k) ∧ (L0 k).length = n k) :
    Con Tryz.prog 19 [.pointer (some ⟨bk, 0, none⟩)] (bookB bk (.slice (some ⟨bo, 0, none⟩) N cap) :: (bo, .cells arr 22) :: flN N bs0) (fun _ => True) (fun v _ => v = .bool true) := by
  refine con_start1 Tryz.func19 rfl rfl rfl (fun w0 hw => ?_)
  refine vstart [(0, .ptr true 0 bk 0 1 0 0)] [bookO bk (.slice (some ⟨bo, 0, none⟩) N cap)] ((bo, .cells arr 22) :: flN N bs0) ?_
  refine vwith (pt := .run _) _ _ [] tabOk lent_nil fun go => ?_
  apply go 300
  repeat' (first | apply And.intro | intro _)
  all_goals try (first | (show Here _ _ _ _; try (exfalso; omega)) | exact trivial | omega | kernel_rfl | exact rfl)
  repeat first
    | (refine vcall (v := .bl true) rfl rfl (by kernel_rfl) no_apartObjects (by exact fun _ _ => trivial) ?_; apply go 300; (repeat' (first | apply And.intro | intro _)); (all_goals try (first | (show Here _ _ _ _; try (exfalso; omega)) | exact trivial | omega | kernel_rfl | exact rfl)))
    | (refine vcall (v := .bl true) rfl rfl (by kernel_rfl) no_apartOps (by exact fun _ _ => trivial) ?_; apply go 300; (repeat' (first | apply And.intro | intro _)); (all_goals try (first | (show Here _ _ _ _; try (exfalso; omega)) | exact trivial | omega | kernel_rfl | exact rfl)))
    | (refine vcall (v := .bl true) rfl rfl (by kernel_rfl) no_ApartBytes (by exact fun _ _ => trivial) ?_; apply go 300; (repeat' (first | apply And.intro | intro _)); (all_goals try (first | (show Here _ _ _ _; try (exfalso; omega)) | exact trivial | omega | kernel_rfl | exact rfl)))
    | (refine vcall (v := .bl true) rfl rfl (by kernel_rfl) no_ApartTexts (by exact fun _ _ => trivial) ?_; apply go 300; (repeat' (first | apply And.intro | intro _)); (all_goals try (first | (show Here _ _ _ _; try (exfalso; omega)) | exact trivial | omega | kernel_rfl | exact rfl)))
    | (refine vcall (v := .bl true) rfl rfl (by kernel_rfl) no_ApartInts (by exact fun _ _ => trivial) ?_; apply go 300; (repeat' (first | apply And.intro | intro _)); (all_goals try (first | (show Here _ _ _ _; try (exfalso; omega)) | exact trivial | omega | kernel_rfl | exact rfl)))
    | (refine vcall (v := .bl true) rfl rfl (by kernel_rfl) no_ApartNumbers (by exact fun _ _ => trivial) ?_; apply go 300; (repeat' (first | apply And.intro | intro _)); (all_goals try (first | (show Here _ _ _ _; try (exfalso; omega)) | exact trivial | omega | kernel_rfl | exact rfl)))
    | (refine vcall (v := .bl true) rfl rfl (by kernel_rfl) no_ApartBools (by exact fun _ _ => trivial) ?_; apply go 300; (repeat' (first | apply And.intro | intro _)); (all_goals try (first | (show Here _ _ _ _; try (exfalso; omega)) | exact trivial | omega | kernel_rfl | exact rfl)))
    | (refine vcall (v := .bl true) rfl rfl (by kernel_rfl) no_ApartKeys (by exact fun _ _ => trivial) ?_; apply go 300; (repeat' (first | apply And.intro | intro _)); (all_goals try (first | (show Here _ _ _ _; try (exfalso; omega)) | exact trivial | omega | kernel_rfl | exact rfl)))
    | (refine vcall (v := .bl true) rfl rfl (by kernel_rfl) no_ApartConds (by exact fun _ _ => trivial) ?_; apply go 300; (repeat' (first | apply And.intro | intro _)); (all_goals try (first | (show Here _ _ _ _; try (exfalso; omega)) | exact trivial | omega | kernel_rfl | exact rfl)))
    | (refine vcall (v := .bl true) rfl rfl (by kernel_rfl) no_ApartAmounts (by exact fun _ _ => trivial) ?_; apply go 300; (repeat' (first | apply And.intro | intro _)); (all_goals try (first | (show Here _ _ _ _; try (exfalso; omega)) | exact trivial | omega | kernel_rfl | exact rfl)))
    | (refine vcall (v := .bl true) rfl rfl (by kernel_rfl) no_ApartProbes (by exact fun _ _ => trivial) ?_; apply go 300; (repeat' (first | apply And.intro | intro _)); (all_goals try (first | (show Here _ _ _ _; try (exfalso; omega)) | exact trivial | omega | kernel_rfl | exact rfl)))
  refine vccp (bs := (bo, .cells arr 22) :: flN N bs0) (qs := [_]) rfl rfl (by kernel_rfl) List.perm_append_comm (ApartN N cap bo arr n aa cs L0 bs0 hNN hNp hn1000 hld h0) (by exact fun _ _ => trivial) ?_
  rintro _ p1 rfl
  refine ⟨.bl true, rfl, ?_⟩
  refine vopenP [bookO bk (.slice (some ⟨bo, 0, none⟩) N cap)] p1 List.perm_append_comm ?_
  apply go 300
  repeat' (first | apply And.intro | intro _)
  all_goals try (first | (show Here _ _ _ _; try (exfalso; omega)) | exact trivial | omega | kernel_rfl | exact rfl)
  repeat first
    | (refine vcall (v := .bl true) rfl rfl (by kernel_rfl) no_ApartKeys (by exact fun _ _ => trivial) ?_; apply go 300; (repeat' (first | apply And.intro | intro _)); (all_goals try (first | (show Here _ _ _ _; try (exfalso; omega)) | exact trivial | omega | kernel_rfl | exact rfl)))
    | (refine vcall (v := .bl true) rfl rfl (by kernel_rfl) no_ApartConds (by exact fun _ _ => trivial) ?_; apply go 300; (repeat' (first | apply And.intro | intro _)); (all_goals try (first | (show Here _ _ _ _; try (exfalso; omega)) | exact trivial | omega | kernel_rfl | exact rfl)))
    | (refine vcall (v := .bl true) rfl rfl (by kernel_rfl) no_ApartAmounts (by exact fun _ _ => trivial) ?_; apply go 300; (repeat' (first | apply And.intro | intro _)); (all_goals try (first | (show Here _ _ _ _; try (exfalso; omega)) | exact trivial | omega | kernel_rfl | exact rfl)))
    | (refine vcall (v := .bl true) rfl rfl (by kernel_rfl) no_ApartProbes (by exact fun _ _ => trivial) ?_; apply go 300; (repeat' (first | apply And.intro | intro _)); (all_goals try (first | (show Here _ _ _ _; try (exfalso; omega)) | exact trivial | omega | kernel_rfl | exact rfl)))
  refine vc1 (bs := []) rfl rfl (List.nil_sublist _) ?_
  exact rfl

/-! what is handed in -/
theorem lent_rd {L : List Lab} {v : Go.Value} {bs : Hs} (h : LentAt L v bs) : ∃ g cap, v = .slice (some ⟨g, 0, none⟩) L.length cap ∧ L.length + 16 ≤ cap ∧ RdL (some ⟨g, 0, none⟩) (L ++ marks 90 16) bs := by
  obtain ⟨g, cap, rfl, hO⟩ := h
  obtain ⟨x, d, hv, hd, hr⟩ := outAt_lab hO
  obtain ⟨rfl, _, rfl⟩ := Go.Value.slice.inj hv
  rw [List.length_append, marks_length] at hd
  exact ⟨g, cap, rfl, hd, hr⟩
theorem rdL_take {x : Option Addr} {L M : List Lab} {bs : Hs} (h : RdL x (L ++ M) bs) : RdL x L bs := fun W0 w own hs hm hst => by
  have := (h W0 w own hs hm hst).take L.length
  rwa [List.take_left] at this
/-- An object that was lent. -/
def LPost (o : Oj) (v : Go.Value) (bs : Hs) : Prop := ∃ g1 k1 g2 k2, v = (ov o (some ⟨g1, 0, none⟩) k1 (some ⟨g2, 0, none⟩) k2).val ∧ o.labs.length + 16 ≤ k1 ∧ o.sel.length + 16 ≤ k2 ∧ RdL (some ⟨g1, 0, none⟩) (o.labs ++ marks 90 16) bs ∧ RdL (some ⟨g2, 0, none⟩) (o.sel ++ marks 90 16) bs
theorem lentObject (o : Oj) (a a' : Option Addr) (c c' : Nat) (h1 : o.labs.length ≤ 4398046511000) (h2 : o.sel.length ≤ 4398046511000) : Con Tryz.prog 8 [(ov o a c a' c').val] [] (fun w => LabAt w a o.labs ∧ LabAt w a' o.sel) (LPost o) := by
  refine con_start1 Tryz.func8 rfl rfl rfl (fun w0 hw => ?_)
  refine vstart [(0, ov o a c a' c')] [] [] ?_
  refine vwith (pt := .run _) _ _ [] tabOk lent_nil fun go => ?_
  apply go 300
  repeat' (first | apply And.intro | intro _)
  all_goals try (first | (show Here _ _ _ _; try (exfalso; omega)) | exact trivial | omega | kernel_rfl | exact rfl)
  refine vcc rfl rfl (by kernel_rfl) (Lent o.labs a c h1) (by exact fun _ h => hw.1.st h) ?_
  intro v1 q1 hq1
  obtain ⟨g1, k1, rfl, hk1, hr1⟩ := lent_rd hq1
  refine ⟨labV o.labs (some ⟨g1, 0, none⟩) k1, rfl, ?_⟩
  apply go 300
  repeat' (first | apply And.intro | intro _)
  all_goals try (first | (show Here _ _ _ _; try (exfalso; omega)) | exact trivial | omega | kernel_rfl | exact rfl)
  refine vcc rfl rfl (by kernel_rfl) (Lent o.sel a' c' h2) (by exact fun _ h => hw.2.st h) ?_
  intro v2 q2 hq2
  obtain ⟨g2, k2, rfl, hk2, hr2⟩ := lent_rd hq2
  refine ⟨labV o.sel (some ⟨g2, 0, none⟩) k2, rfl, ?_⟩
  apply go 300
  repeat' (first | apply And.intro | intro _)
  all_goals try (first | (show Here _ _ _ _; try (exfalso; omega)) | exact trivial | omega | kernel_rfl | exact rfl)
  refine vcc1 (bs := q2 ++ q1) tabOk (by exact rfl) (by exact rfl) (by exact rfl) (by exact rfl) (by exact rfl) (by rw [List.append_nil]; exact List.sublist_append_right _ _) ?_
  exact ⟨g1, k1, g2, k2, rfl, hk1, hk2, hr1.mono (fun y hy => List.mem_append_right _ hy), hr2.mono (fun y hy => List.mem_append_left _ hy)⟩
theorem keptObject (o : Oj) (a a' : Option Addr) (c c' g1 k1 g2 k2 : Nat) (h1 : o.labs.length ≤ 4398046511000) (h2 : o.sel.length ≤ 4398046511000) (hk1 : o.labs.length + 16 ≤ k1) (hk2 : o.sel.length + 16 ≤ k2) :
    RetIf Tryz.prog 20 [(ov o (some ⟨g1, 0, none⟩) k1 (some ⟨g2, 0, none⟩) k2).val, (ov o a c a' c').val]
    (fun w => (LabAt w (some ⟨g1, 0, none⟩) (o.labs ++ marks 90 16) ∧ LabAt w (some ⟨g2, 0, none⟩) (o.sel ++ marks 90 16)) ∧ LabAt w a o.labs ∧ LabAt w a' o.sel) (.bool true) := by
  refine ret_start2 Tryz.func20 rfl rfl rfl (fun w0 hw => ?_)
  obtain ⟨⟨hg1, hg2⟩, hw1, hw2⟩ := hw
  have hp1 : LabAt w0 (some ⟨g1, 0, none⟩) o.labs := by have := hg1.take o.labs.length; rwa [List.take_left] at this
  have hp2 : LabAt w0 (some ⟨g2, 0, none⟩) o.sel := by have := hg2.take o.sel.length; rwa [List.take_left] at this
  refine vstart [(0, ov o (some ⟨g1, 0, none⟩) k1 (some ⟨g2, 0, none⟩) k2), (1, ov o a c a' c')] [] [] ?_
  refine vwith (pt := .run _) _ _ [] tabOk lent_nil fun go => ?_
  apply go 300
  repeat' (first | apply And.intro | intro _)
  all_goals try (first | (show Here _ _ _ _; try (exfalso; omega)) | exact trivial | omega | kernel_rfl | exact rfl)
  refine vcall (v := .bl true) rfl rfl (by kernel_rfl) (show RetIf _ _ _ _ (V.bl true).val from by have := SameObject o o (some ⟨g1, 0, none⟩) (some ⟨g2, 0, none⟩) a a' k1 k2 c c' h1 h2; rw [bd_t (sameP_id o)] at this; exact this) (by exact fun _ h => ⟨⟨hp1.st h, hp2.st h⟩, hw1.st h, hw2.st h⟩) ?_
  apply go 300
  repeat' (first | apply And.intro | intro _)
  all_goals try (first | (show Here _ _ _ _; try (exfalso; omega)) | exact trivial | omega | kernel_rfl | exact rfl)
  refine vcall (v := .bl true) rfl rfl (by kernel_rfl) (KeptLabels o.labs a c g1 k1 h1 hk1) (by exact fun _ h => ⟨hg1.st h, hw1.st h⟩) ?_
  apply go 300
  repeat' (first | apply And.intro | intro _)
  all_goals try (first | (show Here _ _ _ _; try (exfalso; omega)) | exact trivial | omega | kernel_rfl | exact rfl)
  refine vcall (v := .bl true) rfl rfl (by kernel_rfl) (KeptLabels o.sel a' c' g2 k2 h2 hk2) (by exact fun _ h => ⟨hg2.st h, hw2.st h⟩) ?_
  apply go 300
  repeat' (first | apply And.intro | intro _)
  all_goals try (first | (show Here _ _ _ _; try (exfalso; omega)) | exact trivial | omega | kernel_rfl | exact rfl)
  exact vr1 rfl rfl rfl
theorem slsAt_get {xs : List Go.Value} {v : Go.Value} {bs : Hs} (h : SlsAt xs v bs) (h0 : xs ≠ []) : ∃ g cap cur, v = .slice (some ⟨g, 0, none⟩) xs.length cap ∧ bs = [(g, .cells cur 22)] ∧ ∀ (k : Nat) x, xs[k]? = some x → lget cur.toList (0 + k * 1) = some x := by
  rcases h with ⟨h, _, _⟩ | ⟨g, cap, cur, rfl, rfl, hg⟩
  · exact absurd h h0
  · refine ⟨g, cap, cur, rfl, rfl, fun k x hk => ?_⟩
    have hc := hg.cells
    have hlt := (List.getElem?_eq_some_iff.1 hk).1
    rw [← hc, List.getElem?_take_of_lt (by omega)] at hk
    rw [lget_eq]
    simpa using hk
/-- Four lists in a book, each with its own memory. -/
theorem bookApart4 {L1 L2 L3 L4 : List Lab} {a1 a2 a3 a4 : Option Addr} {c1 c2 c3 c4 : Nat} {f0 f1 f2 f3 : Hs} {v : Go.Value} {p2 : Hs} (bk : Nat) (hO : SlsAt [.slice a1 L1.length c1, .slice a2 L2.length c2, .slice a3 L3.length c3, .slice a4 L4.length c4] v p2)
    (h0 : OutAt L1 (.slice a1 L1.length c1) f0) (h1 : OutAt L2 (.slice a2 L2.length c2) f1) (h2 : OutAt L3 (.slice a3 L3.length c3) f2) (h3 : OutAt L4 (.slice a4 L4.length c4) f3)
    (n1 : L1.length ≤ 1048576) (n2 : L2.length ≤ 1048576) (n3 : L3.length ≤ 1048576) (n4 : L4.length ≤ 1048576) :
    Con Tryz.prog 19 [.pointer (some ⟨bk, 0, none⟩)] (bookB bk v :: (p2 ++ (f0 ++ (f1 ++ (f2 ++ (f3 ++ [])))))) (fun _ => True) (fun v _ => v = .bool true) := by
  obtain ⟨g, cap, cur, rfl, rfl, hget⟩ := slsAt_get hO (by simp)
  refine bookApart cap bk g cur (fun k => ([L1, L2, L3, L4].getD k []).length) (fun k => [a1, a2, a3, a4].getD k none) (fun k => [c1, c2, c3, c4].getD k 0) (fun k => [L1, L2, L3, L4].getD k []) (fun k => [f0, f1, f2, f3].getD k []) 4 (by decide) (by decide) (fun k => ?_) (fun k hk => ?_) (fun k hk => ?_)
  · exact match k with
      | 0 => n1
      | 1 => n2
      | 2 => n3
      | 3 => n4
      | _ + 4 => Nat.zero_le _
  · refine hget k _ ?_
    rcases (by omega : k = 0 ∨ k = 1 ∨ k = 2 ∨ k = 3) with rfl | rfl | rfl | rfl <;> rfl
  · rcases (by omega : k = 0 ∨ k = 1 ∨ k = 2 ∨ k = 3) with rfl | rfl | rfl | rfl
    · exact ⟨h0, rfl⟩
    · exact ⟨h1, rfl⟩
    · exact ⟨h2, rfl⟩
    · exact ⟨h3, rfl⟩
end Go.Fl
