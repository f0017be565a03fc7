/-
  labels.Parse. No condition.
-/
import Derived.Test.YtggbiiicoabkmaaDoorSplit
import Derived.Test.YtggbiiicoabkmaaDoorOut
import Derived.Test.YtggbiiicoabkmaaDoorLabB
namespace Go.Fl
open Go.Proofs Go.RowKit
set_option maxRecDepth 10000

/-! plain -/
def labB (x : ByteArray) : Option Lab := match firstAt (tl x) 61 with
  | none => none
  | some i => some (x.extract 0 i, x.extract (i + 1) x.size)
def labsL : List (List UInt8) → Option (List Lab)
  | [] => some []
  | p :: ps => match labB ⟨p.toArray⟩, labsL ps with
    | some x, some L => some (x :: L)
    | _, _ => none
theorem labsL_app : ∀ (ps : List (List UInt8)) (p : List UInt8), labsL (ps ++ [p]) = match labsL ps, labB ⟨p.toArray⟩ with
    | some L, some x => some (L ++ [x])
    | _, _ => none
  | [], p => by
    show (match labB ⟨p.toArray⟩, some [] with | some x, some L => some (x :: L) | _, _ => none) = _
    unfold labsL
    cases labB ⟨p.toArray⟩ <;> rfl
  | q :: ps, p => by
    show (match labB ⟨q.toArray⟩, labsL (ps ++ [p]) with | some x, some L => some (x :: L) | _, _ => none) = _
    rw [labsL_app ps p]
    show _ = (match (match labB ⟨q.toArray⟩, labsL ps with | some x, some L => some (x :: L) | _, _ => none), labB ⟨p.toArray⟩ with | some L, some x => some (L ++ [x]) | _, _ => none)
    cases labB ⟨q.toArray⟩ <;> cases labsL ps <;> cases labB ⟨p.toArray⟩ <;> rfl
theorem labsL_none_app (ps qs : List (List UInt8)) (h : labsL ps = none) : labsL (ps ++ qs) = none := by
  induction ps with
  | nil => cases h
  | cons p ps ih =>
    show (match labB ⟨p.toArray⟩, labsL (ps ++ qs) with | some x, some L => some (x :: L) | _, _ => none) = none
    have h' : (match labB ⟨p.toArray⟩, labsL ps with | some x, some L => some (x :: L) | _, _ => none) = none := h
    cases hb : labB ⟨p.toArray⟩ with
    | none => rfl
    | some x =>
      rw [hb] at h'
      cases hl : labsL ps with
      | none => rw [ih hl]
      | some L => rw [hl] at h'; cases h'
theorem labsL_len : ∀ (ps : List (List UInt8)) (L : List Lab), labsL ps = some L → L.length = ps.length
  | [], L, h => by cases h; rfl
  | p :: ps, L, h => by
    have h' : (match labB ⟨p.toArray⟩, labsL ps with | some x, some L => some (x :: L) | _, _ => none) = some L := h
    cases hb : labB ⟨p.toArray⟩ with
    | none => rw [hb] at h'; cases h'
    | some x =>
      cases hl : labsL ps with
      | none => rw [hb, hl] at h'; cases h'
      | some M => rw [hb, hl] at h'; cases h'; simp [labsL_len ps M hl]
theorem pieceL_len : ∀ l : List UInt8, (pieceL l).length ≤ l.length + 1
  | [] => by simp [pieceL]
  | c :: l => by
    have ih := pieceL_len l
    unfold pieceL
    by_cases h : c = 44
    · simp [h]; omega
    · rw [if_neg h]
      cases hp : pieceL l with
      | nil => simp
      | cons p ps => rw [hp] at ih; simp at ih ⊢; omega
theorem pieceL_mem : ∀ (l : List UInt8) (p : List UInt8), p ∈ pieceL l → p.length ≤ l.length
  | [], p, h => by simp [pieceL] at h; simp [h]
  | c :: l, p, h => by
    have ih := pieceL_mem l
    unfold pieceL at h
    by_cases hc : c = 44
    · rw [if_pos hc] at h
      rcases List.mem_cons.1 h with rfl | h
      · simp
      · have := ih p h; simp; omega
    · rw [if_neg hc] at h
      cases hp : pieceL l with
      | nil => rw [hp] at h; simp at h; simp [h]
      | cons q ps =>
        rw [hp] at h ih
        rcases List.mem_cons.1 h with rfl | h
        · have := ih q List.mem_cons_self; simp; omega
        · have := ih p (List.mem_cons_of_mem _ h); simp; omega
def parseE (l : List UInt8) : Int := if l = [] then 0 else match labsL (pieceL l) with
  | none => 4
  | some L => if 8 < L.length then 5 else if (chk L).1 = 0 then 0 else 12
def parseL (l : List UInt8) : List Lab := if l = [] then [] else match labsL (pieceL l) with
  | none => []
  | some L => if 8 < L.length then [] else if (chk L).1 = 0 then L else []
theorem parseE_nil : parseE [] = 0 := rfl
theorem parseL_nil : parseL [] = [] := rfl
theorem parseE_none {l : List UInt8} (h : l ≠ []) (hl : labsL (pieceL l) = none) : parseE l = 4 ∧ parseL l = [] := by simp [parseE, parseL, h, hl]
theorem parseE_many {l : List UInt8} {L : List Lab} (h : l ≠ []) (hl : labsL (pieceL l) = some L) (h8 : 8 < L.length) : parseE l = 5 ∧ parseL l = [] := by simp [parseE, parseL, h, hl, h8]
theorem parseE_bad {l : List UInt8} {L : List Lab} (h : l ≠ []) (hl : labsL (pieceL l) = some L) (h8 : ¬ 8 < L.length) (hc : (chk L).1 ≠ 0) : parseE l = 12 ∧ parseL l = [] := by simp [parseE, parseL, h, hl, h8, hc]
theorem parseE_ok {l : List UInt8} {L : List Lab} (h : l ≠ []) (hl : labsL (pieceL l) = some L) (h8 : ¬ 8 < L.length) (hc : (chk L).1 = 0) : parseE l = 0 ∧ parseL l = L := by simp [parseE, parseL, h, hl, h8, hc]

/-! the walk -/
def ParsePost (s : ByteArray) (v : Go.Value) (hs : Hs) : Prop := ∃ u, v = .tuple #[u, if parseE (tl s) = 0 then .nilIface else errno (parseE (tl s))] ∧ OutAt (parseL (tl s)) u hs
theorem parsePost_err {s : ByteArray} {c : Int} (h : parseE (tl s) = c ∧ parseL (tl s) = []) (h0 : c ≠ 0) : ParsePost s (.tuple #[.slice none 0 0, errno c]) [] :=
  ⟨_, by rw [h.1, if_neg h0], by rw [h.2]; exact Or.inl ⟨rfl, rfl, rfl⟩⟩
theorem parsePost_ok {s : ByteArray} {L : List Lab} {u : Go.Value} {bs : Hs} (h : parseE (tl s) = 0 ∧ parseL (tl s) = L) (ho : OutAt L u bs) : ParsePost s (.tuple #[u, .nilIface]) bs :=
  ⟨_, by rw [h.1, if_pos rfl], by rw [h.2]; exact ho⟩

def box22 (b : Nat) (u : Go.Value) : Nat × Obj := (b, .cells #[u] 22)
def box24 (b : Nat) (u : Go.Value) : Nat × Obj := (b, .cells #[u] 24)

theorem yieldTmps1 {r : Loop} {t : Nat} {x : Go.Value} (h : r.params = #[t]) : yieldTmps r [x] = r.tmps.setIfInBounds t x := by simp [yieldTmps, h]
theorem rfq {C : Cx} {k : List Item} {e : Env} {hs : Hs} {g : Operand} {ps : Array Tmp} {assign body : Code} {f : FuncId} {first captured : Array Go.Value} (hrd : C.rd = some none) (hg : ev e g = some (.func (.func f) first captured)) (hf : isFn C.P f = true)
    (Φ : Nat → Nat → Option Code → Hs → Prop)
    (hcall : ∀ (m l : Nat) (r : Loop), r = { state := .ready, pending := none, fn := C.f, tmps := r.tmps, params := ps, assign := assign, body := body, defers := m } → r.tmps.size = C.N → (∀ d, EnvOk e { tmps := r.tmps, defers := d }) →
      Con C.P f (first.toList ++ [.func (.yield l) #[] #[]] ++ captured.toList) ((l, .loop r) :: (m, .deferred (some [])) :: hs) (fun w => ∃ w0, St C.W0 C.own hs w0 ∧ Below w0.heap.size w0 w)
        (fun _ hs' => ∃ r hs1, hs' = (l, .loop r) :: (m, .deferred (some [])) :: hs1 ∧ r.state ≠ .busy ∧ Φ m l r.pending hs1))
    (next : ∀ m l jump hs1, Φ m l jump hs1 → Run { C with ms := m :: C.ms } ((jump.map Item.code).toList ++ k) e ((m, .deferred (some [])) :: hs1)) : Run C (.code (.rangeFunc g ps assign body) :: k) e hs :=
  rf hrd hg hf Φ (fun m l tmps h1 h2 => hcall m l _ rfl h1 h2) next

theorem Parse (s : ByteArray) (hs : s.size ≤ 2097152) : Con Tryd.prog 19 [.string s] [] (fun _ => True) (ParsePost s) := by
  refine con_startR1 Tryd.func19 rfl rfl rfl (fun w0 _ => ?_)
  repeat' (first | (apply o1; exact rfl; apply pv; exact rfl; exact rfl) | apply nl | apply sq | apply rg | (apply gy; exact rfl; exact rfl) | (apply gn; exact rfl; exact rfl; exact rfl; exact rfl) | (apply gu; exact rfl; exact rfl; exact rfl; exact rfl) | (apply gs; exact rfl; exact rfl; all_goals intro _) | (apply gb; exact rfl; exact rfl; all_goals intro _) | (apply it; exact rfl) | (apply fi; exact rfl) | (apply cd; exact rfl; all_goals intro _) | (apply cb; exact rfl; all_goals intro _) | apply bl | (apply xt; exact rfl) | apply sk | apply ib | (apply o1; exact rfl; (first | (apply pv; exact rfl; exact rfl) | (apply p_ls; exact rfl; kernel_rfl) | (apply p_ll; exact rfl; kernel_rfl) | (apply p_ic; exact rfl; omega) | (apply p_s1; exact rfl; omega; omega) | (apply p_sb; exact rfl; exact rfl; omega; omega) | (apply p_ad; exact rfl; exact rfl; omega) | (apply p_be; exact rfl; exact rfl; kernel_rfl) | (apply p_bn; exact rfl; exact rfl; kernel_rfl) | (apply p_en; exact rfl; exact rfl; kernel_rfl) | (apply p_nn; exact rfl; exact rfl; kernel_rfl) | (apply p_cv; exact rfl; exact int_of tabOk rfl; kernel_rfl) | (apply p_mi; exact rfl; exact p_mi_ok (kind_of tabOk rfl) rfl) | (apply p_fa; exact rfl; exact field_of tabOk rfl) | (apply p_nc; exact rfl) | (apply p_bk; exact rfl; omega; omega; kernel_rfl) | (apply p_by; exact rfl; exact rfl; omega; kernel_rfl) | (apply p_ia; exact rfl; exact rfl; exact elem_of tabOk rfl; omega) | (apply p_ar; exact rfl; exact rfl; exact rfl) | (apply p_bd tabOk; exact rfl; exact rfl; exact rfl; exact ⟨rfl, rfl⟩))) | (apply o2; exact rfl; (first | (apply r_l1 0; exact shape_of tabOk rfl; exact rfl; exact rfl; exact rfl) | (apply r_ln 0; exact shape_of tabOk rfl; exact rfl; exact rfl; exact rfl) | (apply r_l1 1; exact shape_of tabOk rfl; exact rfl; exact rfl; exact rfl) | (apply r_ln 1; exact shape_of tabOk rfl; exact rfl; exact rfl; exact rfl) | (apply r_l1 2; exact shape_of tabOk rfl; exact rfl; exact rfl; exact rfl) | (apply r_ln 2; exact shape_of tabOk rfl; exact rfl; exact rfl; exact rfl) | (apply r_l1 3; exact shape_of tabOk rfl; exact rfl; exact rfl; exact rfl) | (apply r_ln 3; exact shape_of tabOk rfl; exact rfl; exact rfl; exact rfl))) | (apply al; exact rfl; exact zero_of tabOk rfl; intro _) | (apply bx; exact rfl; exact rfl; intro _) | (apply sw 0; exact size_of tabOk rfl; exact rfl; exact rfl; exact rfl; exact rfl; exact rfl; exact rfl; exact rfl) | (apply so 0; exact size_of tabOk rfl; exact rfl; exact rfl; exact rfl; exact rfl; exact so_le rfl; exact so_one rfl) | (apply sw 1; exact size_of tabOk rfl; exact rfl; exact rfl; exact rfl; exact rfl; exact rfl; exact rfl; exact rfl) | (apply so 1; exact size_of tabOk rfl; exact rfl; exact rfl; exact rfl; exact rfl; exact so_le rfl; exact so_one rfl) | (apply sw 2; exact size_of tabOk rfl; exact rfl; exact rfl; exact rfl; exact rfl; exact rfl; exact rfl; exact rfl) | (apply so 2; exact size_of tabOk rfl; exact rfl; exact rfl; exact rfl; exact rfl; exact so_le rfl; exact so_one rfl) | (apply sw 3; exact size_of tabOk rfl; exact rfl; exact rfl; exact rfl; exact rfl; exact rfl; exact rfl; exact rfl) | (apply so 3; exact size_of tabOk rfl; exact rfl; exact rfl; exact rfl; exact rfl; exact so_le rfl; exact so_one rfl) | (apply rr1; exact rfl; exact rfl) | (apply rr2; exact rfl; exact rfl; exact rfl) | (apply rr3; exact rfl; exact rfl; exact rfl; exact rfl))
  · rename_i b2 b3 h
    have h' : tl s = [] := by simpa [tl] using h
    refine rcc2 (i1 := 1) (i2 := 0) (Or.inl ⟨rfl, rfl⟩) rfl rfl rfl rfl (shape_of tabOk rfl) (shape_of tabOk rfl) rfl rfl (fun w hst => ⟨_, [], rfl, hst.sub (List.nil_sublist _), ?_⟩)
    exact parsePost_ok (by rw [h']; exact ⟨rfl, rfl⟩) (Or.inl ⟨rfl, rfl, rfl⟩)
  · rename_i b2 b3 h b4
    have hne : tl s ≠ [] := by simpa [tl] using h
    refine cc0 rfl (by kernel_rfl) rfl (SplitSeq s ⟨#[44]⟩) (fun _ _ => trivial) ?_
    rintro v hs' ⟨b5, b6, b7, rfl, rfl⟩
    repeat' (first | (apply o1; exact rfl; apply pv; exact rfl; exact rfl) | apply nl | apply sq | apply rg | (apply gy; exact rfl; exact rfl) | (apply gn; exact rfl; exact rfl; exact rfl; exact rfl) | (apply gu; exact rfl; exact rfl; exact rfl; exact rfl) | (apply gs; exact rfl; exact rfl; all_goals intro _) | (apply gb; exact rfl; exact rfl; all_goals intro _) | (apply it; exact rfl) | (apply fi; exact rfl) | (apply cd; exact rfl; all_goals intro _) | (apply cb; exact rfl; all_goals intro _) | apply bl | (apply xt; exact rfl) | apply sk | apply ib | (apply o1; exact rfl; (first | (apply pv; exact rfl; exact rfl) | (apply p_ls; exact rfl; kernel_rfl) | (apply p_ll; exact rfl; kernel_rfl) | (apply p_ic; exact rfl; omega) | (apply p_s1; exact rfl; omega; omega) | (apply p_sb; exact rfl; exact rfl; omega; omega) | (apply p_ad; exact rfl; exact rfl; omega) | (apply p_be; exact rfl; exact rfl; kernel_rfl) | (apply p_bn; exact rfl; exact rfl; kernel_rfl) | (apply p_en; exact rfl; exact rfl; kernel_rfl) | (apply p_nn; exact rfl; exact rfl; kernel_rfl) | (apply p_cv; exact rfl; exact int_of tabOk rfl; kernel_rfl) | (apply p_mi; exact rfl; exact p_mi_ok (kind_of tabOk rfl) rfl) | (apply p_fa; exact rfl; exact field_of tabOk rfl) | (apply p_nc; exact rfl) | (apply p_bk; exact rfl; omega; omega; kernel_rfl) | (apply p_by; exact rfl; exact rfl; omega; kernel_rfl) | (apply p_ia; exact rfl; exact rfl; exact elem_of tabOk rfl; omega) | (apply p_ar; exact rfl; exact rfl; exact rfl) | (apply p_bd tabOk; exact rfl; exact rfl; exact rfl; exact ⟨rfl, rfl⟩))) | (apply o2; exact rfl; (first | (apply r_l1 0; exact shape_of tabOk rfl; exact rfl; exact rfl; exact rfl) | (apply r_ln 0; exact shape_of tabOk rfl; exact rfl; exact rfl; exact rfl) | (apply r_l1 1; exact shape_of tabOk rfl; exact rfl; exact rfl; exact rfl) | (apply r_ln 1; exact shape_of tabOk rfl; exact rfl; exact rfl; exact rfl) | (apply r_l1 2; exact shape_of tabOk rfl; exact rfl; exact rfl; exact rfl) | (apply r_ln 2; exact shape_of tabOk rfl; exact rfl; exact rfl; exact rfl) | (apply r_l1 3; exact shape_of tabOk rfl; exact rfl; exact rfl; exact rfl) | (apply r_ln 3; exact shape_of tabOk rfl; exact rfl; exact rfl; exact rfl))) | (apply al; exact rfl; exact zero_of tabOk rfl; intro _) | (apply bx; exact rfl; exact rfl; intro _) | (apply sw 0; exact size_of tabOk rfl; exact rfl; exact rfl; exact rfl; exact rfl; exact rfl; exact rfl; exact rfl) | (apply so 0; exact size_of tabOk rfl; exact rfl; exact rfl; exact rfl; exact rfl; exact so_le rfl; exact so_one rfl) | (apply sw 1; exact size_of tabOk rfl; exact rfl; exact rfl; exact rfl; exact rfl; exact rfl; exact rfl; exact rfl) | (apply so 1; exact size_of tabOk rfl; exact rfl; exact rfl; exact rfl; exact rfl; exact so_le rfl; exact so_one rfl) | (apply sw 2; exact size_of tabOk rfl; exact rfl; exact rfl; exact rfl; exact rfl; exact rfl; exact rfl; exact rfl) | (apply so 2; exact size_of tabOk rfl; exact rfl; exact rfl; exact rfl; exact rfl; exact so_le rfl; exact so_one rfl) | (apply sw 3; exact size_of tabOk rfl; exact rfl; exact rfl; exact rfl; exact rfl; exact rfl; exact rfl; exact rfl) | (apply so 3; exact size_of tabOk rfl; exact rfl; exact rfl; exact rfl; exact rfl; exact so_le rfl; exact so_one rfl) | (apply rr1; exact rfl; exact rfl) | (apply rr2; exact rfl; exact rfl; exact rfl) | (apply rr3; exact rfl; exact rfl; exact rfl; exact rfl))
    refine rfq rfl rfl (by kernel_rfl) (fun m l jump hs1 => (jump = none ∧ ∃ out u obs, labsL (pieceL (tl s)) = some out ∧ OutAt out u obs ∧ (box22 b4 u :: box24 b3 .nilIface :: box22 b2 (.slice none 0 0) :: obs).Sublist hs1) ∨
      (jump = some .ret ∧ labsL (pieceL (tl s)) = none ∧ ∃ u, [box22 b4 u, box24 b3 (errno 4), box22 b2 (.slice none 0 0)].Sublist hs1)) (fun m l r hr htm henv => ?_) (fun m l jump hs1 hΦ => ?_)
    · have hyt : ∀ x, yieldTmps r [x] = r.tmps.setIfInBounds 13 x := fun x => yieldTmps1 (congrArg Loop.params hr)
      refine Con.conv (seqC s (by omega) (l := l) (r := r) (fun i bs => ∃ out u obs, labsL ((pieceL (tl s)).take i) = some out ∧ OutAt out u obs ∧ bs = (l, .loop r) :: (m, .deferred (some [])) :: box22 b4 u :: box24 b3 .nilIface :: box22 b2 (.slice none 0 0) :: obs)
        (fun bs => labsL (pieceL (tl s)) = none ∧ ∃ r' u, r'.state = .done ∧ r'.pending = some .ret ∧ bs = [(l, .loop r'), (m, .deferred (some [])), box22 b4 u, box24 b3 (errno 4), box22 b2 (.slice none 0 0)])
        ?_ (by rw [hr]; rfl) (fun i x bs hx hI => ?_) _ ?_) (List.perm_append_comm_assoc [_, _] [_, _, _] _) (fun _ _ => trivial) (fun v hs' hv => ?_)
      · rintro i bs ⟨out, u, obs, _, _, rfl⟩; exact List.mem_cons_self
      · obtain ⟨out, u, obs, hL, ho, rfl⟩ := hI
        refine rnd_start (e := (13, strV x) :: _) (by rw [hr]; exact Tryd.func19) (n := 38) (by rw [hyt, Array.size_setIfInBounds]; exact htm) (fun d => by rw [hyt]; exact (henv d).put (by show 13 < r.tmps.size; rw [htm]; exact (by decide : 13 < 38)) (strV x)) (fun w => ?_)
        have hra : r.assign = _ := congrArg Loop.assign hr
        have hrb : r.body = _ := congrArg Loop.body hr
        rw [hra, hrb]
        have hxs : strV x = .string ⟨x.toArray⟩ := rfl
        generalize hxb : (⟨x.toArray⟩ : ByteArray) = xb at hxs
        have htx : tl xb = x := by rw [← hxb]; rfl
        have hxm := pieceL_mem (tl s) x (List.mem_of_getElem? hx)
        rw [← htx, ← size_tl, ← size_tl] at hxm
        have hcut := cut1 xb 61 (by omega)
        have hlx := pieceL_len (tl s)
        have hio : out.length ≤ i := by rw [labsL_len _ _ hL]; simp; omega
        have hil : i < (pieceL (tl s)).length := (List.getElem?_eq_some_iff.1 hx).1
        rw [← size_tl] at hlx
        have hstep : (pieceL (tl s)).take (i + 1) = (pieceL (tl s)).take i ++ [x] := by rw [List.take_add_one, hx]; rfl
        have hla := labsL_app ((pieceL (tl s)).take i) x
        rw [hL, hxb, ← hstep] at hla
        unfold labB at hla
        rw [hxs]
        unfold cutV at hcut
        unfold box22 box24
        cases hf : firstAt (tl xb) 61 with
        | none =>
          rw [hf] at hcut hla
          simp only at hcut hla
          repeat' (first | (first | (apply o1; exact rfl; apply pv; exact rfl; exact rfl) | apply nl | apply sq | apply rg | (apply gy; exact rfl; exact rfl) | (apply gn; exact rfl; exact rfl; exact rfl; exact rfl) | (apply gu; exact rfl; exact rfl; exact rfl; exact rfl) | (apply gs; exact rfl; exact rfl; all_goals intro _) | (apply gb; exact rfl; exact rfl; all_goals intro _) | (apply it; exact rfl) | (apply fi; exact rfl) | (apply cd; exact rfl; all_goals intro _) | (apply cb; exact rfl; all_goals intro _) | apply bl | (apply xt; exact rfl) | apply sk | apply ib | (apply o1; exact rfl; (first | (apply pv; exact rfl; exact rfl) | (apply p_ls; exact rfl; kernel_rfl) | (apply p_ll; exact rfl; kernel_rfl) | (apply p_ic; exact rfl; omega) | (apply p_s1; exact rfl; omega; omega) | (apply p_sb; exact rfl; exact rfl; omega; omega) | (apply p_ad; exact rfl; exact rfl; omega) | (apply p_be; exact rfl; exact rfl; kernel_rfl) | (apply p_bn; exact rfl; exact rfl; kernel_rfl) | (apply p_en; exact rfl; exact rfl; kernel_rfl) | (apply p_nn; exact rfl; exact rfl; kernel_rfl) | (apply p_cv; exact rfl; exact int_of tabOk rfl; kernel_rfl) | (apply p_mi; exact rfl; exact p_mi_ok (kind_of tabOk rfl) rfl) | (apply p_fa; exact rfl; exact field_of tabOk rfl) | (apply p_nc; exact rfl) | (apply p_bk; exact rfl; omega; omega; kernel_rfl) | (apply p_by; exact rfl; exact rfl; omega; kernel_rfl) | (apply p_ia; exact rfl; exact rfl; exact elem_of tabOk rfl; omega) | (apply p_ar; exact rfl; exact rfl; exact rfl) | (apply p_bd tabOk; exact rfl; exact rfl; exact rfl; exact ⟨rfl, rfl⟩))) | (apply o2; exact rfl; (first | (apply r_l1 0; exact shape_of tabOk rfl; exact rfl; exact rfl; exact rfl) | (apply r_ln 0; exact shape_of tabOk rfl; exact rfl; exact rfl; exact rfl) | (apply r_l1 1; exact shape_of tabOk rfl; exact rfl; exact rfl; exact rfl) | (apply r_ln 1; exact shape_of tabOk rfl; exact rfl; exact rfl; exact rfl) | (apply r_l1 2; exact shape_of tabOk rfl; exact rfl; exact rfl; exact rfl) | (apply r_ln 2; exact shape_of tabOk rfl; exact rfl; exact rfl; exact rfl) | (apply r_l1 3; exact shape_of tabOk rfl; exact rfl; exact rfl; exact rfl) | (apply r_ln 3; exact shape_of tabOk rfl; exact rfl; exact rfl; exact rfl))) | (apply al; exact rfl; exact zero_of tabOk rfl; intro _) | (apply bx; exact rfl; exact rfl; intro _) | (apply sw 0; exact size_of tabOk rfl; exact rfl; exact rfl; exact rfl; exact rfl; exact rfl; exact rfl; exact rfl) | (apply so 0; exact size_of tabOk rfl; exact rfl; exact rfl; exact rfl; exact rfl; exact so_le rfl; exact so_one rfl) | (apply sw 1; exact size_of tabOk rfl; exact rfl; exact rfl; exact rfl; exact rfl; exact rfl; exact rfl; exact rfl) | (apply so 1; exact size_of tabOk rfl; exact rfl; exact rfl; exact rfl; exact rfl; exact so_le rfl; exact so_one rfl) | (apply sw 2; exact size_of tabOk rfl; exact rfl; exact rfl; exact rfl; exact rfl; exact rfl; exact rfl; exact rfl) | (apply so 2; exact size_of tabOk rfl; exact rfl; exact rfl; exact rfl; exact rfl; exact so_le rfl; exact so_one rfl) | (apply sw 3; exact size_of tabOk rfl; exact rfl; exact rfl; exact rfl; exact rfl; exact rfl; exact rfl; exact rfl) | (apply so 3; exact size_of tabOk rfl; exact rfl; exact rfl; exact rfl; exact rfl; exact so_le rfl; exact so_one rfl) | (apply rr1; exact rfl; exact rfl) | (apply rr2; exact rfl; exact rfl; exact rfl) | (apply rr3; exact rfl; exact rfl; exact rfl; exact rfl)) | (apply br 0; exact rfl; exact rfl; exact congrArg Loop.state hr) | (apply cr; exact rfl; kernel_rfl; exact rfl; exact hcut) | (apply so 4; exact size_of tabOk rfl; exact rfl; exact rfl; exact rfl; exact rfl; exact so_le rfl; exact so_one rfl) | (apply sw 4; exact size_of tabOk rfl; exact rfl; exact rfl; exact rfl; exact rfl; exact rfl; exact rfl; exact rfl))
          refine rt 0 rfl rfl (fun w' hst => ⟨_, [(l, .loop { r with state := .done, pending := some .ret }), (m, _), box22 b4 u, box24 b3 (errno 4), box22 b2 (.slice none 0 0)], rfl, hst.sub ?_, Or.inr ⟨rfl, ?_, { r with state := .done, pending := some .ret }, _, rfl, rfl, rfl⟩⟩)
          · exact List.sublist_append_left [_, _, _, _, _] obs
          · rw [← List.take_append_drop (i + 1) (pieceL (tl s))]; exact labsL_none_app _ _ hla
        | some j =>
          rw [hf] at hcut hla
          simp only at hcut hla
          repeat' (first | (first | (apply o1; exact rfl; apply pv; exact rfl; exact rfl) | apply nl | apply sq | apply rg | (apply gy; exact rfl; exact rfl) | (apply gn; exact rfl; exact rfl; exact rfl; exact rfl) | (apply gu; exact rfl; exact rfl; exact rfl; exact rfl) | (apply gs; exact rfl; exact rfl; all_goals intro _) | (apply gb; exact rfl; exact rfl; all_goals intro _) | (apply it; exact rfl) | (apply fi; exact rfl) | (apply cd; exact rfl; all_goals intro _) | (apply cb; exact rfl; all_goals intro _) | apply bl | (apply xt; exact rfl) | apply sk | apply ib | (apply o1; exact rfl; (first | (apply pv; exact rfl; exact rfl) | (apply p_ls; exact rfl; kernel_rfl) | (apply p_ll; exact rfl; kernel_rfl) | (apply p_ic; exact rfl; omega) | (apply p_s1; exact rfl; omega; omega) | (apply p_sb; exact rfl; exact rfl; omega; omega) | (apply p_ad; exact rfl; exact rfl; omega) | (apply p_be; exact rfl; exact rfl; kernel_rfl) | (apply p_bn; exact rfl; exact rfl; kernel_rfl) | (apply p_en; exact rfl; exact rfl; kernel_rfl) | (apply p_nn; exact rfl; exact rfl; kernel_rfl) | (apply p_cv; exact rfl; exact int_of tabOk rfl; kernel_rfl) | (apply p_mi; exact rfl; exact p_mi_ok (kind_of tabOk rfl) rfl) | (apply p_fa; exact rfl; exact field_of tabOk rfl) | (apply p_nc; exact rfl) | (apply p_bk; exact rfl; omega; omega; kernel_rfl) | (apply p_by; exact rfl; exact rfl; omega; kernel_rfl) | (apply p_ia; exact rfl; exact rfl; exact elem_of tabOk rfl; omega) | (apply p_ar; exact rfl; exact rfl; exact rfl) | (apply p_bd tabOk; exact rfl; exact rfl; exact rfl; exact ⟨rfl, rfl⟩))) | (apply o2; exact rfl; (first | (apply r_l1 0; exact shape_of tabOk rfl; exact rfl; exact rfl; exact rfl) | (apply r_ln 0; exact shape_of tabOk rfl; exact rfl; exact rfl; exact rfl) | (apply r_l1 1; exact shape_of tabOk rfl; exact rfl; exact rfl; exact rfl) | (apply r_ln 1; exact shape_of tabOk rfl; exact rfl; exact rfl; exact rfl) | (apply r_l1 2; exact shape_of tabOk rfl; exact rfl; exact rfl; exact rfl) | (apply r_ln 2; exact shape_of tabOk rfl; exact rfl; exact rfl; exact rfl) | (apply r_l1 3; exact shape_of tabOk rfl; exact rfl; exact rfl; exact rfl) | (apply r_ln 3; exact shape_of tabOk rfl; exact rfl; exact rfl; exact rfl))) | (apply al; exact rfl; exact zero_of tabOk rfl; intro _) | (apply bx; exact rfl; exact rfl; intro _) | (apply sw 0; exact size_of tabOk rfl; exact rfl; exact rfl; exact rfl; exact rfl; exact rfl; exact rfl; exact rfl) | (apply so 0; exact size_of tabOk rfl; exact rfl; exact rfl; exact rfl; exact rfl; exact so_le rfl; exact so_one rfl) | (apply sw 1; exact size_of tabOk rfl; exact rfl; exact rfl; exact rfl; exact rfl; exact rfl; exact rfl; exact rfl) | (apply so 1; exact size_of tabOk rfl; exact rfl; exact rfl; exact rfl; exact rfl; exact so_le rfl; exact so_one rfl) | (apply sw 2; exact size_of tabOk rfl; exact rfl; exact rfl; exact rfl; exact rfl; exact rfl; exact rfl; exact rfl) | (apply so 2; exact size_of tabOk rfl; exact rfl; exact rfl; exact rfl; exact rfl; exact so_le rfl; exact so_one rfl) | (apply sw 3; exact size_of tabOk rfl; exact rfl; exact rfl; exact rfl; exact rfl; exact rfl; exact rfl; exact rfl) | (apply so 3; exact size_of tabOk rfl; exact rfl; exact rfl; exact rfl; exact rfl; exact so_le rfl; exact so_one rfl) | (apply rr1; exact rfl; exact rfl) | (apply rr2; exact rfl; exact rfl; exact rfl) | (apply rr3; exact rfl; exact rfl; exact rfl; exact rfl)) | (apply br 0; exact rfl; exact rfl; exact congrArg Loop.state hr) | (apply cr; exact rfl; kernel_rfl; exact rfl; exact hcut))
          apply bsq tabOk; exact rfl; exact rfl; exact rfl; exact rfl; exact rfl; exact rfl; exact rfl; exact rfl; exact rfl; exact rfl; intro b8
          refine ops_st (hs' := obs ++ (b8, .cells #[.string (xb.extract 0 j), .string (xb.extract (j + 1) xb.size)] 62) :: [(l, .loop { r with state := .busy }), (m, .deferred (some [])), box22 b4 u, box24 b3 .nilIface, box22 b2 (.slice none 0 0)]) (fun w' hst => hst.perm (List.perm_append_comm (l₁ := obs) (l₂ := [_, _, _, _, _, _]))) ?_
          refine apLq (l := (xb.extract 0 j, xb.extract (j + 1) xb.size)) tabOk rfl ho (by omega) rfl rfl (fun v' bs' ho' => ?_)
          refine ops_st (hs' := (l, .loop { r with state := .busy }) :: (m, .deferred (some [])) :: box22 b4 u :: box24 b3 .nilIface :: box22 b2 (.slice none 0 0) :: bs') (fun w' hst => hst.perm (List.perm_append_comm (l₁ := [_, _, _, _, _]) (l₂ := bs'))) ?_
          obtain ⟨va, vc, rfl, _, _⟩ := outAt_lab ho'
          unfold box22 box24
          repeat' (first | (apply o1; exact rfl; apply pv; exact rfl; exact rfl) | apply nl | apply sq | apply rg | (apply gy; exact rfl; exact rfl) | (apply gn; exact rfl; exact rfl; exact rfl; exact rfl) | (apply gu; exact rfl; exact rfl; exact rfl; exact rfl) | (apply gs; exact rfl; exact rfl; all_goals intro _) | (apply gb; exact rfl; exact rfl; all_goals intro _) | (apply it; exact rfl) | (apply fi; exact rfl) | (apply cd; exact rfl; all_goals intro _) | (apply cb; exact rfl; all_goals intro _) | apply bl | (apply xt; exact rfl) | apply sk | apply ib | (apply o1; exact rfl; (first | (apply pv; exact rfl; exact rfl) | (apply p_ls; exact rfl; kernel_rfl) | (apply p_ll; exact rfl; kernel_rfl) | (apply p_ic; exact rfl; omega) | (apply p_s1; exact rfl; omega; omega) | (apply p_sb; exact rfl; exact rfl; omega; omega) | (apply p_ad; exact rfl; exact rfl; omega) | (apply p_be; exact rfl; exact rfl; kernel_rfl) | (apply p_bn; exact rfl; exact rfl; kernel_rfl) | (apply p_en; exact rfl; exact rfl; kernel_rfl) | (apply p_nn; exact rfl; exact rfl; kernel_rfl) | (apply p_cv; exact rfl; exact int_of tabOk rfl; kernel_rfl) | (apply p_mi; exact rfl; exact p_mi_ok (kind_of tabOk rfl) rfl) | (apply p_fa; exact rfl; exact field_of tabOk rfl) | (apply p_nc; exact rfl) | (apply p_bk; exact rfl; omega; omega; kernel_rfl) | (apply p_by; exact rfl; exact rfl; omega; kernel_rfl) | (apply p_ia; exact rfl; exact rfl; exact elem_of tabOk rfl; omega) | (apply p_ar; exact rfl; exact rfl; exact rfl) | (apply p_bd tabOk; exact rfl; exact rfl; exact rfl; exact ⟨rfl, rfl⟩))) | (apply o2; exact rfl; (first | (apply r_l1 0; exact shape_of tabOk rfl; exact rfl; exact rfl; exact rfl) | (apply r_ln 0; exact shape_of tabOk rfl; exact rfl; exact rfl; exact rfl) | (apply r_l1 1; exact shape_of tabOk rfl; exact rfl; exact rfl; exact rfl) | (apply r_ln 1; exact shape_of tabOk rfl; exact rfl; exact rfl; exact rfl) | (apply r_l1 2; exact shape_of tabOk rfl; exact rfl; exact rfl; exact rfl) | (apply r_ln 2; exact shape_of tabOk rfl; exact rfl; exact rfl; exact rfl) | (apply r_l1 3; exact shape_of tabOk rfl; exact rfl; exact rfl; exact rfl) | (apply r_ln 3; exact shape_of tabOk rfl; exact rfl; exact rfl; exact rfl))) | (apply al; exact rfl; exact zero_of tabOk rfl; intro _) | (apply bx; exact rfl; exact rfl; intro _) | (apply sw 0; exact size_of tabOk rfl; exact rfl; exact rfl; exact rfl; exact rfl; exact rfl; exact rfl; exact rfl) | (apply so 0; exact size_of tabOk rfl; exact rfl; exact rfl; exact rfl; exact rfl; exact so_le rfl; exact so_one rfl) | (apply sw 1; exact size_of tabOk rfl; exact rfl; exact rfl; exact rfl; exact rfl; exact rfl; exact rfl; exact rfl) | (apply so 1; exact size_of tabOk rfl; exact rfl; exact rfl; exact rfl; exact rfl; exact so_le rfl; exact so_one rfl) | (apply sw 2; exact size_of tabOk rfl; exact rfl; exact rfl; exact rfl; exact rfl; exact rfl; exact rfl; exact rfl) | (apply so 2; exact size_of tabOk rfl; exact rfl; exact rfl; exact rfl; exact rfl; exact so_le rfl; exact so_one rfl) | (apply sw 3; exact size_of tabOk rfl; exact rfl; exact rfl; exact rfl; exact rfl; exact rfl; exact rfl; exact rfl) | (apply so 3; exact size_of tabOk rfl; exact rfl; exact rfl; exact rfl; exact rfl; exact so_le rfl; exact so_one rfl) | (apply rr1; exact rfl; exact rfl) | (apply rr2; exact rfl; exact rfl; exact rfl) | (apply rr3; exact rfl; exact rfl; exact rfl; exact rfl))
          refine re 0 rfl rfl (fun w' hst => ⟨_, (l, .loop r) :: (m, _) :: box22 b4 _ :: box24 b3 _ :: box22 b2 _ :: bs', rfl, ?_, Or.inl ⟨rfl, out ++ [(xb.extract 0 j, xb.extract (j + 1) xb.size)], _, bs', hla, ho', rfl⟩⟩)
          have hrr : ({ r with state := .ready, pending := none } : Loop) = r := by rw [hr]
          rw [← hrr]
          exact hst
      · exact ⟨[], _, [], rfl, Or.inl ⟨rfl, rfl, rfl⟩, rfl⟩
      · obtain ⟨s', hs1, rfl, hv⟩ := hv
        rcases hv with ⟨out, u, obs, hL, ho, rfl⟩ | ⟨hn, r', u, hr1, hr2, rfl⟩
        · rw [List.take_length] at hL
          refine ⟨_, List.perm_append_comm_assoc [_, _] [_, _, _] _, r, _, rfl, by rw [hr]; simp, Or.inl ⟨by rw [hr], out, u, obs, hL, ho, ?_⟩⟩
          exact List.sublist_append_right (l₁ := [_, _, _]) _
        · refine ⟨_, List.perm_append_comm_assoc [_, _] [_, _, _] _, r', _, rfl, by rw [hr1]; simp, Or.inr ⟨hr2, hn, u, ?_⟩⟩
          exact List.sublist_append_right (l₁ := [_, _, _]) _
    · rcases hΦ with ⟨rfl, out, u, obs, hL, ho, hsub⟩ | ⟨rfl, hL, u, hsub⟩
      · refine run_weak (fun _ _ h => h) (List.Sublist.cons_cons _ hsub) ?_
        simp only [Option.map_none, Option.toList_none, List.nil_append]
        have hlen := labsL_len _ _ hL
        have hpl := pieceL_len (tl s)
        rw [← size_tl] at hpl
        obtain ⟨ua, uc, rfl, hle, hat⟩ := outAt_lab ho
        have h8 := Classical.em (8 < out.length)
        unfold box22 box24
        repeat' (first | (first | (apply o1; exact rfl; apply pv; exact rfl; exact rfl) | apply nl | apply sq | apply rg | (apply gy; exact rfl; exact rfl) | (apply gn; exact rfl; exact rfl; exact rfl; exact rfl) | (apply gu; exact rfl; exact rfl; exact rfl; exact rfl) | (apply gs; exact rfl; exact rfl; all_goals intro _) | (apply gb; exact rfl; exact rfl; all_goals intro _) | (apply it; exact rfl) | (apply fi; exact rfl) | (apply cd; exact rfl; all_goals intro _) | (apply cb; exact rfl; all_goals intro _) | apply bl | (apply xt; exact rfl) | apply sk | apply ib | (apply o1; exact rfl; (first | (apply pv; exact rfl; exact rfl) | (apply p_ls; exact rfl; kernel_rfl) | (apply p_ll; exact rfl; kernel_rfl) | (apply p_ic; exact rfl; omega) | (apply p_s1; exact rfl; omega; omega) | (apply p_sb; exact rfl; exact rfl; omega; omega) | (apply p_ad; exact rfl; exact rfl; omega) | (apply p_be; exact rfl; exact rfl; kernel_rfl) | (apply p_bn; exact rfl; exact rfl; kernel_rfl) | (apply p_en; exact rfl; exact rfl; kernel_rfl) | (apply p_nn; exact rfl; exact rfl; kernel_rfl) | (apply p_cv; exact rfl; exact int_of tabOk rfl; kernel_rfl) | (apply p_mi; exact rfl; exact p_mi_ok (kind_of tabOk rfl) rfl) | (apply p_fa; exact rfl; exact field_of tabOk rfl) | (apply p_nc; exact rfl) | (apply p_bk; exact rfl; omega; omega; kernel_rfl) | (apply p_by; exact rfl; exact rfl; omega; kernel_rfl) | (apply p_ia; exact rfl; exact rfl; exact elem_of tabOk rfl; omega) | (apply p_ar; exact rfl; exact rfl; exact rfl) | (apply p_bd tabOk; exact rfl; exact rfl; exact rfl; exact ⟨rfl, rfl⟩))) | (apply o2; exact rfl; (first | (apply r_l1 0; exact shape_of tabOk rfl; exact rfl; exact rfl; exact rfl) | (apply r_ln 0; exact shape_of tabOk rfl; exact rfl; exact rfl; exact rfl) | (apply r_l1 1; exact shape_of tabOk rfl; exact rfl; exact rfl; exact rfl) | (apply r_ln 1; exact shape_of tabOk rfl; exact rfl; exact rfl; exact rfl) | (apply r_l1 2; exact shape_of tabOk rfl; exact rfl; exact rfl; exact rfl) | (apply r_ln 2; exact shape_of tabOk rfl; exact rfl; exact rfl; exact rfl) | (apply r_l1 3; exact shape_of tabOk rfl; exact rfl; exact rfl; exact rfl) | (apply r_ln 3; exact shape_of tabOk rfl; exact rfl; exact rfl; exact rfl))) | (apply al; exact rfl; exact zero_of tabOk rfl; intro _) | (apply bx; exact rfl; exact rfl; intro _) | (apply sw 0; exact size_of tabOk rfl; exact rfl; exact rfl; exact rfl; exact rfl; exact rfl; exact rfl; exact rfl) | (apply so 0; exact size_of tabOk rfl; exact rfl; exact rfl; exact rfl; exact rfl; exact so_le rfl; exact so_one rfl) | (apply sw 1; exact size_of tabOk rfl; exact rfl; exact rfl; exact rfl; exact rfl; exact rfl; exact rfl; exact rfl) | (apply so 1; exact size_of tabOk rfl; exact rfl; exact rfl; exact rfl; exact rfl; exact so_le rfl; exact so_one rfl) | (apply sw 2; exact size_of tabOk rfl; exact rfl; exact rfl; exact rfl; exact rfl; exact rfl; exact rfl; exact rfl) | (apply so 2; exact size_of tabOk rfl; exact rfl; exact rfl; exact rfl; exact rfl; exact so_le rfl; exact so_one rfl) | (apply sw 3; exact size_of tabOk rfl; exact rfl; exact rfl; exact rfl; exact rfl; exact rfl; exact rfl; exact rfl) | (apply so 3; exact size_of tabOk rfl; exact rfl; exact rfl; exact rfl; exact rfl; exact so_le rfl; exact so_one rfl) | (apply rr1; exact rfl; exact rfl) | (apply rr2; exact rfl; exact rfl; exact rfl) | (apply rr3; exact rfl; exact rfl; exact rfl; exact rfl)) | (first | (apply o1; exact rfl; apply p_ls; exact rfl; kernel_rfl) | (apply d1; exact rfl; exact rfl; apply p_ls; exact rfl; kernel_rfl)) | (first | (apply o3; exact rfl; apply cv_w; kernel_rfl; exact rfl; exact Check out ua uc; exact fun w' hst => hat _ _ _ _ (fun x hx => by simp [hx]) hst) | (apply d3; exact rfl; apply cv_w; kernel_rfl; exact rfl; exact Check out ua uc; exact fun w' hst => hat _ _ _ _ (fun x hx => by simp [hx]) hst)) | (first | (apply o1; exact rfl; apply p_nn; exact rfl; exact errOf_nil _; kernel_rfl) | (apply d1; exact rfl; exact rfl; apply p_nn; exact rfl; exact errOf_nil _; kernel_rfl)))
        · rename_i h
          have h' : 8 < out.length := by omega
          refine rcc2 (i1 := 3) (i2 := 2) (Or.inr ⟨m, 0, rfl, rfl, rfl⟩) rfl rfl rfl rfl (shape_of tabOk rfl) (shape_of tabOk rfl) rfl rfl (fun w hst => ⟨_, [], rfl, hst.sub (List.nil_sublist _), ?_⟩)
          exact parsePost_err (parseE_many hne hL h') (by decide)
        · rename_i h8 h
          have hc : (chk out).1 ≠ 0 := by simpa using h
          refine rcc2 (i1 := 3) (i2 := 2) (Or.inr ⟨m, 0, rfl, rfl, rfl⟩) rfl rfl rfl rfl (shape_of tabOk rfl) (shape_of tabOk rfl) rfl rfl (fun w hst => ⟨_, [], rfl, hst.sub (List.nil_sublist _), ?_⟩)
          exact parsePost_err (parseE_bad hne hL (by omega) hc) (by decide)
        · rename_i h8 h
          have hc : (chk out).1 = 0 := by simpa using h
          refine rcc2 (i1 := 3) (i2 := 2) (Or.inr ⟨m, 0, rfl, rfl, rfl⟩) rfl rfl rfl rfl (shape_of tabOk rfl) (shape_of tabOk rfl) rfl rfl (fun w hst => ⟨_, obs, rfl, hst.sub ?_, ?_⟩)
          · exact List.sublist_append_right (l₁ := [_, _, _, _]) _
          · exact parsePost_ok (parseE_ok hne hL (by omega) hc) ho
      · refine run_weak (fun _ _ h => h) (List.Sublist.cons_cons _ hsub) ?_
        simp only [Option.map_some, Option.toList_some, List.cons_append, List.nil_append]
        unfold box22 box24
        refine rcc2 (i1 := 3) (i2 := 2) (Or.inr ⟨m, 0, rfl, rfl, rfl⟩) rfl rfl rfl rfl (shape_of tabOk rfl) (shape_of tabOk rfl) rfl rfl (fun w hst => ⟨_, [], rfl, hst.sub (List.nil_sublist _), ?_⟩)
        exact parsePost_err (parseE_none hne hL) (by decide)
end Go.Fl
