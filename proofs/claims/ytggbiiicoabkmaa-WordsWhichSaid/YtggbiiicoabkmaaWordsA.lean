/-
  The functions that 'WordsWhich' comes to: what each answers, for every text. No condition.
-/
import Derived.Test.YtggbiiicoabkmaaRet
import Derived.Test.YtggbiiicoabkmaaProg
namespace Go.Fl
open Go.Proofs
set_option maxRecDepth 10000
def letterI (r : Int) : Bool := decide (97 ≤ r) && decide (r ≤ 122)
def digitI (r : Int) : Bool := decide (48 ≤ r) && decide (r ≤ 57)
def ci (c : UInt8) : Int := (c.toNat : Int)
def goodB (others : List UInt8) (c : UInt8) : Bool := letterI (ci c) || digitI (ci c) || others.any fun o => decide (ci o = ci c)
def madeL (l others : List UInt8) : Bool := decide (l.length ≤ 40) && l.all (goodB others)
def sufB (l m : List UInt8) : Bool := decide (m.length ≤ l.length) && decide (l.drop (l.length - m.length) = m)
def begunL (l : List UInt8) : Bool := match l with | [] => false | c :: _ => letterI (ci c)

theorem letter_high {r : Int} (h : 128 ≤ r) : letterI r = false := by
  unfold letterI; rw [Bool.and_eq_false_iff]; right; exact decide_eq_false (by omega)
theorem digit_high {r : Int} (h : 128 ≤ r) : digitI r = false := by
  unfold digitI; rw [Bool.and_eq_false_iff]; right; exact decide_eq_false (by omega)
theorem letter (r : Int) : RetIf Try.prog 15 [.int .i32 r] (fun _ => True) (.bool (letterI r)) := by
  refine ret_start1 Try.func15 rfl rfl rfl (fun w _ => ?_)
  repeat' (first | (apply pu; exact rfl; exact rfl; exact rfl) | apply nl | apply sq | apply rg | (apply gy; exact rfl; exact rfl) | (apply gn; exact rfl; exact rfl; exact rfl; exact rfl) | (apply gs; exact rfl; exact rfl; all_goals intro _) | (apply gb; exact rfl; exact rfl; all_goals intro _) | (apply it; exact rfl) | (apply fi; exact rfl) | (apply cd; exact rfl; all_goals intro _) | (apply cb; exact rfl; all_goals intro _) | apply bl | (apply xt; exact rfl) | apply sk | apply ib | (apply ls; exact rfl; exact rfl; kernel_rfl) | (apply ll; exact rfl; exact rfl; kernel_rfl) | (apply ic; exact rfl; exact rfl; omega) | (apply s1; exact rfl; exact rfl; omega; omega) | (apply sb; exact rfl; exact rfl; exact rfl; omega; omega) | (apply ad; exact rfl; exact rfl; exact rfl; omega) | (apply be; exact rfl; exact rfl; exact rfl; kernel_rfl) | (apply bn; exact rfl; exact rfl; exact rfl; kernel_rfl) | (apply cv; exact rfl; exact rfl; kernel_rfl; kernel_rfl) | (apply bk; exact rfl; exact rfl; omega; omega; kernel_rfl) | (apply by_; exact rfl; exact rfl; exact rfl; omega; kernel_rfl) | (apply rr1; exact rfl; exact rfl) | (apply rr2; exact rfl; exact rfl; exact rfl) | (apply rr3; exact rfl; exact rfl; exact rfl; exact rfl))
  all_goals simp_all [letterI]
  omega
theorem digit (r : Int) : RetIf Try.prog 16 [.int .i32 r] (fun _ => True) (.bool (digitI r)) := by
  refine ret_start1 Try.func16 rfl rfl rfl (fun w _ => ?_)
  repeat' (first | (apply pu; exact rfl; exact rfl; exact rfl) | apply nl | apply sq | apply rg | (apply gy; exact rfl; exact rfl) | (apply gn; exact rfl; exact rfl; exact rfl; exact rfl) | (apply gs; exact rfl; exact rfl; all_goals intro _) | (apply gb; exact rfl; exact rfl; all_goals intro _) | (apply it; exact rfl) | (apply fi; exact rfl) | (apply cd; exact rfl; all_goals intro _) | (apply cb; exact rfl; all_goals intro _) | apply bl | (apply xt; exact rfl) | apply sk | apply ib | (apply ls; exact rfl; exact rfl; kernel_rfl) | (apply ll; exact rfl; exact rfl; kernel_rfl) | (apply ic; exact rfl; exact rfl; omega) | (apply s1; exact rfl; exact rfl; omega; omega) | (apply sb; exact rfl; exact rfl; exact rfl; omega; omega) | (apply ad; exact rfl; exact rfl; exact rfl; omega) | (apply be; exact rfl; exact rfl; exact rfl; kernel_rfl) | (apply bn; exact rfl; exact rfl; exact rfl; kernel_rfl) | (apply cv; exact rfl; exact rfl; kernel_rfl; kernel_rfl) | (apply bk; exact rfl; exact rfl; omega; omega; kernel_rfl) | (apply by_; exact rfl; exact rfl; exact rfl; omega; kernel_rfl) | (apply rr1; exact rfl; exact rfl) | (apply rr2; exact rfl; exact rfl; exact rfl) | (apply rr3; exact rfl; exact rfl; exact rfl; exact rfl))
  all_goals simp_all [digitI]
  omega

theorem hasRune (s : ByteArray) (r : Int) (hs : ∀ c ∈ tl s, c.toNat < 128) (hsz : s.size ≤ 1000) :
    RetIf Try.prog 17 [.string s, .int .i32 r] (fun _ => True) (.bool ((tl s).any fun o => decide (ci o = r))) := by
  refine ret_start2 Try.func17 rfl rfl rfl (fun w _ => ?_)
  repeat' (first | (first | (apply pu; exact rfl; exact rfl; exact rfl) | apply nl | apply sq | apply rg | (apply gy; exact rfl; exact rfl) | (apply gn; exact rfl; exact rfl; exact rfl; exact rfl) | (apply gs; exact rfl; exact rfl; all_goals intro _) | (apply gb; exact rfl; exact rfl; all_goals intro _) | (apply it; exact rfl) | (apply fi; exact rfl) | (apply cd; exact rfl; all_goals intro _) | (apply cb; exact rfl; all_goals intro _) | apply bl | (apply xt; exact rfl) | apply sk | apply ib | (apply ls; exact rfl; exact rfl; kernel_rfl) | (apply ll; exact rfl; exact rfl; kernel_rfl) | (apply ic; exact rfl; exact rfl; omega) | (apply s1; exact rfl; exact rfl; omega; omega) | (apply sb; exact rfl; exact rfl; exact rfl; omega; omega) | (apply ad; exact rfl; exact rfl; exact rfl; omega) | (apply be; exact rfl; exact rfl; exact rfl; kernel_rfl) | (apply bn; exact rfl; exact rfl; exact rfl; kernel_rfl) | (apply cv; exact rfl; exact rfl; kernel_rfl; kernel_rfl) | (apply bk; exact rfl; exact rfl; omega; omega; kernel_rfl) | (apply by_; exact rfl; exact rfl; exact rfl; omega; kernel_rfl) | (apply rr1; exact rfl; exact rfl) | (apply rr2; exact rfl; exact rfl; exact rfl) | (apply rr3; exact rfl; exact rfl; exact rfl; exact rfl)) | (apply rs; exact rfl; exact rfl; kernel_rfl; intro b))
  refine weak (e' := [(0, .string s), (1, .int .i32 r), (8, .pointer (some ⟨b, 0, none⟩))]) (hs' := [(b, .stringIter s 0)]) ⟨rfl, rfl, rfl, trivial⟩ (List.Sublist.refl _) ?_
  refine rounds (fun p => p ≤ s.size ∧ ((tl s).drop p).any (fun o => decide (ci o = r)) = (tl s).any (fun o => decide (ci o = r))) (fun p => s.size - p)
    (fun p => [(0, .string s), (1, .int .i32 r), (8, .pointer (some ⟨b, 0, none⟩))]) (fun p => [(b, .stringIter s p)]) (fun p hI ih => ?_) 0 ⟨Nat.zero_le _, rfl⟩
  obtain ⟨hp, hI⟩ := hI
  by_cases hlt : p < s.size
  · obtain ⟨c, hc0⟩ : ∃ c, (tl s).getD p 0 = c := ⟨_, rfl⟩
    have hc : ((tl s).getD p 0).toNat < 128 := hs _ (by rw [List.getD_eq_getElem?_getD, List.getElem?_eq_getElem (by rw [← size_tl]; exact hlt)]; exact List.getElem_mem _)
    have hdec := dec_low s p hlt hc
    rw [drop_tl s p hlt, List.any_cons] at hI
    rw [hc0] at hI hdec
    repeat' (first | (first | (apply pu; exact rfl; exact rfl; exact rfl) | apply nl | apply sq | apply rg | (apply gy; exact rfl; exact rfl) | (apply gn; exact rfl; exact rfl; exact rfl; exact rfl) | (apply gs; exact rfl; exact rfl; all_goals intro _) | (apply gb; exact rfl; exact rfl; all_goals intro _) | (apply it; exact rfl) | (apply fi; exact rfl) | (apply cd; exact rfl; all_goals intro _) | (apply cb; exact rfl; all_goals intro _) | apply bl | (apply xt; exact rfl) | apply sk | apply ib | (apply ls; exact rfl; exact rfl; kernel_rfl) | (apply ll; exact rfl; exact rfl; kernel_rfl) | (apply ic; exact rfl; exact rfl; omega) | (apply s1; exact rfl; exact rfl; omega; omega) | (apply sb; exact rfl; exact rfl; exact rfl; omega; omega) | (apply ad; exact rfl; exact rfl; exact rfl; omega) | (apply be; exact rfl; exact rfl; exact rfl; kernel_rfl) | (apply bn; exact rfl; exact rfl; exact rfl; kernel_rfl) | (apply cv; exact rfl; exact rfl; kernel_rfl; kernel_rfl) | (apply bk; exact rfl; exact rfl; omega; omega; kernel_rfl) | (apply by_; exact rfl; exact rfl; exact rfl; omega; kernel_rfl) | (apply rr1; exact rfl; exact rfl) | (apply rr2; exact rfl; exact rfl; exact rfl) | (apply rr3; exact rfl; exact rfl; exact rfl; exact rfl)) | (apply ns 0 hdec hlt; exact rfl; exact rfl; exact rfl))
    · rename_i h
      rw [← hI]; simp [ci, h]
    · rename_i h
      refine weak ?_ (List.Sublist.refl _) (ih (p + 1) ⟨hlt, ?_⟩ (by omega))
      · exact ⟨rfl, rfl, rfl, trivial⟩
      · rw [← hI]; simp [ci, h]
  · have hz : (tl s).drop p = [] := by rw [List.drop_eq_nil_iff, ← size_tl]; omega
    repeat' (first | (first | (apply pu; exact rfl; exact rfl; exact rfl) | apply nl | apply sq | apply rg | (apply gy; exact rfl; exact rfl) | (apply gn; exact rfl; exact rfl; exact rfl; exact rfl) | (apply gs; exact rfl; exact rfl; all_goals intro _) | (apply gb; exact rfl; exact rfl; all_goals intro _) | (apply it; exact rfl) | (apply fi; exact rfl) | (apply cd; exact rfl; all_goals intro _) | (apply cb; exact rfl; all_goals intro _) | apply bl | (apply xt; exact rfl) | apply sk | apply ib | (apply ls; exact rfl; exact rfl; kernel_rfl) | (apply ll; exact rfl; exact rfl; kernel_rfl) | (apply ic; exact rfl; exact rfl; omega) | (apply s1; exact rfl; exact rfl; omega; omega) | (apply sb; exact rfl; exact rfl; exact rfl; omega; omega) | (apply ad; exact rfl; exact rfl; exact rfl; omega) | (apply be; exact rfl; exact rfl; exact rfl; kernel_rfl) | (apply bn; exact rfl; exact rfl; exact rfl; kernel_rfl) | (apply cv; exact rfl; exact rfl; kernel_rfl; kernel_rfl) | (apply bk; exact rfl; exact rfl; omega; omega; kernel_rfl) | (apply by_; exact rfl; exact rfl; exact rfl; omega; kernel_rfl) | (apply rr1; exact rfl; exact rfl) | (apply rr2; exact rfl; exact rfl; exact rfl) | (apply rr3; exact rfl; exact rfl; exact rfl; exact rfl)) | (apply ne 0; exact rfl; exact rfl; exact rfl; omega))
    rw [← hI, hz]; rfl

theorem made (s o : ByteArray) (hs : ∀ c ∈ tl o, c.toNat < 128) (hsz : o.size ≤ 1000) :
    RetIf Try.prog 11 [.string s, .string o] (fun _ => True) (.bool (madeL (tl s) (tl o))) := by
  refine ret_start2 Try.func11 rfl rfl rfl (fun w _ => ?_)
  repeat' (first | (first | (apply pu; exact rfl; exact rfl; exact rfl) | apply nl | apply sq | apply rg | (apply gy; exact rfl; exact rfl) | (apply gn; exact rfl; exact rfl; exact rfl; exact rfl) | (apply gs; exact rfl; exact rfl; all_goals intro _) | (apply gb; exact rfl; exact rfl; all_goals intro _) | (apply it; exact rfl) | (apply fi; exact rfl) | (apply cd; exact rfl; all_goals intro _) | (apply cb; exact rfl; all_goals intro _) | apply bl | (apply xt; exact rfl) | apply sk | apply ib | (apply ls; exact rfl; exact rfl; kernel_rfl) | (apply ll; exact rfl; exact rfl; kernel_rfl) | (apply ic; exact rfl; exact rfl; omega) | (apply s1; exact rfl; exact rfl; omega; omega) | (apply sb; exact rfl; exact rfl; exact rfl; omega; omega) | (apply ad; exact rfl; exact rfl; exact rfl; omega) | (apply be; exact rfl; exact rfl; exact rfl; kernel_rfl) | (apply bn; exact rfl; exact rfl; exact rfl; kernel_rfl) | (apply cv; exact rfl; exact rfl; kernel_rfl; kernel_rfl) | (apply bk; exact rfl; exact rfl; omega; omega; kernel_rfl) | (apply by_; exact rfl; exact rfl; exact rfl; omega; kernel_rfl) | (apply rr1; exact rfl; exact rfl) | (apply rr2; exact rfl; exact rfl; exact rfl) | (apply rr3; exact rfl; exact rfl; exact rfl; exact rfl)) | (apply rs; exact rfl; exact rfl; kernel_rfl; intro b))
  · rename_i h
    have : ¬ (tl s).length ≤ 40 := by rw [← size_tl]; omega
    simp [madeL, this]
  rename_i hn
  have h40 : (tl s).length ≤ 40 := by rw [← size_tl]; omega
  have hmd : madeL (tl s) (tl o) = (tl s).all (goodB (tl o)) := by simp [madeL, h40]
  refine weak (e' := [(0, .string s), (1, .string o), (11, .pointer (some ⟨b, 0, none⟩))]) (hs' := [(b, .stringIter s 0)]) ⟨rfl, rfl, rfl, trivial⟩ (List.Sublist.refl _) ?_
  refine rounds (fun p => p ≤ s.size ∧ ((tl s).drop p).all (goodB (tl o)) = (tl s).all (goodB (tl o))) (fun p => s.size - p)
    (fun p => [(0, .string s), (1, .string o), (11, .pointer (some ⟨b, 0, none⟩))]) (fun p => [(b, .stringIter s p)]) (fun p hI ih => ?_) 0 ⟨Nat.zero_le _, rfl⟩
  obtain ⟨hp, hI⟩ := hI
  by_cases hlt : p < s.size
  · obtain ⟨c, hc0⟩ : ∃ c, (tl s).getD p 0 = c := ⟨_, rfl⟩
    rw [drop_tl s p hlt, List.all_cons, hc0] at hI
    by_cases hc : c.toNat < 128
    · have hdec := dec_low s p hlt (by rw [hc0]; exact hc)
      rw [hc0] at hdec
      have hg : goodB (tl o) c = (letterI (c.toNat : Int) || digitI (c.toNat : Int) || (tl o).any fun x => decide (ci x = (c.toNat : Int))) := rfl
      rw [hg] at hI
      repeat' (first | (first | (apply pu; exact rfl; exact rfl; exact rfl) | apply nl | apply sq | apply rg | (apply gy; exact rfl; exact rfl) | (apply gn; exact rfl; exact rfl; exact rfl; exact rfl) | (apply gs; exact rfl; exact rfl; all_goals intro _) | (apply gb; exact rfl; exact rfl; all_goals intro _) | (apply it; exact rfl) | (apply fi; exact rfl) | (apply cd; exact rfl; all_goals intro _) | (apply cb; exact rfl; all_goals intro _) | apply bl | (apply xt; exact rfl) | apply sk | apply ib | (apply ls; exact rfl; exact rfl; kernel_rfl) | (apply ll; exact rfl; exact rfl; kernel_rfl) | (apply ic; exact rfl; exact rfl; omega) | (apply s1; exact rfl; exact rfl; omega; omega) | (apply sb; exact rfl; exact rfl; exact rfl; omega; omega) | (apply ad; exact rfl; exact rfl; exact rfl; omega) | (apply be; exact rfl; exact rfl; exact rfl; kernel_rfl) | (apply bn; exact rfl; exact rfl; exact rfl; kernel_rfl) | (apply cv; exact rfl; exact rfl; kernel_rfl; kernel_rfl) | (apply bk; exact rfl; exact rfl; omega; omega; kernel_rfl) | (apply by_; exact rfl; exact rfl; exact rfl; omega; kernel_rfl) | (apply rr1; exact rfl; exact rfl) | (apply rr2; exact rfl; exact rfl; exact rfl) | (apply rr3; exact rfl; exact rfl; exact rfl; exact rfl)) | (apply ns 0 hdec hlt; exact rfl; exact rfl; exact rfl) | (apply cr; exact rfl; kernel_rfl; exact rfl; exact letter _) | (apply cr; exact rfl; kernel_rfl; exact rfl; exact digit _) | (apply cr; exact rfl; kernel_rfl; exact rfl; exact hasRune _ _ hs hsz))
      all_goals first
        | (refine weak ?_ (List.Sublist.refl _) (ih (p + 1) ⟨hlt, ?_⟩ (by omega)); exact ⟨rfl, rfl, rfl, trivial⟩; (rw [← hI]; simp_all; done))
        | (rw [hmd, ← hI]; simp_all; done)
       
    · obtain ⟨r, wd, hdec, hr, hw, _⟩ := dec_high s p hlt (by rw [hc0]; omega)
      have hl : letterI (r : Int) = false := letter_high (by omega)
      have hdg : digitI (r : Int) = false := digit_high (by omega)
      have hl' : letterI (ci c) = false := letter_high (by unfold ci; omega)
      have hdg' : digitI (ci c) = false := digit_high (by unfold ci; omega)
      have ho : ((tl o).any fun x => decide (ci x = (r : Int))) = false := by
        rw [List.any_eq_false]; intro x hx; have := hs x hx; rw [decide_eq_true_eq]; unfold ci; omega
      have ho' : ((tl o).any fun x => decide (ci x = ci c)) = false := by
        rw [List.any_eq_false]; intro x hx; have := hs x hx; rw [decide_eq_true_eq]; unfold ci; omega
      have hg : goodB (tl o) c = false := by simp [goodB, hl', hdg', ho']
      rw [hg, Bool.false_and] at hI
      repeat' (first | (first | (apply pu; exact rfl; exact rfl; exact rfl) | apply nl | apply sq | apply rg | (apply gy; exact rfl; exact rfl) | (apply gn; exact rfl; exact rfl; exact rfl; exact rfl) | (apply gs; exact rfl; exact rfl; all_goals intro _) | (apply gb; exact rfl; exact rfl; all_goals intro _) | (apply it; exact rfl) | (apply fi; exact rfl) | (apply cd; exact rfl; all_goals intro _) | (apply cb; exact rfl; all_goals intro _) | apply bl | (apply xt; exact rfl) | apply sk | apply ib | (apply ls; exact rfl; exact rfl; kernel_rfl) | (apply ll; exact rfl; exact rfl; kernel_rfl) | (apply ic; exact rfl; exact rfl; omega) | (apply s1; exact rfl; exact rfl; omega; omega) | (apply sb; exact rfl; exact rfl; exact rfl; omega; omega) | (apply ad; exact rfl; exact rfl; exact rfl; omega) | (apply be; exact rfl; exact rfl; exact rfl; kernel_rfl) | (apply bn; exact rfl; exact rfl; exact rfl; kernel_rfl) | (apply cv; exact rfl; exact rfl; kernel_rfl; kernel_rfl) | (apply bk; exact rfl; exact rfl; omega; omega; kernel_rfl) | (apply by_; exact rfl; exact rfl; exact rfl; omega; kernel_rfl) | (apply rr1; exact rfl; exact rfl) | (apply rr2; exact rfl; exact rfl; exact rfl) | (apply rr3; exact rfl; exact rfl; exact rfl; exact rfl)) | (apply ns 0 hdec hlt; exact rfl; exact rfl; exact rfl) | (apply cr; exact rfl; kernel_rfl; exact rfl; exact letter _) | (apply cr; exact rfl; kernel_rfl; exact rfl; exact digit _) | (apply cr; exact rfl; kernel_rfl; exact rfl; exact hasRune _ _ hs hsz))
      all_goals first
        | (rw [hmd, ← hI]; done)
        | (rename_i h; simp [hl, hdg, ho] at h; done)
       
  · have hz : (tl s).drop p = [] := by rw [List.drop_eq_nil_iff, ← size_tl]; omega
    repeat' (first | (first | (apply pu; exact rfl; exact rfl; exact rfl) | apply nl | apply sq | apply rg | (apply gy; exact rfl; exact rfl) | (apply gn; exact rfl; exact rfl; exact rfl; exact rfl) | (apply gs; exact rfl; exact rfl; all_goals intro _) | (apply gb; exact rfl; exact rfl; all_goals intro _) | (apply it; exact rfl) | (apply fi; exact rfl) | (apply cd; exact rfl; all_goals intro _) | (apply cb; exact rfl; all_goals intro _) | apply bl | (apply xt; exact rfl) | apply sk | apply ib | (apply ls; exact rfl; exact rfl; kernel_rfl) | (apply ll; exact rfl; exact rfl; kernel_rfl) | (apply ic; exact rfl; exact rfl; omega) | (apply s1; exact rfl; exact rfl; omega; omega) | (apply sb; exact rfl; exact rfl; exact rfl; omega; omega) | (apply ad; exact rfl; exact rfl; exact rfl; omega) | (apply be; exact rfl; exact rfl; exact rfl; kernel_rfl) | (apply bn; exact rfl; exact rfl; exact rfl; kernel_rfl) | (apply cv; exact rfl; exact rfl; kernel_rfl; kernel_rfl) | (apply bk; exact rfl; exact rfl; omega; omega; kernel_rfl) | (apply by_; exact rfl; exact rfl; exact rfl; omega; kernel_rfl) | (apply rr1; exact rfl; exact rfl) | (apply rr2; exact rfl; exact rfl; exact rfl) | (apply rr3; exact rfl; exact rfl; exact rfl; exact rfl)) | (apply ne 0; exact rfl; exact rfl; exact rfl; omega))
    rw [hmd, ← hI, hz]; rfl

theorem begun (s : ByteArray) : RetIf Try.prog 10 [.string s] (fun _ => True) (.bool (begunL (tl s))) := by
  refine ret_start1 Try.func10 rfl rfl rfl (fun w _ => ?_)
  cases hl : tl s with
  | nil =>
    repeat' (first | (apply pu; exact rfl; exact rfl; exact rfl) | apply nl | apply sq | apply rg | (apply gy; exact rfl; exact rfl) | (apply gn; exact rfl; exact rfl; exact rfl; exact rfl) | (apply gs; exact rfl; exact rfl; all_goals intro _) | (apply gb; exact rfl; exact rfl; all_goals intro _) | (apply it; exact rfl) | (apply fi; exact rfl) | (apply cd; exact rfl; all_goals intro _) | (apply cb; exact rfl; all_goals intro _) | apply bl | (apply xt; exact rfl) | apply sk | apply ib | (apply ls; exact rfl; exact rfl; kernel_rfl) | (apply ll; exact rfl; exact rfl; kernel_rfl) | (apply ic; exact rfl; exact rfl; omega) | (apply s1; exact rfl; exact rfl; omega; omega) | (apply sb; exact rfl; exact rfl; exact rfl; omega; omega) | (apply ad; exact rfl; exact rfl; exact rfl; omega) | (apply be; exact rfl; exact rfl; exact rfl; kernel_rfl) | (apply bn; exact rfl; exact rfl; exact rfl; kernel_rfl) | (apply cv; exact rfl; exact rfl; kernel_rfl; kernel_rfl) | (apply bk; exact rfl; exact rfl; omega; omega; kernel_rfl) | (apply by_; exact rfl; exact rfl; exact rfl; omega; kernel_rfl) | (apply rr1; exact rfl; exact rfl) | (apply rr2; exact rfl; exact rfl; exact rfl) | (apply rr3; exact rfl; exact rfl; exact rfl; exact rfl))
    all_goals first | rfl | (simp_all [tl_mk]; done)
  | cons c l =>
    have h0 : 0 < s.size := by rw [size_tl, hl]; simp
    repeat' (first | (first | (apply pu; exact rfl; exact rfl; exact rfl) | apply nl | apply sq | apply rg | (apply gy; exact rfl; exact rfl) | (apply gn; exact rfl; exact rfl; exact rfl; exact rfl) | (apply gs; exact rfl; exact rfl; all_goals intro _) | (apply gb; exact rfl; exact rfl; all_goals intro _) | (apply it; exact rfl) | (apply fi; exact rfl) | (apply cd; exact rfl; all_goals intro _) | (apply cb; exact rfl; all_goals intro _) | apply bl | (apply xt; exact rfl) | apply sk | apply ib | (apply ls; exact rfl; exact rfl; kernel_rfl) | (apply ll; exact rfl; exact rfl; kernel_rfl) | (apply ic; exact rfl; exact rfl; omega) | (apply s1; exact rfl; exact rfl; omega; omega) | (apply sb; exact rfl; exact rfl; exact rfl; omega; omega) | (apply ad; exact rfl; exact rfl; exact rfl; omega) | (apply be; exact rfl; exact rfl; exact rfl; kernel_rfl) | (apply bn; exact rfl; exact rfl; exact rfl; kernel_rfl) | (apply cv; exact rfl; exact rfl; kernel_rfl; kernel_rfl) | (apply bk; exact rfl; exact rfl; omega; omega; kernel_rfl) | (apply by_; exact rfl; exact rfl; exact rfl; omega; kernel_rfl) | (apply rr1; exact rfl; exact rfl) | (apply rr2; exact rfl; exact rfl; exact rfl) | (apply rr3; exact rfl; exact rfl; exact rfl; exact rfl)) | (apply cr; exact rfl; kernel_rfl; exact rfl; exact letter _))
    all_goals first | rfl | (rw [wrap32_byte, hl]; rfl) | (simp_all [tl_mk]; done)

theorem hasSuffix0 (s m : ByteArray) (hs : s.size ≤ 1099511627776) (hm : m.size ≤ 1099511627776) :
    RetIf Try.prog 18 [.string s, .string m] (fun _ => True) (.bool (sufB (tl s) (tl m))) := by
  refine ret_start2 Try.func18 rfl rfl rfl (fun w _ => ?_)
  repeat' (first | (first | (apply pu; exact rfl; exact rfl; exact rfl) | apply nl | apply sq | apply rg | (apply gy; exact rfl; exact rfl) | (apply gn; exact rfl; exact rfl; exact rfl; exact rfl) | (apply gs; exact rfl; exact rfl; all_goals intro _) | (apply gb; exact rfl; exact rfl; all_goals intro _) | (apply it; exact rfl) | (apply fi; exact rfl) | (apply cd; exact rfl; all_goals intro _) | (apply cb; exact rfl; all_goals intro _) | apply bl | (apply xt; exact rfl) | apply sk | apply ib | (apply ls; exact rfl; exact rfl; kernel_rfl) | (apply ll; exact rfl; exact rfl; kernel_rfl) | (apply ic; exact rfl; exact rfl; omega) | (apply s1; exact rfl; exact rfl; omega; omega) | (apply sb; exact rfl; exact rfl; exact rfl; omega; omega) | (apply ad; exact rfl; exact rfl; exact rfl; omega) | (apply be; exact rfl; exact rfl; exact rfl; kernel_rfl) | (apply bn; exact rfl; exact rfl; exact rfl; kernel_rfl) | (apply cv; exact rfl; exact rfl; kernel_rfl; kernel_rfl) | (apply bk; exact rfl; exact rfl; omega; omega; kernel_rfl) | (apply by_; exact rfl; exact rfl; exact rfl; omega; kernel_rfl) | (apply rr1; exact rfl; exact rfl) | (apply rr2; exact rfl; exact rfl; exact rfl) | (apply rr3; exact rfl; exact rfl; exact rfl; exact rfl)) | (apply ss; exact rfl; exact rfl; kernel_rfl; exact ⟨_, rfl⟩; exact rfl; omega; omega))
  all_goals rename_i h; rw [size_tl, size_tl] at h
  · have h' : (tl m).length ≤ (tl s).length := by omega
    rw [tl_from, size_tl, size_tl]; simp [sufB, h']
  · have h' : ¬ (tl m).length ≤ (tl s).length := by omega
    simp [sufB, h']
theorem hasSuffix (s m : ByteArray) (hs : s.size ≤ 1099511627776) (hm : m.size ≤ 1099511627776) :
    RetIf Try.prog 12 [.string s, .string m] (fun _ => True) (.bool (sufB (tl s) (tl m))) := by
  refine ret_start2 Try.func12 rfl rfl rfl (fun w _ => ?_)
  repeat' (first | (first | (apply pu; exact rfl; exact rfl; exact rfl) | apply nl | apply sq | apply rg | (apply gy; exact rfl; exact rfl) | (apply gn; exact rfl; exact rfl; exact rfl; exact rfl) | (apply gs; exact rfl; exact rfl; all_goals intro _) | (apply gb; exact rfl; exact rfl; all_goals intro _) | (apply it; exact rfl) | (apply fi; exact rfl) | (apply cd; exact rfl; all_goals intro _) | (apply cb; exact rfl; all_goals intro _) | apply bl | (apply xt; exact rfl) | apply sk | apply ib | (apply ls; exact rfl; exact rfl; kernel_rfl) | (apply ll; exact rfl; exact rfl; kernel_rfl) | (apply ic; exact rfl; exact rfl; omega) | (apply s1; exact rfl; exact rfl; omega; omega) | (apply sb; exact rfl; exact rfl; exact rfl; omega; omega) | (apply ad; exact rfl; exact rfl; exact rfl; omega) | (apply be; exact rfl; exact rfl; exact rfl; kernel_rfl) | (apply bn; exact rfl; exact rfl; exact rfl; kernel_rfl) | (apply cv; exact rfl; exact rfl; kernel_rfl; kernel_rfl) | (apply bk; exact rfl; exact rfl; omega; omega; kernel_rfl) | (apply by_; exact rfl; exact rfl; exact rfl; omega; kernel_rfl) | (apply rr1; exact rfl; exact rfl) | (apply rr2; exact rfl; exact rfl; exact rfl) | (apply rr3; exact rfl; exact rfl; exact rfl; exact rfl)) | (apply cr; exact rfl; kernel_rfl; exact rfl; exact hasSuffix0 _ _ hs hm))
  rfl

def nameL (l : List UInt8) : Bool := begunL l && madeL l [45] && !sufB l [45]
def keyL (l : List UInt8) : Bool := begunL l && madeL l [46, 45, 47]
def valueL (l : List UInt8) : Bool := madeL l [45, 95, 46]

theorem made1 (s : ByteArray) : RetIf Try.prog 11 [.string s, .string ⟨#[45]⟩] (fun _ => True) (.bool (madeL (tl s) [45])) :=
  made s ⟨#[45]⟩ (by decide) (by decide)
theorem made2 (s : ByteArray) : RetIf Try.prog 11 [.string s, .string ⟨#[46, 45, 47]⟩] (fun _ => True) (.bool (madeL (tl s) [46, 45, 47])) :=
  made s ⟨#[46, 45, 47]⟩ (by decide) (by decide)
theorem made3 (s : ByteArray) : RetIf Try.prog 11 [.string s, .string ⟨#[45, 95, 46]⟩] (fun _ => True) (.bool (madeL (tl s) [45, 95, 46])) :=
  made s ⟨#[45, 95, 46]⟩ (by decide) (by decide)
theorem suf1 (s : ByteArray) (hs : s.size ≤ 1099511627776) : RetIf Try.prog 12 [.string s, .string ⟨#[45]⟩] (fun _ => True) (.bool (sufB (tl s) [45])) :=
  hasSuffix s ⟨#[45]⟩ hs (by decide)

theorem Name (s : ByteArray) (hs : s.size ≤ 1099511627776) : RetIf Try.prog 4 [.string s] (fun _ => True) (.bool (nameL (tl s))) := by
  refine ret_start1 Try.func4 rfl rfl rfl (fun w _ => ?_)
  repeat' (first | (first | (apply pu; exact rfl; exact rfl; exact rfl) | apply nl | apply sq | apply rg | (apply gy; exact rfl; exact rfl) | (apply gn; exact rfl; exact rfl; exact rfl; exact rfl) | (apply gs; exact rfl; exact rfl; all_goals intro _) | (apply gb; exact rfl; exact rfl; all_goals intro _) | (apply it; exact rfl) | (apply fi; exact rfl) | (apply cd; exact rfl; all_goals intro _) | (apply cb; exact rfl; all_goals intro _) | apply bl | (apply xt; exact rfl) | apply sk | apply ib | (apply ls; exact rfl; exact rfl; kernel_rfl) | (apply ll; exact rfl; exact rfl; kernel_rfl) | (apply ic; exact rfl; exact rfl; omega) | (apply s1; exact rfl; exact rfl; omega; omega) | (apply sb; exact rfl; exact rfl; exact rfl; omega; omega) | (apply ad; exact rfl; exact rfl; exact rfl; omega) | (apply be; exact rfl; exact rfl; exact rfl; kernel_rfl) | (apply bn; exact rfl; exact rfl; exact rfl; kernel_rfl) | (apply cv; exact rfl; exact rfl; kernel_rfl; kernel_rfl) | (apply bk; exact rfl; exact rfl; omega; omega; kernel_rfl) | (apply by_; exact rfl; exact rfl; exact rfl; omega; kernel_rfl) | (apply rr1; exact rfl; exact rfl) | (apply rr2; exact rfl; exact rfl; exact rfl) | (apply rr3; exact rfl; exact rfl; exact rfl; exact rfl)) | (apply cr; exact rfl; kernel_rfl; exact rfl; exact begun _) | (apply cr; exact rfl; kernel_rfl; exact rfl; exact made1 _) | (apply cr; exact rfl; kernel_rfl; exact rfl; exact suf1 _ hs))
  all_goals simp_all [nameL]
theorem Key (s : ByteArray) : RetIf Try.prog 6 [.string s] (fun _ => True) (.bool (keyL (tl s))) := by
  refine ret_start1 Try.func6 rfl rfl rfl (fun w _ => ?_)
  repeat' (first | (first | (apply pu; exact rfl; exact rfl; exact rfl) | apply nl | apply sq | apply rg | (apply gy; exact rfl; exact rfl) | (apply gn; exact rfl; exact rfl; exact rfl; exact rfl) | (apply gs; exact rfl; exact rfl; all_goals intro _) | (apply gb; exact rfl; exact rfl; all_goals intro _) | (apply it; exact rfl) | (apply fi; exact rfl) | (apply cd; exact rfl; all_goals intro _) | (apply cb; exact rfl; all_goals intro _) | apply bl | (apply xt; exact rfl) | apply sk | apply ib | (apply ls; exact rfl; exact rfl; kernel_rfl) | (apply ll; exact rfl; exact rfl; kernel_rfl) | (apply ic; exact rfl; exact rfl; omega) | (apply s1; exact rfl; exact rfl; omega; omega) | (apply sb; exact rfl; exact rfl; exact rfl; omega; omega) | (apply ad; exact rfl; exact rfl; exact rfl; omega) | (apply be; exact rfl; exact rfl; exact rfl; kernel_rfl) | (apply bn; exact rfl; exact rfl; exact rfl; kernel_rfl) | (apply cv; exact rfl; exact rfl; kernel_rfl; kernel_rfl) | (apply bk; exact rfl; exact rfl; omega; omega; kernel_rfl) | (apply by_; exact rfl; exact rfl; exact rfl; omega; kernel_rfl) | (apply rr1; exact rfl; exact rfl) | (apply rr2; exact rfl; exact rfl; exact rfl) | (apply rr3; exact rfl; exact rfl; exact rfl; exact rfl)) | (apply cr; exact rfl; kernel_rfl; exact rfl; exact begun _) | (apply cr; exact rfl; kernel_rfl; exact rfl; exact made2 _))
  all_goals simp_all [keyL]
theorem Value (s : ByteArray) : RetIf Try.prog 8 [.string s] (fun _ => True) (.bool (valueL (tl s))) := by
  refine ret_start1 Try.func8 rfl rfl rfl (fun w _ => ?_)
  repeat' (first | (first | (apply pu; exact rfl; exact rfl; exact rfl) | apply nl | apply sq | apply rg | (apply gy; exact rfl; exact rfl) | (apply gn; exact rfl; exact rfl; exact rfl; exact rfl) | (apply gs; exact rfl; exact rfl; all_goals intro _) | (apply gb; exact rfl; exact rfl; all_goals intro _) | (apply it; exact rfl) | (apply fi; exact rfl) | (apply cd; exact rfl; all_goals intro _) | (apply cb; exact rfl; all_goals intro _) | apply bl | (apply xt; exact rfl) | apply sk | apply ib | (apply ls; exact rfl; exact rfl; kernel_rfl) | (apply ll; exact rfl; exact rfl; kernel_rfl) | (apply ic; exact rfl; exact rfl; omega) | (apply s1; exact rfl; exact rfl; omega; omega) | (apply sb; exact rfl; exact rfl; exact rfl; omega; omega) | (apply ad; exact rfl; exact rfl; exact rfl; omega) | (apply be; exact rfl; exact rfl; exact rfl; kernel_rfl) | (apply bn; exact rfl; exact rfl; exact rfl; kernel_rfl) | (apply cv; exact rfl; exact rfl; kernel_rfl; kernel_rfl) | (apply bk; exact rfl; exact rfl; omega; omega; kernel_rfl) | (apply by_; exact rfl; exact rfl; exact rfl; omega; kernel_rfl) | (apply rr1; exact rfl; exact rfl) | (apply rr2; exact rfl; exact rfl; exact rfl) | (apply rr3; exact rfl; exact rfl; exact rfl; exact rfl)) | (apply cr; exact rfl; kernel_rfl; exact rfl; exact made3 _))
  all_goals rfl

/-! the reference -/
theorem rletter (r : Int) : RetIf Try.prog 14 [.int .u8 r] (fun _ => True) (.bool (letterI r)) := by
  refine ret_start1 Try.func14 rfl rfl rfl (fun w _ => ?_)
  repeat' (first | (apply pu; exact rfl; exact rfl; exact rfl) | apply nl | apply sq | apply rg | (apply gy; exact rfl; exact rfl) | (apply gn; exact rfl; exact rfl; exact rfl; exact rfl) | (apply gs; exact rfl; exact rfl; all_goals intro _) | (apply gb; exact rfl; exact rfl; all_goals intro _) | (apply it; exact rfl) | (apply fi; exact rfl) | (apply cd; exact rfl; all_goals intro _) | (apply cb; exact rfl; all_goals intro _) | apply bl | (apply xt; exact rfl) | apply sk | apply ib | (apply ls; exact rfl; exact rfl; kernel_rfl) | (apply ll; exact rfl; exact rfl; kernel_rfl) | (apply ic; exact rfl; exact rfl; omega) | (apply s1; exact rfl; exact rfl; omega; omega) | (apply sb; exact rfl; exact rfl; exact rfl; omega; omega) | (apply ad; exact rfl; exact rfl; exact rfl; omega) | (apply be; exact rfl; exact rfl; exact rfl; kernel_rfl) | (apply bn; exact rfl; exact rfl; exact rfl; kernel_rfl) | (apply cv; exact rfl; exact rfl; kernel_rfl; kernel_rfl) | (apply bk; exact rfl; exact rfl; omega; omega; kernel_rfl) | (apply by_; exact rfl; exact rfl; exact rfl; omega; kernel_rfl) | (apply rr1; exact rfl; exact rfl) | (apply rr2; exact rfl; exact rfl; exact rfl) | (apply rr3; exact rfl; exact rfl; exact rfl; exact rfl))
  all_goals simp_all [letterI]
  omega
theorem rdigit (r : Int) : RetIf Try.prog 19 [.int .u8 r] (fun _ => True) (.bool (digitI r)) := by
  refine ret_start1 Try.func19 rfl rfl rfl (fun w _ => ?_)
  repeat' (first | (apply pu; exact rfl; exact rfl; exact rfl) | apply nl | apply sq | apply rg | (apply gy; exact rfl; exact rfl) | (apply gn; exact rfl; exact rfl; exact rfl; exact rfl) | (apply gs; exact rfl; exact rfl; all_goals intro _) | (apply gb; exact rfl; exact rfl; all_goals intro _) | (apply it; exact rfl) | (apply fi; exact rfl) | (apply cd; exact rfl; all_goals intro _) | (apply cb; exact rfl; all_goals intro _) | apply bl | (apply xt; exact rfl) | apply sk | apply ib | (apply ls; exact rfl; exact rfl; kernel_rfl) | (apply ll; exact rfl; exact rfl; kernel_rfl) | (apply ic; exact rfl; exact rfl; omega) | (apply s1; exact rfl; exact rfl; omega; omega) | (apply sb; exact rfl; exact rfl; exact rfl; omega; omega) | (apply ad; exact rfl; exact rfl; exact rfl; omega) | (apply be; exact rfl; exact rfl; exact rfl; kernel_rfl) | (apply bn; exact rfl; exact rfl; exact rfl; kernel_rfl) | (apply cv; exact rfl; exact rfl; kernel_rfl; kernel_rfl) | (apply bk; exact rfl; exact rfl; omega; omega; kernel_rfl) | (apply by_; exact rfl; exact rfl; exact rfl; omega; kernel_rfl) | (apply rr1; exact rfl; exact rfl) | (apply rr2; exact rfl; exact rfl; exact rfl) | (apply rr3; exact rfl; exact rfl; exact rfl; exact rfl))
  all_goals simp_all [digitI]
  omega
theorem among (r : Int) (s : ByteArray) (hsz : s.size ≤ 1000) :
    RetIf Try.prog 20 [.int .u8 r, .string s] (fun _ => True) (.bool ((tl s).any fun o => decide (ci o = r))) := by
  refine ret_start2 Try.func20 rfl rfl rfl (fun w _ => ?_)
  repeat' (first | (apply pu; exact rfl; exact rfl; exact rfl) | apply nl | apply sq | apply rg | (apply gy; exact rfl; exact rfl) | (apply gn; exact rfl; exact rfl; exact rfl; exact rfl) | (apply gs; exact rfl; exact rfl; all_goals intro _) | (apply gb; exact rfl; exact rfl; all_goals intro _) | (apply it; exact rfl) | (apply fi; exact rfl) | (apply cd; exact rfl; all_goals intro _) | (apply cb; exact rfl; all_goals intro _) | apply bl | (apply xt; exact rfl) | apply sk | apply ib | (apply ls; exact rfl; exact rfl; kernel_rfl) | (apply ll; exact rfl; exact rfl; kernel_rfl) | (apply ic; exact rfl; exact rfl; omega) | (apply s1; exact rfl; exact rfl; omega; omega) | (apply sb; exact rfl; exact rfl; exact rfl; omega; omega) | (apply ad; exact rfl; exact rfl; exact rfl; omega) | (apply be; exact rfl; exact rfl; exact rfl; kernel_rfl) | (apply bn; exact rfl; exact rfl; exact rfl; kernel_rfl) | (apply cv; exact rfl; exact rfl; kernel_rfl; kernel_rfl) | (apply bk; exact rfl; exact rfl; omega; omega; kernel_rfl) | (apply by_; exact rfl; exact rfl; exact rfl; omega; kernel_rfl) | (apply rr1; exact rfl; exact rfl) | (apply rr2; exact rfl; exact rfl; exact rfl) | (apply rr3; exact rfl; exact rfl; exact rfl; exact rfl))
  refine weak (e' := [(0, .int .u8 r), (1, .string s), (5, .int .i64 ((0 : Nat) : Int))]) (hs' := []) ⟨rfl, rfl, rfl, trivial⟩ (List.Sublist.refl _) ?_
  refine rounds (fun p => p ≤ s.size ∧ ((tl s).drop p).any (fun o => decide (ci o = r)) = (tl s).any (fun o => decide (ci o = r))) (fun p => s.size - p)
    (fun p => [(0, .int .u8 r), (1, .string s), (5, .int .i64 (p : Int))]) (fun p => []) (fun p hI ih => ?_) 0 ⟨Nat.zero_le _, rfl⟩
  obtain ⟨hp, hI⟩ := hI
  repeat' (first | (apply pu; exact rfl; exact rfl; exact rfl) | apply nl | apply sq | apply rg | (apply gy; exact rfl; exact rfl) | (apply gn; exact rfl; exact rfl; exact rfl; exact rfl) | (apply gs; exact rfl; exact rfl; all_goals intro _) | (apply gb; exact rfl; exact rfl; all_goals intro _) | (apply it; exact rfl) | (apply fi; exact rfl) | (apply cd; exact rfl; all_goals intro _) | (apply cb; exact rfl; all_goals intro _) | apply bl | (apply xt; exact rfl) | apply sk | apply ib | (apply ls; exact rfl; exact rfl; kernel_rfl) | (apply ll; exact rfl; exact rfl; kernel_rfl) | (apply ic; exact rfl; exact rfl; omega) | (apply s1; exact rfl; exact rfl; omega; omega) | (apply sb; exact rfl; exact rfl; exact rfl; omega; omega) | (apply ad; exact rfl; exact rfl; exact rfl; omega) | (apply be; exact rfl; exact rfl; exact rfl; kernel_rfl) | (apply bn; exact rfl; exact rfl; exact rfl; kernel_rfl) | (apply cv; exact rfl; exact rfl; kernel_rfl; kernel_rfl) | (apply bk; exact rfl; exact rfl; omega; omega; kernel_rfl) | (apply by_; exact rfl; exact rfl; exact rfl; omega; kernel_rfl) | (apply rr1; exact rfl; exact rfl) | (apply rr2; exact rfl; exact rfl; exact rfl) | (apply rr3; exact rfl; exact rfl; exact rfl; exact rfl))
  · rename_i hlt h
    rw [drop_tl s p (by omega), List.any_cons] at hI
    rw [← hI]; simp [ci, ← h]
  · rename_i hlt h
    refine weak ?_ (List.Sublist.refl _) (ih (p + 1) ⟨by omega, ?_⟩ (by omega))
    · exact ⟨rfl, rfl, rfl, trivial⟩
    · rw [drop_tl s p (by omega), List.any_cons] at hI
      rw [← hI]; rw [show decide (ci ((tl s).getD p 0) = r) = false from decide_eq_false h]; rfl
  · have hz : (tl s).drop p = [] := by rw [List.drop_eq_nil_iff, ← size_tl]; omega
    rw [← hI, hz]; rfl

theorem rmade (s o : ByteArray) (hsz : o.size ≤ 1000) :
    RetIf Try.prog 13 [.string s, .string o] (fun _ => True) (.bool (madeL (tl s) (tl o))) := by
  refine ret_start2 Try.func13 rfl rfl rfl (fun w _ => ?_)
  repeat' (first | (apply pu; exact rfl; exact rfl; exact rfl) | apply nl | apply sq | apply rg | (apply gy; exact rfl; exact rfl) | (apply gn; exact rfl; exact rfl; exact rfl; exact rfl) | (apply gs; exact rfl; exact rfl; all_goals intro _) | (apply gb; exact rfl; exact rfl; all_goals intro _) | (apply it; exact rfl) | (apply fi; exact rfl) | (apply cd; exact rfl; all_goals intro _) | (apply cb; exact rfl; all_goals intro _) | apply bl | (apply xt; exact rfl) | apply sk | apply ib | (apply ls; exact rfl; exact rfl; kernel_rfl) | (apply ll; exact rfl; exact rfl; kernel_rfl) | (apply ic; exact rfl; exact rfl; omega) | (apply s1; exact rfl; exact rfl; omega; omega) | (apply sb; exact rfl; exact rfl; exact rfl; omega; omega) | (apply ad; exact rfl; exact rfl; exact rfl; omega) | (apply be; exact rfl; exact rfl; exact rfl; kernel_rfl) | (apply bn; exact rfl; exact rfl; exact rfl; kernel_rfl) | (apply cv; exact rfl; exact rfl; kernel_rfl; kernel_rfl) | (apply bk; exact rfl; exact rfl; omega; omega; kernel_rfl) | (apply by_; exact rfl; exact rfl; exact rfl; omega; kernel_rfl) | (apply rr1; exact rfl; exact rfl) | (apply rr2; exact rfl; exact rfl; exact rfl) | (apply rr3; exact rfl; exact rfl; exact rfl; exact rfl))
  · rename_i h
    have : ¬ (tl s).length ≤ 40 := by rw [← size_tl]; omega
    simp [madeL, this]
  rename_i hn
  have h40 : (tl s).length ≤ 40 := by rw [← size_tl]; omega
  have hmd : madeL (tl s) (tl o) = (tl s).all (goodB (tl o)) := by simp [madeL, h40]
  refine weak (e' := [(0, .string s), (1, .string o), (5, .int .i64 ((0 : Nat) : Int))]) (hs' := []) ⟨rfl, rfl, rfl, trivial⟩ (List.Sublist.refl _) ?_
  refine rounds (fun p => p ≤ s.size ∧ ((tl s).drop p).all (goodB (tl o)) = (tl s).all (goodB (tl o))) (fun p => s.size - p)
    (fun p => [(0, .string s), (1, .string o), (5, .int .i64 (p : Int))]) (fun p => []) (fun p hI ih => ?_) 0 ⟨Nat.zero_le _, rfl⟩
  obtain ⟨hp, hI⟩ := hI
  by_cases hlt : p < s.size
  · obtain ⟨c, hc0⟩ : ∃ c, (tl s).getD p 0 = c := ⟨_, rfl⟩
    rw [drop_tl s p hlt, List.all_cons, hc0] at hI
    have hg : goodB (tl o) c = (letterI (c.toNat : Int) || digitI (c.toNat : Int) || (tl o).any fun x => decide (ci x = (c.toNat : Int))) := rfl
    rw [hg] at hI
    repeat' (first | (first | (apply pu; exact rfl; exact rfl; exact rfl) | apply nl | apply sq | apply rg | (apply gy; exact rfl; exact rfl) | (apply gn; exact rfl; exact rfl; exact rfl; exact rfl) | (apply gs; exact rfl; exact rfl; all_goals intro _) | (apply gb; exact rfl; exact rfl; all_goals intro _) | (apply it; exact rfl) | (apply fi; exact rfl) | (apply cd; exact rfl; all_goals intro _) | (apply cb; exact rfl; all_goals intro _) | apply bl | (apply xt; exact rfl) | apply sk | apply ib | (apply ls; exact rfl; exact rfl; kernel_rfl) | (apply ll; exact rfl; exact rfl; kernel_rfl) | (apply ic; exact rfl; exact rfl; omega) | (apply s1; exact rfl; exact rfl; omega; omega) | (apply sb; exact rfl; exact rfl; exact rfl; omega; omega) | (apply ad; exact rfl; exact rfl; exact rfl; omega) | (apply be; exact rfl; exact rfl; exact rfl; kernel_rfl) | (apply bn; exact rfl; exact rfl; exact rfl; kernel_rfl) | (apply cv; exact rfl; exact rfl; kernel_rfl; kernel_rfl) | (apply bk; exact rfl; exact rfl; omega; omega; kernel_rfl) | (apply by_; exact rfl; exact rfl; exact rfl; omega; kernel_rfl) | (apply rr1; exact rfl; exact rfl) | (apply rr2; exact rfl; exact rfl; exact rfl) | (apply rr3; exact rfl; exact rfl; exact rfl; exact rfl)) | (apply cr; exact rfl; kernel_rfl; exact rfl; exact rletter _) | (apply cr; exact rfl; kernel_rfl; exact rfl; exact rdigit _) | (apply cr; exact rfl; kernel_rfl; exact rfl; exact among _ _ hsz))
    all_goals first
      | (exfalso; omega)
      | (refine weak ?_ (List.Sublist.refl _) (ih (p + 1) ⟨hlt, ?_⟩ (by omega)); exact ⟨rfl, rfl, rfl, trivial⟩; (rw [← hI]; simp_all; done))
      | (rw [hmd, ← hI]; simp_all; done)
     
  · have hz : (tl s).drop p = [] := by rw [List.drop_eq_nil_iff, ← size_tl]; omega
    repeat' (first | (first | (apply pu; exact rfl; exact rfl; exact rfl) | apply nl | apply sq | apply rg | (apply gy; exact rfl; exact rfl) | (apply gn; exact rfl; exact rfl; exact rfl; exact rfl) | (apply gs; exact rfl; exact rfl; all_goals intro _) | (apply gb; exact rfl; exact rfl; all_goals intro _) | (apply it; exact rfl) | (apply fi; exact rfl) | (apply cd; exact rfl; all_goals intro _) | (apply cb; exact rfl; all_goals intro _) | apply bl | (apply xt; exact rfl) | apply sk | apply ib | (apply ls; exact rfl; exact rfl; kernel_rfl) | (apply ll; exact rfl; exact rfl; kernel_rfl) | (apply ic; exact rfl; exact rfl; omega) | (apply s1; exact rfl; exact rfl; omega; omega) | (apply sb; exact rfl; exact rfl; exact rfl; omega; omega) | (apply ad; exact rfl; exact rfl; exact rfl; omega) | (apply be; exact rfl; exact rfl; exact rfl; kernel_rfl) | (apply bn; exact rfl; exact rfl; exact rfl; kernel_rfl) | (apply cv; exact rfl; exact rfl; kernel_rfl; kernel_rfl) | (apply bk; exact rfl; exact rfl; omega; omega; kernel_rfl) | (apply by_; exact rfl; exact rfl; exact rfl; omega; kernel_rfl) | (apply rr1; exact rfl; exact rfl) | (apply rr2; exact rfl; exact rfl; exact rfl) | (apply rr3; exact rfl; exact rfl; exact rfl; exact rfl)) | (apply cr; exact rfl; kernel_rfl; exact rfl; exact rletter _) | (apply cr; exact rfl; kernel_rfl; exact rfl; exact rdigit _) | (apply cr; exact rfl; kernel_rfl; exact rfl; exact among _ _ hsz))
    all_goals first
      | (exfalso; omega)
      | (rw [hmd, ← hI, hz]; rfl)
     
theorem rmade1 (s : ByteArray) : RetIf Try.prog 13 [.string s, .string ⟨#[45]⟩] (fun _ => True) (.bool (madeL (tl s) [45])) :=
  rmade s ⟨#[45]⟩ (by decide)
theorem rmade2 (s : ByteArray) : RetIf Try.prog 13 [.string s, .string ⟨#[46, 45, 47]⟩] (fun _ => True) (.bool (madeL (tl s) [46, 45, 47])) :=
  rmade s ⟨#[46, 45, 47]⟩ (by decide)
theorem rmade3 (s : ByteArray) : RetIf Try.prog 13 [.string s, .string ⟨#[45, 95, 46]⟩] (fun _ => True) (.bool (madeL (tl s) [45, 95, 46])) :=
  rmade s ⟨#[45, 95, 46]⟩ (by decide)

theorem begunL_eq (l : List UInt8) : begunL l = (decide (0 < l.length) && letterI (ci (l.getD 0 0))) := by cases l <;> simp [begunL]
theorem sufB_dash (l : List UInt8) (h : 0 < l.length) : sufB l [45] = decide (l.getD (l.length - 1) 0 = 45) := by
  have h1 : l.drop (l.length - 1) = [l.getD (l.length - 1) 0] := by
    rw [List.drop_eq_getElem_cons (by omega), List.getD_eq_getElem?_getD, List.getElem?_eq_getElem (by omega), show l.length - 1 + 1 = l.length by omega]; simp
  have h2 : 1 ≤ l.length := h
  simp only [sufB, List.length_singleton, h1, h2, decide_true, Bool.true_and, List.cons.injEq, and_true]
theorem byte_eq (c : UInt8) (n : Nat) (hn : n < 256) : ((c.toNat : Int) = (n : Int)) ↔ c = UInt8.ofNat n := by
  constructor
  · intro h
    have : c.toNat = n := by omega
    rw [← this]; simp
  · rintro rfl; simp; omega
theorem rName (s : ByteArray) (hs : s.size ≤ 1099511627776) : RetIf Try.prog 5 [.string s] (fun _ => True) (.bool (nameL (tl s))) := by
  refine ret_start1 Try.func5 rfl rfl rfl (fun w _ => ?_)
  by_cases h0 : 0 < (tl s).length
  · have hb := begunL_eq (tl s)
    have hsf := sufB_dash (tl s) h0
    have h1 : 0 < s.size := by rw [size_tl]; exact h0
    have h45 := byte_eq ((tl s).getD ((tl s).length - 1) 0) 45 (by decide)
    have h45' : (UInt8.ofNat 45) = 45 := rfl
    rw [h45'] at h45
    rw [← size_tl] at hsf h45 hb h0
    repeat' (first | (first | (apply pu; exact rfl; exact rfl; exact rfl) | apply nl | apply sq | apply rg | (apply gy; exact rfl; exact rfl) | (apply gn; exact rfl; exact rfl; exact rfl; exact rfl) | (apply gs; exact rfl; exact rfl; all_goals intro _) | (apply gb; exact rfl; exact rfl; all_goals intro _) | (apply it; exact rfl) | (apply fi; exact rfl) | (apply cd; exact rfl; all_goals intro _) | (apply cb; exact rfl; all_goals intro _) | apply bl | (apply xt; exact rfl) | apply sk | apply ib | (apply ls; exact rfl; exact rfl; kernel_rfl) | (apply ll; exact rfl; exact rfl; kernel_rfl) | (apply ic; exact rfl; exact rfl; omega) | (apply s1; exact rfl; exact rfl; omega; omega) | (apply sb; exact rfl; exact rfl; exact rfl; omega; omega) | (apply ad; exact rfl; exact rfl; exact rfl; omega) | (apply be; exact rfl; exact rfl; exact rfl; kernel_rfl) | (apply bn; exact rfl; exact rfl; exact rfl; kernel_rfl) | (apply cv; exact rfl; exact rfl; kernel_rfl; kernel_rfl) | (apply bk; exact rfl; exact rfl; omega; omega; kernel_rfl) | (apply by_; exact rfl; exact rfl; exact rfl; omega; kernel_rfl) | (apply rr1; exact rfl; exact rfl) | (apply rr2; exact rfl; exact rfl; exact rfl) | (apply rr3; exact rfl; exact rfl; exact rfl; exact rfl)) | (apply cr; exact rfl; kernel_rfl; exact rfl; exact rmade1 _) | (apply cr; exact rfl; kernel_rfl; exact rfl; exact rletter _))
    all_goals simp_all [nameL, ci]
  · have hz : tl s = [] := by simpa using h0
    have h1 : ¬ 0 < s.size := by rw [size_tl]; exact h0
    repeat' (first | (first | (apply pu; exact rfl; exact rfl; exact rfl) | apply nl | apply sq | apply rg | (apply gy; exact rfl; exact rfl) | (apply gn; exact rfl; exact rfl; exact rfl; exact rfl) | (apply gs; exact rfl; exact rfl; all_goals intro _) | (apply gb; exact rfl; exact rfl; all_goals intro _) | (apply it; exact rfl) | (apply fi; exact rfl) | (apply cd; exact rfl; all_goals intro _) | (apply cb; exact rfl; all_goals intro _) | apply bl | (apply xt; exact rfl) | apply sk | apply ib | (apply ls; exact rfl; exact rfl; kernel_rfl) | (apply ll; exact rfl; exact rfl; kernel_rfl) | (apply ic; exact rfl; exact rfl; omega) | (apply s1; exact rfl; exact rfl; omega; omega) | (apply sb; exact rfl; exact rfl; exact rfl; omega; omega) | (apply ad; exact rfl; exact rfl; exact rfl; omega) | (apply be; exact rfl; exact rfl; exact rfl; kernel_rfl) | (apply bn; exact rfl; exact rfl; exact rfl; kernel_rfl) | (apply cv; exact rfl; exact rfl; kernel_rfl; kernel_rfl) | (apply bk; exact rfl; exact rfl; omega; omega; kernel_rfl) | (apply by_; exact rfl; exact rfl; exact rfl; omega; kernel_rfl) | (apply rr1; exact rfl; exact rfl) | (apply rr2; exact rfl; exact rfl; exact rfl) | (apply rr3; exact rfl; exact rfl; exact rfl; exact rfl)) | (apply cr; exact rfl; kernel_rfl; exact rfl; exact rmade1 _) | (apply cr; exact rfl; kernel_rfl; exact rfl; exact rletter _))
    all_goals first | (exfalso; omega) | (simp_all [nameL, begunL]; done)
theorem rKey (s : ByteArray) : RetIf Try.prog 7 [.string s] (fun _ => True) (.bool (keyL (tl s))) := by
  refine ret_start1 Try.func7 rfl rfl rfl (fun w _ => ?_)
  have hb := begunL_eq (tl s)
  rw [← size_tl] at hb
  repeat' (first | (first | (apply pu; exact rfl; exact rfl; exact rfl) | apply nl | apply sq | apply rg | (apply gy; exact rfl; exact rfl) | (apply gn; exact rfl; exact rfl; exact rfl; exact rfl) | (apply gs; exact rfl; exact rfl; all_goals intro _) | (apply gb; exact rfl; exact rfl; all_goals intro _) | (apply it; exact rfl) | (apply fi; exact rfl) | (apply cd; exact rfl; all_goals intro _) | (apply cb; exact rfl; all_goals intro _) | apply bl | (apply xt; exact rfl) | apply sk | apply ib | (apply ls; exact rfl; exact rfl; kernel_rfl) | (apply ll; exact rfl; exact rfl; kernel_rfl) | (apply ic; exact rfl; exact rfl; omega) | (apply s1; exact rfl; exact rfl; omega; omega) | (apply sb; exact rfl; exact rfl; exact rfl; omega; omega) | (apply ad; exact rfl; exact rfl; exact rfl; omega) | (apply be; exact rfl; exact rfl; exact rfl; kernel_rfl) | (apply bn; exact rfl; exact rfl; exact rfl; kernel_rfl) | (apply cv; exact rfl; exact rfl; kernel_rfl; kernel_rfl) | (apply bk; exact rfl; exact rfl; omega; omega; kernel_rfl) | (apply by_; exact rfl; exact rfl; exact rfl; omega; kernel_rfl) | (apply rr1; exact rfl; exact rfl) | (apply rr2; exact rfl; exact rfl; exact rfl) | (apply rr3; exact rfl; exact rfl; exact rfl; exact rfl)) | (apply cr; exact rfl; kernel_rfl; exact rfl; exact rmade2 _) | (apply cr; exact rfl; kernel_rfl; exact rfl; exact rletter _))
  all_goals first | (exfalso; omega) | (simp_all [keyL, ci]; done)
theorem rValue (s : ByteArray) : RetIf Try.prog 9 [.string s] (fun _ => True) (.bool (valueL (tl s))) := by
  refine ret_start1 Try.func9 rfl rfl rfl (fun w _ => ?_)
  repeat' (first | (first | (apply pu; exact rfl; exact rfl; exact rfl) | apply nl | apply sq | apply rg | (apply gy; exact rfl; exact rfl) | (apply gn; exact rfl; exact rfl; exact rfl; exact rfl) | (apply gs; exact rfl; exact rfl; all_goals intro _) | (apply gb; exact rfl; exact rfl; all_goals intro _) | (apply it; exact rfl) | (apply fi; exact rfl) | (apply cd; exact rfl; all_goals intro _) | (apply cb; exact rfl; all_goals intro _) | apply bl | (apply xt; exact rfl) | apply sk | apply ib | (apply ls; exact rfl; exact rfl; kernel_rfl) | (apply ll; exact rfl; exact rfl; kernel_rfl) | (apply ic; exact rfl; exact rfl; omega) | (apply s1; exact rfl; exact rfl; omega; omega) | (apply sb; exact rfl; exact rfl; exact rfl; omega; omega) | (apply ad; exact rfl; exact rfl; exact rfl; omega) | (apply be; exact rfl; exact rfl; exact rfl; kernel_rfl) | (apply bn; exact rfl; exact rfl; exact rfl; kernel_rfl) | (apply cv; exact rfl; exact rfl; kernel_rfl; kernel_rfl) | (apply bk; exact rfl; exact rfl; omega; omega; kernel_rfl) | (apply by_; exact rfl; exact rfl; exact rfl; omega; kernel_rfl) | (apply rr1; exact rfl; exact rfl) | (apply rr2; exact rfl; exact rfl; exact rfl) | (apply rr3; exact rfl; exact rfl; exact rfl; exact rfl)) | (apply cr; exact rfl; kernel_rfl; exact rfl; exact rmade3 _))
  all_goals rfl

theorem law (s : ByteArray) : RetIf Try.prog 3 [.string s] (fun _ => True) (.bool true) := by
  refine ret_start1 Try.func3 rfl rfl rfl (fun w _ => ?_)
  have h : ¬ (16777216 : Int) < (s.size : Int) → s.size ≤ 1099511627776 := fun _ => by omega
  repeat' (first | (first | (apply pu; exact rfl; exact rfl; exact rfl) | apply nl | apply sq | apply rg | (apply gy; exact rfl; exact rfl) | (apply gn; exact rfl; exact rfl; exact rfl; exact rfl) | (apply gs; exact rfl; exact rfl; all_goals intro _) | (apply gb; exact rfl; exact rfl; all_goals intro _) | (apply it; exact rfl) | (apply fi; exact rfl) | (apply cd; exact rfl; all_goals intro _) | (apply cb; exact rfl; all_goals intro _) | apply bl | (apply xt; exact rfl) | apply sk | apply ib | (apply ls; exact rfl; exact rfl; kernel_rfl) | (apply ll; exact rfl; exact rfl; kernel_rfl) | (apply ic; exact rfl; exact rfl; omega) | (apply s1; exact rfl; exact rfl; omega; omega) | (apply sb; exact rfl; exact rfl; exact rfl; omega; omega) | (apply ad; exact rfl; exact rfl; exact rfl; omega) | (apply be; exact rfl; exact rfl; exact rfl; kernel_rfl) | (apply bn; exact rfl; exact rfl; exact rfl; kernel_rfl) | (apply cv; exact rfl; exact rfl; kernel_rfl; kernel_rfl) | (apply bk; exact rfl; exact rfl; omega; omega; kernel_rfl) | (apply by_; exact rfl; exact rfl; exact rfl; omega; kernel_rfl) | (apply rr1; exact rfl; exact rfl) | (apply rr2; exact rfl; exact rfl; exact rfl) | (apply rr3; exact rfl; exact rfl; exact rfl; exact rfl)) | (apply cr; exact rfl; kernel_rfl; exact rfl; exact Name _ (h (by assumption))) | (apply cr; exact rfl; kernel_rfl; exact rfl; exact rName _ (h (by assumption))) | (apply cr; exact rfl; kernel_rfl; exact rfl; exact Key _) | (apply cr; exact rfl; kernel_rfl; exact rfl; exact rKey _) | (apply cr; exact rfl; kernel_rfl; exact rfl; exact Value _) | (apply cr; exact rfl; kernel_rfl; exact rfl; exact rValue _))
  all_goals first | rfl | (rename_i h; exact absurd rfl h) | (simp; done)
end Go.Fl
