/-
  The digest of what an object's pods are like. No condition beyond its sizes.
-/
import Derived.Test.YtiepomeokhjcfaaDoorObjD
namespace Go.Fl
open Go.Proofs Go.RowKit
set_option maxRecDepth 10000
set_option maxHeartbeats 4000000

theorem st_ne {W0 w : World} {own : List Nat} {hs : Hs} (h : St W0 own hs w) (i j : Nat) {x y : Nat × Obj} (hi : hs[i]? = some x) (hj : hs[j]? = some y) (hij : i ≠ j) : x.1 ≠ y.1 := by
  have hn := h.nodup
  intro e
  have h1 : (hs.map (·.1))[i]? = some x.1 := by rw [List.getElem?_map, hi]; rfl
  have h2 : (hs.map (·.1))[j]? = some x.1 := by rw [List.getElem?_map, hj, e]; rfl
  exact hij ((List.getElem?_inj (List.getElem?_eq_some_iff.1 h1).1 hn).1 (h1.trans h2.symm))
def SzL (L : List Lab) : Prop := ∀ x ∈ L, x.1.size ≤ 9223372036854775807 ∧ x.2.size ≤ 9223372036854775807
def Sz (o : Oj) : Prop := o.image.size ≤ 9223372036854775807 ∧ SzL o.labs
theorem Template (o : Oj) (a a' : Option Addr) (c c' : Nat) (hn : o.labs.length ≤ 4398046511000) (hsz : Sz o) : RetIf Tryd.prog 43 [(ov o a c a' c').val] (fun w => LabAt w a o.labs) (.int .u64 (templH o)) := by
  refine ret_start1 Tryd.func43 rfl rfl rfl (fun w0 hw => ?_)
  refine vstart [(0, ov o a c a' c')] [] [] ?_
  refine vwith (pt := .run _) _ _ [] tabOk lent_nil fun go => ?_
  apply go 300
  repeat' (first | apply And.intro | intro _)
  all_goals try (first | (show Here _ _ _ _; try (exfalso; omega)) | exact trivial | omega | kernel_rfl | exact rfl)
  rename_i b1 sb b27
  have hf := fieldsD 14695981039346656037 [.inr o.image, .inl o.ncpu, .inl o.nmem, .inl o.rise, .inl o.fall, .inl o.labs.length] sb b27 6 (by simp) (by intro x hx; simp only [List.mem_cons, List.not_mem_nil, or_false] at hx; rcases hx with rfl | rfl | rfl | rfl | rfl | rfl <;> first | exact trivial | exact hsz.1)
  refine vccp (bs := [sumB sb 14695981039346656037]) (qs := [_, _]) rfl rfl (by kernel_rfl) (List.Perm.swap _ _ _) hf (by exact fun w hst => ⟨st_ne hst 2 1 rfl rfl (by decide), (reads_of_block (hst.has _ (List.mem_cons_of_mem _ (List.mem_cons_of_mem _ List.mem_cons_self))) 6 0 _ rfl).1⟩) ?_
  rintro _ _ ⟨rfl, rfl⟩
  refine ⟨.tup [], rfl, ?_⟩
  refine vopenP [⟨b1, 38, .var (ocs o (labV o.labs a c) (labV o.sel a' c')), []⟩, sumO sb (([.inr o.image, .inl o.ncpu, .inl o.nmem, .inl o.rise, .inl o.fall, .inl o.labs.length] : List Fd).foldl fieldH 14695981039346656037)] [_] (List.Perm.swap _ _ _) ?_
  apply go 300
  repeat' (first | apply And.intro | intro _)
  all_goals try (first | (show Here _ _ _ _; try (exfalso; omega)) | exact trivial | omega | kernel_rfl | exact rfl)
  generalize hh : (([.inr o.image, .inl o.ncpu, .inl o.nmem, .inl o.rise, .inl o.fall, .inl o.labs.length] : List Fd).foldl fieldH 14695981039346656037) = h6
  have hT : templH o = o.labs.foldl labH h6 := by rw [← hh]; rfl
  clear hf hh
  refine vrounds (fun i : Nat => i ≤ o.labs.length) (fun i => o.labs.length - i) (fun i => [(3, .ptr true 0 sb 0 1 0 0), (30, labV o.labs a c), (31, .nat o.labs.length), (32, .nat i)]) (fun i => [sumO sb ((o.labs.take i).foldl labH h6)]) (fun _ => []) 0 (fun i hi ih => ?_) (Nat.zero_le _) ⟨rfl, rfl, rfl, rfl, trivial⟩ (List.Sublist.cons _ (List.Sublist.cons_cons _ (List.nil_sublist _)))
  by_cases hl : i < o.labs.length
  · obtain ⟨b, off, rfl⟩ := hw.is (by rintro h0; rw [h0] at hl; simp at hl)
    have hR := hw.go b off rfl
    refine vre [(3, .ptr true 0 sb 0 1 0 0), (30, .sl false 0 b off 2 none o.labs.length c), (31, .nat o.labs.length), (32, .nat i)] rfl ?_
    refine vwith (pt := .run _) _ _ [⟨b, off, .arr cdL o.labs⟩] tabOk (lent_lab lent_nil List.not_mem_nil hR) fun go => ?_
    apply go 300
    repeat' (first | apply And.intro | intro _)
    all_goals try (first | (show Here _ _ _ _; try (exfalso; omega)) | exact trivial | omega | kernel_rfl | exact rfl)
    rename_i x hx b5 b42
    have hsx := hsz.2 x (List.mem_of_getElem? hx)
    have hst : (o.labs.take (i + 1)).foldl labH h6 = labH ((o.labs.take i).foldl labH h6) x := by rw [List.take_add_one, hx, List.foldl_append]; rfl
    have hf := fieldsD ((o.labs.take i).foldl labH h6) [.inr x.1, .inr x.2] sb b42 2 (by simp) (by intro y hy; simp only [List.mem_cons, List.not_mem_nil, or_false] at hy; rcases hy with rfl | rfl; exact hsx.1; exact hsx.2)
    refine vccp (bs := [sumB sb _]) (qs := [_, _]) rfl rfl (by kernel_rfl) (List.Perm.refl _) hf (by exact fun w hst => ⟨st_ne hst 2 0 rfl rfl (by decide), (reads_of_block (hst.has _ (List.mem_cons_of_mem _ (List.mem_cons_of_mem _ List.mem_cons_self))) 2 0 _ rfl).1⟩) ?_
    rintro _ _ ⟨rfl, rfl⟩
    refine ⟨.tup [], rfl, ?_⟩
    refine vopen [sumO sb (labH ((o.labs.take i).foldl labH h6) x)] [_, _] ?_ rfl rfl
    apply go 300
    repeat' (first | apply And.intro | intro _)
    all_goals try (first | (show Here _ _ _ _; try (exfalso; omega)) | exact trivial | omega | kernel_rfl | exact rfl)
    refine vweak _ _ _ (ih (i + 1) (by omega) (by omega)) ⟨rfl, rfl, rfl, rfl, trivial⟩ ?_
    rw [hst]
    exact List.Sublist.cons_cons _ (List.nil_sublist _)
  · apply go 300
    repeat' (first | apply And.intro | intro _)
    all_goals try (first | (show Here _ _ _ _; try (exfalso; omega)) | exact trivial | omega | kernel_rfl | exact rfl)
    obtain rfl : i = o.labs.length := by omega
    exact vr1 rfl rfl (by rw [hT, List.take_length]; rfl)
end Go.Fl
