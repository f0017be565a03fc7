/-
  What is wrong with an object. No condition beyond its sizes.
-/
import Derived.Test.YtiepomeokhjcfaaDoorObjL
import Derived.Test.YtiepomeokhjcfaaDoorObjG
import Derived.Test.YtiepomeokhjcfaaDoorObjE
namespace Go.Fl
open Go.Proofs Go.RowKit
set_option maxRecDepth 10000
set_option maxHeartbeats 40000000

theorem own_labs (o : Oj) : (ownO o).labs = if o.kind = 5 then [] else o.labs := by
  unfold ownO base
  (repeat' split) <;> first | rfl | (exfalso; omega)
theorem own_sel (o : Oj) : (ownO o).sel = if o.kind = 4 then o.sel else [] := by
  unfold ownO base
  (repeat' split) <;> first | rfl | (exfalso; omega)
theorem own_out (o : Oj) (a a' : Option Addr) (c c' : Nat) : ∃ x d x' d', ownV o a c a' c' = ov (ownO o) x d x' d' ∧ ∀ w, LabAt w a o.labs → LabAt w a' o.sel → LabAt w x (ownO o).labs ∧ LabAt w x' (ownO o).sel := by
  have e1 := own_labs o
  have e2 := own_sel o
  unfold ownV
  by_cases h5 : o.kind = 5
  · rw [if_pos h5] at e1
    rw [if_neg (by omega)] at e2
    rw [if_pos h5, if_neg (by omega)]
    exact ⟨none, 0, none, 0, by rw [ov, labV, labV, e1, e2]; rfl, fun w _ _ => by rw [e1, e2]; exact ⟨labAt_none w, labAt_none w⟩⟩
  · rw [if_neg h5] at e1
    rw [if_neg h5]
    by_cases h4 : o.kind = 4
    · rw [if_pos h4] at e2
      rw [if_pos h4]
      exact ⟨a, c, a', c', by rw [ov, labV, labV, labV, labV, e1, e2], fun w h1 h2 => by rw [e1, e2]; exact ⟨h1, h2⟩⟩
    · rw [if_neg h4] at e2
      rw [if_neg h4]
      exact ⟨a, c, none, 0, by rw [ov, labV, labV, labV, e1, e2]; rfl, fun w h1 _ => by rw [e1, e2]; exact ⟨h1, labAt_none w⟩⟩
theorem check (o : Oj) (a a' : Option Addr) (c c' : Nat) (hn : o.labs.length ≤ 4398046511000) (hn' : o.sel.length ≤ 4398046511000) (hsz : Sz o) : Con Tryd.prog 48 [(ov o a c a' c').val] [] (fun w => LabAt w a o.labs ∧ LabAt w a' o.sel) (WPost (chkO o)) := by
  refine con_start1 Tryd.func48 rfl rfl rfl (fun w0 hw => ?_)
  obtain ⟨hw, hw'⟩ := hw
  obtain ⟨x, d, x', d', he, hrd⟩ := own_out o a a' c c'
  have hO := own o a a' c c'
  rw [he] at hO
  refine vstart [(0, ov o a c a' c')] [] [] ?_
  refine vwith (pt := .run _) _ _ [] tabOk lent_nil fun go => ?_
  apply go 300
  repeat' (first | apply And.intro | intro _)
  all_goals try (first | (show Here _ _ _ _; try (exfalso; omega)) | exact trivial | omega | kernel_rfl | exact rfl)
  refine vcall (v := .bd (inN o.kind 0 5) inferInstance) rfl rfl (by kernel_rfl) (within o.kind 0 5) (by exact fun _ _ => trivial) ?_
  apply go 300
  repeat' (first | apply And.intro | intro _)
  all_goals try (first | (show Here _ _ _ _; try (exfalso; omega)) | exact trivial | omega | kernel_rfl | exact rfl)
  · exact vc1 (bs := []) rfl rfl (List.nil_sublist _) (wpost1 (n := 11) (by unfold chkO; rw [if_pos ‹_›]) (by decide))
  have hk : inN o.kind 0 5 := Classical.not_not.1 ‹_›
  have e1 : chkO o = if nameL (tl o.name) = false then 8 else if o.born < 0 ∨ o.ver < o.born then 1 else if ¬ sameP o (ownO o) then 14 else if (chk o.labs).1 ≠ 0 then 12 else if o.kind = 0 then chkNode o else if o.kind = 4 then chkBudget o else if o.kind = 5 then chkLease o else chkLikes o := by
    unfold chkO; rw [if_neg (not_not_intro hk)]
  refine vcall (v := .bd (nameL (tl o.name) = true) inferInstance) rfl rfl (by kernel_rfl) (NameA o.name).bd (by exact fun _ _ => trivial) ?_
  apply go 300
  repeat' (first | apply And.intro | intro _)
  all_goals try (first | (show Here _ _ _ _; try (exfalso; omega)) | exact trivial | omega | kernel_rfl | exact rfl)
  · exact vc1 (bs := []) rfl rfl (List.nil_sublist _) (wpost1 (n := 8) (by rw [e1, if_pos (by simpa using ‹¬ nameL (tl o.name) = true›)]) (by decide))
  · exact vc1 (bs := []) rfl rfl (List.nil_sublist _) (wpost1 (n := 1) (by rw [e1, if_neg (by simp_all), if_pos (by omega)]) (by decide))
  · exact vc1 (bs := []) rfl rfl (List.nil_sublist _) (wpost1 (n := 1) (by rw [e1, if_neg (by simp_all), if_pos (by omega)]) (by decide))
  have e2 : chkO o = if ¬ sameP o (ownO o) then 14 else if (chk o.labs).1 ≠ 0 then 12 else if o.kind = 0 then chkNode o else if o.kind = 4 then chkBudget o else if o.kind = 5 then chkLease o else chkLikes o := by
    rw [e1, if_neg (by simp_all), if_neg (by omega)]
  refine vdraw (flagsOf _) (by kernel_rfl) (by decide +kernel) (flags_len _) ?_
  apply go 300
  repeat' (first | apply And.intro | intro _)
  all_goals try (first | (show Here _ _ _ _; try (exfalso; omega)) | exact trivial | omega | kernel_rfl | exact rfl)
  refine vcallD (v := ov (ownO o) x d x' d') rfl rfl (by kernel_rfl) hO (by exact fun _ _ => trivial) ?_
  apply go 300
  repeat' (first | apply And.intro | intro _)
  all_goals try (first | (show Here _ _ _ _; try (exfalso; omega)) | exact trivial | omega | kernel_rfl | exact rfl)
  refine vcallD (v := .bd (sameP o (ownO o)) inferInstance) rfl rfl (by kernel_rfl) (alike o (ownO o) a a' x x' c c' d d' hn hn') (by exact fun _ h => ⟨⟨hw.st h, hw'.st h⟩, hrd _ (hw.st h) (hw'.st h)⟩) ?_
  apply go 300
  repeat' (first | apply And.intro | intro _)
  all_goals try (first | (show Here _ _ _ _; try (exfalso; omega)) | exact trivial | omega | kernel_rfl | exact rfl)
  · exact vc1 (bs := []) rfl rfl (List.nil_sublist _) (wpost1 (n := 14) (by rw [e2, if_pos ‹_›]) (by decide))
  have e3 : chkO o = if (chk o.labs).1 ≠ 0 then 12 else if o.kind = 0 then chkNode o else if o.kind = 4 then chkBudget o else if o.kind = 5 then chkLease o else chkLikes o := by
    rw [e2, if_neg ‹_›]
  have hC := Check o.labs a c
  rcases errOf_cases (chk o.labs) with ⟨h0, he⟩ | ⟨h0, ⟨n, he⟩ | ⟨n, k, he⟩⟩ <;> rw [he] at hC
  · refine vcall (v := .raw .nilIface) rfl rfl (by kernel_rfl) hC (by exact fun _ h => hw.st h) ?_
    apply go 300
    repeat' (first | apply And.intro | intro _)
    all_goals try (first | (show Here _ _ _ _; try (exfalso; omega)) | exact trivial | omega | kernel_rfl | exact rfl)
    · have e4 : chkO o = chkNode o := by rw [e3, if_neg (not_not_intro h0)]; (repeat' split) <;> first | rfl | (exfalso; omega)
      refine vcc rfl rfl (by kernel_rfl) (checkNode o a a' c c') (by exact fun _ _ => trivial) ?_
      rintro _ bs ⟨t, rfl⟩
      refine ⟨.raw (wV (chkNode o) t), rfl, ?_⟩
      apply go 300
      repeat' (first | apply And.intro | intro _)
      all_goals try (first | (show Here _ _ _ _; try (exfalso; omega)) | exact trivial | omega | kernel_rfl | exact rfl)
      exact vc1 (bs := []) rfl rfl (List.nil_sublist _) ⟨t, by rw [e4]; rfl⟩
    · have e4 : chkO o = chkBudget o := by rw [e3, if_neg (not_not_intro h0)]; (repeat' split) <;> first | rfl | (exfalso; omega)
      refine vcc rfl rfl (by kernel_rfl) (checkBudget o a a' c c') (by exact fun _ h => hw'.st h) ?_
      rintro _ bs ⟨t, rfl⟩
      refine ⟨.raw (wV (chkBudget o) t), rfl, ?_⟩
      apply go 300
      repeat' (first | apply And.intro | intro _)
      all_goals try (first | (show Here _ _ _ _; try (exfalso; omega)) | exact trivial | omega | kernel_rfl | exact rfl)
      exact vc1 (bs := []) rfl rfl (List.nil_sublist _) ⟨t, by rw [e4]; rfl⟩
    · have e4 : chkO o = chkLease o := by rw [e3, if_neg (not_not_intro h0)]; (repeat' split) <;> first | rfl | (exfalso; omega)
      refine vcc rfl rfl (by kernel_rfl) (checkLease o a a' c c') (by exact fun _ _ => trivial) ?_
      rintro _ bs ⟨t, rfl⟩
      refine ⟨.raw (wV (chkLease o) t), rfl, ?_⟩
      apply go 300
      repeat' (first | apply And.intro | intro _)
      all_goals try (first | (show Here _ _ _ _; try (exfalso; omega)) | exact trivial | omega | kernel_rfl | exact rfl)
      exact vc1 (bs := []) rfl rfl (List.nil_sublist _) ⟨t, by rw [e4]; rfl⟩
    · have e4 : chkO o = chkLikes o := by rw [e3, if_neg (not_not_intro h0)]; (repeat' split) <;> first | rfl | (exfalso; omega)
      refine vcc rfl rfl (by kernel_rfl) (checkLikes o a a' c c' hn hsz) (by exact fun _ h => hw.st h) ?_
      rintro _ bs ⟨t, rfl⟩
      refine ⟨.raw (wV (chkLikes o) t), rfl, ?_⟩
      apply go 300
      repeat' (first | apply And.intro | intro _)
      all_goals try (first | (show Here _ _ _ _; try (exfalso; omega)) | exact trivial | omega | kernel_rfl | exact rfl)
      exact vc1 (bs := []) rfl rfl (List.nil_sublist _) ⟨t, by rw [e4]; rfl⟩
  · refine vcall (v := .ifc 79 (.int .i64 n)) rfl rfl (by kernel_rfl) hC (by exact fun _ h => hw.st h) ?_
    apply go 300
    repeat' (first | apply And.intro | intro _)
    all_goals try (first | (show Here _ _ _ _; try (exfalso; omega)) | exact trivial | omega | kernel_rfl | exact rfl)
    exact vc1 (bs := []) rfl rfl (List.nil_sublist _) (wpost1 (n := 12) (by rw [e3, if_pos h0]) (by decide))
  · refine vcall (v := .ifc 87 (.agg [.int .i64 n, .int .i64 k])) rfl rfl (by kernel_rfl) hC (by exact fun _ h => hw.st h) ?_
    apply go 300
    repeat' (first | apply And.intro | intro _)
    all_goals try (first | (show Here _ _ _ _; try (exfalso; omega)) | exact trivial | omega | kernel_rfl | exact rfl)
    exact vc1 (bs := []) rfl rfl (List.nil_sublist _) (wpost1 (n := 12) (by rw [e3, if_pos h0]) (by decide))

/-- A number, as an error. -/
def errN (n : Int) : Go.Value := if n = 0 then .nilIface else errno n
theorem CheckO (o : Oj) (a a' : Option Addr) (c c' : Nat) (hn : o.labs.length ≤ 4398046511000) (hn' : o.sel.length ≤ 4398046511000) (hsz : Sz o) : RetIf Tryd.prog 18 [(ov o a c a' c').val] (fun w => (LabAt w a o.labs ∧ LabAt w a' o.sel) ∧ Laid w) (errN (chkO o)) := by
  refine ret_start1 Tryd.func18 rfl rfl rfl (fun w0 hw => ?_)
  obtain ⟨⟨hw, hw'⟩, hL⟩ := hw
  refine vstart [(0, ov o a c a' c')] [] [] ?_
  refine vwith (pt := .run _) _ _ [] tabOk lent_nil fun go => ?_
  apply go 300
  repeat' (first | apply And.intro | intro _)
  all_goals try (first | (show Here _ _ _ _; try (exfalso; omega)) | exact trivial | omega | kernel_rfl | exact rfl)
  rename_i b1 vb
  refine vcc rfl rfl (by kernel_rfl) (check o a a' c c' hn hn' hsz) (by exact fun _ h => ⟨hw.st h, hw'.st h⟩) ?_
  rintro _ bs ⟨t, rfl⟩
  by_cases h0 : chkO o = 0
  · refine ⟨.raw .nilIface, by unfold wV; rw [if_pos h0]; rfl, ?_⟩
    apply go 300
    repeat' (first | apply And.intro | intro _)
    all_goals try (first | (show Here _ _ _ _; try (exfalso; omega)) | exact trivial | omega | kernel_rfl | exact rfl)
    refine vcall (v := .bl false) rfl rfl (by kernel_rfl) (AsNw _) (by exact fun _ _ => trivial) ?_
    apply go 300
    repeat' (first | apply And.intro | intro _)
    all_goals try (first | (show Here _ _ _ _; try (exfalso; omega)) | exact trivial | omega | kernel_rfl | exact rfl)
    exact vr1 rfl rfl (by unfold errN; rw [if_pos h0]; rfl)
  · refine ⟨.ifc 81 (.agg [.int .i64 (chkO o), .str t]), by unfold wV; rw [if_neg h0]; rfl, ?_⟩
    apply go 300
    repeat' (first | apply And.intro | intro _)
    all_goals try (first | (show Here _ _ _ _; try (exfalso; omega)) | exact trivial | omega | kernel_rfl | exact rfl)
    refine vccp (bs := [(vb, .cells #[.int .i64 0, .string ⟨#[]⟩] 81)]) (qs := _ :: (bs ++ [])) rfl rfl (by kernel_rfl) (List.Perm.swap _ _ _) (AsW (chkO o) 0 t ⟨#[]⟩ vb) (by exact fun w hst => ⟨hL.st hst, new_ne (i := 1) hL hst rfl rfl⟩) ?_
    rintro _ _ ⟨rfl, rfl⟩
    refine ⟨.bl true, rfl, ?_⟩
    refine vopenP [⟨b1, 38, .var (ocs o (labV o.labs a c) (labV o.sel a' c')), []⟩, ⟨vb, 81, .var [.int .i64 (chkO o), .str t], []⟩] (bs ++ []) (List.Perm.swap _ _ _) ?_
    apply go 300
    repeat' (first | apply And.intro | intro _)
    all_goals try (first | (show Here _ _ _ _; try (exfalso; omega)) | exact trivial | omega | kernel_rfl | exact rfl)
    exact vr1 rfl rfl (by unfold errN; rw [if_neg h0]; rfl)
end Go.Fl
