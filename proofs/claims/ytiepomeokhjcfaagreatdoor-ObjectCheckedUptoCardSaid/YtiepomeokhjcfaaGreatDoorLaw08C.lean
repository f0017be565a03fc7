/-
  The statement ObjectChecked, walked. No condition beyond the object's sizes.
-/
import Derived.Test.YtiepomeokhjcfaaGreatDoorRD
import Derived.Test.YtiepomeokhjcfaaGreatDoorBook
import Derived.Test.YtiepomeokhjcfaaGreatDoorErrAs
import Derived.Test.YtiepomeokhjcfaaGreatDoorObjN
namespace Go.Fl
open Go.Proofs Go.RowKit
set_option maxRecDepth 10000
set_option maxHeartbeats 40000000

theorem law08Checked (o : Oj) (a a' : Option Addr) (c c' : Nat) (hz : SzT o) (hzM : SzM o) (hsl : o.sel.length ≤ 1048576) : RetIf Tryz.prog 3 [(ov o a c a' c').val] (fun w => (LabAt w a o.labs ∧ LabAt w a' o.sel) ∧ Laid w) (.bool true) := by
  have hn : o.labs.length ≤ 4398046511000 := by have := hzM.2.1; omega
  have hn' : o.sel.length ≤ 4398046511000 := by omega
  have hsz := szOf hzM
  refine ret_start1 Tryz.func3 rfl rfl rfl (fun w0 hw => ?_)
  obtain ⟨⟨hw, hw'⟩, hL⟩ := hw
  refine vstart [(0, ov o a c a' c')] [] [] ?_
  refine vwith (pt := .run _) _ _ [] tabOk lent_nil fun go => ?_
  apply go 300
  repeat' (first | apply And.intro | intro _)
  all_goals try (first | (show Here _ _ _ _; try (exfalso; omega)) | exact trivial | omega | kernel_rfl | exact rfl)
  refine vcc rfl rfl (by kernel_rfl) (lentObject o a a' c c' hn hn') (by exact fun _ h => ⟨hw.st h, hw'.st h⟩) ?_
  rintro _ q1 ⟨g1, k1, g2, k2, rfl, hk1, hk2, hm1, hm2⟩
  refine ⟨ov o (some ⟨g1, 0, none⟩) k1 (some ⟨g2, 0, none⟩) k2, rfl, ?_⟩
  have hl1 := rdL_take hm1
  have hl2 := rdL_take hm2
  have hdl := def_labs o
  have hds := def_sel o
  have hN := New o (some ⟨g1, 0, none⟩) (some ⟨g2, 0, none⟩) k1 k2 hn hn' hsz
  have hC := CheckO o (some ⟨g1, 0, none⟩) (some ⟨g2, 0, none⟩) k1 k2 hn hn' hsz
  have hD := Default o (some ⟨g1, 0, none⟩) (some ⟨g2, 0, none⟩) k1 k2 hn hn' hsz
  have hrD := rDefault o a a' c c' hn hn' hzM
  generalize defO o = d at *
  have hn2 : d.labs.length ≤ 4398046511000 := by rw [hdl]; exact hn
  have hn3 : d.sel.length ≤ 4398046511000 := by rw [hds]; exact hn'
  apply go 300
  repeat' (first | apply And.intro | intro _)
  all_goals try (first | (show Here _ _ _ _; try (exfalso; omega)) | exact trivial | omega | kernel_rfl | exact rfl)
  refine vcc rfl rfl (by kernel_rfl) hD (by exact fun _ h => ⟨hl1 _ _ _ _ (fun y hy => by simp [hy]) h, hl2 _ _ _ _ (fun y hy => by simp [hy]) h⟩) ?_
  rintro _ q2 ⟨x1, d1, x2, d2, rfl, hd1, ⟨hd2, ho1⟩, hr1, hr2⟩
  refine ⟨ov d x1 d1 x2 d2, rfl, ?_⟩
  apply go 300
  repeat' (first | apply And.intro | intro _)
  all_goals try (first | (show Here _ _ _ _; try (exfalso; omega)) | exact trivial | omega | kernel_rfl | exact rfl)
  refine vcc rfl rfl (by kernel_rfl) hD (by exact fun _ h => ⟨hl1 _ _ _ _ (fun y hy => by simp [hy]) h, hl2 _ _ _ _ (fun y hy => by simp [hy]) h⟩) ?_
  rintro _ q3 ⟨x3, d3, x4, d4, rfl, hd3, ⟨hd4, ho3⟩, hr3, hr4⟩
  refine ⟨ov d x3 d3 x4 d4, rfl, ?_⟩
  apply go 300
  repeat' (first | apply And.intro | intro _)
  all_goals try (first | (show Here _ _ _ _; try (exfalso; omega)) | exact trivial | omega | kernel_rfl | exact rfl)
  refine vdraw (flagsOf _) (by kernel_rfl) (by decide +kernel) (flags_len _) ?_
  apply go 300
  repeat' (first | apply And.intro | intro _)
  all_goals try (first | (show Here _ _ _ _; try (exfalso; omega)) | exact trivial | omega | kernel_rfl | exact rfl)
  refine vcallD (v := .raw (errN (chkO o))) rfl rfl (by kernel_rfl) hC (by exact fun _ h => ⟨⟨hl1 _ _ _ _ (fun y hy => by simp [hy]) h, hl2 _ _ _ _ (fun y hy => by simp [hy]) h⟩, hL.st h⟩) ?_
  apply go 300
  repeat' (first | apply And.intro | intro _)
  all_goals try (first | (show Here _ _ _ _; try (exfalso; omega)) | exact trivial | omega | kernel_rfl | exact rfl)
  refine vcallD (v := .int .i64 (chkO o)) rfl rfl (by kernel_rfl) (rCheckO o a a' c c' hn hn' hz hzM) (by exact fun _ h => ⟨hw.st h, hw'.st h⟩) ?_
  apply go 300
  repeat' (first | apply And.intro | intro _)
  all_goals try (first | (show Here _ _ _ _; try (exfalso; omega)) | exact trivial | omega | kernel_rfl | exact rfl)
  refine vcallD (v := .bl true) rfl rfl (by kernel_rfl) (plainW (chkO o) (chk_range o)) (by exact fun _ h => hL.st h) ?_
  apply go 300
  repeat' (first | apply And.intro | intro _)
  all_goals try (first | (show Here _ _ _ _; try (exfalso; omega)) | exact trivial | omega | kernel_rfl | exact rfl)
  refine vcallD (v := .raw (errN (newO o))) rfl rfl (by kernel_rfl) hN (by exact fun _ h => ⟨⟨hl1 _ _ _ _ (fun y hy => by simp [hy]) h, hl2 _ _ _ _ (fun y hy => by simp [hy]) h⟩, hL.st h⟩) ?_
  apply go 300
  repeat' (first | apply And.intro | intro _)
  all_goals try (first | (show Here _ _ _ _; try (exfalso; omega)) | exact trivial | omega | kernel_rfl | exact rfl)
  refine vcallD (v := .int .i64 (newO o)) rfl rfl (by kernel_rfl) (rNewO o a a' c c' hn hn' hz hzM) (by exact fun _ h => ⟨hw.st h, hw'.st h⟩) ?_
  apply go 300
  repeat' (first | apply And.intro | intro _)
  all_goals try (first | (show Here _ _ _ _; try (exfalso; omega)) | exact trivial | omega | kernel_rfl | exact rfl)
  refine vcallD (v := .bl true) rfl rfl (by kernel_rfl) (plainW (newO o) (new_range o)) (by exact fun _ h => hL.st h) ?_
  apply go 300
  repeat' (first | apply And.intro | intro _)
  all_goals try (first | (show Here _ _ _ _; try (exfalso; omega)) | exact trivial | omega | kernel_rfl | exact rfl)
  refine vcc rfl rfl (by kernel_rfl) hrD (by exact fun _ h => ⟨hw.st h, hw'.st h⟩) ?_
  rintro _ q4 ⟨x5, d5, x6, d6, rfl, hd5, hd6, hr5, hr6⟩
  refine ⟨ov d x5 d5 x6 d6, rfl, ?_⟩
  apply go 300
  repeat' (first | apply And.intro | intro _)
  all_goals try (first | (show Here _ _ _ _; try (exfalso; omega)) | exact trivial | omega | kernel_rfl | exact rfl)
  refine vdraw [1, 1, 1, 0, 0, 1, 1, 1, 0, 0, 0, 1, 1, 0, 1, 0, 1, 1, 0, 0] (by kernel_rfl) (by decide +kernel) rfl ?_
  apply go 300
  repeat' (first | apply And.intro | intro _)
  all_goals try (first | (show Here _ _ _ _; try (exfalso; omega)) | exact trivial | omega | kernel_rfl | exact rfl)
  refine vcallD (v := .bl true) rfl rfl (by kernel_rfl) (same_self d x1 x2 x5 x6 d1 d2 d5 d6 hn2 hn3) (by exact fun _ h => ⟨⟨hr1 _ _ _ _ (fun y hy => by simp [hy]) h, hr2 _ _ _ _ (fun y hy => by simp [hy]) h⟩, hr5 _ _ _ _ (fun y hy => by simp [hy]) h, hr6 _ _ _ _ (fun y hy => by simp [hy]) h⟩) ?_
  apply go 300
  repeat' (first | apply And.intro | intro _)
  all_goals try (first | (show Here _ _ _ _; try (exfalso; omega)) | exact trivial | omega | kernel_rfl | exact rfl)
  refine vcallD (v := .bl true) rfl rfl (by kernel_rfl) (same_self d x3 x4 x5 x6 d3 d4 d5 d6 hn2 hn3) (by exact fun _ h => ⟨⟨hr3 _ _ _ _ (fun y hy => by simp [hy]) h, hr4 _ _ _ _ (fun y hy => by simp [hy]) h⟩, hr5 _ _ _ _ (fun y hy => by simp [hy]) h, hr6 _ _ _ _ (fun y hy => by simp [hy]) h⟩) ?_
  apply go 300
  repeat' (first | apply And.intro | intro _)
  all_goals try (first | (show Here _ _ _ _; try (exfalso; omega)) | exact trivial | omega | kernel_rfl | exact rfl)
  refine vcallD (v := .agg [.int .i64 o.kind, .str o.name]) rfl rfl (by kernel_rfl) (KeyOf o (some ⟨g1, 0, none⟩) (some ⟨g2, 0, none⟩) k1 k2) (by exact fun _ _ => trivial) ?_
  apply go 300
  repeat' (first | apply And.intro | intro _)
  all_goals try (first | (show Here _ _ _ _; try (exfalso; omega)) | exact trivial | omega | kernel_rfl | exact rfl)
  · exact absurd ⟨rfl, rfl, trivial⟩ ‹¬ (o.kind = o.kind ∧ tl o.name = tl o.name ∧ True)›
  rename_i b1 b3 b4 b5 b6 _ bk
  refine vccp (bs := [bookB bk (.slice none 0 0)]) (qs := _) rfl rfl (by kernel_rfl) (List.perm_middle (l₁ := [_, _, _, _, _])).symm (bookObject [] (.slice none 0 0) [] bk d x1 x2 d1 d2 (Or.inl ⟨rfl, rfl, rfl⟩) (by simp)) (by exact fun _ _ => trivial) ?_
  rintro _ _ ⟨v1, p1, rfl, rfl, hO1⟩
  refine ⟨.tup [], rfl, ?_⟩
  refine vopenP [⟨b1, 27, .var (ocs o (labV o.labs a c) (labV o.sel a' c')), []⟩, ⟨b3, 27, .var (ocs o (labV o.labs (some ⟨g1, 0, none⟩) k1) (labV o.sel (some ⟨g2, 0, none⟩) k2)), []⟩, ⟨b4, 27, .var (ocs d (labV d.labs x1 d1) (labV d.sel x2 d2)), []⟩, ⟨b5, 27, .var (ocs d (labV d.labs x3 d3) (labV d.sel x4 d4)), []⟩, ⟨b6, 27, .var (ocs d (labV d.labs x5 d5) (labV d.sel x6 d6)), []⟩]
    ((bookB bk v1 :: p1) ++ (q4 ++ (q3 ++ (q2 ++ (q1 ++ []))))) (List.perm_append_comm_assoc _ _ _) ?_
  apply go 300
  repeat' (first | apply And.intro | intro _)
  all_goals try (first | (show Here _ _ _ _; try (exfalso; omega)) | exact trivial | omega | kernel_rfl | exact rfl)
  refine vccp (bs := bookB bk v1 :: p1) (qs := _) rfl rfl (by kernel_rfl) (List.perm_append_comm_assoc _ _ _) (bookObject _ v1 p1 bk d x3 x4 d3 d4 hO1 (by simp)) (by exact fun _ _ => trivial) ?_
  rintro _ _ ⟨v2, p2, rfl, rfl, hO2⟩
  refine ⟨.tup [], rfl, ?_⟩
  obtain ⟨f0, f1, hf0, hf1, hfp⟩ := ho1
  obtain ⟨f2, f3, hf2, hf3, hgp⟩ := ho3
  have hA := bookApart4 bk hO2 hf0 hf1 hf2 hf3 (by rw [hdl]; exact hzM.2.1) (by rw [hds]; exact hsl) (by rw [hdl]; exact hzM.2.1) (by rw [hds]; exact hsl)
  refine vopenP [⟨b1, 27, .var (ocs o (labV o.labs a c) (labV o.sel a' c')), []⟩, ⟨b3, 27, .var (ocs o (labV o.labs (some ⟨g1, 0, none⟩) k1) (labV o.sel (some ⟨g2, 0, none⟩) k2)), []⟩, ⟨b4, 27, .var (ocs d (labV d.labs x1 d1) (labV d.sel x2 d2)), []⟩, ⟨b5, 27, .var (ocs d (labV d.labs x3 d3) (labV d.sel x4 d4)), []⟩, ⟨b6, 27, .var (ocs d (labV d.labs x5 d5) (labV d.sel x6 d6)), []⟩]
    ((bookB bk v2 :: p2) ++ (q4 ++ (q3 ++ (q2 ++ (q1 ++ []))))) (List.perm_append_comm_assoc _ _ _) ?_
  refine vtl ((bookB bk v2 :: (p2 ++ (f0 ++ (f1 ++ (f2 ++ (f3 ++ [])))))) ++ q1) ((bookB bk v2 :: (p2 ++ (f0 ++ (f1 ++ (f2 ++ (f3 ++ [])))))) ++ (q1 ++ q4)) ?_ ((List.Sublist.refl _).append (List.sublist_append_left _ _)) ?_
  · classical
    refine List.perm_iff_count.2 fun x => ?_
    have e1 := hfp.count_eq x
    have e2 := hgp.count_eq x
    simp only [List.count_append, List.count_cons, List.count_nil] at e1 e2 ⊢
    omega
  apply go 300
  repeat' (first | apply And.intro | intro _)
  all_goals try (first | (show Here _ _ _ _; try (exfalso; omega)) | exact trivial | omega | kernel_rfl | exact rfl)
  refine vccp (bs := bookB bk v2 :: (p2 ++ (f0 ++ (f1 ++ (f2 ++ (f3 ++ [])))))) (qs := _) rfl rfl (by kernel_rfl) (List.perm_append_comm_assoc _ _ _) hA (by exact fun _ _ => trivial) ?_
  rintro _ p3 rfl
  refine ⟨.bl true, rfl, ?_⟩
  refine vopenP [⟨b1, 27, .var (ocs o (labV o.labs a c) (labV o.sel a' c')), []⟩, ⟨b3, 27, .var (ocs o (labV o.labs (some ⟨g1, 0, none⟩) k1) (labV o.sel (some ⟨g2, 0, none⟩) k2)), []⟩, ⟨b4, 27, .var (ocs d (labV d.labs x1 d1) (labV d.sel x2 d2)), []⟩, ⟨b5, 27, .var (ocs d (labV d.labs x3 d3) (labV d.sel x4 d4)), []⟩, ⟨b6, 27, .var (ocs d (labV d.labs x5 d5) (labV d.sel x6 d6)), []⟩]
    (p3 ++ q1) (List.perm_append_comm_assoc _ _ _) ?_
  apply go 300
  repeat' (first | apply And.intro | intro _)
  all_goals try (first | (show Here _ _ _ _; try (exfalso; omega)) | exact trivial | omega | kernel_rfl | exact rfl)
  refine vcall (v := .bl true) rfl rfl (by kernel_rfl) (keptObject o a a' c c' g1 k1 g2 k2 hn hn' hk1 hk2) (by exact fun _ h => ⟨⟨hm1 _ _ _ _ (fun y hy => by simp [hy]) h, hm2 _ _ _ _ (fun y hy => by simp [hy]) h⟩, hw.st h, hw'.st h⟩) ?_
  apply go 300
  repeat' (first | apply And.intro | intro _)
  all_goals try (first | (show Here _ _ _ _; try (exfalso; omega)) | exact trivial | omega | kernel_rfl | exact rfl)
  exact vr1 rfl rfl rfl
end Go.Fl
