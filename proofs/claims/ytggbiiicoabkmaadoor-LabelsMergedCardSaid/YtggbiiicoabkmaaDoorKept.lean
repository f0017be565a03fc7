/-
  flotillakit.KeptLabels. No condition.
-/
import Derived.Test.YtggbiiicoabkmaaDoorVl
import Derived.Test.YtggbiiicoabkmaaDoorApart
namespace Go.Fl
open Go.Proofs Go.RowKit
set_option maxRecDepth 10000
set_option maxHeartbeats 4000000

theorem KeptFull (L : List Lab) (a : Option Addr) (c g cap : Nat) (hn : L.length ≤ 4398046511000) : RetIf Tryd.prog 57 [.slice (some ⟨g, 0, none⟩) (L.length + 16) cap, .slice a L.length c]
    (fun w => LabAt w (some ⟨g, 0, none⟩) (L ++ marks 90 16) ∧ LabAt w a L) (.bool true) := by
  refine ret_start2 Tryd.func57 rfl rfl rfl (fun w0 hw => ?_)
  obtain ⟨hv, hw⟩ := hw
  have hV := hv.go g 0 rfl
  have hml : (L ++ marks 90 16).length = L.length + 16 := by rw [List.length_append, marks_length]
  refine vstart [(0, .sl false 0 g 0 2 none (L.length + 16) cap), (1, .raw (.slice a L.length c))] [] [] ?_
  refine vwith (pt := .run _) [(0, .sl false 0 g 0 2 none (L.length + 16) cap), (1, .raw (.slice a L.length c))] [] [⟨g, 0, .arr cdL (L ++ marks 90 16)⟩] tabOk (lent_lab lent_nil List.not_mem_nil hV) fun go => ?_
  apply go 300
  repeat' (first | apply And.intro | intro _)
  all_goals try (first | (show Here _ _ _ _; try (exfalso; omega)) | exact trivial | omega | kernel_rfl | exact rfl)
  refine vrounds (fun i : Nat => i ≤ L.length + 16) (fun i => L.length + 16 - i) (fun i => [(0, .sl false 0 g 0 2 none (L.length + 16) cap), (1, .raw (.slice a L.length c)), (5, .nat i)]) (fun _ => []) (fun _ => []) 0 (fun i hi ih => ?_) (by simp) ⟨rfl, rfl, rfl, trivial⟩ (List.Sublist.refl _)
  by_cases hl : i < L.length
  · obtain ⟨b, off, rfl⟩ := hw.is (by rintro rfl; simp at hl)
    have hR := hw.go b off rfl
    refine vre [(0, .sl false 0 g 0 2 none (L.length + 16) cap), (1, .sl false 1 b off 2 none L.length c), (5, .nat i)] rfl ?_
    refine vwith (pt := .run _) [(0, .sl false 0 g 0 2 none (L.length + 16) cap), (1, .sl false 1 b off 2 none L.length c), (5, .nat i)] [] [⟨g, 0, .arr cdL (L ++ marks 90 16)⟩, ⟨b, off, .arr cdL L⟩] tabOk (lent_lab (lent_lab lent_nil List.not_mem_nil hR) List.not_mem_nil hV) fun go => ?_
    apply go 300
    repeat' (first | apply And.intro | intro _)
    all_goals try (first | (show Here _ _ _ _; try (exfalso; omega)) | exact trivial | omega | kernel_rfl | exact rfl)
    refine vcall (v := .agg [.str (mark 90 ((i : Int) - (L.length : Int))).1, .str (mark 90 ((i : Int) - (L.length : Int))).2]) rfl rfl (by kernel_rfl) (markLabels _ _) (fun _ _ => trivial) ?_
    apply go 300
    repeat' (first | apply And.intro | intro _)
    all_goals try (first | (show Here _ _ _ _; try (exfalso; omega)) | exact trivial | omega | kernel_rfl | exact rfl)
    refine vdraw (flagsOf _) (by kernel_rfl) (by decide +kernel) (flags_len _) ?_
    apply go 300
    repeat' (first | apply And.intro | intro _)
    all_goals try (first | (show Here _ _ _ _; try (exfalso; omega)) | exact trivial | omega | kernel_rfl | exact rfl)
    · rename_i y1 h1 y2 h2 h3
      rw [List.getElem?_append_left hl, h1] at h2
      cases h2
      exact absurd ⟨rfl, rfl, trivial⟩ h3
    · refine vweak _ _ _ (ih (i + 1) (by omega) (by omega)) ?_ ?_
      · refine ⟨?_, ?_, ?_, ?_⟩
        · exact rfl
        · exact rfl
        · exact rfl
        · exact trivial
      · exact List.nil_sublist _
  · apply go 300
    repeat' (first | apply And.intro | intro _)
    all_goals try (first | (show Here _ _ _ _; try (exfalso; omega)) | exact trivial | omega | kernel_rfl | exact rfl)
    · refine vcall (v := .agg [.str (mark 90 ((i : Int) - (L.length : Int))).1, .str (mark 90 ((i : Int) - (L.length : Int))).2]) rfl rfl (by kernel_rfl) (markLabels _ _) (fun _ _ => trivial) ?_
      apply go 300
      repeat' (first | apply And.intro | intro _)
      all_goals try (first | (show Here _ _ _ _; try (exfalso; omega)) | exact trivial | omega | kernel_rfl | exact rfl)
      refine vdraw (flagsOf _) (by kernel_rfl) (by decide +kernel) (flags_len _) ?_
      apply go 300
      repeat' (first | apply And.intro | intro _)
      all_goals try (first | (show Here _ _ _ _; try (exfalso; omega)) | exact trivial | omega | kernel_rfl | exact rfl)
      · rename_i y2 h2 h3
        rw [List.getElem?_append_right (by omega)] at h2
        have e1 : ((i : Int) - (L.length : Int)) = ((i - L.length : Nat) : Int) := by omega
        simp only [marks, List.getElem?_map] at h2
        rw [List.getElem?_range (by omega)] at h2
        cases h2
        rw [e1] at h3
        exact absurd ⟨rfl, rfl, trivial⟩ h3
      · exact vweak _ _ _ (ih (i + 1) (by omega) (by omega)) ⟨rfl, rfl, rfl, trivial⟩ (List.nil_sublist _)
    · exact vr1 rfl rfl rfl
end Go.Fl
