/-
  flotillakit.KeptLabels at a list that LentLabels answered. No condition.
-/
import Derived.Test.YtggbiiicoabkmaaDoorKept
import Derived.Test.YtggbiiicoabkmaaDoorLent
namespace Go.Fl
open Go.Proofs Go.RowKit
set_option maxRecDepth 10000
set_option maxHeartbeats 4000000

theorem KeptLabels (L : List Lab) (a : Option Addr) (c g cap : Nat) (hn : L.length ≤ 4398046511000) (hcap : L.length + 16 ≤ cap) : RetIf Tryd.prog 28 [.slice (some ⟨g, 0, none⟩) L.length cap, .slice a L.length c]
    (fun w => LabAt w (some ⟨g, 0, none⟩) (L ++ marks 90 16) ∧ LabAt w a L) (.bool true) := by
  refine ret_start2 Tryd.func28 rfl rfl rfl (fun w0 hw => ?_)
  refine vstart [(0, .sl false 0 g 0 2 none L.length cap), (1, .raw (.slice a L.length c))] [] [] ?_
  refine vwith (pt := .run _) _ _ [] tabOk lent_nil fun go => ?_
  apply go 300
  repeat' (first | apply And.intro | intro _)
  all_goals try (first | (show Here _ _ _ _; try (exfalso; omega)) | exact trivial | omega | kernel_rfl | exact rfl)
  refine vcall (v := .bl true) rfl rfl (by kernel_rfl) (KeptFull L a c g cap hn) (by exact fun _ h => ⟨hw.1.st h, hw.2.st h⟩) ?_
  apply go 300
  repeat' (first | apply And.intro | intro _)
  all_goals try (first | (show Here _ _ _ _; try (exfalso; omega)) | exact trivial | omega | kernel_rfl | exact rfl)
  exact vr1 rfl rfl rfl
end Go.Fl
