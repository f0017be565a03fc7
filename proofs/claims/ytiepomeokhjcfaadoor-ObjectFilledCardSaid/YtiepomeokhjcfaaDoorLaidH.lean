/-
  What start-up laid of the errors' type. No condition.
-/
import Derived.Test.YtiepomeokhjcfaaDoorErrL
import Derived.Test.YtiepomeokhjcfaaDoorRows
import Derived.LaidLaws
import Derived.LaidHandle
import Derived.LaidSub
import Derived.Stop.Joined
namespace Go.Fl
open Go.Proofs Go.Proofs.YtiepomeokhjcfaaDoor Go.ChangeShapes Go.WideShapes Go.RowKit
set_option maxRecDepth 10000
theorem g_et : Tryd.prog.globalNamed "errors.errorType" = some 0 := by kernel_rfl
theorem g_rt : (Tryd.prog.cutTypes.find? (·.1 == "internal/reflectlite.rtype")).map (·.2) = some 135 := by kernel_rfl
theorem g_row : ((List.range Tryd.prog.types.size).filter fun t => Tryd.prog.rowNamed t [101, 114, 114, 111, 114]) = [44] := by kernel_rfl
theorem laid_of_handle {W : World} {l : List (String × DataW Unit)} (h : handlesMet Tryd.prog l W) (hm : ("errors.errorType", Rows.laid_errors_errorType) ∈ l) : Laid W := by
  obtain ⟨name, u, ty, e1, e2, e3, e4, e5⟩ := h _ hm
  have en : name = [101, 114, 114, 111, 114] := (Option.some.inj e1).symm
  subst en
  obtain rfl := Option.some.inj (g_rt.symm.trans e2)
  have hm : ty ∈ (List.range Tryd.prog.types.size).filter fun t => Tryd.prog.rowNamed t [101, 114, 114, 111, 114] := List.mem_filter.2 ⟨List.mem_range.2 e3, e4⟩
  rw [g_row] at hm
  obtain rfl := List.mem_singleton.1 hm
  have hh : typeHandle Tryd.prog 44 = han 44 := by kernel_rfl
  rw [hh] at e5
  have h0 := World.var?_cell g_et e5 0
  simp at h0
  exact h0
end Go.Fl
