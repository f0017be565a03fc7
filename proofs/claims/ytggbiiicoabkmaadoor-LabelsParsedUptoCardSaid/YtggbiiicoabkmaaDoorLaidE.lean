/-
  From a row's list of what start-up laid to the errors' type; the bounds of an int. No condition.
-/
import Derived.Test.YtggbiiicoabkmaaDoorLaidN
import Derived.Test.YtggbiiicoabkmaaDoorLaidH
namespace Go.Fl
open Go.Proofs Go.Proofs.YtggbiiicoabkmaaDoor Go.ChangeShapes Go.WideShapes Go.RowKit
set_option maxRecDepth 10000
theorem laid_of {W : World} {l : List (String × DataW Unit)} (h : laidMetH Tryd.prog l W) (hf : l.filter (fun x => x.1 == "errors.errorType") = [("errors.errorType", Rows.laid_errors_errorType)]) : Laid W := by
  have h1 := h.filter (fun x => x.1 == "errors.errorType")
  rw [hf] at h1
  have h' : laidMet Tryd.prog [] W ∧ handlesMet Tryd.prog [("errors.errorType", Rows.laid_errors_errorType)] W := h1
  exact laid_of_handle h'.2 (List.mem_singleton.2 rfl)
theorem int_bd {n : Int} (h : (Lit.int .i64 n).wf = true) : -9223372036854775808 ≤ n ∧ n ≤ 9223372036854775807 := by
  have a1 : IntKind.i64.min = -9223372036854775808 := rfl
  have a2 : IntKind.i64.max = 9223372036854775807 := rfl
  simp only [Lit.wf, Bool.and_eq_true, decide_eq_true_eq] at h
  omega
end Go.Fl
