/-
  From a row's list of what start-up laid to what the walks ask: the table of powers of ten, strconv's two errors. No condition.
-/
import Derived.Test.YtggbiiicoabkmaaDoorAtoi
import Derived.Test.YtggbiiicoabkmaaDoorRows
import Derived.LaidLaws
import Derived.LaidHandle
import Derived.LaidSub
import Derived.MakeChecks
import Derived.Stop.Joined
import Derived.Stop.LaidErr
namespace Go.Fl
open Go.Proofs Go.Proofs.YtggbiiicoabkmaaDoor Go.ChangeShapes Go.WideShapes Go.RowKit
set_option maxRecDepth 10000

theorem laid_one {W : World} {l : List (String × DataW Unit)} (h : laidMetH Tryd.prog l W) (keep : String × DataW Unit → Bool) (x : String × DataW Unit) (hl : l.filter keep = [x]) (hx : x.2.handleName?.isNone = true) : laidMet Tryd.prog [x] W := by
  have h1 := h.filter keep
  rw [hl, MakeChecks.laidMetH_plain Tryd.prog [x] W (by simp [hx])] at h1
  exact h1

theorem g_p10 : Tryd.prog.globalNamed "internal/strconv.uint64pow10" = some 6 := by kernel_rfl
theorem g_syn : Tryd.prog.globalNamed "strconv.ErrSyntax" = some 2 := by kernel_rfl
theorem g_rng : Tryd.prog.globalNamed "strconv.ErrRange" = some 3 := by kernel_rfl
theorem star : "*" ++ "errors.errorString" = "*errors.errorString" := by decide
theorem row_es (u : TypeId) (h : Tryd.prog.typeName? 3 u = some "*errors.errorString") : u = 208 :=
  typeName_ptr_named (nm := "errors.errorString") (by rw [star]; kernel_rfl) (by kernel_rfl) (by decide) u (by rw [star]; exact h)
theorem laidN_of {W : World} {l : List (String × DataW Unit)} (h : laidMetH Tryd.prog l W)
    (h1 : l.filter (fun x => x.1 == "internal/strconv.uint64pow10") = [("internal/strconv.uint64pow10", Rows.laid_internal_strconv_uint64pow10)])
    (h2 : l.filter (fun x => x.1 == "strconv.ErrSyntax") = [("strconv.ErrSyntax", Rows.laid_strconv_ErrSyntax)])
    (h3 : l.filter (fun x => x.1 == "strconv.ErrRange") = [("strconv.ErrRange", Rows.laid_strconv_ErrRange)]) : LaidN W := by
  have t1 := laid_one h _ _ h1 (by kernel_rfl)
  have t2 := laid_one h _ _ h2 (by kernel_rfl)
  have t3 := laid_one h _ _ h3 (by kernel_rfl)
  obtain ⟨a2, s2, e2, -, -, -⟩ := laid_sentinel t2 g_syn (by kernel_rfl) Tryd.underlying24 row_es Tryd.underlying208 Tryd.underlying210 rfl rfl Tryd.underlying9 (by kernel_rfl) (by kernel_rfl)
  obtain ⟨a3, s3, e3, -, -, -⟩ := laid_sentinel t3 g_rng (by kernel_rfl) Tryd.underlying24 row_es Tryd.underlying208 Tryd.underlying210 rfl rfl Tryd.underlying9 (by kernel_rfl) (by kernel_rfl)
  refine ⟨?_, ⟨208, .pointer (some a2), ?_⟩, ⟨208, .pointer (some a3), ?_⟩⟩
  · exact Lib.tabIs_of_head (t := 205) (e := 124) (n := 20) g_p10 (by kernel_rfl) (by kernel_rfl) (by kernel_rfl) (by kernel_rfl) (by kernel_rfl) (show laidMet Tryd.prog [("internal/strconv.uint64pow10", Lib.tabData .u64 Lib.pow10Tab)] W from t1)
  · have := World.var?_cell g_syn e2 0; simpa using this
  · have := World.var?_cell g_rng e3 0; simpa using this
end Go.Fl
