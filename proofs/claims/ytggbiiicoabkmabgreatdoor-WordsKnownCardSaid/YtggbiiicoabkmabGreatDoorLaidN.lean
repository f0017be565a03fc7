/-
  From a row's list of what start-up laid to what the walks ask: the table of powers of ten, strconv's two errors. No condition.
-/
import Derived.Test.YtggbiiicoabkmabGreatDoorAtoi
import Derived.Test.YtggbiiicoabkmabGreatDoorRows
import Derived.LaidLaws
import Derived.LaidHandle
import Derived.LaidSub
import Derived.MakeChecks
import Derived.Stop.Joined
import Derived.Stop.LaidErr
namespace Go.Fl
open Go.Proofs Go.Proofs.YtggbiiicoabkmabGreatDoor Go.ChangeShapes Go.WideShapes Go.RowKit
set_option maxRecDepth 10000

theorem laid_one {W : World} {l : List (String × DataW Unit)} (h : laidMetH Tryz.prog l W) (keep : String × DataW Unit → Bool) (x : String × DataW Unit) (hl : l.filter keep = [x]) (hx : x.2.handleName?.isNone = true) : laidMet Tryz.prog [x] W := by
  have h1 := h.filter keep
  rw [hl, MakeChecks.laidMetH_plain Tryz.prog [x] W (by simp [hx])] at h1
  exact h1

theorem g_p10 : Tryz.prog.globalNamed "internal/strconv.uint64pow10" = some 4 := by kernel_rfl
theorem g_syn : Tryz.prog.globalNamed "strconv.ErrSyntax" = some 2 := by kernel_rfl
theorem g_rng : Tryz.prog.globalNamed "strconv.ErrRange" = some 3 := by kernel_rfl
theorem star : "*" ++ "errors.errorString" = "*errors.errorString" := by decide
theorem row_es (u : TypeId) (h : Tryz.prog.typeName? 3 u = some "*errors.errorString") : u = 200 :=
  typeName_ptr_named (nm := "errors.errorString") (by rw [star]; kernel_rfl) (by kernel_rfl) (by decide) u (by rw [star]; exact h)
theorem laidN_of {W : World} {l : List (String × DataW Unit)} (h : laidMetH Tryz.prog l W)
    (h1 : l.filter (fun x => x.1 == "internal/strconv.uint64pow10") = [("internal/strconv.uint64pow10", Rows.laid_internal_strconv_uint64pow10)])
    (h2 : l.filter (fun x => x.1 == "strconv.ErrSyntax") = [("strconv.ErrSyntax", Rows.laid_strconv_ErrSyntax)])
    (h3 : l.filter (fun x => x.1 == "strconv.ErrRange") = [("strconv.ErrRange", Rows.laid_strconv_ErrRange)]) : LaidN W := by
  have t1 := laid_one h _ _ h1 (by kernel_rfl)
  have t2 := laid_one h _ _ h2 (by kernel_rfl)
  have t3 := laid_one h _ _ h3 (by kernel_rfl)
  obtain ⟨a2, s2, e2, -, -, -⟩ := laid_sentinel t2 g_syn (by kernel_rfl) Tryz.underlying27 row_es Tryz.underlying200 Tryz.underlying202 rfl rfl Tryz.underlying9 (by kernel_rfl) (by kernel_rfl)
  obtain ⟨a3, s3, e3, -, -, -⟩ := laid_sentinel t3 g_rng (by kernel_rfl) Tryz.underlying27 row_es Tryz.underlying200 Tryz.underlying202 rfl rfl Tryz.underlying9 (by kernel_rfl) (by kernel_rfl)
  refine ⟨?_, ⟨200, .pointer (some a2), ?_⟩, ⟨200, .pointer (some a3), ?_⟩⟩
  · exact Lib.tabIs_of_head (t := 197) (e := 169) (n := 20) g_p10 (by kernel_rfl) (by kernel_rfl) (by kernel_rfl) (by kernel_rfl) (by kernel_rfl) (show laidMet Tryz.prog [("internal/strconv.uint64pow10", Lib.tabData .u64 Lib.pow10Tab)] W from t1)
  · have := World.var?_cell g_syn e2 0; simpa using this
  · have := World.var?_cell g_rng e3 0; simpa using this
end Go.Fl
