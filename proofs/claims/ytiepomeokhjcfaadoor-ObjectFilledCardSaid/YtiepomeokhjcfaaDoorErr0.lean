/-
  The program's errors; types as reflectlite has them. No condition.
-/
import Derived.Test.YtiepomeokhjcfaaDoorIface
namespace Go.Fl
open Go.Proofs Go.Extern Go.Extern.Stop Go.Stop
set_option maxRecDepth 10000

def gN : Nat := 7
def han (t : TypeId) : Go.Value := .pointer (some ⟨gN, t, none⟩)
def rty (t : TypeId) : Go.Value := .iface 135 (.agg #[han t])
def errno (n : Int) : Go.Value := .iface 79 (.int .i64 n)
def fault (n i : Int) : Go.Value := .iface 87 (.agg #[.int .i64 n, .int .i64 i])

end Go.Fl
