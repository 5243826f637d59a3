/- What the kernel has run: the law's own closed test is true. -/
import Derived.Test.YtnhedpdemmbfnaaRow0
import Derived.Test.YtnhedpdemmbfnaaAb24
namespace Go.Proofs.Ytnhedpdemmbfnaa
open Go Go.Ab
theorem live_ok : closedRun Try.prog 1000 20 12 [] isTrueV = true := by
  set_option maxRecDepth 1000000 in kernel_rfl
end Go.Proofs.Ytnhedpdemmbfnaa
