/- What the kernel has run: the law's own closed test is true. -/
import Derived.Test.YtoldihdlpdccnaaRow0
import Derived.Test.YtoldihdlpdccnaaAb24
namespace Go.Proofs.Ytoldihdlpdccnaa
open Go Go.Ab
theorem live_ok : closedRun Try.prog 1000 20 10 [] isTrueV = true := by
  set_option maxRecDepth 1000000 in kernel_rfl
end Go.Proofs.Ytoldihdlpdccnaa
