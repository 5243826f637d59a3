/- What the kernel has run: the law's own closed test is true. -/
import Derived.Test.YtghigcdpinogaaaRow0
import Derived.Test.YtghigcdpinogaaaAbC
namespace Go.Proofs.Ytghigcdpinogaaa
open Go Go.Ab
theorem live_ok : closedRun Try.prog 1000 20 12 [] isTrueV = true := by
  set_option maxRecDepth 1000000 in kernel_rfl
end Go.Proofs.Ytghigcdpinogaaa
