/- What the kernel has run: the law's own closed test is true. -/
import Derived.Test.YtdllcipkdbhhlaaRow0
import Derived.Test.YtdllcipkdbhhlaaAbC
namespace Go.Proofs.Ytdllcipkdbhhlaa
open Go Go.Ab
theorem live_ok : closedRun Try.prog 1000 20 9 [] isTrueV = true := by
  set_option maxRecDepth 1000000 in kernel_rfl
end Go.Proofs.Ytdllcipkdbhhlaa
