/- What is asked once of this seat's program. -/
import Derived.Test.YtdllcipkdbhhlaaRows
import Derived.Test.YtdllcipkdbhhlaaAbC
namespace Go.Proofs.Ytdllcipkdbhhlaa
open Go.Ab
theorem own : ownKnob Try.prog.godebug = none := by kernel_rfl
theorem laidOut : laidOutB Try.prog = true := by kernel_rfl
theorem mixed : Try.prog.follows .mixedOrders = true := by kernel_rfl
theorem okProg : progOk 0 Try.prog = true := by kernel_rfl
theorem boolT : Try.prog.underlying 4 = some .bool := by kernel_rfl
end Go.Proofs.Ytdllcipkdbhhlaa
