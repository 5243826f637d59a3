/- What is asked once of this seat's program, and what is laid there. -/
import Derived.Test.YthjpfllmecpliaaDoorRows
import Derived.Test.YthjpfllmecpliaaDoorAbC
import Derived.Shelf.Vars
namespace Go.Proofs.YthjpfllmecpliaaDoor
open Go Go.Ab
theorem own : ownKnob Tryd.prog.godebug = none := by kernel_rfl
theorem laidOut : laidOutB Tryd.prog = true := by kernel_rfl
theorem mixed : Tryd.prog.follows .mixedOrders = true := by kernel_rfl
theorem okProg1 : progOk 5 Tryd.prog = true := by kernel_rfl
theorem boolT : Tryd.prog.underlying 4 = some .bool := by kernel_rfl
end Go.Proofs.YthjpfllmecpliaaDoor
