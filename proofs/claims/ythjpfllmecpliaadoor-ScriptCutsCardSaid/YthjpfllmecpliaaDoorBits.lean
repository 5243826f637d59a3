import Derived.Test.YthjpfllmecpliaaDoorTypes
import Derived.Test.YthjpfllmecpliaaDoorRow0
import Derived.Test.YthjpfllmecpliaaDoorAbC
/- Lists of bits, as memory and as numbers. -/
set_option linter.all false
set_option maxRecDepth 20000
namespace Go.Proofs.YthjpfllmecpliaaDoor
open Go Go.Ab
variable {base : Nat} {s : St} {R : Value → St → Prop}
def one (b : Nat) : Nat := if b = 0 then 0 else 1
end Go.Proofs.YthjpfllmecpliaaDoor
