import Derived.Test.YthjpfllmecpliaaDoorTypes
import Derived.Test.YthjpfllmecpliaaDoorRow0
import Derived.Test.YthjpfllmecpliaaDoorAbC
import Derived.Test.YthjpfllmecpliaaDoorBits
/- The package strand: Of and Number, as contracts. -/
set_option linter.all false
set_option maxRecDepth 20000
namespace Go.Proofs.YthjpfllmecpliaaDoor
open Go Go.Ab
variable {base : Nat} {s : St} {R : Value → St → Prop}
/-- The cells of a list of bytes. -/
def bC (xs : List Nat) : List Value := xs.map fun (b : Nat) => .int .u8 (b : Int)
theorem bC_len (xs : List Nat) : (bC xs).length = xs.length := by simp [bC]
theorem bC_set (xs : List Nat) (i b : Nat) : (bC xs).set i (.int .u8 (b : Int)) = bC (xs.set i b) := by simp [bC, List.map_set]
end Go.Proofs.YthjpfllmecpliaaDoor
