import Derived.Test.YthjpfllmecpliaaDoorTypes
import Derived.Test.YthjpfllmecpliaaDoorRow0
import Derived.Test.YthjpfllmecpliaaDoorAbC
import Derived.Test.YthjpfllmecpliaaDoorBits
/- The package strand's Run; the document's Run, Same, Pack and Unpack; as contracts. -/
set_option linter.all false
set_option maxRecDepth 20000
namespace Go.Proofs.YthjpfllmecpliaaDoor
open Go Go.Ab
variable {base : Nat} {s : St} {R : Value → St → Prop}
/-! ### Runs -/
def rn (xs : List Nat) : Nat → Nat
  | 0 => 0
  | i + 1 => if i ≠ 0 ∧ one (xs.getD i 0) = one (xs.getD (i - 1) 0) then rn xs i + 1 else 1
def rm (xs : List Nat) : Nat → Nat
  | 0 => 0
  | i + 1 => max (rm xs i) (rn xs (i + 1))
end Go.Proofs.YthjpfllmecpliaaDoor
