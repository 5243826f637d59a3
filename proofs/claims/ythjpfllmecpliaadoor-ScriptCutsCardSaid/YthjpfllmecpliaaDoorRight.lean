import Derived.Test.YthjpfllmecpliaaDoorTypes
import Derived.Test.YthjpfllmecpliaaDoorRow0
import Derived.Test.YthjpfllmecpliaaDoorAbC
import Derived.Test.YthjpfllmecpliaaDoorOwnOf
import Derived.Test.YthjpfllmecpliaaDoorPure
/- Frames that can be (frame.Right, bellbuoyref06.Right), and identifiers that can be, as contracts. -/
set_option linter.all false
set_option maxRecDepth 20000
namespace Go.Proofs.YthjpfllmecpliaaDoor
open Go Go.Ab
variable {base : Nat} [Bok base] {s : St} {R : Value → St → Prop}
def idOk (e : Bool) (n : Nat) : Bool := decide (n < if e then 536870912 else 2048)
/-! ### Which byte is the first of which something holds -/
/-! ### Frames -/
def rightF (e : Bool) (n : Nat) (r : Bool) (l : Int) (ds : List Nat) : Int :=
  if idOk e n = false then 1 else if l < 0 ∨ 8 < l then 2 else if (ds.drop (if r then 0 else l.toNat)).any (fun x => x != 0) then 3 else 0
/-! ### Frames that are handed in -/
end Go.Proofs.YthjpfllmecpliaaDoor
