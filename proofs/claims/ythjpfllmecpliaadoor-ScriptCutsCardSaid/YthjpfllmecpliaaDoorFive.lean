import Derived.Test.YthjpfllmecpliaaDoorTypes
import Derived.Test.YthjpfllmecpliaaDoorRow0
import Derived.Test.YthjpfllmecpliaaDoorAbC
import Derived.Test.YthjpfllmecpliaaDoorBits
import Derived.Test.YthjpfllmecpliaaDoorPure
import Derived.Test.YthjpfllmecpliaaDoorRight
/- Keys by which frames win the bus: the package ident, and bellbuoyref05; as contracts. -/
set_option linter.all false
set_option maxRecDepth 20000
namespace Go.Proofs.YthjpfllmecpliaaDoor
open Go Go.Ab
variable {base : Nat} [Bok base] {s : St} {R : Value → St → Prop}
def ask (r : Bool) : Nat := if r then 1 else 0
def keyN (e : Bool) (n : Nat) (r : Bool) : Nat :=
  if idOk e n then (if e then ((n / 262144 * 4 + 3) * 262144 + n % 262144) * 2 + ask r else (n * 2 + ask r) * 1048576) else 0
/-! ### The document's -/
/-! ### Numbers compared -/
end Go.Proofs.YthjpfllmecpliaaDoor
