/- A few streams that can be, as a contract. -/
import Derived.Test.YtlhoogdikhbemaaDoorTypes
import Derived.Test.YtlhoogdikhbemaaDoorRow0
import Derived.Test.YtlhoogdikhbemaaDoorAbC
import Derived.Test.YtlhoogdikhbemaaDoorPure
import Derived.Test.YtlhoogdikhbemaaDoorBoxes
import Derived.Test.YtlhoogdikhbemaaDoorStreamList
import Derived.Test.YtlhoogdikhbemaaDoorStreamNorm
set_option linter.all false
set_option maxRecDepth 20000
namespace Go.Proofs.YtlhoogdikhbemaaDoor
open Go Go.Ab
variable {base : Nat} [Bok base] {s : St} {R : Value → St → Prop}
end Go.Proofs.YtlhoogdikhbemaaDoor
