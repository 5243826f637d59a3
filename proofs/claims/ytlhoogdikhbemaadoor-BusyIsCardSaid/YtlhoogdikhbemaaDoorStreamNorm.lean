/- Streams that can be, of any ones. -/
import Derived.Test.YtlhoogdikhbemaaDoorTypes
import Derived.Test.YtlhoogdikhbemaaDoorRow0
import Derived.Test.YtlhoogdikhbemaaDoorAbC
import Derived.Test.YtlhoogdikhbemaaDoorPure
import Derived.Test.YtlhoogdikhbemaaDoorBoxes
import Derived.Test.YtlhoogdikhbemaaDoorStream
set_option linter.all false
set_option maxRecDepth 20000
namespace Go.Proofs.YtlhoogdikhbemaaDoor
open Go Go.Ab
/-! ### Streams that can be -/
variable {base : Nat} [Bok base] {s : St} {R : Value → St → Prop}
end Go.Proofs.YtlhoogdikhbemaaDoor
