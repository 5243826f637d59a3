import Derived.Test.YtlhoogdikhbemaaDoorTypes
import Derived.Test.YtlhoogdikhbemaaDoorRow0
import Derived.Test.YtlhoogdikhbemaaDoorAbC
import Derived.Test.YtlhoogdikhbemaaDoorBits
/- The package strand, and its document: Clean, Flip, Same, Number, and Of where there is nothing; as contracts. -/
set_option linter.all false
set_option maxRecDepth 20000
namespace Go.Proofs.YtlhoogdikhbemaaDoor
open Go Go.Ab
variable {base : Nat} {s : St} {R : Value → St → Prop}
end Go.Proofs.YtlhoogdikhbemaaDoor
