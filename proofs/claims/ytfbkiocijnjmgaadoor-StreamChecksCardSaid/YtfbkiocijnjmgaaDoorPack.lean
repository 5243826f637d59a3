import Derived.Test.YtfbkiocijnjmgaaDoorTypes
import Derived.Test.YtfbkiocijnjmgaaDoorRow0
import Derived.Test.YtfbkiocijnjmgaaDoorAbC
import Derived.Test.YtfbkiocijnjmgaaDoorBits
/- The package strand: Pack and Unpack, as contracts. -/
set_option linter.all false
set_option maxRecDepth 20000
namespace Go.Proofs.YtfbkiocijnjmgaaDoor
open Go Go.Ab
variable {base : Nat} {s : St} {R : Value → St → Prop}
end Go.Proofs.YtfbkiocijnjmgaaDoor
