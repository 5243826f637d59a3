/- Bodies of frames, read: how many bits they have, and what they say (the package frame), as contracts. -/
import Derived.Test.YtdhmjnpaoacpfaaDoorTypes
import Derived.Test.YtdhmjnpaoacpfaaDoorRow0
import Derived.Test.YtdhmjnpaoacpfaaDoorAbC
import Derived.Test.YtdhmjnpaoacpfaaDoorBits
import Derived.Test.YtdhmjnpaoacpfaaDoorOwnOf
import Derived.Test.YtdhmjnpaoacpfaaDoorPack
import Derived.Test.YtdhmjnpaoacpfaaDoorPure
import Derived.Test.YtdhmjnpaoacpfaaDoorRight
import Derived.Test.YtdhmjnpaoacpfaaDoorBytes
import Derived.Test.YtdhmjnpaoacpfaaDoorBoxes
import Derived.Test.YtdhmjnpaoacpfaaDoorBody
import Derived.Test.YtdhmjnpaoacpfaaDoorCrcMore
set_option linter.all false
set_option maxRecDepth 20000
namespace Go.Proofs.YtdhmjnpaoacpfaaDoor
open Go Go.Ab
variable {base : Nat} [Bok base] {s : St} {R : Value → St → Prop}
/-! ### What a body's beginning tells -/
/-! ### A body, read -/
end Go.Proofs.YtdhmjnpaoacpfaaDoor
