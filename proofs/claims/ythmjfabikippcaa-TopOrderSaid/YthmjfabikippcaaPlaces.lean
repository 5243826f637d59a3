/- The package strand: going through a string's bits. -/
import Derived.Test.YthmjfabikippcaaBits
set_option linter.unusedSimpArgs false
set_option linter.unusedVariables false
namespace Go.Proofs.Ythmjfabikippcaa
open Go Go.Ab
variable {base : Nat} {s : St} {R : Value → St → Prop}
end Go.Proofs.Ythmjfabikippcaa
