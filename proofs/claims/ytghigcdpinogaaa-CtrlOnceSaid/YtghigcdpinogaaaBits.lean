import Derived.Test.YtghigcdpinogaaaTypes
import Derived.Test.YtghigcdpinogaaaRow0
import Derived.Test.YtghigcdpinogaaaAbC
/- Lists of bits, as memory and as numbers. -/
set_option linter.all false
set_option maxRecDepth 20000
namespace Go.Proofs.Ytghigcdpinogaaa
open Go Go.Ab
variable {base : Nat} {s : St} {R : Value → St → Prop}
def bL (xs : List Nat) : List (List Value) := xs.map fun (b : Nat) => [.int .u8 (b : Int)]
theorem bL_len (xs : List Nat) : (bL xs).length = xs.length := by simp [bL]
theorem bL_at {xs : List Nat} {i : Nat} (h : i < xs.length) : (bL xs)[i]? = some [.int .u8 (xs[i] : Int)] := by simp [bL, h]
def one (b : Nat) : Nat := if b = 0 then 0 else 1
end Go.Proofs.Ytghigcdpinogaaa
