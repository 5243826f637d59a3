/- The document's bits and numbers (bellbuoyref02: Of, Number, one), as contracts. -/
import Derived.Test.YtnhedpdemmbfnaaOwnOf
set_option linter.unusedSimpArgs false
set_option linter.unusedVariables false
namespace Go.Proofs.Ytnhedpdemmbfnaa
open Go Go.Ab
variable {base : Nat} {s : St} {R : Value → St → Prop}
theorem bits_take_succ (n k t : Nat) (h : t < k) : (bitsOf n k).take (t + 1) = (bitsOf n k).take t ++ [n / 2 ^ (k - 1 - t) % 2] := by
  rw [List.take_succ_eq_append_getElem (by rw [bitsOf_len]; omega)]
  simp [bitsOf]
end Go.Proofs.Ytnhedpdemmbfnaa
