/- The package strand's Run; the document's Run, Same, Pack and Unpack; as contracts. -/
import Derived.Test.YthmjfabikippcaaUnpack
set_option linter.unusedSimpArgs false
set_option linter.unusedVariables false
namespace Go.Proofs.Ythmjfabikippcaa
open Go Go.Ab
variable {base : Nat} {s : St} {R : Value → St → Prop}
/-! ### Runs -/
def rn (xs : List Nat) : Nat → Nat
  | 0 => 0
  | i + 1 => if i ≠ 0 ∧ one (xs.getD i 0) = one (xs.getD (i - 1) 0) then rn xs i + 1 else 1
def rm (xs : List Nat) : Nat → Nat
  | 0 => 0
  | i + 1 => max (rm xs i) (rn xs (i + 1))
theorem rn_le (xs : List Nat) (i : Nat) : rn xs i ≤ i := by
  induction i with
  | zero => exact Nat.le_refl _
  | succ i ih => unfold rn; split <;> omega
theorem rm_le (xs : List Nat) (i : Nat) : rm xs i ≤ i := by
  induction i with
  | zero => exact Nat.le_refl _
  | succ i ih => unfold rm; have := rn_le xs (i + 1); omega
end Go.Proofs.Ythmjfabikippcaa
