/- What sums are, in plain Lean: linear; a seal's is nought; bursts and odd ones are told. -/
import Derived.Test.YtdhmjnpaoacpfaaDoorTypes
import Derived.Test.YtdhmjnpaoacpfaaDoorRow0
import Derived.Test.YtdhmjnpaoacpfaaDoorAbC
import Derived.Test.YtdhmjnpaoacpfaaDoorBits
import Derived.Test.YtdhmjnpaoacpfaaDoorRefTwo
import Derived.Test.YtdhmjnpaoacpfaaDoorCrcMore
set_option linter.unusedSimpArgs false
set_option linter.unusedVariables false
namespace Go.Proofs.YtdhmjnpaoacpfaaDoor
open Go Go.Ab
theorem stp_one (r b : Nat) : stp r (one b) = stp r b := by
  unfold stp unlike one
  by_cases h : b = 0 <;> simp [h]
theorem fold_one (xs : List Nat) : ∀ r, (xs.map one).foldl stp r = xs.foldl stp r := by
  induction xs with
  | nil => intro r; rfl
  | cons b xs ih => intro r; simp only [List.map_cons, List.foldl_cons, stp_one, ih]
theorem whole_seal (xs : List Nat) : wholeB (sealL xs) = true := by
  unfold wholeB
  rw [sealL_len, Nat.add_sub_cancel]
  simp only [decide_eq_true_eq]
  refine ⟨by omega, ?_⟩
  unfold sealL
  have h := sumOf_lt xs
  rw [List.take_append_of_le_length (by simp), List.drop_append_of_le_length (by simp), List.take_of_length_le (by simp), List.drop_eq_nil_of_le (by simp), List.nil_append, numOf_bits, Nat.mod_eq_of_lt (by omega)]
  exact fold_one xs 0
/-! ### Bursts -/
/-! ### Odd ones -/
end Go.Proofs.YtdhmjnpaoacpfaaDoor
