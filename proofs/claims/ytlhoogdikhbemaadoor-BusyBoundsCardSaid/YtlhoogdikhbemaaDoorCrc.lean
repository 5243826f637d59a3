import Derived.Test.YtlhoogdikhbemaaDoorTypes
import Derived.Test.YtlhoogdikhbemaaDoorRow0
import Derived.Test.YtlhoogdikhbemaaDoorAbC
/- The package crc, and its document: Step, as contracts. -/
set_option linter.all false
set_option maxRecDepth 20000
namespace Go.Proofs.YtlhoogdikhbemaaDoor
open Go Go.Ab
variable {base : Nat} {s : St} {R : Value → St → Prop}
def unlike (r b : Nat) : Bool := !(decide (16384 ≤ r % 32768) == decide (b ≠ 0))
def stp (r b : Nat) : Nat := if unlike r b = true then (r * 2 % 32768) ^^^ 17817 else r * 2 % 32768
theorem stp_lt (r b : Nat) : stp r b < 32768 := by
  have h : r * 2 % 32768 < 2 ^ 15 := Nat.mod_lt _ (by decide)
  unfold stp; split
  · exact Nat.xor_lt_two_pow h (by decide)
  · exact h
theorem wrap16 (x : Nat) : IntKind.u16.wrap (x : Int) = ((x % 65536 : Nat) : Int) := by
  simp [IntKind.wrap, IntKind.bits, IntKind.signed]
def sumOf (xs : List Nat) : Nat := xs.foldl stp 0
theorem sumOf_snoc (xs : List Nat) (b : Nat) : sumOf (xs ++ [b]) = stp (sumOf xs) b := by simp [sumOf]
theorem fold_lt (xs : List Nat) : ∀ r, r < 32768 → xs.foldl stp r < 32768 := by
  induction xs with
  | nil => exact fun r h => h
  | cons b xs ih => exact fun r _ => ih _ (stp_lt r b)
theorem sumOf_lt (xs : List Nat) : sumOf xs < 32768 := fold_lt xs 0 (by decide)
end Go.Proofs.YtlhoogdikhbemaaDoor
