import Derived.Test.YtfdpegnbbphhhaaDoorTypes
import Derived.Test.YtfdpegnbbphhhaaDoorRow0
import Derived.Test.YtfdpegnbbphhhaaDoorAbC
/- The package crc, and its document: Step, as contracts. -/
set_option linter.all false
set_option maxRecDepth 20000
namespace Go.Proofs.YtfdpegnbbphhhaaDoor
open Go Go.Ab
variable {base : Nat} {s : St} {R : Value → St → Prop}
def unlike (r b : Nat) : Bool := !(decide (16384 ≤ r % 32768) == decide (b ≠ 0))
def stp (r b : Nat) : Nat := if unlike r b = true then (r * 2 % 32768) ^^^ 17817 else r * 2 % 32768
theorem stp_lt (r b : Nat) : stp r b < 32768 := by
  have h : r * 2 % 32768 < 2 ^ 15 := Nat.mod_lt _ (by decide)
  unfold stp; split
  · exact Nat.xor_lt_two_pow h (by decide)
  · exact h
theorem wrap16 (x : Nat) : IntKind.u16.wrap (x : Int) = ((x % 65536 : Nat) : Int) := by
  simp [IntKind.wrap, IntKind.bits, IntKind.signed]
theorem and16 {x y : Nat} (hx : x < 65536) (hy : y < 65536) : andI .u16 (x : Int) (y : Int) = ((x &&& y : Nat) : Int) := by
  have e1 : ((x : Int) % 2 ^ IntKind.u16.bits).toNat = x := by simp only [IntKind.bits]; omega
  have e2 : ((y : Int) % 2 ^ IntKind.u16.bits).toNat = y := by simp only [IntKind.bits]; omega
  simp only [andI, e1, e2]
  rw [wrap16, Nat.mod_eq_of_lt (Nat.lt_of_le_of_lt Nat.and_le_left hx)]
theorem xor16 {x y : Nat} (hx : x < 65536) (hy : y < 65536) : xorI .u16 (x : Int) (y : Int) = ((x ^^^ y : Nat) : Int) := by
  have e1 : ((x : Int) % 2 ^ IntKind.u16.bits).toNat = x := by simp only [IntKind.bits]; omega
  have e2 : ((y : Int) % 2 ^ IntKind.u16.bits).toNat = y := by simp only [IntKind.bits]; omega
  simp only [xorI, e1, e2]
  rw [wrap16, Nat.mod_eq_of_lt (Nat.xor_lt_two_pow (n := 16) hx hy)]
theorem top16 (x : Nat) : ((x &&& 16384) ≠ 0) ↔ 16384 ≤ x % 32768 := by
  have e : x.testBit 14 = decide (x / 16384 % 2 = 1) := Nat.testBit_eq_decide_div_mod_eq
  have e2 : (16384 : Nat) = 2 ^ 14 := rfl
  constructor
  · intro h
    have : x.testBit 14 = true := by
      cases hb : x.testBit 14 with
      | true => rfl
      | false =>
        exfalso; apply h
        apply Nat.eq_of_testBit_eq
        intro i
        rw [Nat.testBit_and, e2, Nat.testBit_two_pow, Nat.zero_testBit]
        by_cases hi : 14 = i
        · subst hi; rw [hb]; rfl
        · simp [hi]
    rw [e] at this
    simp only [decide_eq_true_eq] at this; omega
  · intro h h0
    have h1 : (x &&& 16384).testBit 14 = false := by rw [h0]; rfl
    rw [Nat.testBit_and, e2, Nat.testBit_two_pow_self, Bool.and_true, e] at h1
    simp only [decide_eq_false_iff_not] at h1; omega
theorem low15 (x : Nat) : x &&& 32767 = x % 32768 := Nat.and_two_pow_sub_one_eq_mod x 15
def sumOf (xs : List Nat) : Nat := xs.foldl stp 0
theorem sumOf_snoc (xs : List Nat) (b : Nat) : sumOf (xs ++ [b]) = stp (sumOf xs) b := by simp [sumOf]
theorem fold_lt (xs : List Nat) : ∀ r, r < 32768 → xs.foldl stp r < 32768 := by
  induction xs with
  | nil => exact fun r h => h
  | cons b xs ih => exact fun r _ => ih _ (stp_lt r b)
theorem sumOf_lt (xs : List Nat) : sumOf xs < 32768 := fold_lt xs 0 (by decide)
end Go.Proofs.YtfdpegnbbphhhaaDoor
