/- The document's Run, Pack and Unpack, as contracts. -/
import Derived.Test.YthmjfabikippcaaAsks
set_option linter.unusedSimpArgs false
set_option linter.unusedVariables false
namespace Go.Proofs.Ythmjfabikippcaa
open Go Go.Ab
variable {base : Nat} {s : St} {R : Value → St → Prop}
theorem pkYs_none {xs : List Nat} {i : Nat} (h : i < xs.length) (hz : one (xs.getD i 0) = 0) : pkYs xs (i + 1) = pkYs xs i := by
  unfold pkYs
  apply List.map_congr_left
  intro j _
  by_cases hj : j = i / 8
  · subst hj; rw [pkb_same h, hz]; simp
  · exact pkb_other h hj
theorem u8P (P : Nat) (h : P ≤ 2 ^ 7) : IntKind.u8.wrap (P : Int) = (P : Int) := IntWalk.u8_in _ (by omega)
theorem unpackL_snoc (ys : List Nat) (i : Nat) : unpackL ys (i + 1) = unpackL ys i ++ [ys.getD (i / 8) 0 / 2 ^ (7 - i % 8) % 2] := by
  simp [unpackL, List.range_succ]
theorem and1u8 {x : Nat} (h : x < 256) : andI .u8 (x : Int) 1 = ((x % 2 : Nat) : Int) := by
  have e1 : ((x : Int) % 2 ^ IntKind.u8.bits).toNat = x := by simp only [IntKind.bits]; omega
  have e2 : ((1 : Int) % 2 ^ IntKind.u8.bits).toNat = 1 := by simp only [IntKind.bits]; decide
  simp only [andI, e1, e2, Nat.and_one_is_mod]
  exact IntWalk.u8_in _ (by omega)
end Go.Proofs.Ythmjfabikippcaa
