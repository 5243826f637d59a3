/- The packages strand and ref02: what compares and cleans strings; for every seat (no law's own function). -/
import Derived.Test.YthmjfabikippcaaRefTwo
set_option linter.unusedSimpArgs false
set_option linter.unusedVariables false
namespace Go.Proofs.Ythmjfabikippcaa
open Go Go.Ab
variable {base : Nat} {s : St} {R : Value → St → Prop}
/-! ### Clean -/
def clYs (xs : List Nat) (i : Nat) : List Nat := (List.range xs.length).map fun j => if j < i then one (xs.getD j 0) else 0
theorem clYs_zero (xs : List Nat) : clYs xs 0 = List.replicate xs.length 0 := by
  apply List.ext_getElem <;> simp [clYs]
theorem clYs_full (xs : List Nat) : clYs xs xs.length = xs.map one := by
  apply List.ext_getElem
  · simp [clYs]
  · intro j h1 h2
    simp only [List.length_map] at h2
    simp [clYs, h2]
theorem clYs_succ (xs : List Nat) (i : Nat) (h : i < xs.length) : (clYs xs i).set i (one (xs.getD i 0)) = clYs xs (i + 1) := by
  apply List.ext_getElem
  · simp [clYs]
  · intro j h1 h2
    rw [List.getElem_set]
    simp only [clYs, List.getElem_map, List.getElem_range]
    by_cases hj : i = j
    · subst hj; simp
    · rw [if_neg hj]
      by_cases hk : j < i
      · rw [if_pos hk, if_pos (by omega)]
      · rw [if_neg hk, if_neg (by omega)]
theorem clYs_len (xs : List Nat) (i : Nat) : (clYs xs i).length = xs.length := by simp [clYs]
end Go.Proofs.Ythmjfabikippcaa
