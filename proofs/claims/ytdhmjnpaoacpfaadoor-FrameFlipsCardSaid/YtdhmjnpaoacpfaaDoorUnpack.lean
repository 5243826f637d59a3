import Derived.Test.YtdhmjnpaoacpfaaDoorTypes
import Derived.Test.YtdhmjnpaoacpfaaDoorRow0
import Derived.Test.YtdhmjnpaoacpfaaDoorAbC
import Derived.Test.YtdhmjnpaoacpfaaDoorBits
import Derived.Test.YtdhmjnpaoacpfaaDoorOwnOf
import Derived.Test.YtdhmjnpaoacpfaaDoorFlip
import Derived.Test.YtdhmjnpaoacpfaaDoorPack
/- The package strand: Unpack, as a contract; and what was packed, unpacked. -/
set_option linter.all false
set_option maxRecDepth 20000
namespace Go.Proofs.YtdhmjnpaoacpfaaDoor
open Go Go.Ab
variable {base : Nat} {s : St} {R : Value → St → Prop}
def unpackL (ys : List Nat) (n : Nat) : List Nat := (List.range n).map fun i => ys.getD (i / 8) 0 / 2 ^ (7 - i % 8) % 2
theorem unpackL_len (ys : List Nat) (n : Nat) : (unpackL ys n).length = n := by simp [unpackL]
theorem unpackL_succ (ys : List Nat) (i : Nat) : unpackL ys (8 * (i + 1)) = unpackL ys (8 * i) ++ bitsOf (ys.getD i 0) 8 := by
  apply List.ext_getElem
  · simp [unpackL, bitsOf]; omega
  · intro p h1 h2
    rw [unpackL_len] at h1
    by_cases hp : p < 8 * i
    · rw [List.getElem_append_left (by rw [unpackL_len]; exact hp)]
      simp [unpackL]
    · rw [List.getElem_append_right (by rw [unpackL_len]; omega)]
      simp only [unpackL, bitsOf, List.getElem_map, List.getElem_range, List.length_map, List.length_range]
      rw [show p / 8 = i by omega, show 7 - p % 8 = 8 - 1 - (p - 8 * i) by omega]
theorem one_one (b : Nat) : one (one b) = one b := by unfold one; split <;> simp_all
theorem flipL_len (xs : List Nat) (k : Int) : (flipL xs k).length = xs.length := by unfold flipL; split <;> simp
end Go.Proofs.YtdhmjnpaoacpfaaDoor
