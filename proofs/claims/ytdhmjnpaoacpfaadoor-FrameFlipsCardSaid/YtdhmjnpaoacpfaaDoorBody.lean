/- A frame's body, as a contract (where the divisor is laid). -/
import Derived.Test.YtdhmjnpaoacpfaaDoorTypes
import Derived.Test.YtdhmjnpaoacpfaaDoorRow0
import Derived.Test.YtdhmjnpaoacpfaaDoorAbC
import Derived.Test.YtdhmjnpaoacpfaaDoorBits
import Derived.Test.YtdhmjnpaoacpfaaDoorOwnOf
import Derived.Test.YtdhmjnpaoacpfaaDoorUnpack
import Derived.Test.YtdhmjnpaoacpfaaDoorPure
import Derived.Test.YtdhmjnpaoacpfaaDoorRight
import Derived.Test.YtdhmjnpaoacpfaaDoorFive
import Derived.Test.YtdhmjnpaoacpfaaDoorBoxes
import Derived.Test.YtdhmjnpaoacpfaaDoorConcat
import Derived.Test.YtdhmjnpaoacpfaaDoorCrcMore
set_option linter.all false
set_option maxRecDepth 20000
namespace Go.Proofs.YtdhmjnpaoacpfaaDoor
open Go Go.Ab
variable {base : Nat} [Bok base] {s : St} {R : Value → St → Prop}
def ibits (e : Bool) (n : Nat) (r : Bool) : List Nat := if e then bitsOf (keyN e n r) 32 else (bitsOf (keyN e n r) 32).take 13
theorem ibits_len (e : Bool) (n : Nat) (r : Bool) : (ibits e n r).length = if e then 32 else 13 := by cases e <;> simp [ibits, bitsOf_len]
def bodyL (e : Bool) (n : Nat) (r : Bool) (l : Nat) (ds : List Nat) : List Nat := [0] ++ ibits e n r ++ List.replicate (if e then 2 else 1) 0 ++ bitsOf l 4 ++ if r then [] else unpackL (ds.take l) (8 * l)
theorem bodyL_len (e : Bool) (n : Nat) (r : Bool) (l : Nat) (ds : List Nat) : (bodyL e n r l ds).length = (if e then 39 else 19) + if r then 0 else 8 * l := by
  cases e <;> cases r <;> simp [bodyL, ibits_len, bitsOf_len, unpackL_len] <;> omega
theorem rightF_zero {e : Bool} {n : Nat} {r : Bool} {l : Int} {ds : List Nat} (h : rightF e n r l ds = 0) : idOk e n = true ∧ 0 ≤ l ∧ l ≤ 8 := by
  unfold rightF at h
  split at h
  · omega
  rename_i h1
  split at h
  · omega
  exact ⟨by simpa using h1, by omega, by omega⟩
end Go.Proofs.YtdhmjnpaoacpfaaDoor
