/- What a frame's body begins with says how many bits there are, and whose it is. In plain words. -/
import Derived.Test.YtdhmjnpaoacpfaaDoorTypes
import Derived.Test.YtdhmjnpaoacpfaaDoorRow0
import Derived.Test.YtdhmjnpaoacpfaaDoorAbC
import Derived.Test.YtdhmjnpaoacpfaaDoorBits
import Derived.Test.YtdhmjnpaoacpfaaDoorRight
import Derived.Test.YtdhmjnpaoacpfaaDoorFive
import Derived.Test.YtdhmjnpaoacpfaaDoorFrame
import Derived.Test.YtdhmjnpaoacpfaaDoorBodyRef
set_option linter.all false
set_option maxRecDepth 20000
namespace Go.Proofs.YtdhmjnpaoacpfaaDoor
open Go Go.Ab
structure HeadOf (xs : List Nat) (e : Bool) (n : Nat) (r : Bool) (l : Nat) : Prop where
  ext : extB xs = e
  rem : remB xs = r
  len : lenN xs = l
  id : idN xs = n
  frm : fromN xs = if e then 35 else 15
theorem head_one {e : Bool} {n : Nat} {r : Bool} {l : Nat} : (headL e n r l).map one = headL e n r l := by
  have h5 : (bits5 e n r).map one = bits5 e n r := by
    cases e
    · simp only [bits5, Bool.false_eq_true, if_false]; exact bits_map_one _ _
    · simp only [bits5, if_true, List.map_append, bits_map_one, List.map_cons, List.map_nil, one_ask]; rfl
  unfold headL
  rw [List.map_append, List.map_append, List.map_append, h5, bits_map_one]
  cases e <;> rfl
/-- A whole body: what its beginning says, and its length. -/
theorem body_head {e : Bool} {n : Nat} {r : Bool} {l : Nat} {ds : List Nat} (hi : idOk e n = true) (hl : l ≤ 8) : ∃ c, sealL (bodyL e n r l ds) = headL e n r l ++ c ∧ (sealL (bodyL e n r l ds)).length = (if e then 54 else 34) + (if r then 0 else 8 * l) := by
  refine ⟨((if r then [] else datL ds l).map one) ++ bitsOf (sumOf (bodyL e n r l ds)) 15, ?_, ?_⟩
  · unfold sealL
    rw [show (bodyL e n r l ds).map one = headL e n r l ++ (if r then [] else datL ds l).map one by rw [bodyL_eq hi, List.map_append, head_one], List.append_assoc]
  · rw [sealL_len, bodyL_len]; cases e <;> cases r <;> simp <;> omega
end Go.Proofs.YtdhmjnpaoacpfaaDoor
