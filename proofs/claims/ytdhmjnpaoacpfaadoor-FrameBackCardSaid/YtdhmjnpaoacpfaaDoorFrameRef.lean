/- Bodies of frames, read (the document's answer): as contracts. -/
import Derived.Test.YtdhmjnpaoacpfaaDoorTypes
import Derived.Test.YtdhmjnpaoacpfaaDoorRow0
import Derived.Test.YtdhmjnpaoacpfaaDoorAbC
import Derived.Test.YtdhmjnpaoacpfaaDoorBits
import Derived.Test.YtdhmjnpaoacpfaaDoorOwnOf
import Derived.Test.YtdhmjnpaoacpfaaDoorRefTwo
import Derived.Test.YtdhmjnpaoacpfaaDoorPack
import Derived.Test.YtdhmjnpaoacpfaaDoorPure
import Derived.Test.YtdhmjnpaoacpfaaDoorRight
import Derived.Test.YtdhmjnpaoacpfaaDoorBoxes
import Derived.Test.YtdhmjnpaoacpfaaDoorFrame
set_option linter.all false
set_option maxRecDepth 20000
namespace Go.Proofs.YtdhmjnpaoacpfaaDoor
open Go Go.Ab
variable {base : Nat} [Bok base] {s : St} {R : Value → St → Prop}
theorem frC_put {e r : Bool} {n l : Int} {ds : List Nat} {i y : Nat} (hd : ds.length = 8) (hi : i < 8) :
    putAt (.row (.bool e :: .int .u32 n :: .bool r :: .int .i64 l :: bC ds)) (4 + i * 1) [.int .u8 (y : Int)] = some (.row (.bool e :: .int .u32 n :: .bool r :: .int .i64 l :: bC (ds.set i y))) := by
  rw [putAt_row (by simp [bC_len, hd]; omega), Nat.mul_one, setL_cons, setL_nil]
  rw [show 4 + i = i + 4 by omega]
  simp only [List.set_cons_succ, bC_set]
end Go.Proofs.YtdhmjnpaoacpfaaDoor
