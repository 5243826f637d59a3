import Derived.Test.YtghigcdpinogaaaTypes
import Derived.Test.YtghigcdpinogaaaRow0
import Derived.Test.YtghigcdpinogaaaAbC
import Derived.Test.YtghigcdpinogaaaBits
import Derived.Test.YtghigcdpinogaaaBoxes
/- Plain laws of mailboxes: laid in one behind the other, and taken by the best one. -/
set_option linter.all false
set_option maxRecDepth 20000
namespace Go.Proofs.Ytghigcdpinogaaa
open Go Go.Ab
theorem getD_set_self {L : Bx} {i : Nat} {o : Option Po} (hi : i < L.length) : (L.set i o).getD i none = o := by rw [List.getD_eq_getElem?_getD, List.getElem?_set_self hi]; rfl
theorem getD_set_ne {L : Bx} {i j : Nat} {o : Option Po} (h : j ≠ i) : (L.set i o).getD j none = L.getD j none := by rw [List.getD_eq_getElem?_getD, List.getElem?_set_ne (Ne.symm h), List.getD_eq_getElem?_getD]
end Go.Proofs.Ytghigcdpinogaaa
