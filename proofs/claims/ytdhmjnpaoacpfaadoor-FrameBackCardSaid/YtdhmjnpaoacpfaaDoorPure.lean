import Derived.Test.YtdhmjnpaoacpfaaDoorTypes
import Derived.Test.YtdhmjnpaoacpfaaDoorRow0
import Derived.Test.YtdhmjnpaoacpfaaDoorAbC
import Derived.Test.YtdhmjnpaoacpfaaDoorBits
/- Calls whose arguments and answers lead nowhere, where one variable of the program is laid ahead of all. -/
set_option linter.all false
set_option maxRecDepth 20000
namespace Go.Proofs.YtdhmjnpaoacpfaaDoor
open Go Go.Ab
/-- What is laid of the program's variables lies ahead of all. -/
class Bok (base : Nat) : Prop where
  le2 : 2 ≤ base
theorem Bok.le {base : Nat} [Bok base] : 1 ≤ base := Nat.le_of_succ_le (Bok.le2 (base := base))
theorem WC_pureG {base : Nat} [Bok base] {f : FuncId} {args : List Value} {s : St} {R : Value → St → Prop} {r : Value} (ha : args.all bareV = true) (hv : bareV r = true)
    (h : ∀ (b : Nat) (t : St), Bok b → b ≤ t.next → WC Tryd.prog b f args t (fun v _ => v = r)) (hR : R r s) : WC Tryd.prog base f args s R :=
  WC_pureAt (g := 2) (t := ⟨s.heap, 2⟩) Bok.le2 okProg1 ha hv rfl (fun _ _ => rfl) (h 2 ⟨s.heap, 2⟩ ⟨Nat.le_refl _⟩ (Nat.le_refl _)) hR
end Go.Proofs.YtdhmjnpaoacpfaaDoor
