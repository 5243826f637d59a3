import Derived.Test.YtghigcdpinogaaaTypes
import Derived.Test.YtghigcdpinogaaaRow0
import Derived.Test.YtghigcdpinogaaaAbC
/- Calls whose arguments and answers lead nowhere, where no variable of the program is laid. -/
set_option linter.all false
set_option maxRecDepth 20000
namespace Go.Proofs.Ytghigcdpinogaaa
open Go Go.Ab
/-- What is laid of the program's variables lies ahead of all (here there are none). -/
class Bok (base : Nat) : Prop where
  le : 0 ≤ base
instance {base : Nat} : Bok base := ⟨Nat.zero_le _⟩
theorem WC_pureG {base : Nat} [Bok base] {f : FuncId} {args : List Value} {s : St} {R : Value → St → Prop} {r : Value} (ha : args.all bareV = true) (hv : bareV r = true)
    (h : ∀ (b : Nat) (t : St), Bok b → b ≤ t.next → WC Try.prog b f args t (fun v _ => v = r)) (hR : R r s) : WC Try.prog base f args s R :=
  WC_pure okProg ha hv (h 0 St.none ⟨Nat.le_refl _⟩ (Nat.le_refl _)) hR
end Go.Proofs.Ytghigcdpinogaaa
