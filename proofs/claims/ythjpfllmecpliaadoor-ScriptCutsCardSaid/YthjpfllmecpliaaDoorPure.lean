import Derived.Test.YthjpfllmecpliaaDoorTypes
import Derived.Test.YthjpfllmecpliaaDoorRow0
import Derived.Test.YthjpfllmecpliaaDoorAbC
/- Calls whose arguments and answers lead nowhere, where the program's variables lie ahead of all. -/
set_option linter.all false
set_option maxRecDepth 20000
namespace Go.Proofs.YthjpfllmecpliaaDoor
open Go Go.Ab
class Bok (base : Nat) : Prop where
  le5 : 5 ≤ base
theorem Bok.le {base : Nat} [Bok base] : 1 ≤ base := Nat.le_trans (by omega) (Bok.le5 (base := base))
theorem WC_pureG {base : Nat} [Bok base] {f : FuncId} {args : List Value} {s : St} {R : Value → St → Prop} {r : Value} (ha : args.all bareV = true) (hv : bareV r = true)
    (h : ∀ (b : Nat) (t : St), Bok b → b ≤ t.next → WC Tryd.prog b f args t (fun v _ => v = r)) (hR : R r s) : WC Tryd.prog base f args s R :=
  WC_pureAt (g := 5) (t := ⟨s.heap, 5⟩) Bok.le5 okProg1 ha hv rfl (fun _ _ => rfl) (h 5 ⟨s.heap, 5⟩ ⟨Nat.le_refl _⟩ (Nat.le_refl _)) hR
end Go.Proofs.YthjpfllmecpliaaDoor
