import Derived.Test.YtfdpegnbbphhhaaDoorTypes
import Derived.Test.YtfdpegnbbphhhaaDoorRow0
import Derived.Test.YtfdpegnbbphhhaaDoorAbC
import Derived.Test.YtfdpegnbbphhhaaDoorBits
/- Calls whose arguments and answers lead nowhere, where one variable of the program is laid ahead of all. -/
set_option linter.all false
set_option maxRecDepth 20000
namespace Go.Proofs.YtfdpegnbbphhhaaDoor
open Go Go.Ab
/-- What is laid of the program's variables lies ahead of all. -/
class Bok (base : Nat) : Prop where
  le : 1 ≤ base
theorem WC_pureG {base : Nat} [Bok base] {f : FuncId} {args : List Value} {s : St} {R : Value → St → Prop} {r : Value} (ha : args.all bareV = true) (hv : bareV r = true)
    (h : ∀ (b : Nat) (t : St), Bok b → b ≤ t.next → WC Tryd.prog b f args t (fun v _ => v = r)) (hR : R r s) : WC Tryd.prog base f args s R :=
  WC_pureAt (g := 1) (t := ⟨s.heap, 1⟩) Bok.le okProg1 ha hv rfl (fun _ _ => rfl) (h 1 ⟨s.heap, 1⟩ ⟨Nat.le_refl _⟩ (Nat.le_refl _)) hR
/-- The same, where what is laid is looked at. -/
theorem WC_pureD {base : Nat} [Bok base] {f : FuncId} {args : List Value} {s : St} {R : Value → St → Prop} {r : Value} (ha : args.all bareV = true) (hv : bareV r = true) (hg : s.heap 0 = .row divC)
    (h : ∀ (b : Nat) (t : St), Bok b → b ≤ t.next → t.heap 0 = .row divC → WC Tryd.prog b f args t (fun v _ => v = r)) (hR : R r s) : WC Tryd.prog base f args s R :=
  WC_pureAt (g := 1) (t := ⟨s.heap, 1⟩) Bok.le okProg1 ha hv rfl (fun _ _ => rfl) (h 1 ⟨s.heap, 1⟩ ⟨Nat.le_refl _⟩ (Nat.le_refl _) hg) hR
def rows0 : St := ⟨fun b => if b = 0 then .row divC else .gone, 1⟩
end Go.Proofs.YtfdpegnbbphhhaaDoor
