/- More equations. -/
import Derived.Test.YtobajpopkmmkjaaAb29
set_option linter.unusedVariables false
set_option linter.unusedSimpArgs false
namespace Go.Ab
open Go Go.RowKit
theorem sliceArr {P : Program} {s : St} {t e : TypeId} {k n b o : Nat} (ha : arrT P t = some (k, e)) (hz : sizT P e = some n) : sliceV P s t (.pointer (some ⟨b, o, none⟩)) none none none = some (.slice (some ⟨b, o, none⟩) k k) := by
  simp only [sliceV, ha, hz, cutV, Option.isSome_none, Bool.false_eq_true, if_false]
  rw [if_pos ⟨by omega, by omega, by omega, by omega⟩]
  simp [add_lit]
/-- A call whose arguments and answer lead nowhere: what it does in the empty heap is what it does. -/
theorem WC_pure {P : Program} {base : Nat} {f : FuncId} {args : List Value} {s : St} {R : Value → St → Prop} {r : Value} (hP : progOk 0 P = true) (ha : args.all bareV = true) (hv : bareV r = true)
    (h : WC P 0 f args St.none (fun v _ => v = r)) (hR : R r s) : WC P base f args s R := by
  obtain ⟨v, s', hE, rfl⟩ := h
  exact ⟨_, s, .closed hP ha hv hE, hR⟩
end Go.Ab
