/- More equations. -/
import Derived.Test.YtobajpopkmmkjaaAb29
set_option linter.unusedVariables false
set_option linter.unusedSimpArgs false
namespace Go.Ab
open Go Go.RowKit
theorem sliceArr {P : Program} {s : St} {t e : TypeId} {k n b o : Nat} (ha : arrT P t = some (k, e)) (hz : sizT P e = some n) : sliceV P s t (.pointer (some ⟨b, o, none⟩)) none none none = some (.slice (some ⟨b, o, none⟩) k k) := by
  simp only [sliceV, ha, hz, cutV, Option.isSome_none, Bool.false_eq_true, if_false]
  rw [if_pos ⟨by omega, by omega, by omega, by omega⟩]
  simp [add_lit]
theorem build1i {P : Program} {s : St} {t e : TypeId} {z : Value} {k : IntKind} {x : Int} (he : elemT P t = some e) (hz : sizT P e = some 1) (hzr : zerT P e = some [z]) :
    buildSliceV P s t 1 [(0, .int k x)] = some (.slice (some ⟨s.next, 0, none⟩) 1 1, s.alloc (.row [.int k x])) := by
  simp [buildSliceV, he, hz, hzr, fillL, isTup, Value.cells, repL, setL]
theorem build2i {P : Program} {s : St} {t e : TypeId} {z : Value} {k k' : IntKind} {x y : Int} (he : elemT P t = some e) (hz : sizT P e = some 1) (hzr : zerT P e = some [z]) :
    buildSliceV P s t 2 [(0, .int k x), (1, .int k' y)] = some (.slice (some ⟨s.next, 0, none⟩) 2 2, s.alloc (.row [.int k x, .int k' y])) := by
  simp [buildSliceV, he, hz, hzr, fillL, isTup, Value.cells, repL, setL]
/-- A call whose arguments and answer lead nowhere: what it does in the empty heap is what it does. -/
theorem WC_pure {P : Program} {base : Nat} {f : FuncId} {args : List Value} {s : St} {R : Value → St → Prop} {r : Value} (hP : progOk 0 P = true) (ha : args.all bareV = true) (hv : bareV r = true)
    (h : WC P 0 f args St.none (fun v _ => v = r)) (hR : R r s) : WC P base f args s R := by
  obtain ⟨v, s', hE, rfl⟩ := h
  exact ⟨_, s, .closed hP ha hv hE, hR⟩
end Go.Ab
