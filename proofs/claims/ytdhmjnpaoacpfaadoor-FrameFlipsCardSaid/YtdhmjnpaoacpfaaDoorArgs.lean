import Derived.Test.YtdhmjnpaoacpfaaDoorTypes
import Derived.Test.YtdhmjnpaoacpfaaDoorRow0
import Derived.Test.YtdhmjnpaoacpfaaDoorAbC
import Derived.Test.YtdhmjnpaoacpfaaDoorBits
/- What is told of a law's arguments: numbers, and strings of bytes. -/
set_option linter.all false
set_option maxRecDepth 20000
namespace Go.Proofs.YtdhmjnpaoacpfaaDoor
open Go Go.Ab
theorem int_arg {W : World} {v : Value} {t : TypeId} {k : IntKind} (h : ArgR Tryd.prog W t v) (hf : flat Tryd.prog 16 t = some [.int k]) (ha : isAggT Tryd.prog t = false) : ∃ n : Int, v = .int k n ∧ k.min ≤ n ∧ n ≤ k.max := by
  obtain ⟨r1, -⟩ := arg_one h hf ha
  obtain ⟨r, rfl, hr⟩ := (by simpa only [okCell] using r1 : ∃ n, v = .int k n ∧ _)
  exact ⟨r, rfl, wf_int hr⟩
end Go.Proofs.YtdhmjnpaoacpfaaDoor
