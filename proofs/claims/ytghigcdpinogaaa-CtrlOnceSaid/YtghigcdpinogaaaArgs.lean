import Derived.Test.YtghigcdpinogaaaTypes
import Derived.Test.YtghigcdpinogaaaRow0
import Derived.Test.YtghigcdpinogaaaAbC
import Derived.Test.YtghigcdpinogaaaBits
/- What is told of a law's arguments: numbers, and strings of bytes. -/
set_option linter.all false
set_option maxRecDepth 20000
namespace Go.Proofs.Ytghigcdpinogaaa
open Go Go.Ab
theorem int_arg {W : World} {v : Value} {t : TypeId} {k : IntKind} (h : ArgR Try.prog W t v) (hf : flat Try.prog 16 t = some [.int k]) (ha : isAggT Try.prog t = false) : ∃ n : Int, v = .int k n ∧ k.min ≤ n ∧ n ≤ k.max := by
  obtain ⟨r1, -⟩ := arg_one h hf ha
  obtain ⟨r, rfl, hr⟩ := (by simpa only [okCell] using r1 : ∃ n, v = .int k n ∧ _)
  exact ⟨r, rfl, wf_int hr⟩
end Go.Proofs.Ytghigcdpinogaaa
