/- live(), run by the kernel. -/
import Derived.Test.YtlhoogdikhbemaaDoorTypes
import Derived.Test.YtlhoogdikhbemaaDoorRow0
import Derived.Test.YtlhoogdikhbemaaDoorAbC
import Derived.Test.YtlhoogdikhbemaaDoorPure
import Derived.Test.YtlhoogdikhbemaaDoorOracle
set_option linter.all false
namespace Go.Proofs.YtlhoogdikhbemaaDoor
open Go Go.Ab
theorem live_run : fastAt Tryd.prog H0 1 1000 30 orc 7 [] isTrueV = true := by
  set_option maxRecDepth 1000000 in kernel_rfl
theorem live_p {base : Nat} [Bok base] {s : St} {R : Value → St → Prop} (hg : s.heap 0 = .row divC) (hR : R (.bool true) s) : WC Tryd.prog base 7 [] s R := WC_liveF live_run hg hR
end Go.Proofs.YtlhoogdikhbemaaDoor
