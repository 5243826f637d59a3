/- live(), run by the kernel. -/
import Derived.Test.YtfbkiocijnjmgaaDoorTypes
import Derived.Test.YtfbkiocijnjmgaaDoorRow0
import Derived.Test.YtfbkiocijnjmgaaDoorAbC
import Derived.Test.YtfbkiocijnjmgaaDoorPure
import Derived.Test.YtfbkiocijnjmgaaDoorOracle
set_option linter.all false
namespace Go.Proofs.YtfbkiocijnjmgaaDoor
open Go Go.Ab
theorem live_run : fastAt Tryd.prog H0 1 1000 30 orc 8 [] isTrueV = true := by
  set_option maxRecDepth 1000000 in kernel_rfl
theorem live_p {base : Nat} [Bok base] {s : St} {R : Value → St → Prop} (hg : s.heap 0 = .row divC) (hR : R (.bool true) s) : WC Tryd.prog base 8 [] s R := WC_liveF live_run hg hR
end Go.Proofs.YtfbkiocijnjmgaaDoor
