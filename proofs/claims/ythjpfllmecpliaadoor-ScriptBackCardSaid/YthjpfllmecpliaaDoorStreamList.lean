/- Lists of streams: a few, a copy, a field of one is written; as contracts. -/
import Derived.Test.YthjpfllmecpliaaDoorTypes
import Derived.Test.YthjpfllmecpliaaDoorRow0
import Derived.Test.YthjpfllmecpliaaDoorAbC
import Derived.Test.YthjpfllmecpliaaDoorBits
import Derived.Test.YthjpfllmecpliaaDoorStream
set_option linter.all false
set_option maxRecDepth 20000
namespace Go.Proofs.YthjpfllmecpliaaDoor
open Go Go.Ab
variable {base : Nat} {s : St} {R : Value → St → Prop}
abbrev smL (xs : List Sm) : List (List Value) := xs.map Sm.c
theorem smL_len (xs : List Sm) : (smL xs).length = xs.length := by simp
theorem smL_at {xs : List Sm} {i : Nat} (h : i < xs.length) : (smL xs)[i]? = some xs[i].c := by simp [h]
end Go.Proofs.YthjpfllmecpliaaDoor
