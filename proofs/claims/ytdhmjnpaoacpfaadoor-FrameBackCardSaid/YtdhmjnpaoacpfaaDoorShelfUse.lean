/- The library's searches, by the kit's contracts, in the abstract machine. -/
import Derived.Test.YtdhmjnpaoacpfaaDoorTypes
import Derived.Test.YtdhmjnpaoacpfaaDoorRow0
import Derived.Test.YtdhmjnpaoacpfaaDoorAbC
import Derived.Test.YtdhmjnpaoacpfaaDoorStr
import Derived.Test.YtdhmjnpaoacpfaaDoorGiven
import Derived.Test.YtdhmjnpaoacpfaaDoorShelf
set_option linter.all false
set_option maxRecDepth 20000
namespace Go.Proofs.YtdhmjnpaoacpfaaDoor
open Go Go.Ab
variable {base : Nat} {s : St} {R : Value → St → Prop}
theorem body_index : ∃ fn c, Tryd.prog.funcs[61]? = some fn ∧ fn.body = some c ∧ fn.name ≠ "runtime.NumGoroutine" := by
  refine ⟨_, _, Tryd.func61, rfl, ?_⟩
  decide
/-- What strings.Index finds. -/
theorem index_p {a b : List UInt8} {g : Nat} {m : Int} (ha : a.length < 4294967281) (hg : g = 1) (hgb : g < base) (hm : s.heap g = .row [.int .i64 m]) (hR : R (.int .i64 (Lib.index a b)) s) :
    WC Tryd.prog base 61 [.string (strB a), .string (strB b)] s R := by
  refine ⟨_, _, given_ev body_index rfl rfl (fun w hw => ?_), hR⟩
  have := Tryd.strings_Index (strB a) (strB b) m w (by rw [str_size]; exact ha) (by subst hg; exact hw _ _ hgb hm)
  intro cs
  obtain ⟨e, w', fr, ⟨h1, h2⟩, rest⟩ := this cs
  exact ⟨e, w', fr, ⟨h1, 0, h2⟩, rest⟩
theorem body_indexByte : ∃ fn c, Tryd.prog.funcs[25]? = some fn ∧ fn.body = some c ∧ fn.name ≠ "runtime.NumGoroutine" := by
  refine ⟨_, _, Tryd.func25, rfl, ?_⟩
  decide
theorem indexByte_p {a : List UInt8} {c : Nat} (hR : R (.int .i64 (Lib.indexByte a c.toUInt8)) s) :
    WC Tryd.prog base 25 [.string (strB a), .int .u8 (c : Int)] s R := by
  refine ⟨_, _, given_ev body_indexByte rfl rfl (fun w hw => ?_), hR⟩
  have := Tryd.strings_IndexByte (strB a) (c : Int) w
  intro cs
  obtain ⟨e, w', fr, ⟨h1, h2⟩, rest⟩ := this cs
  exact ⟨e, w', fr, ⟨h1, 0, h2⟩, rest⟩
end Go.Proofs.YtdhmjnpaoacpfaaDoor
