/- The library's IndexByteString, which has no body: the model's own stand-in for it, as a contract. -/
import Derived.Test.YtdhmjnpaoacpfaaDoorTypes
import Derived.Test.YtdhmjnpaoacpfaaDoorRow0
import Derived.Test.YtdhmjnpaoacpfaaDoorAbC
import Derived.Lib.Bytealg
set_option linter.all false
set_option maxRecDepth 20000
namespace Go.Proofs.YtdhmjnpaoacpfaaDoor
open Go Go.Ab
variable {base : Nat} {s : St} {R : Value → St → Prop}
theorem nobody_ixb : ¬ HasBody Tryd.prog 74 := by
  rintro ⟨fn, c, h1, h2⟩
  have e : fn = Tryd.f74 := Option.some.inj (h1.symm.trans Tryd.func74)
  subst e
  exact absurd h2 (by rw [show Tryd.f74.body = none by kernel_rfl]; simp)
/-- Where a byte stands first in a text; -1: nowhere. -/
def ixB (b : ByteArray) (c : Int) : Int := Lib.indexByte b.data.toList c.toNat.toUInt8
theorem ixb_ev (b : ByteArray) (c : Int) : Ev Tryd.prog base (.call 74 [.string b, .int .u8 c] s (.int .i64 (ixB b c)) s) := by
  refine .ext nobody_ixb rfl fun w0 _ M w args' hS hL => ?_
  have h : args' = #[.string b, .int .u8 c] := by
    obtain ⟨l⟩ := args'
    obtain ⟨a1, l1, rfl, v1, hL1⟩ := hL.inv_cons
    obtain ⟨a2, l2, rfl, v2, hL2⟩ := hL1.inv_cons
    obtain rfl := hL2.inv_nil
    cases v1; cases v2; rfl
  subst h
  refine ⟨.int .i64 (ixB b c), w, M, ?_, .refl M _ w, hS, .int _ _⟩
  rw [run_callFunc_extern (e := Extern.BytealgIndexByte.indexByte) Tryd.func74 (by kernel_rfl) (by kernel_rfl) (by kernel_rfl) (by kernel_rfl), Lib.run_indexByteString]
  rfl
end Go.Proofs.YtdhmjnpaoacpfaaDoor
