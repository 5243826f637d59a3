import Derived.Test.YtdhmjnpaoacpfaaDoorTypes
import Derived.Test.YtdhmjnpaoacpfaaDoorRow0
import Derived.Test.YtdhmjnpaoacpfaaDoorAbC
import Derived.Test.YtdhmjnpaoacpfaaDoorBits
import Derived.Test.YtdhmjnpaoacpfaaDoorOwnOf
import Derived.Test.YtdhmjnpaoacpfaaDoorPack
import Derived.Test.YtdhmjnpaoacpfaaDoorUnpack
/- Bytes of numbers, numbers of bytes, and bytes that are copied into an array. -/
set_option linter.all false
set_option maxRecDepth 20000
namespace Go.Proofs.YtdhmjnpaoacpfaaDoor
open Go Go.Ab
variable {base : Nat} {s : St} {R : Value → St → Prop}
theorem copy_bytes {b o dl cap : Nat} {x : Value} {ys : List Nat} {c : List Value} (hx : Sl base s 1 x (bL ys)) (hh : s.heap b = .row c) (hb : base ≤ b) (h0 : 0 < ys.length) (hl : ys.length ≤ dl) (hc : o + dl ≤ c.length) :
    copyB Tryd.prog base s [34, 34] [.slice (some ⟨b, o, none⟩) dl cap, x] = some (.int .i64 (ys.length : Nat), s.upd b (.row (setL c o (bC ys)))) := by
  obtain ⟨n, h1, h2, h3⟩ := ldN_slice hx
  rw [bL_len] at h2
  subst h2
  have hst : stN base s ⟨b, o, none⟩ (bC ys) = some (s.upd b (.row (setL c o (bC ys)))) := stNR hh hb (by intro h; have := bC_len ys; rw [h] at this; simp at this; omega) (by rw [bC_len]; omega)
  have hmin : Nat.min ys.length dl = ys.length := Nat.min_eq_left hl
  simp only [copyB, Ty.elem34, Ty.siz5, h1, hmin, h3, ← bC_flat, hst]
/-- Bytes that are copied over a frame's. -/
theorem setL_ds {p : List Value} {ds ys : List Nat} (h : ys.length ≤ ds.length) {o : Nat} (ho : o = p.length) : setL (p ++ bC ds) o (bC ys) = p ++ bC (ys ++ ds.drop ys.length) := by
  subst ho
  rw [setL_eq _ _ _ (by simp [bC_len]; omega), List.take_left, bC_len, List.drop_append]
  simp [bC, ← List.map_drop]
end Go.Proofs.YtdhmjnpaoacpfaaDoor
