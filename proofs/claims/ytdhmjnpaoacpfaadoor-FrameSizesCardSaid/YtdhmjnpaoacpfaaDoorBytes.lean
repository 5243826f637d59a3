import Derived.Test.YtdhmjnpaoacpfaaDoorTypes
import Derived.Test.YtdhmjnpaoacpfaaDoorRow0
import Derived.Test.YtdhmjnpaoacpfaaDoorAbC
import Derived.Test.YtdhmjnpaoacpfaaDoorBits
import Derived.Test.YtdhmjnpaoacpfaaDoorOwnOf
import Derived.Test.YtdhmjnpaoacpfaaDoorPack
import Derived.Test.YtdhmjnpaoacpfaaDoorUnpack
/- Bytes of numbers, numbers of bytes, and bytes that are copied into an array. -/
set_option linter.all false
set_option maxRecDepth 20000
namespace Go.Proofs.YtdhmjnpaoacpfaaDoor
open Go Go.Ab
variable {base : Nat} {s : St} {R : Value → St → Prop}
theorem bits_sub (n k a b : Nat) (h : a + b ≤ k) : ((bitsOf n k).drop a).take b = bitsOf (n / 2 ^ (k - a - b)) b := by
  apply List.ext_getElem
  · simp [bitsOf]; omega
  · intro i h1 h2
    simp only [bitsOf_len] at h2
    simp only [bitsOf, List.getElem_take, List.getElem_drop, List.getElem_map, List.getElem_range]
    rw [Nat.div_div_eq_div_mul, ← Nat.pow_add]
    congr 3; omega
def bytesOf (n k : Nat) : List Nat := (List.range k).map fun j => n / 256 ^ (k - 1 - j) % 256
theorem bytesOf_len (n k : Nat) : (bytesOf n k).length = k := by simp [bytesOf]
theorem pk_bits (n k : Nat) : pkYs (bitsOf n (8 * k)) (bitsOf n (8 * k)).length = bytesOf n k := by
  unfold pkYs bytesOf
  rw [bitsOf_len, show (8 * k + 7) / 8 = k by omega]
  apply List.map_congr_left
  intro j hj
  have hj := List.mem_range.1 hj
  unfold pkb grp
  rw [List.take_of_length_le (l := bitsOf n (8 * k)) (by rw [bitsOf_len]; omega), bits_sub n (8 * k) (8 * j) 8 (by omega), bitsOf_len, numOf_bits]
  simp only [Nat.sub_self, Nat.pow_zero, Nat.mul_one]
  rw [show (2 : Nat) ^ 8 = 256 by rfl, show 8 * k - 8 * j - 8 = 8 * (k - 1 - j) by omega, Nat.pow_mul]
def numB (ys : List Nat) : Nat := ys.foldl (fun a b => a * 256 + b) 0
theorem numB_snoc (ys : List Nat) (b : Nat) : numB (ys ++ [b]) = numB ys * 256 + b := by simp [numB]
theorem num_unpack : ∀ (i : Nat) (ys : List Nat), i ≤ ys.length → (∀ y ∈ ys, y < 256) → numOf (unpackL ys (8 * i)) = numB (ys.take i) := by
  intro i
  induction i with
  | zero => intro ys _ _; simp [unpackL, numOf, numB]
  | succ i ih =>
    intro ys hi hy
    have hg : ys.getD i 0 = ys[i] := by simp [show i < ys.length by omega]
    rw [unpackL_succ, numOf_append, numOf_bits, ih ys (by omega) hy, bitsOf_len, List.take_succ_eq_append_getElem (by omega), numB_snoc, hg]
    have := hy ys[i] (by simp)
    omega
theorem numB_lt (ys : List Nat) (hy : ∀ y ∈ ys, y < 256) : numB ys < 256 ^ ys.length := by
  have h := num_unpack ys.length ys (Nat.le_refl _) hy
  rw [List.take_length] at h
  have h2 := numOf_lt (unpackL ys (8 * ys.length))
  rw [unpackL_len, Nat.pow_mul] at h2
  rw [← h]; exact h2
theorem copy_bytes {b o dl cap : Nat} {x : Value} {ys : List Nat} {c : List Value} (hx : Sl base s 1 x (bL ys)) (hh : s.heap b = .row c) (hb : base ≤ b) (h0 : 0 < ys.length) (hl : ys.length ≤ dl) (hc : o + dl ≤ c.length) :
    copyB Tryd.prog base s [34, 34] [.slice (some ⟨b, o, none⟩) dl cap, x] = some (.int .i64 (ys.length : Nat), s.upd b (.row (setL c o (bC ys)))) := by
  obtain ⟨n, h1, h2, h3⟩ := ldN_slice hx
  rw [bL_len] at h2
  subst h2
  have hst : stN base s ⟨b, o, none⟩ (bC ys) = some (s.upd b (.row (setL c o (bC ys)))) := stNR hh hb (by intro h; have := bC_len ys; rw [h] at this; simp at this; omega) (by rw [bC_len]; omega)
  have hmin : Nat.min ys.length dl = ys.length := Nat.min_eq_left hl
  simp only [copyB, Ty.elem34, Ty.siz5, h1, hmin, h3, ← bC_flat, hst]
/-- Bytes that are copied over a frame's. -/
theorem setL_ds {p : List Value} {ds ys : List Nat} (h : ys.length ≤ ds.length) {o : Nat} (ho : o = p.length) : setL (p ++ bC ds) o (bC ys) = p ++ bC (ys ++ ds.drop ys.length) := by
  subst ho
  rw [setL_eq _ _ _ (by simp [bC_len]; omega), List.take_left, bC_len, List.drop_append]
  simp [bC, ← List.map_drop]
end Go.Proofs.YtdhmjnpaoacpfaaDoor
