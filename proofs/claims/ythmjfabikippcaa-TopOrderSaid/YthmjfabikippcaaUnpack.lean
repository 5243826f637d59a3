/- The package strand: Unpack, as a contract; and what was packed, unpacked. -/
import Derived.Test.YthmjfabikippcaaPack
set_option linter.unusedSimpArgs false
set_option linter.unusedVariables false
namespace Go.Proofs.Ythmjfabikippcaa
open Go Go.Ab
variable {base : Nat} {s : St} {R : Value → St → Prop}
def unpackL (ys : List Nat) (n : Nat) : List Nat := (List.range n).map fun i => ys.getD (i / 8) 0 / 2 ^ (7 - i % 8) % 2
theorem unpackL_len (ys : List Nat) (n : Nat) : (unpackL ys n).length = n := by simp [unpackL]
theorem unpackL_take (ys : List Nat) (n m : Nat) (h : n ≤ m) : (unpackL ys m).take n = unpackL ys n := by
  simp [unpackL, ← List.map_take, List.take_range, Nat.min_eq_left h]
theorem unpackL_succ (ys : List Nat) (i : Nat) : unpackL ys (8 * (i + 1)) = unpackL ys (8 * i) ++ bitsOf (ys.getD i 0) 8 := by
  apply List.ext_getElem
  · simp [unpackL, bitsOf]; omega
  · intro p h1 h2
    rw [unpackL_len] at h1
    by_cases hp : p < 8 * i
    · rw [List.getElem_append_left (by rw [unpackL_len]; exact hp)]
      simp [unpackL]
    · rw [List.getElem_append_right (by rw [unpackL_len]; omega)]
      simp only [unpackL, bitsOf, List.getElem_map, List.getElem_range, List.length_map, List.length_range]
      rw [show p / 8 = i by omega, show 7 - p % 8 = 8 - 1 - (p - 8 * i) by omega]
theorem pk_bit {xs : List Nat} {j t : Nat} (ht : t < 8) (h : 8 * j + t < xs.length) : pkb xs xs.length j / 2 ^ (7 - t) % 2 = one (xs.getD (8 * j + t) 0) := by
  have hl := grp_len xs j (Nat.le_refl xs.length)
  have hlt : t < (grp xs xs.length j).length := by omega
  have hb := num_bit (grp xs xs.length j) t hlt
  have hg : (grp xs xs.length j)[t] = xs.getD (8 * j + t) 0 := by simp [grp, h]
  rw [hg] at hb
  rw [← hb]
  unfold pkb
  clear hg hb
  generalize (grp xs xs.length j).length = m at *
  have e1 : 7 - t = (8 - m) + (m - 1 - t) := by omega
  rw [e1, Nat.pow_add, ← Nat.div_div_eq_div_mul, Nat.mul_div_cancel _ (Nat.pos_of_ne_zero (by have := Nat.one_le_two_pow (n := 8 - m); omega))]
theorem unpack_pack (xs : List Nat) : (unpackL (pkYs xs xs.length) xs.length).map one = xs.map one := by
  apply List.ext_getElem
  · simp [unpackL_len]
  · intro i h1 h2
    simp only [List.length_map] at h2
    have hp : (pkYs xs xs.length).getD (i / 8) 0 = pkb xs xs.length (i / 8) := by
      rw [List.getD_eq_getElem?_getD, pkYs_at (by omega)]; rfl
    simp only [unpackL, List.getElem_map, List.getElem_range, hp]
    have := pk_bit (xs := xs) (j := i / 8) (t := i % 8) (by omega) (by omega)
    rw [this, show 8 * (i / 8) + i % 8 = i by omega]
    have h3 : xs.getD i 0 = xs[i] := by simp [h2]
    rw [h3]
    have := one_le xs[i]
    unfold one at *; split <;> simp_all
theorem pkYs_lt (xs : List Nat) : ∀ y ∈ pkYs xs xs.length, y < 256 := by
  intro y hy
  simp only [pkYs, List.mem_map, List.mem_range] at hy
  obtain ⟨j, _, rfl⟩ := hy
  exact pkb_lt xs j (Nat.le_refl _)
theorem one_one (b : Nat) : one (one b) = one b := by unfold one; split <;> simp_all
theorem flipL_len (xs : List Nat) (k : Int) : (flipL xs k).length = xs.length := by unfold flipL; split <;> simp
theorem flip_flip (xs : List Nat) (k : Int) : (flipL (flipL xs k) k).map one = xs.map one := by
  by_cases h : 0 ≤ k ∧ k < xs.length
  · obtain ⟨i, rfl⟩ : ∃ i : Nat, k = i := ⟨k.toNat, by omega⟩
    have hi : i < xs.length := by omega
    have h1 : flipL xs (i : Int) = (xs.map one).set i (1 - one (xs.getD i 0)) := by simp [flipL, hi]
    have h2 : ∀ ys : List Nat, i < ys.length → flipL ys (i : Int) = (ys.map one).set i (1 - one (ys.getD i 0)) := fun ys hy => by simp [flipL, hy]
    rw [h1, h2 _ (by simp [hi])]
    apply List.ext_getElem
    · simp
    · intro j hj1 hj2
      simp only [List.length_map] at hj2
      simp only [List.getElem_map, List.getElem_set, List.map_set]
      by_cases hj : i = j
      · subst hj
        simp [hi]
        have := one_le xs[i]
        unfold one at *; split <;> simp_all
      · simp [hj, one_one]
  · have h1 : ∀ ys : List Nat, ys.length = xs.length → flipL ys k = ys.map one := fun ys hy => by unfold flipL; rw [if_neg (by rw [hy]; exact h)]
    rw [h1 xs rfl, h1 _ (by simp)]
    simp [one_one]
end Go.Proofs.Ythmjfabikippcaa
