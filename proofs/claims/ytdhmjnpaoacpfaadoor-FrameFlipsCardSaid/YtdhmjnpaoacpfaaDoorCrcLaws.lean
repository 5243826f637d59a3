/- What sums are, in plain Lean: linear; a seal's is nought; bursts and odd ones are told. -/
import Derived.Test.YtdhmjnpaoacpfaaDoorTypes
import Derived.Test.YtdhmjnpaoacpfaaDoorRow0
import Derived.Test.YtdhmjnpaoacpfaaDoorAbC
import Derived.Test.YtdhmjnpaoacpfaaDoorBits
import Derived.Test.YtdhmjnpaoacpfaaDoorRefTwo
import Derived.Test.YtdhmjnpaoacpfaaDoorCrcMore
set_option linter.unusedSimpArgs false
set_option linter.unusedVariables false
namespace Go.Proofs.YtdhmjnpaoacpfaaDoor
open Go Go.Ab
theorem eq_of_bits {x y n : Nat} (hx : x < 2 ^ n) (hy : y < 2 ^ n) (h : ∀ i, i < n → x / 2 ^ i % 2 = y / 2 ^ i % 2) : x = y := by
  apply Nat.eq_of_testBit_eq
  intro i
  by_cases hi : i < n
  · rw [Nat.testBit_eq_decide_div_mod_eq, Nat.testBit_eq_decide_div_mod_eq, h i hi]
  · have hp : 2 ^ n ≤ 2 ^ i := Nat.pow_le_pow_right (by decide) (by omega)
    rw [Nat.testBit_lt_two_pow (by omega), Nat.testBit_lt_two_pow (by omega)]
theorem stp_one (r b : Nat) : stp r (one b) = stp r b := by
  unfold stp unlike one
  by_cases h : b = 0 <;> simp [h]
theorem unlike_iff {r b : Nat} (hr : r < 32768) : (unlike r b = true) ↔ (r / 2 ^ 14 % 2 + one b) % 2 = 1 := by
  simp only [Nat.reducePow]
  unfold unlike one
  by_cases hb : b = 0 <;> by_cases h16 : 16384 ≤ r % 32768 <;> simp [hb, h16] <;> omega
theorem fold_one (xs : List Nat) : ∀ r, (xs.map one).foldl stp r = xs.foldl stp r := by
  induction xs with
  | nil => intro r; rfl
  | cons b xs ih => intro r; simp only [List.map_cons, List.foldl_cons, stp_one, ih]
theorem xor_lt15 {r t : Nat} (hr : r < 32768) (ht : t < 32768) : r ^^^ t < 32768 := Nat.xor_lt_two_pow (n := 15) hr ht
theorem stp_lin {r t a b : Nat} (hr : r < 32768) (ht : t < 32768) : stp (r ^^^ t) ((one a + one b) % 2) = stp r a ^^^ stp t b := by
  refine eq_of_bits (n := 15) (stp_lt _ _) (xor_lt15 (stp_lt _ _) (stp_lt _ _)) fun i hi => ?_
  rw [bit_xor, stp_bit hi, stp_bit hi, stp_bit hi]
  have h1 := unlike_iff (b := a) hr
  have h2 := unlike_iff (b := b) ht
  have h3 := unlike_iff (b := (one a + one b) % 2) (xor_lt15 hr ht)
  rw [bit_xor] at h3
  have ha := one_le a
  have hb := one_le b
  have ho : one ((one a + one b) % 2) = (one a + one b) % 2 := by
    have : (one a + one b) % 2 = 0 ∨ (one a + one b) % 2 = 1 := by omega
    rcases this with h | h <;> rw [h] <;> rfl
  rw [ho] at h3
  have hs : (if i = 0 then 0 else (r ^^^ t) / 2 ^ (i - 1) % 2) = ((if i = 0 then 0 else r / 2 ^ (i - 1) % 2) + (if i = 0 then 0 else t / 2 ^ (i - 1) % 2)) % 2 := by
    by_cases h0 : i = 0
    · simp [h0]
    · simp only [h0, if_false]; exact bit_xor _ _ _
  rw [hs]
  generalize (if i = 0 then 0 else r / 2 ^ (i - 1) % 2) = p
  generalize (if i = 0 then 0 else t / 2 ^ (i - 1) % 2) = q
  generalize r / 2 ^ 14 % 2 = c at *
  generalize t / 2 ^ 14 % 2 = d at *
  generalize 17817 / 2 ^ i % 2 = g
  generalize one a = A at *
  generalize one b = B at *
  have e3 : (unlike (r ^^^ t) ((A + B) % 2) = true) ↔ ¬ (unlike r a = true ↔ unlike t b = true) := by
    rw [h1, h2, h3]; omega
  by_cases hA : unlike r a = true
  · by_cases hB : unlike t b = true
    · have : ¬ unlike (r ^^^ t) ((A + B) % 2) = true := fun h => e3.1 h (by simp [hA, hB])
      simp only [hA, hB, this, if_true, Bool.false_eq_true, if_false]; omega
    · have : unlike (r ^^^ t) ((A + B) % 2) = true := e3.2 (by simp [hA, hB])
      simp only [hA, hB, this, if_true, Bool.false_eq_true, if_false]; omega
  · by_cases hB : unlike t b = true
    · have : unlike (r ^^^ t) ((A + B) % 2) = true := e3.2 (by simp [hA, hB])
      simp only [hA, hB, this, if_true, Bool.false_eq_true, if_false]; omega
    · have : ¬ unlike (r ^^^ t) ((A + B) % 2) = true := fun h => e3.1 h (by simp [hA, hB])
      simp only [hA, hB, this, if_true, Bool.false_eq_true, if_false]; omega
def xorL (xs ys : List Nat) : List Nat := List.zipWith (fun a b => (one a + one b) % 2) xs ys
theorem fold_lin : ∀ (xs ys : List Nat), xs.length = ys.length → ∀ r t, r < 32768 → t < 32768 → (xorL xs ys).foldl stp (r ^^^ t) = xs.foldl stp r ^^^ ys.foldl stp t := by
  intro xs
  induction xs with
  | nil => intro ys h r t _ _; cases ys with
    | nil => rfl
    | cons => cases h
  | cons a xs ih =>
    intro ys h r t hr ht
    cases ys with
    | nil => cases h
    | cons b ys =>
      simp only [xorL, List.zipWith_cons_cons, List.foldl_cons, stp_lin hr ht]
      exact ih ys (by simpa using h) _ _ (stp_lt _ _) (stp_lt _ _)
theorem fold_self {r : Nat} (hr : r < 32768) : ∀ t, t ≤ 15 → ((bitsOf r 15).take t).foldl stp r = r * 2 ^ t % 32768 := by
  intro t
  induction t with
  | zero => intro _; simp; omega
  | succ t ih =>
    intro ht
    rw [bits_take_succ r 15 t (by omega), List.foldl_append, ih (by omega)]
    simp only [List.foldl_cons, List.foldl_nil]
    have hu : unlike (r * 2 ^ t % 32768) (r / 2 ^ (15 - 1 - t) % 2) = false := by
      have := unlike_iff (r := r * 2 ^ t % 32768) (b := r / 2 ^ (15 - 1 - t) % 2) (Nat.mod_lt _ (by decide))
      have hc : t = 0 ∨ t = 1 ∨ t = 2 ∨ t = 3 ∨ t = 4 ∨ t = 5 ∨ t = 6 ∨ t = 7 ∨ t = 8 ∨ t = 9 ∨ t = 10 ∨ t = 11 ∨ t = 12 ∨ t = 13 ∨ t = 14 := by omega
      cases hu : unlike (r * 2 ^ t % 32768) (r / 2 ^ (15 - 1 - t) % 2) with
      | false => rfl
      | true =>
        exfalso
        have h1 := this.1 hu
        have ho : one (r / 2 ^ (15 - 1 - t) % 2) = r / 2 ^ (15 - 1 - t) % 2 := by unfold one; split <;> omega
        rw [ho] at h1
        rcases hc with rfl | rfl | rfl | rfl | rfl | rfl | rfl | rfl | rfl | rfl | rfl | rfl | rfl | rfl | rfl <;> simp only [Nat.reducePow, Nat.reduceSub] at h1 <;> omega
    unfold stp
    rw [hu, if_neg (by simp), Nat.pow_succ, ← Nat.mul_assoc]
    omega
theorem fold_bits {r : Nat} (hr : r < 32768) : (bitsOf r 15).foldl stp r = 0 := by
  have := fold_self hr 15 (Nat.le_refl _)
  rw [List.take_of_length_le (by rw [bitsOf_len]; exact Nat.le_refl _)] at this
  rw [this]; omega
theorem whole_seal (xs : List Nat) : wholeB (sealL xs) = true := by
  unfold wholeB
  rw [sealL_len, Nat.add_sub_cancel]
  simp only [decide_eq_true_eq]
  refine ⟨by omega, ?_⟩
  unfold sealL
  have h := sumOf_lt xs
  rw [List.take_append_of_le_length (by simp), List.drop_append_of_le_length (by simp), List.take_of_length_le (by simp), List.drop_eq_nil_of_le (by simp), List.nil_append, numOf_bits, Nat.mod_eq_of_lt (by omega)]
  exact fold_one xs 0
/-! ### Bursts -/
theorem stp_zero {r : Nat} (hr : r < 32768) (h : stp r 0 = 0) : r = 0 := by
  unfold stp at h
  split at h
  · exfalso
    have := congrArg (· % 2) h
    simp only [xor2] at this
    omega
  · rename_i hu
    have := unlike_iff (b := 0) hr
    have h1 : ¬ (r / 2 ^ 14 % 2 + one 0) % 2 = 1 := fun e => hu (this.2 e)
    simp only [one, if_true, Nat.reducePow] at h1
    omega
theorem stp_00 : stp 0 0 = 0 := by decide
theorem fold_zeros {k : Nat} : ∀ {r}, r < 32768 → ((List.replicate k 0).foldl stp r = 0 ↔ r = 0) := by
  induction k with
  | zero => intro r _; rfl
  | succ k ih =>
    intro r hr
    rw [List.replicate_succ, List.foldl_cons, ih (stp_lt _ _)]
    exact ⟨stp_zero hr, fun h => by subst h; exact stp_00⟩
theorem xorL_zeros {xs : List Nat} (h : ∀ x ∈ xs, x ≤ 1) : xorL xs (List.replicate xs.length 0) = xs := by
  induction xs with
  | nil => rfl
  | cons a xs ih =>
    have ha := h a (by simp)
    simp only [xorL, List.length_cons, List.replicate_succ, List.zipWith_cons_cons] at *
    rw [ih fun x hx => h x (by simp [hx])]
    congr 1
    have : a = 0 ∨ a = 1 := by omega
    rcases this with rfl | rfl <;> rfl
theorem bits_le (n k : Nat) : ∀ x ∈ bitsOf n k, x ≤ 1 := fun x hx => by
  simp only [bitsOf, List.mem_map] at hx
  obtain ⟨j, _, rfl⟩ := hx
  omega
/-- Fifteen bits behind one another: nought only if they and the sum ahead are the same. -/
theorem fold_zero_iff {r p : Nat} (hr : r < 32768) (hp : p < 32768) : ((bitsOf p 15).foldl stp r = 0) ↔ r = p := by
  have h1 := fold_lin (bitsOf p 15) (List.replicate 15 0) (by rw [bitsOf_len]; rfl) p (r ^^^ p) hp (xor_lt15 hr hp)
  have h2 := xorL_zeros (bits_le p 15)
  rw [bitsOf_len] at h2
  have e : p ^^^ (r ^^^ p) = r := by
    rw [Nat.xor_comm r p, ← Nat.xor_assoc, Nat.xor_self, Nat.zero_xor]
  rw [h2, e, fold_bits hp, Nat.zero_xor] at h1
  rw [h1, fold_zeros (xor_lt15 hr hp)]
  constructor
  · intro h
    have := congrArg (· ^^^ p) h
    simp only [Nat.xor_assoc, Nat.xor_self, Nat.xor_zero, Nat.zero_xor] at this
    exact this
  · intro h; subst h; exact Nat.xor_self _
theorem whole_iff {xs : List Nat} (h : 15 ≤ xs.length) : wholeB xs = decide (sumOf xs = 0) := by
  unfold wholeB
  apply decide_eq_decide.2
  have hl : (xs.drop (xs.length - 15)).length = 15 := by simp; omega
  have hn : numOf (xs.drop (xs.length - 15)) < 32768 := by have := numOf_lt (xs.drop (xs.length - 15)); rw [hl] at this; exact this
  have e : sumOf xs = (bitsOf (numOf (xs.drop (xs.length - 15))) 15).foldl stp (sumOf (xs.take (xs.length - 15))) := by
    have e1 := bits_num (xs.drop (xs.length - 15))
    rw [hl] at e1
    rw [e1, fold_one]
    conv => lhs; rw [← List.take_append_drop (xs.length - 15) xs]
    unfold sumOf
    rw [List.foldl_append]
  rw [e, fold_zero_iff (sumOf_lt _) hn]
  exact ⟨fun h => h.2, fun hh => ⟨h, hh⟩⟩
/-! ### Odd ones -/
def par (xs : List Nat) : Nat := xs.foldl (fun a b => (a + one b) % 2) 0
theorem par_snoc (xs : List Nat) (b : Nat) : par (xs ++ [b]) = (par xs + one b) % 2 := by simp [par]
def pc (r : Nat) : Nat := (r / 2 ^ 0 % 2 + r / 2 ^ 1 % 2 + r / 2 ^ 2 % 2 + r / 2 ^ 3 % 2 + r / 2 ^ 4 % 2 + r / 2 ^ 5 % 2 + r / 2 ^ 6 % 2 + r / 2 ^ 7 % 2 + r / 2 ^ 8 % 2 + r / 2 ^ 9 % 2 + r / 2 ^ 10 % 2 + r / 2 ^ 11 % 2 + r / 2 ^ 12 % 2 + r / 2 ^ 13 % 2 + r / 2 ^ 14 % 2) % 2
theorem pc_stp {r b : Nat} (hr : r < 32768) : pc (stp r b) = (pc r + one b) % 2 := by
  have hu := unlike_iff (b := b) hr
  have hb := one_le b
  unfold pc
  rw [stp_bit (show 0 < 15 by decide), stp_bit (show 1 < 15 by decide), stp_bit (show 2 < 15 by decide), stp_bit (show 3 < 15 by decide), stp_bit (show 4 < 15 by decide), stp_bit (show 5 < 15 by decide), stp_bit (show 6 < 15 by decide), stp_bit (show 7 < 15 by decide), stp_bit (show 8 < 15 by decide), stp_bit (show 9 < 15 by decide), stp_bit (show 10 < 15 by decide), stp_bit (show 11 < 15 by decide), stp_bit (show 12 < 15 by decide), stp_bit (show 13 < 15 by decide), stp_bit (show 14 < 15 by decide)]
  simp only [if_true, Nat.succ_ne_zero, Nat.reduceEqDiff, if_false, Nat.reduceSub]
  generalize r / 2 ^ 0 % 2 = a0
  generalize r / 2 ^ 1 % 2 = a1
  generalize r / 2 ^ 2 % 2 = a2
  generalize r / 2 ^ 3 % 2 = a3
  generalize r / 2 ^ 4 % 2 = a4
  generalize r / 2 ^ 5 % 2 = a5
  generalize r / 2 ^ 6 % 2 = a6
  generalize r / 2 ^ 7 % 2 = a7
  generalize r / 2 ^ 8 % 2 = a8
  generalize r / 2 ^ 9 % 2 = a9
  generalize r / 2 ^ 10 % 2 = a10
  generalize r / 2 ^ 11 % 2 = a11
  generalize r / 2 ^ 12 % 2 = a12
  generalize r / 2 ^ 13 % 2 = a13
  generalize r / 2 ^ 14 % 2 = a14 at *
  simp only [Nat.reducePow, Nat.reduceDiv, Nat.reduceMod]
  by_cases h : unlike r b = true
  · have := hu.1 h
    simp only [h, if_true]; omega
  · have : ¬ (a14 + one b) % 2 = 1 := fun e => h (hu.2 e)
    simp only [h, Bool.false_eq_true, if_false]; omega
theorem pc_sum (xs : List Nat) : pc (sumOf xs) = par xs := by
  have : ∀ k, k ≤ xs.length → pc (sumOf (xs.take k)) = par (xs.take k) := by
    intro k
    induction k with
    | zero => intro _; rw [List.take_zero]; decide
    | succ k ih =>
      intro hk
      rw [List.take_succ_eq_append_getElem (by omega), sumOf_snoc, par_snoc, pc_stp (sumOf_lt _), ih (by omega)]
  have h := this xs.length (Nat.le_refl _)
  rwa [List.take_length] at h
theorem par_whole {xs : List Nat} (h : wholeB xs = true) : par xs = 0 := by
  have h15 : 15 ≤ xs.length := by unfold wholeB at h; simp only [decide_eq_true_eq] at h; exact h.1
  rw [whole_iff h15] at h
  simp only [decide_eq_true_eq] at h
  rw [← pc_sum, h]; rfl
end Go.Proofs.YtdhmjnpaoacpfaaDoor
