/- The package crc: Sum, as a contract: division by the fixed string. -/
import Derived.Test.YtdhmjnpaoacpfaaDoorTypes
import Derived.Test.YtdhmjnpaoacpfaaDoorRow0
import Derived.Test.YtdhmjnpaoacpfaaDoorAbC
import Derived.Test.YtdhmjnpaoacpfaaDoorBits
import Derived.Test.YtdhmjnpaoacpfaaDoorOwnOf
import Derived.Test.YtdhmjnpaoacpfaaDoorCrc
set_option linter.all false
set_option maxRecDepth 20000
namespace Go.Proofs.YtdhmjnpaoacpfaaDoor
open Go Go.Ab
variable {base : Nat} {s : St} {R : Value → St → Prop}
theorem xor2 (a b : Nat) : (a ^^^ b) % 2 = (a % 2 + b % 2) % 2 := by
  have := @Nat.xor_mod_two_eq_one a b
  omega
theorem bit_xor (x y i : Nat) : (x ^^^ y) / 2 ^ i % 2 = (x / 2 ^ i % 2 + y / 2 ^ i % 2) % 2 := by
  rw [Nat.xor_div_two_pow, xor2]
def dv (k : Nat) : Nat := 50585 / 2 ^ (15 - k) % 2
theorem divC_dv : divC = bC ((List.range 16).map dv) := rfl
theorem stp_bit {r b e : Nat} (he : e < 15) : stp r b / 2 ^ e % 2 = ((if e = 0 then 0 else r / 2 ^ (e - 1) % 2) + (if unlike r b = true then 17817 / 2 ^ e % 2 else 0)) % 2 := by
  have base : r * 2 % 32768 / 2 ^ e % 2 = if e = 0 then 0 else r / 2 ^ (e - 1) % 2 := by
    have hc : e = 0 ∨ e = 1 ∨ e = 2 ∨ e = 3 ∨ e = 4 ∨ e = 5 ∨ e = 6 ∨ e = 7 ∨ e = 8 ∨ e = 9 ∨ e = 10 ∨ e = 11 ∨ e = 12 ∨ e = 13 ∨ e = 14 := by omega
    rcases hc with rfl | rfl | rfl | rfl | rfl | rfl | rfl | rfl | rfl | rfl | rfl | rfl | rfl | rfl | rfl <;> simp only [Nat.reducePow, Nat.reduceSub, Nat.reduceEqDiff, if_true, if_false, Nat.succ_ne_zero] <;> omega
  unfold stp
  split
  · rw [bit_xor, base]
  · rw [base, Nat.add_zero]
    split <;> omega
def orig (xs : List Nat) (j : Nat) : Nat := one (xs.getD j 0)
theorem orig_none {xs : List Nat} {j : Nat} (h : xs.length ≤ j) : orig xs j = 0 := by simp [orig, List.getD_eq_getElem?_getD, List.getElem?_eq_none h, one]
def curA (xs : List Nat) (i j : Nat) : Nat := if j < i then 0 else if j < i + 15 then (orig xs j + sumOf (xs.take i) / 2 ^ (14 - (j - i)) % 2) % 2 else orig xs j
def mixA (xs : List Nat) (i k j : Nat) : Nat := if i ≤ j ∧ j < i + k then (curA xs i j + dv (j - i)) % 2 else curA xs i j
def mix (xs : List Nat) (i k : Nat) : List Nat := (List.range (xs.length + 15)).map (mixA xs i k)
theorem mix_len (xs : List Nat) (i k : Nat) : (mix xs i k).length = xs.length + 15 := by simp [mix]
theorem mix_at {xs : List Nat} {i k j : Nat} (h : j < xs.length + 15) : (bC (mix xs i k))[j]? = some (.int .u8 (mixA xs i k j : Nat)) := by
  simp [bC, mix, h]
theorem mix_set {xs : List Nat} {i k : Nat} (h : i + k < xs.length + 15) : (mix xs i k).set (i + k) ((mixA xs i k (i + k) + dv k) % 2) = mix xs i (k + 1) := by
  apply List.ext_getElem
  · simp [mix]
  · intro j h1 h2
    rw [List.getElem_set]
    simp only [mix, List.getElem_map, List.getElem_range]
    by_cases hj : i + k = j
    · subst hj
      rw [if_pos rfl]
      unfold mixA
      rw [if_neg (by omega), if_pos (by omega), show i + k - i = k by omega]
    · rw [if_neg hj]
      unfold mixA
      by_cases h3 : i ≤ j ∧ j < i + k
      · rw [if_pos h3, if_pos (by omega)]
      · rw [if_neg h3, if_neg (by omega)]
theorem orig_le (xs : List Nat) (j : Nat) : orig xs j ≤ 1 := one_le _
theorem curA_le (xs : List Nat) (i j : Nat) : curA xs i j ≤ 1 := by
  have := orig_le xs j
  unfold curA; split
  · omega
  · split <;> omega
theorem dv_le (k : Nat) : dv k ≤ 1 := by unfold dv; omega
theorem mixA_le (xs : List Nat) (i k j : Nat) : mixA xs i k j ≤ 1 := by
  have := curA_le xs i j
  unfold mixA; split <;> omega
theorem mix_zero (xs : List Nat) : mix xs 0 0 = xs.map one ++ List.replicate 15 0 := by
  apply List.ext_getElem
  · simp [mix]
  · intro j h1 h2
    simp only [mix, List.getElem_map, List.getElem_range, mixA, Nat.not_lt_zero, and_false, if_false, curA, List.take_zero, sumOf, List.foldl_nil, Nat.zero_div, Nat.zero_mod, Nat.add_zero, Nat.zero_add]
    have ho := orig_le xs j
    have e : (xs.map one ++ List.replicate 15 0)[j] = orig xs j := by
      rw [List.getElem_append]
      split
      · rename_i hj; simp at hj; simp [orig, hj]
      · rename_i hj; simp at hj; rw [orig_none hj, List.getElem_replicate]
    rw [e]
    split <;> omega
theorem unlike_eq {xs : List Nat} {i : Nat} (h : i < xs.length) : (curA xs i i = 0) ↔ unlike (sumOf (xs.take i)) (xs[i]) = false := by
  have hlt := sumOf_lt (xs.take i)
  have e : orig xs i = one xs[i] := by simp [orig, h]
  unfold curA unlike
  rw [if_neg (by omega), if_pos (by omega), e, show 14 - (i - i) = 14 by omega]
  generalize sumOf (xs.take i) = r at *
  generalize xs[i] = b at *
  simp only [Nat.reducePow]
  unfold one
  by_cases hb : b = 0 <;> by_cases h16 : 16384 ≤ r % 32768 <;> simp [hb, h16] <;> omega
theorem cur_next {xs : List Nat} {i : Nat} (h : i < xs.length) (j : Nat) : curA xs (i + 1) j = if unlike (sumOf (xs.take i)) (xs[i]) = true then mixA xs i 16 j else curA xs i j := by
  have hu := unlike_eq h
  have hle := curA_le xs i i
  by_cases h1 : j < i
  · have e1 : curA xs (i + 1) j = 0 := by unfold curA; rw [if_pos (by omega)]
    have e2 : curA xs i j = 0 := by unfold curA; rw [if_pos h1]
    have e3 : mixA xs i 16 j = curA xs i j := by unfold mixA; rw [if_neg (by omega)]
    rw [e1, e3, e2]; split <;> rfl
  · by_cases h2 : j = i
    · subst h2
      have e1 : curA xs (j + 1) j = 0 := by unfold curA; rw [if_pos (by omega)]
      have e3 : mixA xs j 16 j = (curA xs j j + 1) % 2 := by unfold mixA; rw [if_pos (by omega), Nat.sub_self]; rfl
      rw [e1, e3]
      by_cases hk : unlike (sumOf (xs.take j)) (xs[j]) = true
      · rw [if_pos hk]
        have : curA xs j j ≠ 0 := fun e => by rw [hu.1 e] at hk; cases hk
        omega
      · rw [if_neg hk]; exact (hu.2 (by simpa using hk)).symm
    · have e1 : xs.take (i + 1) = xs.take i ++ [xs[i]] := List.take_succ_eq_append_getElem h
      by_cases h3 : j < i + 16
      · have e2 : curA xs (i + 1) j = (orig xs j + stp (sumOf (xs.take i)) xs[i] / 2 ^ (15 - (j - i)) % 2) % 2 := by
          unfold curA
          rw [if_neg (by omega), if_pos (by omega), e1, sumOf_snoc, show 14 - (j - (i + 1)) = 15 - (j - i) by omega]
        have e3 : curA xs i j = (orig xs j + (if 15 - (j - i) = 0 then 0 else sumOf (xs.take i) / 2 ^ (15 - (j - i) - 1) % 2)) % 2 := by
          have ho := orig_le xs j
          unfold curA
          rw [if_neg (by omega)]
          by_cases h4 : j < i + 15
          · rw [if_pos h4, if_neg (by omega), show 15 - (j - i) - 1 = 14 - (j - i) by omega]
          · rw [if_neg h4, if_pos (by omega)]; omega
        have e4 : mixA xs i 16 j = (curA xs i j + dv (j - i)) % 2 := by unfold mixA; rw [if_pos (by omega)]
        have e5 : dv (j - i) = 17817 / 2 ^ (15 - (j - i)) % 2 := by
          unfold dv
          have he : 15 - (j - i) ≤ 14 := by omega
          revert he
          generalize 15 - (j - i) = e
          intro he
          have hc : e = 0 ∨ e = 1 ∨ e = 2 ∨ e = 3 ∨ e = 4 ∨ e = 5 ∨ e = 6 ∨ e = 7 ∨ e = 8 ∨ e = 9 ∨ e = 10 ∨ e = 11 ∨ e = 12 ∨ e = 13 ∨ e = 14 ∨ 15 ≤ e := by omega
          rcases hc with rfl | rfl | rfl | rfl | rfl | rfl | rfl | rfl | rfl | rfl | rfl | rfl | rfl | rfl | rfl | h15
          all_goals first | decide | (exfalso; omega)
        rw [e2, stp_bit (by omega), e4, e3, e5]
        generalize (if 15 - (j - i) = 0 then 0 else sumOf (xs.take i) / 2 ^ (15 - (j - i) - 1) % 2) = q
        generalize 17817 / 2 ^ (15 - (j - i)) = u
        by_cases hk : unlike (sumOf (xs.take i)) (xs[i]) = true
        · simp only [hk, if_true]; omega
        · simp only [hk, if_false, Bool.false_eq_true]; omega
      · have e2 : curA xs (i + 1) j = orig xs j := by unfold curA; rw [if_neg (by omega), if_neg (by omega)]
        have e3 : curA xs i j = orig xs j := by unfold curA; rw [if_neg (by omega), if_neg (by omega)]
        have e4 : mixA xs i 16 j = curA xs i j := by unfold mixA; rw [if_neg (by omega)]
        rw [e2, e4, e3]; split <;> rfl
theorem mix_same {xs : List Nat} {i : Nat} (h : i < xs.length) (hz : curA xs i i = 0) : mix xs i 0 = mix xs (i + 1) 0 := by
  unfold mix
  apply List.map_congr_left
  intro j _
  unfold mixA
  rw [if_neg (by omega), if_neg (by omega), cur_next h, if_neg (by rw [(unlike_eq h).1 hz]; simp)]
theorem mix_full {xs : List Nat} {i : Nat} (h : i < xs.length) (hz : curA xs i i ≠ 0) : mix xs i 16 = mix xs (i + 1) 0 := by
  unfold mix
  apply List.map_congr_left
  intro j _
  have e : mixA xs (i + 1) 0 j = curA xs (i + 1) j := by unfold mixA; rw [if_neg (by omega)]
  rw [e, cur_next h, if_pos]
  cases hu : unlike (sumOf (xs.take i)) xs[i] with
  | true => rfl
  | false => exact absurd ((unlike_eq h).2 hu) hz
theorem mix_end (xs : List Nat) : (mix xs xs.length 0).drop xs.length = bitsOf (sumOf xs) 15 := by
  apply List.ext_getElem
  · simp [mix_len, bitsOf_len]
  · intro j h1 h2
    simp only [bitsOf_len] at h2
    have hlt := sumOf_lt xs
    rw [List.getElem_drop]
    simp only [mix, List.getElem_map, List.getElem_range, bitsOf]
    unfold mixA curA
    rw [if_neg (by omega), if_neg (by omega), if_pos (by omega), List.take_length, show xs.length + j - xs.length = j by omega]
    have : orig xs (xs.length + j) = 0 := orig_none (by omega)
    rw [this]
    simp
theorem make_app {b n : Nat} {ys : List Nat} (h : s.heap b = .row (bC ys)) (hn : n = ys.length) (hl : n ≤ 100000) (hb : base ≤ b) :
    appendB Tryd.prog base s [34, 3] [.slice (some ⟨b, 0, none⟩) n n, .int .i64 15] = some (.slice (some ⟨s.next, 0, none⟩) (n + 15) (n + 15), s.alloc (.grown (bC (ys ++ List.replicate 15 0)) 1)) := by
  have hold : Ab.ldN base s ⟨b, 0, none⟩ (n * 1) = some (bC ys) := by
    subst hn
    by_cases h0 : ys.length = 0
    · have : ys = [] := List.eq_nil_of_length_eq_zero h0
      subst this; rfl
    · have := ldNR (base := base) (o := 0) (n := ys.length * 1) h hb (by omega) (by rw [bC_len]; omega)
      rw [this, List.drop_zero, List.take_of_length_le (by rw [bC_len]; omega)]
  have e15 : repL [Value.int IntKind.u8 0] 15 = bC (List.replicate 15 0) := rfl
  have hu : (Tryd.prog.underlying 3).isSome = true := by rw [Tryd.underlying3]; rfl
  simp only [appendB, hu, if_true, Ty.int3, Ty.elem34, Ty.zer5, Ty.byt5, Int.reduceToNat]
  rw [if_pos (by decide)]
  simp only [appendV, Ty.elem34, Ty.siz5, Ty.zer5, Ty.byt5, h]
  rw [if_pos ⟨rfl, by omega, by rw [e15, bC_len]; simp, Nat.le_refl _⟩, if_neg (by omega), if_neg (by omega), if_pos (by omega), hold]
  simp [e15, bC]
theorem sl_grown {b n : Nat} {xs : List Nat} (h : s.heap b = .grown (bC xs) 1) (hn : n = xs.length) (hb : base ≤ b) (hlt : b < s.next) : Sl base s 1 (.slice (some ⟨b, 0, none⟩) n n) (bL xs) := by
  refine .mk (by rw [bL_len]; exact hn.symm) (Nat.le_refl _) (by simp [bL]) (fun _ => ⟨rfl, hlt, .inl hb, bC xs, by rw [h]; rfl, ?_⟩) (by unfold kindB; rw [h]; rfl) hlt
  rw [← bC_flat]; exact getL_all rfl
theorem xor8 {a b : Nat} (ha : a ≤ 1) (hb : b ≤ 1) : xorI .u8 (a : Int) (b : Int) = (((a + b) % 2 : Nat) : Int) := by
  have h1 : a = 0 ∨ a = 1 := by omega
  have h2 : b = 0 ∨ b = 1 := by omega
  rcases h1 with rfl | rfl <;> rcases h2 with rfl | rfl <;> rfl
end Go.Proofs.YtdhmjnpaoacpfaaDoor
