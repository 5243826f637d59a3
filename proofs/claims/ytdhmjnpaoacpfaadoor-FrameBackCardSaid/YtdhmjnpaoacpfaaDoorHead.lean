/- What a frame's body begins with says how many bits there are, and whose it is. In plain words. -/
import Derived.Test.YtdhmjnpaoacpfaaDoorTypes
import Derived.Test.YtdhmjnpaoacpfaaDoorRow0
import Derived.Test.YtdhmjnpaoacpfaaDoorAbC
import Derived.Test.YtdhmjnpaoacpfaaDoorBits
import Derived.Test.YtdhmjnpaoacpfaaDoorRight
import Derived.Test.YtdhmjnpaoacpfaaDoorFive
import Derived.Test.YtdhmjnpaoacpfaaDoorFrame
import Derived.Test.YtdhmjnpaoacpfaaDoorBodyRef
set_option linter.all false
set_option maxRecDepth 20000
namespace Go.Proofs.YtdhmjnpaoacpfaaDoor
open Go Go.Ab
theorem seg_app {a b c : List Nat} {l h : Nat} (hl : a.length = l) (hh : h = l + b.length) : seg (a ++ (b ++ c)) l h = b := by
  subst hl; subst hh
  unfold seg
  rw [← List.append_assoc, List.take_append_of_le_length (by simp), List.take_of_length_le (by simp), List.drop_left]
theorem getD_app {a c : List Nat} {x i : Nat} (hi : a.length = i) : (a ++ (x :: c)).getD i 0 = x := by
  subst hi; simp [List.getD_eq_getElem?_getD]
theorem bits_snoc (n k : Nat) : bitsOf n (k + 1) = bitsOf (n / 2) k ++ [n % 2] := by
  unfold bitsOf
  rw [List.range_succ, List.map_append]
  congr 1
  · apply List.map_congr_left
    intro j hj
    have := List.mem_range.1 hj
    rw [Nat.div_div_eq_div_mul, ← Nat.pow_succ', show (k - 1 - j).succ = k + 1 - 1 - j by omega]
  · simp
theorem bits5_std (n : Nat) (r : Bool) : bits5 false n r = bitsOf n 11 ++ [ask r, 0] := by
  have ha := ask_le r
  simp only [bits5, Bool.false_eq_true, if_false]
  rw [bits_snoc, bits_snoc]
  rw [show (n * 2 + ask r) * 2 / 2 = n * 2 + ask r by omega, show (n * 2 + ask r) / 2 = n by omega, show (n * 2 + ask r) % 2 = ask r by omega, show (n * 2 + ask r) * 2 % 2 = 0 by omega]
  simp
structure HeadOf (xs : List Nat) (e : Bool) (n : Nat) (r : Bool) (l : Nat) : Prop where
  ext : extB xs = e
  rem : remB xs = r
  len : lenN xs = l
  id : idN xs = n
  frm : fromN xs = if e then 35 else 15
theorem head_of {e : Bool} {n : Nat} {r : Bool} {l : Nat} {c : List Nat} (hi : idOk e n = true) (hl : l ≤ 8) : HeadOf (headL e n r l ++ c) e n r l := by
  have ha := ask_le r
  have hr : (ask r != 0) = r := by cases r <;> rfl
  simp only [idOk, decide_eq_true_eq] at hi
  have hnl : min 8 (numOf (bitsOf l 4)) = l := by rw [numOf_bits]; omega
  cases e
  · simp only [Bool.false_eq_true, if_false] at hi
    have h13 : extB (headL false n r l ++ c) = false := by
      unfold extB
      have : headL false n r l ++ c = ([0] ++ bitsOf n 11 ++ [ask r]) ++ (0 :: ([0] ++ bitsOf l 4 ++ c)) := by simp [headL, bits5_std]
      rw [this, getD_app (by simp [bitsOf_len])]; rfl
    have hf : fromN (headL false n r l ++ c) = 15 := by unfold fromN; rw [h13]; rfl
    refine ⟨h13, ?_, ?_, ?_, by rw [hf]; rfl⟩
    · unfold remB askN
      rw [h13]
      have : headL false n r l ++ c = ([0] ++ bitsOf n 11) ++ (ask r :: ([0] ++ [0] ++ bitsOf l 4 ++ c)) := by simp [headL, bits5_std]
      rw [if_neg (by simp), this, getD_app (by simp [bitsOf_len])]; exact hr
    · unfold lenN
      rw [hf]
      have : headL false n r l ++ c = ([0] ++ bitsOf n 11 ++ [ask r, 0] ++ [0]) ++ (bitsOf l 4 ++ c) := by simp [headL, bits5_std]
      rw [this, seg_app (by simp [bitsOf_len]) (by simp [bitsOf_len])]; exact hnl
    · unfold idN
      rw [h13]
      have : headL false n r l ++ c = [0] ++ (bitsOf n 11 ++ ([ask r, 0] ++ [0] ++ bitsOf l 4 ++ c)) := by simp [headL, bits5_std]
      rw [if_neg (by simp), this, seg_app (by simp) (by simp [bitsOf_len]), numOf_bits]; omega
  · simp only [if_true] at hi
    have hb : bits5 true n r = bitsOf (n / 262144) 11 ++ [1, 1] ++ bitsOf n 18 ++ [ask r] := by simp [bits5]
    have h13 : extB (headL true n r l ++ c) = true := by
      unfold extB
      have : headL true n r l ++ c = ([0] ++ bitsOf (n / 262144) 11 ++ [1]) ++ (1 :: (bitsOf n 18 ++ [ask r] ++ [0, 0] ++ bitsOf l 4 ++ c)) := by simp [headL, hb, List.replicate]
      rw [this, getD_app (by simp [bitsOf_len])]; rfl
    have hf : fromN (headL true n r l ++ c) = 35 := by unfold fromN; rw [h13]; rfl
    refine ⟨h13, ?_, ?_, ?_, by rw [hf]; rfl⟩
    · unfold remB askN
      rw [h13]
      have : headL true n r l ++ c = ([0] ++ bitsOf (n / 262144) 11 ++ [1, 1] ++ bitsOf n 18) ++ (ask r :: ([0, 0] ++ bitsOf l 4 ++ c)) := by simp [headL, hb, List.replicate]
      rw [if_pos rfl, this, getD_app (by simp [bitsOf_len])]; exact hr
    · unfold lenN
      rw [hf]
      have : headL true n r l ++ c = ([0] ++ bitsOf (n / 262144) 11 ++ [1, 1] ++ bitsOf n 18 ++ [ask r] ++ [0, 0]) ++ (bitsOf l 4 ++ c) := by simp [headL, hb, List.replicate]
      rw [this, seg_app (by simp [bitsOf_len]) (by simp [bitsOf_len])]; exact hnl
    · unfold idN
      rw [h13]
      have h1 : headL true n r l ++ c = [0] ++ (bitsOf (n / 262144) 11 ++ ([1, 1] ++ bitsOf n 18 ++ [ask r] ++ [0, 0] ++ bitsOf l 4 ++ c)) := by simp [headL, hb, List.replicate]
      have h2 : headL true n r l ++ c = ([0] ++ bitsOf (n / 262144) 11 ++ [1, 1]) ++ (bitsOf n 18 ++ ([ask r] ++ [0, 0] ++ bitsOf l 4 ++ c)) := by simp [headL, hb, List.replicate]
      have s1 : seg (headL true n r l ++ c) 1 12 = bitsOf (n / 262144) 11 := by rw [h1, seg_app (by simp) (by simp [bitsOf_len])]
      have s2 : seg (headL true n r l ++ c) 14 32 = bitsOf n 18 := by rw [h2, seg_app (by simp [bitsOf_len]) (by simp [bitsOf_len])]
      rw [if_pos rfl, s1, s2, numOf_bits, numOf_bits]; omega
theorem head_one {e : Bool} {n : Nat} {r : Bool} {l : Nat} : (headL e n r l).map one = headL e n r l := by
  have h5 : (bits5 e n r).map one = bits5 e n r := by
    cases e
    · simp only [bits5, Bool.false_eq_true, if_false]; exact bits_map_one _ _
    · simp only [bits5, if_true, List.map_append, bits_map_one, List.map_cons, List.map_nil, one_ask]; rfl
  unfold headL
  rw [List.map_append, List.map_append, List.map_append, h5, bits_map_one]
  cases e <;> rfl
/-- A whole body: what its beginning says, and its length. -/
theorem body_head {e : Bool} {n : Nat} {r : Bool} {l : Nat} {ds : List Nat} (hi : idOk e n = true) (hl : l ≤ 8) : ∃ c, sealL (bodyL e n r l ds) = headL e n r l ++ c ∧ (sealL (bodyL e n r l ds)).length = (if e then 54 else 34) + (if r then 0 else 8 * l) := by
  refine ⟨((if r then [] else datL ds l).map one) ++ bitsOf (sumOf (bodyL e n r l ds)) 15, ?_, ?_⟩
  · unfold sealL
    rw [show (bodyL e n r l ds).map one = headL e n r l ++ (if r then [] else datL ds l).map one by rw [bodyL_eq hi, List.map_append, head_one], List.append_assoc]
  · rw [sealL_len, bodyL_len]; cases e <;> cases r <;> simp <;> omega
end Go.Proofs.YtdhmjnpaoacpfaaDoor
