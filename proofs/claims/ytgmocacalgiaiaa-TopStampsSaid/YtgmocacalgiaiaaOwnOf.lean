import Derived.Test.YtgmocacalgiaiaaTypes
import Derived.Test.YtgmocacalgiaiaaRow0
import Derived.Test.YtgmocacalgiaiaaAbC
import Derived.Test.YtgmocacalgiaiaaBits
/- The package strand: Of and Number, as contracts. -/
set_option linter.all false
set_option maxRecDepth 20000
namespace Go.Proofs.Ytgmocacalgiaiaa
open Go Go.Ab
variable {base : Nat} {s : St} {R : Value → St → Prop}
/-- The cells of a list of bytes. -/
def bC (xs : List Nat) : List Value := xs.map fun (b : Nat) => .int .u8 (b : Int)
theorem bC_len (xs : List Nat) : (bC xs).length = xs.length := by simp [bC]
theorem bC_flat (xs : List Nat) : bC xs = (bL xs).flatten := by
  induction xs with
  | nil => rfl
  | cons x xs ih => simp only [bC, bL, List.map_cons, List.flatten_cons] at *; rw [ih]; rfl
theorem bC_set (xs : List Nat) (i b : Nat) : (bC xs).set i (.int .u8 (b : Int)) = bC (xs.set i b) := by simp [bC, List.map_set]
theorem sl_bytes {b n : Nat} {xs : List Nat} (h : s.heap b = .row (bC xs)) (hn : n = xs.length) (hb : base ≤ b) (hlt : b < s.next) : Sl base s 1 (.slice (some ⟨b, 0, none⟩) n n) (bL xs) :=
  .newRow h (bC_flat xs) (by rw [bL_len]; exact hn) (by simp [bL]) hb hlt
theorem sl_in {b o n c : Nat} {xs : List Nat} {cs : List Value} (h : s.heap b = .row cs) (hn : n = xs.length) (hc : n ≤ c) (hx : (cs.drop o).take n = bC xs) (ho : o + n ≤ cs.length) (hb : base ≤ b) (hlt : b < s.next) : Sl base s 1 (.slice (some ⟨b, o, none⟩) n c) (bL xs) := by
  refine .mk (by rw [bL_len]; exact hn.symm) hc (by simp [bL]) (fun _ => ⟨rfl, hlt, .inl hb, cs, by rw [h]; rfl, ?_⟩) (by unfold kindB; rw [h]) hlt
  rw [← bC_flat, bC_len, ← hn, ← hx]
  unfold getL
  rw [if_pos ho]
def ofYs (n k i : Nat) : List Nat := (List.range k).map fun j => if k - i ≤ j then n / 2 ^ (k - 1 - j) % 2 else 0
theorem ofYs_zero (n k : Nat) : ofYs n k 0 = List.replicate k 0 := by
  apply List.ext_getElem
  · simp [ofYs]
  · intro j h1 h2
    simp only [ofYs, List.length_map, List.length_range] at h1
    simp only [ofYs, List.getElem_map, List.getElem_range, List.getElem_replicate]
    rw [if_neg (by omega)]
theorem ofYs_full (n k : Nat) : ofYs n k k = bitsOf n k := by
  unfold ofYs bitsOf
  apply List.map_congr_left
  intro j hj
  rw [if_pos (by omega)]
theorem ofYs_succ (n k i : Nat) (h : i < k) : (ofYs n k i).set (k - 1 - i) (n / 2 ^ i % 2) = ofYs n k (i + 1) := by
  apply List.ext_getElem
  · simp [ofYs]
  · intro j h1 h2
    simp only [ofYs, List.length_map, List.length_range] at h2
    rw [List.getElem_set]
    simp only [ofYs, List.getElem_map, List.getElem_range]
    by_cases hj : k - 1 - i = j
    · rw [if_pos hj, if_pos (by omega), show k - 1 - j = i by omega]
    · rw [if_neg hj]
      by_cases hk : k - i ≤ j
      · rw [if_pos hk, if_pos (by omega)]
      · rw [if_neg hk, if_neg (by omega)]
theorem wrap64 (x : Nat) : IntKind.u64.wrap (x : Int) = ((x % 2 ^ 64 : Nat) : Int) := by
  simp [IntKind.wrap, IntKind.bits, IntKind.signed]
theorem orBit {y b : Nat} (hb : b ≤ 1) (hy : y % 2 = 0) (h : y < 2 ^ 64) : orI .u64 (y : Int) (b : Int) = ((y + b : Nat) : Int) := by
  have e1 : ((y : Int) % 2 ^ IntKind.u64.bits).toNat = y := by simp only [IntKind.bits]; omega
  have e2 : ((b : Int) % 2 ^ IntKind.u64.bits).toNat = b := by simp only [IntKind.bits]; omega
  simp only [orI, e1, e2]
  have e3 : y = 2 ^ 1 * (y / 2) := by omega
  have e4 : y ||| b = y + b := by
    have := Nat.two_pow_add_eq_or_of_lt (i := 1) (b := b) (by omega) (y / 2)
    rw [← e3] at this; exact this.symm
  rw [e4, wrap64, Nat.mod_eq_of_lt (by omega)]
theorem num_step {a b : Nat} (hb : b ≤ 1) : orI .u64 (IntKind.u64.wrap (((a % 2 ^ 64 : Nat) : Int) * 2)) (b : Int) = (((a * 2 + b) % 2 ^ 64 : Nat) : Int) := by
  have e : ((a % 2 ^ 64 : Nat) : Int) * 2 = ((a % 2 ^ 64 * 2 : Nat) : Int) := by omega
  rw [e, wrap64, orBit hb (by omega) (by omega)]
  congr 1; omega
theorem sl_cap {z : Nat} {a : Option Addr} {n c : Nat} {L : List (List Value)} (h : Sl base s z (.slice a n c) L) : n = L.length ∧ n ≤ c := by
  cases h with
  | nil => exact ⟨rfl, Nat.le_refl _⟩
  | mk h1 h2 => exact ⟨h1.symm, h2⟩
theorem set_byte {b o n c : Nat} {xs : List Nat} {i y : Nat} (h : Sl base s 1 (.slice (some ⟨b, o, none⟩) n c) (bL xs)) (hb : base ≤ b) (hi : i < xs.length) :
    ∃ s', stN base s ⟨b, o + i * 1, none⟩ [.int .u8 (y : Int)] = some s' ∧ Sl base s' 1 (.slice (some ⟨b, o, none⟩) n c) (bL (xs.set i y)) ∧ Ch s s' (fun k => k = b) := by
  cases h with
  | @mk _ _ _ _ h1 h2 h3 h4 h5 h6 =>
    obtain ⟨m1, m2, m3, cs, m4, m5⟩ := h4 (.inr hb)
    simp only at m4 m5
    rw [← bC_flat] at m5
    have hfl : (bC xs).length = xs.length := bC_len xs
    unfold getL at m5
    split at m5
    · rename_i hle
      simp only [Option.some.injEq] at m5
      rw [hfl] at hle m5
      have hset : (cs.set (o + i) (.int .u8 (y : Int))).drop o = (cs.drop o).set i (.int .u8 (y : Int)) := by rw [List.drop_set]; rw [if_neg (by omega)]; congr 1; omega
      have hget : getL (cs.set (o + i) (.int .u8 (y : Int))) o (bC (xs.set i y)).length = some (bC (xs.set i y)) := by
        unfold getL
        rw [bC_len, List.length_set, List.length_set, if_pos hle, hset, ← bC_set, ← m5, List.take_set]
      refine ⟨s.upd b ((s.heap b).withCells (cs.set (o + i) (.int .u8 (y : Int)))), ?_, ?_, Ch.upd' (.refl _ _) fun _ => rfl⟩
      · simp only [stN, reduceCtorEq, if_false, m4, Nat.mul_one, List.length_cons, List.length_nil, Nat.zero_add, true_and]
        rw [if_pos ⟨hb, by omega⟩]; rfl
      · have hw : ((s.heap b).withCells (cs.set (o + i) (.int .u8 (y : Int)))).cells? = some (cs.set (o + i) (.int .u8 (y : Int))) := by
          cases hh : s.heap b <;> rw [hh] at m4 <;> first | rfl | cases m4
        refine .mk (by rw [bL_len, List.length_set, ← bL_len xs]; exact h1) h2 (fun l hl => by obtain ⟨x, _, rfl⟩ := List.mem_map.1 hl; rfl) (fun _ => ⟨rfl, by rw [next_upd]; exact m2, .inl hb, _, by simp only; rw [Ab.heap_upd_same]; exact hw, ?_⟩) ?_ (by rw [next_upd]; exact h6)
        · rw [← bC_flat]; exact hget
        · unfold kindB at h5 ⊢
          simp only [Ab.heap_upd_same]
          simp only at h5
          cases hh : s.heap b <;> rw [hh] at h5 m4 <;> first | exact h5 | rfl | (cases m4; done)
    · cases m5
end Go.Proofs.Ytgmocacalgiaiaa
