import Derived.Test.YtdllcipkdbhhlaaTypes
import Derived.Test.YtdllcipkdbhhlaaRow0
import Derived.Test.YtdllcipkdbhhlaaAbC
/- Lists of bits, as memory and as numbers. -/
set_option linter.all false
set_option maxRecDepth 20000
namespace Go.Proofs.Ytdllcipkdbhhlaa
open Go Go.Ab
variable {base : Nat} {s : St} {R : Value → St → Prop}
def bL (xs : List Nat) : List (List Value) := xs.map fun (b : Nat) => [.int .u8 (b : Int)]
theorem bL_len (xs : List Nat) : (bL xs).length = xs.length := by simp [bL]
theorem bL_at {xs : List Nat} {i : Nat} (h : i < xs.length) : (bL xs)[i]? = some [.int .u8 (xs[i] : Int)] := by simp [bL, h]
theorem bL_append (xs ys : List Nat) : bL (xs ++ ys) = bL xs ++ bL ys := by simp [bL]
def one (b : Nat) : Nat := if b = 0 then 0 else 1
theorem one_le (b : Nat) : one b ≤ 1 := by unfold one; split <;> omega
def numOf (xs : List Nat) : Nat := xs.foldl (fun a b => a * 2 + one b) 0
theorem numOf_snoc (xs : List Nat) (b : Nat) : numOf (xs ++ [b]) = numOf xs * 2 + one b := by simp [numOf]
theorem fold_gen (ys : List Nat) : ∀ a, ys.foldl (fun a b => a * 2 + one b) a = a * 2 ^ ys.length + numOf ys := by
  induction ys with
  | nil => intro a; simp [numOf]
  | cons y ys ih =>
    intro a
    simp only [numOf, List.foldl_cons, List.length_cons]
    rw [ih, ih (0 * 2 + one y), Nat.zero_mul, Nat.zero_add, Nat.pow_succ, Nat.add_mul, Nat.mul_assoc, Nat.mul_comm (2 ^ ys.length) 2]
    omega
theorem numOf_append (xs ys : List Nat) : numOf (xs ++ ys) = numOf xs * 2 ^ ys.length + numOf ys := by
  have := fold_gen ys (numOf xs)
  rw [← this]; simp [numOf]
theorem numOf_lt (xs : List Nat) : numOf xs < 2 ^ xs.length := by
  induction xs with
  | nil => simp [numOf]
  | cons x xs ih =>
    have := numOf_append [x] xs
    simp only [List.cons_append, List.nil_append] at this
    rw [this, List.length_cons, Nat.pow_succ]
    have h1 : numOf [x] = one x := by simp [numOf]
    have := one_le x
    rw [h1]
    rcases Nat.le_one_iff_eq_zero_or_eq_one.1 this with h | h <;> rw [h] <;> omega
/-- The bits of a number, the highest of k ones first. -/
def bitsOf (n k : Nat) : List Nat := (List.range k).map fun j => n / 2 ^ (k - 1 - j) % 2
theorem bitsOf_len (n k : Nat) : (bitsOf n k).length = k := by simp [bitsOf]
theorem numOf_take (n k : Nat) : ∀ t, t ≤ k → numOf ((bitsOf n k).take t) = n / 2 ^ (k - t) % 2 ^ t := by
  intro t
  induction t with
  | zero => intro _; simp [numOf, Nat.mod_one]
  | succ t ih =>
    intro ht
    rw [List.take_succ_eq_append_getElem (by rw [bitsOf_len]; omega), numOf_snoc, ih (by omega)]
    have e1 : (bitsOf n k)[t]'(by rw [bitsOf_len]; omega) = n / 2 ^ (k - 1 - t) % 2 := by simp [bitsOf]
    rw [e1]
    have e2 : k - t = (k - (t + 1)) + 1 := by omega
    have e3 : k - 1 - t = k - (t + 1) := by omega
    rw [e2, e3, Nat.pow_succ, ← Nat.div_div_eq_div_mul, Nat.pow_succ]
    generalize n / 2 ^ (k - (t + 1)) = m
    have e4 : one (m % 2) = m % 2 := by unfold one; split <;> omega
    rw [e4, Nat.mul_comm (2 ^ t) 2, Nat.mod_mul]
    omega
theorem numOf_bits (n k : Nat) : numOf (bitsOf n k) = n % 2 ^ k := by
  have := numOf_take n k k (Nat.le_refl _)
  rw [List.take_of_length_le (by rw [bitsOf_len]; omega), Nat.sub_self, Nat.pow_zero, Nat.div_one] at this
  exact this
theorem fdivN (n i : Nat) : ((n : Nat) : Int).fdiv ((2 : Int) ^ i) = ((n / 2 ^ i : Nat) : Int) := by
  rw [Int.fdiv_eq_ediv_of_nonneg _ (by exact Int.pow_nonneg (by decide))]; push_cast; rfl
theorem edivN (n i : Nat) : ((n : Nat) : Int) / ((2 : Int) ^ i) = ((n / 2 ^ i : Nat) : Int) := by push_cast; rfl
theorem and1N {x : Nat} (h : x < 2 ^ 64) : andI .u64 (x : Int) 1 = ((x % 2 : Nat) : Int) := by
  have e1 : ((x : Int) % 2 ^ IntKind.u64.bits).toNat = x := by simp only [IntKind.bits]; omega
  have e2 : ((1 : Int) % 2 ^ IntKind.u64.bits).toNat = 1 := by simp only [IntKind.bits]; decide
  simp only [andI, e1, e2, Nat.and_one_is_mod]
  exact IntWalk.u64_in _ (by omega)
theorem app_new {x : Value} {xs ys : List Nat} {v : Value} (hv : Sl base s 1 v (bL xs)) (ht : Tight base v) (hbn : base ≤ s.next) (hx : Sl base s 1 x (bL ys)) (hl : xs.length + ys.length ≤ 1000) :
    ∃ v' s', appendB Try.prog base s [23, 23] [v, x] = some (v', s') ∧ Sl base s' 1 v' (bL (xs ++ ys)) ∧ Tight base v' ∧ Ch s s' (inB v) ∧ (∀ b, inB v' b → s.next ≤ b ∨ inB v b) := by
  obtain ⟨v', s', e1, e2, e3, e4, e5, e6⟩ := appB_ok (P := Try.prog) hv ht hbn Ty.elem23 Ty.int23 Ty.und23 Ty.siz5 (by decide) Ty.zer5 rfl Ty.byt5 hx (by rw [bL_len, bL_len]; omega)
  refine ⟨v', s', e1, by rw [bL_append]; exact e2, e3, e4, fun b hb => ?_⟩
  by_cases h : bL ys = []
  · obtain ⟨rfl, -⟩ := e6 h; exact .inr hb
  · exact .inl (e5 h b hb)
theorem app_big {x : Value} {xs ys : List Nat} {v : Value} (hv : Sl base s 1 v (bL xs)) (ht : Tight base v) (hbn : base ≤ s.next) (hx : Sl base s 1 x (bL ys)) (hl : xs.length + ys.length ≤ 1000000) :
    ∃ v' s', appendB Try.prog base s [23, 23] [v, x] = some (v', s') ∧ Sl base s' 1 v' (bL (xs ++ ys)) ∧ Tight base v' ∧ Ch s s' (inB v) ∧ (∀ b, inB v' b → s.next ≤ b ∨ inB v b) := by
  obtain ⟨v', s', e1, e2, e3, e4, e5, e6⟩ := appB_ok (P := Try.prog) hv ht hbn Ty.elem23 Ty.int23 Ty.und23 Ty.siz5 (by decide) Ty.zer5 rfl Ty.byt5 hx (by rw [bL_len, bL_len]; omega)
  refine ⟨v', s', e1, by rw [bL_append]; exact e2, e3, e4, fun b hb => ?_⟩
  by_cases h : bL ys = []
  · obtain ⟨rfl, -⟩ := e6 h; exact .inr hb
  · exact .inl (e5 h b hb)
theorem newBytes {ys : List Nat} {c : List Value} {n : Nat} (hbn : base ≤ s.next) (hc : c = (bL ys).flatten) (hn : n = ys.length) : Sl base (s.alloc (.row c)) 1 (.slice (some ⟨s.next, 0, none⟩) n n) (bL ys) :=
  .newRow (Ab.heap_alloc_new _ _) hc (by rw [bL_len]; exact hn) (by simp [bL]) hbn (by simp only [Ab.next_alloc]; omega)
end Go.Proofs.Ytdllcipkdbhhlaa
