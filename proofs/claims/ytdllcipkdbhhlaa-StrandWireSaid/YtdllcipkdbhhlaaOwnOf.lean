import Derived.Test.YtdllcipkdbhhlaaTypes
import Derived.Test.YtdllcipkdbhhlaaRow0
import Derived.Test.YtdllcipkdbhhlaaAbC
import Derived.Test.YtdllcipkdbhhlaaBits
import Derived.Test.YtdllcipkdbhhlaaPlaces
/- The package strand: Of and Number, as contracts. -/
set_option linter.all false
set_option maxRecDepth 20000
namespace Go.Proofs.Ytdllcipkdbhhlaa
open Go Go.Ab
variable {base : Nat} {s : St} {R : Value → St → Prop}
/-- The cells of a list of bytes. -/
def bC (xs : List Nat) : List Value := xs.map fun (b : Nat) => .int .u8 (b : Int)
theorem bC_len (xs : List Nat) : (bC xs).length = xs.length := by simp [bC]
theorem bC_flat (xs : List Nat) : bC xs = (bL xs).flatten := by
  induction xs with
  | nil => rfl
  | cons x xs ih => simp only [bC, bL, List.map_cons, List.flatten_cons] at *; rw [ih]; rfl
theorem bC_set (xs : List Nat) (i b : Nat) : (bC xs).set i (.int .u8 (b : Int)) = bC (xs.set i b) := by simp [bC, List.map_set]
theorem sl_bytes {b n : Nat} {xs : List Nat} (h : s.heap b = .row (bC xs)) (hn : n = xs.length) (hb : base ≤ b) (hlt : b < s.next) : Sl base s 1 (.slice (some ⟨b, 0, none⟩) n n) (bL xs) :=
  .newRow h (bC_flat xs) (by rw [bL_len]; exact hn) (by simp [bL]) hb hlt
theorem sl_in {b o n c : Nat} {xs : List Nat} {cs : List Value} (h : s.heap b = .row cs) (hn : n = xs.length) (hc : n ≤ c) (hx : (cs.drop o).take n = bC xs) (ho : o + n ≤ cs.length) (hb : base ≤ b) (hlt : b < s.next) : Sl base s 1 (.slice (some ⟨b, o, none⟩) n c) (bL xs) := by
  refine .mk (by rw [bL_len]; exact hn.symm) hc (by simp [bL]) (fun _ => ⟨rfl, hlt, .inl hb, cs, by rw [h]; rfl, ?_⟩) (by unfold kindB; rw [h]) hlt
  rw [← bC_flat, bC_len, ← hn, ← hx]
  unfold getL
  rw [if_pos ho]
theorem make_bytes {k : Nat} (hk : k ≤ 1000000) : makeV Try.prog s 23 (.int .i64 (k : Int)) (.int .i64 (k : Int)) = some (.slice (some ⟨s.next, 0, none⟩) k k, s.alloc (.row (bC (List.replicate k 0)))) := by
  have e : repL [Value.int IntKind.u8 0] k = bC (List.replicate k 0) := by
    induction k with
    | zero => rfl
    | succ k ih =>
      have := ih (by omega)
      simp only [repL, bC, List.replicate_succ, List.flatten_cons, List.map_cons] at *
      rw [this]; rfl
  simp only [makeV, Ty.elem23, Ty.siz5, Ty.zer5, Ty.byt5]
  rw [if_pos ⟨rfl, by omega, by omega, by omega, by omega, by omega⟩, Int.toNat_natCast, e]
def ofYs (n k i : Nat) : List Nat := (List.range k).map fun j => if k - i ≤ j then n / 2 ^ (k - 1 - j) % 2 else 0
theorem ofYs_zero (n k : Nat) : ofYs n k 0 = List.replicate k 0 := by
  apply List.ext_getElem
  · simp [ofYs]
  · intro j h1 h2
    simp only [ofYs, List.length_map, List.length_range] at h1
    simp only [ofYs, List.getElem_map, List.getElem_range, List.getElem_replicate]
    rw [if_neg (by omega)]
theorem ofYs_full (n k : Nat) : ofYs n k k = bitsOf n k := by
  unfold ofYs bitsOf
  apply List.map_congr_left
  intro j hj
  rw [if_pos (by omega)]
theorem ofYs_succ (n k i : Nat) (h : i < k) : (ofYs n k i).set (k - 1 - i) (n / 2 ^ i % 2) = ofYs n k (i + 1) := by
  apply List.ext_getElem
  · simp [ofYs]
  · intro j h1 h2
    simp only [ofYs, List.length_map, List.length_range] at h2
    rw [List.getElem_set]
    simp only [ofYs, List.getElem_map, List.getElem_range]
    by_cases hj : k - 1 - i = j
    · rw [if_pos hj, if_pos (by omega), show k - 1 - j = i by omega]
    · rw [if_neg hj]
      by_cases hk : k - i ≤ j
      · rw [if_pos hk, if_pos (by omega)]
      · rw [if_neg hk, if_neg (by omega)]
theorem own_of_ok {n k : Nat} (hn : n < 2 ^ 64) (hk : 1 ≤ k ∧ k ≤ 64) (hbn : base ≤ s.next) (hR : ∀ v' s', Mild s s' → Sl base s' 1 v' (bL (bitsOf n k)) → Tight base v' → (∀ b, inB v' b → s.next ≤ b) → R v' s') :
    WC Try.prog base 11 [.int .u64 (n : Int), .int .i64 (k : Int)] s R := by
  refine WC_open Try.func11 rfl ?_
  have g1 : ¬ ((k : Int) < 1) := by omega
  have g2 : ¬ (64 < (k : Int)) := by omega
  have hmk := make_bytes (s := s) (k := k) (by omega)
  have hlt : ∀ (s : St) , lenB Try.prog [23] [.slice (some ⟨s.next, 0, none⟩) k k] = some (.int .i64 (k : Int)) := fun s => by
    simp [lenB, Ty.arr23, Ty.elem23]
  simp (disch := first | omega | ((simp only [Ab.next_alloc, Ab.next_upd, List.length_cons, List.length_nil, ne_eq, not_true_eq_false, not_false_eq_true]) <;> omega) | decide) only [↓stepPre, stepPost, ↓W_cond, ↓W_block, ↓reduceIte, Nat.reduceEqDiff, Nat.reduceLT, Nat.reduceLeDiff, List.size_toArray, List.length_cons, List.length_nil, ret0, stVar, isTup, Value.cells, List.set_cons_zero, List.set_cons_succ, Nat.le_refl, Nat.reduceAdd, Nat.reduceMul, Nat.reduceSub, env0, List.getD_cons_zero, List.getD_cons_succ, binV, intV, reduceCtorEq, List.getElem?_cons_succ, List.getElem?_cons_zero, pickV, nilCheckV, ptrV, unV, true_and, and_true, List.map_cons, List.map_nil, Nat.add_zero, Nat.zero_add, Option.isNone_none, Option.isNone_some, Rt, resultsV, allV, resV, Bool.not_true, Bool.not_false, calleeV, builtinV, Option.map_some, Option.map_none, List.cons_append, List.nil_append, List.append_nil, Array.toList_append, List.toList_toArray, eqV, fieldAddrV, ldVar, stN_own, stN_ownL, Int.cast_ofNat_Int, Int.fdiv_eq_ediv_of_nonneg, Int.reduceToNat, Nat.min_eq_left, Int.reducePow, IntKind.bits, convV, ne_eq, not_false_eq_true, not_true_eq_false, Int.reduceNeg, Int.reduceAdd, Int.reduceSub, Int.reduceLT, Int.reduceLE, Option.isSome_some, extractV, decide_true, decide_false, Int.reduceEq, List.getElem?_toArray, mkFuncV, List.map_toArray, beq_self_eq_true, Ty.t3, Try.underlying3, Ty.t4, Try.underlying4, Ty.t37, Try.underlying37, Ty.t22, Try.underlying22, Ty.t5, Try.underlying5, Ty.t23, Try.underlying23, g1, g2, hmk, hlt]
  refine W_loop_ind k (fun i e s1 => Mild s s1 ∧ s.next < s1.next ∧ e 0 = .int .u64 ((n / 2 ^ i : Nat) : Int) ∧ e 1 = .int .i64 (k : Int) ∧ e 5 = .slice (some ⟨s.next, 0, none⟩) k k ∧ e 16 = .int .i64 (k : Int) ∧ e 17 = .int .i64 (i : Int) ∧ s1.heap s.next = .row (bC (ofYs n k i))) ?_ ?_
  rotate_left
  · refine ⟨.alloc _ _, by simp only [Ab.next_alloc]; omega, (show Value.int .u64 (n : Int) = _ by simp), rfl, rfl, rfl, rfl, ?_⟩
    rw [ofYs_zero]; exact Ab.heap_alloc_new _ _
  rintro i e s1 hi ⟨hm, hn1, h0, h1, h5, h16, h17, hh⟩
  simp (disch := first | omega | ((simp only [Ab.next_alloc, Ab.next_upd, List.length_cons, List.length_nil, ne_eq, not_true_eq_false, not_false_eq_true]) <;> omega) | decide) only [↓stepPre, stepPost, ↓W_cond, ↓W_block, ↓reduceIte, Nat.reduceEqDiff, Nat.reduceLT, Nat.reduceLeDiff, List.size_toArray, List.length_cons, List.length_nil, ret0, stVar, isTup, Value.cells, List.set_cons_zero, List.set_cons_succ, Nat.le_refl, Nat.reduceAdd, Nat.reduceMul, Nat.reduceSub, env0, List.getD_cons_zero, List.getD_cons_succ, binV, intV, reduceCtorEq, List.getElem?_cons_succ, List.getElem?_cons_zero, pickV, nilCheckV, ptrV, unV, true_and, and_true, List.map_cons, List.map_nil, Nat.add_zero, Nat.zero_add, Option.isNone_none, Option.isNone_some, Rt, resultsV, allV, resV, Bool.not_true, Bool.not_false, calleeV, builtinV, Option.map_some, Option.map_none, List.cons_append, List.nil_append, List.append_nil, Array.toList_append, List.toList_toArray, eqV, fieldAddrV, ldVar, stN_own, stN_ownL, Int.cast_ofNat_Int, Int.fdiv_eq_ediv_of_nonneg, Int.reduceToNat, Nat.min_eq_left, Int.reducePow, IntKind.bits, convV, ne_eq, not_false_eq_true, not_true_eq_false, Int.reduceNeg, Int.reduceAdd, Int.reduceSub, Int.reduceLT, Int.reduceLE, Option.isSome_some, extractV, decide_true, decide_false, Int.reduceEq, List.getElem?_toArray, mkFuncV, List.map_toArray, beq_self_eq_true, Ty.t3, Try.underlying3, Ty.t4, Try.underlying4, Ty.t37, Try.underlying37, Ty.t22, Try.underlying22, Ty.t5, Try.underlying5, Ty.t23, Try.underlying23, h16, h17]
  refine Wif_dec (fun h => ?_) (fun h => ?_)
  · have hik : i < k := by omega
    have hx : n / 2 ^ i < 2 ^ 64 := Nat.lt_of_le_of_lt (Nat.div_le_self _ _) hn
    have hsub : ((k : Int) - 1 - (i : Int)) = ((k - 1 - i : Nat) : Int) := by omega
    have hlen : (bC (ofYs n k i)).length = k := by rw [bC_len]; simp [ofYs]
    have hdd : ((n / 2 ^ i : Nat) : Int) / 2 = ((n / 2 ^ (i + 1) : Nat) : Int) := by
      rw [Nat.pow_succ, ← Nat.div_div_eq_div_mul]; omega
    have hia : indexAddrV Try.prog 23 (.slice (some ⟨s.next, 0, none⟩) k k) (.int .i64 ((k - 1 - i : Nat) : Int)) = some (.pointer (some ⟨s.next, k - 1 - i, none⟩)) := by
      simp only [indexAddrV, intOf?, Ty.elem23, Ty.siz5]
      rw [if_pos ⟨by omega, by omega⟩, Int.toNat_natCast, add_lit]; simp
    simp (disch := first | omega | ((simp only [Ab.next_alloc, Ab.next_upd, List.length_cons, List.length_nil, ne_eq, not_true_eq_false, not_false_eq_true]) <;> omega) | decide) only [↓stepPre, stepPost, ↓W_cond, ↓W_block, ↓reduceIte, Nat.reduceEqDiff, Nat.reduceLT, Nat.reduceLeDiff, List.size_toArray, List.length_cons, List.length_nil, ret0, stVar, isTup, Value.cells, List.set_cons_zero, List.set_cons_succ, Nat.le_refl, Nat.reduceAdd, Nat.reduceMul, Nat.reduceSub, env0, List.getD_cons_zero, List.getD_cons_succ, binV, intV, reduceCtorEq, List.getElem?_cons_succ, List.getElem?_cons_zero, pickV, nilCheckV, ptrV, unV, true_and, and_true, List.map_cons, List.map_nil, Nat.add_zero, Nat.zero_add, Option.isNone_none, Option.isNone_some, Rt, resultsV, allV, resV, Bool.not_true, Bool.not_false, calleeV, builtinV, Option.map_some, Option.map_none, List.cons_append, List.nil_append, List.append_nil, Array.toList_append, List.toList_toArray, eqV, fieldAddrV, ldVar, stN_own, stN_ownL, Int.cast_ofNat_Int, Int.fdiv_eq_ediv_of_nonneg, Int.reduceToNat, Nat.min_eq_left, Int.reducePow, IntKind.bits, convV, ne_eq, not_false_eq_true, not_true_eq_false, Int.reduceNeg, Int.reduceAdd, Int.reduceSub, Int.reduceLT, Int.reduceLE, Option.isSome_some, extractV, decide_true, decide_false, Int.reduceEq, List.getElem?_toArray, mkFuncV, List.map_toArray, beq_self_eq_true, Ty.t3, Try.underlying3, Ty.t4, Try.underlying4, Ty.t37, Try.underlying37, Ty.t22, Try.underlying22, Ty.t5, Try.underlying5, Ty.t23, Try.underlying23, h0, h1, h5, h16, h17, hsub, and1N hx, hia, hh, bC_set, ofYs_succ n k i hik, Int.pow_one, hdd]
    exact ⟨hik, hm.upd' (Nat.le_refl _), hn1, rfl⟩
  · have : i = k := by omega
    subst this
    simp (disch := first | omega | ((simp only [Ab.next_alloc, Ab.next_upd, List.length_cons, List.length_nil, ne_eq, not_true_eq_false, not_false_eq_true]) <;> omega) | decide) only [↓stepPre, stepPost, ↓W_cond, ↓W_block, ↓reduceIte, Nat.reduceEqDiff, Nat.reduceLT, Nat.reduceLeDiff, List.size_toArray, List.length_cons, List.length_nil, ret0, stVar, isTup, Value.cells, List.set_cons_zero, List.set_cons_succ, Nat.le_refl, Nat.reduceAdd, Nat.reduceMul, Nat.reduceSub, env0, List.getD_cons_zero, List.getD_cons_succ, binV, intV, reduceCtorEq, List.getElem?_cons_succ, List.getElem?_cons_zero, pickV, nilCheckV, ptrV, unV, true_and, and_true, List.map_cons, List.map_nil, Nat.add_zero, Nat.zero_add, Option.isNone_none, Option.isNone_some, Rt, resultsV, allV, resV, Bool.not_true, Bool.not_false, calleeV, builtinV, Option.map_some, Option.map_none, List.cons_append, List.nil_append, List.append_nil, Array.toList_append, List.toList_toArray, eqV, fieldAddrV, ldVar, stN_own, stN_ownL, Int.cast_ofNat_Int, Int.fdiv_eq_ediv_of_nonneg, Int.reduceToNat, Nat.min_eq_left, Int.reducePow, IntKind.bits, convV, ne_eq, not_false_eq_true, not_true_eq_false, Int.reduceNeg, Int.reduceAdd, Int.reduceSub, Int.reduceLT, Int.reduceLE, Option.isSome_some, extractV, decide_true, decide_false, Int.reduceEq, List.getElem?_toArray, mkFuncV, List.map_toArray, beq_self_eq_true, Ty.t3, Try.underlying3, Ty.t4, Try.underlying4, Ty.t37, Try.underlying37, Ty.t22, Try.underlying22, Ty.t5, Try.underlying5, Ty.t23, Try.underlying23, h5, Try.results11]
    rw [ofYs_full] at hh
    exact hR _ _ hm (sl_bytes hh (bitsOf_len n i).symm hbn hn1) ⟨rfl, hbn⟩ fun b hb => by simp only [inB] at hb; omega
theorem wrap64 (x : Nat) : IntKind.u64.wrap (x : Int) = ((x % 2 ^ 64 : Nat) : Int) := by
  simp [IntKind.wrap, IntKind.bits, IntKind.signed]
theorem orBit {y b : Nat} (hb : b ≤ 1) (hy : y % 2 = 0) (h : y < 2 ^ 64) : orI .u64 (y : Int) (b : Int) = ((y + b : Nat) : Int) := by
  have e1 : ((y : Int) % 2 ^ IntKind.u64.bits).toNat = y := by simp only [IntKind.bits]; omega
  have e2 : ((b : Int) % 2 ^ IntKind.u64.bits).toNat = b := by simp only [IntKind.bits]; omega
  simp only [orI, e1, e2]
  have e3 : y = 2 ^ 1 * (y / 2) := by omega
  have e4 : y ||| b = y + b := by
    have := Nat.two_pow_add_eq_or_of_lt (i := 1) (b := b) (by omega) (y / 2)
    rw [← e3] at this; exact this.symm
  rw [e4, wrap64, Nat.mod_eq_of_lt (by omega)]
theorem num_step {a b : Nat} (hb : b ≤ 1) : orI .u64 (IntKind.u64.wrap (((a % 2 ^ 64 : Nat) : Int) * 2)) (b : Int) = (((a * 2 + b) % 2 ^ 64 : Nat) : Int) := by
  have e : ((a % 2 ^ 64 : Nat) : Int) * 2 = ((a % 2 ^ 64 * 2 : Nat) : Int) := by omega
  rw [e, wrap64, orBit hb (by omega) (by omega)]
  congr 1; omega
theorem own_number_ok {v : Value} {xs : List Nat} (hs : Sl base s 1 v (bL xs)) (hlen : xs.length ≤ 100000) (hbn : base ≤ s.next) (hR : ∀ s', Mild s s' → R (.int .u64 ((numOf xs % 2 ^ 64 : Nat) : Int)) s') : WC Try.prog base 13 [v] s R := by
  refine WC_open Try.func13 rfl ?_
  simp (disch := first | omega | ((simp only [Ab.next_alloc, Ab.next_upd, List.length_cons, List.length_nil, ne_eq, not_true_eq_false, not_false_eq_true]) <;> omega) | decide) only [↓stepPre, stepPost, ↓W_cond, ↓W_block, ↓reduceIte, Nat.reduceEqDiff, Nat.reduceLT, Nat.reduceLeDiff, List.size_toArray, List.length_cons, List.length_nil, ret0, stVar, isTup, Value.cells, List.set_cons_zero, List.set_cons_succ, Nat.le_refl, Nat.reduceAdd, Nat.reduceMul, Nat.reduceSub, env0, List.getD_cons_zero, List.getD_cons_succ, binV, intV, reduceCtorEq, List.getElem?_cons_succ, List.getElem?_cons_zero, pickV, nilCheckV, ptrV, unV, true_and, and_true, List.map_cons, List.map_nil, Nat.add_zero, Nat.zero_add, Option.isNone_none, Option.isNone_some, Rt, resultsV, allV, resV, Bool.not_true, Bool.not_false, calleeV, builtinV, Option.map_some, Option.map_none, List.cons_append, List.nil_append, List.append_nil, Array.toList_append, List.toList_toArray, eqV, fieldAddrV, ldVar, stN_own, stN_ownL, Int.cast_ofNat_Int, Int.fdiv_eq_ediv_of_nonneg, Int.reduceToNat, Nat.min_eq_left, Int.reducePow, IntKind.bits, convV, ne_eq, not_false_eq_true, not_true_eq_false, Int.reduceNeg, Int.reduceAdd, Int.reduceSub, Int.reduceLT, Int.reduceLE, Option.isSome_some, extractV, decide_true, decide_false, Int.reduceEq, List.getElem?_toArray, mkFuncV, List.map_toArray, beq_self_eq_true, Ty.t3, Try.underlying3, Ty.t4, Try.underlying4, Ty.t37, Try.underlying37, Ty.t22, Try.underlying22, Ty.t5, Try.underlying5, Ty.t23, Try.underlying23]
  refine places_ok (hs.mild (.alloc _ _)) ?_
  simp (disch := first | omega | ((simp only [Ab.next_alloc, Ab.next_upd, List.length_cons, List.length_nil, ne_eq, not_true_eq_false, not_false_eq_true]) <;> omega) | decide) only [↓stepPre, stepPost, ↓W_cond, ↓W_block, ↓reduceIte, Nat.reduceEqDiff, Nat.reduceLT, Nat.reduceLeDiff, List.size_toArray, List.length_cons, List.length_nil, ret0, stVar, isTup, Value.cells, List.set_cons_zero, List.set_cons_succ, Nat.le_refl, Nat.reduceAdd, Nat.reduceMul, Nat.reduceSub, env0, List.getD_cons_zero, List.getD_cons_succ, binV, intV, reduceCtorEq, List.getElem?_cons_succ, List.getElem?_cons_zero, pickV, nilCheckV, ptrV, unV, true_and, and_true, List.map_cons, List.map_nil, Nat.add_zero, Nat.zero_add, Option.isNone_none, Option.isNone_some, Rt, resultsV, allV, resV, Bool.not_true, Bool.not_false, calleeV, builtinV, Option.map_some, Option.map_none, List.cons_append, List.nil_append, List.append_nil, Array.toList_append, List.toList_toArray, eqV, fieldAddrV, ldVar, stN_own, stN_ownL, Int.cast_ofNat_Int, Int.fdiv_eq_ediv_of_nonneg, Int.reduceToNat, Nat.min_eq_left, Int.reducePow, IntKind.bits, convV, ne_eq, not_false_eq_true, not_true_eq_false, Int.reduceNeg, Int.reduceAdd, Int.reduceSub, Int.reduceLT, Int.reduceLE, Option.isSome_some, extractV, decide_true, decide_false, Int.reduceEq, List.getElem?_toArray, mkFuncV, List.map_toArray, beq_self_eq_true, Ty.t3, Try.underlying3, Ty.t4, Try.underlying4, Ty.t37, Try.underlying37, Ty.t22, Try.underlying22, Ty.t5, Try.underlying5, Ty.t23, Try.underlying23]
  refine places_range (pb := s.next + 1) (v := v) (xs := xs) rfl rfl (by simp only [Ab.next_alloc]; omega) (by omega) (by omega)
    (fun i s1 => Mild s s1 ∧ s.next + 2 < s1.next ∧ s1.heap s.next = .row [.int .u64 ((numOf (xs.take i) % 2 ^ 64 : Nat) : Int)] ∧ s1.heap (s.next + 1) = .row [v]) (fun i s1 h => ⟨h.2.2.2, hs.mild h.1⟩) ?_ ?_ ?_
  · refine ⟨(Mild.alloc _ _).alloc'.alloc', by simp only [Ab.next_alloc]; omega, ?_, ?_⟩
    · simp (disch := first | omega | ((simp only [Ab.next_alloc, Ab.next_upd, List.length_cons, List.length_nil, ne_eq, not_true_eq_false, not_false_eq_true]) <;> omega) | decide) only [↓stepPre, stepPost, ↓W_cond, ↓W_block, ↓reduceIte, Nat.reduceEqDiff, Nat.reduceLT, Nat.reduceLeDiff, List.size_toArray, List.length_cons, List.length_nil, ret0, stVar, isTup, Value.cells, List.set_cons_zero, List.set_cons_succ, Nat.le_refl, Nat.reduceAdd, Nat.reduceMul, Nat.reduceSub, env0, List.getD_cons_zero, List.getD_cons_succ, binV, intV, reduceCtorEq, List.getElem?_cons_succ, List.getElem?_cons_zero, pickV, nilCheckV, ptrV, unV, true_and, and_true, List.map_cons, List.map_nil, Nat.add_zero, Nat.zero_add, Option.isNone_none, Option.isNone_some, Rt, resultsV, allV, resV, Bool.not_true, Bool.not_false, calleeV, builtinV, Option.map_some, Option.map_none, List.cons_append, List.nil_append, List.append_nil, Array.toList_append, List.toList_toArray, eqV, fieldAddrV, ldVar, stN_own, stN_ownL, Int.cast_ofNat_Int, Int.fdiv_eq_ediv_of_nonneg, Int.reduceToNat, Nat.min_eq_left, Int.reducePow, IntKind.bits, convV, ne_eq, not_false_eq_true, not_true_eq_false, Int.reduceNeg, Int.reduceAdd, Int.reduceSub, Int.reduceLT, Int.reduceLE, Option.isSome_some, extractV, decide_true, decide_false, Int.reduceEq, List.getElem?_toArray, mkFuncV, List.map_toArray, beq_self_eq_true]
      rfl
    · simp (disch := first | omega | ((simp only [Ab.next_alloc, Ab.next_upd, List.length_cons, List.length_nil, ne_eq, not_true_eq_false, not_false_eq_true]) <;> omega) | decide) only [↓stepPre, stepPost, ↓W_cond, ↓W_block, ↓reduceIte, Nat.reduceEqDiff, Nat.reduceLT, Nat.reduceLeDiff, List.size_toArray, List.length_cons, List.length_nil, ret0, stVar, isTup, Value.cells, List.set_cons_zero, List.set_cons_succ, Nat.le_refl, Nat.reduceAdd, Nat.reduceMul, Nat.reduceSub, env0, List.getD_cons_zero, List.getD_cons_succ, binV, intV, reduceCtorEq, List.getElem?_cons_succ, List.getElem?_cons_zero, pickV, nilCheckV, ptrV, unV, true_and, and_true, List.map_cons, List.map_nil, Nat.add_zero, Nat.zero_add, Option.isNone_none, Option.isNone_some, Rt, resultsV, allV, resV, Bool.not_true, Bool.not_false, calleeV, builtinV, Option.map_some, Option.map_none, List.cons_append, List.nil_append, List.append_nil, Array.toList_append, List.toList_toArray, eqV, fieldAddrV, ldVar, stN_own, stN_ownL, Int.cast_ofNat_Int, Int.fdiv_eq_ediv_of_nonneg, Int.reduceToNat, Nat.min_eq_left, Int.reducePow, IntKind.bits, convV, ne_eq, not_false_eq_true, not_true_eq_false, Int.reduceNeg, Int.reduceAdd, Int.reduceSub, Int.reduceLT, Int.reduceLE, Option.isSome_some, extractV, decide_true, decide_false, Int.reduceEq, List.getElem?_toArray, mkFuncV, List.map_toArray, beq_self_eq_true]
  · rintro i s1 hi ⟨m1, m2, m3, m4⟩ hl
    have hle := one_le (xs.getD i 0)
    have hmod : numOf (xs.take i) % 2 ^ 64 < 2 ^ 64 := Nat.mod_lt _ (by decide)
    simp (disch := first | omega | ((simp only [Ab.next_alloc, Ab.next_upd, List.length_cons, List.length_nil, ne_eq, not_true_eq_false, not_false_eq_true]) <;> omega) | decide) only [↓stepPre, stepPost, ↓W_cond, ↓W_block, ↓reduceIte, Nat.reduceEqDiff, Nat.reduceLT, Nat.reduceLeDiff, List.size_toArray, List.length_cons, List.length_nil, ret0, stVar, isTup, Value.cells, List.set_cons_zero, List.set_cons_succ, Nat.le_refl, Nat.reduceAdd, Nat.reduceMul, Nat.reduceSub, env0, List.getD_cons_zero, List.getD_cons_succ, binV, intV, reduceCtorEq, List.getElem?_cons_succ, List.getElem?_cons_zero, pickV, nilCheckV, ptrV, unV, true_and, and_true, List.map_cons, List.map_nil, Nat.add_zero, Nat.zero_add, Option.isNone_none, Option.isNone_some, Rt, resultsV, allV, resV, Bool.not_true, Bool.not_false, calleeV, builtinV, Option.map_some, Option.map_none, List.cons_append, List.nil_append, List.append_nil, Array.toList_append, List.toList_toArray, eqV, fieldAddrV, ldVar, stN_own, stN_ownL, Int.cast_ofNat_Int, Int.fdiv_eq_ediv_of_nonneg, Int.reduceToNat, Nat.min_eq_left, Int.reducePow, IntKind.bits, convV, ne_eq, not_false_eq_true, not_true_eq_false, Int.reduceNeg, Int.reduceAdd, Int.reduceSub, Int.reduceLT, Int.reduceLE, Option.isSome_some, extractV, decide_true, decide_false, Int.reduceEq, List.getElem?_toArray, mkFuncV, List.map_toArray, beq_self_eq_true, Ty.t3, Try.underlying3, Ty.t4, Try.underlying4, Ty.t37, Try.underlying37, Ty.t22, Try.underlying22, Ty.t5, Try.underlying5, Ty.t23, Try.underlying23, putAll, List.zip_cons_cons, List.zip_nil_left, hl, m3, wrap64]
    have hv : numOf (xs.take (i + 1)) = numOf (xs.take i) * 2 + one (xs.getD i 0) := by
      rw [List.take_succ_eq_append_getElem hi, numOf_snoc]; simp [hi]
    refine ⟨hl, ((m1.upd' (by omega)).upd' (Nat.le_refl _)).upd' (by omega), by omega, ?_, m4⟩
    rw [num_step hle, hv]
  · rintro s1 ⟨m1, m2, m3, m4⟩
    rw [List.take_length] at m3
    simp (disch := first | omega | ((simp only [Ab.next_alloc, Ab.next_upd, List.length_cons, List.length_nil, ne_eq, not_true_eq_false, not_false_eq_true]) <;> omega) | decide) only [↓stepPre, stepPost, ↓W_cond, ↓W_block, ↓reduceIte, Nat.reduceEqDiff, Nat.reduceLT, Nat.reduceLeDiff, List.size_toArray, List.length_cons, List.length_nil, ret0, stVar, isTup, Value.cells, List.set_cons_zero, List.set_cons_succ, Nat.le_refl, Nat.reduceAdd, Nat.reduceMul, Nat.reduceSub, env0, List.getD_cons_zero, List.getD_cons_succ, binV, intV, reduceCtorEq, List.getElem?_cons_succ, List.getElem?_cons_zero, pickV, nilCheckV, ptrV, unV, true_and, and_true, List.map_cons, List.map_nil, Nat.add_zero, Nat.zero_add, Option.isNone_none, Option.isNone_some, Rt, resultsV, allV, resV, Bool.not_true, Bool.not_false, calleeV, builtinV, Option.map_some, Option.map_none, List.cons_append, List.nil_append, List.append_nil, Array.toList_append, List.toList_toArray, eqV, fieldAddrV, ldVar, stN_own, stN_ownL, Int.cast_ofNat_Int, Int.fdiv_eq_ediv_of_nonneg, Int.reduceToNat, Nat.min_eq_left, Int.reducePow, IntKind.bits, convV, ne_eq, not_false_eq_true, not_true_eq_false, Int.reduceNeg, Int.reduceAdd, Int.reduceSub, Int.reduceLT, Int.reduceLE, Option.isSome_some, extractV, decide_true, decide_false, Int.reduceEq, List.getElem?_toArray, mkFuncV, List.map_toArray, beq_self_eq_true, Ty.t3, Try.underlying3, Ty.t4, Try.underlying4, Ty.t37, Try.underlying37, Ty.t22, Try.underlying22, Ty.t5, Try.underlying5, Ty.t23, Try.underlying23, m3, Try.results13]
    exact hR _ (m1.upd' (by omega))
theorem sl_cap {z : Nat} {a : Option Addr} {n c : Nat} {L : List (List Value)} (h : Sl base s z (.slice a n c) L) : n = L.length ∧ n ≤ c := by
  cases h with
  | nil => exact ⟨rfl, Nat.le_refl _⟩
  | mk h1 h2 => exact ⟨h1.symm, h2⟩
theorem idx_own {b n i : Nat} (h : i < n) : indexAddrV Try.prog 23 (.slice (some ⟨b, 0, none⟩) n n) (.int .i64 (i : Int)) = some (.pointer (some ⟨b, i, none⟩)) := by
  simp only [indexAddrV, intOf?, Ty.elem23, Ty.siz5]
  rw [if_pos ⟨by omega, by omega⟩, Int.toNat_natCast, add_lit]; simp
theorem set_byte {b o n c : Nat} {xs : List Nat} {i y : Nat} (h : Sl base s 1 (.slice (some ⟨b, o, none⟩) n c) (bL xs)) (hb : base ≤ b) (hi : i < xs.length) :
    ∃ s', stN base s ⟨b, o + i * 1, none⟩ [.int .u8 (y : Int)] = some s' ∧ Sl base s' 1 (.slice (some ⟨b, o, none⟩) n c) (bL (xs.set i y)) ∧ Ch s s' (fun k => k = b) := by
  cases h with
  | @mk _ _ _ _ h1 h2 h3 h4 h5 h6 =>
    obtain ⟨m1, m2, m3, cs, m4, m5⟩ := h4 (.inr hb)
    simp only at m4 m5
    rw [← bC_flat] at m5
    have hfl : (bC xs).length = xs.length := bC_len xs
    unfold getL at m5
    split at m5
    · rename_i hle
      simp only [Option.some.injEq] at m5
      rw [hfl] at hle m5
      have hset : (cs.set (o + i) (.int .u8 (y : Int))).drop o = (cs.drop o).set i (.int .u8 (y : Int)) := by rw [List.drop_set]; rw [if_neg (by omega)]; congr 1; omega
      have hget : getL (cs.set (o + i) (.int .u8 (y : Int))) o (bC (xs.set i y)).length = some (bC (xs.set i y)) := by
        unfold getL
        rw [bC_len, List.length_set, List.length_set, if_pos hle, hset, ← bC_set, ← m5, List.take_set]
      refine ⟨s.upd b ((s.heap b).withCells (cs.set (o + i) (.int .u8 (y : Int)))), ?_, ?_, Ch.upd' (.refl _ _) fun _ => rfl⟩
      · simp only [stN, reduceCtorEq, if_false, m4, Nat.mul_one, List.length_cons, List.length_nil, Nat.zero_add, true_and]
        rw [if_pos ⟨hb, by omega⟩]; rfl
      · have hw : ((s.heap b).withCells (cs.set (o + i) (.int .u8 (y : Int)))).cells? = some (cs.set (o + i) (.int .u8 (y : Int))) := by
          cases hh : s.heap b <;> rw [hh] at m4 <;> first | rfl | cases m4
        refine .mk (by rw [bL_len, List.length_set, ← bL_len xs]; exact h1) h2 (fun l hl => by obtain ⟨x, _, rfl⟩ := List.mem_map.1 hl; rfl) (fun _ => ⟨rfl, by rw [next_upd]; exact m2, .inl hb, _, by simp only; rw [Ab.heap_upd_same]; exact hw, ?_⟩) ?_ (by rw [next_upd]; exact h6)
        · rw [← bC_flat]; exact hget
        · unfold kindB at h5 ⊢
          simp only [Ab.heap_upd_same]
          simp only at h5
          cases hh : s.heap b <;> rw [hh] at h5 m4 <;> first | exact h5 | rfl | (cases m4; done)
    · cases m5
end Go.Proofs.Ytdllcipkdbhhlaa
