import Derived.Test.YtdhmjnpaoacpfaaDoorTypes
import Derived.Test.YtdhmjnpaoacpfaaDoorRow0
import Derived.Test.YtdhmjnpaoacpfaaDoorAbC
import Derived.Test.YtdhmjnpaoacpfaaDoorBits
import Derived.Test.YtdhmjnpaoacpfaaDoorPlaces
import Derived.Test.YtdhmjnpaoacpfaaDoorOwnOf
/- The package strand: Pack and Unpack, as contracts. -/
set_option linter.all false
set_option maxRecDepth 20000
namespace Go.Proofs.YtdhmjnpaoacpfaaDoor
open Go Go.Ab
def stBPack := And.intro @List.size_toArray.{0} (And.intro @List.length_cons.{0} (And.intro @List.length_nil.{0} (And.intro @List.set_cons_zero.{0} (And.intro @List.set_cons_succ.{0} (And.intro @List.getD_cons_zero.{0} (And.intro @List.getD_cons_succ.{0} (And.intro @List.getElem?_cons_succ.{0} (And.intro @List.getElem?_cons_zero.{0} (And.intro @List.map_cons.{0,0} (And.intro @List.map_nil.{0,0} (And.intro @Option.isNone_none.{0} (And.intro @Option.isNone_some.{0} (And.intro @Option.map_some.{0,0} (And.intro @Option.map_none.{0,0} (And.intro @List.cons_append.{0} (And.intro @List.nil_append.{0} (And.intro @List.append_nil.{0} (And.intro @Array.toList_append.{0} (And.intro @List.toList_toArray.{0} (And.intro @Int.cast_ofNat_Int (And.intro @Option.isSome_some.{0} (And.intro @List.getElem?_toArray.{0} (And.intro @List.map_toArray.{0,0} (@Nat.min_eq_left))))))))))))))))))))))))
variable {base : Nat} {s : St} {R : Value → St → Prop}
/-- The byte of the bits of a group, as far as i bits have been gone through. -/
def grp (xs : List Nat) (i j : Nat) : List Nat := ((xs.take i).drop (8 * j)).take 8
def pkb (xs : List Nat) (i j : Nat) : Nat := numOf (grp xs i j) * 2 ^ (8 - (grp xs i j).length)
theorem grp_len (xs : List Nat) {i : Nat} (j : Nat) (h : i ≤ xs.length) : (grp xs i j).length = min 8 (i - 8 * j) := by
  simp [grp, List.length_take, List.length_drop]; omega
theorem grp_other {xs : List Nat} {i j : Nat} (h : i < xs.length) (hj : j ≠ i / 8) : grp xs (i + 1) j = grp xs i j := by
  unfold grp
  rw [List.take_succ_eq_append_getElem h]
  by_cases h8 : 8 * j ≤ i
  · rw [List.drop_append_of_le_length (by simp; omega), List.take_append_of_le_length (by simp; omega)]
  · rw [List.drop_eq_nil_of_le (by simp; omega), List.drop_eq_nil_of_le (by simp; omega)]
theorem grp_same {xs : List Nat} {i : Nat} (h : i < xs.length) : grp xs (i + 1) (i / 8) = grp xs i (i / 8) ++ [xs.getD i 0] := by
  unfold grp
  rw [List.take_succ_eq_append_getElem h, List.drop_append_of_le_length (by simp; omega), List.take_of_length_le (by simp; omega), List.take_of_length_le (l := List.drop (8 * (i / 8)) (List.take i xs)) (by simp; omega)]
  simp [h]
theorem pkb_same {xs : List Nat} {i : Nat} (h : i < xs.length) : pkb xs (i + 1) (i / 8) = pkb xs i (i / 8) + one (xs.getD i 0) * 2 ^ (7 - i % 8) := by
  have hl : (grp xs i (i / 8)).length = i % 8 := by rw [grp_len _ _ (by omega)]; omega
  unfold pkb
  rw [grp_same h, numOf_snoc, List.length_append, hl]
  have e : 8 - i % 8 = (7 - i % 8) + 1 := by omega
  rw [show 8 - (i % 8 + [xs.getD i 0].length) = 7 - i % 8 by simp, e, Nat.pow_succ, Nat.add_mul, Nat.mul_assoc, Nat.mul_comm 2 (2 ^ (7 - i % 8))]
theorem pkb_other {xs : List Nat} {i j : Nat} (h : i < xs.length) (hj : j ≠ i / 8) : pkb xs (i + 1) j = pkb xs i j := by unfold pkb; rw [grp_other h hj]
theorem pkb_lt (xs : List Nat) {i : Nat} (j : Nat) (h : i ≤ xs.length) : pkb xs i j < 256 := by
  unfold pkb
  have h1 := numOf_lt (grp xs i j)
  have h2 := grp_len xs j h
  have h3 : (grp xs i j).length ≤ 8 := by omega
  generalize (grp xs i j).length = m at *
  have : numOf (grp xs i j) * 2 ^ (8 - m) < 2 ^ m * 2 ^ (8 - m) := Nat.mul_lt_mul_of_pos_right h1 (Nat.pos_of_ne_zero (by have := Nat.one_le_two_pow (n := 8 - m); omega))
  rw [← Nat.pow_add, show m + (8 - m) = 8 by omega] at this
  exact this
/-- The next bit is laid where nothing lies yet. -/
theorem pkb_or {xs : List Nat} {i : Nat} (h : i < xs.length) : pkb xs i (i / 8) ||| one (xs.getD i 0) * 2 ^ (7 - i % 8) = pkb xs (i + 1) (i / 8) := by
  have hl : (grp xs i (i / 8)).length = i % 8 := by rw [grp_len _ _ (by omega)]; omega
  rw [pkb_same h]
  have hb := one_le (xs.getD i 0)
  have hlt : one (xs.getD i 0) * 2 ^ (7 - i % 8) < 2 ^ (8 - i % 8) := by
    rw [show 8 - i % 8 = (7 - i % 8) + 1 by omega, Nat.pow_succ]
    have := Nat.one_le_two_pow (n := 7 - i % 8)
    rcases Nat.le_one_iff_eq_zero_or_eq_one.1 hb with e | e <;> rw [e] <;> omega
  have := Nat.two_pow_add_eq_or_of_lt hlt (numOf (grp xs i (i / 8)))
  unfold pkb
  rw [hl, Nat.mul_comm (numOf _)]
  exact this.symm
def pkYs (xs : List Nat) (i : Nat) : List Nat := (List.range ((xs.length + 7) / 8)).map fun j => pkb xs i j
theorem pkYs_len (xs : List Nat) (i : Nat) : (pkYs xs i).length = (xs.length + 7) / 8 := by simp [pkYs]
theorem pkYs_zero (xs : List Nat) : pkYs xs 0 = List.replicate ((xs.length + 7) / 8) 0 := by
  apply List.ext_getElem
  · simp [pkYs]
  · intro j h1 h2
    simp [pkYs, pkb, grp, numOf]
theorem pkYs_succ {xs : List Nat} {i : Nat} (h : i < xs.length) : (pkYs xs i).set (i / 8) (pkb xs (i + 1) (i / 8)) = pkYs xs (i + 1) := by
  apply List.ext_getElem
  · simp [pkYs]
  · intro j h1 h2
    rw [List.getElem_set]
    simp only [pkYs, List.getElem_map, List.getElem_range]
    by_cases hj : i / 8 = j
    · subst hj; simp
    · rw [if_neg hj, pkb_other h (by omega)]
theorem pkYs_at {xs : List Nat} {i j : Nat} (h : j < (xs.length + 7) / 8) : (pkYs xs i)[j]? = some (pkb xs i j) := by simp [pkYs, h]
theorem orI8 {a b : Nat} (ha : a < 256) (hb : b < 256) : orI .u8 (a : Int) (b : Int) = ((a ||| b : Nat) : Int) := by
  have e1 : ((a : Int) % 2 ^ IntKind.u8.bits).toNat = a := by simp only [IntKind.bits]; omega
  have e2 : ((b : Int) % 2 ^ IntKind.u8.bits).toNat = b := by simp only [IntKind.bits]; omega
  have := Nat.or_lt_two_pow (n := 8) ha hb
  simp only [orI, e1, e2]
  exact IntWalk.u8_in _ (by omega)
theorem and7u (i : Nat) (h : i < 2 ^ 63) : andI .u64 (i : Int) 7 = ((i % 8 : Nat) : Int) := by
  have e1 : ((i : Int) % 2 ^ IntKind.u64.bits).toNat = i := by simp only [IntKind.bits]; omega
  have e2 : ((7 : Int) % 2 ^ IntKind.u64.bits).toNat = 7 := by simp only [IntKind.bits]; decide
  simp only [andI, e1, e2]
  rw [show (7 : Nat) = 2 ^ 3 - 1 from rfl, Nat.and_two_pow_sub_one_eq_mod]
  exact IntWalk.u64_in _ (by omega)
theorem pack_ok {v : Value} {xs : List Nat} (hs : Sl base s 1 v (bL xs)) (hlen : xs.length ≤ 100000) (hbn : base ≤ s.next) (hR : ∀ s' b n, Mild s s' → s.next ≤ b → b < s'.next → n = (pkYs xs xs.length).length → s'.heap b = .row (bC (pkYs xs xs.length)) → R (.slice (some ⟨b, 0, none⟩) n n) s') : WC Tryd.prog base 52 [v] s R := by
  refine WC_open Tryd.func52 rfl ?_
  have hq : ((xs.length : Int) + 7) / 8 = (((xs.length + 7) / 8 : Nat) : Int) := by omega
  generalize hm : (xs.length + 7) / 8 = m at hq
  have hmk := make_bytes (s := s) (k := m) (by omega)
  simp (disch := first | omega | ((simp only [Ab.next_alloc, Ab.next_upd, List.length_cons, List.length_nil, ne_eq, not_true_eq_false, not_false_eq_true]) <;> omega) | decide) only [↓stepPre, stepPost, ↓W_cond, ↓W_block, ↓reduceIte, Nat.reduceEqDiff, Nat.reduceLT, Nat.reduceLeDiff, ret0, stVar, isTup, Value.cells, Nat.le_refl, Nat.reduceAdd, Nat.reduceMul, Nat.reduceSub, env0, binV, intV, reduceCtorEq, pickV, nilCheckV, ptrV, unV, true_and, and_true, Nat.add_zero, Nat.zero_add, Rt, resultsV, allV, resV, Bool.not_true, Bool.not_false, calleeV, builtinV, eqV, fieldAddrV, ldVar, stN_own, stN_ownL, Int.fdiv_eq_ediv_of_nonneg, Int.reduceToNat, Int.reducePow, IntKind.bits, convV, ne_eq, not_false_eq_true, not_true_eq_false, Int.reduceNeg, Int.reduceAdd, Int.reduceSub, Int.reduceLT, Int.reduceLE, extractV, decide_true, decide_false, Int.reduceEq, mkFuncV, stBPack, beq_self_eq_true, Ty.t3, Tryd.underlying3, Ty.t4, Tryd.underlying4, Ty.t60, Tryd.underlying60, Ty.t58, Tryd.underlying58, Ty.t5, Tryd.underlying5, Ty.t34, Tryd.underlying34, hs.len Ty.elem34 Ty.arr34, bL_len, hq, hmk]
  refine places_ok ((hs.mild (.alloc _ _)).mild (.alloc _ _)) ?_
  simp (disch := first | omega | ((simp only [Ab.next_alloc, Ab.next_upd, List.length_cons, List.length_nil, ne_eq, not_true_eq_false, not_false_eq_true]) <;> omega) | decide) only [↓stepPre, stepPost, ↓W_cond, ↓W_block, ↓reduceIte, Nat.reduceEqDiff, Nat.reduceLT, Nat.reduceLeDiff, ret0, stVar, isTup, Value.cells, Nat.le_refl, Nat.reduceAdd, Nat.reduceMul, Nat.reduceSub, env0, binV, intV, reduceCtorEq, pickV, nilCheckV, ptrV, unV, true_and, and_true, Nat.add_zero, Nat.zero_add, Rt, resultsV, allV, resV, Bool.not_true, Bool.not_false, calleeV, builtinV, eqV, fieldAddrV, ldVar, stN_own, stN_ownL, Int.fdiv_eq_ediv_of_nonneg, Int.reduceToNat, Int.reducePow, IntKind.bits, convV, ne_eq, not_false_eq_true, not_true_eq_false, Int.reduceNeg, Int.reduceAdd, Int.reduceSub, Int.reduceLT, Int.reduceLE, extractV, decide_true, decide_false, Int.reduceEq, mkFuncV, stBPack, beq_self_eq_true, Ty.t3, Tryd.underlying3, Ty.t4, Tryd.underlying4, Ty.t60, Tryd.underlying60, Ty.t58, Tryd.underlying58, Ty.t5, Tryd.underlying5, Ty.t34, Tryd.underlying34]
  refine places_range (pb := s.next + 2) (v := v) (xs := xs) rfl rfl (by simp only [Ab.next_alloc]; omega) (by omega) (by omega)
    (fun i s1 => Mild s s1 ∧ s.next + 3 < s1.next ∧ s1.heap s.next = .row (bC (pkYs xs i)) ∧ s1.heap (s.next + 1) = .row [.slice (some ⟨s.next, 0, none⟩) m m] ∧ s1.heap (s.next + 2) = .row [v]) (fun i s1 h => ⟨h.2.2.2.2, hs.mild h.1⟩) ?_ ?_ ?_
  · refine ⟨(Mild.alloc _ _).alloc'.alloc'.alloc', by simp only [Ab.next_alloc]; omega, ?_, ?_, ?_⟩
    · rw [pkYs_zero, hm]
      simp (disch := first | omega | ((simp only [Ab.next_alloc, Ab.next_upd, List.length_cons, List.length_nil, ne_eq, not_true_eq_false, not_false_eq_true]) <;> omega) | decide) only [↓stepPre, stepPost, ↓W_cond, ↓W_block, ↓reduceIte, Nat.reduceEqDiff, Nat.reduceLT, Nat.reduceLeDiff, ret0, stVar, isTup, Value.cells, Nat.le_refl, Nat.reduceAdd, Nat.reduceMul, Nat.reduceSub, env0, binV, intV, reduceCtorEq, pickV, nilCheckV, ptrV, unV, true_and, and_true, Nat.add_zero, Nat.zero_add, Rt, resultsV, allV, resV, Bool.not_true, Bool.not_false, calleeV, builtinV, eqV, fieldAddrV, ldVar, stN_own, stN_ownL, Int.fdiv_eq_ediv_of_nonneg, Int.reduceToNat, Int.reducePow, IntKind.bits, convV, ne_eq, not_false_eq_true, not_true_eq_false, Int.reduceNeg, Int.reduceAdd, Int.reduceSub, Int.reduceLT, Int.reduceLE, extractV, decide_true, decide_false, Int.reduceEq, mkFuncV, stBPack, beq_self_eq_true]
    · simp (disch := first | omega | ((simp only [Ab.next_alloc, Ab.next_upd, List.length_cons, List.length_nil, ne_eq, not_true_eq_false, not_false_eq_true]) <;> omega) | decide) only [↓stepPre, stepPost, ↓W_cond, ↓W_block, ↓reduceIte, Nat.reduceEqDiff, Nat.reduceLT, Nat.reduceLeDiff, ret0, stVar, isTup, Value.cells, Nat.le_refl, Nat.reduceAdd, Nat.reduceMul, Nat.reduceSub, env0, binV, intV, reduceCtorEq, pickV, nilCheckV, ptrV, unV, true_and, and_true, Nat.add_zero, Nat.zero_add, Rt, resultsV, allV, resV, Bool.not_true, Bool.not_false, calleeV, builtinV, eqV, fieldAddrV, ldVar, stN_own, stN_ownL, Int.fdiv_eq_ediv_of_nonneg, Int.reduceToNat, Int.reducePow, IntKind.bits, convV, ne_eq, not_false_eq_true, not_true_eq_false, Int.reduceNeg, Int.reduceAdd, Int.reduceSub, Int.reduceLT, Int.reduceLE, extractV, decide_true, decide_false, Int.reduceEq, mkFuncV, stBPack, beq_self_eq_true]
    · simp (disch := first | omega | ((simp only [Ab.next_alloc, Ab.next_upd, List.length_cons, List.length_nil, ne_eq, not_true_eq_false, not_false_eq_true]) <;> omega) | decide) only [↓stepPre, stepPost, ↓W_cond, ↓W_block, ↓reduceIte, Nat.reduceEqDiff, Nat.reduceLT, Nat.reduceLeDiff, ret0, stVar, isTup, Value.cells, Nat.le_refl, Nat.reduceAdd, Nat.reduceMul, Nat.reduceSub, env0, binV, intV, reduceCtorEq, pickV, nilCheckV, ptrV, unV, true_and, and_true, Nat.add_zero, Nat.zero_add, Rt, resultsV, allV, resV, Bool.not_true, Bool.not_false, calleeV, builtinV, eqV, fieldAddrV, ldVar, stN_own, stN_ownL, Int.fdiv_eq_ediv_of_nonneg, Int.reduceToNat, Int.reducePow, IntKind.bits, convV, ne_eq, not_false_eq_true, not_true_eq_false, Int.reduceNeg, Int.reduceAdd, Int.reduceSub, Int.reduceLT, Int.reduceLE, extractV, decide_true, decide_false, Int.reduceEq, mkFuncV, stBPack, beq_self_eq_true]
  · rintro i s1 hi ⟨m1, m2, m3, m4, m5⟩ hl
    have hcl : (bC (pkYs xs i)).length = m := by rw [bC_len, pkYs_len, hm]
    have hdiv : (i : Int) / 8 = ((i / 8 : Nat) : Int) := by omega
    have h8 : i / 8 < m := by omega
    have hget : (bC (pkYs xs i))[i / 8]? = some (.int .u8 ((pkb xs i (i / 8) : Nat) : Int)) := by
      simp only [bC, List.getElem?_map, pkYs_at (xs := xs) (i := i) (j := i / 8) (by omega), Option.map_some]
    have hsub : (7 : Int) - ((i % 8 : Nat) : Int) = ((7 - i % 8 : Nat) : Int) := by omega
    have hle := one_le (xs.getD i 0)
    have hpw : 2 ^ (7 - i % 8) ≤ 2 ^ 7 := Nat.pow_le_pow_right (by decide) (by omega)
    have hb256 : one (xs.getD i 0) * 2 ^ (7 - i % 8) < 256 := by
      rcases Nat.le_one_iff_eq_zero_or_eq_one.1 hle with e | e <;> rw [e] <;> omega
    have hshl : ((one (xs.getD i 0) : Nat) : Int) * 2 ^ (7 - i % 8) = ((one (xs.getD i 0) * 2 ^ (7 - i % 8) : Nat) : Int) := by push_cast; rfl
    have hor := orI8 (pkb_lt xs (i / 8) (Nat.le_of_lt hi)) hb256
    rw [pkb_or hi] at hor
    have hmin : min (7 - i % 8) 8 = 7 - i % 8 := by omega
    simp (disch := first | omega | ((simp only [Ab.next_alloc, Ab.next_upd, List.length_cons, List.length_nil, ne_eq, not_true_eq_false, not_false_eq_true]) <;> omega) | decide) only [↓stepPre, stepPost, ↓W_cond, ↓W_block, ↓reduceIte, Nat.reduceEqDiff, Nat.reduceLT, Nat.reduceLeDiff, ret0, stVar, isTup, Value.cells, Nat.le_refl, Nat.reduceAdd, Nat.reduceMul, Nat.reduceSub, env0, binV, intV, reduceCtorEq, pickV, nilCheckV, ptrV, unV, true_and, and_true, Nat.add_zero, Nat.zero_add, Rt, resultsV, allV, resV, Bool.not_true, Bool.not_false, calleeV, builtinV, eqV, fieldAddrV, ldVar, stN_own, stN_ownL, Int.fdiv_eq_ediv_of_nonneg, Int.reduceToNat, Int.reducePow, IntKind.bits, convV, ne_eq, not_false_eq_true, not_true_eq_false, Int.reduceNeg, Int.reduceAdd, Int.reduceSub, Int.reduceLT, Int.reduceLE, extractV, decide_true, decide_false, Int.reduceEq, mkFuncV, stBPack, beq_self_eq_true, Ty.t3, Tryd.underlying3, Ty.t4, Tryd.underlying4, Ty.t60, Tryd.underlying60, Ty.t58, Tryd.underlying58, Ty.t5, Tryd.underlying5, Ty.t34, Tryd.underlying34, putAll, List.zip_cons_cons, List.zip_nil_left, hl, m3, m4, hdiv, idx_own h8, hget, and7u i (by omega), hsub, Int.toNat_natCast, hmin, hshl, hor, bC_set, pkYs_succ hi]
    exact ⟨hl, by omega, ((m1.upd' (by omega)).upd' (Nat.le_refl _)).upd' (by omega), by omega, m5⟩
  · rintro s1 ⟨m1, m2, m3, m4, m5⟩
    simp (disch := first | omega | ((simp only [Ab.next_alloc, Ab.next_upd, List.length_cons, List.length_nil, ne_eq, not_true_eq_false, not_false_eq_true]) <;> omega) | decide) only [↓stepPre, stepPost, ↓W_cond, ↓W_block, ↓reduceIte, Nat.reduceEqDiff, Nat.reduceLT, Nat.reduceLeDiff, ret0, stVar, isTup, Value.cells, Nat.le_refl, Nat.reduceAdd, Nat.reduceMul, Nat.reduceSub, env0, binV, intV, reduceCtorEq, pickV, nilCheckV, ptrV, unV, true_and, and_true, Nat.add_zero, Nat.zero_add, Rt, resultsV, allV, resV, Bool.not_true, Bool.not_false, calleeV, builtinV, eqV, fieldAddrV, ldVar, stN_own, stN_ownL, Int.fdiv_eq_ediv_of_nonneg, Int.reduceToNat, Int.reducePow, IntKind.bits, convV, ne_eq, not_false_eq_true, not_true_eq_false, Int.reduceNeg, Int.reduceAdd, Int.reduceSub, Int.reduceLT, Int.reduceLE, extractV, decide_true, decide_false, Int.reduceEq, mkFuncV, stBPack, beq_self_eq_true, Ty.t3, Tryd.underlying3, Ty.t4, Tryd.underlying4, Ty.t60, Tryd.underlying60, Ty.t58, Tryd.underlying58, Ty.t5, Tryd.underlying5, Ty.t34, Tryd.underlying34, m4, Tryd.results52]
    exact hR _ s.next m (m1.upd' (by omega)) (Nat.le_refl _) (by simp only [Ab.next_upd]; omega) (by rw [pkYs_len, hm]) (by rw [Ab.heap_upd_ne _ _ (by omega)]; exact m3)
end Go.Proofs.YtdhmjnpaoacpfaaDoor
