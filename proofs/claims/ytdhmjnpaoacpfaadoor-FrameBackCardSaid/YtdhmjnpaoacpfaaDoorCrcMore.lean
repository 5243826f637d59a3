/- The package crc, and its document: Bits, Seal, Whole, as contracts. -/
import Derived.Test.YtdhmjnpaoacpfaaDoorTypes
import Derived.Test.YtdhmjnpaoacpfaaDoorRow0
import Derived.Test.YtdhmjnpaoacpfaaDoorAbC
import Derived.Test.YtdhmjnpaoacpfaaDoorBits
import Derived.Test.YtdhmjnpaoacpfaaDoorOwnOf
import Derived.Test.YtdhmjnpaoacpfaaDoorRefTwo
import Derived.Test.YtdhmjnpaoacpfaaDoorStrand
import Derived.Test.YtdhmjnpaoacpfaaDoorCrcWalk
set_option linter.all false
set_option maxRecDepth 20000
namespace Go.Proofs.YtdhmjnpaoacpfaaDoor
open Go Go.Ab
def stBCrcMore := And.intro @List.size_toArray.{0} (And.intro @List.length_cons.{0} (And.intro @List.length_nil.{0} (And.intro @List.set_cons_zero.{0} (And.intro @List.set_cons_succ.{0} (And.intro @List.getD_cons_zero.{0} (And.intro @List.getD_cons_succ.{0} (And.intro @List.getElem?_cons_succ.{0} (And.intro @List.getElem?_cons_zero.{0} (And.intro @List.map_cons.{0,0} (And.intro @List.map_nil.{0,0} (And.intro @Option.isNone_none.{0} (And.intro @Option.isNone_some.{0} (And.intro @Option.map_some.{0,0} (And.intro @Option.map_none.{0,0} (And.intro @List.cons_append.{0} (And.intro @List.nil_append.{0} (And.intro @List.append_nil.{0} (And.intro @Array.toList_append.{0} (And.intro @List.toList_toArray.{0} (And.intro @Int.cast_ofNat_Int (And.intro @Option.isSome_some.{0} (And.intro @List.getElem?_toArray.{0} (And.intro @List.map_toArray.{0,0} (@Nat.min_eq_left))))))))))))))))))))))))
variable {base : Nat} {s : St} {R : Value → St → Prop}
theorem Sl.upTo {v : Value} {xs : List Nat} (hs : Sl base s 1 v (bL xs)) {k : Nat} (hk : k ≤ xs.length) : ∃ v', sliceV Tryd.prog s 34 v none (some (.int .i64 (k : Int))) none = some v' ∧ Sl base s 1 v' (bL (xs.take k)) := by
  obtain ⟨va, vn, vc, rfl⟩ := hs.shape
  obtain ⟨c1, c2⟩ := sl_cap hs
  rw [bL_len] at c1
  obtain ⟨v', q3, q4, q5, q6⟩ := hs.cut (P := Tryd.prog) (lo := none) (hi := some (.int .i64 (k : Int))) (mx := none) (l := 0) (h := k) (m := vc) Ty.elem34 Ty.siz5 (fun a len cap hv => by
    cases hv
    simp only [cutV, intOf?]
    rw [if_pos ⟨by omega, by omega, by omega, by omega⟩]; simp) (by omega) (by rw [bL_len]; omega) (by omega)
  exact ⟨v', q3, by rw [List.drop_zero] at q4; simpa [bL, List.map_take] using q4⟩
theorem Sl.behind {v : Value} {xs : List Nat} (hs : Sl base s 1 v (bL xs)) {k : Nat} (hk : k ≤ xs.length) : ∃ v', sliceV Tryd.prog s 34 v (some (.int .i64 (k : Int))) none none = some v' ∧ Sl base s 1 v' (bL (xs.drop k)) := by
  obtain ⟨va, vn, vc, rfl⟩ := hs.shape
  obtain ⟨c1, c2⟩ := sl_cap hs
  rw [bL_len] at c1
  obtain ⟨v', q3, q4, q5, q6⟩ := hs.cut (P := Tryd.prog) (lo := some (.int .i64 (k : Int))) (hi := none) (mx := none) (l := k) (h := xs.length) (m := vc) Ty.elem34 Ty.siz5 (fun a len cap hv => by
    cases hv
    simp only [cutV, intOf?, Option.isSome_none, Bool.false_eq_true, if_false]
    rw [if_pos ⟨by omega, by omega, by omega, by omega⟩]; simp; omega) (by omega) (by rw [bL_len]; exact Nat.le_refl _) (by omega)
  exact ⟨v', q3, by rw [List.take_of_length_le (by rw [bL_len]; exact Nat.le_refl _)] at q4; simpa [bL, List.map_drop] using q4⟩
theorem bits_ok {r : Nat} (hr : r < 65536) (hbn : base ≤ s.next) (hR : ∀ v' s', Mild s s' → Sl base s' 1 v' (bL (bitsOf r 15)) → Tight base v' → (∀ b, inB v' b → s.next ≤ b) → R v' s') :
    WC Tryd.prog base 67 [.int .u16 (r : Int)] s R := by
  refine WC_open Tryd.func67 rfl ?_
  simp (disch := first | omega | ((simp only [Ab.next_alloc, Ab.next_upd, List.length_cons, List.length_nil, ne_eq, not_true_eq_false, not_false_eq_true]) <;> omega) | decide) only [↓stepPre, stepPost, ↓W_cond, ↓W_block, ↓reduceIte, Nat.reduceEqDiff, Nat.reduceLT, Nat.reduceLeDiff, ret0, stVar, isTup, Value.cells, Nat.le_refl, Nat.reduceAdd, Nat.reduceMul, Nat.reduceSub, env0, binV, intV, reduceCtorEq, pickV, nilCheckV, ptrV, unV, true_and, and_true, Nat.add_zero, Nat.zero_add, Rt, resultsV, allV, resV, Bool.not_true, Bool.not_false, calleeV, builtinV, eqV, fieldAddrV, ldVar, stN_own, stN_ownL, Int.fdiv_eq_ediv_of_nonneg, Int.reduceToNat, Int.reducePow, IntKind.bits, convV, ne_eq, not_false_eq_true, not_true_eq_false, Int.reduceNeg, Int.reduceAdd, Int.reduceSub, Int.reduceLT, Int.reduceLE, extractV, decide_true, decide_false, Int.reduceEq, mkFuncV, stBCrcMore, beq_self_eq_true, Ty.t3, Tryd.underlying3, Ty.t4, Tryd.underlying4, Ty.t60, Tryd.underlying60, Ty.t81, Tryd.underlying81, Ty.t58, Tryd.underlying58, Ty.t5, Tryd.underlying5, Ty.t34, Tryd.underlying34, Ty.t89, Tryd.underlying89]
  refine own_of_ok (n := r) (k := 15) (by omega) (by omega) hbn fun v' s1 h1 h2 h3 h4 => ?_
  simp (disch := first | omega | ((simp only [Ab.next_alloc, Ab.next_upd, List.length_cons, List.length_nil, ne_eq, not_true_eq_false, not_false_eq_true]) <;> omega) | decide) only [↓stepPre, stepPost, ↓W_cond, ↓W_block, ↓reduceIte, Nat.reduceEqDiff, Nat.reduceLT, Nat.reduceLeDiff, ret0, stVar, isTup, Value.cells, Nat.le_refl, Nat.reduceAdd, Nat.reduceMul, Nat.reduceSub, env0, binV, intV, reduceCtorEq, pickV, nilCheckV, ptrV, unV, true_and, and_true, Nat.add_zero, Nat.zero_add, Rt, resultsV, allV, resV, Bool.not_true, Bool.not_false, calleeV, builtinV, eqV, fieldAddrV, ldVar, stN_own, stN_ownL, Int.fdiv_eq_ediv_of_nonneg, Int.reduceToNat, Int.reducePow, IntKind.bits, convV, ne_eq, not_false_eq_true, not_true_eq_false, Int.reduceNeg, Int.reduceAdd, Int.reduceSub, Int.reduceLT, Int.reduceLE, extractV, decide_true, decide_false, Int.reduceEq, mkFuncV, stBCrcMore, beq_self_eq_true, Ty.t3, Tryd.underlying3, Ty.t4, Tryd.underlying4, Ty.t60, Tryd.underlying60, Ty.t81, Tryd.underlying81, Ty.t58, Tryd.underlying58, Ty.t5, Tryd.underlying5, Ty.t34, Tryd.underlying34, Ty.t89, Tryd.underlying89, Tryd.results67]
  exact hR v' s1 h1 h2 h3 h4
def sealL (xs : List Nat) : List Nat := xs.map one ++ bitsOf (sumOf xs) 15
theorem sealL_len (xs : List Nat) : (sealL xs).length = xs.length + 15 := by simp [sealL, bitsOf_len]
theorem seal_ok {v : Value} {xs : List Nat} (hs : Sl base s 1 v (bL xs)) (hn : xs.length ≤ 90000) (hbn : base ≤ s.next) (hb0 : 1 ≤ base) (hg : s.heap 0 = .row divC) (hR : ∀ v' s', Mild s s' → Sl base s' 1 v' (bL (sealL xs)) → Tight base v' → (∀ b, inB v' b → s.next ≤ b) → R v' s') :
    WC Tryd.prog base 39 [v] s R := by
  refine WC_open Tryd.func39 rfl ?_
  simp (disch := first | omega | ((simp only [Ab.next_alloc, Ab.next_upd, List.length_cons, List.length_nil, ne_eq, not_true_eq_false, not_false_eq_true]) <;> omega) | decide) only [↓stepPre, stepPost, ↓W_cond, ↓W_block, ↓reduceIte, Nat.reduceEqDiff, Nat.reduceLT, Nat.reduceLeDiff, ret0, stVar, isTup, Value.cells, Nat.le_refl, Nat.reduceAdd, Nat.reduceMul, Nat.reduceSub, env0, binV, intV, reduceCtorEq, pickV, nilCheckV, ptrV, unV, true_and, and_true, Nat.add_zero, Nat.zero_add, Rt, resultsV, allV, resV, Bool.not_true, Bool.not_false, calleeV, builtinV, eqV, fieldAddrV, ldVar, stN_own, stN_ownL, Int.fdiv_eq_ediv_of_nonneg, Int.reduceToNat, Int.reducePow, IntKind.bits, convV, ne_eq, not_false_eq_true, not_true_eq_false, Int.reduceNeg, Int.reduceAdd, Int.reduceSub, Int.reduceLT, Int.reduceLE, extractV, decide_true, decide_false, Int.reduceEq, mkFuncV, stBCrcMore, beq_self_eq_true, Ty.t3, Tryd.underlying3, Ty.t4, Tryd.underlying4, Ty.t60, Tryd.underlying60, Ty.t81, Tryd.underlying81, Ty.t58, Tryd.underlying58, Ty.t5, Tryd.underlying5, Ty.t34, Tryd.underlying34, Ty.t89, Tryd.underlying89]
  refine clean_ok hs (by omega) hbn fun s1 b m1 hb1 hb2 hh => ?_
  have n1 := m1.next
  simp (disch := first | omega | ((simp only [Ab.next_alloc, Ab.next_upd, List.length_cons, List.length_nil, ne_eq, not_true_eq_false, not_false_eq_true]) <;> omega) | decide) only [↓stepPre, stepPost, ↓W_cond, ↓W_block, ↓reduceIte, Nat.reduceEqDiff, Nat.reduceLT, Nat.reduceLeDiff, ret0, stVar, isTup, Value.cells, Nat.le_refl, Nat.reduceAdd, Nat.reduceMul, Nat.reduceSub, env0, binV, intV, reduceCtorEq, pickV, nilCheckV, ptrV, unV, true_and, and_true, Nat.add_zero, Nat.zero_add, Rt, resultsV, allV, resV, Bool.not_true, Bool.not_false, calleeV, builtinV, eqV, fieldAddrV, ldVar, stN_own, stN_ownL, Int.fdiv_eq_ediv_of_nonneg, Int.reduceToNat, Int.reducePow, IntKind.bits, convV, ne_eq, not_false_eq_true, not_true_eq_false, Int.reduceNeg, Int.reduceAdd, Int.reduceSub, Int.reduceLT, Int.reduceLE, extractV, decide_true, decide_false, Int.reduceEq, mkFuncV, stBCrcMore, beq_self_eq_true, Ty.t3, Tryd.underlying3, Ty.t4, Tryd.underlying4, Ty.t60, Tryd.underlying60, Ty.t81, Tryd.underlying81, Ty.t58, Tryd.underlying58, Ty.t5, Tryd.underlying5, Ty.t34, Tryd.underlying34, Ty.t89, Tryd.underlying89]
  refine sum_ok (hs.mild m1) hn (by omega) hb0 (by rw [m1.heap 0 (by omega)]; exact hg) fun s2 m2 => ?_
  have n2 := m2.next
  simp (disch := first | omega | ((simp only [Ab.next_alloc, Ab.next_upd, List.length_cons, List.length_nil, ne_eq, not_true_eq_false, not_false_eq_true]) <;> omega) | decide) only [↓stepPre, stepPost, ↓W_cond, ↓W_block, ↓reduceIte, Nat.reduceEqDiff, Nat.reduceLT, Nat.reduceLeDiff, ret0, stVar, isTup, Value.cells, Nat.le_refl, Nat.reduceAdd, Nat.reduceMul, Nat.reduceSub, env0, binV, intV, reduceCtorEq, pickV, nilCheckV, ptrV, unV, true_and, and_true, Nat.add_zero, Nat.zero_add, Rt, resultsV, allV, resV, Bool.not_true, Bool.not_false, calleeV, builtinV, eqV, fieldAddrV, ldVar, stN_own, stN_ownL, Int.fdiv_eq_ediv_of_nonneg, Int.reduceToNat, Int.reducePow, IntKind.bits, convV, ne_eq, not_false_eq_true, not_true_eq_false, Int.reduceNeg, Int.reduceAdd, Int.reduceSub, Int.reduceLT, Int.reduceLE, extractV, decide_true, decide_false, Int.reduceEq, mkFuncV, stBCrcMore, beq_self_eq_true, Ty.t3, Tryd.underlying3, Ty.t4, Tryd.underlying4, Ty.t60, Tryd.underlying60, Ty.t81, Tryd.underlying81, Ty.t58, Tryd.underlying58, Ty.t5, Tryd.underlying5, Ty.t34, Tryd.underlying34, Ty.t89, Tryd.underlying89]
  refine bits_ok (Nat.lt_trans (sumOf_lt xs) (by decide)) (by omega) fun v3 s3 m3 hv3 ht3 hf3 => ?_
  have n3 := m3.next
  have hc : Sl base s1 1 (.slice (some ⟨b, 0, none⟩) xs.length xs.length) (bL (xs.map one)) := sl_bytes hh (by simp) (by omega) hb2
  obtain ⟨v', s', e1, e2, e3, e4, e5⟩ := app_big ((hc.mild m2).mild m3) ⟨rfl, by simp only; omega⟩ (by omega) hv3 (by rw [bitsOf_len]; simp; omega)
  simp (disch := first | omega | ((simp only [Ab.next_alloc, Ab.next_upd, List.length_cons, List.length_nil, ne_eq, not_true_eq_false, not_false_eq_true]) <;> omega) | decide) only [↓stepPre, stepPost, ↓W_cond, ↓W_block, ↓reduceIte, Nat.reduceEqDiff, Nat.reduceLT, Nat.reduceLeDiff, ret0, stVar, isTup, Value.cells, Nat.le_refl, Nat.reduceAdd, Nat.reduceMul, Nat.reduceSub, env0, binV, intV, reduceCtorEq, pickV, nilCheckV, ptrV, unV, true_and, and_true, Nat.add_zero, Nat.zero_add, Rt, resultsV, allV, resV, Bool.not_true, Bool.not_false, calleeV, builtinV, eqV, fieldAddrV, ldVar, stN_own, stN_ownL, Int.fdiv_eq_ediv_of_nonneg, Int.reduceToNat, Int.reducePow, IntKind.bits, convV, ne_eq, not_false_eq_true, not_true_eq_false, Int.reduceNeg, Int.reduceAdd, Int.reduceSub, Int.reduceLT, Int.reduceLE, extractV, decide_true, decide_false, Int.reduceEq, mkFuncV, stBCrcMore, beq_self_eq_true, Ty.t3, Tryd.underlying3, Ty.t4, Tryd.underlying4, Ty.t60, Tryd.underlying60, Ty.t81, Tryd.underlying81, Ty.t58, Tryd.underlying58, Ty.t5, Tryd.underlying5, Ty.t34, Tryd.underlying34, Ty.t89, Tryd.underlying89, e1, Tryd.results39]
  refine hR v' s' ?_ e2 e3 fun b' hb' => ?_
  · exact (Ch.after (Ch.of_mild ((m1.trans m2).trans m3) (fun k => k = b)) e4 fun k _ hk => by simp only [inB] at hk; exact hk.symm).mild fun k hk h => by omega
  · rcases e5 b' hb' with h | h
    · omega
    · simp only [inB] at h; omega
theorem rseal_ok {v : Value} {xs : List Nat} (hs : Sl base s 1 v (bL xs)) (hn : xs.length ≤ 90000) (hbn : base ≤ s.next) (hR : ∀ v' s', Mild s s' → Sl base s' 1 v' (bL (sealL xs)) → Tight base v' → (∀ b, inB v' b → s.next ≤ b) → R v' s') :
    WC Tryd.prog base 42 [v] s R := by
  refine WC_open Tryd.func42 rfl ?_
  simp (disch := first | omega | ((simp only [Ab.next_alloc, Ab.next_upd, List.length_cons, List.length_nil, ne_eq, not_true_eq_false, not_false_eq_true]) <;> omega) | decide) only [↓stepPre, stepPost, ↓W_cond, ↓W_block, ↓reduceIte, Nat.reduceEqDiff, Nat.reduceLT, Nat.reduceLeDiff, ret0, stVar, isTup, Value.cells, Nat.le_refl, Nat.reduceAdd, Nat.reduceMul, Nat.reduceSub, env0, binV, intV, reduceCtorEq, pickV, nilCheckV, ptrV, unV, true_and, and_true, Nat.add_zero, Nat.zero_add, Rt, resultsV, allV, resV, Bool.not_true, Bool.not_false, calleeV, builtinV, eqV, fieldAddrV, ldVar, stN_own, stN_ownL, Int.fdiv_eq_ediv_of_nonneg, Int.reduceToNat, Int.reducePow, IntKind.bits, convV, ne_eq, not_false_eq_true, not_true_eq_false, Int.reduceNeg, Int.reduceAdd, Int.reduceSub, Int.reduceLT, Int.reduceLE, extractV, decide_true, decide_false, Int.reduceEq, mkFuncV, stBCrcMore, beq_self_eq_true, Ty.t3, Tryd.underlying3, Ty.t4, Tryd.underlying4, Ty.t60, Tryd.underlying60, Ty.t81, Tryd.underlying81, Ty.t58, Tryd.underlying58, Ty.t5, Tryd.underlying5, Ty.t34, Tryd.underlying34, Ty.t89, Tryd.underlying89]
  refine rclean_ok hs (by omega) hbn fun s1 v1 m1 hv1 ht1 hf1 => ?_
  have n1 := m1.next
  simp (disch := first | omega | ((simp only [Ab.next_alloc, Ab.next_upd, List.length_cons, List.length_nil, ne_eq, not_true_eq_false, not_false_eq_true]) <;> omega) | decide) only [↓stepPre, stepPost, ↓W_cond, ↓W_block, ↓reduceIte, Nat.reduceEqDiff, Nat.reduceLT, Nat.reduceLeDiff, ret0, stVar, isTup, Value.cells, Nat.le_refl, Nat.reduceAdd, Nat.reduceMul, Nat.reduceSub, env0, binV, intV, reduceCtorEq, pickV, nilCheckV, ptrV, unV, true_and, and_true, Nat.add_zero, Nat.zero_add, Rt, resultsV, allV, resV, Bool.not_true, Bool.not_false, calleeV, builtinV, eqV, fieldAddrV, ldVar, stN_own, stN_ownL, Int.fdiv_eq_ediv_of_nonneg, Int.reduceToNat, Int.reducePow, IntKind.bits, convV, ne_eq, not_false_eq_true, not_true_eq_false, Int.reduceNeg, Int.reduceAdd, Int.reduceSub, Int.reduceLT, Int.reduceLE, extractV, decide_true, decide_false, Int.reduceEq, mkFuncV, stBCrcMore, beq_self_eq_true, Ty.t3, Tryd.underlying3, Ty.t4, Tryd.underlying4, Ty.t60, Tryd.underlying60, Ty.t81, Tryd.underlying81, Ty.t58, Tryd.underlying58, Ty.t5, Tryd.underlying5, Ty.t34, Tryd.underlying34, Ty.t89, Tryd.underlying89]
  have hlt := sumOf_lt xs
  refine rsum_p (hs.mild m1) (by omega) ?_
  simp (disch := first | omega | ((simp only [Ab.next_alloc, Ab.next_upd, List.length_cons, List.length_nil, ne_eq, not_true_eq_false, not_false_eq_true]) <;> omega) | decide) only [↓stepPre, stepPost, ↓W_cond, ↓W_block, ↓reduceIte, Nat.reduceEqDiff, Nat.reduceLT, Nat.reduceLeDiff, ret0, stVar, isTup, Value.cells, Nat.le_refl, Nat.reduceAdd, Nat.reduceMul, Nat.reduceSub, env0, binV, intV, reduceCtorEq, pickV, nilCheckV, ptrV, unV, true_and, and_true, Nat.add_zero, Nat.zero_add, Rt, resultsV, allV, resV, Bool.not_true, Bool.not_false, calleeV, builtinV, eqV, fieldAddrV, ldVar, stN_own, stN_ownL, Int.fdiv_eq_ediv_of_nonneg, Int.reduceToNat, Int.reducePow, IntKind.bits, convV, ne_eq, not_false_eq_true, not_true_eq_false, Int.reduceNeg, Int.reduceAdd, Int.reduceSub, Int.reduceLT, Int.reduceLE, extractV, decide_true, decide_false, Int.reduceEq, mkFuncV, stBCrcMore, beq_self_eq_true, Ty.t3, Tryd.underlying3, Ty.t4, Tryd.underlying4, Ty.t60, Tryd.underlying60, Ty.t81, Tryd.underlying81, Ty.t58, Tryd.underlying58, Ty.t5, Tryd.underlying5, Ty.t34, Tryd.underlying34, Ty.t89, Tryd.underlying89]
  refine of_ok (n := sumOf xs) (k := 15) (by omega) (by omega) (by omega) fun v3 s3 m3 hv3 ht3 hf3 => ?_
  have n3 := m3.next
  obtain ⟨v', s', e1, e2, e3, e4, e5⟩ := app_big (hv1.mild m3) ht1 (by omega) hv3 (by rw [bitsOf_len]; simp; omega)
  simp (disch := first | omega | ((simp only [Ab.next_alloc, Ab.next_upd, List.length_cons, List.length_nil, ne_eq, not_true_eq_false, not_false_eq_true]) <;> omega) | decide) only [↓stepPre, stepPost, ↓W_cond, ↓W_block, ↓reduceIte, Nat.reduceEqDiff, Nat.reduceLT, Nat.reduceLeDiff, ret0, stVar, isTup, Value.cells, Nat.le_refl, Nat.reduceAdd, Nat.reduceMul, Nat.reduceSub, env0, binV, intV, reduceCtorEq, pickV, nilCheckV, ptrV, unV, true_and, and_true, Nat.add_zero, Nat.zero_add, Rt, resultsV, allV, resV, Bool.not_true, Bool.not_false, calleeV, builtinV, eqV, fieldAddrV, ldVar, stN_own, stN_ownL, Int.fdiv_eq_ediv_of_nonneg, Int.reduceToNat, Int.reducePow, IntKind.bits, convV, ne_eq, not_false_eq_true, not_true_eq_false, Int.reduceNeg, Int.reduceAdd, Int.reduceSub, Int.reduceLT, Int.reduceLE, extractV, decide_true, decide_false, Int.reduceEq, mkFuncV, stBCrcMore, beq_self_eq_true, Ty.t3, Tryd.underlying3, Ty.t4, Tryd.underlying4, Ty.t60, Tryd.underlying60, Ty.t81, Tryd.underlying81, Ty.t58, Tryd.underlying58, Ty.t5, Tryd.underlying5, Ty.t34, Tryd.underlying34, Ty.t89, Tryd.underlying89, e1, Tryd.results42]
  refine hR v' s' ?_ e2 e3 fun b' hb' => ?_
  · exact (Ch.after (Ch.of_mild (m1.trans m3) (fun k => s.next ≤ k)) e4 fun k _ hk => hf1 k hk).mild fun k hk h => by omega
  · rcases e5 b' hb' with h | h
    · omega
    · exact hf1 _ h
theorem bits_map_one (n k : Nat) : (bitsOf n k).map one = bitsOf n k := by
  unfold bitsOf
  rw [List.map_map]
  apply List.map_congr_left
  intro j _
  simp only [Function.comp]
  unfold one; split <;> omega
theorem numOf_map_one (xs : List Nat) : numOf (xs.map one) = numOf xs := by
  have h : ∀ b, one (one b) = one b := fun b => by unfold one; split <;> (split <;> simp_all)
  simp [numOf, List.foldl_map, h]
theorem bits_num (xs : List Nat) : bitsOf (numOf xs) xs.length = xs.map one := by
  have key : ∀ k (xs : List Nat), xs.length = k → bitsOf (numOf xs) k = xs.map one := by
    intro k
    induction k with
    | zero => intro xs h; have := List.eq_nil_of_length_eq_zero h; subst this; rfl
    | succ k ih =>
      intro xs h
      obtain ⟨ys, b, rfl⟩ : ∃ ys b, xs = ys ++ [b] := ⟨xs.dropLast, xs.getLast (by intro e; subst e; simp at h), (List.dropLast_concat_getLast _).symm⟩
      have hk : ys.length = k := by simpa using h
      have ho := one_le b
      have := ih ys hk
      rw [numOf_snoc, List.map_append, ← this]
      apply List.ext_getElem
      · simp [bitsOf_len]
      · intro j h1 h2
        simp only [bitsOf_len] at h1
        rw [List.getElem_append]
        split
        · rename_i hj
          simp only [bitsOf_len] at hj
          simp only [bitsOf, List.getElem_map, List.getElem_range]
          have e : k + 1 - 1 - j = (k - 1 - j) + 1 := by omega
          rw [e, Nat.pow_succ, Nat.mul_comm (2 ^ _) 2, ← Nat.div_div_eq_div_mul]
          congr 2; omega
        · rename_i hj
          simp only [bitsOf_len] at hj
          have : j = k := by omega
          subst this
          simp [bitsOf, bitsOf_len]; omega
  exact key _ xs rfl
/-- Has a string its sum behind? -/
def wholeB (xs : List Nat) : Bool := decide (15 ≤ xs.length ∧ sumOf (xs.take (xs.length - 15)) = numOf (xs.drop (xs.length - 15)))
theorem whole_ok {v : Value} {xs : List Nat} (hs : Sl base s 1 v (bL xs)) (hn : xs.length ≤ 90000) (hbn : base ≤ s.next) (hb0 : 1 ≤ base) (hg : s.heap 0 = .row divC) (hR : ∀ s', Mild s s' → R (.bool (wholeB xs)) s') :
    WC Tryd.prog base 48 [v] s R := by
  refine WC_open Tryd.func48 rfl ?_
  simp (disch := first | omega | ((simp only [Ab.next_alloc, Ab.next_upd, List.length_cons, List.length_nil, ne_eq, not_true_eq_false, not_false_eq_true]) <;> omega) | decide) only [↓stepPre, stepPost, ↓W_cond, ↓W_block, ↓reduceIte, Nat.reduceEqDiff, Nat.reduceLT, Nat.reduceLeDiff, ret0, stVar, isTup, Value.cells, Nat.le_refl, Nat.reduceAdd, Nat.reduceMul, Nat.reduceSub, env0, binV, intV, reduceCtorEq, pickV, nilCheckV, ptrV, unV, true_and, and_true, Nat.add_zero, Nat.zero_add, Rt, resultsV, allV, resV, Bool.not_true, Bool.not_false, calleeV, builtinV, eqV, fieldAddrV, ldVar, stN_own, stN_ownL, Int.fdiv_eq_ediv_of_nonneg, Int.reduceToNat, Int.reducePow, IntKind.bits, convV, ne_eq, not_false_eq_true, not_true_eq_false, Int.reduceNeg, Int.reduceAdd, Int.reduceSub, Int.reduceLT, Int.reduceLE, extractV, decide_true, decide_false, Int.reduceEq, mkFuncV, stBCrcMore, beq_self_eq_true, Ty.t3, Tryd.underlying3, Ty.t4, Tryd.underlying4, Ty.t60, Tryd.underlying60, Ty.t81, Tryd.underlying81, Ty.t58, Tryd.underlying58, Ty.t5, Tryd.underlying5, Ty.t34, Tryd.underlying34, Ty.t89, Tryd.underlying89, hs.len Ty.elem34 Ty.arr34, bL_len]
  refine W_draw (fun _ => false) (fun _ => false) (fun _ => false) (by kernel_rfl) (by kernel_rfl) ?_
  by_cases h15 : 15 ≤ xs.length
  · have hk : (xs.length : Int) - 15 = ((xs.length - 15 : Nat) : Int) := by omega
    have hge : (0 : Int) ≤ ((xs.length - 15 : Nat) : Int) := by omega
    obtain ⟨v1, c1, d1⟩ := Sl.behind hs (k := xs.length - 15) (by omega)
    obtain ⟨v2, c2, d2⟩ := Sl.upTo hs (k := xs.length - 15) (by omega)
    simp (disch := first | omega | ((simp only [Ab.next_alloc, Ab.next_upd, List.length_cons, List.length_nil, ne_eq, not_true_eq_false, not_false_eq_true]) <;> omega) | decide) only [↓stepPre, stepPost, ↓W_cond, ↓W_block, ↓reduceIte, Nat.reduceEqDiff, Nat.reduceLT, Nat.reduceLeDiff, ret0, stVar, isTup, Value.cells, Nat.le_refl, Nat.reduceAdd, Nat.reduceMul, Nat.reduceSub, env0, binV, intV, reduceCtorEq, pickV, nilCheckV, ptrV, unV, true_and, and_true, Nat.add_zero, Nat.zero_add, Rt, resultsV, allV, resV, Bool.not_true, Bool.not_false, calleeV, builtinV, eqV, fieldAddrV, ldVar, stN_own, stN_ownL, Int.fdiv_eq_ediv_of_nonneg, Int.reduceToNat, Int.reducePow, IntKind.bits, convV, ne_eq, not_false_eq_true, not_true_eq_false, Int.reduceNeg, Int.reduceAdd, Int.reduceSub, Int.reduceLT, Int.reduceLE, extractV, decide_true, decide_false, Int.reduceEq, mkFuncV, stBCrcMore, beq_self_eq_true, Ty.t3, Tryd.underlying3, Ty.t4, Tryd.underlying4, Ty.t60, Tryd.underlying60, Ty.t81, Tryd.underlying81, Ty.t58, Tryd.underlying58, Ty.t5, Tryd.underlying5, Ty.t34, Tryd.underlying34, Ty.t89, Tryd.underlying89, hk, hge, c1, c2]
    refine sum_ok d2 (by rw [List.length_take]; omega) hbn hb0 hg fun s1 m1 => ?_
    have n1 := m1.next
    refine ⟨Dok_mild m1, ?_⟩
    simp (disch := first | omega | ((simp only [Ab.next_alloc, Ab.next_upd, List.length_cons, List.length_nil, ne_eq, not_true_eq_false, not_false_eq_true]) <;> omega) | decide) only [↓stepPre, stepPost, ↓W_cond, ↓W_block, ↓reduceIte, Nat.reduceEqDiff, Nat.reduceLT, Nat.reduceLeDiff, ret0, stVar, isTup, Value.cells, Nat.le_refl, Nat.reduceAdd, Nat.reduceMul, Nat.reduceSub, env0, binV, intV, reduceCtorEq, pickV, nilCheckV, ptrV, unV, true_and, and_true, Nat.add_zero, Nat.zero_add, Rt, resultsV, allV, resV, Bool.not_true, Bool.not_false, calleeV, builtinV, eqV, fieldAddrV, ldVar, stN_own, stN_ownL, Int.fdiv_eq_ediv_of_nonneg, Int.reduceToNat, Int.reducePow, IntKind.bits, convV, ne_eq, not_false_eq_true, not_true_eq_false, Int.reduceNeg, Int.reduceAdd, Int.reduceSub, Int.reduceLT, Int.reduceLE, extractV, decide_true, decide_false, Int.reduceEq, mkFuncV, stBCrcMore, beq_self_eq_true, Ty.t3, Tryd.underlying3, Ty.t4, Tryd.underlying4, Ty.t60, Tryd.underlying60, Ty.t81, Tryd.underlying81, Ty.t58, Tryd.underlying58, Ty.t5, Tryd.underlying5, Ty.t34, Tryd.underlying34, Ty.t89, Tryd.underlying89]
    refine bits_ok (Nat.lt_trans (sumOf_lt _) (by decide)) (by omega) fun v3 s2 m2 hv3 _ _ => ?_
    have n2 := m2.next
    refine ⟨Dok_mild m2, ?_⟩
    simp (disch := first | omega | ((simp only [Ab.next_alloc, Ab.next_upd, List.length_cons, List.length_nil, ne_eq, not_true_eq_false, not_false_eq_true]) <;> omega) | decide) only [↓stepPre, stepPost, ↓W_cond, ↓W_block, ↓reduceIte, Nat.reduceEqDiff, Nat.reduceLT, Nat.reduceLeDiff, ret0, stVar, isTup, Value.cells, Nat.le_refl, Nat.reduceAdd, Nat.reduceMul, Nat.reduceSub, env0, binV, intV, reduceCtorEq, pickV, nilCheckV, ptrV, unV, true_and, and_true, Nat.add_zero, Nat.zero_add, Rt, resultsV, allV, resV, Bool.not_true, Bool.not_false, calleeV, builtinV, eqV, fieldAddrV, ldVar, stN_own, stN_ownL, Int.fdiv_eq_ediv_of_nonneg, Int.reduceToNat, Int.reducePow, IntKind.bits, convV, ne_eq, not_false_eq_true, not_true_eq_false, Int.reduceNeg, Int.reduceAdd, Int.reduceSub, Int.reduceLT, Int.reduceLE, extractV, decide_true, decide_false, Int.reduceEq, mkFuncV, stBCrcMore, beq_self_eq_true, Ty.t3, Tryd.underlying3, Ty.t4, Tryd.underlying4, Ty.t60, Tryd.underlying60, Ty.t81, Tryd.underlying81, Ty.t58, Tryd.underlying58, Ty.t5, Tryd.underlying5, Ty.t34, Tryd.underlying34, Ty.t89, Tryd.underlying89, hge]
    refine same_ok ((d1.mild m1).mild m2) hv3 (by simp; omega) (by rw [bitsOf_len]; omega) (by omega) fun s3 m3 => ?_
    refine ⟨Dok_mild m3, ?_⟩
    simp (disch := first | omega | ((simp only [Ab.next_alloc, Ab.next_upd, List.length_cons, List.length_nil, ne_eq, not_true_eq_false, not_false_eq_true]) <;> omega) | decide) only [↓stepPre, stepPost, ↓W_cond, ↓W_block, ↓reduceIte, Nat.reduceEqDiff, Nat.reduceLT, Nat.reduceLeDiff, ret0, stVar, isTup, Value.cells, Nat.le_refl, Nat.reduceAdd, Nat.reduceMul, Nat.reduceSub, env0, binV, intV, reduceCtorEq, pickV, nilCheckV, ptrV, unV, true_and, and_true, Nat.add_zero, Nat.zero_add, Rt, resultsV, allV, resV, Bool.not_true, Bool.not_false, calleeV, builtinV, eqV, fieldAddrV, ldVar, stN_own, stN_ownL, Int.fdiv_eq_ediv_of_nonneg, Int.reduceToNat, Int.reducePow, IntKind.bits, convV, ne_eq, not_false_eq_true, not_true_eq_false, Int.reduceNeg, Int.reduceAdd, Int.reduceSub, Int.reduceLT, Int.reduceLE, extractV, decide_true, decide_false, Int.reduceEq, mkFuncV, stBCrcMore, beq_self_eq_true, Ty.t3, Tryd.underlying3, Ty.t4, Tryd.underlying4, Ty.t60, Tryd.underlying60, Ty.t81, Tryd.underlying81, Ty.t58, Tryd.underlying58, Ty.t5, Tryd.underlying5, Ty.t34, Tryd.underlying34, Ty.t89, Tryd.underlying89, hge, Tryd.results48]
    have e : decide ((xs.drop (xs.length - 15)).map one = (bitsOf (sumOf (xs.take (xs.length - 15))) 15).map one) = wholeB xs := by
      unfold wholeB
      apply decide_eq_decide.2
      rw [bits_map_one]
      have hl : (xs.drop (xs.length - 15)).length = 15 := by simp; omega
      constructor
      · intro he
        refine ⟨h15, ?_⟩
        have := congrArg numOf he
        rw [numOf_map_one, numOf_bits] at this
        have hlt := sumOf_lt (xs.take (xs.length - 15))
        rw [this, Nat.mod_eq_of_lt (by omega)]
      · rintro ⟨-, he⟩
        rw [he, ← bits_num, hl]
    rw [e]
    exact hR s3 ((m1.trans m2).trans m3)
  · have hge : ¬ (0 : Int) ≤ (xs.length : Int) - 15 := by omega
    simp (disch := first | omega | ((simp only [Ab.next_alloc, Ab.next_upd, List.length_cons, List.length_nil, ne_eq, not_true_eq_false, not_false_eq_true]) <;> omega) | decide) only [↓stepPre, stepPost, ↓W_cond, ↓W_block, ↓reduceIte, Nat.reduceEqDiff, Nat.reduceLT, Nat.reduceLeDiff, ret0, stVar, isTup, Value.cells, Nat.le_refl, Nat.reduceAdd, Nat.reduceMul, Nat.reduceSub, env0, binV, intV, reduceCtorEq, pickV, nilCheckV, ptrV, unV, true_and, and_true, Nat.add_zero, Nat.zero_add, Rt, resultsV, allV, resV, Bool.not_true, Bool.not_false, calleeV, builtinV, eqV, fieldAddrV, ldVar, stN_own, stN_ownL, Int.fdiv_eq_ediv_of_nonneg, Int.reduceToNat, Int.reducePow, IntKind.bits, convV, ne_eq, not_false_eq_true, not_true_eq_false, Int.reduceNeg, Int.reduceAdd, Int.reduceSub, Int.reduceLT, Int.reduceLE, extractV, decide_true, decide_false, Int.reduceEq, mkFuncV, stBCrcMore, beq_self_eq_true, Ty.t3, Tryd.underlying3, Ty.t4, Tryd.underlying4, Ty.t60, Tryd.underlying60, Ty.t81, Tryd.underlying81, Ty.t58, Tryd.underlying58, Ty.t5, Tryd.underlying5, Ty.t34, Tryd.underlying34, Ty.t89, Tryd.underlying89, hge, Tryd.results48]
    have e : wholeB xs = false := by unfold wholeB; simp; omega
    rw [e] at hR
    exact hR s (.refl _)
end Go.Proofs.YtdhmjnpaoacpfaaDoor
