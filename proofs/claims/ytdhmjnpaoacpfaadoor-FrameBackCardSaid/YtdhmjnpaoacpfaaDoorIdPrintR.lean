/- Identifiers as texts: the document's. -/
import Derived.Test.YtdhmjnpaoacpfaaDoorTypes
import Derived.Test.YtdhmjnpaoacpfaaDoorRow0
import Derived.Test.YtdhmjnpaoacpfaaDoorAbC
import Derived.Test.YtdhmjnpaoacpfaaDoorBits
import Derived.Test.YtdhmjnpaoacpfaaDoorPure
import Derived.Test.YtdhmjnpaoacpfaaDoorRight
import Derived.Test.YtdhmjnpaoacpfaaDoorBoxes
import Derived.Test.YtdhmjnpaoacpfaaDoorStr
import Derived.Test.YtdhmjnpaoacpfaaDoorHex
import Derived.Test.YtdhmjnpaoacpfaaDoorIdText
import Derived.Test.YtdhmjnpaoacpfaaDoorIdPrint
set_option linter.all false
set_option maxRecDepth 20000
namespace Go.Proofs.YtdhmjnpaoacpfaaDoor
open Go Go.Ab
def stBIdPrintR := And.intro @List.size_toArray.{0} (And.intro @List.length_cons.{0} (And.intro @List.length_nil.{0} (And.intro @List.set_cons_zero.{0} (And.intro @List.set_cons_succ.{0} (And.intro @List.getD_cons_zero.{0} (And.intro @List.getD_cons_succ.{0} (And.intro @List.getElem?_cons_succ.{0} (And.intro @List.getElem?_cons_zero.{0} (And.intro @List.map_cons.{0,0} (And.intro @List.map_nil.{0,0} (And.intro @Option.isNone_none.{0} (And.intro @Option.isNone_some.{0} (And.intro @Option.map_some.{0,0} (And.intro @Option.map_none.{0,0} (And.intro @List.cons_append.{0} (And.intro @List.nil_append.{0} (And.intro @List.append_nil.{0} (And.intro @Array.toList_append.{0} (And.intro @List.toList_toArray.{0} (And.intro @Int.cast_ofNat_Int (And.intro @Option.isSome_some.{0} (And.intro @List.getElem?_toArray.{0} (And.intro @List.map_toArray.{0,0} (@Nat.min_eq_left))))))))))))))))))))))))
def glBIdPrintR := And.intro @List.drop_zero.{0} (And.intro @List.drop_succ_cons.{0} (And.intro @List.take_succ_cons.{0} (And.intro @List.take_zero.{0} (@List.take_nil.{0}))))
variable {base : Nat} [Bok base] {s : St} {R : Value → St → Prop}
theorem rtext5_ok {e : Bool} {n : Nat} (hn : n < 2 ^ 32) (hbn : base ≤ s.next) (hR : ∀ s', Mild s s' → R (.string (strB (idT e n))) s') : WC Tryd.prog base 44 [idV e n] s R := by
  refine WC_open Tryd.func44 rfl ?_
  have key := hR _ (Mild.alloc s (.row [.bool e, .int .u32 (n : Int)]))
  simp (disch := first | omega | ((simp only [Ab.next_alloc, Ab.next_upd, List.length_cons, List.length_nil, ne_eq, not_true_eq_false, not_false_eq_true]) <;> omega) | decide) only [↓stepPre, stepPost, ↓W_cond, ↓W_block, ↓reduceIte, Nat.reduceEqDiff, Nat.reduceLT, Nat.reduceLeDiff, ret0, stVar, isTup, Value.cells, Nat.le_refl, Nat.reduceAdd, Nat.reduceMul, Nat.reduceSub, env0, binV, intV, reduceCtorEq, pickV, nilCheckV, ptrV, unV, true_and, and_true, Nat.add_zero, Nat.zero_add, Rt, resultsV, allV, resV, Bool.not_true, Bool.not_false, calleeV, builtinV, eqV, fieldAddrV, ldVar, stN_own, stN_ownL, Int.fdiv_eq_ediv_of_nonneg, Int.reduceToNat, Int.reducePow, IntKind.bits, convV, ne_eq, not_false_eq_true, not_true_eq_false, Int.reduceNeg, Int.reduceAdd, Int.reduceSub, Int.reduceLT, Int.reduceLE, extractV, decide_true, decide_false, Int.reduceEq, mkFuncV, stBIdPrintR, beq_self_eq_true, Ty.t24, Tryd.underlying24, Ty.t9, Tryd.underlying9, Ty.t5, Tryd.underlying5, Ty.t22, Tryd.underlying22, Ty.t60, Tryd.underlying60, Ty.t3, Tryd.underlying3, Ty.t4, Tryd.underlying4, getL_take, glBIdPrintR]
  refine r05right_p ?_
  cases hid : idOk e n with
  | false =>
    simp only [idT, hid, Bool.false_eq_true, if_false] at key
    simp (disch := first | omega | ((simp only [Ab.next_alloc, Ab.next_upd, List.length_cons, List.length_nil, ne_eq, not_true_eq_false, not_false_eq_true]) <;> omega) | decide) only [↓stepPre, stepPost, ↓W_cond, ↓W_block, ↓reduceIte, Nat.reduceEqDiff, Nat.reduceLT, Nat.reduceLeDiff, ret0, stVar, isTup, Value.cells, Nat.le_refl, Nat.reduceAdd, Nat.reduceMul, Nat.reduceSub, env0, binV, intV, reduceCtorEq, pickV, nilCheckV, ptrV, unV, true_and, and_true, Nat.add_zero, Nat.zero_add, Rt, resultsV, allV, resV, Bool.not_true, Bool.not_false, calleeV, builtinV, eqV, fieldAddrV, ldVar, stN_own, stN_ownL, Int.fdiv_eq_ediv_of_nonneg, Int.reduceToNat, Int.reducePow, IntKind.bits, convV, ne_eq, not_false_eq_true, not_true_eq_false, Int.reduceNeg, Int.reduceAdd, Int.reduceSub, Int.reduceLT, Int.reduceLE, extractV, decide_true, decide_false, Int.reduceEq, mkFuncV, stBIdPrintR, beq_self_eq_true, Ty.t24, Tryd.underlying24, Ty.t9, Tryd.underlying9, Ty.t5, Tryd.underlying5, Ty.t22, Tryd.underlying22, Ty.t60, Tryd.underlying60, Ty.t3, Tryd.underlying3, Ty.t4, Tryd.underlying4, getL_take, glBIdPrintR, Tryd.results44]
    exact key
  | true =>
    simp only [idT, hid, if_true] at key
    cases e
    · simp only [Bool.false_eq_true, if_false, if_true] at key
      simp (disch := first | omega | ((simp only [Ab.next_alloc, Ab.next_upd, List.length_cons, List.length_nil, ne_eq, not_true_eq_false, not_false_eq_true]) <;> omega) | decide) only [↓stepPre, stepPost, ↓W_cond, ↓W_block, ↓reduceIte, Nat.reduceEqDiff, Nat.reduceLT, Nat.reduceLeDiff, ret0, stVar, isTup, Value.cells, Nat.le_refl, Nat.reduceAdd, Nat.reduceMul, Nat.reduceSub, env0, binV, intV, reduceCtorEq, pickV, nilCheckV, ptrV, unV, true_and, and_true, Nat.add_zero, Nat.zero_add, Rt, resultsV, allV, resV, Bool.not_true, Bool.not_false, calleeV, builtinV, eqV, fieldAddrV, ldVar, stN_own, stN_ownL, Int.fdiv_eq_ediv_of_nonneg, Int.reduceToNat, Int.reducePow, IntKind.bits, convV, ne_eq, not_false_eq_true, not_true_eq_false, Int.reduceNeg, Int.reduceAdd, Int.reduceSub, Int.reduceLT, Int.reduceLE, extractV, decide_true, decide_false, Int.reduceEq, mkFuncV, stBIdPrintR, beq_self_eq_true, Ty.t24, Tryd.underlying24, Ty.t9, Tryd.underlying9, Ty.t5, Tryd.underlying5, Ty.t22, Tryd.underlying22, Ty.t60, Tryd.underlying60, Ty.t3, Tryd.underlying3, Ty.t4, Tryd.underlying4, getL_take, glBIdPrintR]
      refine W_loop_inv 3 (fun i e1 s1 => s1 = s.alloc (.row [.bool false, .int .u32 (n : Int)]) ∧ e1 1 = .pointer (some ⟨s.next, 0, none⟩) ∧ e1 3 = .int .i64 3 ∧ e1 4 = .string (strB ((hexL 3 n).drop (3 - i))) ∧ e1 5 = .int .i64 (i : Int)) (fun x e1 s1 => x = .exit 0 ∧ s1 = s.alloc (.row [.bool false, .int .u32 (n : Int)]) ∧ e1 4 = .string (strB (hexL 3 n))) ?_ ⟨rfl, rfl, rfl, by rw [List.drop_eq_nil_of_le (by rw [hexL_len]; omega)]; rfl, rfl⟩ ?_
      · rintro i e1 s1 hi ⟨rfl, h1, h3, h4, h5⟩
        by_cases hil : i < 3
        rotate_left
        · have g1 : ¬ (i : Int) < 3 := by omega
          rw [show 3 - i = 0 by omega, List.drop_zero] at h4
          simp (disch := first | omega | ((simp only [Ab.next_alloc, Ab.next_upd, List.length_cons, List.length_nil, ne_eq, not_true_eq_false, not_false_eq_true]) <;> omega) | decide) only [↓stepPre, stepPost, ↓W_cond, ↓W_block, ↓reduceIte, Nat.reduceEqDiff, Nat.reduceLT, Nat.reduceLeDiff, ret0, stVar, isTup, Value.cells, Nat.le_refl, Nat.reduceAdd, Nat.reduceMul, Nat.reduceSub, env0, binV, intV, reduceCtorEq, pickV, nilCheckV, ptrV, unV, true_and, and_true, Nat.add_zero, Nat.zero_add, Rt, resultsV, allV, resV, Bool.not_true, Bool.not_false, calleeV, builtinV, eqV, fieldAddrV, ldVar, stN_own, stN_ownL, Int.fdiv_eq_ediv_of_nonneg, Int.reduceToNat, Int.reducePow, IntKind.bits, convV, ne_eq, not_false_eq_true, not_true_eq_false, Int.reduceNeg, Int.reduceAdd, Int.reduceSub, Int.reduceLT, Int.reduceLE, extractV, decide_true, decide_false, Int.reduceEq, mkFuncV, stBIdPrintR, beq_self_eq_true, Ty.t24, Tryd.underlying24, Ty.t9, Tryd.underlying9, Ty.t5, Tryd.underlying5, Ty.t22, Tryd.underlying22, Ty.t60, Tryd.underlying60, Ty.t3, Tryd.underlying3, Ty.t4, Tryd.underlying4, getL_take, glBIdPrintR, h1, h3, h4, h5, g1]
        have g1 : (i : Int) < 3 := by omega
        have hd : ((n : Int).fdiv (2 ^ (4 * (i : Int)).toNat)).tmod 16 = ((n / 16 ^ i % 16 : Nat) : Int) := by
          rw [show (4 * (i : Int)).toNat = 4 * i by omega, fdivN, show (2 : Nat) ^ (4 * i) = 16 ^ i from Nat.pow_mul 2 4 _]
          rfl
        have hlt : n / 16 ^ i % 16 < 16 := Nat.mod_lt _ (by omega)
        have hsn : (hexL 3 n).drop (3 - (i + 1)) = hexAt (n / 16 ^ i % 16) :: (hexL 3 n).drop (3 - i) := by
          rw [List.drop_eq_getElem_cons (by rw [hexL_len]; omega), show 3 - (i + 1) + 1 = 3 - i by omega]
          congr 1
          simp only [hexL, List.getElem_map, List.getElem_range]
          rw [show 3 - 1 - (3 - (i + 1)) = i by omega]
        generalize n / 16 ^ i % 16 = d at hd hlt hsn
        have hw : IntKind.u32.wrap ((d : Int) + 1) = (d : Int) + 1 := IntWalk.u32_in _ (by omega)
        have ha := addStrV (l := [hexAt d]) (m := (hexL 3 n).drop (3 - i)) (by rw [List.length_drop, hexL_len]; simp; omega)
        simp (disch := first | omega | ((simp only [Ab.next_alloc, Ab.next_upd, List.length_cons, List.length_nil, ne_eq, not_true_eq_false, not_false_eq_true]) <;> omega) | decide) only [↓stepPre, stepPost, ↓W_cond, ↓W_block, ↓reduceIte, Nat.reduceEqDiff, Nat.reduceLT, Nat.reduceLeDiff, ret0, stVar, isTup, Value.cells, Nat.le_refl, Nat.reduceAdd, Nat.reduceMul, Nat.reduceSub, env0, binV, intV, reduceCtorEq, pickV, nilCheckV, ptrV, unV, true_and, and_true, Nat.add_zero, Nat.zero_add, Rt, resultsV, allV, resV, Bool.not_true, Bool.not_false, calleeV, builtinV, eqV, fieldAddrV, ldVar, stN_own, stN_ownL, Int.fdiv_eq_ediv_of_nonneg, Int.reduceToNat, Int.reducePow, IntKind.bits, convV, ne_eq, not_false_eq_true, not_true_eq_false, Int.reduceNeg, Int.reduceAdd, Int.reduceSub, Int.reduceLT, Int.reduceLE, extractV, decide_true, decide_false, Int.reduceEq, mkFuncV, stBIdPrintR, beq_self_eq_true, Ty.t24, Tryd.underlying24, Ty.t9, Tryd.underlying9, Ty.t5, Tryd.underlying5, Ty.t22, Tryd.underlying22, Ty.t60, Tryd.underlying60, Ty.t3, Tryd.underlying3, Ty.t4, Tryd.underlying4, getL_take, glBIdPrintR, h1, h3, h4, h5, g1, hd, hw, slc_hex (k := .u32) (k' := .u32) hlt, ha]
        exact ⟨by omega, hil, by rw [hsn], congrArg (Value.int .i64) (by omega)⟩
      · rintro x e1 s1 ⟨rfl, rfl, h4⟩
        simp (disch := first | omega | ((simp only [Ab.next_alloc, Ab.next_upd, List.length_cons, List.length_nil, ne_eq, not_true_eq_false, not_false_eq_true]) <;> omega) | decide) only [↓stepPre, stepPost, ↓W_cond, ↓W_block, ↓reduceIte, Nat.reduceEqDiff, Nat.reduceLT, Nat.reduceLeDiff, ret0, stVar, isTup, Value.cells, Nat.le_refl, Nat.reduceAdd, Nat.reduceMul, Nat.reduceSub, env0, binV, intV, reduceCtorEq, pickV, nilCheckV, ptrV, unV, true_and, and_true, Nat.add_zero, Nat.zero_add, Rt, resultsV, allV, resV, Bool.not_true, Bool.not_false, calleeV, builtinV, eqV, fieldAddrV, ldVar, stN_own, stN_ownL, Int.fdiv_eq_ediv_of_nonneg, Int.reduceToNat, Int.reducePow, IntKind.bits, convV, ne_eq, not_false_eq_true, not_true_eq_false, Int.reduceNeg, Int.reduceAdd, Int.reduceSub, Int.reduceLT, Int.reduceLE, extractV, decide_true, decide_false, Int.reduceEq, mkFuncV, stBIdPrintR, beq_self_eq_true, Ty.t24, Tryd.underlying24, Ty.t9, Tryd.underlying9, Ty.t5, Tryd.underlying5, Ty.t22, Tryd.underlying22, Ty.t60, Tryd.underlying60, Ty.t3, Tryd.underlying3, Ty.t4, Tryd.underlying4, getL_take, glBIdPrintR, h4, Tryd.results44]
        exact key
    · simp only [Bool.false_eq_true, if_false, if_true] at key
      simp (disch := first | omega | ((simp only [Ab.next_alloc, Ab.next_upd, List.length_cons, List.length_nil, ne_eq, not_true_eq_false, not_false_eq_true]) <;> omega) | decide) only [↓stepPre, stepPost, ↓W_cond, ↓W_block, ↓reduceIte, Nat.reduceEqDiff, Nat.reduceLT, Nat.reduceLeDiff, ret0, stVar, isTup, Value.cells, Nat.le_refl, Nat.reduceAdd, Nat.reduceMul, Nat.reduceSub, env0, binV, intV, reduceCtorEq, pickV, nilCheckV, ptrV, unV, true_and, and_true, Nat.add_zero, Nat.zero_add, Rt, resultsV, allV, resV, Bool.not_true, Bool.not_false, calleeV, builtinV, eqV, fieldAddrV, ldVar, stN_own, stN_ownL, Int.fdiv_eq_ediv_of_nonneg, Int.reduceToNat, Int.reducePow, IntKind.bits, convV, ne_eq, not_false_eq_true, not_true_eq_false, Int.reduceNeg, Int.reduceAdd, Int.reduceSub, Int.reduceLT, Int.reduceLE, extractV, decide_true, decide_false, Int.reduceEq, mkFuncV, stBIdPrintR, beq_self_eq_true, Ty.t24, Tryd.underlying24, Ty.t9, Tryd.underlying9, Ty.t5, Tryd.underlying5, Ty.t22, Tryd.underlying22, Ty.t60, Tryd.underlying60, Ty.t3, Tryd.underlying3, Ty.t4, Tryd.underlying4, getL_take, glBIdPrintR]
      refine W_loop_inv 8 (fun i e1 s1 => s1 = s.alloc (.row [.bool true, .int .u32 (n : Int)]) ∧ e1 1 = .pointer (some ⟨s.next, 0, none⟩) ∧ e1 3 = .int .i64 8 ∧ e1 4 = .string (strB ((hexL 8 n).drop (8 - i))) ∧ e1 5 = .int .i64 (i : Int)) (fun x e1 s1 => x = .exit 0 ∧ s1 = s.alloc (.row [.bool true, .int .u32 (n : Int)]) ∧ e1 4 = .string (strB (hexL 8 n))) ?_ ⟨rfl, rfl, rfl, by rw [List.drop_eq_nil_of_le (by rw [hexL_len]; omega)]; rfl, rfl⟩ ?_
      · rintro i e1 s1 hi ⟨rfl, h1, h3, h4, h5⟩
        by_cases hil : i < 8
        rotate_left
        · have g1 : ¬ (i : Int) < 8 := by omega
          rw [show 8 - i = 0 by omega, List.drop_zero] at h4
          simp (disch := first | omega | ((simp only [Ab.next_alloc, Ab.next_upd, List.length_cons, List.length_nil, ne_eq, not_true_eq_false, not_false_eq_true]) <;> omega) | decide) only [↓stepPre, stepPost, ↓W_cond, ↓W_block, ↓reduceIte, Nat.reduceEqDiff, Nat.reduceLT, Nat.reduceLeDiff, ret0, stVar, isTup, Value.cells, Nat.le_refl, Nat.reduceAdd, Nat.reduceMul, Nat.reduceSub, env0, binV, intV, reduceCtorEq, pickV, nilCheckV, ptrV, unV, true_and, and_true, Nat.add_zero, Nat.zero_add, Rt, resultsV, allV, resV, Bool.not_true, Bool.not_false, calleeV, builtinV, eqV, fieldAddrV, ldVar, stN_own, stN_ownL, Int.fdiv_eq_ediv_of_nonneg, Int.reduceToNat, Int.reducePow, IntKind.bits, convV, ne_eq, not_false_eq_true, not_true_eq_false, Int.reduceNeg, Int.reduceAdd, Int.reduceSub, Int.reduceLT, Int.reduceLE, extractV, decide_true, decide_false, Int.reduceEq, mkFuncV, stBIdPrintR, beq_self_eq_true, Ty.t24, Tryd.underlying24, Ty.t9, Tryd.underlying9, Ty.t5, Tryd.underlying5, Ty.t22, Tryd.underlying22, Ty.t60, Tryd.underlying60, Ty.t3, Tryd.underlying3, Ty.t4, Tryd.underlying4, getL_take, glBIdPrintR, h1, h3, h4, h5, g1]
        have g1 : (i : Int) < 8 := by omega
        have hd : ((n : Int).fdiv (2 ^ (4 * (i : Int)).toNat)).tmod 16 = ((n / 16 ^ i % 16 : Nat) : Int) := by
          rw [show (4 * (i : Int)).toNat = 4 * i by omega, fdivN, show (2 : Nat) ^ (4 * i) = 16 ^ i from Nat.pow_mul 2 4 _]
          rfl
        have hlt : n / 16 ^ i % 16 < 16 := Nat.mod_lt _ (by omega)
        have hsn : (hexL 8 n).drop (8 - (i + 1)) = hexAt (n / 16 ^ i % 16) :: (hexL 8 n).drop (8 - i) := by
          rw [List.drop_eq_getElem_cons (by rw [hexL_len]; omega), show 8 - (i + 1) + 1 = 8 - i by omega]
          congr 1
          simp only [hexL, List.getElem_map, List.getElem_range]
          rw [show 8 - 1 - (8 - (i + 1)) = i by omega]
        generalize n / 16 ^ i % 16 = d at hd hlt hsn
        have hw : IntKind.u32.wrap ((d : Int) + 1) = (d : Int) + 1 := IntWalk.u32_in _ (by omega)
        have ha := addStrV (l := [hexAt d]) (m := (hexL 8 n).drop (8 - i)) (by rw [List.length_drop, hexL_len]; simp; omega)
        simp (disch := first | omega | ((simp only [Ab.next_alloc, Ab.next_upd, List.length_cons, List.length_nil, ne_eq, not_true_eq_false, not_false_eq_true]) <;> omega) | decide) only [↓stepPre, stepPost, ↓W_cond, ↓W_block, ↓reduceIte, Nat.reduceEqDiff, Nat.reduceLT, Nat.reduceLeDiff, ret0, stVar, isTup, Value.cells, Nat.le_refl, Nat.reduceAdd, Nat.reduceMul, Nat.reduceSub, env0, binV, intV, reduceCtorEq, pickV, nilCheckV, ptrV, unV, true_and, and_true, Nat.add_zero, Nat.zero_add, Rt, resultsV, allV, resV, Bool.not_true, Bool.not_false, calleeV, builtinV, eqV, fieldAddrV, ldVar, stN_own, stN_ownL, Int.fdiv_eq_ediv_of_nonneg, Int.reduceToNat, Int.reducePow, IntKind.bits, convV, ne_eq, not_false_eq_true, not_true_eq_false, Int.reduceNeg, Int.reduceAdd, Int.reduceSub, Int.reduceLT, Int.reduceLE, extractV, decide_true, decide_false, Int.reduceEq, mkFuncV, stBIdPrintR, beq_self_eq_true, Ty.t24, Tryd.underlying24, Ty.t9, Tryd.underlying9, Ty.t5, Tryd.underlying5, Ty.t22, Tryd.underlying22, Ty.t60, Tryd.underlying60, Ty.t3, Tryd.underlying3, Ty.t4, Tryd.underlying4, getL_take, glBIdPrintR, h1, h3, h4, h5, g1, hd, hw, slc_hex (k := .u32) (k' := .u32) hlt, ha]
        exact ⟨by omega, hil, by rw [hsn], congrArg (Value.int .i64) (by omega)⟩
      · rintro x e1 s1 ⟨rfl, rfl, h4⟩
        simp (disch := first | omega | ((simp only [Ab.next_alloc, Ab.next_upd, List.length_cons, List.length_nil, ne_eq, not_true_eq_false, not_false_eq_true]) <;> omega) | decide) only [↓stepPre, stepPost, ↓W_cond, ↓W_block, ↓reduceIte, Nat.reduceEqDiff, Nat.reduceLT, Nat.reduceLeDiff, ret0, stVar, isTup, Value.cells, Nat.le_refl, Nat.reduceAdd, Nat.reduceMul, Nat.reduceSub, env0, binV, intV, reduceCtorEq, pickV, nilCheckV, ptrV, unV, true_and, and_true, Nat.add_zero, Nat.zero_add, Rt, resultsV, allV, resV, Bool.not_true, Bool.not_false, calleeV, builtinV, eqV, fieldAddrV, ldVar, stN_own, stN_ownL, Int.fdiv_eq_ediv_of_nonneg, Int.reduceToNat, Int.reducePow, IntKind.bits, convV, ne_eq, not_false_eq_true, not_true_eq_false, Int.reduceNeg, Int.reduceAdd, Int.reduceSub, Int.reduceLT, Int.reduceLE, extractV, decide_true, decide_false, Int.reduceEq, mkFuncV, stBIdPrintR, beq_self_eq_true, Ty.t24, Tryd.underlying24, Ty.t9, Tryd.underlying9, Ty.t5, Tryd.underlying5, Ty.t22, Tryd.underlying22, Ty.t60, Tryd.underlying60, Ty.t3, Tryd.underlying3, Ty.t4, Tryd.underlying4, getL_take, glBIdPrintR, h4, Tryd.results44]
        exact key
end Go.Proofs.YtdhmjnpaoacpfaaDoor
