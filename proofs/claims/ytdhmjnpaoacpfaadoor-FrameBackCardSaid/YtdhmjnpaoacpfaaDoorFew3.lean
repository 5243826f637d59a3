/- Few bits of many; and a body's reading as a frame, two numbers. -/
import Derived.Test.YtdhmjnpaoacpfaaDoorTypes
import Derived.Test.YtdhmjnpaoacpfaaDoorRow0
import Derived.Test.YtdhmjnpaoacpfaaDoorAbC
import Derived.Test.YtdhmjnpaoacpfaaDoorBits
import Derived.Test.YtdhmjnpaoacpfaaDoorPack
import Derived.Test.YtdhmjnpaoacpfaaDoorRight
import Derived.Test.YtdhmjnpaoacpfaaDoorFrameRef
set_option linter.all false
set_option maxRecDepth 20000
namespace Go.Proofs.YtdhmjnpaoacpfaaDoor
open Go Go.Ab
variable {base : Nat} {s : St} {R : Value → St → Prop}
theorem few3_ok {v : Value} {xs : List Nat} (hs : Sl base s 1 v (bL xs)) (hn : xs.length ≤ 2 ^ 63 - 1) (hR : ∀ v', Sl base s 1 v' (bL (xs.take 200)) → R v' s) : WC Tryd.prog base 18 [v] s R := by
  refine WC_open Tryd.func18 rfl ?_
  simp (disch := first | omega | ((simp only [Ab.next_alloc, Ab.next_upd, List.length_cons, List.length_nil, ne_eq, not_true_eq_false, not_false_eq_true]) <;> omega) | decide) only [↓stepPre, stepPost, ↓W_cond, ↓W_block, ↓reduceIte, Nat.reduceEqDiff, Nat.reduceLT, Nat.reduceLeDiff, List.size_toArray, List.length_cons, List.length_nil, ret0, stVar, isTup, Value.cells, List.set_cons_zero, List.set_cons_succ, Nat.le_refl, Nat.reduceAdd, Nat.reduceMul, Nat.reduceSub, env0, List.getD_cons_zero, List.getD_cons_succ, binV, intV, reduceCtorEq, List.getElem?_cons_succ, List.getElem?_cons_zero, pickV, nilCheckV, ptrV, unV, true_and, and_true, List.map_cons, List.map_nil, Nat.add_zero, Nat.zero_add, Option.isNone_none, Option.isNone_some, Rt, resultsV, allV, resV, Bool.not_true, Bool.not_false, calleeV, builtinV, Option.map_some, Option.map_none, List.cons_append, List.nil_append, List.append_nil, Array.toList_append, List.toList_toArray, eqV, fieldAddrV, ldVar, stN_own, stN_ownL, Int.cast_ofNat_Int, Int.fdiv_eq_ediv_of_nonneg, Int.reduceToNat, Nat.min_eq_left, Int.reducePow, IntKind.bits, convV, ne_eq, not_false_eq_true, not_true_eq_false, Int.reduceNeg, Int.reduceAdd, Int.reduceSub, Int.reduceLT, Int.reduceLE, Option.isSome_some, extractV, decide_true, decide_false, Int.reduceEq, List.getElem?_toArray, mkFuncV, List.map_toArray, beq_self_eq_true, Ty.t3, Tryd.underlying3, Ty.t4, Tryd.underlying4, Ty.t5, Tryd.underlying5, Ty.t34, Tryd.underlying34, hs.len Ty.elem34 Ty.arr34, bL_len]
  refine Wif_dec (fun h => ?_) (fun h => ?_)
  · obtain ⟨v', q3, q4⟩ := Sl.upTo hs (k := 200) (by omega)
    have q3' : sliceV Tryd.prog s 34 v none (some (.int .i64 200)) none = some v' := q3
    simp (disch := first | omega | ((simp only [Ab.next_alloc, Ab.next_upd, List.length_cons, List.length_nil, ne_eq, not_true_eq_false, not_false_eq_true]) <;> omega) | decide) only [↓stepPre, stepPost, ↓W_cond, ↓W_block, ↓reduceIte, Nat.reduceEqDiff, Nat.reduceLT, Nat.reduceLeDiff, List.size_toArray, List.length_cons, List.length_nil, ret0, stVar, isTup, Value.cells, List.set_cons_zero, List.set_cons_succ, Nat.le_refl, Nat.reduceAdd, Nat.reduceMul, Nat.reduceSub, env0, List.getD_cons_zero, List.getD_cons_succ, binV, intV, reduceCtorEq, List.getElem?_cons_succ, List.getElem?_cons_zero, pickV, nilCheckV, ptrV, unV, true_and, and_true, List.map_cons, List.map_nil, Nat.add_zero, Nat.zero_add, Option.isNone_none, Option.isNone_some, Rt, resultsV, allV, resV, Bool.not_true, Bool.not_false, calleeV, builtinV, Option.map_some, Option.map_none, List.cons_append, List.nil_append, List.append_nil, Array.toList_append, List.toList_toArray, eqV, fieldAddrV, ldVar, stN_own, stN_ownL, Int.cast_ofNat_Int, Int.fdiv_eq_ediv_of_nonneg, Int.reduceToNat, Nat.min_eq_left, Int.reducePow, IntKind.bits, convV, ne_eq, not_false_eq_true, not_true_eq_false, Int.reduceNeg, Int.reduceAdd, Int.reduceSub, Int.reduceLT, Int.reduceLE, Option.isSome_some, extractV, decide_true, decide_false, Int.reduceEq, List.getElem?_toArray, mkFuncV, List.map_toArray, beq_self_eq_true, Ty.t3, Tryd.underlying3, Ty.t4, Tryd.underlying4, Ty.t5, Tryd.underlying5, Ty.t34, Tryd.underlying34, q3', Tryd.results18]
    exact hR v' q4
  · simp (disch := first | omega | ((simp only [Ab.next_alloc, Ab.next_upd, List.length_cons, List.length_nil, ne_eq, not_true_eq_false, not_false_eq_true]) <;> omega) | decide) only [↓stepPre, stepPost, ↓W_cond, ↓W_block, ↓reduceIte, Nat.reduceEqDiff, Nat.reduceLT, Nat.reduceLeDiff, List.size_toArray, List.length_cons, List.length_nil, ret0, stVar, isTup, Value.cells, List.set_cons_zero, List.set_cons_succ, Nat.le_refl, Nat.reduceAdd, Nat.reduceMul, Nat.reduceSub, env0, List.getD_cons_zero, List.getD_cons_succ, binV, intV, reduceCtorEq, List.getElem?_cons_succ, List.getElem?_cons_zero, pickV, nilCheckV, ptrV, unV, true_and, and_true, List.map_cons, List.map_nil, Nat.add_zero, Nat.zero_add, Option.isNone_none, Option.isNone_some, Rt, resultsV, allV, resV, Bool.not_true, Bool.not_false, calleeV, builtinV, Option.map_some, Option.map_none, List.cons_append, List.nil_append, List.append_nil, Array.toList_append, List.toList_toArray, eqV, fieldAddrV, ldVar, stN_own, stN_ownL, Int.cast_ofNat_Int, Int.fdiv_eq_ediv_of_nonneg, Int.reduceToNat, Nat.min_eq_left, Int.reducePow, IntKind.bits, convV, ne_eq, not_false_eq_true, not_true_eq_false, Int.reduceNeg, Int.reduceAdd, Int.reduceSub, Int.reduceLT, Int.reduceLE, Option.isSome_some, extractV, decide_true, decide_false, Int.reduceEq, List.getElem?_toArray, mkFuncV, List.map_toArray, beq_self_eq_true, Tryd.results18]
    refine hR v ?_
    rw [List.take_of_length_le (by omega)]; exact hs
theorem parV_is (xs : List Nat) : ∃ e n r l ds k er, parV xs = .tuple #[frV e n r l ds, .int .i64 k, .int .i64 er] ∧ ds.length = 8 ∧ er = errN xs := by
  unfold parV
  split
  · rename_i h
    refine ⟨_, _, _, _, _, _, _, rfl, ?_, h.symm⟩
    unfold errN at h
    split at h
    · omega
    split at h
    · omega
    rename_i h2
    unfold datN
    split
    · simp
    · rename_i hrm
      have hrm' : remB xs = false := by simpa using hrm
      have := lenN_le xs
      have hpl : (pkYs (segD xs) (segD xs).length).length = lenN xs := by rw [pkYs_len, segD_len hrm' (by omega)]; omega
      simp [hpl]; omega
  · exact ⟨false, 0, false, 0, [0, 0, 0, 0, 0, 0, 0, 0], 0, errN xs, rfl, rfl, rfl⟩
end Go.Proofs.YtdhmjnpaoacpfaaDoor
