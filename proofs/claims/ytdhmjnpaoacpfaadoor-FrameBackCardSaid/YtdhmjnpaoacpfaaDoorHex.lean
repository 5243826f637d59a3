/- Digits, and identifiers as texts: as contracts. -/
import Derived.Test.YtdhmjnpaoacpfaaDoorTypes
import Derived.Test.YtdhmjnpaoacpfaaDoorRow0
import Derived.Test.YtdhmjnpaoacpfaaDoorAbC
import Derived.Test.YtdhmjnpaoacpfaaDoorPure
import Derived.Test.YtdhmjnpaoacpfaaDoorStr
set_option linter.all false
set_option maxRecDepth 20000
namespace Go.Proofs.YtdhmjnpaoacpfaaDoor
open Go Go.Ab
def stBHex := And.intro @List.size_toArray.{0} (And.intro @List.length_cons.{0} (And.intro @List.length_nil.{0} (And.intro @List.set_cons_zero.{0} (And.intro @List.set_cons_succ.{0} (And.intro @List.getD_cons_zero.{0} (And.intro @List.getD_cons_succ.{0} (And.intro @List.getElem?_cons_succ.{0} (And.intro @List.getElem?_cons_zero.{0} (And.intro @List.map_cons.{0,0} (And.intro @List.map_nil.{0,0} (And.intro @Option.isNone_none.{0} (And.intro @Option.isNone_some.{0} (And.intro @Option.map_some.{0,0} (And.intro @Option.map_none.{0,0} (And.intro @List.cons_append.{0} (And.intro @List.nil_append.{0} (And.intro @List.append_nil.{0} (And.intro @Array.toList_append.{0} (And.intro @List.toList_toArray.{0} (And.intro @Int.cast_ofNat_Int (And.intro @Option.isSome_some.{0} (And.intro @List.getElem?_toArray.{0} (And.intro @List.map_toArray.{0,0} (@Nat.min_eq_left))))))))))))))))))))))))
variable {base : Nat} [Bok base] {s : St} {R : Value → St → Prop}
def hexD : List UInt8 := [48, 49, 50, 51, 52, 53, 54, 55, 56, 57, 97, 98, 99, 100, 101, 102]
def hexAt (d : Nat) : UInt8 := hexD.getD d 0
def digI (c : Nat) : Int := if 48 ≤ c ∧ c ≤ 57 then (c : Int) - 48 else if 97 ≤ c ∧ c ≤ 102 then (c : Int) - 87 else -1
theorem digI_in (c : Nat) : -1 ≤ digI c ∧ digI c < 16 := by unfold digI; split <;> (try split) <;> omega
theorem hexAt_num {i : Nat} (h : i < 16) : (hexAt i).toNat = if i < 10 then 48 + i else 87 + i := by
  have : ∀ i : Fin 16, (hexAt i.val).toNat = if i.val < 10 then 48 + i.val else 87 + i.val := by decide
  exact this ⟨i, h⟩
theorem dec_hex {i : Nat} (h : i < 16) : Utf8.decode (strB hexD) i = ((hexAt i).toNat, 1) := by
  have : ∀ i : Fin 16, Utf8.decode (strB hexD) i.val = ((hexAt i.val).toNat, 1) := by decide +kernel
  exact this ⟨i, h⟩
theorem digit_ok {c : Nat} (hc : c < 256) (hbn : base ≤ s.next) (hR : ∀ s', Mild s s' → R (.int .i64 (digI c)) s') : WC Tryd.prog base 60 [.int .u8 (c : Int)] s R := by
  refine WC_open Tryd.func60 rfl ?_
  simp (disch := first | omega | ((simp only [Ab.next_alloc, Ab.next_upd, List.length_cons, List.length_nil, ne_eq, not_true_eq_false, not_false_eq_true]) <;> omega) | decide) only [↓stepPre, stepPost, ↓W_cond, ↓W_block, ↓reduceIte, Nat.reduceEqDiff, Nat.reduceLT, Nat.reduceLeDiff, ret0, stVar, isTup, Value.cells, Nat.le_refl, Nat.reduceAdd, Nat.reduceMul, Nat.reduceSub, env0, binV, intV, reduceCtorEq, pickV, nilCheckV, ptrV, unV, true_and, and_true, Nat.add_zero, Nat.zero_add, Rt, resultsV, allV, resV, Bool.not_true, Bool.not_false, calleeV, builtinV, eqV, fieldAddrV, ldVar, stN_own, stN_ownL, Int.fdiv_eq_ediv_of_nonneg, Int.reduceToNat, Int.reducePow, IntKind.bits, convV, ne_eq, not_false_eq_true, not_true_eq_false, Int.reduceNeg, Int.reduceAdd, Int.reduceSub, Int.reduceLT, Int.reduceLE, extractV, decide_true, decide_false, Int.reduceEq, mkFuncV, stBHex, beq_self_eq_true, Ty.t24, Tryd.underlying24, Ty.t9, Tryd.underlying9, Ty.t5, Tryd.underlying5, Ty.t21, Tryd.underlying21, Ty.t22, Tryd.underlying22, Ty.t60, Tryd.underlying60, Ty.t3, Tryd.underlying3, Ty.t4, Tryd.underlying4, rangeV]
  refine W_loop_ind 16 (fun i e s1 => Mild s s1 ∧ s1.heap s.next = .iter (strB hexD) i ∧ s.next < s1.next ∧ e 0 = .int .u8 (c : Int) ∧ e 5 = .pointer (some ⟨s.next, 0, none⟩) ∧ ∀ j, j < i → (hexAt j).toNat ≠ c) ?_ ⟨.alloc _ _, Ab.heap_alloc_new _ _, by simp only [Ab.next_alloc]; omega, rfl, rfl, fun j hj => by omega⟩
  rintro i e s1 hi ⟨hm, hh, hlt, h0, h5, hq⟩
  have hsz : (strB hexD).size = 16 := rfl
  by_cases hil : i < 16
  rotate_left
  · have hnx : nextV base s1 (.pointer (some ⟨s.next, 0, none⟩)) true = some (.tuple #[.bool false], s1) := by
      simp only [nextV, hh, hsz, hil, if_false, hbn, and_self, if_true]
    simp (disch := first | omega | ((simp only [Ab.next_alloc, Ab.next_upd, List.length_cons, List.length_nil, ne_eq, not_true_eq_false, not_false_eq_true]) <;> omega) | decide) only [↓stepPre, stepPost, ↓W_cond, ↓W_block, ↓reduceIte, Nat.reduceEqDiff, Nat.reduceLT, Nat.reduceLeDiff, ret0, stVar, isTup, Value.cells, Nat.le_refl, Nat.reduceAdd, Nat.reduceMul, Nat.reduceSub, env0, binV, intV, reduceCtorEq, pickV, nilCheckV, ptrV, unV, true_and, and_true, Nat.add_zero, Nat.zero_add, Rt, resultsV, allV, resV, Bool.not_true, Bool.not_false, calleeV, builtinV, eqV, fieldAddrV, ldVar, stN_own, stN_ownL, Int.fdiv_eq_ediv_of_nonneg, Int.reduceToNat, Int.reducePow, IntKind.bits, convV, ne_eq, not_false_eq_true, not_true_eq_false, Int.reduceNeg, Int.reduceAdd, Int.reduceSub, Int.reduceLT, Int.reduceLE, extractV, decide_true, decide_false, Int.reduceEq, mkFuncV, stBHex, beq_self_eq_true, Ty.t24, Tryd.underlying24, Ty.t9, Tryd.underlying9, Ty.t5, Tryd.underlying5, Ty.t21, Tryd.underlying21, Ty.t22, Tryd.underlying22, Ty.t60, Tryd.underlying60, Ty.t3, Tryd.underlying3, Ty.t4, Tryd.underlying4, h0, h5, hnx, Tryd.results60]
    have hi16 : i = 16 := by omega
    have hno : digI c = -1 := by
      unfold digI
      split
      · rename_i h
        refine absurd ?_ (hq (c - 48) (by omega))
        rw [hexAt_num (by omega)]; split <;> omega
      · split
        · rename_i h
          refine absurd ?_ (hq (c - 87) (by omega))
          rw [hexAt_num (by omega)]; split <;> omega
        · rfl
    rw [← hno]
    exact hR _ hm
  have hd := dec_hex hil
  have hn := hexAt_num hil
  have hnx : nextV base s1 (.pointer (some ⟨s.next, 0, none⟩)) true = some (.tuple #[.bool true, .int .i64 (i : Int), .int .i32 ((hexAt i).toNat : Nat)], s1.upd s.next (.iter (strB hexD) (i + 1))) := by
    simp only [nextV, hh, hsz, hil, if_true, hbn, and_self, hd]
  have h8 : (hexAt i).toNat < 256 := (hexAt i).toNat_lt
  by_cases he : (hexAt i).toNat = c
  · simp (disch := first | omega | ((simp only [Ab.next_alloc, Ab.next_upd, List.length_cons, List.length_nil, ne_eq, not_true_eq_false, not_false_eq_true]) <;> omega) | decide) only [↓stepPre, stepPost, ↓W_cond, ↓W_block, ↓reduceIte, Nat.reduceEqDiff, Nat.reduceLT, Nat.reduceLeDiff, ret0, stVar, isTup, Value.cells, Nat.le_refl, Nat.reduceAdd, Nat.reduceMul, Nat.reduceSub, env0, binV, intV, reduceCtorEq, pickV, nilCheckV, ptrV, unV, true_and, and_true, Nat.add_zero, Nat.zero_add, Rt, resultsV, allV, resV, Bool.not_true, Bool.not_false, calleeV, builtinV, eqV, fieldAddrV, ldVar, stN_own, stN_ownL, Int.fdiv_eq_ediv_of_nonneg, Int.reduceToNat, Int.reducePow, IntKind.bits, convV, ne_eq, not_false_eq_true, not_true_eq_false, Int.reduceNeg, Int.reduceAdd, Int.reduceSub, Int.reduceLT, Int.reduceLE, extractV, decide_true, decide_false, Int.reduceEq, mkFuncV, stBHex, beq_self_eq_true, Ty.t24, Tryd.underlying24, Ty.t9, Tryd.underlying9, Ty.t5, Tryd.underlying5, Ty.t21, Tryd.underlying21, Ty.t22, Tryd.underlying22, Ty.t60, Tryd.underlying60, Ty.t3, Tryd.underlying3, Ty.t4, Tryd.underlying4, h0, h5, hnx, he, eq_self, Tryd.results60]
    have hdi : digI c = i := by
      unfold digI
      rw [← he, hn]
      by_cases h10 : i < 10
      · simp only [h10, if_true]; split <;> omega
      · simp only [h10, if_false]; split <;> (try split) <;> omega
    rw [← hdi]
    exact hR _ (hm.upd' (Nat.le_refl _))
  · have hei : ¬ ((hexAt i).toNat : Int) = (c : Int) := by omega
    simp (disch := first | omega | ((simp only [Ab.next_alloc, Ab.next_upd, List.length_cons, List.length_nil, ne_eq, not_true_eq_false, not_false_eq_true]) <;> omega) | decide) only [↓stepPre, stepPost, ↓W_cond, ↓W_block, ↓reduceIte, Nat.reduceEqDiff, Nat.reduceLT, Nat.reduceLeDiff, ret0, stVar, isTup, Value.cells, Nat.le_refl, Nat.reduceAdd, Nat.reduceMul, Nat.reduceSub, env0, binV, intV, reduceCtorEq, pickV, nilCheckV, ptrV, unV, true_and, and_true, Nat.add_zero, Nat.zero_add, Rt, resultsV, allV, resV, Bool.not_true, Bool.not_false, calleeV, builtinV, eqV, fieldAddrV, ldVar, stN_own, stN_ownL, Int.fdiv_eq_ediv_of_nonneg, Int.reduceToNat, Int.reducePow, IntKind.bits, convV, ne_eq, not_false_eq_true, not_true_eq_false, Int.reduceNeg, Int.reduceAdd, Int.reduceSub, Int.reduceLT, Int.reduceLE, extractV, decide_true, decide_false, Int.reduceEq, mkFuncV, stBHex, beq_self_eq_true, Ty.t24, Tryd.underlying24, Ty.t9, Tryd.underlying9, Ty.t5, Tryd.underlying5, Ty.t21, Tryd.underlying21, Ty.t22, Tryd.underlying22, Ty.t60, Tryd.underlying60, Ty.t3, Tryd.underlying3, Ty.t4, Tryd.underlying4, h0, h5, hnx, hei]
    refine ⟨hil, hm.upd' (Nat.le_refl _), hlt, fun j hj => ?_⟩
    by_cases hji : j = i
    · rw [hji]; exact he
    · exact hq j (by omega)
end Go.Proofs.YtdhmjnpaoacpfaaDoor
