/- The law ScriptBack, as a run of the abstract machine. -/
import Derived.Test.YthjpfllmecpliaaDoorTypes
import Derived.Test.YthjpfllmecpliaaDoorRow0
import Derived.Test.YthjpfllmecpliaaDoorAbC
import Derived.Test.YthjpfllmecpliaaDoorPure
import Derived.Test.YthjpfllmecpliaaDoorBoxes
import Derived.Test.YthjpfllmecpliaaDoorLaid0
import Derived.Test.YthjpfllmecpliaaDoorScrArg
import Derived.Test.YthjpfllmecpliaaDoorScrLive
import Derived.Test.YthjpfllmecpliaaDoorScrSameA
import Derived.Test.YthjpfllmecpliaaDoorScrBackC
set_option linter.all false
set_option maxRecDepth 20000
namespace Go.Proofs.YthjpfllmecpliaaDoor
open Go Go.Ab
def tyB0LawBack := And.intro @Ty.t9 (And.intro @Tryd.underlying9 (And.intro @Ty.t55 (And.intro @Tryd.underlying55 (And.intro @Ty.t22 (And.intro @Tryd.underlying22 (And.intro @Ty.t45 (And.intro @Tryd.underlying45 (And.intro @Ty.t27 (And.intro @Tryd.underlying27 (And.intro @Ty.t26 (And.intro @Tryd.underlying26 (And.intro @Ty.t33 (And.intro @Tryd.underlying33 (And.intro @Ty.t3 (And.intro @Tryd.underlying3 (And.intro @Ty.t2 (And.intro @Tryd.underlying2 (And.intro @Ty.t4 (And.intro @Tryd.underlying4 (And.intro @Ty.t29 @Tryd.underlying29))))))))))))))))))))
def stBLawBack := And.intro @List.size_toArray.{0} (And.intro @List.length_cons.{0} (And.intro @List.length_nil.{0} (And.intro @List.set_cons_zero.{0} (And.intro @List.set_cons_succ.{0} (And.intro @List.getD_cons_zero.{0} (And.intro @List.getD_cons_succ.{0} (And.intro @List.getElem?_cons_succ.{0} (And.intro @List.getElem?_cons_zero.{0} (And.intro @List.map_cons.{0,0} (And.intro @List.map_nil.{0,0} (And.intro @Option.isNone_none.{0} (And.intro @Option.isNone_some.{0} (And.intro @Option.map_some.{0,0} (And.intro @Option.map_none.{0,0} (And.intro @List.cons_append.{0} (And.intro @List.nil_append.{0} (And.intro @List.append_nil.{0} (And.intro @Array.toList_append.{0} (And.intro @List.toList_toArray.{0} (And.intro @Int.cast_ofNat_Int (And.intro @Option.isSome_some.{0} (And.intro @List.getElem?_toArray.{0} (And.intro @List.map_toArray.{0,0} (@Nat.min_eq_left))))))))))))))))))))))))
def glBLawBack := And.intro @List.drop_zero.{0} (And.intro @List.drop_succ_cons.{0} (And.intro @List.take_succ_cons.{0} (And.intro @List.take_zero.{0} (@List.take_nil.{0}))))
theorem laid_ok {W : World} (hs : W.ShapedOpen Tryd.prog) (h : laidMetH Tryd.prog laidVars W) : LaidOk W.heap.size (St0 W) := by
  obtain ⟨⟨u, a1, a2, a3⟩, ⟨v, b1, b2, b3⟩⟩ := of_laid h
  exact ⟨⟨u, a1, a2, a3⟩, ⟨v, b1, b2, b3⟩, (of_shaped hs).2⟩
theorem printT_len {p : Pl} {l : List Ac} (hx : p.xs.length ≤ 64) (hl : l.length ≤ 100) (hg : ∀ a ∈ l, a.good) (h : printE p l = 0) : (printT p l).length ≤ 131072 := by
  obtain ⟨h1, -, -⟩ := printE_on h
  have hfi := plChk_fine h1
  rw [printT, if_pos h]
  have := lfT_len (allL p l) fun x hx => by
    unfold allL at hx
    rcases List.mem_append.1 hx with hx | hx
    · rcases List.mem_append.1 hx with hx | hx
      · exact row6_len hfi x hx
      · obtain ⟨y, hy, rfl⟩ := List.mem_map.1 hx; exact streamL_len (hfi.fine y hy)
    · obtain ⟨y, hy, rfl⟩ := List.mem_map.1 hx; exact line_len (hg y hy)
  have hc : (allL p l).length = 6 + p.xs.length + l.length := by unfold allL; simp [row6]; omega
  omega
theorem scriptBack_law (W : World) (args : List Value) (hshape : W.ShapedOpen Tryd.prog) (hlaid : laidMetH Tryd.prog laidVars W) (ha : ArgsR Tryd.prog W Tryd.f3.params.toList args) : WC Tryd.prog W.heap.size 3 args (St0 W) (fun v _ => v = .bool true) := by
  have hL := laid_ok hshape hlaid
  have hB : Bok W.heap.size := ⟨(of_shaped hshape).1⟩
  obtain ⟨v0, _, rfl, a1, ha⟩ := args_cons (show ArgsR Tryd.prog W [26, 27, 9] args from ha)
  obtain ⟨u, _, rfl, a2, ha⟩ := args_cons ha
  obtain ⟨v3, _, rfl, a3, ha⟩ := args_cons ha
  obtain rfl := args_nil ha
  obtain ⟨p, v, rfl, hs, hnx, hnm⟩ := plant_arg a1
  obtain ⟨l, hu, hnl, hg⟩ := acts_arg a2
  obtain ⟨x, rfl⟩ := str38_arg a3
  have hnxt : (St0 W).next = W.heap.size := rfl
  clear a1 a2 a3 hlaid hshape
  generalize St0 W = s at hL hs hu hnxt
  refine WC_open Tryd.func3 rfl ?_
  have m0 := Mild.alloc s (.row (p.c v))
  have c0 := Ab.heap_alloc_new s (.row (p.c v))
  have n0 := Ab.next_alloc s (.row (p.c v))
  have hlv := hs.len (P := Tryd.prog) (ts := []) Ty.elem22 Ty.arr22
  have hlu := hu.len (P := Tryd.prog) (ts := []) Ty.elem27 Ty.arr27
  have hlx : lenB Tryd.prog [9] [.string (strB x)] = some (.int .i64 (x.length : Int)) := lenStr Ty.str9 Ty.arr9
  have hF0 := eqV_same (P := Tryd.prog) (t := 33) (l := [.int .i64 0, .int .i64 0]) Ty.kd33 Ty.eqg33 Ty.agg33 rfl
  rw [smL_len] at hlv
  rw [acL_len] at hlu
  simp (disch := first | omega | ((simp only [Ab.next_alloc, Ab.next_upd, List.length_cons, List.length_nil, ne_eq, not_true_eq_false, not_false_eq_true]) <;> omega) | decide) only [↓stepPre, stepPost, ↓W_cond, ↓W_block, ↓reduceIte, Nat.reduceEqDiff, Nat.reduceLT, Nat.reduceLeDiff, ret0, stVar, isTup, Value.cells, Nat.le_refl, Nat.reduceAdd, Nat.reduceMul, Nat.reduceSub, env0, binV, intV, reduceCtorEq, pickV, nilCheckV, ptrV, unV, true_and, and_true, Nat.add_zero, Nat.zero_add, Rt, resultsV, allV, resV, Bool.not_true, Bool.not_false, calleeV, builtinV, eqV, fieldAddrV, ldVar, stN_own, stN_ownL, Int.fdiv_eq_ediv_of_nonneg, Int.reduceToNat, Int.reducePow, IntKind.bits, convV, ne_eq, not_false_eq_true, not_true_eq_false, Int.reduceNeg, Int.reduceAdd, Int.reduceSub, Int.reduceLT, Int.reduceLE, extractV, decide_true, decide_false, Int.reduceEq, mkFuncV, stBLawBack, beq_self_eq_true, tyB0LawBack, getL_take, glBLawBack]
  generalize s.alloc (.row (p.c v)) = s1 at m0 c0 n0 ⊢
  by_cases hA : 100 < l.length
  · have g1 : (l.length : Int) > 100 := by omega
    have g1' : 100 < (l.length : Int) := by omega
    simp (disch := first | omega | ((simp only [Ab.next_alloc, Ab.next_upd, List.length_cons, List.length_nil, ne_eq, not_true_eq_false, not_false_eq_true]) <;> omega) | decide) only [↓stepPre, stepPost, ↓W_cond, ↓W_block, ↓reduceIte, Nat.reduceEqDiff, Nat.reduceLT, Nat.reduceLeDiff, ret0, stVar, isTup, Value.cells, Nat.le_refl, Nat.reduceAdd, Nat.reduceMul, Nat.reduceSub, env0, binV, intV, reduceCtorEq, pickV, nilCheckV, ptrV, unV, true_and, and_true, Nat.add_zero, Nat.zero_add, Rt, resultsV, allV, resV, Bool.not_true, Bool.not_false, calleeV, builtinV, eqV, fieldAddrV, ldVar, stN_own, stN_ownL, Int.fdiv_eq_ediv_of_nonneg, Int.reduceToNat, Int.reducePow, IntKind.bits, convV, ne_eq, not_false_eq_true, not_true_eq_false, Int.reduceNeg, Int.reduceAdd, Int.reduceSub, Int.reduceLT, Int.reduceLE, extractV, decide_true, decide_false, Int.reduceEq, mkFuncV, stBLawBack, beq_self_eq_true, tyB0LawBack, getL_take, glBLawBack, hlu, g1, g1']
    refine live38_ok (hL.mild m0 (by omega)) (by omega) fun t3 M3 => ?_
    simp (disch := first | omega | ((simp only [Ab.next_alloc, Ab.next_upd, List.length_cons, List.length_nil, ne_eq, not_true_eq_false, not_false_eq_true]) <;> omega) | decide) only [↓stepPre, stepPost, ↓W_cond, ↓W_block, ↓reduceIte, Nat.reduceEqDiff, Nat.reduceLT, Nat.reduceLeDiff, ret0, stVar, isTup, Value.cells, Nat.le_refl, Nat.reduceAdd, Nat.reduceMul, Nat.reduceSub, env0, binV, intV, reduceCtorEq, pickV, nilCheckV, ptrV, unV, true_and, and_true, Nat.add_zero, Nat.zero_add, Rt, resultsV, allV, resV, Bool.not_true, Bool.not_false, calleeV, builtinV, eqV, fieldAddrV, ldVar, stN_own, stN_ownL, Int.fdiv_eq_ediv_of_nonneg, Int.reduceToNat, Int.reducePow, IntKind.bits, convV, ne_eq, not_false_eq_true, not_true_eq_false, Int.reduceNeg, Int.reduceAdd, Int.reduceSub, Int.reduceLT, Int.reduceLE, extractV, decide_true, decide_false, Int.reduceEq, mkFuncV, stBLawBack, beq_self_eq_true, tyB0LawBack, getL_take, glBLawBack, Tryd.results3]
  have g1 : ¬ (l.length : Int) > 100 := by omega
  have g1' : ¬ 100 < (l.length : Int) := by omega
  by_cases hC : 12 < p.xs.length
  · have g3 : (p.xs.length : Int) > 12 := by omega
    have g3' : 12 < (p.xs.length : Int) := by omega
    simp (disch := first | omega | ((simp only [Ab.next_alloc, Ab.next_upd, List.length_cons, List.length_nil, ne_eq, not_true_eq_false, not_false_eq_true]) <;> omega) | decide) only [↓stepPre, stepPost, ↓W_cond, ↓W_block, ↓reduceIte, Nat.reduceEqDiff, Nat.reduceLT, Nat.reduceLeDiff, ret0, stVar, isTup, Value.cells, Nat.le_refl, Nat.reduceAdd, Nat.reduceMul, Nat.reduceSub, env0, binV, intV, reduceCtorEq, pickV, nilCheckV, ptrV, unV, true_and, and_true, Nat.add_zero, Nat.zero_add, Rt, resultsV, allV, resV, Bool.not_true, Bool.not_false, calleeV, builtinV, eqV, fieldAddrV, ldVar, stN_own, stN_ownL, Int.fdiv_eq_ediv_of_nonneg, Int.reduceToNat, Int.reducePow, IntKind.bits, convV, ne_eq, not_false_eq_true, not_true_eq_false, Int.reduceNeg, Int.reduceAdd, Int.reduceSub, Int.reduceLT, Int.reduceLE, extractV, decide_true, decide_false, Int.reduceEq, mkFuncV, stBLawBack, beq_self_eq_true, tyB0LawBack, getL_take, glBLawBack, hlu, hlv, c0, g1, g1', g3, g3']
    refine live38_ok (hL.mild m0 (by omega)) (by omega) fun t3 M3 => ?_
    simp (disch := first | omega | ((simp only [Ab.next_alloc, Ab.next_upd, List.length_cons, List.length_nil, ne_eq, not_true_eq_false, not_false_eq_true]) <;> omega) | decide) only [↓stepPre, stepPost, ↓W_cond, ↓W_block, ↓reduceIte, Nat.reduceEqDiff, Nat.reduceLT, Nat.reduceLeDiff, ret0, stVar, isTup, Value.cells, Nat.le_refl, Nat.reduceAdd, Nat.reduceMul, Nat.reduceSub, env0, binV, intV, reduceCtorEq, pickV, nilCheckV, ptrV, unV, true_and, and_true, Nat.add_zero, Nat.zero_add, Rt, resultsV, allV, resV, Bool.not_true, Bool.not_false, calleeV, builtinV, eqV, fieldAddrV, ldVar, stN_own, stN_ownL, Int.fdiv_eq_ediv_of_nonneg, Int.reduceToNat, Int.reducePow, IntKind.bits, convV, ne_eq, not_false_eq_true, not_true_eq_false, Int.reduceNeg, Int.reduceAdd, Int.reduceSub, Int.reduceLT, Int.reduceLE, extractV, decide_true, decide_false, Int.reduceEq, mkFuncV, stBLawBack, beq_self_eq_true, tyB0LawBack, getL_take, glBLawBack, Tryd.results3]
  have g3 : ¬ (p.xs.length : Int) > 12 := by omega
  have g3' : ¬ 12 < (p.xs.length : Int) := by omega
  by_cases hD : 3000 < x.length
  · have g4 : (x.length : Int) > 3000 := by omega
    have g4' : 3000 < (x.length : Int) := by omega
    simp (disch := first | omega | ((simp only [Ab.next_alloc, Ab.next_upd, List.length_cons, List.length_nil, ne_eq, not_true_eq_false, not_false_eq_true]) <;> omega) | decide) only [↓stepPre, stepPost, ↓W_cond, ↓W_block, ↓reduceIte, Nat.reduceEqDiff, Nat.reduceLT, Nat.reduceLeDiff, ret0, stVar, isTup, Value.cells, Nat.le_refl, Nat.reduceAdd, Nat.reduceMul, Nat.reduceSub, env0, binV, intV, reduceCtorEq, pickV, nilCheckV, ptrV, unV, true_and, and_true, Nat.add_zero, Nat.zero_add, Rt, resultsV, allV, resV, Bool.not_true, Bool.not_false, calleeV, builtinV, eqV, fieldAddrV, ldVar, stN_own, stN_ownL, Int.fdiv_eq_ediv_of_nonneg, Int.reduceToNat, Int.reducePow, IntKind.bits, convV, ne_eq, not_false_eq_true, not_true_eq_false, Int.reduceNeg, Int.reduceAdd, Int.reduceSub, Int.reduceLT, Int.reduceLE, extractV, decide_true, decide_false, Int.reduceEq, mkFuncV, stBLawBack, beq_self_eq_true, tyB0LawBack, getL_take, glBLawBack, hlu, hlv, hlx, c0, g1, g1', g3, g3', g4, g4']
    refine live38_ok (hL.mild m0 (by omega)) (by omega) fun t3 M3 => ?_
    simp (disch := first | omega | ((simp only [Ab.next_alloc, Ab.next_upd, List.length_cons, List.length_nil, ne_eq, not_true_eq_false, not_false_eq_true]) <;> omega) | decide) only [↓stepPre, stepPost, ↓W_cond, ↓W_block, ↓reduceIte, Nat.reduceEqDiff, Nat.reduceLT, Nat.reduceLeDiff, ret0, stVar, isTup, Value.cells, Nat.le_refl, Nat.reduceAdd, Nat.reduceMul, Nat.reduceSub, env0, binV, intV, reduceCtorEq, pickV, nilCheckV, ptrV, unV, true_and, and_true, Nat.add_zero, Nat.zero_add, Rt, resultsV, allV, resV, Bool.not_true, Bool.not_false, calleeV, builtinV, eqV, fieldAddrV, ldVar, stN_own, stN_ownL, Int.fdiv_eq_ediv_of_nonneg, Int.reduceToNat, Int.reducePow, IntKind.bits, convV, ne_eq, not_false_eq_true, not_true_eq_false, Int.reduceNeg, Int.reduceAdd, Int.reduceSub, Int.reduceLT, Int.reduceLE, extractV, decide_true, decide_false, Int.reduceEq, mkFuncV, stBLawBack, beq_self_eq_true, tyB0LawBack, getL_take, glBLawBack, Tryd.results3]
  have g4 : ¬ (x.length : Int) > 3000 := by omega
  have g4' : ¬ 3000 < (x.length : Int) := by omega
  simp (disch := first | omega | ((simp only [Ab.next_alloc, Ab.next_upd, List.length_cons, List.length_nil, ne_eq, not_true_eq_false, not_false_eq_true]) <;> omega) | decide) only [↓stepPre, stepPost, ↓W_cond, ↓W_block, ↓reduceIte, Nat.reduceEqDiff, Nat.reduceLT, Nat.reduceLeDiff, ret0, stVar, isTup, Value.cells, Nat.le_refl, Nat.reduceAdd, Nat.reduceMul, Nat.reduceSub, env0, binV, intV, reduceCtorEq, pickV, nilCheckV, ptrV, unV, true_and, and_true, Nat.add_zero, Nat.zero_add, Rt, resultsV, allV, resV, Bool.not_true, Bool.not_false, calleeV, builtinV, eqV, fieldAddrV, ldVar, stN_own, stN_ownL, Int.fdiv_eq_ediv_of_nonneg, Int.reduceToNat, Int.reducePow, IntKind.bits, convV, ne_eq, not_false_eq_true, not_true_eq_false, Int.reduceNeg, Int.reduceAdd, Int.reduceSub, Int.reduceLT, Int.reduceLE, extractV, decide_true, decide_false, Int.reduceEq, mkFuncV, stBLawBack, beq_self_eq_true, tyB0LawBack, getL_take, glBLawBack, hlu, hlv, hlx, c0, g1, g1', g3, g3', g4, g4']
  refine print38_all (p := p) (hs.mild m0) (hu.mild m0) hg hnx hnl hnm (hL.mild m0 (by omega)) (by omega) fun s2 m2 => ?_
  have n2 := m2.next
  have M2 := m0.trans m2
  have c2 := (m2.heap s.next (by omega)).trans c0
  simp (disch := first | omega | ((simp only [Ab.next_alloc, Ab.next_upd, List.length_cons, List.length_nil, ne_eq, not_true_eq_false, not_false_eq_true]) <;> omega) | decide) only [↓stepPre, stepPost, ↓W_block, ↓reduceIte, Nat.reduceEqDiff, Nat.reduceLT, Nat.reduceLeDiff, ret0, stVar, isTup, Value.cells, Nat.le_refl, Nat.reduceAdd, Nat.reduceMul, Nat.reduceSub, env0, binV, intV, reduceCtorEq, pickV, nilCheckV, ptrV, unV, true_and, and_true, Nat.add_zero, Nat.zero_add, Rt, resultsV, allV, resV, Bool.not_true, Bool.not_false, calleeV, builtinV, eqV, fieldAddrV, ldVar, stN_own, stN_ownL, Int.fdiv_eq_ediv_of_nonneg, Int.reduceToNat, Int.reducePow, IntKind.bits, convV, ne_eq, not_false_eq_true, not_true_eq_false, Int.reduceNeg, Int.reduceAdd, Int.reduceSub, Int.reduceLT, Int.reduceLE, extractV, decide_true, decide_false, Int.reduceEq, mkFuncV, stBLawBack, beq_self_eq_true, tyB0LawBack, getL_take, glBLawBack]
  refine W_mid (fun e t => e 2 = .string (strB x) ∧ Mild s t) ?_ ?_
  · by_cases hE : printE p l = 0
    rotate_left
    · simp (disch := first | omega | ((simp only [Ab.next_alloc, Ab.next_upd, List.length_cons, List.length_nil, ne_eq, not_true_eq_false, not_false_eq_true]) <;> omega) | decide) only [↓stepPre, stepPost, ↓W_cond, ↓W_block, ↓reduceIte, Nat.reduceEqDiff, Nat.reduceLT, Nat.reduceLeDiff, ret0, stVar, isTup, Value.cells, Nat.le_refl, Nat.reduceAdd, Nat.reduceMul, Nat.reduceSub, env0, binV, intV, reduceCtorEq, pickV, nilCheckV, ptrV, unV, true_and, and_true, Nat.add_zero, Nat.zero_add, Rt, resultsV, allV, resV, Bool.not_true, Bool.not_false, calleeV, builtinV, eqV, fieldAddrV, ldVar, stN_own, stN_ownL, Int.fdiv_eq_ediv_of_nonneg, Int.reduceToNat, Int.reducePow, IntKind.bits, convV, ne_eq, not_false_eq_true, not_true_eq_false, Int.reduceNeg, Int.reduceAdd, Int.reduceSub, Int.reduceLT, Int.reduceLE, extractV, decide_true, decide_false, Int.reduceEq, mkFuncV, stBLawBack, beq_self_eq_true, tyB0LawBack, getL_take, glBLawBack, hE]
      exact M2
    rw [hE]
    simp (disch := first | omega | ((simp only [Ab.next_alloc, Ab.next_upd, List.length_cons, List.length_nil, ne_eq, not_true_eq_false, not_false_eq_true]) <;> omega) | decide) only [↓stepPre, stepPost, ↓W_cond, ↓W_block, ↓reduceIte, Nat.reduceEqDiff, Nat.reduceLT, Nat.reduceLeDiff, ret0, stVar, isTup, Value.cells, Nat.le_refl, Nat.reduceAdd, Nat.reduceMul, Nat.reduceSub, env0, binV, intV, reduceCtorEq, pickV, nilCheckV, ptrV, unV, true_and, and_true, Nat.add_zero, Nat.zero_add, Rt, resultsV, allV, resV, Bool.not_true, Bool.not_false, calleeV, builtinV, eqV, fieldAddrV, ldVar, stN_own, stN_ownL, Int.fdiv_eq_ediv_of_nonneg, Int.reduceToNat, Int.reducePow, IntKind.bits, convV, ne_eq, not_false_eq_true, not_true_eq_false, Int.reduceNeg, Int.reduceAdd, Int.reduceSub, Int.reduceLT, Int.reduceLE, extractV, decide_true, decide_false, Int.reduceEq, mkFuncV, stBLawBack, beq_self_eq_true, tyB0LawBack, getL_take, glBLawBack]
    refine parse38_ok (x := printT p l) (printT_len (by omega) (by omega) hg hE) (hL.mild M2 (by omega)) (by omega) (fun _ s5 w z m5 l5 l6 => ?_) (fun h => absurd (by rw [parse_back hE hg]) h)
    simp only [parse_back hE hg] at l5 l6 ⊢
    obtain ⟨wa, wn, wc, rfl⟩ := l5.shape
    have M5 := M2.trans m5
    have n5 := m5.next
    have c5 := (m5.heap s.next (by omega)).trans c2
    simp (disch := first | omega | ((simp only [Ab.next_alloc, Ab.next_upd, List.length_cons, List.length_nil, ne_eq, not_true_eq_false, not_false_eq_true]) <;> omega) | decide) only [↓stepPre, stepPost, ↓W_cond, ↓W_block, ↓reduceIte, Nat.reduceEqDiff, Nat.reduceLT, Nat.reduceLeDiff, ret0, stVar, isTup, Value.cells, Nat.le_refl, Nat.reduceAdd, Nat.reduceMul, Nat.reduceSub, env0, binV, intV, reduceCtorEq, pickV, nilCheckV, ptrV, unV, true_and, and_true, Nat.add_zero, Nat.zero_add, Rt, resultsV, allV, resV, Bool.not_true, Bool.not_false, calleeV, builtinV, eqV, fieldAddrV, ldVar, stN_own, stN_ownL, Int.fdiv_eq_ediv_of_nonneg, Int.reduceToNat, Int.reducePow, IntKind.bits, convV, ne_eq, not_false_eq_true, not_true_eq_false, Int.reduceNeg, Int.reduceAdd, Int.reduceSub, Int.reduceLT, Int.reduceLE, extractV, decide_true, decide_false, Int.reduceEq, mkFuncV, stBLawBack, beq_self_eq_true, tyB0LawBack, getL_take, glBLawBack, putAt_row]
    generalize hS : (((s5.alloc _).alloc _).upd _ _).upd _ _ = s6
    have m6 : Mild s5 s6 := by rw [← hS]; (repeat first | exact Mild.refl _ | assumption | apply Mild.alloc' | (refine Mild.upd' ?_ (by omega)) | (refine Mild.upd' ?_ (by simp only [Ab.next_alloc, Ab.next_upd] at *; omega)))
    have n6 := m6.next
    have M6 := M5.trans m6
    have q6 : s6.heap s5.next = .row (p.c (.slice wa wn wc)) := by rw [← hS, Ab.heap_upd_ne _ _ (by omega), Ab.heap_upd_same]
    have f6 : s6.heap (s5.next + 1) = .row [.int .i64 0, .int .i64 0] := by rw [← hS, Ab.heap_upd_same]
    have c6 := (m6.heap s.next (by omega)).trans c5
    have h6 : s5.next + 2 ≤ s6.next := by rw [← hS]; exact Nat.le_refl _
    simp (disch := first | omega | ((simp only [Ab.next_alloc, Ab.next_upd, List.length_cons, List.length_nil, ne_eq, not_true_eq_false, not_false_eq_true]) <;> omega) | decide) only [↓stepPre, stepPost, ↓W_cond, ↓W_block, ↓reduceIte, Nat.reduceEqDiff, Nat.reduceLT, Nat.reduceLeDiff, ret0, stVar, isTup, Value.cells, Nat.le_refl, Nat.reduceAdd, Nat.reduceMul, Nat.reduceSub, env0, binV, intV, reduceCtorEq, pickV, nilCheckV, ptrV, unV, true_and, and_true, Nat.add_zero, Nat.zero_add, Rt, resultsV, allV, resV, Bool.not_true, Bool.not_false, calleeV, builtinV, eqV, fieldAddrV, ldVar, stN_own, stN_ownL, Int.fdiv_eq_ediv_of_nonneg, Int.reduceToNat, Int.reducePow, IntKind.bits, convV, ne_eq, not_false_eq_true, not_true_eq_false, Int.reduceNeg, Int.reduceAdd, Int.reduceSub, Int.reduceLT, Int.reduceLE, extractV, decide_true, decide_false, Int.reduceEq, mkFuncV, stBLawBack, beq_self_eq_true, -eqV, tyB0LawBack, getL_take, glBLawBack, c6, q6, f6, buildV, fillL, setL, hF0]
    refine same38_ok (p := p) (hs.mild M6) (l5.mild m6) (by omega) (by omega) fun s7 m7 => ?_
    simp (disch := first | omega | ((simp only [Ab.next_alloc, Ab.next_upd, List.length_cons, List.length_nil, ne_eq, not_true_eq_false, not_false_eq_true]) <;> omega) | decide) only [↓stepPre, stepPost, ↓W_cond, ↓W_block, ↓reduceIte, Nat.reduceEqDiff, Nat.reduceLT, Nat.reduceLeDiff, ret0, stVar, isTup, Value.cells, Nat.le_refl, Nat.reduceAdd, Nat.reduceMul, Nat.reduceSub, env0, binV, intV, reduceCtorEq, pickV, nilCheckV, ptrV, unV, true_and, and_true, Nat.add_zero, Nat.zero_add, Rt, resultsV, allV, resV, Bool.not_true, Bool.not_false, calleeV, builtinV, eqV, fieldAddrV, ldVar, stN_own, stN_ownL, Int.fdiv_eq_ediv_of_nonneg, Int.reduceToNat, Int.reducePow, IntKind.bits, convV, ne_eq, not_false_eq_true, not_true_eq_false, Int.reduceNeg, Int.reduceAdd, Int.reduceSub, Int.reduceLT, Int.reduceLE, extractV, decide_true, decide_false, Int.reduceEq, mkFuncV, stBLawBack, beq_self_eq_true, tyB0LawBack, getL_take, glBLawBack]
    refine sameActs38_ok (l := l) (hu.mild (M6.trans m7)) (l6.mild (m6.trans m7)) hg (by omega) ?_
    simp (disch := first | omega | ((simp only [Ab.next_alloc, Ab.next_upd, List.length_cons, List.length_nil, ne_eq, not_true_eq_false, not_false_eq_true]) <;> omega) | decide) only [↓stepPre, stepPost, ↓W_cond, ↓W_block, ↓reduceIte, Nat.reduceEqDiff, Nat.reduceLT, Nat.reduceLeDiff, ret0, stVar, isTup, Value.cells, Nat.le_refl, Nat.reduceAdd, Nat.reduceMul, Nat.reduceSub, env0, binV, intV, reduceCtorEq, pickV, nilCheckV, ptrV, unV, true_and, and_true, Nat.add_zero, Nat.zero_add, Rt, resultsV, allV, resV, Bool.not_true, Bool.not_false, calleeV, builtinV, eqV, fieldAddrV, ldVar, stN_own, stN_ownL, Int.fdiv_eq_ediv_of_nonneg, Int.reduceToNat, Int.reducePow, IntKind.bits, convV, ne_eq, not_false_eq_true, not_true_eq_false, Int.reduceNeg, Int.reduceAdd, Int.reduceSub, Int.reduceLT, Int.reduceLE, extractV, decide_true, decide_false, Int.reduceEq, mkFuncV, stBLawBack, beq_self_eq_true, tyB0LawBack, getL_take, glBLawBack, Dok_same]
    exact M6.trans m7
  rintro e t ⟨e2, M⟩
  have nM := M.next
  simp (disch := first | omega | ((simp only [Ab.next_alloc, Ab.next_upd, List.length_cons, List.length_nil, ne_eq, not_true_eq_false, not_false_eq_true]) <;> omega) | decide) only [↓stepPre, stepPost, ↓W_cond, ↓W_block, ↓reduceIte, Nat.reduceEqDiff, Nat.reduceLT, Nat.reduceLeDiff, ret0, stVar, isTup, Value.cells, Nat.le_refl, Nat.reduceAdd, Nat.reduceMul, Nat.reduceSub, env0, binV, intV, reduceCtorEq, pickV, nilCheckV, ptrV, unV, true_and, and_true, Nat.add_zero, Nat.zero_add, Rt, resultsV, allV, resV, Bool.not_true, Bool.not_false, calleeV, builtinV, eqV, fieldAddrV, ldVar, stN_own, stN_ownL, Int.fdiv_eq_ediv_of_nonneg, Int.reduceToNat, Int.reducePow, IntKind.bits, convV, ne_eq, not_false_eq_true, not_true_eq_false, Int.reduceNeg, Int.reduceAdd, Int.reduceSub, Int.reduceLT, Int.reduceLE, extractV, decide_true, decide_false, Int.reduceEq, mkFuncV, stBLawBack, beq_self_eq_true, tyB0LawBack, getL_take, glBLawBack, e2]
  refine parse38_ok (x := x) (by omega) (hL.mild M (by omega)) (by omega) (fun hok s5 w z m5 l5 l6 => ?_) (fun hno s5 m5 => ?_)
  rotate_left
  · have n5 := m5.next
    generalize (parseF x).1 = k at hno
    simp (disch := first | omega | ((simp only [Ab.next_alloc, Ab.next_upd, List.length_cons, List.length_nil, ne_eq, not_true_eq_false, not_false_eq_true]) <;> omega) | decide) only [↓stepPre, stepPost, ↓W_cond, ↓W_block, ↓reduceIte, Nat.reduceEqDiff, Nat.reduceLT, Nat.reduceLeDiff, ret0, stVar, isTup, Value.cells, Nat.le_refl, Nat.reduceAdd, Nat.reduceMul, Nat.reduceSub, env0, binV, intV, reduceCtorEq, pickV, nilCheckV, ptrV, unV, true_and, and_true, Nat.add_zero, Nat.zero_add, Rt, resultsV, allV, resV, Bool.not_true, Bool.not_false, calleeV, builtinV, eqV, fieldAddrV, ldVar, stN_own, stN_ownL, Int.fdiv_eq_ediv_of_nonneg, Int.reduceToNat, Int.reducePow, IntKind.bits, convV, ne_eq, not_false_eq_true, not_true_eq_false, Int.reduceNeg, Int.reduceAdd, Int.reduceSub, Int.reduceLT, Int.reduceLE, extractV, decide_true, decide_false, Int.reduceEq, mkFuncV, stBLawBack, beq_self_eq_true, tyB0LawBack, getL_take, glBLawBack, putAt_row]
    generalize hS : (((s5.alloc _).alloc _).upd _ _).upd _ _ = s6
    have m6 : Mild s5 s6 := by rw [← hS]; (repeat first | exact Mild.refl _ | assumption | apply Mild.alloc' | (refine Mild.upd' ?_ (by omega)) | (refine Mild.upd' ?_ (by simp only [Ab.next_alloc, Ab.next_upd] at *; omega)))
    have n6 := m6.next
    have M6 := (M.trans m5).trans m6
    have f6 : s6.heap (s5.next + 1) = .row [.int .i64 k, .int .i64 ((parseF x).2.1 : Int)] := by rw [← hS, Ab.heap_upd_same]
    simp (disch := first | omega | ((simp only [Ab.next_alloc, Ab.next_upd, List.length_cons, List.length_nil, ne_eq, not_true_eq_false, not_false_eq_true]) <;> omega) | decide) only [↓stepPre, stepPost, ↓W_cond, ↓W_block, ↓reduceIte, Nat.reduceEqDiff, Nat.reduceLT, Nat.reduceLeDiff, ret0, stVar, isTup, Value.cells, Nat.le_refl, Nat.reduceAdd, Nat.reduceMul, Nat.reduceSub, env0, binV, intV, reduceCtorEq, pickV, nilCheckV, ptrV, unV, true_and, and_true, Nat.add_zero, Nat.zero_add, Rt, resultsV, allV, resV, Bool.not_true, Bool.not_false, calleeV, builtinV, eqV, fieldAddrV, ldVar, stN_own, stN_ownL, Int.fdiv_eq_ediv_of_nonneg, Int.reduceToNat, Int.reducePow, IntKind.bits, convV, ne_eq, not_false_eq_true, not_true_eq_false, Int.reduceNeg, Int.reduceAdd, Int.reduceSub, Int.reduceLT, Int.reduceLE, extractV, decide_true, decide_false, Int.reduceEq, mkFuncV, stBLawBack, beq_self_eq_true, tyB0LawBack, getL_take, glBLawBack, f6, hno]
    refine live38_ok (hL.mild M6 (by omega)) (by omega) fun t3 M3 => ?_
    simp (disch := first | omega | ((simp only [Ab.next_alloc, Ab.next_upd, List.length_cons, List.length_nil, ne_eq, not_true_eq_false, not_false_eq_true]) <;> omega) | decide) only [↓stepPre, stepPost, ↓W_cond, ↓W_block, ↓reduceIte, Nat.reduceEqDiff, Nat.reduceLT, Nat.reduceLeDiff, ret0, stVar, isTup, Value.cells, Nat.le_refl, Nat.reduceAdd, Nat.reduceMul, Nat.reduceSub, env0, binV, intV, reduceCtorEq, pickV, nilCheckV, ptrV, unV, true_and, and_true, Nat.add_zero, Nat.zero_add, Rt, resultsV, allV, resV, Bool.not_true, Bool.not_false, calleeV, builtinV, eqV, fieldAddrV, ldVar, stN_own, stN_ownL, Int.fdiv_eq_ediv_of_nonneg, Int.reduceToNat, Int.reducePow, IntKind.bits, convV, ne_eq, not_false_eq_true, not_true_eq_false, Int.reduceNeg, Int.reduceAdd, Int.reduceSub, Int.reduceLT, Int.reduceLE, extractV, decide_true, decide_false, Int.reduceEq, mkFuncV, stBLawBack, beq_self_eq_true, tyB0LawBack, getL_take, glBLawBack, Tryd.results3]
  · obtain ⟨b1, b2, b3, b4⟩ := parse_forth hok
    have bx : (parseF x).2.2.1.xs.length ≤ 64 := (plChk_fine (printE_on b1).1).xs
    have bl : (parseF x).2.2.2.length ≤ 1024 := (printE_on b1).2.1
    generalize (parseF x).2.2.1 = q at l5 b1 b2 b4 bx ⊢
    generalize (parseF x).2.2.2 = m at l6 b1 b2 b3 bl ⊢
    obtain ⟨wa, wn, wc, rfl⟩ := l5.shape
    have n5 := m5.next
    simp (disch := first | omega | ((simp only [Ab.next_alloc, Ab.next_upd, List.length_cons, List.length_nil, ne_eq, not_true_eq_false, not_false_eq_true]) <;> omega) | decide) only [↓stepPre, stepPost, ↓W_cond, ↓W_block, ↓reduceIte, Nat.reduceEqDiff, Nat.reduceLT, Nat.reduceLeDiff, ret0, stVar, isTup, Value.cells, Nat.le_refl, Nat.reduceAdd, Nat.reduceMul, Nat.reduceSub, env0, binV, intV, reduceCtorEq, pickV, nilCheckV, ptrV, unV, true_and, and_true, Nat.add_zero, Nat.zero_add, Rt, resultsV, allV, resV, Bool.not_true, Bool.not_false, calleeV, builtinV, eqV, fieldAddrV, ldVar, stN_own, stN_ownL, Int.fdiv_eq_ediv_of_nonneg, Int.reduceToNat, Int.reducePow, IntKind.bits, convV, ne_eq, not_false_eq_true, not_true_eq_false, Int.reduceNeg, Int.reduceAdd, Int.reduceSub, Int.reduceLT, Int.reduceLE, extractV, decide_true, decide_false, Int.reduceEq, mkFuncV, stBLawBack, beq_self_eq_true, tyB0LawBack, getL_take, glBLawBack, putAt_row]
    generalize hS : (((s5.alloc _).alloc _).upd _ _).upd _ _ = s6
    have m6 : Mild s5 s6 := by rw [← hS]; (repeat first | exact Mild.refl _ | assumption | apply Mild.alloc' | (refine Mild.upd' ?_ (by omega)) | (refine Mild.upd' ?_ (by simp only [Ab.next_alloc, Ab.next_upd] at *; omega)))
    have n6 := m6.next
    have M6 := (M.trans m5).trans m6
    have q6 : s6.heap s5.next = .row (q.c (.slice wa wn wc)) := by rw [← hS, Ab.heap_upd_ne _ _ (by omega), Ab.heap_upd_same]
    have f6 : s6.heap (s5.next + 1) = .row [.int .i64 0, .int .i64 0] := by rw [← hS, Ab.heap_upd_same]
    refine print38_all (p := q) (l5.mild m6) (l6.mild m6) b3 (by omega) (by omega) (by omega) (hL.mild M6 (by omega)) (by omega) fun s7 m7 => ?_
    rw [b1, b2]
    have n7 := m7.next
    simp (disch := first | omega | ((simp only [Ab.next_alloc, Ab.next_upd, List.length_cons, List.length_nil, ne_eq, not_true_eq_false, not_false_eq_true]) <;> omega) | decide) only [↓stepPre, stepPost, ↓W_cond, ↓W_block, ↓reduceIte, Nat.reduceEqDiff, Nat.reduceLT, Nat.reduceLeDiff, ret0, stVar, isTup, Value.cells, Nat.le_refl, Nat.reduceAdd, Nat.reduceMul, Nat.reduceSub, env0, binV, intV, reduceCtorEq, pickV, nilCheckV, ptrV, unV, true_and, and_true, Nat.add_zero, Nat.zero_add, Rt, resultsV, allV, resV, Bool.not_true, Bool.not_false, calleeV, builtinV, eqV, fieldAddrV, ldVar, stN_own, stN_ownL, Int.fdiv_eq_ediv_of_nonneg, Int.reduceToNat, Int.reducePow, IntKind.bits, convV, ne_eq, not_false_eq_true, not_true_eq_false, Int.reduceNeg, Int.reduceAdd, Int.reduceSub, Int.reduceLT, Int.reduceLE, extractV, decide_true, decide_false, Int.reduceEq, mkFuncV, stBLawBack, beq_self_eq_true, tyB0LawBack, getL_take, glBLawBack]
    refine live38_ok (hL.mild (M6.trans m7) (by omega)) (by omega) fun t3 M3 => ?_
    simp (disch := first | omega | ((simp only [Ab.next_alloc, Ab.next_upd, List.length_cons, List.length_nil, ne_eq, not_true_eq_false, not_false_eq_true]) <;> omega) | decide) only [↓stepPre, stepPost, ↓W_cond, ↓W_block, ↓reduceIte, Nat.reduceEqDiff, Nat.reduceLT, Nat.reduceLeDiff, ret0, stVar, isTup, Value.cells, Nat.le_refl, Nat.reduceAdd, Nat.reduceMul, Nat.reduceSub, env0, binV, intV, reduceCtorEq, pickV, nilCheckV, ptrV, unV, true_and, and_true, Nat.add_zero, Nat.zero_add, Rt, resultsV, allV, resV, Bool.not_true, Bool.not_false, calleeV, builtinV, eqV, fieldAddrV, ldVar, stN_own, stN_ownL, Int.fdiv_eq_ediv_of_nonneg, Int.reduceToNat, Int.reducePow, IntKind.bits, convV, ne_eq, not_false_eq_true, not_true_eq_false, Int.reduceNeg, Int.reduceAdd, Int.reduceSub, Int.reduceLT, Int.reduceLE, extractV, decide_true, decide_false, Int.reduceEq, mkFuncV, stBLawBack, beq_self_eq_true, tyB0LawBack, getL_take, glBLawBack, Dok_mild M3, e2, eqlStrV, eq_self, Tryd.results3]
end Go.Proofs.YthjpfllmecpliaaDoor
