/- The law StreamFinds, as a run of the abstract machine. -/
import Derived.Test.YtfbkiocijnjmgaaDoorTypes
import Derived.Test.YtfbkiocijnjmgaaDoorRow0
import Derived.Test.YtfbkiocijnjmgaaDoorAbC
import Derived.Test.YtfbkiocijnjmgaaDoorPure
import Derived.Test.YtfbkiocijnjmgaaDoorBoxes
import Derived.Test.YtfbkiocijnjmgaaDoorStreamOf
import Derived.Test.YtfbkiocijnjmgaaDoorStreamFew
import Derived.Test.YtfbkiocijnjmgaaDoorStreamArg
import Derived.Test.YtfbkiocijnjmgaaDoorLive
set_option linter.all false
set_option maxRecDepth 20000
namespace Go.Proofs.YtfbkiocijnjmgaaDoor
open Go Go.Ab
theorem find_ix {xs : List Sm} (hid : ∀ i (hi : i < xs.length), xs[i].id = i) {i : Nat} (hi : i < xs.length) : findS xs xs[i].id = i := by
  have h1 := findS_le hi
  rw [atS_eq hi] at h1
  unfold findS at h1 ⊢
  split
  · rename_i k hk
    obtain ⟨q1, q2, q3, q4⟩ := fwd_some hk
    have hk2 : k < xs.length := by omega
    unfold hitF at q3
    rw [atS_eq hk2, hid k hk2, hid i hi] at q3
    split at q3
    · assumption
    · exact absurd rfl q3
  · rename_i hk
    have := fwd_none hk i (by omega) (by omega)
    rw [hitF, atS_eq hi] at this
    simp at this
def cntN (ys : List Sm) (k : Nat) : Nat := ys.countP fun x => decide (x.nd < (k : Int))
theorem cntN_zero {ys : List Sm} (h : ∀ x ∈ ys, 0 ≤ x.nd ∧ x.nd < 4) : cntN ys 0 = 0 := by
  unfold cntN
  rw [List.countP_eq_zero]
  intro x hx
  have := h x hx
  simp only [decide_eq_true_eq]; omega
theorem cntN_four {ys : List Sm} (h : ∀ x ∈ ys, 0 ≤ x.nd ∧ x.nd < 4) : cntN ys 4 = ys.length := by
  unfold cntN
  rw [List.countP_eq_length]
  intro x hx
  have := h x hx
  simp only [decide_eq_true_eq]; omega
theorem cntN_succ (ys : List Sm) (k : Nat) : cntN ys (k + 1) = cntN ys k + (ofL ys (k : Int)).length := by
  unfold cntN ofL
  rw [← List.countP_eq_length_filter]
  induction ys with
  | nil => rfl
  | cons a l ih =>
    simp only [List.countP_cons, ih, keepB, decide_eq_true_eq]
    by_cases h1 : a.nd < (k : Int)
    · rw [if_pos h1, if_pos (by omega), if_neg (by omega)]; omega
    · by_cases h2 : a.nd = (k : Int)
      · rw [if_neg h1, if_pos (by omega), if_pos h2]; omega
      · rw [if_neg h1, if_neg (by omega), if_neg h2]; omega
theorem few_nd {xs : List Sm} {y : Sm} (h : y ∈ fewS xs 6) : 0 ≤ y.nd ∧ y.nd < 4 := by
  obtain ⟨j, hj, rfl⟩ := List.mem_iff_getElem.1 h
  rw [fewS_at hj]
  exact partN_in _ (by omega)
theorem few_id {xs : List Sm} {i : Nat} (h : i < (fewS xs 6).length) : (fewS xs 6)[i].id = i := by rw [fewS_at h]; rfl
theorem streamFinds_law (W : World) (args : List Value) (hlaid : laidMetH Tryd.prog laidVars W) (ha : ArgsR Tryd.prog W Tryd.f6.params.toList args) : WC Tryd.prog W.heap.size 6 args (St0 W) (fun v _ => v = .bool true) := by
  obtain ⟨hg, hb0⟩ := of_laid hlaid
  have hB : Bok W.heap.size := ⟨hb0⟩
  obtain ⟨v0, _, rfl, a1, ha⟩ := args_cons (show ArgsR Tryd.prog W [22] args from ha)
  obtain rfl := args_nil ha
  obtain ⟨xs, hs, hxn, hold, -⟩ := streams_arg a1
  have hnx : (St0 W).next = W.heap.size := rfl
  clear a1
  generalize St0 W = s at hg hnx hs
  refine WC_open Tryd.func6 rfl ?_
  simp (disch := first | omega | ((simp only [Ab.next_alloc, Ab.next_upd, List.length_cons, List.length_nil, ne_eq, not_true_eq_false, not_false_eq_true]) <;> omega) | decide) only [↓stepPre, stepPost, ↓W_cond, ↓W_block, ↓reduceIte, Nat.reduceEqDiff, Nat.reduceLT, Nat.reduceLeDiff, List.size_toArray, List.length_cons, List.length_nil, ret0, stVar, isTup, Value.cells, List.set_cons_zero, List.set_cons_succ, Nat.le_refl, Nat.reduceAdd, Nat.reduceMul, Nat.reduceSub, env0, List.getD_cons_zero, List.getD_cons_succ, binV, intV, reduceCtorEq, List.getElem?_cons_succ, List.getElem?_cons_zero, pickV, nilCheckV, ptrV, unV, true_and, and_true, List.map_cons, List.map_nil, Nat.add_zero, Nat.zero_add, Option.isNone_none, Option.isNone_some, Rt, resultsV, allV, resV, Bool.not_true, Bool.not_false, calleeV, builtinV, Option.map_some, Option.map_none, List.cons_append, List.nil_append, List.append_nil, Array.toList_append, List.toList_toArray, eqV, fieldAddrV, ldVar, stN_own, stN_ownL, Int.cast_ofNat_Int, Int.fdiv_eq_ediv_of_nonneg, Int.reduceToNat, Nat.min_eq_left, Int.reducePow, IntKind.bits, convV, ne_eq, not_false_eq_true, not_true_eq_false, Int.reduceNeg, Int.reduceAdd, Int.reduceSub, Int.reduceLT, Int.reduceLE, Option.isSome_some, extractV, decide_true, decide_false, Int.reduceEq, List.getElem?_toArray, mkFuncV, List.map_toArray, beq_self_eq_true, Ty.t30, Tryd.underlying30, Ty.t22, Tryd.underlying22, Ty.t28, Tryd.underlying28, Ty.t3, Tryd.underlying3, Ty.t2, Tryd.underlying2, Ty.t4, Tryd.underlying4, Ty.t24, Tryd.underlying24]
  refine few_ok hs hxn (by omega) fun v1 s1 m1 l1 f1 => ?_
  have n1 := m1.next
  have hyn : (fewS xs 6).length ≤ 6 := by rw [fewS_len]; omega
  have hnd := fun y (hy : y ∈ fewS xs 6) => few_nd hy
  have hid := fun i (hi : i < (fewS xs 6).length) => few_id hi
  generalize fewS xs 6 = ys at l1 hyn hnd hid
  have hg1 : s1.heap 0 = .row divC := by rw [m1.heap 0 (by omega)]; exact hg
  have hlen1 := l1.len (P := Tryd.prog) (ts := []) Ty.elem22 Ty.arr22
  rw [smL_len] at hlen1
  simp (disch := first | omega | ((simp only [Ab.next_alloc, Ab.next_upd, List.length_cons, List.length_nil, ne_eq, not_true_eq_false, not_false_eq_true]) <;> omega) | decide) only [↓stepPre, stepPost, ↓W_cond, ↓W_block, ↓reduceIte, Nat.reduceEqDiff, Nat.reduceLT, Nat.reduceLeDiff, List.size_toArray, List.length_cons, List.length_nil, ret0, stVar, isTup, Value.cells, List.set_cons_zero, List.set_cons_succ, Nat.le_refl, Nat.reduceAdd, Nat.reduceMul, Nat.reduceSub, env0, List.getD_cons_zero, List.getD_cons_succ, binV, intV, reduceCtorEq, List.getElem?_cons_succ, List.getElem?_cons_zero, pickV, nilCheckV, ptrV, unV, true_and, and_true, List.map_cons, List.map_nil, Nat.add_zero, Nat.zero_add, Option.isNone_none, Option.isNone_some, Rt, resultsV, allV, resV, Bool.not_true, Bool.not_false, calleeV, builtinV, Option.map_some, Option.map_none, List.cons_append, List.nil_append, List.append_nil, Array.toList_append, List.toList_toArray, eqV, fieldAddrV, ldVar, stN_own, stN_ownL, Int.cast_ofNat_Int, Int.fdiv_eq_ediv_of_nonneg, Int.reduceToNat, Nat.min_eq_left, Int.reducePow, IntKind.bits, convV, ne_eq, not_false_eq_true, not_true_eq_false, Int.reduceNeg, Int.reduceAdd, Int.reduceSub, Int.reduceLT, Int.reduceLE, Option.isSome_some, extractV, decide_true, decide_false, Int.reduceEq, List.getElem?_toArray, mkFuncV, List.map_toArray, beq_self_eq_true, Ty.t30, Tryd.underlying30, Ty.t22, Tryd.underlying22, Ty.t28, Tryd.underlying28, Ty.t3, Tryd.underlying3, Ty.t2, Tryd.underlying2, Ty.t4, Tryd.underlying4, Ty.t24, Tryd.underlying24]
  refine W_loop_inv 4 (fun k e t => Mild s1 t ∧ e 0 = v1 ∧ e 3 = .int .i64 ((cntN ys k : Nat) : Int) ∧ e 4 = .int .i64 (k : Int)) (fun x e t => x = .exit 0 ∧ Mild s1 t ∧ e 0 = v1 ∧ e 3 = .int .i64 (ys.length : Int)) ?_ ⟨.refl _, rfl, by rw [cntN_zero hnd]; rfl, rfl⟩ ?_
  rotate_left
  · rintro x e t ⟨rfl, mt, h0, h3⟩
    have nt := mt.next
    simp (disch := first | omega | ((simp only [Ab.next_alloc, Ab.next_upd, List.length_cons, List.length_nil, ne_eq, not_true_eq_false, not_false_eq_true]) <;> omega) | decide) only [↓stepPre, stepPost, ↓W_cond, ↓W_block, ↓reduceIte, Nat.reduceEqDiff, Nat.reduceLT, Nat.reduceLeDiff, List.size_toArray, List.length_cons, List.length_nil, ret0, stVar, isTup, Value.cells, List.set_cons_zero, List.set_cons_succ, Nat.le_refl, Nat.reduceAdd, Nat.reduceMul, Nat.reduceSub, env0, List.getD_cons_zero, List.getD_cons_succ, binV, intV, reduceCtorEq, List.getElem?_cons_succ, List.getElem?_cons_zero, pickV, nilCheckV, ptrV, unV, true_and, and_true, List.map_cons, List.map_nil, Nat.add_zero, Nat.zero_add, Option.isNone_none, Option.isNone_some, Rt, resultsV, allV, resV, Bool.not_true, Bool.not_false, calleeV, builtinV, Option.map_some, Option.map_none, List.cons_append, List.nil_append, List.append_nil, Array.toList_append, List.toList_toArray, eqV, fieldAddrV, ldVar, stN_own, stN_ownL, Int.cast_ofNat_Int, Int.fdiv_eq_ediv_of_nonneg, Int.reduceToNat, Nat.min_eq_left, Int.reducePow, IntKind.bits, convV, ne_eq, not_false_eq_true, not_true_eq_false, Int.reduceNeg, Int.reduceAdd, Int.reduceSub, Int.reduceLT, Int.reduceLE, Option.isSome_some, extractV, decide_true, decide_false, Int.reduceEq, List.getElem?_toArray, mkFuncV, List.map_toArray, beq_self_eq_true, Ty.t30, Tryd.underlying30, Ty.t22, Tryd.underlying22, Ty.t28, Tryd.underlying28, Ty.t3, Tryd.underlying3, Ty.t2, Tryd.underlying2, Ty.t4, Tryd.underlying4, Ty.t24, Tryd.underlying24, h0, h3]
    refine live_p (by rw [mt.heap 0 (by omega)]; exact hg1) ?_
    simp (disch := first | omega | ((simp only [Ab.next_alloc, Ab.next_upd, List.length_cons, List.length_nil, ne_eq, not_true_eq_false, not_false_eq_true]) <;> omega) | decide) only [↓stepPre, stepPost, ↓W_cond, ↓W_block, ↓reduceIte, Nat.reduceEqDiff, Nat.reduceLT, Nat.reduceLeDiff, List.size_toArray, List.length_cons, List.length_nil, ret0, stVar, isTup, Value.cells, List.set_cons_zero, List.set_cons_succ, Nat.le_refl, Nat.reduceAdd, Nat.reduceMul, Nat.reduceSub, env0, List.getD_cons_zero, List.getD_cons_succ, binV, intV, reduceCtorEq, List.getElem?_cons_succ, List.getElem?_cons_zero, pickV, nilCheckV, ptrV, unV, true_and, and_true, List.map_cons, List.map_nil, Nat.add_zero, Nat.zero_add, Option.isNone_none, Option.isNone_some, Rt, resultsV, allV, resV, Bool.not_true, Bool.not_false, calleeV, builtinV, Option.map_some, Option.map_none, List.cons_append, List.nil_append, List.append_nil, Array.toList_append, List.toList_toArray, eqV, fieldAddrV, ldVar, stN_own, stN_ownL, Int.cast_ofNat_Int, Int.fdiv_eq_ediv_of_nonneg, Int.reduceToNat, Nat.min_eq_left, Int.reducePow, IntKind.bits, convV, ne_eq, not_false_eq_true, not_true_eq_false, Int.reduceNeg, Int.reduceAdd, Int.reduceSub, Int.reduceLT, Int.reduceLE, Option.isSome_some, extractV, decide_true, decide_false, Int.reduceEq, List.getElem?_toArray, mkFuncV, List.map_toArray, beq_self_eq_true, Ty.t30, Tryd.underlying30, Ty.t22, Tryd.underlying22, Ty.t28, Tryd.underlying28, Ty.t3, Tryd.underlying3, Ty.t2, Tryd.underlying2, Ty.t4, Tryd.underlying4, Ty.t24, Tryd.underlying24, h0, h3, hlen1, eq_self, Tryd.results6]
  rintro k e t hk ⟨mt, h0, h3, h4⟩
  have nt := mt.next
  by_cases hk4 : k < 4
  rotate_left
  · have g1 : ¬ (k : Int) < 4 := by omega
    obtain rfl : k = 4 := by omega
    rw [cntN_four hnd] at h3
    simp (disch := first | omega | ((simp only [Ab.next_alloc, Ab.next_upd, List.length_cons, List.length_nil, ne_eq, not_true_eq_false, not_false_eq_true]) <;> omega) | decide) only [↓stepPre, stepPost, ↓W_cond, ↓W_block, ↓reduceIte, Nat.reduceEqDiff, Nat.reduceLT, Nat.reduceLeDiff, List.size_toArray, List.length_cons, List.length_nil, ret0, stVar, isTup, Value.cells, List.set_cons_zero, List.set_cons_succ, Nat.le_refl, Nat.reduceAdd, Nat.reduceMul, Nat.reduceSub, env0, List.getD_cons_zero, List.getD_cons_succ, binV, intV, reduceCtorEq, List.getElem?_cons_succ, List.getElem?_cons_zero, pickV, nilCheckV, ptrV, unV, true_and, and_true, List.map_cons, List.map_nil, Nat.add_zero, Nat.zero_add, Option.isNone_none, Option.isNone_some, Rt, resultsV, allV, resV, Bool.not_true, Bool.not_false, calleeV, builtinV, Option.map_some, Option.map_none, List.cons_append, List.nil_append, List.append_nil, Array.toList_append, List.toList_toArray, eqV, fieldAddrV, ldVar, stN_own, stN_ownL, Int.cast_ofNat_Int, Int.fdiv_eq_ediv_of_nonneg, Int.reduceToNat, Nat.min_eq_left, Int.reducePow, IntKind.bits, convV, ne_eq, not_false_eq_true, not_true_eq_false, Int.reduceNeg, Int.reduceAdd, Int.reduceSub, Int.reduceLT, Int.reduceLE, Option.isSome_some, extractV, decide_true, decide_false, Int.reduceEq, List.getElem?_toArray, mkFuncV, List.map_toArray, beq_self_eq_true, Ty.t30, Tryd.underlying30, Ty.t22, Tryd.underlying22, Ty.t28, Tryd.underlying28, Ty.t3, Tryd.underlying3, Ty.t2, Tryd.underlying2, Ty.t4, Tryd.underlying4, Ty.t24, Tryd.underlying24, h0, h3, h4]
    exact mt
  have g1 : (k : Int) < 4 := by omega
  simp (disch := first | omega | ((simp only [Ab.next_alloc, Ab.next_upd, List.length_cons, List.length_nil, ne_eq, not_true_eq_false, not_false_eq_true]) <;> omega) | decide) only [↓stepPre, stepPost, ↓W_cond, ↓W_block, ↓reduceIte, Nat.reduceEqDiff, Nat.reduceLT, Nat.reduceLeDiff, List.size_toArray, List.length_cons, List.length_nil, ret0, stVar, isTup, Value.cells, List.set_cons_zero, List.set_cons_succ, Nat.le_refl, Nat.reduceAdd, Nat.reduceMul, Nat.reduceSub, env0, List.getD_cons_zero, List.getD_cons_succ, binV, intV, reduceCtorEq, List.getElem?_cons_succ, List.getElem?_cons_zero, pickV, nilCheckV, ptrV, unV, true_and, and_true, List.map_cons, List.map_nil, Nat.add_zero, Nat.zero_add, Option.isNone_none, Option.isNone_some, Rt, resultsV, allV, resV, Bool.not_true, Bool.not_false, calleeV, builtinV, Option.map_some, Option.map_none, List.cons_append, List.nil_append, List.append_nil, Array.toList_append, List.toList_toArray, eqV, fieldAddrV, ldVar, stN_own, stN_ownL, Int.cast_ofNat_Int, Int.fdiv_eq_ediv_of_nonneg, Int.reduceToNat, Nat.min_eq_left, Int.reducePow, IntKind.bits, convV, ne_eq, not_false_eq_true, not_true_eq_false, Int.reduceNeg, Int.reduceAdd, Int.reduceSub, Int.reduceLT, Int.reduceLE, Option.isSome_some, extractV, decide_true, decide_false, Int.reduceEq, List.getElem?_toArray, mkFuncV, List.map_toArray, beq_self_eq_true, Ty.t30, Tryd.underlying30, Ty.t22, Tryd.underlying22, Ty.t28, Tryd.underlying28, Ty.t3, Tryd.underlying3, Ty.t2, Tryd.underlying2, Ty.t4, Tryd.underlying4, Ty.t24, Tryd.underlying24, h0, h3, h4, g1]
  refine sof_ok (l1.mild mt) (by omega) (by omega) fun v2 s2 m2 l2 => ?_
  have n2 := m2.next
  have M2 := mt.trans m2
  have hlen2 := l2.len (P := Tryd.prog) (ts := []) Ty.elem22 Ty.arr22
  rw [smL_len] at hlen2
  have hcs := cntN_succ ys k
  have hcl : (ofL ys (k : Int)).length ≤ ys.length := List.length_filter_le _ _
  have hcb : cntN ys k ≤ ys.length := List.countP_le_length
  have hofm : ∀ x ∈ ofL ys (k : Int), x.nd = k ∧ findS ys x.id = x.id := fun x hx => by
    obtain ⟨h1, h2⟩ := List.mem_filter.1 hx
    obtain ⟨i, hi, rfl⟩ := List.mem_iff_getElem.1 h1
    exact ⟨of_decide_eq_true h2, by rw [find_ix hid hi, hid i hi]⟩
  generalize hws : ofL ys (k : Int) = ws at *
  simp (disch := first | omega | ((simp only [Ab.next_alloc, Ab.next_upd, List.length_cons, List.length_nil, ne_eq, not_true_eq_false, not_false_eq_true]) <;> omega) | decide) only [↓stepPre, stepPost, ↓W_cond, ↓W_block, ↓reduceIte, Nat.reduceEqDiff, Nat.reduceLT, Nat.reduceLeDiff, List.size_toArray, List.length_cons, List.length_nil, ret0, stVar, isTup, Value.cells, List.set_cons_zero, List.set_cons_succ, Nat.le_refl, Nat.reduceAdd, Nat.reduceMul, Nat.reduceSub, env0, List.getD_cons_zero, List.getD_cons_succ, binV, intV, reduceCtorEq, List.getElem?_cons_succ, List.getElem?_cons_zero, pickV, nilCheckV, ptrV, unV, true_and, and_true, List.map_cons, List.map_nil, Nat.add_zero, Nat.zero_add, Option.isNone_none, Option.isNone_some, Rt, resultsV, allV, resV, Bool.not_true, Bool.not_false, calleeV, builtinV, Option.map_some, Option.map_none, List.cons_append, List.nil_append, List.append_nil, Array.toList_append, List.toList_toArray, eqV, fieldAddrV, ldVar, stN_own, stN_ownL, Int.cast_ofNat_Int, Int.fdiv_eq_ediv_of_nonneg, Int.reduceToNat, Nat.min_eq_left, Int.reducePow, IntKind.bits, convV, ne_eq, not_false_eq_true, not_true_eq_false, Int.reduceNeg, Int.reduceAdd, Int.reduceSub, Int.reduceLT, Int.reduceLE, Option.isSome_some, extractV, decide_true, decide_false, Int.reduceEq, List.getElem?_toArray, mkFuncV, List.map_toArray, beq_self_eq_true, Ty.t30, Tryd.underlying30, Ty.t22, Tryd.underlying22, Ty.t28, Tryd.underlying28, Ty.t3, Tryd.underlying3, Ty.t2, Tryd.underlying2, Ty.t4, Tryd.underlying4, Ty.t24, Tryd.underlying24, h0, h3, h4, hlen2]
  refine W_loop_inv ws.length (fun i e' t' => Mild s2 t' ∧ e' 0 = v1 ∧ e' 3 = .int .i64 ((cntN ys (k + 1) : Nat) : Int) ∧ e' 4 = .int .i64 (k : Int) ∧ e' 5 = v2 ∧ e' 6 = .int .i64 (i : Int)) (fun x e' t' => x = .exit 2 ∧ Mild s2 t' ∧ e' 0 = v1 ∧ e' 3 = .int .i64 ((cntN ys (k + 1) : Nat) : Int) ∧ e' 4 = .int .i64 (k : Int)) ?_ ⟨.refl _, h0, by rw [hcs]; rfl, h4, rfl, rfl⟩ ?_
  rotate_left
  · rintro x e' t' ⟨rfl, mt', h0, h3, h4⟩
    simp (disch := first | omega | ((simp only [Ab.next_alloc, Ab.next_upd, List.length_cons, List.length_nil, ne_eq, not_true_eq_false, not_false_eq_true]) <;> omega) | decide) only [↓stepPre, stepPost, ↓W_cond, ↓W_block, ↓reduceIte, Nat.reduceEqDiff, Nat.reduceLT, Nat.reduceLeDiff, List.size_toArray, List.length_cons, List.length_nil, ret0, stVar, isTup, Value.cells, List.set_cons_zero, List.set_cons_succ, Nat.le_refl, Nat.reduceAdd, Nat.reduceMul, Nat.reduceSub, env0, List.getD_cons_zero, List.getD_cons_succ, binV, intV, reduceCtorEq, List.getElem?_cons_succ, List.getElem?_cons_zero, pickV, nilCheckV, ptrV, unV, true_and, and_true, List.map_cons, List.map_nil, Nat.add_zero, Nat.zero_add, Option.isNone_none, Option.isNone_some, Rt, resultsV, allV, resV, Bool.not_true, Bool.not_false, calleeV, builtinV, Option.map_some, Option.map_none, List.cons_append, List.nil_append, List.append_nil, Array.toList_append, List.toList_toArray, eqV, fieldAddrV, ldVar, stN_own, stN_ownL, Int.cast_ofNat_Int, Int.fdiv_eq_ediv_of_nonneg, Int.reduceToNat, Nat.min_eq_left, Int.reducePow, IntKind.bits, convV, ne_eq, not_false_eq_true, not_true_eq_false, Int.reduceNeg, Int.reduceAdd, Int.reduceSub, Int.reduceLT, Int.reduceLE, Option.isSome_some, extractV, decide_true, decide_false, Int.reduceEq, List.getElem?_toArray, mkFuncV, List.map_toArray, beq_self_eq_true, Ty.t30, Tryd.underlying30, Ty.t22, Tryd.underlying22, Ty.t28, Tryd.underlying28, Ty.t3, Tryd.underlying3, Ty.t2, Tryd.underlying2, Ty.t4, Tryd.underlying4, Ty.t24, Tryd.underlying24, h0, h3, h4]
    exact ⟨hk4, M2.trans mt', by simp⟩
  rintro i e' t' hi ⟨mt', h0, h3, h4, h5, h6⟩
  have nt' := mt'.next
  by_cases hil : i < ws.length
  rotate_left
  · have g2 : ¬ (i : Int) < (ws.length : Int) := by omega
    simp (disch := first | omega | ((simp only [Ab.next_alloc, Ab.next_upd, List.length_cons, List.length_nil, ne_eq, not_true_eq_false, not_false_eq_true]) <;> omega) | decide) only [↓stepPre, stepPost, ↓W_cond, ↓W_block, ↓reduceIte, Nat.reduceEqDiff, Nat.reduceLT, Nat.reduceLeDiff, List.size_toArray, List.length_cons, List.length_nil, ret0, stVar, isTup, Value.cells, List.set_cons_zero, List.set_cons_succ, Nat.le_refl, Nat.reduceAdd, Nat.reduceMul, Nat.reduceSub, env0, List.getD_cons_zero, List.getD_cons_succ, binV, intV, reduceCtorEq, List.getElem?_cons_succ, List.getElem?_cons_zero, pickV, nilCheckV, ptrV, unV, true_and, and_true, List.map_cons, List.map_nil, Nat.add_zero, Nat.zero_add, Option.isNone_none, Option.isNone_some, Rt, resultsV, allV, resV, Bool.not_true, Bool.not_false, calleeV, builtinV, Option.map_some, Option.map_none, List.cons_append, List.nil_append, List.append_nil, Array.toList_append, List.toList_toArray, eqV, fieldAddrV, ldVar, stN_own, stN_ownL, Int.cast_ofNat_Int, Int.fdiv_eq_ediv_of_nonneg, Int.reduceToNat, Nat.min_eq_left, Int.reducePow, IntKind.bits, convV, ne_eq, not_false_eq_true, not_true_eq_false, Int.reduceNeg, Int.reduceAdd, Int.reduceSub, Int.reduceLT, Int.reduceLE, Option.isSome_some, extractV, decide_true, decide_false, Int.reduceEq, List.getElem?_toArray, mkFuncV, List.map_toArray, beq_self_eq_true, Ty.t30, Tryd.underlying30, Ty.t22, Tryd.underlying22, Ty.t28, Tryd.underlying28, Ty.t3, Tryd.underlying3, Ty.t2, Tryd.underlying2, Ty.t4, Tryd.underlying4, Ty.t24, Tryd.underlying24, h0, h3, h4, h5, h6, hlen2, g2]
    exact mt'
  have g2 : (i : Int) < (ws.length : Int) := by omega
  obtain ⟨r1, r2⟩ := hofm ws[i] (List.getElem_mem _)
  have l3 := l2.mild mt'
  obtain ⟨b, o, n', c', rfl⟩ := l3.conc (by intro h; have := congrArg List.length h; simp only [smL_len, List.length_nil] at this; omega)
  have hix := l3.index (P := Tryd.prog) (k := .i64) (i := (i : Int)) Ty.elem22 Ty.siz30 (by omega) (by rw [smL_len]; omega)
  rw [Int.toNat_natCast] at hix
  have i1 := l3.lds (k := 1) (smL_at hil) rfl
  have i0 := l3.lds (k := 0) (smL_at hil) rfl
  simp only [atP_conc] at hix
  simp only [Nat.add_zero] at i0
  rw [r1] at i1
  simp (disch := first | omega | ((simp only [Ab.next_alloc, Ab.next_upd, List.length_cons, List.length_nil, ne_eq, not_true_eq_false, not_false_eq_true]) <;> omega) | decide) only [↓stepPre, stepPost, ↓W_cond, ↓W_block, ↓reduceIte, Nat.reduceEqDiff, Nat.reduceLT, Nat.reduceLeDiff, List.size_toArray, List.length_cons, List.length_nil, ret0, stVar, isTup, Value.cells, List.set_cons_zero, List.set_cons_succ, Nat.le_refl, Nat.reduceAdd, Nat.reduceMul, Nat.reduceSub, env0, List.getD_cons_zero, List.getD_cons_succ, binV, intV, reduceCtorEq, List.getElem?_cons_succ, List.getElem?_cons_zero, pickV, nilCheckV, ptrV, unV, true_and, and_true, List.map_cons, List.map_nil, Nat.add_zero, Nat.zero_add, Option.isNone_none, Option.isNone_some, Rt, resultsV, allV, resV, Bool.not_true, Bool.not_false, calleeV, builtinV, Option.map_some, Option.map_none, List.cons_append, List.nil_append, List.append_nil, Array.toList_append, List.toList_toArray, eqV, fieldAddrV, ldVar, stN_own, stN_ownL, Int.cast_ofNat_Int, Int.fdiv_eq_ediv_of_nonneg, Int.reduceToNat, Nat.min_eq_left, Int.reducePow, IntKind.bits, convV, ne_eq, not_false_eq_true, not_true_eq_false, Int.reduceNeg, Int.reduceAdd, Int.reduceSub, Int.reduceLT, Int.reduceLE, Option.isSome_some, extractV, decide_true, decide_false, Int.reduceEq, List.getElem?_toArray, mkFuncV, List.map_toArray, beq_self_eq_true, Ty.t30, Tryd.underlying30, Ty.t22, Tryd.underlying22, Ty.t28, Tryd.underlying28, Ty.t3, Tryd.underlying3, Ty.t2, Tryd.underlying2, Ty.t4, Tryd.underlying4, Ty.t24, Tryd.underlying24, getL_take, List.drop_zero, List.drop_succ_cons, List.take_succ_cons, List.take_zero, List.take_nil, h0, h3, h4, h5, h6, hlen2, g2]
  refine W_draw (fun _ => false) (fun _ => false) (fun _ => false) (by kernel_rfl) (by kernel_rfl) ?_
  simp (disch := first | omega | ((simp only [Ab.next_alloc, Ab.next_upd, List.length_cons, List.length_nil, ne_eq, not_true_eq_false, not_false_eq_true]) <;> omega) | decide) only [↓stepPre, stepPost, ↓W_cond, ↓W_block, ↓reduceIte, Nat.reduceEqDiff, Nat.reduceLT, Nat.reduceLeDiff, List.size_toArray, List.length_cons, List.length_nil, ret0, stVar, isTup, Value.cells, List.set_cons_zero, List.set_cons_succ, Nat.le_refl, Nat.reduceAdd, Nat.reduceMul, Nat.reduceSub, env0, List.getD_cons_zero, List.getD_cons_succ, binV, intV, reduceCtorEq, List.getElem?_cons_succ, List.getElem?_cons_zero, pickV, nilCheckV, ptrV, unV, true_and, and_true, List.map_cons, List.map_nil, Nat.add_zero, Nat.zero_add, Option.isNone_none, Option.isNone_some, Rt, resultsV, allV, resV, Bool.not_true, Bool.not_false, calleeV, builtinV, Option.map_some, Option.map_none, List.cons_append, List.nil_append, List.append_nil, Array.toList_append, List.toList_toArray, eqV, fieldAddrV, ldVar, stN_own, stN_ownL, Int.cast_ofNat_Int, Int.fdiv_eq_ediv_of_nonneg, Int.reduceToNat, Nat.min_eq_left, Int.reducePow, IntKind.bits, convV, ne_eq, not_false_eq_true, not_true_eq_false, Int.reduceNeg, Int.reduceAdd, Int.reduceSub, Int.reduceLT, Int.reduceLE, Option.isSome_some, extractV, decide_true, decide_false, Int.reduceEq, List.getElem?_toArray, mkFuncV, List.map_toArray, beq_self_eq_true, Ty.t30, Tryd.underlying30, Ty.t22, Tryd.underlying22, Ty.t28, Tryd.underlying28, Ty.t3, Tryd.underlying3, Ty.t2, Tryd.underlying2, Ty.t4, Tryd.underlying4, Ty.t24, Tryd.underlying24, getL_take, List.drop_zero, List.drop_succ_cons, List.take_succ_cons, List.take_zero, List.take_nil, h0, h3, h4, h5, h6, hix, i0, i1]
  refine sfind_ok ((l1.mild M2).mild mt') (by omega) (by omega) fun s3 m3 => ?_
  rw [r2]
  have i0' := (l3.mild m3).lds (k := 0) (smL_at hil) rfl
  simp only [Nat.add_zero] at i0'
  simp (disch := first | omega | ((simp only [Ab.next_alloc, Ab.next_upd, List.length_cons, List.length_nil, ne_eq, not_true_eq_false, not_false_eq_true]) <;> omega) | decide) only [↓stepPre, stepPost, ↓W_cond, ↓W_block, ↓reduceIte, Nat.reduceEqDiff, Nat.reduceLT, Nat.reduceLeDiff, List.size_toArray, List.length_cons, List.length_nil, ret0, stVar, isTup, Value.cells, List.set_cons_zero, List.set_cons_succ, Nat.le_refl, Nat.reduceAdd, Nat.reduceMul, Nat.reduceSub, env0, List.getD_cons_zero, List.getD_cons_succ, binV, intV, reduceCtorEq, List.getElem?_cons_succ, List.getElem?_cons_zero, pickV, nilCheckV, ptrV, unV, true_and, and_true, List.map_cons, List.map_nil, Nat.add_zero, Nat.zero_add, Option.isNone_none, Option.isNone_some, Rt, resultsV, allV, resV, Bool.not_true, Bool.not_false, calleeV, builtinV, Option.map_some, Option.map_none, List.cons_append, List.nil_append, List.append_nil, Array.toList_append, List.toList_toArray, eqV, fieldAddrV, ldVar, stN_own, stN_ownL, Int.cast_ofNat_Int, Int.fdiv_eq_ediv_of_nonneg, Int.reduceToNat, Nat.min_eq_left, Int.reducePow, IntKind.bits, convV, ne_eq, not_false_eq_true, not_true_eq_false, Int.reduceNeg, Int.reduceAdd, Int.reduceSub, Int.reduceLT, Int.reduceLE, Option.isSome_some, extractV, decide_true, decide_false, Int.reduceEq, List.getElem?_toArray, mkFuncV, List.map_toArray, beq_self_eq_true, Ty.t30, Tryd.underlying30, Ty.t22, Tryd.underlying22, Ty.t28, Tryd.underlying28, Ty.t3, Tryd.underlying3, Ty.t2, Tryd.underlying2, Ty.t4, Tryd.underlying4, Ty.t24, Tryd.underlying24, getL_take, List.drop_zero, List.drop_succ_cons, List.take_succ_cons, List.take_zero, List.take_nil, h0, h3, h4, h5, h6, hix, i0', Dok_same]
  exact ⟨Dok_mild m3, hil, mt'.trans m3, by simp⟩
end Go.Proofs.YtfbkiocijnjmgaaDoor
