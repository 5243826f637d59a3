/- A few streams that can be, as a contract. -/
import Derived.Test.YthjpfllmecpliaaDoorTypes
import Derived.Test.YthjpfllmecpliaaDoorRow0
import Derived.Test.YthjpfllmecpliaaDoorAbC
import Derived.Test.YthjpfllmecpliaaDoorPure
import Derived.Test.YthjpfllmecpliaaDoorBoxes
import Derived.Test.YthjpfllmecpliaaDoorStreamList
import Derived.Test.YthjpfllmecpliaaDoorStreamNorm
set_option linter.all false
set_option maxRecDepth 20000
namespace Go.Proofs.YthjpfllmecpliaaDoor
open Go Go.Ab
def nxBStreamFew := And.intro @Ab.next_alloc (And.intro @Ab.next_upd (And.intro @List.length_cons.{0} (And.intro @List.length_nil.{0} (And.intro @ne_eq.{1} (And.intro not_true_eq_false not_false_eq_true)))))
def tyB0StreamFew := And.intro @Ty.t55 (And.intro @Tryd.underlying55 (And.intro @Ty.t22 (And.intro @Tryd.underlying22 (And.intro @Ty.t53 (And.intro @Tryd.underlying53 (And.intro @Ty.t3 (And.intro @Tryd.underlying3 (And.intro @Ty.t2 (And.intro @Tryd.underlying2 (And.intro @Ty.t4 (And.intro @Tryd.underlying4 (And.intro @Ty.t29 @Tryd.underlying29))))))))))))
def stBStreamFew := And.intro @List.size_toArray.{0} (And.intro @List.length_cons.{0} (And.intro @List.length_nil.{0} (And.intro @List.set_cons_zero.{0} (And.intro @List.set_cons_succ.{0} (And.intro @List.getD_cons_zero.{0} (And.intro @List.getD_cons_succ.{0} (And.intro @List.getElem?_cons_succ.{0} (And.intro @List.getElem?_cons_zero.{0} (And.intro @List.map_cons.{0,0} (And.intro @List.map_nil.{0,0} (And.intro @Option.isNone_none.{0} (And.intro @Option.isNone_some.{0} (And.intro @Option.map_some.{0,0} (And.intro @Option.map_none.{0,0} (And.intro @List.cons_append.{0} (And.intro @List.nil_append.{0} (And.intro @List.append_nil.{0} (And.intro @Array.toList_append.{0} (And.intro @List.toList_toArray.{0} (And.intro @Int.cast_ofNat_Int (And.intro @Option.isSome_some.{0} (And.intro @List.getElem?_toArray.{0} (And.intro @List.map_toArray.{0,0} (@Nat.min_eq_left))))))))))))))))))))))))
variable {base : Nat} [Bok base] {s : St} {R : Value → St → Prop}
def fewS (xs : List Sm) (i : Nat) : List Sm := (xs.take i).mapIdx fun j x => x.norm j
theorem fewS_len (xs : List Sm) (i : Nat) : (fewS xs i).length = min i xs.length := by simp [fewS]
theorem fewS_succ (xs : List Sm) {i : Nat} (h : i < xs.length) : fewS xs (i + 1) = fewS xs i ++ [xs[i].norm i] := by
  unfold fewS
  rw [List.take_succ_eq_append_getElem h, List.mapIdx_append]
  simp [Nat.min_eq_left (Nat.le_of_lt h)]
theorem fewS_at {xs : List Sm} {i j : Nat} (h : j < (fewS xs i).length) : (fewS xs i)[j] = (xs[j]'(by rw [fewS_len] at h; omega)).norm j := by simp [fewS]
theorem few_ok {v : Value} {xs : List Sm} (hs : Sl base s 7 v (smL xs)) (hn : xs.length ≤ 2 ^ 63 - 1) (hbn : base ≤ s.next) (hR : ∀ v' s', Mild s s' → Sl base s' 7 v' (smL (fewS xs 6)) → (∀ b, inB v' b → s.next ≤ b) → R v' s') :
    WC Tryd.prog base 27 [v] s R := by
  refine WC_open Tryd.func27 rfl ?_
  have hlen := hs.len (P := Tryd.prog) (ts := []) Ty.elem22 Ty.arr22
  rw [smL_len] at hlen
  simp (disch := first | omega | ((simp only [nxBStreamFew]) <;> omega) | decide) only [↓stepPre, stepPost, ↓W_cond, ↓W_block, ↓reduceIte, Nat.reduceEqDiff, Nat.reduceLT, Nat.reduceLeDiff, ret0, stVar, isTup, Value.cells, Nat.le_refl, Nat.reduceAdd, Nat.reduceMul, Nat.reduceSub, env0, binV, intV, reduceCtorEq, pickV, nilCheckV, ptrV, unV, true_and, and_true, Nat.add_zero, Nat.zero_add, Rt, resultsV, allV, resV, Bool.not_true, Bool.not_false, calleeV, builtinV, eqV, fieldAddrV, ldVar, stN_own, stN_ownL, Int.fdiv_eq_ediv_of_nonneg, Int.reduceToNat, Int.reducePow, IntKind.bits, convV, ne_eq, not_false_eq_true, not_true_eq_false, Int.reduceNeg, Int.reduceAdd, Int.reduceSub, Int.reduceLT, Int.reduceLE, extractV, decide_true, decide_false, Int.reduceEq, mkFuncV, stBStreamFew, beq_self_eq_true, tyB0StreamFew]
  refine W_loop_ind (min xs.length 6) (fun i e s1 => Mild s s1 ∧ e 0 = v ∧ e 4 = .int .i64 (i : Int) ∧ ∃ w, e 3 = w ∧ Sl base s1 7 w (smL (fewS xs i)) ∧ Tight base w ∧ ∀ b, inB w b → s.next ≤ b) ?_ ⟨.refl _, rfl, rfl, _, rfl, .nil, trivial, fun b hb => hb.elim⟩
  rintro i e s1 hi ⟨m1, h0, h4, w, h3, l1, t1, f1⟩
  have n1 := m1.next
  have hfin : i = min xs.length 6 → fewS xs i = fewS xs 6 := fun h => by
    subst h
    unfold fewS
    congr 1
    by_cases h6 : xs.length ≤ 6
    · rw [Nat.min_eq_left h6, List.take_length, List.take_of_length_le h6]
    · rw [Nat.min_eq_right (by omega)]
  by_cases h1 : i < xs.length
  rotate_left
  · have g1 : ¬ (i : Int) < (xs.length : Int) := by omega
    rw [hfin (by omega)] at l1
    simp (disch := first | omega | ((simp only [nxBStreamFew]) <;> omega) | decide) only [↓stepPre, stepPost, ↓W_cond, ↓W_block, ↓reduceIte, Nat.reduceEqDiff, Nat.reduceLT, Nat.reduceLeDiff, ret0, stVar, isTup, Value.cells, Nat.le_refl, Nat.reduceAdd, Nat.reduceMul, Nat.reduceSub, env0, binV, intV, reduceCtorEq, pickV, nilCheckV, ptrV, unV, true_and, and_true, Nat.add_zero, Nat.zero_add, Rt, resultsV, allV, resV, Bool.not_true, Bool.not_false, calleeV, builtinV, eqV, fieldAddrV, ldVar, stN_own, stN_ownL, Int.fdiv_eq_ediv_of_nonneg, Int.reduceToNat, Int.reducePow, IntKind.bits, convV, ne_eq, not_false_eq_true, not_true_eq_false, Int.reduceNeg, Int.reduceAdd, Int.reduceSub, Int.reduceLT, Int.reduceLE, extractV, decide_true, decide_false, Int.reduceEq, mkFuncV, stBStreamFew, beq_self_eq_true, tyB0StreamFew, hlen, h0, h3, h4, g1, Tryd.results27]
    exact hR _ _ m1 l1 f1
  have g1 : (i : Int) < (xs.length : Int) := by omega
  by_cases h2 : i < 6
  rotate_left
  · have g2 : ¬ (i : Int) < 6 := by omega
    rw [hfin (by omega)] at l1
    simp (disch := first | omega | ((simp only [nxBStreamFew]) <;> omega) | decide) only [↓stepPre, stepPost, ↓W_cond, ↓W_block, ↓reduceIte, Nat.reduceEqDiff, Nat.reduceLT, Nat.reduceLeDiff, ret0, stVar, isTup, Value.cells, Nat.le_refl, Nat.reduceAdd, Nat.reduceMul, Nat.reduceSub, env0, binV, intV, reduceCtorEq, pickV, nilCheckV, ptrV, unV, true_and, and_true, Nat.add_zero, Nat.zero_add, Rt, resultsV, allV, resV, Bool.not_true, Bool.not_false, calleeV, builtinV, eqV, fieldAddrV, ldVar, stN_own, stN_ownL, Int.fdiv_eq_ediv_of_nonneg, Int.reduceToNat, Int.reducePow, IntKind.bits, convV, ne_eq, not_false_eq_true, not_true_eq_false, Int.reduceNeg, Int.reduceAdd, Int.reduceSub, Int.reduceLT, Int.reduceLE, extractV, decide_true, decide_false, Int.reduceEq, mkFuncV, stBStreamFew, beq_self_eq_true, tyB0StreamFew, hlen, h0, h3, h4, g1, g2, Tryd.results27]
    exact hR _ _ m1 l1 f1
  have g2 : (i : Int) < 6 := by omega
  have v2 := hs.mild m1
  have hix := v2.index (P := Tryd.prog) (k := .i64) (i := (i : Int)) Ty.elem22 Ty.siz55 (by omega) (by rw [smL_len]; omega)
  rw [Int.toNat_natCast] at hix
  have hld := v2.loadA (smL_at h1) Ty.agg55 Ty.siz55
  simp (disch := first | omega | ((simp only [nxBStreamFew]) <;> omega) | decide) only [↓stepPre, stepPost, ↓W_cond, ↓W_block, ↓reduceIte, Nat.reduceEqDiff, Nat.reduceLT, Nat.reduceLeDiff, ret0, stVar, isTup, Value.cells, Nat.le_refl, Nat.reduceAdd, Nat.reduceMul, Nat.reduceSub, env0, binV, intV, reduceCtorEq, pickV, nilCheckV, ptrV, unV, true_and, and_true, Nat.add_zero, Nat.zero_add, Rt, resultsV, allV, resV, Bool.not_true, Bool.not_false, calleeV, builtinV, eqV, fieldAddrV, ldVar, stN_own, stN_ownL, Int.fdiv_eq_ediv_of_nonneg, Int.reduceToNat, Int.reducePow, IntKind.bits, convV, ne_eq, not_false_eq_true, not_true_eq_false, Int.reduceNeg, Int.reduceAdd, Int.reduceSub, Int.reduceLT, Int.reduceLE, extractV, decide_true, decide_false, Int.reduceEq, mkFuncV, stBStreamFew, beq_self_eq_true, tyB0StreamFew, getL_take, List.drop_zero, List.drop_succ_cons, List.take_succ_cons, List.take_zero, List.take_nil, hlen, h0, h3, h4, g1, g2, hix, hld]
  refine norm_p ?_
  have hb := build1 (P := Tryd.prog) (s := s1) (l := (xs[i].norm i).c) (zr := [.int .i64 0, .int .i64 0, .int .i64 0, .int .i64 0, .int .i64 0, .int .i64 0, .int .i64 0]) Ty.elem22 Ty.siz55 Ty.zer55 rfl rfl (by omega) (by omega)
  have hnew : Sl base (s1.alloc (.row (xs[i].norm i).c)) 7 (.slice (some ⟨s1.next, 0, none⟩) 1 1) [(xs[i].norm i).c] := .newRow (Ab.heap_alloc_new _ _) (by simp) rfl (by simp) (by omega) (by simp only [Ab.next_alloc]; omega)
  obtain ⟨v', s', e1, e2, e3, e4, e5, e6⟩ := appB_ok (P := Tryd.prog) (l1.mild (Mild.alloc s1 (.row (xs[i].norm i).c))) t1 (by simp only [Ab.next_alloc]; omega) Ty.elem22 Ty.int22 Ty.und22 Ty.siz55 (by decide) Ty.zer55 rfl Ty.byt55 hnew (by simp [fewS_len]; omega)
  have n2 := e4.next
  simp only [Ab.next_alloc] at n2
  simp (disch := first | omega | ((simp only [nxBStreamFew]) <;> omega) | decide) only [↓stepPre, stepPost, ↓W_cond, ↓W_block, ↓reduceIte, Nat.reduceEqDiff, Nat.reduceLT, Nat.reduceLeDiff, ret0, stVar, isTup, Value.cells, Nat.le_refl, Nat.reduceAdd, Nat.reduceMul, Nat.reduceSub, env0, binV, intV, reduceCtorEq, pickV, nilCheckV, ptrV, unV, true_and, and_true, Nat.add_zero, Nat.zero_add, Rt, resultsV, allV, resV, Bool.not_true, Bool.not_false, calleeV, builtinV, eqV, fieldAddrV, ldVar, stN_own, stN_ownL, Int.fdiv_eq_ediv_of_nonneg, Int.reduceToNat, Int.reducePow, IntKind.bits, convV, ne_eq, not_false_eq_true, not_true_eq_false, Int.reduceNeg, Int.reduceAdd, Int.reduceSub, Int.reduceLT, Int.reduceLE, extractV, decide_true, decide_false, Int.reduceEq, mkFuncV, stBStreamFew, beq_self_eq_true, tyB0StreamFew, getL_take, List.drop_zero, List.drop_succ_cons, List.take_succ_cons, List.take_zero, List.take_nil, hlen, h0, h3, h4, g1, g2, hb, e1]
  refine ⟨by omega, ?_, by simp, _, rfl, ?_, e3, fun b hb => ?_⟩
  · exact (Ch.after (Ch.of_mild (m1.alloc' (o := .row (xs[i].norm i).c)) (fun k => s.next ≤ k)) e4 fun k _ h => f1 k h).mild fun k hk h => by omega
  · rw [fewS_succ xs h1]
    simpa using e2
  · have := e5 (by simp) b hb; simp only [Ab.next_alloc] at this; omega
end Go.Proofs.YthjpfllmecpliaaDoor
