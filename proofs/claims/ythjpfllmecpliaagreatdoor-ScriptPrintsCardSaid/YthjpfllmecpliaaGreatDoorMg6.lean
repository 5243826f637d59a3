/- Texts of our own, one behind the other: ScrCfg, StreamList, StreamFind, Range. -/
import Derived.Test.YthjpfllmecpliaaGreatDoorMg4
import Derived.Test.YthjpfllmecpliaaGreatDoorMg3
import Derived.Test.YthjpfllmecpliaaGreatDoorMg5
/- Configurations that can be (osc, accord, rank, and the documents): as contracts. -/
set_option linter.all false
set_option maxRecDepth 20000
namespace Go.Proofs.YthjpfllmecpliaaGreatDoor
open Go Go.Ab
def spBScrCfg := And.intro @Nat.le_refl (And.intro @true_and (And.intro @and_true (And.intro @Nat.add_zero (And.intro @Nat.zero_add (And.intro @Bool.not_true (And.intro @Bool.not_false (And.intro @ne_eq.{1} (And.intro @not_false_eq_true (And.intro @not_true_eq_false (And.intro @decide_true (And.intro @decide_false (@Int.fdiv_eq_ediv_of_nonneg))))))))))))
def nxBScrCfg := And.intro @Ab.next_alloc (And.intro @Ab.next_upd (And.intro @List.length_cons.{0} (And.intro @List.length_nil.{0} (And.intro @ne_eq.{1} (And.intro not_true_eq_false not_false_eq_true)))))
def tyB0ScrCfg := And.intro @Ty.t24 (And.intro @Tryz.underlying24 (And.intro @Ty.t72 (And.intro @Tryz.underlying72 (And.intro @Ty.t76 (And.intro @Tryz.underlying76 (And.intro @Ty.t93 (And.intro @Tryz.underlying93 (And.intro @Ty.t96 (And.intro @Tryz.underlying96 (And.intro @Ty.t2 (And.intro @Tryz.underlying2 (And.intro @Ty.t3 (And.intro @Tryz.underlying3 (And.intro @Ty.t4 @Tryz.underlying4))))))))))))))
def stBScrCfg := And.intro @List.size_toArray.{0} (And.intro @List.length_cons.{0} (And.intro @List.length_nil.{0} (And.intro @List.set_cons_zero.{0} (And.intro @List.set_cons_succ.{0} (And.intro @List.getD_cons_zero.{0} (And.intro @List.getD_cons_succ.{0} (And.intro @List.getElem?_cons_succ.{0} (And.intro @List.getElem?_cons_zero.{0} (And.intro @List.map_cons.{0,0} (And.intro @List.map_nil.{0,0} (And.intro @Option.isNone_none.{0} (And.intro @Option.isNone_some.{0} (And.intro @Option.map_some.{0,0} (And.intro @Option.map_none.{0,0} (And.intro @List.cons_append.{0} (And.intro @List.nil_append.{0} (And.intro @List.append_nil.{0} (And.intro @Array.toList_append.{0} (And.intro @List.toList_toArray.{0} (And.intro @Int.cast_ofNat_Int (And.intro @Option.isSome_some.{0} (And.intro @List.getElem?_toArray.{0} (And.intro @List.map_toArray.{0,0} (@Nat.min_eq_left))))))))))))))))))))))))
def glBScrCfg := And.intro @List.drop_zero.{0} (And.intro @List.drop_succ_cons.{0} (And.intro @List.take_succ_cons.{0} (And.intro @List.take_zero.{0} (@List.take_nil.{0}))))
variable {base : Nat} [Bok base] {s : St} {R : Value → St → Prop}
def beatB (n d : Int) : Bool := decide (1 ≤ n ∧ n ≤ 1048576 ∧ 0 ≤ d ∧ d < n)
def rankB (b st p : Int) : Bool := decide (1 ≤ p ∧ p ≤ 1000 ∧ 1 ≤ st ∧ st ≤ 1000 ∧ p ≤ b ∧ b ≤ 10000)
def confB (n d t : Int) : Bool := beatB n d && decide (0 ≤ t ∧ t ≤ 4096)
theorem clamp_iff {a lo hi : Int} (h : lo ≤ hi) : (a = if a < lo then lo else if hi < a then hi else a) ↔ (lo ≤ a ∧ a ≤ hi) := by
  split
  · omega
  · split <;> omega
theorem osc_p {n d : Int} (hn : -9223372036854775808 ≤ n) (hR : R (.bool (beatB n d)) s) : WC Tryz.prog base 53 [.agg #[.int .i64 n, .int .i64 d]] s R := by
  refine WC_pureG rfl rfl (fun base s hB hn0 => ?_) hR
  clear hR
  refine WC_open Tryz.func53 rfl ?_
  generalize hr : beatB n d = b
  unfold beatB at hr
  simp (disch := first | omega | ((simp only [nxBScrCfg]) <;> omega) | decide) only [↓stepPre, stepPost, ↓W_cond, ↓W_block, ↓reduceIte, Nat.reduceEqDiff, Nat.reduceLT, Nat.reduceLeDiff, ret0, stVar, isTup, Value.cells, Nat.reduceAdd, Nat.reduceMul, Nat.reduceSub, env0, binV, intV, reduceCtorEq, pickV, nilCheckV, ptrV, unV, Rt, resultsV, allV, resV, calleeV, builtinV, eqV, fieldAddrV, ldVar, stN_own, stN_ownL, Int.reduceToNat, Int.reducePow, IntKind.bits, convV, Int.reduceNeg, Int.reduceAdd, Int.reduceSub, Int.reduceLT, Int.reduceLE, extractV, Int.reduceEq, mkFuncV, stBScrCfg, spBScrCfg, beq_self_eq_true, tyB0ScrCfg, getL_take, glBScrCfg]
  refine W_draw (fun _ => false) (fun _ => false) (fun _ => false) (by kernel_rfl) (by kernel_rfl) ?_
  simp (disch := first | omega | ((simp only [nxBScrCfg]) <;> omega) | decide) only [↓stepPre, stepPost, ↓W_cond, ↓W_block, ↓reduceIte, Nat.reduceEqDiff, Nat.reduceLT, Nat.reduceLeDiff, ret0, stVar, isTup, Value.cells, Nat.reduceAdd, Nat.reduceMul, Nat.reduceSub, env0, binV, intV, reduceCtorEq, pickV, nilCheckV, ptrV, unV, Rt, resultsV, allV, resV, calleeV, builtinV, eqV, fieldAddrV, ldVar, stN_own, stN_ownL, Int.reduceToNat, Int.reducePow, IntKind.bits, convV, Int.reduceNeg, Int.reduceAdd, Int.reduceSub, Int.reduceLT, Int.reduceLE, extractV, Int.reduceEq, mkFuncV, stBScrCfg, spBScrCfg, beq_self_eq_true, tyB0ScrCfg, getL_take, glBScrCfg]
  refine clamp_p ?_
  by_cases h1 : 1 ≤ n ∧ n ≤ 1048576
  rotate_left
  · have e1 : ¬ n = if n < 1 then 1 else if 1048576 < n then 1048576 else n := fun h => h1 ((clamp_iff (by omega)).1 h)
    generalize (if n < 1 then (1 : Int) else if 1048576 < n then 1048576 else n) = c at e1 ⊢
    rw [decide_eq_false (fun h => h1 ⟨h.1, h.2.1⟩)] at hr
    subst hr
    simp (disch := first | omega | ((simp only [nxBScrCfg]) <;> omega) | decide) only [↓stepPre, stepPost, ↓W_cond, ↓W_block, ↓reduceIte, Nat.reduceEqDiff, Nat.reduceLT, Nat.reduceLeDiff, ret0, stVar, isTup, Value.cells, Nat.reduceAdd, Nat.reduceMul, Nat.reduceSub, env0, binV, intV, reduceCtorEq, pickV, nilCheckV, ptrV, unV, Rt, resultsV, allV, resV, calleeV, builtinV, eqV, fieldAddrV, ldVar, stN_own, stN_ownL, Int.reduceToNat, Int.reducePow, IntKind.bits, convV, Int.reduceNeg, Int.reduceAdd, Int.reduceSub, Int.reduceLT, Int.reduceLE, extractV, Int.reduceEq, mkFuncV, stBScrCfg, spBScrCfg, beq_self_eq_true, tyB0ScrCfg, getL_take, glBScrCfg, Dok_same, e1, Tryz.results53]
  have e1 : n = if n < 1 then 1 else if 1048576 < n then 1048576 else n := (clamp_iff (by omega)).2 h1
  rw [← e1]
  simp (disch := first | omega | ((simp only [nxBScrCfg]) <;> omega) | decide) only [↓stepPre, stepPost, ↓W_cond, ↓W_block, ↓reduceIte, Nat.reduceEqDiff, Nat.reduceLT, Nat.reduceLeDiff, ret0, stVar, isTup, Value.cells, Nat.reduceAdd, Nat.reduceMul, Nat.reduceSub, env0, binV, intV, reduceCtorEq, pickV, nilCheckV, ptrV, unV, Rt, resultsV, allV, resV, calleeV, builtinV, eqV, fieldAddrV, ldVar, stN_own, stN_ownL, Int.reduceToNat, Int.reducePow, IntKind.bits, convV, Int.reduceNeg, Int.reduceAdd, Int.reduceSub, Int.reduceLT, Int.reduceLE, extractV, Int.reduceEq, mkFuncV, stBScrCfg, spBScrCfg, beq_self_eq_true, tyB0ScrCfg, getL_take, glBScrCfg, Dok_same, eq_self]
  refine clamp_p ?_
  by_cases h2 : 0 ≤ d ∧ d ≤ n - 1
  · have e2 : d = if d < 0 then 0 else if n - 1 < d then n - 1 else d := (clamp_iff (by omega)).2 h2
    rw [← e2]
    rw [decide_eq_true ⟨h1.1, h1.2, h2.1, by omega⟩] at hr
    subst hr
    simp (disch := first | omega | ((simp only [nxBScrCfg]) <;> omega) | decide) only [↓stepPre, stepPost, ↓W_cond, ↓W_block, ↓reduceIte, Nat.reduceEqDiff, Nat.reduceLT, Nat.reduceLeDiff, ret0, stVar, isTup, Value.cells, Nat.reduceAdd, Nat.reduceMul, Nat.reduceSub, env0, binV, intV, reduceCtorEq, pickV, nilCheckV, ptrV, unV, Rt, resultsV, allV, resV, calleeV, builtinV, eqV, fieldAddrV, ldVar, stN_own, stN_ownL, Int.reduceToNat, Int.reducePow, IntKind.bits, convV, Int.reduceNeg, Int.reduceAdd, Int.reduceSub, Int.reduceLT, Int.reduceLE, extractV, Int.reduceEq, mkFuncV, stBScrCfg, spBScrCfg, beq_self_eq_true, tyB0ScrCfg, getL_take, glBScrCfg, Dok_same, eq_self, Tryz.results53]
  · have e2 : ¬ d = if d < 0 then 0 else if n - 1 < d then n - 1 else d := fun h => h2 ((clamp_iff (by omega)).1 h)
    generalize (if d < 0 then (0 : Int) else if n - 1 < d then n - 1 else d) = c at e2 ⊢
    rw [decide_eq_false (fun h => h2 ⟨h.2.2.1, by omega⟩)] at hr
    subst hr
    simp (disch := first | omega | ((simp only [nxBScrCfg]) <;> omega) | decide) only [↓stepPre, stepPost, ↓W_cond, ↓W_block, ↓reduceIte, Nat.reduceEqDiff, Nat.reduceLT, Nat.reduceLeDiff, ret0, stVar, isTup, Value.cells, Nat.reduceAdd, Nat.reduceMul, Nat.reduceSub, env0, binV, intV, reduceCtorEq, pickV, nilCheckV, ptrV, unV, Rt, resultsV, allV, resV, calleeV, builtinV, eqV, fieldAddrV, ldVar, stN_own, stN_ownL, Int.reduceToNat, Int.reducePow, IntKind.bits, convV, Int.reduceNeg, Int.reduceAdd, Int.reduceSub, Int.reduceLT, Int.reduceLE, extractV, Int.reduceEq, mkFuncV, stBScrCfg, spBScrCfg, beq_self_eq_true, tyB0ScrCfg, getL_take, glBScrCfg, Dok_same, e2, Tryz.results53]
theorem acc_p {n d t : Int} (hn : -9223372036854775808 ≤ n) (hR : R (.bool (confB n d t)) s) : WC Tryz.prog base 35 [.agg #[.int .i64 n, .int .i64 d, .int .i64 t]] s R := by
  refine WC_pureG rfl rfl (fun base s hB hn0 => ?_) hR
  clear hR
  refine WC_open Tryz.func35 rfl ?_
  generalize hr : confB n d t = b
  unfold confB at hr
  simp (disch := first | omega | ((simp only [nxBScrCfg]) <;> omega) | decide) only [↓stepPre, stepPost, ↓W_cond, ↓W_block, ↓reduceIte, Nat.reduceEqDiff, Nat.reduceLT, Nat.reduceLeDiff, ret0, stVar, isTup, Value.cells, Nat.reduceAdd, Nat.reduceMul, Nat.reduceSub, env0, binV, intV, reduceCtorEq, pickV, nilCheckV, ptrV, unV, Rt, resultsV, allV, resV, calleeV, builtinV, eqV, fieldAddrV, ldVar, stN_own, stN_ownL, Int.reduceToNat, Int.reducePow, IntKind.bits, convV, Int.reduceNeg, Int.reduceAdd, Int.reduceSub, Int.reduceLT, Int.reduceLE, extractV, Int.reduceEq, mkFuncV, stBScrCfg, spBScrCfg, beq_self_eq_true, tyB0ScrCfg, getL_take, glBScrCfg]
  refine osc_p hn ?_
  cases hb : beatB n d with
  | false =>
    rw [hb, Bool.false_and] at hr
    subst hr
    simp (disch := first | omega | ((simp only [nxBScrCfg]) <;> omega) | decide) only [↓stepPre, stepPost, ↓W_cond, ↓W_block, ↓reduceIte, Nat.reduceEqDiff, Nat.reduceLT, Nat.reduceLeDiff, ret0, stVar, isTup, Value.cells, Nat.reduceAdd, Nat.reduceMul, Nat.reduceSub, env0, binV, intV, reduceCtorEq, pickV, nilCheckV, ptrV, unV, Rt, resultsV, allV, resV, calleeV, builtinV, eqV, fieldAddrV, ldVar, stN_own, stN_ownL, Int.reduceToNat, Int.reducePow, IntKind.bits, convV, Int.reduceNeg, Int.reduceAdd, Int.reduceSub, Int.reduceLT, Int.reduceLE, extractV, Int.reduceEq, mkFuncV, stBScrCfg, spBScrCfg, beq_self_eq_true, tyB0ScrCfg, getL_take, glBScrCfg, Dok_same, Tryz.results35]
  | true =>
    rw [hb, Bool.true_and] at hr
    simp (disch := first | omega | ((simp only [nxBScrCfg]) <;> omega) | decide) only [↓stepPre, stepPost, ↓W_cond, ↓W_block, ↓reduceIte, Nat.reduceEqDiff, Nat.reduceLT, Nat.reduceLeDiff, ret0, stVar, isTup, Value.cells, Nat.reduceAdd, Nat.reduceMul, Nat.reduceSub, env0, binV, intV, reduceCtorEq, pickV, nilCheckV, ptrV, unV, Rt, resultsV, allV, resV, calleeV, builtinV, eqV, fieldAddrV, ldVar, stN_own, stN_ownL, Int.reduceToNat, Int.reducePow, IntKind.bits, convV, Int.reduceNeg, Int.reduceAdd, Int.reduceSub, Int.reduceLT, Int.reduceLE, extractV, Int.reduceEq, mkFuncV, stBScrCfg, spBScrCfg, beq_self_eq_true, tyB0ScrCfg, getL_take, glBScrCfg, Dok_same]
    refine WC_open Tryz.func54 rfl ?_
    simp (disch := first | omega | ((simp only [nxBScrCfg]) <;> omega) | decide) only [↓stepPre, stepPost, ↓W_cond, ↓W_block, ↓reduceIte, Nat.reduceEqDiff, Nat.reduceLT, Nat.reduceLeDiff, ret0, stVar, isTup, Value.cells, Nat.reduceAdd, Nat.reduceMul, Nat.reduceSub, env0, binV, intV, reduceCtorEq, pickV, nilCheckV, ptrV, unV, Rt, resultsV, allV, resV, calleeV, builtinV, eqV, fieldAddrV, ldVar, stN_own, stN_ownL, Int.reduceToNat, Int.reducePow, IntKind.bits, convV, Int.reduceNeg, Int.reduceAdd, Int.reduceSub, Int.reduceLT, Int.reduceLE, extractV, Int.reduceEq, mkFuncV, stBScrCfg, spBScrCfg, beq_self_eq_true, tyB0ScrCfg, getL_take, glBScrCfg]
    refine clamp_p ?_
    by_cases h2 : 0 ≤ t ∧ t ≤ 4096
    · have e2 : t = if t < 0 then 0 else if 4096 < t then 4096 else t := (clamp_iff (by omega)).2 h2
      rw [← e2]
      rw [decide_eq_true h2] at hr
      subst hr
      simp (disch := first | omega | ((simp only [nxBScrCfg]) <;> omega) | decide) only [↓stepPre, stepPost, ↓W_cond, ↓W_block, ↓reduceIte, Nat.reduceEqDiff, Nat.reduceLT, Nat.reduceLeDiff, ret0, stVar, isTup, Value.cells, Nat.reduceAdd, Nat.reduceMul, Nat.reduceSub, env0, binV, intV, reduceCtorEq, pickV, nilCheckV, ptrV, unV, Rt, resultsV, allV, resV, calleeV, builtinV, eqV, fieldAddrV, ldVar, stN_own, stN_ownL, Int.reduceToNat, Int.reducePow, IntKind.bits, convV, Int.reduceNeg, Int.reduceAdd, Int.reduceSub, Int.reduceLT, Int.reduceLE, extractV, Int.reduceEq, mkFuncV, stBScrCfg, spBScrCfg, beq_self_eq_true, tyB0ScrCfg, getL_take, glBScrCfg, Dok_same, eq_self, Tryz.results54, Tryz.results35]
    · have e2 : ¬ t = if t < 0 then 0 else if 4096 < t then 4096 else t := fun h => h2 ((clamp_iff (by omega)).1 h)
      generalize (if t < 0 then (0 : Int) else if 4096 < t then 4096 else t) = c at e2 ⊢
      rw [decide_eq_false h2] at hr
      subst hr
      simp (disch := first | omega | ((simp only [nxBScrCfg]) <;> omega) | decide) only [↓stepPre, stepPost, ↓W_cond, ↓W_block, ↓reduceIte, Nat.reduceEqDiff, Nat.reduceLT, Nat.reduceLeDiff, ret0, stVar, isTup, Value.cells, Nat.reduceAdd, Nat.reduceMul, Nat.reduceSub, env0, binV, intV, reduceCtorEq, pickV, nilCheckV, ptrV, unV, Rt, resultsV, allV, resV, calleeV, builtinV, eqV, fieldAddrV, ldVar, stN_own, stN_ownL, Int.reduceToNat, Int.reducePow, IntKind.bits, convV, Int.reduceNeg, Int.reduceAdd, Int.reduceSub, Int.reduceLT, Int.reduceLE, extractV, Int.reduceEq, mkFuncV, stBScrCfg, spBScrCfg, beq_self_eq_true, tyB0ScrCfg, getL_take, glBScrCfg, Dok_same, e2, Tryz.results54, Tryz.results35]
theorem rwithin_p {n lo hi : Int} (hR : R (.bool (decide (lo ≤ n ∧ n ≤ hi))) s) : WC Tryz.prog base 55 [.int .i64 n, .int .i64 lo, .int .i64 hi] s R := by
  refine WC_open Tryz.func55 rfl ?_
  by_cases h1 : lo ≤ n
  · have h1' : n ≥ lo := h1
    by_cases h2 : n ≤ hi
    · rw [decide_eq_true ⟨h1, h2⟩] at hR
      simp (disch := first | omega | ((simp only [nxBScrCfg]) <;> omega) | decide) only [↓stepPre, stepPost, ↓W_cond, ↓W_block, ↓reduceIte, Nat.reduceEqDiff, Nat.reduceLT, Nat.reduceLeDiff, ret0, stVar, isTup, Value.cells, Nat.reduceAdd, Nat.reduceMul, Nat.reduceSub, env0, binV, intV, reduceCtorEq, pickV, nilCheckV, ptrV, unV, Rt, resultsV, allV, resV, calleeV, builtinV, eqV, fieldAddrV, ldVar, stN_own, stN_ownL, Int.reduceToNat, Int.reducePow, IntKind.bits, convV, Int.reduceNeg, Int.reduceAdd, Int.reduceSub, Int.reduceLT, Int.reduceLE, extractV, Int.reduceEq, mkFuncV, stBScrCfg, spBScrCfg, beq_self_eq_true, tyB0ScrCfg, h1, h1', h2, Tryz.results55]
      exact hR
    · rw [decide_eq_false (fun h => h2 h.2)] at hR
      simp (disch := first | omega | ((simp only [nxBScrCfg]) <;> omega) | decide) only [↓stepPre, stepPost, ↓W_cond, ↓W_block, ↓reduceIte, Nat.reduceEqDiff, Nat.reduceLT, Nat.reduceLeDiff, ret0, stVar, isTup, Value.cells, Nat.reduceAdd, Nat.reduceMul, Nat.reduceSub, env0, binV, intV, reduceCtorEq, pickV, nilCheckV, ptrV, unV, Rt, resultsV, allV, resV, calleeV, builtinV, eqV, fieldAddrV, ldVar, stN_own, stN_ownL, Int.reduceToNat, Int.reducePow, IntKind.bits, convV, Int.reduceNeg, Int.reduceAdd, Int.reduceSub, Int.reduceLT, Int.reduceLE, extractV, Int.reduceEq, mkFuncV, stBScrCfg, spBScrCfg, beq_self_eq_true, tyB0ScrCfg, h1, h1', h2, Tryz.results55]
      exact hR
  · have h1' : ¬ n ≥ lo := h1
    rw [decide_eq_false (fun h => h1 h.1)] at hR
    simp (disch := first | omega | ((simp only [nxBScrCfg]) <;> omega) | decide) only [↓stepPre, stepPost, ↓W_cond, ↓W_block, ↓reduceIte, Nat.reduceEqDiff, Nat.reduceLT, Nat.reduceLeDiff, ret0, stVar, isTup, Value.cells, Nat.reduceAdd, Nat.reduceMul, Nat.reduceSub, env0, binV, intV, reduceCtorEq, pickV, nilCheckV, ptrV, unV, Rt, resultsV, allV, resV, calleeV, builtinV, eqV, fieldAddrV, ldVar, stN_own, stN_ownL, Int.reduceToNat, Int.reducePow, IntKind.bits, convV, Int.reduceNeg, Int.reduceAdd, Int.reduceSub, Int.reduceLT, Int.reduceLE, extractV, Int.reduceEq, mkFuncV, stBScrCfg, spBScrCfg, beq_self_eq_true, tyB0ScrCfg, h1, h1', Tryz.results55]
    exact hR
theorem rank_p {b st p : Int} (hR : R (.bool (rankB b st p)) s) : WC Tryz.prog base 36 [.agg #[.int .i64 b, .int .i64 st, .int .i64 p]] s R := by
  refine WC_pureG rfl rfl (fun base s hB hn0 => ?_) hR
  clear hR
  refine WC_open Tryz.func36 rfl ?_
  generalize hr : rankB b st p = r
  unfold rankB at hr
  simp (disch := first | omega | ((simp only [nxBScrCfg]) <;> omega) | decide) only [↓stepPre, stepPost, ↓W_cond, ↓W_block, ↓reduceIte, Nat.reduceEqDiff, Nat.reduceLT, Nat.reduceLeDiff, ret0, stVar, isTup, Value.cells, Nat.reduceAdd, Nat.reduceMul, Nat.reduceSub, env0, binV, intV, reduceCtorEq, pickV, nilCheckV, ptrV, unV, Rt, resultsV, allV, resV, calleeV, builtinV, eqV, fieldAddrV, ldVar, stN_own, stN_ownL, Int.reduceToNat, Int.reducePow, IntKind.bits, convV, Int.reduceNeg, Int.reduceAdd, Int.reduceSub, Int.reduceLT, Int.reduceLE, extractV, Int.reduceEq, mkFuncV, stBScrCfg, spBScrCfg, beq_self_eq_true, tyB0ScrCfg, getL_take, glBScrCfg]
  refine rwithin_p ?_
  by_cases h1 : 1 ≤ p ∧ p ≤ 1000
  rotate_left
  · rw [decide_eq_false h1]
    rw [decide_eq_false (fun h => h1 ⟨h.1, h.2.1⟩)] at hr
    subst hr
    simp (disch := first | omega | ((simp only [nxBScrCfg]) <;> omega) | decide) only [↓stepPre, stepPost, ↓W_cond, ↓W_block, ↓reduceIte, Nat.reduceEqDiff, Nat.reduceLT, Nat.reduceLeDiff, ret0, stVar, isTup, Value.cells, Nat.reduceAdd, Nat.reduceMul, Nat.reduceSub, env0, binV, intV, reduceCtorEq, pickV, nilCheckV, ptrV, unV, Rt, resultsV, allV, resV, calleeV, builtinV, eqV, fieldAddrV, ldVar, stN_own, stN_ownL, Int.reduceToNat, Int.reducePow, IntKind.bits, convV, Int.reduceNeg, Int.reduceAdd, Int.reduceSub, Int.reduceLT, Int.reduceLE, extractV, Int.reduceEq, mkFuncV, stBScrCfg, spBScrCfg, beq_self_eq_true, tyB0ScrCfg, getL_take, glBScrCfg, Dok_same, Tryz.results36]
  rw [decide_eq_true h1]
  simp (disch := first | omega | ((simp only [nxBScrCfg]) <;> omega) | decide) only [↓stepPre, stepPost, ↓W_cond, ↓W_block, ↓reduceIte, Nat.reduceEqDiff, Nat.reduceLT, Nat.reduceLeDiff, ret0, stVar, isTup, Value.cells, Nat.reduceAdd, Nat.reduceMul, Nat.reduceSub, env0, binV, intV, reduceCtorEq, pickV, nilCheckV, ptrV, unV, Rt, resultsV, allV, resV, calleeV, builtinV, eqV, fieldAddrV, ldVar, stN_own, stN_ownL, Int.reduceToNat, Int.reducePow, IntKind.bits, convV, Int.reduceNeg, Int.reduceAdd, Int.reduceSub, Int.reduceLT, Int.reduceLE, extractV, Int.reduceEq, mkFuncV, stBScrCfg, spBScrCfg, beq_self_eq_true, tyB0ScrCfg, getL_take, glBScrCfg, Dok_same]
  refine rwithin_p ?_
  by_cases h2 : 1 ≤ st ∧ st ≤ 1000
  rotate_left
  · rw [decide_eq_false h2]
    rw [decide_eq_false (fun h => h2 ⟨h.2.2.1, h.2.2.2.1⟩)] at hr
    subst hr
    simp (disch := first | omega | ((simp only [nxBScrCfg]) <;> omega) | decide) only [↓stepPre, stepPost, ↓W_cond, ↓W_block, ↓reduceIte, Nat.reduceEqDiff, Nat.reduceLT, Nat.reduceLeDiff, ret0, stVar, isTup, Value.cells, Nat.reduceAdd, Nat.reduceMul, Nat.reduceSub, env0, binV, intV, reduceCtorEq, pickV, nilCheckV, ptrV, unV, Rt, resultsV, allV, resV, calleeV, builtinV, eqV, fieldAddrV, ldVar, stN_own, stN_ownL, Int.reduceToNat, Int.reducePow, IntKind.bits, convV, Int.reduceNeg, Int.reduceAdd, Int.reduceSub, Int.reduceLT, Int.reduceLE, extractV, Int.reduceEq, mkFuncV, stBScrCfg, spBScrCfg, beq_self_eq_true, tyB0ScrCfg, getL_take, glBScrCfg, Dok_same, Tryz.results36]
  rw [decide_eq_true h2]
  simp (disch := first | omega | ((simp only [nxBScrCfg]) <;> omega) | decide) only [↓stepPre, stepPost, ↓W_cond, ↓W_block, ↓reduceIte, Nat.reduceEqDiff, Nat.reduceLT, Nat.reduceLeDiff, ret0, stVar, isTup, Value.cells, Nat.reduceAdd, Nat.reduceMul, Nat.reduceSub, env0, binV, intV, reduceCtorEq, pickV, nilCheckV, ptrV, unV, Rt, resultsV, allV, resV, calleeV, builtinV, eqV, fieldAddrV, ldVar, stN_own, stN_ownL, Int.reduceToNat, Int.reducePow, IntKind.bits, convV, Int.reduceNeg, Int.reduceAdd, Int.reduceSub, Int.reduceLT, Int.reduceLE, extractV, Int.reduceEq, mkFuncV, stBScrCfg, spBScrCfg, beq_self_eq_true, tyB0ScrCfg, getL_take, glBScrCfg, Dok_same]
  refine rwithin_p ?_
  by_cases h3 : p ≤ b ∧ b ≤ 10000
  rotate_left
  · rw [decide_eq_false h3]
    rw [decide_eq_false (fun h => h3 ⟨h.2.2.2.2.1, h.2.2.2.2.2⟩)] at hr
    subst hr
    simp (disch := first | omega | ((simp only [nxBScrCfg]) <;> omega) | decide) only [↓stepPre, stepPost, ↓W_cond, ↓W_block, ↓reduceIte, Nat.reduceEqDiff, Nat.reduceLT, Nat.reduceLeDiff, ret0, stVar, isTup, Value.cells, Nat.reduceAdd, Nat.reduceMul, Nat.reduceSub, env0, binV, intV, reduceCtorEq, pickV, nilCheckV, ptrV, unV, Rt, resultsV, allV, resV, calleeV, builtinV, eqV, fieldAddrV, ldVar, stN_own, stN_ownL, Int.reduceToNat, Int.reducePow, IntKind.bits, convV, Int.reduceNeg, Int.reduceAdd, Int.reduceSub, Int.reduceLT, Int.reduceLE, extractV, Int.reduceEq, mkFuncV, stBScrCfg, spBScrCfg, beq_self_eq_true, tyB0ScrCfg, getL_take, glBScrCfg, Dok_same, Tryz.results36]
  rw [decide_eq_true h3]
  rw [decide_eq_true ⟨h1.1, h1.2, h2.1, h2.2, h3.1, h3.2⟩] at hr
  subst hr
  simp (disch := first | omega | ((simp only [nxBScrCfg]) <;> omega) | decide) only [↓stepPre, stepPost, ↓W_cond, ↓W_block, ↓reduceIte, Nat.reduceEqDiff, Nat.reduceLT, Nat.reduceLeDiff, ret0, stVar, isTup, Value.cells, Nat.reduceAdd, Nat.reduceMul, Nat.reduceSub, env0, binV, intV, reduceCtorEq, pickV, nilCheckV, ptrV, unV, Rt, resultsV, allV, resV, calleeV, builtinV, eqV, fieldAddrV, ldVar, stN_own, stN_ownL, Int.reduceToNat, Int.reducePow, IntKind.bits, convV, Int.reduceNeg, Int.reduceAdd, Int.reduceSub, Int.reduceLT, Int.reduceLE, extractV, Int.reduceEq, mkFuncV, stBScrCfg, spBScrCfg, beq_self_eq_true, tyB0ScrCfg, getL_take, glBScrCfg, Dok_same, Tryz.results36]
theorem rosc_p {n d : Int} (hR : R (.bool (beatB n d)) s) : WC Tryz.prog base 68 [.agg #[.int .i64 n, .int .i64 d]] s R := by
  refine WC_pureG rfl rfl (fun base s hB hn0 => ?_) hR
  clear hR
  refine WC_open Tryz.func68 rfl ?_
  generalize hr : beatB n d = r
  unfold beatB at hr
  by_cases h0 : 1 ≤ n
  rotate_left
  · have h0' : ¬ (n ≥ 1) := fun hh => h0 (by omega)
    rw [decide_eq_false (fun h => h0 h.1)] at hr
    subst hr
    simp (disch := first | omega | ((simp only [nxBScrCfg]) <;> omega) | decide) only [↓stepPre, stepPost, ↓W_cond, ↓W_block, ↓reduceIte, Nat.reduceEqDiff, Nat.reduceLT, Nat.reduceLeDiff, ret0, stVar, isTup, Value.cells, Nat.reduceAdd, Nat.reduceMul, Nat.reduceSub, env0, binV, intV, reduceCtorEq, pickV, nilCheckV, ptrV, unV, Rt, resultsV, allV, resV, calleeV, builtinV, eqV, fieldAddrV, ldVar, stN_own, stN_ownL, Int.reduceToNat, Int.reducePow, IntKind.bits, convV, Int.reduceNeg, Int.reduceAdd, Int.reduceSub, Int.reduceLT, Int.reduceLE, extractV, Int.reduceEq, mkFuncV, stBScrCfg, spBScrCfg, beq_self_eq_true, tyB0ScrCfg, getL_take, glBScrCfg, h0, h0', Tryz.results68]
  have h0' : n ≥ 1 := by omega
  by_cases h1 : n ≤ 1048576
  rotate_left
  · rw [decide_eq_false (fun h => h1 h.2.1)] at hr
    subst hr
    simp (disch := first | omega | ((simp only [nxBScrCfg]) <;> omega) | decide) only [↓stepPre, stepPost, ↓W_cond, ↓W_block, ↓reduceIte, Nat.reduceEqDiff, Nat.reduceLT, Nat.reduceLeDiff, ret0, stVar, isTup, Value.cells, Nat.reduceAdd, Nat.reduceMul, Nat.reduceSub, env0, binV, intV, reduceCtorEq, pickV, nilCheckV, ptrV, unV, Rt, resultsV, allV, resV, calleeV, builtinV, eqV, fieldAddrV, ldVar, stN_own, stN_ownL, Int.reduceToNat, Int.reducePow, IntKind.bits, convV, Int.reduceNeg, Int.reduceAdd, Int.reduceSub, Int.reduceLT, Int.reduceLE, extractV, Int.reduceEq, mkFuncV, stBScrCfg, spBScrCfg, beq_self_eq_true, tyB0ScrCfg, getL_take, glBScrCfg, h0, h0', h1, Tryz.results68]
  by_cases h2 : 0 ≤ d
  rotate_left
  · have h2' : ¬ (d ≥ 0) := fun hh => h2 (by omega)
    rw [decide_eq_false (fun h => h2 h.2.2.1)] at hr
    subst hr
    simp (disch := first | omega | ((simp only [nxBScrCfg]) <;> omega) | decide) only [↓stepPre, stepPost, ↓W_cond, ↓W_block, ↓reduceIte, Nat.reduceEqDiff, Nat.reduceLT, Nat.reduceLeDiff, ret0, stVar, isTup, Value.cells, Nat.reduceAdd, Nat.reduceMul, Nat.reduceSub, env0, binV, intV, reduceCtorEq, pickV, nilCheckV, ptrV, unV, Rt, resultsV, allV, resV, calleeV, builtinV, eqV, fieldAddrV, ldVar, stN_own, stN_ownL, Int.reduceToNat, Int.reducePow, IntKind.bits, convV, Int.reduceNeg, Int.reduceAdd, Int.reduceSub, Int.reduceLT, Int.reduceLE, extractV, Int.reduceEq, mkFuncV, stBScrCfg, spBScrCfg, beq_self_eq_true, tyB0ScrCfg, getL_take, glBScrCfg, h0, h0', h1, h2, h2', Tryz.results68]
  have h2' : d ≥ 0 := by omega
  by_cases h3 : d < n
  rotate_left
  · rw [decide_eq_false (fun h => h3 h.2.2.2)] at hr
    subst hr
    simp (disch := first | omega | ((simp only [nxBScrCfg]) <;> omega) | decide) only [↓stepPre, stepPost, ↓W_cond, ↓W_block, ↓reduceIte, Nat.reduceEqDiff, Nat.reduceLT, Nat.reduceLeDiff, ret0, stVar, isTup, Value.cells, Nat.reduceAdd, Nat.reduceMul, Nat.reduceSub, env0, binV, intV, reduceCtorEq, pickV, nilCheckV, ptrV, unV, Rt, resultsV, allV, resV, calleeV, builtinV, eqV, fieldAddrV, ldVar, stN_own, stN_ownL, Int.reduceToNat, Int.reducePow, IntKind.bits, convV, Int.reduceNeg, Int.reduceAdd, Int.reduceSub, Int.reduceLT, Int.reduceLE, extractV, Int.reduceEq, mkFuncV, stBScrCfg, spBScrCfg, beq_self_eq_true, tyB0ScrCfg, getL_take, glBScrCfg, h0, h0', h1, h2, h2', h3, Tryz.results68]
  rw [decide_eq_true ⟨h0, h1, h2, h3⟩] at hr
  subst hr
  simp (disch := first | omega | ((simp only [nxBScrCfg]) <;> omega) | decide) only [↓stepPre, stepPost, ↓W_cond, ↓W_block, ↓reduceIte, Nat.reduceEqDiff, Nat.reduceLT, Nat.reduceLeDiff, ret0, stVar, isTup, Value.cells, Nat.reduceAdd, Nat.reduceMul, Nat.reduceSub, env0, binV, intV, reduceCtorEq, pickV, nilCheckV, ptrV, unV, Rt, resultsV, allV, resV, calleeV, builtinV, eqV, fieldAddrV, ldVar, stN_own, stN_ownL, Int.reduceToNat, Int.reducePow, IntKind.bits, convV, Int.reduceNeg, Int.reduceAdd, Int.reduceSub, Int.reduceLT, Int.reduceLE, extractV, Int.reduceEq, mkFuncV, stBScrCfg, spBScrCfg, beq_self_eq_true, tyB0ScrCfg, getL_take, glBScrCfg, h0, h0', h1, h2, h2', h3, Tryz.results68]
theorem rrank_p {b st p : Int} (hR : R (.bool (rankB b st p)) s) : WC Tryz.prog base 46 [.agg #[.int .i64 b, .int .i64 st, .int .i64 p]] s R := by
  refine WC_pureG rfl rfl (fun base s hB hn0 => ?_) hR
  clear hR
  refine WC_open Tryz.func46 rfl ?_
  generalize hr : rankB b st p = r
  unfold rankB at hr
  by_cases h0 : 1 ≤ p
  rotate_left
  · have h0' : ¬ (p ≥ 1) := fun hh => h0 (by omega)
    rw [decide_eq_false (fun h => h0 h.1)] at hr
    subst hr
    simp (disch := first | omega | ((simp only [nxBScrCfg]) <;> omega) | decide) only [↓stepPre, stepPost, ↓W_cond, ↓W_block, ↓reduceIte, Nat.reduceEqDiff, Nat.reduceLT, Nat.reduceLeDiff, ret0, stVar, isTup, Value.cells, Nat.reduceAdd, Nat.reduceMul, Nat.reduceSub, env0, binV, intV, reduceCtorEq, pickV, nilCheckV, ptrV, unV, Rt, resultsV, allV, resV, calleeV, builtinV, eqV, fieldAddrV, ldVar, stN_own, stN_ownL, Int.reduceToNat, Int.reducePow, IntKind.bits, convV, Int.reduceNeg, Int.reduceAdd, Int.reduceSub, Int.reduceLT, Int.reduceLE, extractV, Int.reduceEq, mkFuncV, stBScrCfg, spBScrCfg, beq_self_eq_true, tyB0ScrCfg, getL_take, glBScrCfg, h0, h0', Tryz.results46]
  have h0' : p ≥ 1 := by omega
  by_cases h1 : p ≤ 1000
  rotate_left
  · rw [decide_eq_false (fun h => h1 h.2.1)] at hr
    subst hr
    simp (disch := first | omega | ((simp only [nxBScrCfg]) <;> omega) | decide) only [↓stepPre, stepPost, ↓W_cond, ↓W_block, ↓reduceIte, Nat.reduceEqDiff, Nat.reduceLT, Nat.reduceLeDiff, ret0, stVar, isTup, Value.cells, Nat.reduceAdd, Nat.reduceMul, Nat.reduceSub, env0, binV, intV, reduceCtorEq, pickV, nilCheckV, ptrV, unV, Rt, resultsV, allV, resV, calleeV, builtinV, eqV, fieldAddrV, ldVar, stN_own, stN_ownL, Int.reduceToNat, Int.reducePow, IntKind.bits, convV, Int.reduceNeg, Int.reduceAdd, Int.reduceSub, Int.reduceLT, Int.reduceLE, extractV, Int.reduceEq, mkFuncV, stBScrCfg, spBScrCfg, beq_self_eq_true, tyB0ScrCfg, getL_take, glBScrCfg, h0, h0', h1, Tryz.results46]
  by_cases h2 : 1 ≤ st
  rotate_left
  · have h2' : ¬ (st ≥ 1) := fun hh => h2 (by omega)
    rw [decide_eq_false (fun h => h2 h.2.2.1)] at hr
    subst hr
    simp (disch := first | omega | ((simp only [nxBScrCfg]) <;> omega) | decide) only [↓stepPre, stepPost, ↓W_cond, ↓W_block, ↓reduceIte, Nat.reduceEqDiff, Nat.reduceLT, Nat.reduceLeDiff, ret0, stVar, isTup, Value.cells, Nat.reduceAdd, Nat.reduceMul, Nat.reduceSub, env0, binV, intV, reduceCtorEq, pickV, nilCheckV, ptrV, unV, Rt, resultsV, allV, resV, calleeV, builtinV, eqV, fieldAddrV, ldVar, stN_own, stN_ownL, Int.reduceToNat, Int.reducePow, IntKind.bits, convV, Int.reduceNeg, Int.reduceAdd, Int.reduceSub, Int.reduceLT, Int.reduceLE, extractV, Int.reduceEq, mkFuncV, stBScrCfg, spBScrCfg, beq_self_eq_true, tyB0ScrCfg, getL_take, glBScrCfg, h0, h0', h1, h2, h2', Tryz.results46]
  have h2' : st ≥ 1 := by omega
  by_cases h3 : st ≤ 1000
  rotate_left
  · rw [decide_eq_false (fun h => h3 h.2.2.2.1)] at hr
    subst hr
    simp (disch := first | omega | ((simp only [nxBScrCfg]) <;> omega) | decide) only [↓stepPre, stepPost, ↓W_cond, ↓W_block, ↓reduceIte, Nat.reduceEqDiff, Nat.reduceLT, Nat.reduceLeDiff, ret0, stVar, isTup, Value.cells, Nat.reduceAdd, Nat.reduceMul, Nat.reduceSub, env0, binV, intV, reduceCtorEq, pickV, nilCheckV, ptrV, unV, Rt, resultsV, allV, resV, calleeV, builtinV, eqV, fieldAddrV, ldVar, stN_own, stN_ownL, Int.reduceToNat, Int.reducePow, IntKind.bits, convV, Int.reduceNeg, Int.reduceAdd, Int.reduceSub, Int.reduceLT, Int.reduceLE, extractV, Int.reduceEq, mkFuncV, stBScrCfg, spBScrCfg, beq_self_eq_true, tyB0ScrCfg, getL_take, glBScrCfg, h0, h0', h1, h2, h2', h3, Tryz.results46]
  by_cases h4 : p ≤ b
  rotate_left
  · have h4' : ¬ (b ≥ p) := fun hh => h4 (by omega)
    rw [decide_eq_false (fun h => h4 h.2.2.2.2.1)] at hr
    subst hr
    simp (disch := first | omega | ((simp only [nxBScrCfg]) <;> omega) | decide) only [↓stepPre, stepPost, ↓W_cond, ↓W_block, ↓reduceIte, Nat.reduceEqDiff, Nat.reduceLT, Nat.reduceLeDiff, ret0, stVar, isTup, Value.cells, Nat.reduceAdd, Nat.reduceMul, Nat.reduceSub, env0, binV, intV, reduceCtorEq, pickV, nilCheckV, ptrV, unV, Rt, resultsV, allV, resV, calleeV, builtinV, eqV, fieldAddrV, ldVar, stN_own, stN_ownL, Int.reduceToNat, Int.reducePow, IntKind.bits, convV, Int.reduceNeg, Int.reduceAdd, Int.reduceSub, Int.reduceLT, Int.reduceLE, extractV, Int.reduceEq, mkFuncV, stBScrCfg, spBScrCfg, beq_self_eq_true, tyB0ScrCfg, getL_take, glBScrCfg, h0, h0', h1, h2, h2', h3, h4, h4', Tryz.results46]
  have h4' : b ≥ p := by omega
  by_cases h5 : b ≤ 10000
  rotate_left
  · rw [decide_eq_false (fun h => h5 h.2.2.2.2.2)] at hr
    subst hr
    simp (disch := first | omega | ((simp only [nxBScrCfg]) <;> omega) | decide) only [↓stepPre, stepPost, ↓W_cond, ↓W_block, ↓reduceIte, Nat.reduceEqDiff, Nat.reduceLT, Nat.reduceLeDiff, ret0, stVar, isTup, Value.cells, Nat.reduceAdd, Nat.reduceMul, Nat.reduceSub, env0, binV, intV, reduceCtorEq, pickV, nilCheckV, ptrV, unV, Rt, resultsV, allV, resV, calleeV, builtinV, eqV, fieldAddrV, ldVar, stN_own, stN_ownL, Int.reduceToNat, Int.reducePow, IntKind.bits, convV, Int.reduceNeg, Int.reduceAdd, Int.reduceSub, Int.reduceLT, Int.reduceLE, extractV, Int.reduceEq, mkFuncV, stBScrCfg, spBScrCfg, beq_self_eq_true, tyB0ScrCfg, getL_take, glBScrCfg, h0, h0', h1, h2, h2', h3, h4, h4', h5, Tryz.results46]
  rw [decide_eq_true ⟨h0, h1, h2, h3, h4, h5⟩] at hr
  subst hr
  simp (disch := first | omega | ((simp only [nxBScrCfg]) <;> omega) | decide) only [↓stepPre, stepPost, ↓W_cond, ↓W_block, ↓reduceIte, Nat.reduceEqDiff, Nat.reduceLT, Nat.reduceLeDiff, ret0, stVar, isTup, Value.cells, Nat.reduceAdd, Nat.reduceMul, Nat.reduceSub, env0, binV, intV, reduceCtorEq, pickV, nilCheckV, ptrV, unV, Rt, resultsV, allV, resV, calleeV, builtinV, eqV, fieldAddrV, ldVar, stN_own, stN_ownL, Int.reduceToNat, Int.reducePow, IntKind.bits, convV, Int.reduceNeg, Int.reduceAdd, Int.reduceSub, Int.reduceLT, Int.reduceLE, extractV, Int.reduceEq, mkFuncV, stBScrCfg, spBScrCfg, beq_self_eq_true, tyB0ScrCfg, getL_take, glBScrCfg, h0, h0', h1, h2, h2', h3, h4, h4', h5, Tryz.results46]
theorem racc_p {n d t : Int} (hR : R (.bool (confB n d t)) s) : WC Tryz.prog base 45 [.agg #[.int .i64 n, .int .i64 d, .int .i64 t]] s R := by
  refine WC_pureG rfl rfl (fun base s hB hn0 => ?_) hR
  clear hR
  refine WC_open Tryz.func45 rfl ?_
  generalize hr : confB n d t = b
  unfold confB at hr
  simp (disch := first | omega | ((simp only [nxBScrCfg]) <;> omega) | decide) only [↓stepPre, stepPost, ↓W_cond, ↓W_block, ↓reduceIte, Nat.reduceEqDiff, Nat.reduceLT, Nat.reduceLeDiff, ret0, stVar, isTup, Value.cells, Nat.reduceAdd, Nat.reduceMul, Nat.reduceSub, env0, binV, intV, reduceCtorEq, pickV, nilCheckV, ptrV, unV, Rt, resultsV, allV, resV, calleeV, builtinV, eqV, fieldAddrV, ldVar, stN_own, stN_ownL, Int.reduceToNat, Int.reducePow, IntKind.bits, convV, Int.reduceNeg, Int.reduceAdd, Int.reduceSub, Int.reduceLT, Int.reduceLE, extractV, Int.reduceEq, mkFuncV, stBScrCfg, spBScrCfg, beq_self_eq_true, tyB0ScrCfg, getL_take, glBScrCfg]
  refine rosc_p ?_
  cases hb : beatB n d with
  | false =>
    rw [hb, Bool.false_and] at hr
    subst hr
    simp (disch := first | omega | ((simp only [nxBScrCfg]) <;> omega) | decide) only [↓stepPre, stepPost, ↓W_cond, ↓W_block, ↓reduceIte, Nat.reduceEqDiff, Nat.reduceLT, Nat.reduceLeDiff, ret0, stVar, isTup, Value.cells, Nat.reduceAdd, Nat.reduceMul, Nat.reduceSub, env0, binV, intV, reduceCtorEq, pickV, nilCheckV, ptrV, unV, Rt, resultsV, allV, resV, calleeV, builtinV, eqV, fieldAddrV, ldVar, stN_own, stN_ownL, Int.reduceToNat, Int.reducePow, IntKind.bits, convV, Int.reduceNeg, Int.reduceAdd, Int.reduceSub, Int.reduceLT, Int.reduceLE, extractV, Int.reduceEq, mkFuncV, stBScrCfg, spBScrCfg, beq_self_eq_true, tyB0ScrCfg, getL_take, glBScrCfg, Dok_same, Tryz.results45]
  | true =>
    rw [hb, Bool.true_and] at hr
    by_cases h1 : 0 ≤ t
    rotate_left
    · have h1' : ¬ t ≥ 0 := h1
      rw [decide_eq_false (fun h => h1 h.1)] at hr
      subst hr
      simp (disch := first | omega | ((simp only [nxBScrCfg]) <;> omega) | decide) only [↓stepPre, stepPost, ↓W_cond, ↓W_block, ↓reduceIte, Nat.reduceEqDiff, Nat.reduceLT, Nat.reduceLeDiff, ret0, stVar, isTup, Value.cells, Nat.reduceAdd, Nat.reduceMul, Nat.reduceSub, env0, binV, intV, reduceCtorEq, pickV, nilCheckV, ptrV, unV, Rt, resultsV, allV, resV, calleeV, builtinV, eqV, fieldAddrV, ldVar, stN_own, stN_ownL, Int.reduceToNat, Int.reducePow, IntKind.bits, convV, Int.reduceNeg, Int.reduceAdd, Int.reduceSub, Int.reduceLT, Int.reduceLE, extractV, Int.reduceEq, mkFuncV, stBScrCfg, spBScrCfg, beq_self_eq_true, tyB0ScrCfg, getL_take, glBScrCfg, Dok_same, h1, h1', Tryz.results45]
    have h1' : t ≥ 0 := h1
    by_cases h2 : t ≤ 4096
    · rw [decide_eq_true ⟨h1, h2⟩] at hr
      subst hr
      simp (disch := first | omega | ((simp only [nxBScrCfg]) <;> omega) | decide) only [↓stepPre, stepPost, ↓W_cond, ↓W_block, ↓reduceIte, Nat.reduceEqDiff, Nat.reduceLT, Nat.reduceLeDiff, ret0, stVar, isTup, Value.cells, Nat.reduceAdd, Nat.reduceMul, Nat.reduceSub, env0, binV, intV, reduceCtorEq, pickV, nilCheckV, ptrV, unV, Rt, resultsV, allV, resV, calleeV, builtinV, eqV, fieldAddrV, ldVar, stN_own, stN_ownL, Int.reduceToNat, Int.reducePow, IntKind.bits, convV, Int.reduceNeg, Int.reduceAdd, Int.reduceSub, Int.reduceLT, Int.reduceLE, extractV, Int.reduceEq, mkFuncV, stBScrCfg, spBScrCfg, beq_self_eq_true, tyB0ScrCfg, getL_take, glBScrCfg, Dok_same, h1, h1', h2, Tryz.results45]
    · rw [decide_eq_false (fun h => h2 h.2)] at hr
      subst hr
      simp (disch := first | omega | ((simp only [nxBScrCfg]) <;> omega) | decide) only [↓stepPre, stepPost, ↓W_cond, ↓W_block, ↓reduceIte, Nat.reduceEqDiff, Nat.reduceLT, Nat.reduceLeDiff, ret0, stVar, isTup, Value.cells, Nat.reduceAdd, Nat.reduceMul, Nat.reduceSub, env0, binV, intV, reduceCtorEq, pickV, nilCheckV, ptrV, unV, Rt, resultsV, allV, resV, calleeV, builtinV, eqV, fieldAddrV, ldVar, stN_own, stN_ownL, Int.reduceToNat, Int.reducePow, IntKind.bits, convV, Int.reduceNeg, Int.reduceAdd, Int.reduceSub, Int.reduceLT, Int.reduceLE, extractV, Int.reduceEq, mkFuncV, stBScrCfg, spBScrCfg, beq_self_eq_true, tyB0ScrCfg, getL_take, glBScrCfg, Dok_same, h1, h1', h2, Tryz.results45]
end Go.Proofs.YthjpfllmecpliaaGreatDoor
/- Lists of streams: a few, a copy, a field of one is written; as contracts. -/
set_option linter.all false
set_option maxRecDepth 20000
namespace Go.Proofs.YthjpfllmecpliaaGreatDoor
open Go Go.Ab
variable {base : Nat} {s : St} {R : Value → St → Prop}
abbrev smL (xs : List Sm) : List (List Value) := xs.map Sm.c
theorem smL_len (xs : List Sm) : (smL xs).length = xs.length := by simp
theorem smL_at {xs : List Sm} {i : Nat} (h : i < xs.length) : (smL xs)[i]? = some xs[i].c := by simp [h]
end Go.Proofs.YthjpfllmecpliaaGreatDoor
/- Where a stream is, as contracts. -/
set_option linter.all false
set_option maxRecDepth 20000
namespace Go.Proofs.YthjpfllmecpliaaGreatDoor
open Go Go.Ab
def spBStreamFind := And.intro @Nat.le_refl (And.intro @true_and (And.intro @and_true (And.intro @Nat.add_zero (And.intro @Nat.zero_add (And.intro @Bool.not_true (And.intro @Bool.not_false (And.intro @ne_eq.{1} (And.intro @not_false_eq_true (And.intro @not_true_eq_false (And.intro @decide_true (And.intro @decide_false (@Int.fdiv_eq_ediv_of_nonneg))))))))))))
def nxBStreamFind := And.intro @Ab.next_alloc (And.intro @Ab.next_upd (And.intro @List.length_cons.{0} (And.intro @List.length_nil.{0} (And.intro @ne_eq.{1} (And.intro not_true_eq_false not_false_eq_true)))))
def tyB0StreamFind := And.intro @Ty.t58 (And.intro @Tryz.underlying58 (And.intro @Ty.t22 (And.intro @Tryz.underlying22 (And.intro @Ty.t56 (And.intro @Tryz.underlying56 (And.intro @Ty.t3 (And.intro @Tryz.underlying3 (And.intro @Ty.t2 (And.intro @Tryz.underlying2 (And.intro @Ty.t4 (And.intro @Tryz.underlying4 (And.intro @Ty.t35 @Tryz.underlying35))))))))))))
def stBStreamFind := And.intro @List.size_toArray.{0} (And.intro @List.length_cons.{0} (And.intro @List.length_nil.{0} (And.intro @List.set_cons_zero.{0} (And.intro @List.set_cons_succ.{0} (And.intro @List.getD_cons_zero.{0} (And.intro @List.getD_cons_succ.{0} (And.intro @List.getElem?_cons_succ.{0} (And.intro @List.getElem?_cons_zero.{0} (And.intro @List.map_cons.{0,0} (And.intro @List.map_nil.{0,0} (And.intro @Option.isNone_none.{0} (And.intro @Option.isNone_some.{0} (And.intro @Option.map_some.{0,0} (And.intro @Option.map_none.{0,0} (And.intro @List.cons_append.{0} (And.intro @List.nil_append.{0} (And.intro @List.append_nil.{0} (And.intro @Array.toList_append.{0} (And.intro @List.toList_toArray.{0} (And.intro @Int.cast_ofNat_Int (And.intro @Option.isSome_some.{0} (And.intro @List.getElem?_toArray.{0} (And.intro @List.map_toArray.{0,0} (@Nat.min_eq_left))))))))))))))))))))))))
def glBStreamFind := And.intro @List.drop_zero.{0} (And.intro @List.drop_succ_cons.{0} (And.intro @List.take_succ_cons.{0} (And.intro @List.take_zero.{0} (@List.take_nil.{0}))))
variable {base : Nat} [Bok base] {s : St} {R : Value → St → Prop}
/-- The first number from k on, of so many, at which something is not 0. -/
def fwd (f : Nat → Int) : Nat → Nat → Option Nat
  | _, 0 => none
  | k, m + 1 => if f k = 0 then fwd f (k + 1) m else some k
theorem fwd_skip {f : Nat → Int} {i n : Nat} (h : i < n) (h0 : f i = 0) : fwd f i (n - i) = fwd f (i + 1) (n - (i + 1)) := by
  obtain ⟨m, hm⟩ : ∃ m, n - i = m + 1 := ⟨n - i - 1, by omega⟩
  rw [hm, fwd, if_pos h0, show n - (i + 1) = m by omega]
theorem fwd_hit {f : Nat → Int} {i n : Nat} (h : i < n) (h0 : f i ≠ 0) : fwd f i (n - i) = some i := by
  obtain ⟨m, hm⟩ : ∃ m, n - i = m + 1 := ⟨n - i - 1, by omega⟩
  rw [hm, fwd, if_neg h0]
theorem fwd_some {f : Nat → Int} : ∀ {m k i : Nat}, fwd f k m = some i → k ≤ i ∧ i < k + m ∧ f i ≠ 0 ∧ ∀ j, k ≤ j → j < i → f j = 0 := by
  intro m
  induction m with
  | zero => intro k i h; cases h
  | succ m ih =>
    intro k i h
    rw [fwd] at h
    split at h
    · rename_i h0
      obtain ⟨h1, h2, h3, h4⟩ := ih h
      refine ⟨by omega, by omega, h3, fun j hj hji => ?_⟩
      by_cases hjk : j = k
      · rw [hjk]; exact h0
      · exact h4 j (by omega) hji
    · rename_i h0
      cases h
      exact ⟨Nat.le_refl _, by omega, h0, fun j hj hji => by omega⟩
theorem fwd_none {f : Nat → Int} : ∀ {m k : Nat}, fwd f k m = none → ∀ j, k ≤ j → j < k + m → f j = 0 := by
  intro m
  induction m with
  | zero => intro k h j h1 h2; omega
  | succ m ih =>
    intro k h j h1 h2
    rw [fwd] at h
    split at h
    · rename_i h0
      by_cases hjk : j = k
      · rw [hjk]; exact h0
      · exact ih h j (by omega) (by omega)
    · cases h
def smZ : Sm := ⟨0, 0, 0, 0, 0, 0, 0⟩
def atS (xs : List Sm) (i : Nat) : Sm := xs.getD i smZ
theorem atS_eq {xs : List Sm} {i : Nat} (h : i < xs.length) : atS xs i = xs[i] := by simp [atS, h]
def hitF (xs : List Sm) (id : Int) (i : Nat) : Int := if (atS xs i).id = id then 1 else 0
def findS (xs : List Sm) (id : Int) : Int := match fwd (hitF xs id) 0 xs.length with | some i => i | none => -1
theorem findS_le {xs : List Sm} {i : Nat} (h : i < xs.length) : 0 ≤ findS xs (atS xs i).id ∧ findS xs (atS xs i).id ≤ i := by
  unfold findS
  split
  · rename_i k hk
    obtain ⟨h1, h2, h3, h4⟩ := fwd_some hk
    refine ⟨by omega, ?_⟩
    by_cases hc : k ≤ i
    · omega
    · have := h4 i (by omega) (by omega)
      simp [hitF] at this
  · rename_i hk
    have := fwd_none hk i (by omega) (by omega)
    simp [hitF] at this
theorem isIt_ok {x : Sm} {p : Nat} {id : Int} (hp : s.heap p = .row [.int .i64 id]) (hb : base ≤ p ∧ p < s.next) (hR : ∀ s', Mild s s' → R (.bool (decide (x.id = id))) s') : WC Tryz.prog base 82 [.agg x.c.toArray, .pointer (some ⟨p, 0, none⟩)] s R := by
  refine WC_open Tryz.func82 rfl ?_
  simp (disch := first | omega | ((simp only [nxBStreamFind]) <;> omega) | decide) only [↓stepPre, stepPost, ↓W_cond, ↓W_block, ↓reduceIte, Nat.reduceEqDiff, Nat.reduceLT, Nat.reduceLeDiff, ret0, stVar, isTup, Value.cells, Nat.reduceAdd, Nat.reduceMul, Nat.reduceSub, env0, binV, intV, reduceCtorEq, pickV, nilCheckV, ptrV, unV, Rt, resultsV, allV, resV, calleeV, builtinV, eqV, fieldAddrV, ldVar, stN_own, stN_ownL, Int.reduceToNat, Int.reducePow, IntKind.bits, convV, Int.reduceNeg, Int.reduceAdd, Int.reduceSub, Int.reduceLT, Int.reduceLE, extractV, Int.reduceEq, mkFuncV, stBStreamFind, spBStreamFind, beq_self_eq_true, tyB0StreamFind, getL_take, glBStreamFind, hp, Tryz.results82]
  exact hR _ (.alloc _ _)
theorem indexIt_ok {v : Value} {xs : List Sm} {p : Nat} {id : Int} (hs : Sl base s 7 v (smL xs)) (hn : xs.length ≤ 2 ^ 62) (hp : s.heap p = .row [.int .i64 id]) (hb : base ≤ p ∧ p < s.next) (hR : ∀ s', Mild s s' → R (.int .i64 (findS xs id)) s') :
    WC Tryz.prog base 65 [v, .func (.func 82) #[] #[.pointer (some ⟨p, 0, none⟩)]] s R := by
  refine WC_open Tryz.func65 rfl ?_
  have hlen := hs.len (P := Tryz.prog) (ts := []) Ty.elem22 Ty.arr22
  rw [smL_len] at hlen
  simp (disch := first | omega | ((simp only [nxBStreamFind]) <;> omega) | decide) only [↓stepPre, stepPost, ↓W_cond, ↓W_block, ↓reduceIte, Nat.reduceEqDiff, Nat.reduceLT, Nat.reduceLeDiff, ret0, stVar, isTup, Value.cells, Nat.reduceAdd, Nat.reduceMul, Nat.reduceSub, env0, binV, intV, reduceCtorEq, pickV, nilCheckV, ptrV, unV, Rt, resultsV, allV, resV, calleeV, builtinV, eqV, fieldAddrV, ldVar, stN_own, stN_ownL, Int.reduceToNat, Int.reducePow, IntKind.bits, convV, Int.reduceNeg, Int.reduceAdd, Int.reduceSub, Int.reduceLT, Int.reduceLE, extractV, Int.reduceEq, mkFuncV, stBStreamFind, spBStreamFind, beq_self_eq_true, tyB0StreamFind, hlen]
  refine W_loop_ind xs.length (fun i e s1 => Mild s s1 ∧ fwd (hitF xs id) 0 xs.length = fwd (hitF xs id) i (xs.length - i) ∧ e 0 = v ∧ e 1 = .func (.func 82) #[] #[.pointer (some ⟨p, 0, none⟩)] ∧ e 7 = .int .i64 (xs.length : Int) ∧ e 8 = .int .i64 (i : Int)) ?_ ⟨.refl _, rfl, rfl, rfl, rfl, rfl⟩
  rintro i e s1 hi ⟨m1, hf, h0, h1, h7, h8⟩
  have n1 := m1.next
  by_cases hil : i < xs.length
  rotate_left
  · have g1 : ¬ (i : Int) < (xs.length : Int) := by omega
    have : findS xs id = -1 := by
      unfold findS
      rw [hf, show xs.length - i = 0 by omega]; rfl
    simp (disch := first | omega | ((simp only [nxBStreamFind]) <;> omega) | decide) only [↓stepPre, stepPost, ↓W_cond, ↓W_block, ↓reduceIte, Nat.reduceEqDiff, Nat.reduceLT, Nat.reduceLeDiff, ret0, stVar, isTup, Value.cells, Nat.reduceAdd, Nat.reduceMul, Nat.reduceSub, env0, binV, intV, reduceCtorEq, pickV, nilCheckV, ptrV, unV, Rt, resultsV, allV, resV, calleeV, builtinV, eqV, fieldAddrV, ldVar, stN_own, stN_ownL, Int.reduceToNat, Int.reducePow, IntKind.bits, convV, Int.reduceNeg, Int.reduceAdd, Int.reduceSub, Int.reduceLT, Int.reduceLE, extractV, Int.reduceEq, mkFuncV, stBStreamFind, spBStreamFind, beq_self_eq_true, tyB0StreamFind, h0, h1, h7, h8, g1, Tryz.results65]
    rw [← this]; exact hR _ m1
  have g1 : (i : Int) < (xs.length : Int) := by omega
  have v2 := hs.mild m1
  have hix := v2.index (P := Tryz.prog) (k := .i64) (i := (i : Int)) Ty.elem22 Ty.siz58 (by omega) (by rw [smL_len]; omega)
  rw [Int.toNat_natCast] at hix
  have hld := v2.loadA (smL_at hil) Ty.agg58 Ty.siz58
  simp (disch := first | omega | ((simp only [nxBStreamFind]) <;> omega) | decide) only [↓stepPre, stepPost, ↓W_cond, ↓W_block, ↓reduceIte, Nat.reduceEqDiff, Nat.reduceLT, Nat.reduceLeDiff, ret0, stVar, isTup, Value.cells, Nat.reduceAdd, Nat.reduceMul, Nat.reduceSub, env0, binV, intV, reduceCtorEq, pickV, nilCheckV, ptrV, unV, Rt, resultsV, allV, resV, calleeV, builtinV, eqV, fieldAddrV, ldVar, stN_own, stN_ownL, Int.reduceToNat, Int.reducePow, IntKind.bits, convV, Int.reduceNeg, Int.reduceAdd, Int.reduceSub, Int.reduceLT, Int.reduceLE, extractV, Int.reduceEq, mkFuncV, stBStreamFind, spBStreamFind, beq_self_eq_true, tyB0StreamFind, getL_take, glBStreamFind, h0, h1, h7, h8, g1, hix, hld]
  refine isIt_ok ((m1.heap _ hb.2).trans hp) (by omega) fun s2 m2 => ?_
  by_cases hc : xs[i].id = id
  · have : findS xs id = i := by
      unfold findS
      rw [hf, fwd_hit hil (by simp [hitF, atS_eq hil, hc])]
    simp (disch := first | omega | ((simp only [nxBStreamFind]) <;> omega) | decide) only [↓stepPre, stepPost, ↓W_cond, ↓W_block, ↓reduceIte, Nat.reduceEqDiff, Nat.reduceLT, Nat.reduceLeDiff, ret0, stVar, isTup, Value.cells, Nat.reduceAdd, Nat.reduceMul, Nat.reduceSub, env0, binV, intV, reduceCtorEq, pickV, nilCheckV, ptrV, unV, Rt, resultsV, allV, resV, calleeV, builtinV, eqV, fieldAddrV, ldVar, stN_own, stN_ownL, Int.reduceToNat, Int.reducePow, IntKind.bits, convV, Int.reduceNeg, Int.reduceAdd, Int.reduceSub, Int.reduceLT, Int.reduceLE, extractV, Int.reduceEq, mkFuncV, stBStreamFind, spBStreamFind, beq_self_eq_true, tyB0StreamFind, getL_take, glBStreamFind, h0, h1, h7, h8, hc, Tryz.results65]
    rw [← this]; exact hR _ (m1.trans m2)
  · simp (disch := first | omega | ((simp only [nxBStreamFind]) <;> omega) | decide) only [↓stepPre, stepPost, ↓W_cond, ↓W_block, ↓reduceIte, Nat.reduceEqDiff, Nat.reduceLT, Nat.reduceLeDiff, ret0, stVar, isTup, Value.cells, Nat.reduceAdd, Nat.reduceMul, Nat.reduceSub, env0, binV, intV, reduceCtorEq, pickV, nilCheckV, ptrV, unV, Rt, resultsV, allV, resV, calleeV, builtinV, eqV, fieldAddrV, ldVar, stN_own, stN_ownL, Int.reduceToNat, Int.reducePow, IntKind.bits, convV, Int.reduceNeg, Int.reduceAdd, Int.reduceSub, Int.reduceLT, Int.reduceLE, extractV, Int.reduceEq, mkFuncV, stBStreamFind, spBStreamFind, beq_self_eq_true, tyB0StreamFind, getL_take, glBStreamFind, h0, h1, h7, h8, hc]
    exact ⟨hil, m1.trans m2, by rw [hf, fwd_skip hil (by simp [hitF, atS_eq hil, hc])], by simp⟩
theorem sfind_ok {v : Value} {xs : List Sm} {id : Int} (hs : Sl base s 7 v (smL xs)) (hn : xs.length ≤ 2 ^ 62) (hbn : base ≤ s.next) (hR : ∀ s', Mild s s' → R (.int .i64 (findS xs id)) s') : WC Tryz.prog base 61 [v, .int .i64 id] s R := by
  refine WC_open Tryz.func61 rfl ?_
  simp (disch := first | omega | ((simp only [nxBStreamFind]) <;> omega) | decide) only [↓stepPre, stepPost, ↓W_cond, ↓W_block, ↓reduceIte, Nat.reduceEqDiff, Nat.reduceLT, Nat.reduceLeDiff, ret0, stVar, isTup, Value.cells, Nat.reduceAdd, Nat.reduceMul, Nat.reduceSub, env0, binV, intV, reduceCtorEq, pickV, nilCheckV, ptrV, unV, Rt, resultsV, allV, resV, calleeV, builtinV, eqV, fieldAddrV, ldVar, stN_own, stN_ownL, Int.reduceToNat, Int.reducePow, IntKind.bits, convV, Int.reduceNeg, Int.reduceAdd, Int.reduceSub, Int.reduceLT, Int.reduceLE, extractV, Int.reduceEq, mkFuncV, stBStreamFind, spBStreamFind, beq_self_eq_true, tyB0StreamFind]
  refine indexIt_ok (hs.mild (.alloc _ _)) hn (Ab.heap_alloc_new _ _) (by simp only [Ab.next_alloc]; omega) fun s' m' => ?_
  simp (disch := first | omega | ((simp only [nxBStreamFind]) <;> omega) | decide) only [↓stepPre, stepPost, ↓W_cond, ↓W_block, ↓reduceIte, Nat.reduceEqDiff, Nat.reduceLT, Nat.reduceLeDiff, ret0, stVar, isTup, Value.cells, Nat.reduceAdd, Nat.reduceMul, Nat.reduceSub, env0, binV, intV, reduceCtorEq, pickV, nilCheckV, ptrV, unV, Rt, resultsV, allV, resV, calleeV, builtinV, eqV, fieldAddrV, ldVar, stN_own, stN_ownL, Int.reduceToNat, Int.reducePow, IntKind.bits, convV, Int.reduceNeg, Int.reduceAdd, Int.reduceSub, Int.reduceLT, Int.reduceLE, extractV, Int.reduceEq, mkFuncV, stBStreamFind, spBStreamFind, beq_self_eq_true, tyB0StreamFind, Tryz.results61]
  exact hR _ (Mild.trans (.alloc _ _) m')
theorem srfind_p {v : Value} {xs : List Sm} {id : Int} (hs : Sl base s 7 v (smL xs)) (hn : xs.length ≤ 2 ^ 62) (hR : R (.int .i64 (findS xs id)) s) : WC Tryz.prog base 70 [v, .int .i64 id] s R := by
  refine WC_open Tryz.func70 rfl ?_
  have hlen := hs.len (P := Tryz.prog) (ts := []) Ty.elem22 Ty.arr22
  rw [smL_len] at hlen
  simp (disch := first | omega | ((simp only [nxBStreamFind]) <;> omega) | decide) only [↓stepPre, stepPost, ↓W_cond, ↓W_block, ↓reduceIte, Nat.reduceEqDiff, Nat.reduceLT, Nat.reduceLeDiff, ret0, stVar, isTup, Value.cells, Nat.reduceAdd, Nat.reduceMul, Nat.reduceSub, env0, binV, intV, reduceCtorEq, pickV, nilCheckV, ptrV, unV, Rt, resultsV, allV, resV, calleeV, builtinV, eqV, fieldAddrV, ldVar, stN_own, stN_ownL, Int.reduceToNat, Int.reducePow, IntKind.bits, convV, Int.reduceNeg, Int.reduceAdd, Int.reduceSub, Int.reduceLT, Int.reduceLE, extractV, Int.reduceEq, mkFuncV, stBStreamFind, spBStreamFind, beq_self_eq_true, tyB0StreamFind, hlen]
  refine W_loop_ind xs.length (fun i e s1 => s1 = s ∧ fwd (hitF xs id) 0 xs.length = fwd (hitF xs id) i (xs.length - i) ∧ e 0 = v ∧ e 1 = .int .i64 id ∧ e 5 = .int .i64 (i : Int)) ?_ ⟨rfl, rfl, rfl, rfl, rfl⟩
  rintro i e _ hi ⟨rfl, hf, h0, h1, h5⟩
  by_cases hil : i < xs.length
  rotate_left
  · have g1 : ¬ (i : Int) < (xs.length : Int) := by omega
    have : findS xs id = -1 := by
      unfold findS
      rw [hf, show xs.length - i = 0 by omega]; rfl
    simp (disch := first | omega | ((simp only [nxBStreamFind]) <;> omega) | decide) only [↓stepPre, stepPost, ↓W_cond, ↓W_block, ↓reduceIte, Nat.reduceEqDiff, Nat.reduceLT, Nat.reduceLeDiff, ret0, stVar, isTup, Value.cells, Nat.reduceAdd, Nat.reduceMul, Nat.reduceSub, env0, binV, intV, reduceCtorEq, pickV, nilCheckV, ptrV, unV, Rt, resultsV, allV, resV, calleeV, builtinV, eqV, fieldAddrV, ldVar, stN_own, stN_ownL, Int.reduceToNat, Int.reducePow, IntKind.bits, convV, Int.reduceNeg, Int.reduceAdd, Int.reduceSub, Int.reduceLT, Int.reduceLE, extractV, Int.reduceEq, mkFuncV, stBStreamFind, spBStreamFind, beq_self_eq_true, tyB0StreamFind, h0, h1, h5, hlen, g1, Tryz.results70]
    rw [← this]; exact hR
  have g1 : (i : Int) < (xs.length : Int) := by omega
  obtain ⟨b, o, n', c', rfl⟩ := hs.conc (by intro h; have := congrArg List.length h; simp only [smL_len, List.length_nil] at this; omega)
  have hix := hs.index (P := Tryz.prog) (k := .i64) (i := (i : Int)) Ty.elem22 Ty.siz58 (by omega) (by rw [smL_len]; omega)
  rw [Int.toNat_natCast] at hix
  simp only [atP_conc] at hix
  have hld := hs.lds0 (smL_at hil) (x := .int .i64 xs[i].id) rfl
  by_cases hc : xs[i].id = id
  · have : findS xs id = i := by
      unfold findS
      rw [hf, fwd_hit hil (by simp [hitF, atS_eq hil, hc])]
    simp (disch := first | omega | ((simp only [nxBStreamFind]) <;> omega) | decide) only [↓stepPre, stepPost, ↓W_cond, ↓W_block, ↓reduceIte, Nat.reduceEqDiff, Nat.reduceLT, Nat.reduceLeDiff, ret0, stVar, isTup, Value.cells, Nat.reduceAdd, Nat.reduceMul, Nat.reduceSub, env0, binV, intV, reduceCtorEq, pickV, nilCheckV, ptrV, unV, Rt, resultsV, allV, resV, calleeV, builtinV, eqV, fieldAddrV, ldVar, stN_own, stN_ownL, Int.reduceToNat, Int.reducePow, IntKind.bits, convV, Int.reduceNeg, Int.reduceAdd, Int.reduceSub, Int.reduceLT, Int.reduceLE, extractV, Int.reduceEq, mkFuncV, stBStreamFind, spBStreamFind, beq_self_eq_true, tyB0StreamFind, getL_take, glBStreamFind, h0, h1, h5, hlen, g1, hix, hld, hc, Tryz.results70]
    rw [← this]; exact hR
  · simp (disch := first | omega | ((simp only [nxBStreamFind]) <;> omega) | decide) only [↓stepPre, stepPost, ↓W_cond, ↓W_block, ↓reduceIte, Nat.reduceEqDiff, Nat.reduceLT, Nat.reduceLeDiff, ret0, stVar, isTup, Value.cells, Nat.reduceAdd, Nat.reduceMul, Nat.reduceSub, env0, binV, intV, reduceCtorEq, pickV, nilCheckV, ptrV, unV, Rt, resultsV, allV, resV, calleeV, builtinV, eqV, fieldAddrV, ldVar, stN_own, stN_ownL, Int.reduceToNat, Int.reducePow, IntKind.bits, convV, Int.reduceNeg, Int.reduceAdd, Int.reduceSub, Int.reduceLT, Int.reduceLE, extractV, Int.reduceEq, mkFuncV, stBStreamFind, spBStreamFind, beq_self_eq_true, tyB0StreamFind, getL_take, glBStreamFind, h0, h1, h5, hlen, g1, hix, hld, hc]
    exact ⟨hil, by rw [hf, fwd_skip hil (by simp [hitF, atS_eq hil, hc])], by simp⟩
end Go.Proofs.YthjpfllmecpliaaGreatDoor
/- Loops over functions that yield, which may be left. -/
set_option linter.all false
namespace Go.Ab
open Go Go.RowKit
/-- How a loop's body ends: the code that is to come, and whether it goes on. -/
def endOf : Exit → Option (Option Code)
  | .normal => some none
  | .ret => some (some .ret)
  | .exit i => some (some (.exit i))
  | _ => none
theorem W_rangeFuncG {P : Program} {base : Nat} {e : Env} {s : St} {Q : Exit → Env → St → Prop} {f : Operand} {fn : FuncId} {args : Array Value} {ps : Array Tmp} {asg body : Code} (hf : ev e f = .func (.func fn) #[] args)
    (h : WC P base fn (.func (.yield s.next) #[] #[] :: args.toList) (s.alloc (.loop ⟨e, ps, asg, body, .ready, none⟩)) (fun v s1 => ∃ r x, s1.heap s.next = .loop r ∧ r.state ≠ .busy ∧ endOf x = some r.pending ∧ Q x e (s1.upd s.next .gone))) :
    W P base (.rangeFunc f ps asg body) e s Q := by
  obtain ⟨v, s1, h1, r, x, h2, h3, h4, h5⟩ := h
  cases x with
  | normal => exact ⟨_, _, _, .rangeFunc hf h1 h2 rfl h3 (by simp [endOf] at h4; exact h4.symm), h5⟩
  | ret => exact ⟨_, _, _, .rangeFunc_out hf h1 h2 h3 (by simp [endOf] at h4; exact h4.symm) (.inl rfl) .ret, h5⟩
  | exit i => exact ⟨_, _, _, .rangeFunc_out hf h1 h2 h3 (by simp [endOf] at h4; exact h4.symm) (.inr ⟨i, rfl⟩) .exit, h5⟩
  | _ => simp [endOf] at h4
/-- The record of a loop when its body has ended so. -/
def recOf (e : Env) (ps : Array Tmp) (asg body : Code) (j : Option Code) : AObj := .loop ⟨e, ps, asg, body, if j.isNone then .ready else .done, j⟩
theorem WF_yieldG {P : Program} {base l : Nat} {s : St} {R : Value → St → Prop} {args : List Value} {e : Env} {ps : Array Tmp} {asg body : Code} (hl : s.heap l = .loop ⟨e, ps, asg, body, .ready, none⟩) (hn : ps.size = args.length) (hb : base ≤ l)
    (h : W P base asg (putAll e (ps.toList.zip args)) s (fun x e1 s1 => x = .normal ∧ s1.heap l = .loop ⟨e, ps, asg, body, .ready, none⟩ ∧
      W P base body e1 (s1.upd l (.loop ⟨e, ps, asg, body, .busy, none⟩)) (fun x e2 s2 => s2.heap l = .loop ⟨e, ps, asg, body, .busy, none⟩ ∧ ∃ j, endOf x = some j ∧ R (.bool j.isNone) (s2.upd l (recOf e ps asg body j))))) :
    WF P base (.yield l) args s R := by
  obtain ⟨x, e1, s1, h1, rfl, h2, x2, e2, s2, h3, h4, j, h5, h6⟩ := h
  have hx : (x2 = .normal ∧ j = none) ∨ (x2 = .ret ∧ j = some .ret) ∨ ∃ i, x2 = .exit i ∧ j = some (.exit i) := by
    cases x2 <;> simp [endOf] at h5
    · exact .inl ⟨rfl, h5.symm⟩
    · exact .inr (.inr ⟨_, rfl, h5.symm⟩)
    · exact .inr (.inl ⟨rfl, h5.symm⟩)
  exact ⟨_, _, .yield hl hn rfl hb h1 h2 h3 h4 j hx, h6⟩
end Go.Ab
