/- Networks that are the same (the document of the package script): as a contract. -/
import Derived.Test.YthjpfllmecpliaaDoorTypes
import Derived.Test.YthjpfllmecpliaaDoorRow0
import Derived.Test.YthjpfllmecpliaaDoorAbC
import Derived.Test.YthjpfllmecpliaaDoorPure
import Derived.Test.YthjpfllmecpliaaDoorBoxes
import Derived.Test.YthjpfllmecpliaaDoorScrCheck
set_option linter.all false
set_option maxRecDepth 20000
namespace Go.Proofs.YthjpfllmecpliaaDoor
open Go Go.Ab
def nxBScrSame := And.intro @Ab.next_alloc (And.intro @Ab.next_upd (And.intro @List.length_cons.{0} (And.intro @List.length_nil.{0} (And.intro @ne_eq.{1} (And.intro not_true_eq_false not_false_eq_true)))))
def tyB0ScrSame := And.intro @Ty.t55 (And.intro @Tryd.underlying55 (And.intro @Ty.t22 (And.intro @Tryd.underlying22 (And.intro @Ty.t53 (And.intro @Tryd.underlying53 (And.intro @Ty.t26 (And.intro @Tryd.underlying26 (And.intro @Ty.t24 (And.intro @Tryd.underlying24 (And.intro @Ty.t3 (And.intro @Tryd.underlying3 (And.intro @Ty.t2 (And.intro @Tryd.underlying2 (And.intro @Ty.t4 (And.intro @Tryd.underlying4 (And.intro @Ty.t29 @Tryd.underlying29))))))))))))))))
def stBScrSame := And.intro @List.size_toArray.{0} (And.intro @List.length_cons.{0} (And.intro @List.length_nil.{0} (And.intro @List.set_cons_zero.{0} (And.intro @List.set_cons_succ.{0} (And.intro @List.getD_cons_zero.{0} (And.intro @List.getD_cons_succ.{0} (And.intro @List.getElem?_cons_succ.{0} (And.intro @List.getElem?_cons_zero.{0} (And.intro @List.map_cons.{0,0} (And.intro @List.map_nil.{0,0} (And.intro @Option.isNone_none.{0} (And.intro @Option.isNone_some.{0} (And.intro @Option.map_some.{0,0} (And.intro @Option.map_none.{0,0} (And.intro @List.cons_append.{0} (And.intro @List.nil_append.{0} (And.intro @List.append_nil.{0} (And.intro @Array.toList_append.{0} (And.intro @List.toList_toArray.{0} (And.intro @Int.cast_ofNat_Int (And.intro @Option.isSome_some.{0} (And.intro @List.getElem?_toArray.{0} (And.intro @List.map_toArray.{0,0} (@Nat.min_eq_left))))))))))))))))))))))))
variable {base : Nat} [Bok base] {s : St} {R : Value → St → Prop}
theorem same25_ok {v w : Value} {xs : List Sm} (hs : Sl base s 7 v (smL xs)) (hs' : Sl base s 7 w (smL xs)) (hn : xs.length ≤ 100000) (hR : R (.bool true) s) :
    WC Tryd.prog base 24 [v, w] s R := by
  refine WC_open Tryd.func24 rfl ?_
  have hlen := hs.len (P := Tryd.prog) (ts := []) Ty.elem22 Ty.arr22
  have hlen' := hs'.len (P := Tryd.prog) (ts := []) Ty.elem22 Ty.arr22
  rw [smL_len] at hlen hlen'
  simp (disch := first | omega | ((simp only [nxBScrSame]) <;> omega) | decide) only [↓stepPre, stepPost, ↓W_cond, ↓W_block, ↓reduceIte, Nat.reduceEqDiff, Nat.reduceLT, Nat.reduceLeDiff, ret0, stVar, isTup, Value.cells, Nat.le_refl, Nat.reduceAdd, Nat.reduceMul, Nat.reduceSub, env0, binV, intV, reduceCtorEq, pickV, nilCheckV, ptrV, unV, true_and, and_true, Nat.add_zero, Nat.zero_add, Rt, resultsV, allV, resV, Bool.not_true, Bool.not_false, calleeV, builtinV, eqV, fieldAddrV, ldVar, stN_own, stN_ownL, Int.fdiv_eq_ediv_of_nonneg, Int.reduceToNat, Int.reducePow, IntKind.bits, convV, ne_eq, not_false_eq_true, not_true_eq_false, Int.reduceNeg, Int.reduceAdd, Int.reduceSub, Int.reduceLT, Int.reduceLE, extractV, decide_true, decide_false, Int.reduceEq, mkFuncV, stBScrSame, beq_self_eq_true, tyB0ScrSame, hlen, hlen', eq_self]
  refine W_loop_ind xs.length (fun i e t => t = s ∧ e 0 = v ∧ e 1 = w ∧ e 5 = .int .i64 (i : Int)) ?_ ⟨rfl, rfl, rfl, rfl⟩
  rintro i e _ hi ⟨rfl, h0, h1, h5⟩
  by_cases hil : i < xs.length
  rotate_left
  · have g1 : ¬ (i : Int) < (xs.length : Int) := by omega
    simp (disch := first | omega | ((simp only [nxBScrSame]) <;> omega) | decide) only [↓stepPre, stepPost, ↓W_cond, ↓W_block, ↓reduceIte, Nat.reduceEqDiff, Nat.reduceLT, Nat.reduceLeDiff, ret0, stVar, isTup, Value.cells, Nat.le_refl, Nat.reduceAdd, Nat.reduceMul, Nat.reduceSub, env0, binV, intV, reduceCtorEq, pickV, nilCheckV, ptrV, unV, true_and, and_true, Nat.add_zero, Nat.zero_add, Rt, resultsV, allV, resV, Bool.not_true, Bool.not_false, calleeV, builtinV, eqV, fieldAddrV, ldVar, stN_own, stN_ownL, Int.fdiv_eq_ediv_of_nonneg, Int.reduceToNat, Int.reducePow, IntKind.bits, convV, ne_eq, not_false_eq_true, not_true_eq_false, Int.reduceNeg, Int.reduceAdd, Int.reduceSub, Int.reduceLT, Int.reduceLE, extractV, decide_true, decide_false, Int.reduceEq, mkFuncV, stBScrSame, beq_self_eq_true, tyB0ScrSame, h0, h1, h5, hlen, g1, Tryd.results24]
    exact hR
  have g1 : (i : Int) < (xs.length : Int) := by omega
  have hix := hs.index (P := Tryd.prog) (k := .i64) (i := (i : Int)) Ty.elem22 Ty.siz55 (by omega) (by rw [smL_len]; omega)
  have hix' := hs'.index (P := Tryd.prog) (k := .i64) (i := (i : Int)) Ty.elem22 Ty.siz55 (by omega) (by rw [smL_len]; omega)
  rw [Int.toNat_natCast] at hix hix'
  have hld := hs.loadA (smL_at hil) Ty.agg55 Ty.siz55
  have hld' := hs'.loadA (smL_at hil) Ty.agg55 Ty.siz55
  have heq := eqV_same (P := Tryd.prog) (t := 55) (l := xs[i].c) Ty.kd55 Ty.eqg55 Ty.agg55 rfl
  simp (disch := first | omega | ((simp only [nxBScrSame]) <;> omega) | decide) only [↓stepPre, stepPost, ↓W_cond, ↓W_block, ↓reduceIte, Nat.reduceEqDiff, Nat.reduceLT, Nat.reduceLeDiff, ret0, stVar, isTup, Value.cells, Nat.le_refl, Nat.reduceAdd, Nat.reduceMul, Nat.reduceSub, env0, binV, intV, reduceCtorEq, pickV, nilCheckV, ptrV, unV, true_and, and_true, Nat.add_zero, Nat.zero_add, Rt, resultsV, allV, resV, Bool.not_true, Bool.not_false, calleeV, builtinV, eqV, fieldAddrV, ldVar, stN_own, stN_ownL, Int.fdiv_eq_ediv_of_nonneg, Int.reduceToNat, Int.reducePow, IntKind.bits, convV, ne_eq, not_false_eq_true, not_true_eq_false, Int.reduceNeg, Int.reduceAdd, Int.reduceSub, Int.reduceLT, Int.reduceLE, extractV, decide_true, decide_false, Int.reduceEq, mkFuncV, stBScrSame, beq_self_eq_true, tyB0ScrSame, h0, h1, h5, hlen, g1]
  refine W_draw (fun _ => false) (fun _ => false) (fun _ => false) (by kernel_rfl) (by kernel_rfl) ?_
  simp (disch := first | omega | ((simp only [nxBScrSame]) <;> omega) | decide) only [↓stepPre, stepPost, ↓W_cond, ↓W_block, ↓reduceIte, Nat.reduceEqDiff, Nat.reduceLT, Nat.reduceLeDiff, ret0, stVar, isTup, Value.cells, Nat.le_refl, Nat.reduceAdd, Nat.reduceMul, Nat.reduceSub, env0, binV, intV, reduceCtorEq, pickV, nilCheckV, ptrV, unV, true_and, and_true, Nat.add_zero, Nat.zero_add, Rt, resultsV, allV, resV, Bool.not_true, Bool.not_false, calleeV, builtinV, eqV, fieldAddrV, ldVar, stN_own, stN_ownL, Int.fdiv_eq_ediv_of_nonneg, Int.reduceToNat, Int.reducePow, IntKind.bits, convV, ne_eq, not_false_eq_true, not_true_eq_false, Int.reduceNeg, Int.reduceAdd, Int.reduceSub, Int.reduceLT, Int.reduceLE, extractV, decide_true, decide_false, Int.reduceEq, mkFuncV, stBScrSame, beq_self_eq_true, -eqV, tyB0ScrSame, h0, h1, h5, hix, hix', hld, hld', heq]
  exact ⟨hil, by simp⟩
theorem same38_ok {v w : Value} {p : Pl} (hs : Sl base s 7 v (smL p.xs)) (hs' : Sl base s 7 w (smL p.xs)) (hn : p.xs.length ≤ 100000) (hbn : base ≤ s.next) (hR : ∀ s', Mild s s' → R (.bool true) s') :
    WC Tryd.prog base 8 [.agg (p.c v).toArray, .agg (p.c w).toArray] s R := by
  refine WC_open Tryd.func8 rfl ?_
  have heq := eqV_same (P := Tryd.prog) (t := 24) (l := [.int .i64 p.nm, .int .i64 p.dr]) Ty.kd24 Ty.eqg24 Ty.agg24 rfl
  have m0 : Mild s ((s.alloc (.row (p.c v))).alloc (.row (p.c w))) := (Mild.alloc s _).alloc'
  have c0 : ((s.alloc (.row (p.c v))).alloc (.row (p.c w))).heap s.next = .row (p.c v) := by rw [Ab.heap_alloc_ne _ _ (by simp only [Ab.next_alloc]; omega)]; exact Ab.heap_alloc_new _ _
  have c1 : ((s.alloc (.row (p.c v))).alloc (.row (p.c w))).heap (s.next + 1) = .row (p.c w) := Ab.heap_alloc_new (s.alloc _) _
  have n0 : ((s.alloc (.row (p.c v))).alloc (.row (p.c w))).next = s.next + 2 := rfl
  simp (disch := first | omega | ((simp only [nxBScrSame]) <;> omega) | decide) only [↓stepPre, stepPost, ↓W_cond, ↓W_block, ↓reduceIte, Nat.reduceEqDiff, Nat.reduceLT, Nat.reduceLeDiff, ret0, stVar, isTup, Value.cells, Nat.le_refl, Nat.reduceAdd, Nat.reduceMul, Nat.reduceSub, env0, binV, intV, reduceCtorEq, pickV, nilCheckV, ptrV, unV, true_and, and_true, Nat.add_zero, Nat.zero_add, Rt, resultsV, allV, resV, Bool.not_true, Bool.not_false, calleeV, builtinV, eqV, fieldAddrV, ldVar, stN_own, stN_ownL, Int.fdiv_eq_ediv_of_nonneg, Int.reduceToNat, Int.reducePow, IntKind.bits, convV, ne_eq, not_false_eq_true, not_true_eq_false, Int.reduceNeg, Int.reduceAdd, Int.reduceSub, Int.reduceLT, Int.reduceLE, extractV, decide_true, decide_false, Int.reduceEq, mkFuncV, stBScrSame, beq_self_eq_true, tyB0ScrSame, getL_take, List.drop_zero, List.drop_succ_cons, List.take_succ_cons, List.take_zero, List.take_nil]
  generalize (s.alloc (.row (p.c v))).alloc (.row (p.c w)) = s1 at m0 c0 c1 n0 ⊢
  refine same25_ok (hs.mild m0) (hs'.mild m0) hn ?_
  simp (disch := first | omega | ((simp only [nxBScrSame]) <;> omega) | decide) only [↓stepPre, stepPost, ↓W_cond, ↓W_block, ↓reduceIte, Nat.reduceEqDiff, Nat.reduceLT, Nat.reduceLeDiff, ret0, stVar, isTup, Value.cells, Nat.le_refl, Nat.reduceAdd, Nat.reduceMul, Nat.reduceSub, env0, binV, intV, reduceCtorEq, pickV, nilCheckV, ptrV, unV, true_and, and_true, Nat.add_zero, Nat.zero_add, Rt, resultsV, allV, resV, Bool.not_true, Bool.not_false, calleeV, builtinV, eqV, fieldAddrV, ldVar, stN_own, stN_ownL, Int.fdiv_eq_ediv_of_nonneg, Int.reduceToNat, Int.reducePow, IntKind.bits, convV, ne_eq, not_false_eq_true, not_true_eq_false, Int.reduceNeg, Int.reduceAdd, Int.reduceSub, Int.reduceLT, Int.reduceLE, extractV, decide_true, decide_false, Int.reduceEq, mkFuncV, stBScrSame, beq_self_eq_true, -eqV, tyB0ScrSame, getL_take, List.drop_zero, List.drop_succ_cons, List.take_succ_cons, List.take_zero, List.take_nil, Dok_same, c0, c1, eq_self, heq, Tryd.results8]
  exact hR _ m0
end Go.Proofs.YthjpfllmecpliaaDoor
