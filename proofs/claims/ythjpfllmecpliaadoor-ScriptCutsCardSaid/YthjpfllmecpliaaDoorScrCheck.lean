/- What is wrong with a network (station.Check, and the document's): as contracts. -/
import Derived.Test.YthjpfllmecpliaaDoorTypes
import Derived.Test.YthjpfllmecpliaaDoorRow0
import Derived.Test.YthjpfllmecpliaaDoorAbC
import Derived.Test.YthjpfllmecpliaaDoorAsks
import Derived.Test.YthjpfllmecpliaaDoorPure
import Derived.Test.YthjpfllmecpliaaDoorBoxes
import Derived.Test.YthjpfllmecpliaaDoorScrCfg
import Derived.Test.YthjpfllmecpliaaDoorStreamCheck
set_option linter.all false
set_option maxRecDepth 20000
namespace Go.Proofs.YthjpfllmecpliaaDoor
open Go Go.Ab
def nxBScrCheck := And.intro @Ab.next_alloc (And.intro @Ab.next_upd (And.intro @List.length_cons.{0} (And.intro @List.length_nil.{0} (And.intro @ne_eq.{1} (And.intro not_true_eq_false not_false_eq_true)))))
def tyB0ScrCheck := And.intro @Ty.t26 (And.intro @Tryd.underlying26 (And.intro @Ty.t24 (And.intro @Tryd.underlying24 (And.intro @Ty.t74 (And.intro @Tryd.underlying74 (And.intro @Ty.t78 (And.intro @Tryd.underlying78 (And.intro @Ty.t55 (And.intro @Tryd.underlying55 (And.intro @Ty.t22 (And.intro @Tryd.underlying22 (And.intro @Ty.t29 (And.intro @Tryd.underlying29 (And.intro @Ty.t2 (And.intro @Tryd.underlying2 (And.intro @Ty.t3 (And.intro @Tryd.underlying3 (And.intro @Ty.t4 @Tryd.underlying4))))))))))))))))))
def stBScrCheck := And.intro @List.size_toArray.{0} (And.intro @List.length_cons.{0} (And.intro @List.length_nil.{0} (And.intro @List.set_cons_zero.{0} (And.intro @List.set_cons_succ.{0} (And.intro @List.getD_cons_zero.{0} (And.intro @List.getD_cons_succ.{0} (And.intro @List.getElem?_cons_succ.{0} (And.intro @List.getElem?_cons_zero.{0} (And.intro @List.map_cons.{0,0} (And.intro @List.map_nil.{0,0} (And.intro @Option.isNone_none.{0} (And.intro @Option.isNone_some.{0} (And.intro @Option.map_some.{0,0} (And.intro @Option.map_none.{0,0} (And.intro @List.cons_append.{0} (And.intro @List.nil_append.{0} (And.intro @List.append_nil.{0} (And.intro @Array.toList_append.{0} (And.intro @List.toList_toArray.{0} (And.intro @Int.cast_ofNat_Int (And.intro @Option.isSome_some.{0} (And.intro @List.getElem?_toArray.{0} (And.intro @List.map_toArray.{0,0} (@Nat.min_eq_left))))))))))))))))))))))))
def glBScrCheck := And.intro @List.drop_zero.{0} (And.intro @List.drop_succ_cons.{0} (And.intro @List.take_succ_cons.{0} (And.intro @List.take_zero.{0} (@List.take_nil.{0}))))
variable {base : Nat} [Bok base] {s : St} {R : Value → St → Prop}
structure Pl where
  no : Int
  len : Int
  rm : Int
  nm : Int
  dr : Int
  tu : Int
  ba : Int
  st : Int
  pe : Int
  xs : List Sm
abbrev Pl.c (p : Pl) (v : Value) : List Value := [.int .i64 p.no, v, .int .i64 p.len, .int .i64 p.rm, .int .i64 p.nm, .int .i64 p.dr, .int .i64 p.tu, .int .i64 p.ba, .int .i64 p.st, .int .i64 p.pe]
def farF (p : Pl) (i : Nat) : Int := if p.no ≤ (atS p.xs i).nd then 1 else 0
def plOk (p : Pl) : Bool := decide (2 ≤ p.no ∧ p.no ≤ 32) && confB p.nm p.dr p.tu && rankB p.ba p.st p.pe && decide (1 ≤ p.rm ∧ p.rm ≤ 64)
def plChk (p : Pl) : Int := if plOk p = false then 1 else if (chk p.xs p.len).2 ≠ 0 then (chk p.xs p.len).2 else if (fwd (farF p) 0 p.xs.length).isSome then 7 else 0
theorem far_ok {x : Sm} {b : Nat} {p : Pl} {v : Value} (hp : s.heap b = .row (p.c v)) (hb : base ≤ b ∧ b < s.next) (hR : ∀ s', Mild s s' → R (.bool (decide (p.no ≤ x.nd))) s') : WC Tryd.prog base 38 [.agg x.c.toArray, .pointer (some ⟨b, 0, none⟩)] s R := by
  refine WC_open Tryd.func38 rfl ?_
  have hk : decide (x.nd ≥ p.no) = decide (p.no ≤ x.nd) := rfl
  simp (disch := first | omega | ((simp only [nxBScrCheck]) <;> omega) | decide) only [↓stepPre, stepPost, ↓W_cond, ↓W_block, ↓reduceIte, Nat.reduceEqDiff, Nat.reduceLT, Nat.reduceLeDiff, ret0, stVar, isTup, Value.cells, Nat.le_refl, Nat.reduceAdd, Nat.reduceMul, Nat.reduceSub, env0, binV, intV, reduceCtorEq, pickV, nilCheckV, ptrV, unV, true_and, and_true, Nat.add_zero, Nat.zero_add, Rt, resultsV, allV, resV, Bool.not_true, Bool.not_false, calleeV, builtinV, eqV, fieldAddrV, ldVar, stN_own, stN_ownL, Int.fdiv_eq_ediv_of_nonneg, Int.reduceToNat, Int.reducePow, IntKind.bits, convV, ne_eq, not_false_eq_true, not_true_eq_false, Int.reduceNeg, Int.reduceAdd, Int.reduceSub, Int.reduceLT, Int.reduceLE, extractV, decide_true, decide_false, Int.reduceEq, mkFuncV, stBScrCheck, beq_self_eq_true, tyB0ScrCheck, getL_take, glBScrCheck, hp, hk, Tryd.results38]
  exact hR _ (.alloc _ _)
theorem farIdx_ok {v u : Value} {b : Nat} {p : Pl} (hs : Sl base s 7 v (smL p.xs)) (hn : p.xs.length ≤ 2 ^ 62) (hp : s.heap b = .row (p.c u)) (hb : base ≤ b ∧ b < s.next) (hR : ∀ s', Mild s s' → R (.int .i64 (match fwd (farF p) 0 p.xs.length with | some i => (i : Int) | none => -1)) s') :
    WC Tryd.prog base 61 [v, .func (.func 38) #[] #[.pointer (some ⟨b, 0, none⟩)]] s R := by
  refine WC_open Tryd.func61 rfl ?_
  have hlen := hs.len (P := Tryd.prog) (ts := []) Ty.elem22 Ty.arr22
  rw [smL_len] at hlen
  simp (disch := first | omega | ((simp only [nxBScrCheck]) <;> omega) | decide) only [↓stepPre, stepPost, ↓W_cond, ↓W_block, ↓reduceIte, Nat.reduceEqDiff, Nat.reduceLT, Nat.reduceLeDiff, ret0, stVar, isTup, Value.cells, Nat.le_refl, Nat.reduceAdd, Nat.reduceMul, Nat.reduceSub, env0, binV, intV, reduceCtorEq, pickV, nilCheckV, ptrV, unV, true_and, and_true, Nat.add_zero, Nat.zero_add, Rt, resultsV, allV, resV, Bool.not_true, Bool.not_false, calleeV, builtinV, eqV, fieldAddrV, ldVar, stN_own, stN_ownL, Int.fdiv_eq_ediv_of_nonneg, Int.reduceToNat, Int.reducePow, IntKind.bits, convV, ne_eq, not_false_eq_true, not_true_eq_false, Int.reduceNeg, Int.reduceAdd, Int.reduceSub, Int.reduceLT, Int.reduceLE, extractV, decide_true, decide_false, Int.reduceEq, mkFuncV, stBScrCheck, beq_self_eq_true, tyB0ScrCheck, hlen]
  refine W_loop_ind p.xs.length (fun i e s1 => Mild s s1 ∧ fwd (farF p) 0 p.xs.length = fwd (farF p) i (p.xs.length - i) ∧ e 0 = v ∧ e 1 = .func (.func 38) #[] #[.pointer (some ⟨b, 0, none⟩)] ∧ e 7 = .int .i64 (p.xs.length : Int) ∧ e 8 = .int .i64 (i : Int)) ?_ ⟨.refl _, rfl, rfl, rfl, rfl, rfl⟩
  rintro i e s1 hi ⟨m1, hf, h0, h1, h7, h8⟩
  have n1 := m1.next
  by_cases hil : i < p.xs.length
  rotate_left
  · have g1 : ¬ (i : Int) < (p.xs.length : Int) := by omega
    rw [hf, show p.xs.length - i = 0 by omega] at hR
    simp (disch := first | omega | ((simp only [nxBScrCheck]) <;> omega) | decide) only [↓stepPre, stepPost, ↓W_cond, ↓W_block, ↓reduceIte, Nat.reduceEqDiff, Nat.reduceLT, Nat.reduceLeDiff, ret0, stVar, isTup, Value.cells, Nat.le_refl, Nat.reduceAdd, Nat.reduceMul, Nat.reduceSub, env0, binV, intV, reduceCtorEq, pickV, nilCheckV, ptrV, unV, true_and, and_true, Nat.add_zero, Nat.zero_add, Rt, resultsV, allV, resV, Bool.not_true, Bool.not_false, calleeV, builtinV, eqV, fieldAddrV, ldVar, stN_own, stN_ownL, Int.fdiv_eq_ediv_of_nonneg, Int.reduceToNat, Int.reducePow, IntKind.bits, convV, ne_eq, not_false_eq_true, not_true_eq_false, Int.reduceNeg, Int.reduceAdd, Int.reduceSub, Int.reduceLT, Int.reduceLE, extractV, decide_true, decide_false, Int.reduceEq, mkFuncV, stBScrCheck, beq_self_eq_true, tyB0ScrCheck, h0, h1, h7, h8, g1, Tryd.results61]
    exact hR _ m1
  have g1 : (i : Int) < (p.xs.length : Int) := by omega
  have v2 := hs.mild m1
  have hix := v2.index (P := Tryd.prog) (k := .i64) (i := (i : Int)) Ty.elem22 Ty.siz55 (by omega) (by rw [smL_len]; omega)
  rw [Int.toNat_natCast] at hix
  have hld := v2.loadA (smL_at hil) Ty.agg55 Ty.siz55
  simp (disch := first | omega | ((simp only [nxBScrCheck]) <;> omega) | decide) only [↓stepPre, stepPost, ↓W_cond, ↓W_block, ↓reduceIte, Nat.reduceEqDiff, Nat.reduceLT, Nat.reduceLeDiff, ret0, stVar, isTup, Value.cells, Nat.le_refl, Nat.reduceAdd, Nat.reduceMul, Nat.reduceSub, env0, binV, intV, reduceCtorEq, pickV, nilCheckV, ptrV, unV, true_and, and_true, Nat.add_zero, Nat.zero_add, Rt, resultsV, allV, resV, Bool.not_true, Bool.not_false, calleeV, builtinV, eqV, fieldAddrV, ldVar, stN_own, stN_ownL, Int.fdiv_eq_ediv_of_nonneg, Int.reduceToNat, Int.reducePow, IntKind.bits, convV, ne_eq, not_false_eq_true, not_true_eq_false, Int.reduceNeg, Int.reduceAdd, Int.reduceSub, Int.reduceLT, Int.reduceLE, extractV, decide_true, decide_false, Int.reduceEq, mkFuncV, stBScrCheck, beq_self_eq_true, tyB0ScrCheck, getL_take, glBScrCheck, h0, h1, h7, h8, g1, hix, hld]
  refine far_ok ((m1.heap _ hb.2).trans hp) (by omega) fun s2 m2 => ?_
  by_cases hk : p.no ≤ p.xs[i].nd
  · rw [hf, fwd_hit hil (by simp [farF, atS_eq hil, hk])] at hR
    rw [decide_eq_true hk]
    simp (disch := first | omega | ((simp only [nxBScrCheck]) <;> omega) | decide) only [↓stepPre, stepPost, ↓W_cond, ↓W_block, ↓reduceIte, Nat.reduceEqDiff, Nat.reduceLT, Nat.reduceLeDiff, ret0, stVar, isTup, Value.cells, Nat.le_refl, Nat.reduceAdd, Nat.reduceMul, Nat.reduceSub, env0, binV, intV, reduceCtorEq, pickV, nilCheckV, ptrV, unV, true_and, and_true, Nat.add_zero, Nat.zero_add, Rt, resultsV, allV, resV, Bool.not_true, Bool.not_false, calleeV, builtinV, eqV, fieldAddrV, ldVar, stN_own, stN_ownL, Int.fdiv_eq_ediv_of_nonneg, Int.reduceToNat, Int.reducePow, IntKind.bits, convV, ne_eq, not_false_eq_true, not_true_eq_false, Int.reduceNeg, Int.reduceAdd, Int.reduceSub, Int.reduceLT, Int.reduceLE, extractV, decide_true, decide_false, Int.reduceEq, mkFuncV, stBScrCheck, beq_self_eq_true, tyB0ScrCheck, getL_take, glBScrCheck, h0, h1, h7, h8, Tryd.results61]
    exact hR _ (m1.trans m2)
  · rw [decide_eq_false hk]
    simp (disch := first | omega | ((simp only [nxBScrCheck]) <;> omega) | decide) only [↓stepPre, stepPost, ↓W_cond, ↓W_block, ↓reduceIte, Nat.reduceEqDiff, Nat.reduceLT, Nat.reduceLeDiff, ret0, stVar, isTup, Value.cells, Nat.le_refl, Nat.reduceAdd, Nat.reduceMul, Nat.reduceSub, env0, binV, intV, reduceCtorEq, pickV, nilCheckV, ptrV, unV, true_and, and_true, Nat.add_zero, Nat.zero_add, Rt, resultsV, allV, resV, Bool.not_true, Bool.not_false, calleeV, builtinV, eqV, fieldAddrV, ldVar, stN_own, stN_ownL, Int.fdiv_eq_ediv_of_nonneg, Int.reduceToNat, Int.reducePow, IntKind.bits, convV, ne_eq, not_false_eq_true, not_true_eq_false, Int.reduceNeg, Int.reduceAdd, Int.reduceSub, Int.reduceLT, Int.reduceLE, extractV, decide_true, decide_false, Int.reduceEq, mkFuncV, stBScrCheck, beq_self_eq_true, tyB0ScrCheck, getL_take, glBScrCheck, h0, h1, h7, h8]
    exact ⟨hil, m1.trans m2, by rw [hf, fwd_skip hil (by simp [farF, atS_eq hil, hk])], by simp⟩
theorem turns_ok {v : Value} {p : Pl} (hbn : base ≤ s.next) (hR : ∀ s', Mild s s' → R (.agg #[.int .i64 p.ba, .int .i64 p.st, .int .i64 p.pe]) s') : WC Tryd.prog base 35 [.agg (p.c v).toArray] s R := by
  refine WC_open Tryd.func35 rfl ?_
  simp (disch := first | omega | ((simp only [nxBScrCheck]) <;> omega) | decide) only [↓stepPre, stepPost, ↓W_cond, ↓W_block, ↓reduceIte, Nat.reduceEqDiff, Nat.reduceLT, Nat.reduceLeDiff, ret0, stVar, isTup, Value.cells, Nat.le_refl, Nat.reduceAdd, Nat.reduceMul, Nat.reduceSub, env0, binV, intV, reduceCtorEq, pickV, nilCheckV, ptrV, unV, true_and, and_true, Nat.add_zero, Nat.zero_add, Rt, resultsV, allV, resV, Bool.not_true, Bool.not_false, calleeV, builtinV, eqV, fieldAddrV, ldVar, stN_own, stN_ownL, Int.fdiv_eq_ediv_of_nonneg, Int.reduceToNat, Int.reducePow, IntKind.bits, convV, ne_eq, not_false_eq_true, not_true_eq_false, Int.reduceNeg, Int.reduceAdd, Int.reduceSub, Int.reduceLT, Int.reduceLE, extractV, decide_true, decide_false, Int.reduceEq, mkFuncV, stBScrCheck, beq_self_eq_true, tyB0ScrCheck, getL_take, glBScrCheck, buildV, fillL, Tryd.results35]
  refine hR _ ?_
  (repeat first | exact Mild.refl _ | assumption | apply Mild.alloc' | (refine Mild.upd' ?_ (by omega)) | (refine Mild.upd' ?_ (by simp only [Ab.next_alloc, Ab.next_upd] at *; omega)))
theorem check38_ok {v : Value} {p : Pl} (hs : Sl base s 7 v (smL p.xs)) (hn : p.xs.length ≤ 2 ^ 63 - 1) (hnm : -9223372036854775808 ≤ p.nm) (hbn : base ≤ s.next) (hR : ∀ s', Mild s s' → R (.int .i64 (plChk p)) s') :
    WC Tryd.prog base 15 [.agg (p.c v).toArray] s R := by
  refine WC_open Tryd.func15 rfl ?_
  have m0 := (Mild.alloc s (.row (p.c v))).alloc' (o := .row [.int .i64 p.nm, .int .i64 p.dr, .int .i64 p.tu])
  have c0 : ((s.alloc (.row (p.c v))).alloc (.row [.int .i64 p.nm, .int .i64 p.dr, .int .i64 p.tu])).heap s.next = .row (p.c v) := by rw [Ab.heap_alloc_ne _ _ (by simp only [Ab.next_alloc]; omega)]; exact Ab.heap_alloc_new _ _
  have c1 : ((s.alloc (.row (p.c v))).alloc (.row [.int .i64 p.nm, .int .i64 p.dr, .int .i64 p.tu])).heap (s.next + 1) = .row [.int .i64 p.nm, .int .i64 p.dr, .int .i64 p.tu] := Ab.heap_alloc_new (s.alloc _) _
  generalize hr0 : plChk p = r at hR
  have bad : plOk p = false → r = 1 := fun h => by rw [← hr0]; exact if_pos h
  have end_ := hR _ m0
  by_cases h1 : p.no < 2
  · have := bad (by unfold plOk; rw [decide_eq_false (fun h => by omega)]; rfl)
    subst this
    simp (disch := first | omega | ((simp only [nxBScrCheck]) <;> omega) | decide) only [↓stepPre, stepPost, ↓W_cond, ↓W_block, ↓reduceIte, Nat.reduceEqDiff, Nat.reduceLT, Nat.reduceLeDiff, ret0, stVar, isTup, Value.cells, Nat.le_refl, Nat.reduceAdd, Nat.reduceMul, Nat.reduceSub, env0, binV, intV, reduceCtorEq, pickV, nilCheckV, ptrV, unV, true_and, and_true, Nat.add_zero, Nat.zero_add, Rt, resultsV, allV, resV, Bool.not_true, Bool.not_false, calleeV, builtinV, eqV, fieldAddrV, ldVar, stN_own, stN_ownL, Int.fdiv_eq_ediv_of_nonneg, Int.reduceToNat, Int.reducePow, IntKind.bits, convV, ne_eq, not_false_eq_true, not_true_eq_false, Int.reduceNeg, Int.reduceAdd, Int.reduceSub, Int.reduceLT, Int.reduceLE, extractV, decide_true, decide_false, Int.reduceEq, mkFuncV, stBScrCheck, beq_self_eq_true, tyB0ScrCheck, getL_take, glBScrCheck, buildV, fillL, h1, Tryd.results15]
    exact end_
  by_cases h2 : 32 < p.no
  · have h2' : p.no > 32 := h2
    have := bad (by unfold plOk; rw [decide_eq_false (fun h => by omega)]; rfl)
    subst this
    simp (disch := first | omega | ((simp only [nxBScrCheck]) <;> omega) | decide) only [↓stepPre, stepPost, ↓W_cond, ↓W_block, ↓reduceIte, Nat.reduceEqDiff, Nat.reduceLT, Nat.reduceLeDiff, ret0, stVar, isTup, Value.cells, Nat.le_refl, Nat.reduceAdd, Nat.reduceMul, Nat.reduceSub, env0, binV, intV, reduceCtorEq, pickV, nilCheckV, ptrV, unV, true_and, and_true, Nat.add_zero, Nat.zero_add, Rt, resultsV, allV, resV, Bool.not_true, Bool.not_false, calleeV, builtinV, eqV, fieldAddrV, ldVar, stN_own, stN_ownL, Int.fdiv_eq_ediv_of_nonneg, Int.reduceToNat, Int.reducePow, IntKind.bits, convV, ne_eq, not_false_eq_true, not_true_eq_false, Int.reduceNeg, Int.reduceAdd, Int.reduceSub, Int.reduceLT, Int.reduceLE, extractV, decide_true, decide_false, Int.reduceEq, mkFuncV, stBScrCheck, beq_self_eq_true, tyB0ScrCheck, getL_take, glBScrCheck, buildV, fillL, h1, h2, h2', Tryd.results15]
    exact end_
  have h2' : ¬ p.no > 32 := h2
  have hn2 : decide (2 ≤ p.no ∧ p.no ≤ 32) = true := decide_eq_true (by omega)
  simp (disch := first | omega | ((simp only [nxBScrCheck]) <;> omega) | decide) only [↓stepPre, stepPost, ↓W_cond, ↓W_block, ↓reduceIte, Nat.reduceEqDiff, Nat.reduceLT, Nat.reduceLeDiff, ret0, stVar, isTup, Value.cells, Nat.le_refl, Nat.reduceAdd, Nat.reduceMul, Nat.reduceSub, env0, binV, intV, reduceCtorEq, pickV, nilCheckV, ptrV, unV, true_and, and_true, Nat.add_zero, Nat.zero_add, Rt, resultsV, allV, resV, Bool.not_true, Bool.not_false, calleeV, builtinV, eqV, fieldAddrV, ldVar, stN_own, stN_ownL, Int.fdiv_eq_ediv_of_nonneg, Int.reduceToNat, Int.reducePow, IntKind.bits, convV, ne_eq, not_false_eq_true, not_true_eq_false, Int.reduceNeg, Int.reduceAdd, Int.reduceSub, Int.reduceLT, Int.reduceLE, extractV, decide_true, decide_false, Int.reduceEq, mkFuncV, stBScrCheck, beq_self_eq_true, tyB0ScrCheck, getL_take, glBScrCheck, buildV, fillL, h1, h2, h2']
  refine acc_p hnm ?_
  cases hc : confB p.nm p.dr p.tu with
  | false =>
    have := bad (by unfold plOk; rw [hc, hn2]; rfl)
    subst this
    simp (disch := first | omega | ((simp only [nxBScrCheck]) <;> omega) | decide) only [↓stepPre, stepPost, ↓W_cond, ↓W_block, ↓reduceIte, Nat.reduceEqDiff, Nat.reduceLT, Nat.reduceLeDiff, ret0, stVar, isTup, Value.cells, Nat.le_refl, Nat.reduceAdd, Nat.reduceMul, Nat.reduceSub, env0, binV, intV, reduceCtorEq, pickV, nilCheckV, ptrV, unV, true_and, and_true, Nat.add_zero, Nat.zero_add, Rt, resultsV, allV, resV, Bool.not_true, Bool.not_false, calleeV, builtinV, eqV, fieldAddrV, ldVar, stN_own, stN_ownL, Int.fdiv_eq_ediv_of_nonneg, Int.reduceToNat, Int.reducePow, IntKind.bits, convV, ne_eq, not_false_eq_true, not_true_eq_false, Int.reduceNeg, Int.reduceAdd, Int.reduceSub, Int.reduceLT, Int.reduceLE, extractV, decide_true, decide_false, Int.reduceEq, mkFuncV, stBScrCheck, beq_self_eq_true, tyB0ScrCheck, getL_take, glBScrCheck, Tryd.results15]
    exact end_
  | true =>
    simp (disch := first | omega | ((simp only [nxBScrCheck]) <;> omega) | decide) only [↓stepPre, stepPost, ↓W_cond, ↓W_block, ↓reduceIte, Nat.reduceEqDiff, Nat.reduceLT, Nat.reduceLeDiff, ret0, stVar, isTup, Value.cells, Nat.le_refl, Nat.reduceAdd, Nat.reduceMul, Nat.reduceSub, env0, binV, intV, reduceCtorEq, pickV, nilCheckV, ptrV, unV, true_and, and_true, Nat.add_zero, Nat.zero_add, Rt, resultsV, allV, resV, Bool.not_true, Bool.not_false, calleeV, builtinV, eqV, fieldAddrV, ldVar, stN_own, stN_ownL, Int.fdiv_eq_ediv_of_nonneg, Int.reduceToNat, Int.reducePow, IntKind.bits, convV, ne_eq, not_false_eq_true, not_true_eq_false, Int.reduceNeg, Int.reduceAdd, Int.reduceSub, Int.reduceLT, Int.reduceLE, extractV, decide_true, decide_false, Int.reduceEq, mkFuncV, stBScrCheck, beq_self_eq_true, tyB0ScrCheck, getL_take, glBScrCheck]
    refine turns_ok (by simp only [Ab.next_alloc]; omega) fun s2 m2 => ?_
    have c2 := (m2.heap s.next (by simp only [Ab.next_alloc]; omega)).trans c0
    have M2 := m0.trans m2
    have n2 := m2.next
    simp only [Ab.next_alloc] at n2
    simp (disch := first | omega | ((simp only [nxBScrCheck]) <;> omega) | decide) only [↓stepPre, stepPost, ↓W_cond, ↓W_block, ↓reduceIte, Nat.reduceEqDiff, Nat.reduceLT, Nat.reduceLeDiff, ret0, stVar, isTup, Value.cells, Nat.le_refl, Nat.reduceAdd, Nat.reduceMul, Nat.reduceSub, env0, binV, intV, reduceCtorEq, pickV, nilCheckV, ptrV, unV, true_and, and_true, Nat.add_zero, Nat.zero_add, Rt, resultsV, allV, resV, Bool.not_true, Bool.not_false, calleeV, builtinV, eqV, fieldAddrV, ldVar, stN_own, stN_ownL, Int.fdiv_eq_ediv_of_nonneg, Int.reduceToNat, Int.reducePow, IntKind.bits, convV, ne_eq, not_false_eq_true, not_true_eq_false, Int.reduceNeg, Int.reduceAdd, Int.reduceSub, Int.reduceLT, Int.reduceLE, extractV, decide_true, decide_false, Int.reduceEq, mkFuncV, stBScrCheck, beq_self_eq_true, tyB0ScrCheck, getL_take, glBScrCheck]
    refine rank_p ?_
    cases hk : rankB p.ba p.st p.pe with
    | false =>
      have := bad (by unfold plOk; rw [hc, hn2, hk]; rfl)
      subst this
      simp (disch := first | omega | ((simp only [nxBScrCheck]) <;> omega) | decide) only [↓stepPre, stepPost, ↓W_cond, ↓W_block, ↓reduceIte, Nat.reduceEqDiff, Nat.reduceLT, Nat.reduceLeDiff, ret0, stVar, isTup, Value.cells, Nat.le_refl, Nat.reduceAdd, Nat.reduceMul, Nat.reduceSub, env0, binV, intV, reduceCtorEq, pickV, nilCheckV, ptrV, unV, true_and, and_true, Nat.add_zero, Nat.zero_add, Rt, resultsV, allV, resV, Bool.not_true, Bool.not_false, calleeV, builtinV, eqV, fieldAddrV, ldVar, stN_own, stN_ownL, Int.fdiv_eq_ediv_of_nonneg, Int.reduceToNat, Int.reducePow, IntKind.bits, convV, ne_eq, not_false_eq_true, not_true_eq_false, Int.reduceNeg, Int.reduceAdd, Int.reduceSub, Int.reduceLT, Int.reduceLE, extractV, decide_true, decide_false, Int.reduceEq, mkFuncV, stBScrCheck, beq_self_eq_true, tyB0ScrCheck, getL_take, glBScrCheck, Tryd.results15]
      exact hR _ M2
    | true =>
      by_cases h3 : p.rm < 1
      · have := bad (by unfold plOk; rw [hc, hn2, hk, decide_eq_false (fun h => by omega)]; rfl)
        subst this
        simp (disch := first | omega | ((simp only [nxBScrCheck]) <;> omega) | decide) only [↓stepPre, stepPost, ↓W_cond, ↓W_block, ↓reduceIte, Nat.reduceEqDiff, Nat.reduceLT, Nat.reduceLeDiff, ret0, stVar, isTup, Value.cells, Nat.le_refl, Nat.reduceAdd, Nat.reduceMul, Nat.reduceSub, env0, binV, intV, reduceCtorEq, pickV, nilCheckV, ptrV, unV, true_and, and_true, Nat.add_zero, Nat.zero_add, Rt, resultsV, allV, resV, Bool.not_true, Bool.not_false, calleeV, builtinV, eqV, fieldAddrV, ldVar, stN_own, stN_ownL, Int.fdiv_eq_ediv_of_nonneg, Int.reduceToNat, Int.reducePow, IntKind.bits, convV, ne_eq, not_false_eq_true, not_true_eq_false, Int.reduceNeg, Int.reduceAdd, Int.reduceSub, Int.reduceLT, Int.reduceLE, extractV, decide_true, decide_false, Int.reduceEq, mkFuncV, stBScrCheck, beq_self_eq_true, tyB0ScrCheck, getL_take, glBScrCheck, c2, h3, Tryd.results15]
        exact hR _ M2
      by_cases h4 : 64 < p.rm
      · have h4' : p.rm > 64 := h4
        have := bad (by unfold plOk; rw [hc, hn2, hk, decide_eq_false (fun h => by omega)]; rfl)
        subst this
        simp (disch := first | omega | ((simp only [nxBScrCheck]) <;> omega) | decide) only [↓stepPre, stepPost, ↓W_cond, ↓W_block, ↓reduceIte, Nat.reduceEqDiff, Nat.reduceLT, Nat.reduceLeDiff, ret0, stVar, isTup, Value.cells, Nat.le_refl, Nat.reduceAdd, Nat.reduceMul, Nat.reduceSub, env0, binV, intV, reduceCtorEq, pickV, nilCheckV, ptrV, unV, true_and, and_true, Nat.add_zero, Nat.zero_add, Rt, resultsV, allV, resV, Bool.not_true, Bool.not_false, calleeV, builtinV, eqV, fieldAddrV, ldVar, stN_own, stN_ownL, Int.fdiv_eq_ediv_of_nonneg, Int.reduceToNat, Int.reducePow, IntKind.bits, convV, ne_eq, not_false_eq_true, not_true_eq_false, Int.reduceNeg, Int.reduceAdd, Int.reduceSub, Int.reduceLT, Int.reduceLE, extractV, decide_true, decide_false, Int.reduceEq, mkFuncV, stBScrCheck, beq_self_eq_true, tyB0ScrCheck, getL_take, glBScrCheck, c2, h3, h4, h4', Tryd.results15]
        exact hR _ M2
      have h4' : ¬ p.rm > 64 := h4
      have hok : plOk p = true := by unfold plOk; rw [hc, hn2, hk, decide_eq_true (by omega)]; rfl
      have hr : r = if (chk p.xs p.len).2 ≠ 0 then (chk p.xs p.len).2 else if (fwd (farF p) 0 p.xs.length).isSome then 7 else 0 := by
        rw [← hr0]; unfold plChk; rw [if_neg (by rw [hok]; simp)]
      simp (disch := first | omega | ((simp only [nxBScrCheck]) <;> omega) | decide) only [↓stepPre, stepPost, ↓W_cond, ↓W_block, ↓reduceIte, Nat.reduceEqDiff, Nat.reduceLT, Nat.reduceLeDiff, ret0, stVar, isTup, Value.cells, Nat.le_refl, Nat.reduceAdd, Nat.reduceMul, Nat.reduceSub, env0, binV, intV, reduceCtorEq, pickV, nilCheckV, ptrV, unV, true_and, and_true, Nat.add_zero, Nat.zero_add, Rt, resultsV, allV, resV, Bool.not_true, Bool.not_false, calleeV, builtinV, eqV, fieldAddrV, ldVar, stN_own, stN_ownL, Int.fdiv_eq_ediv_of_nonneg, Int.reduceToNat, Int.reducePow, IntKind.bits, convV, ne_eq, not_false_eq_true, not_true_eq_false, Int.reduceNeg, Int.reduceAdd, Int.reduceSub, Int.reduceLT, Int.reduceLE, extractV, decide_true, decide_false, Int.reduceEq, mkFuncV, stBScrCheck, beq_self_eq_true, tyB0ScrCheck, getL_take, glBScrCheck, c2, h3, h4, h4']
      refine scheck_ok (hs.mild M2) hn (by omega) fun s3 m3 => ?_
      have c3 := (m3.heap s.next (by omega)).trans c2
      have M3 := M2.trans m3
      have n3 := m3.next
      by_cases h5 : (chk p.xs p.len).2 = 0
      rotate_left
      · rw [if_pos h5] at hr
        subst hr
        generalize (chk p.xs p.len).2 = a at h5 hR ⊢
        generalize (chk p.xs p.len).1 = b
        simp (disch := first | omega | ((simp only [nxBScrCheck]) <;> omega) | decide) only [↓stepPre, stepPost, ↓W_cond, ↓W_block, ↓reduceIte, Nat.reduceEqDiff, Nat.reduceLT, Nat.reduceLeDiff, ret0, stVar, isTup, Value.cells, Nat.le_refl, Nat.reduceAdd, Nat.reduceMul, Nat.reduceSub, env0, binV, intV, reduceCtorEq, pickV, nilCheckV, ptrV, unV, true_and, and_true, Nat.add_zero, Nat.zero_add, Rt, resultsV, allV, resV, Bool.not_true, Bool.not_false, calleeV, builtinV, eqV, fieldAddrV, ldVar, stN_own, stN_ownL, Int.fdiv_eq_ediv_of_nonneg, Int.reduceToNat, Int.reducePow, IntKind.bits, convV, ne_eq, not_false_eq_true, not_true_eq_false, Int.reduceNeg, Int.reduceAdd, Int.reduceSub, Int.reduceLT, Int.reduceLE, extractV, decide_true, decide_false, Int.reduceEq, mkFuncV, stBScrCheck, beq_self_eq_true, tyB0ScrCheck, getL_take, glBScrCheck, c3, h5, Tryd.results15]
        exact hR _ M3
      rw [if_neg (fun h => h h5)] at hr
      have hx64 : p.xs.length ≤ 64 := by
        rcases Nat.lt_or_ge 64 p.xs.length with h | h
        · unfold chk at h5; rw [if_pos h] at h5; cases h5
        · exact h
      generalize (chk p.xs p.len).2 = a at h5 ⊢
      subst h5
      generalize (chk p.xs p.len).1 = b
      simp (disch := first | omega | ((simp only [nxBScrCheck]) <;> omega) | decide) only [↓stepPre, stepPost, ↓W_cond, ↓W_block, ↓reduceIte, Nat.reduceEqDiff, Nat.reduceLT, Nat.reduceLeDiff, ret0, stVar, isTup, Value.cells, Nat.le_refl, Nat.reduceAdd, Nat.reduceMul, Nat.reduceSub, env0, binV, intV, reduceCtorEq, pickV, nilCheckV, ptrV, unV, true_and, and_true, Nat.add_zero, Nat.zero_add, Rt, resultsV, allV, resV, Bool.not_true, Bool.not_false, calleeV, builtinV, eqV, fieldAddrV, ldVar, stN_own, stN_ownL, Int.fdiv_eq_ediv_of_nonneg, Int.reduceToNat, Int.reducePow, IntKind.bits, convV, ne_eq, not_false_eq_true, not_true_eq_false, Int.reduceNeg, Int.reduceAdd, Int.reduceSub, Int.reduceLT, Int.reduceLE, extractV, decide_true, decide_false, Int.reduceEq, mkFuncV, stBScrCheck, beq_self_eq_true, tyB0ScrCheck, getL_take, glBScrCheck, c3, eq_self]
      refine WC_open Tryd.func37 rfl ?_
      simp (disch := first | omega | ((simp only [nxBScrCheck]) <;> omega) | decide) only [↓stepPre, stepPost, ↓W_cond, ↓W_block, ↓reduceIte, Nat.reduceEqDiff, Nat.reduceLT, Nat.reduceLeDiff, ret0, stVar, isTup, Value.cells, Nat.le_refl, Nat.reduceAdd, Nat.reduceMul, Nat.reduceSub, env0, binV, intV, reduceCtorEq, pickV, nilCheckV, ptrV, unV, true_and, and_true, Nat.add_zero, Nat.zero_add, Rt, resultsV, allV, resV, Bool.not_true, Bool.not_false, calleeV, builtinV, eqV, fieldAddrV, ldVar, stN_own, stN_ownL, Int.fdiv_eq_ediv_of_nonneg, Int.reduceToNat, Int.reducePow, IntKind.bits, convV, ne_eq, not_false_eq_true, not_true_eq_false, Int.reduceNeg, Int.reduceAdd, Int.reduceSub, Int.reduceLT, Int.reduceLE, extractV, decide_true, decide_false, Int.reduceEq, mkFuncV, stBScrCheck, beq_self_eq_true, tyB0ScrCheck, getL_take, glBScrCheck]
      refine farIdx_ok (hs.mild M3) (by omega) c3 (by omega) fun s4 m4 => ?_
      cases hf : fwd (farF p) 0 p.xs.length with
      | none =>
        rw [hf] at hr
        have hr : r = 0 := hr
        subst hr
        simp (disch := first | omega | ((simp only [nxBScrCheck]) <;> omega) | decide) only [↓stepPre, stepPost, ↓W_cond, ↓W_block, ↓reduceIte, Nat.reduceEqDiff, Nat.reduceLT, Nat.reduceLeDiff, ret0, stVar, isTup, Value.cells, Nat.le_refl, Nat.reduceAdd, Nat.reduceMul, Nat.reduceSub, env0, binV, intV, reduceCtorEq, pickV, nilCheckV, ptrV, unV, true_and, and_true, Nat.add_zero, Nat.zero_add, Rt, resultsV, allV, resV, Bool.not_true, Bool.not_false, calleeV, builtinV, eqV, fieldAddrV, ldVar, stN_own, stN_ownL, Int.fdiv_eq_ediv_of_nonneg, Int.reduceToNat, Int.reducePow, IntKind.bits, convV, ne_eq, not_false_eq_true, not_true_eq_false, Int.reduceNeg, Int.reduceAdd, Int.reduceSub, Int.reduceLT, Int.reduceLE, extractV, decide_true, decide_false, Int.reduceEq, mkFuncV, stBScrCheck, beq_self_eq_true, tyB0ScrCheck, getL_take, glBScrCheck, Tryd.results37, Tryd.results15]
        exact hR _ (M3.trans m4)
      | some i =>
        rw [hf] at hr
        have hr : r = 7 := hr
        subst hr
        have hi : (i : Int) ≥ 0 := by omega
        have hi' : 0 ≤ (i : Int) := by omega
        simp (disch := first | omega | ((simp only [nxBScrCheck]) <;> omega) | decide) only [↓stepPre, stepPost, ↓W_cond, ↓W_block, ↓reduceIte, Nat.reduceEqDiff, Nat.reduceLT, Nat.reduceLeDiff, ret0, stVar, isTup, Value.cells, Nat.le_refl, Nat.reduceAdd, Nat.reduceMul, Nat.reduceSub, env0, binV, intV, reduceCtorEq, pickV, nilCheckV, ptrV, unV, true_and, and_true, Nat.add_zero, Nat.zero_add, Rt, resultsV, allV, resV, Bool.not_true, Bool.not_false, calleeV, builtinV, eqV, fieldAddrV, ldVar, stN_own, stN_ownL, Int.fdiv_eq_ediv_of_nonneg, Int.reduceToNat, Int.reducePow, IntKind.bits, convV, ne_eq, not_false_eq_true, not_true_eq_false, Int.reduceNeg, Int.reduceAdd, Int.reduceSub, Int.reduceLT, Int.reduceLE, extractV, decide_true, decide_false, Int.reduceEq, mkFuncV, stBScrCheck, beq_self_eq_true, tyB0ScrCheck, getL_take, glBScrCheck, hi, hi', Tryd.results37, Tryd.results15]
        exact hR _ (M3.trans m4)
end Go.Proofs.YthjpfllmecpliaaDoor
