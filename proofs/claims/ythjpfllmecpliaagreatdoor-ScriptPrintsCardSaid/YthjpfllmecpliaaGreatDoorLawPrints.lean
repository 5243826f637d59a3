/- The law ScriptPrints, as a run of the abstract machine. -/
import Derived.Test.YthjpfllmecpliaaGreatDoorMg4
import Derived.Test.YthjpfllmecpliaaGreatDoorMg3
import Derived.Test.YthjpfllmecpliaaGreatDoorMg10
import Derived.Test.YthjpfllmecpliaaGreatDoorMg15
set_option linter.all false
set_option maxRecDepth 20000
namespace Go.Proofs.YthjpfllmecpliaaGreatDoor
open Go Go.Ab
def spBLawPrints := And.intro @Nat.le_refl (And.intro @true_and (And.intro @and_true (And.intro @Nat.add_zero (And.intro @Nat.zero_add (And.intro @Bool.not_true (And.intro @Bool.not_false (And.intro @ne_eq.{1} (And.intro @not_false_eq_true (And.intro @not_true_eq_false (And.intro @decide_true (And.intro @decide_false (@Int.fdiv_eq_ediv_of_nonneg))))))))))))
def nxBLawPrints := And.intro @Ab.next_alloc (And.intro @Ab.next_upd (And.intro @List.length_cons.{0} (And.intro @List.length_nil.{0} (And.intro @ne_eq.{1} (And.intro not_true_eq_false not_false_eq_true)))))
def tyB0LawPrints := And.intro @Ty.t9 (And.intro @Tryz.underlying9 (And.intro @Ty.t58 (And.intro @Tryz.underlying58 (And.intro @Ty.t22 (And.intro @Tryz.underlying22 (And.intro @Ty.t33 (And.intro @Tryz.underlying33 (And.intro @Ty.t27 (And.intro @Tryz.underlying27 (And.intro @Ty.t26 (And.intro @Tryz.underlying26 (And.intro @Ty.t3 (And.intro @Tryz.underlying3 (And.intro @Ty.t2 (And.intro @Tryz.underlying2 (And.intro @Ty.t4 (And.intro @Tryz.underlying4 (And.intro @Ty.t35 @Tryz.underlying35))))))))))))))))))
def stBLawPrints := And.intro @List.size_toArray.{0} (And.intro @List.length_cons.{0} (And.intro @List.length_nil.{0} (And.intro @List.set_cons_zero.{0} (And.intro @List.set_cons_succ.{0} (And.intro @List.getD_cons_zero.{0} (And.intro @List.getD_cons_succ.{0} (And.intro @List.getElem?_cons_succ.{0} (And.intro @List.getElem?_cons_zero.{0} (And.intro @List.map_cons.{0,0} (And.intro @List.map_nil.{0,0} (And.intro @Option.isNone_none.{0} (And.intro @Option.isNone_some.{0} (And.intro @Option.map_some.{0,0} (And.intro @Option.map_none.{0,0} (And.intro @List.cons_append.{0} (And.intro @List.nil_append.{0} (And.intro @List.append_nil.{0} (And.intro @Array.toList_append.{0} (And.intro @List.toList_toArray.{0} (And.intro @Int.cast_ofNat_Int (And.intro @Option.isSome_some.{0} (And.intro @List.getElem?_toArray.{0} (And.intro @List.map_toArray.{0,0} (@Nat.min_eq_left))))))))))))))))))))))))
def glBLawPrints := And.intro @List.drop_zero.{0} (And.intro @List.drop_succ_cons.{0} (And.intro @List.take_succ_cons.{0} (And.intro @List.take_zero.{0} (@List.take_nil.{0}))))
theorem laid_ok {W : World} (hs : W.ShapedOpen Tryz.prog) (h : laidMetH Tryz.prog laidVars W) : LaidOk W.heap.size (St0 W) := by
  obtain ⟨⟨u, a1, a2, a3⟩, ⟨v, b1, b2, b3⟩⟩ := of_laid h
  exact ⟨⟨u, a1, a2, a3⟩, ⟨v, b1, b2, b3⟩, (of_shaped hs).2⟩
theorem scriptPrints_law (W : World) (args : List Value) (hshape : W.ShapedOpen Tryz.prog) (hlaid : laidMetH Tryz.prog laidVars W) (ha : ArgsR Tryz.prog W Tryz.f3.params.toList args) : WC Tryz.prog W.heap.size 3 args (St0 W) (fun v _ => v = .bool true) := by
  have hL := laid_ok hshape hlaid
  have hB : Bok W.heap.size := ⟨(of_shaped hshape).1⟩
  obtain ⟨v0, _, rfl, a1, ha⟩ := args_cons (show ArgsR Tryz.prog W [26, 27] args from ha)
  obtain ⟨u, _, rfl, a2, ha⟩ := args_cons ha
  obtain rfl := args_nil ha
  obtain ⟨p, v, rfl, hs, hnx, hnm⟩ := plant_arg a1
  obtain ⟨l, hu, hnl, hg⟩ := acts_arg a2
  have hnxt : (St0 W).next = W.heap.size := rfl
  clear a1 a2 hlaid hshape
  generalize St0 W = s at hL hs hu hnxt
  refine WC_open Tryz.func3 rfl ?_
  have m0 := Mild.alloc s (.row (p.c v))
  have c0 := Ab.heap_alloc_new s (.row (p.c v))
  have n0 := Ab.next_alloc s (.row (p.c v))
  have hlv := hs.len (P := Tryz.prog) (ts := []) Ty.elem22 Ty.arr22
  have hlu := hu.len (P := Tryz.prog) (ts := []) Ty.elem27 Ty.arr27
  rw [smL_len] at hlv
  rw [acL_len] at hlu
  -- GEN
  -- GEN
  simp (disch := first | omega | ((simp only [nxBLawPrints]) <;> omega) | decide) only [↓stepPre, stepPost, ↓W_cond, ↓W_block, ↓reduceIte, Nat.reduceEqDiff, Nat.reduceLT, Nat.reduceLeDiff, ret0, stVar, isTup, Value.cells, Nat.reduceAdd, Nat.reduceMul, Nat.reduceSub, env0, binV, intV, reduceCtorEq, pickV, nilCheckV, ptrV, unV, Rt, resultsV, allV, resV, calleeV, builtinV, eqV, fieldAddrV, ldVar, stN_own, stN_ownL, Int.reduceToNat, Int.reducePow, IntKind.bits, convV, Int.reduceNeg, Int.reduceAdd, Int.reduceSub, Int.reduceLT, Int.reduceLE, extractV, Int.reduceEq, mkFuncV, stBLawPrints, spBLawPrints, beq_self_eq_true, tyB0LawPrints, getL_take, glBLawPrints]
  generalize s.alloc (.row (p.c v)) = s1 at m0 c0 n0 ⊢
  by_cases hA : 100 < l.length
  · have g1 : (l.length : Int) > 100 := by omega
    have g1' : 100 < (l.length : Int) := by omega
    by_cases hB : l.length ≤ 1024
    · have g2 : (l.length : Int) ≤ 1024 := by omega
      simp (disch := first | omega | ((simp only [nxBLawPrints]) <;> omega) | decide) only [↓stepPre, stepPost, ↓W_cond, ↓W_block, ↓reduceIte, Nat.reduceEqDiff, Nat.reduceLT, Nat.reduceLeDiff, ret0, stVar, isTup, Value.cells, Nat.reduceAdd, Nat.reduceMul, Nat.reduceSub, env0, binV, intV, reduceCtorEq, pickV, nilCheckV, ptrV, unV, Rt, resultsV, allV, resV, calleeV, builtinV, eqV, fieldAddrV, ldVar, stN_own, stN_ownL, Int.reduceToNat, Int.reducePow, IntKind.bits, convV, Int.reduceNeg, Int.reduceAdd, Int.reduceSub, Int.reduceLT, Int.reduceLE, extractV, Int.reduceEq, mkFuncV, stBLawPrints, spBLawPrints, beq_self_eq_true, tyB0LawPrints, getL_take, glBLawPrints, hlu, g1, g1', g2]
      refine live38_ok (hL.mild m0 (by omega)) (by omega) fun t3 M3 => ?_
      simp (disch := first | omega | ((simp only [nxBLawPrints]) <;> omega) | decide) only [↓stepPre, stepPost, ↓W_cond, ↓W_block, ↓reduceIte, Nat.reduceEqDiff, Nat.reduceLT, Nat.reduceLeDiff, ret0, stVar, isTup, Value.cells, Nat.reduceAdd, Nat.reduceMul, Nat.reduceSub, env0, binV, intV, reduceCtorEq, pickV, nilCheckV, ptrV, unV, Rt, resultsV, allV, resV, calleeV, builtinV, eqV, fieldAddrV, ldVar, stN_own, stN_ownL, Int.reduceToNat, Int.reducePow, IntKind.bits, convV, Int.reduceNeg, Int.reduceAdd, Int.reduceSub, Int.reduceLT, Int.reduceLE, extractV, Int.reduceEq, mkFuncV, stBLawPrints, spBLawPrints, beq_self_eq_true, tyB0LawPrints, getL_take, glBLawPrints, Tryz.results3]
    have g2 : ¬ (l.length : Int) ≤ 1024 := by omega
    by_cases hC : 12 < p.xs.length
    · have g3 : (p.xs.length : Int) > 12 := by omega
      have g3' : 12 < (p.xs.length : Int) := by omega
      by_cases hD : p.xs.length ≤ 64
      · have g4 : (p.xs.length : Int) ≤ 64 := by omega
        simp (disch := first | omega | ((simp only [nxBLawPrints]) <;> omega) | decide) only [↓stepPre, stepPost, ↓W_cond, ↓W_block, ↓reduceIte, Nat.reduceEqDiff, Nat.reduceLT, Nat.reduceLeDiff, ret0, stVar, isTup, Value.cells, Nat.reduceAdd, Nat.reduceMul, Nat.reduceSub, env0, binV, intV, reduceCtorEq, pickV, nilCheckV, ptrV, unV, Rt, resultsV, allV, resV, calleeV, builtinV, eqV, fieldAddrV, ldVar, stN_own, stN_ownL, Int.reduceToNat, Int.reducePow, IntKind.bits, convV, Int.reduceNeg, Int.reduceAdd, Int.reduceSub, Int.reduceLT, Int.reduceLE, extractV, Int.reduceEq, mkFuncV, stBLawPrints, spBLawPrints, beq_self_eq_true, tyB0LawPrints, getL_take, glBLawPrints, hlu, hlv, c0, g1, g1', g2, g3, g3', g4]
        refine live38_ok (hL.mild m0 (by omega)) (by omega) fun t3 M3 => ?_
        simp (disch := first | omega | ((simp only [nxBLawPrints]) <;> omega) | decide) only [↓stepPre, stepPost, ↓W_cond, ↓W_block, ↓reduceIte, Nat.reduceEqDiff, Nat.reduceLT, Nat.reduceLeDiff, ret0, stVar, isTup, Value.cells, Nat.reduceAdd, Nat.reduceMul, Nat.reduceSub, env0, binV, intV, reduceCtorEq, pickV, nilCheckV, ptrV, unV, Rt, resultsV, allV, resV, calleeV, builtinV, eqV, fieldAddrV, ldVar, stN_own, stN_ownL, Int.reduceToNat, Int.reducePow, IntKind.bits, convV, Int.reduceNeg, Int.reduceAdd, Int.reduceSub, Int.reduceLT, Int.reduceLE, extractV, Int.reduceEq, mkFuncV, stBLawPrints, spBLawPrints, beq_self_eq_true, tyB0LawPrints, getL_take, glBLawPrints, Tryz.results3]
      have g4 : ¬ (p.xs.length : Int) ≤ 64 := by omega
      simp (disch := first | omega | ((simp only [nxBLawPrints]) <;> omega) | decide) only [↓stepPre, stepPost, ↓W_cond, ↓W_block, ↓reduceIte, Nat.reduceEqDiff, Nat.reduceLT, Nat.reduceLeDiff, ret0, stVar, isTup, Value.cells, Nat.reduceAdd, Nat.reduceMul, Nat.reduceSub, env0, binV, intV, reduceCtorEq, pickV, nilCheckV, ptrV, unV, Rt, resultsV, allV, resV, calleeV, builtinV, eqV, fieldAddrV, ldVar, stN_own, stN_ownL, Int.reduceToNat, Int.reducePow, IntKind.bits, convV, Int.reduceNeg, Int.reduceAdd, Int.reduceSub, Int.reduceLT, Int.reduceLE, extractV, Int.reduceEq, mkFuncV, stBLawPrints, spBLawPrints, beq_self_eq_true, tyB0LawPrints, getL_take, glBLawPrints, hlu, hlv, c0, g1, g1', g2, g3, g3', g4]
      refine W_loop_inv l.length (fun i e1 t => e1 1 = u ∧ e1 2 = .pointer (some ⟨s.next, 0, none⟩) ∧ e1 5 = .int .i64 (i : Int) ∧ Mild s1 t)
        (fun y e1 t => y = .exit 0 ∧ e1 1 = u ∧ e1 2 = .pointer (some ⟨s.next, 0, none⟩) ∧ Mild s1 t) ?_ ⟨rfl, rfl, rfl, .refl _⟩ ?_
      · rintro i e1 t hi ⟨e_1, e_2, e_5, M⟩
        have hsM := hu.mild (m0.trans M)
        by_cases hil : i < l.length
        rotate_left
        · have k1 : ¬ (i : Int) < (l.length : Int) := by omega
          simp (disch := first | omega | ((simp only [nxBLawPrints]) <;> omega) | decide) only [↓stepPre, stepPost, ↓W_cond, ↓W_block, ↓reduceIte, Nat.reduceEqDiff, Nat.reduceLT, Nat.reduceLeDiff, ret0, stVar, isTup, Value.cells, Nat.reduceAdd, Nat.reduceMul, Nat.reduceSub, env0, binV, intV, reduceCtorEq, pickV, nilCheckV, ptrV, unV, Rt, resultsV, allV, resV, calleeV, builtinV, eqV, fieldAddrV, ldVar, stN_own, stN_ownL, Int.reduceToNat, Int.reducePow, IntKind.bits, convV, Int.reduceNeg, Int.reduceAdd, Int.reduceSub, Int.reduceLT, Int.reduceLE, extractV, Int.reduceEq, mkFuncV, stBLawPrints, spBLawPrints, beq_self_eq_true, tyB0LawPrints, getL_take, glBLawPrints, e_1, e_2, e_5, hlu, k1]
          exact M
        have k1 : (i : Int) < (l.length : Int) := by omega
        by_cases hi100 : i < 100
        rotate_left
        · have k2 : ¬ (i : Int) < 100 := by omega
          simp (disch := first | omega | ((simp only [nxBLawPrints]) <;> omega) | decide) only [↓stepPre, stepPost, ↓W_cond, ↓W_block, ↓reduceIte, Nat.reduceEqDiff, Nat.reduceLT, Nat.reduceLeDiff, ret0, stVar, isTup, Value.cells, Nat.reduceAdd, Nat.reduceMul, Nat.reduceSub, env0, binV, intV, reduceCtorEq, pickV, nilCheckV, ptrV, unV, Rt, resultsV, allV, resV, calleeV, builtinV, eqV, fieldAddrV, ldVar, stN_own, stN_ownL, Int.reduceToNat, Int.reducePow, IntKind.bits, convV, Int.reduceNeg, Int.reduceAdd, Int.reduceSub, Int.reduceLT, Int.reduceLE, extractV, Int.reduceEq, mkFuncV, stBLawPrints, spBLawPrints, beq_self_eq_true, tyB0LawPrints, getL_take, glBLawPrints, e_1, e_2, e_5, hlu, k1, k2]
          exact M
        have k2 : (i : Int) < 100 := by omega
        have hix := hsM.index (P := Tryz.prog) (k := .i64) (i := (i : Int)) Ty.elem27 Ty.siz33 (by omega) (by rw [acL_len]; omega)
        rw [Int.toNat_natCast] at hix
        have hld := fun {t' : St} (m : Mild t t') => (hsM.mild m).loadA (P := Tryz.prog) (acL_at hil) Ty.agg33 Ty.siz33
        have hgi := hg _ (List.getElem_mem hil)
        have nM := M.next
        generalize l[i] = a at hld hgi
        simp (disch := first | omega | ((simp only [nxBLawPrints]) <;> omega) | decide) only [↓stepPre, stepPost, ↓W_cond, ↓W_block, ↓reduceIte, Nat.reduceEqDiff, Nat.reduceLT, Nat.reduceLeDiff, ret0, stVar, isTup, Value.cells, Nat.reduceAdd, Nat.reduceMul, Nat.reduceSub, env0, binV, intV, reduceCtorEq, pickV, nilCheckV, ptrV, unV, Rt, resultsV, allV, resV, calleeV, builtinV, eqV, fieldAddrV, ldVar, stN_own, stN_ownL, Int.reduceToNat, Int.reducePow, IntKind.bits, convV, Int.reduceNeg, Int.reduceAdd, Int.reduceSub, Int.reduceLT, Int.reduceLE, extractV, Int.reduceEq, mkFuncV, stBLawPrints, spBLawPrints, beq_self_eq_true, tyB0LawPrints, getL_take, glBLawPrints, e_1, e_2, e_5, hlu, k1, k2]
        refine W_draw (fun _ => false) (fun _ => false) (fun _ => false) (by kernel_rfl) (by kernel_rfl) ?_
        simp (disch := first | omega | ((simp only [nxBLawPrints]) <;> omega) | decide) only [↓stepPre, stepPost, ↓W_cond, ↓W_block, ↓reduceIte, Nat.reduceEqDiff, Nat.reduceLT, Nat.reduceLeDiff, ret0, stVar, isTup, Value.cells, Nat.reduceAdd, Nat.reduceMul, Nat.reduceSub, env0, binV, intV, reduceCtorEq, pickV, nilCheckV, ptrV, unV, Rt, resultsV, allV, resV, calleeV, builtinV, eqV, fieldAddrV, ldVar, stN_own, stN_ownL, Int.reduceToNat, Int.reducePow, IntKind.bits, convV, Int.reduceNeg, Int.reduceAdd, Int.reduceSub, Int.reduceLT, Int.reduceLE, extractV, Int.reduceEq, mkFuncV, stBLawPrints, spBLawPrints, beq_self_eq_true, tyB0LawPrints, getL_take, glBLawPrints, e_1, e_2, e_5, hix, hld (.refl _)]
        refine right38_p hgi.1 ?_
        simp (disch := first | omega | ((simp only [nxBLawPrints]) <;> omega) | decide) only [↓stepPre, stepPost, ↓W_cond, ↓W_block, ↓reduceIte, Nat.reduceEqDiff, Nat.reduceLT, Nat.reduceLeDiff, ret0, stVar, isTup, Value.cells, Nat.reduceAdd, Nat.reduceMul, Nat.reduceSub, env0, binV, intV, reduceCtorEq, pickV, nilCheckV, ptrV, unV, Rt, resultsV, allV, resV, calleeV, builtinV, eqV, fieldAddrV, ldVar, stN_own, stN_ownL, Int.reduceToNat, Int.reducePow, IntKind.bits, convV, Int.reduceNeg, Int.reduceAdd, Int.reduceSub, Int.reduceLT, Int.reduceLE, extractV, Int.reduceEq, mkFuncV, stBLawPrints, spBLawPrints, beq_self_eq_true, tyB0LawPrints, getL_take, glBLawPrints, Dok_same, e_1, e_2, e_5, hix, hld (.refl _)]
        refine rright38_p hgi.1 ?_
        simp (disch := first | omega | ((simp only [nxBLawPrints]) <;> omega) | decide) only [↓stepPre, stepPost, ↓W_cond, ↓W_block, ↓reduceIte, Nat.reduceEqDiff, Nat.reduceLT, Nat.reduceLeDiff, ret0, stVar, isTup, Value.cells, Nat.reduceAdd, Nat.reduceMul, Nat.reduceSub, env0, binV, intV, reduceCtorEq, pickV, nilCheckV, ptrV, unV, Rt, resultsV, allV, resV, calleeV, builtinV, eqV, fieldAddrV, ldVar, stN_own, stN_ownL, Int.reduceToNat, Int.reducePow, IntKind.bits, convV, Int.reduceNeg, Int.reduceAdd, Int.reduceSub, Int.reduceLT, Int.reduceLE, extractV, Int.reduceEq, mkFuncV, stBLawPrints, spBLawPrints, beq_self_eq_true, tyB0LawPrints, getL_take, glBLawPrints, Dok_same, e_1, e_2, e_5, hix, hld (.refl _), bne_self_eq_false]
        refine line38_ok hgi.1 hgi.2 (hL.mild (m0.trans M) (by omega)) (by omega) fun t4 M4 => ?_
        refine ⟨.inl M4, ?_⟩
        have n4 := M4.next
        simp (disch := first | omega | ((simp only [nxBLawPrints]) <;> omega) | decide) only [↓stepPre, stepPost, ↓W_cond, ↓W_block, ↓reduceIte, Nat.reduceEqDiff, Nat.reduceLT, Nat.reduceLeDiff, ret0, stVar, isTup, Value.cells, Nat.reduceAdd, Nat.reduceMul, Nat.reduceSub, env0, binV, intV, reduceCtorEq, pickV, nilCheckV, ptrV, unV, Rt, resultsV, allV, resV, calleeV, builtinV, eqV, fieldAddrV, ldVar, stN_own, stN_ownL, Int.reduceToNat, Int.reducePow, IntKind.bits, convV, Int.reduceNeg, Int.reduceAdd, Int.reduceSub, Int.reduceLT, Int.reduceLE, extractV, Int.reduceEq, mkFuncV, stBLawPrints, spBLawPrints, beq_self_eq_true, tyB0LawPrints, getL_take, glBLawPrints, e_1, e_2, e_5, hix, hld M4]
        refine rline38_ok hgi.1 hgi.2 (by omega) fun t5 M5 => ?_
        refine ⟨.inl M5, ?_⟩
        simp (disch := first | omega | ((simp only [nxBLawPrints]) <;> omega) | decide) only [↓stepPre, stepPost, ↓W_cond, ↓W_block, ↓reduceIte, Nat.reduceEqDiff, Nat.reduceLT, Nat.reduceLeDiff, ret0, stVar, isTup, Value.cells, Nat.reduceAdd, Nat.reduceMul, Nat.reduceSub, env0, binV, intV, reduceCtorEq, pickV, nilCheckV, ptrV, unV, Rt, resultsV, allV, resV, calleeV, builtinV, eqV, fieldAddrV, ldVar, stN_own, stN_ownL, Int.reduceToNat, Int.reducePow, IntKind.bits, convV, Int.reduceNeg, Int.reduceAdd, Int.reduceSub, Int.reduceLT, Int.reduceLE, extractV, Int.reduceEq, mkFuncV, stBLawPrints, spBLawPrints, beq_self_eq_true, tyB0LawPrints, getL_take, glBLawPrints, e_1, e_2, e_5, neqStrV38, eq_self, not_true_eq_false]
        exact ⟨hil, by simp, (M.trans M4).trans M5⟩
      rintro y e1 t ⟨rfl, e_1, e_2, M⟩
      have cM := (M.heap s.next (by omega)).trans c0
      have nM := M.next
      simp (disch := first | omega | ((simp only [nxBLawPrints]) <;> omega) | decide) only [↓stepPre, stepPost, ↓W_cond, ↓W_block, ↓reduceIte, Nat.reduceEqDiff, Nat.reduceLT, Nat.reduceLeDiff, ret0, stVar, isTup, Value.cells, Nat.reduceAdd, Nat.reduceMul, Nat.reduceSub, env0, binV, intV, reduceCtorEq, pickV, nilCheckV, ptrV, unV, Rt, resultsV, allV, resV, calleeV, builtinV, eqV, fieldAddrV, ldVar, stN_own, stN_ownL, Int.reduceToNat, Int.reducePow, IntKind.bits, convV, Int.reduceNeg, Int.reduceAdd, Int.reduceSub, Int.reduceLT, Int.reduceLE, extractV, Int.reduceEq, mkFuncV, stBLawPrints, spBLawPrints, beq_self_eq_true, tyB0LawPrints, getL_take, glBLawPrints, e_1, e_2, cM]
      refine print38_ok (p := p) (hs.mild (m0.trans M)) (hu.mild (m0.trans M)) hg hnx hnl (.inr (by omega)) (.inr (by omega)) hnm (hL.mild (m0.trans M) (by omega)) (by omega) fun t1 M1 => ?_
      have n1 := M1.next
      have cM1 := (M1.heap s.next (by omega)).trans cM
      have M01 := (m0.trans M).trans M1
      simp (disch := first | omega | ((simp only [nxBLawPrints]) <;> omega) | decide) only [↓stepPre, stepPost, ↓W_cond, ↓W_block, ↓reduceIte, Nat.reduceEqDiff, Nat.reduceLT, Nat.reduceLeDiff, ret0, stVar, isTup, Value.cells, Nat.reduceAdd, Nat.reduceMul, Nat.reduceSub, env0, binV, intV, reduceCtorEq, pickV, nilCheckV, ptrV, unV, Rt, resultsV, allV, resV, calleeV, builtinV, eqV, fieldAddrV, ldVar, stN_own, stN_ownL, Int.reduceToNat, Int.reducePow, IntKind.bits, convV, Int.reduceNeg, Int.reduceAdd, Int.reduceSub, Int.reduceLT, Int.reduceLE, extractV, Int.reduceEq, mkFuncV, stBLawPrints, spBLawPrints, beq_self_eq_true, tyB0LawPrints, getL_take, glBLawPrints, e_1, e_2, cM1]
      refine rprint38_ok (p := p) (hs.mild M01) (hu.mild M01) hg hnx hnl (.inr (by omega)) (.inr (by omega)) (by omega) fun t2 M2 => ?_
      have n2 := M2.next
      simp (disch := first | omega | ((simp only [nxBLawPrints]) <;> omega) | decide) only [↓stepPre, stepPost, ↓W_cond, ↓W_block, ↓reduceIte, Nat.reduceEqDiff, Nat.reduceLT, Nat.reduceLeDiff, ret0, stVar, isTup, Value.cells, Nat.reduceAdd, Nat.reduceMul, Nat.reduceSub, env0, binV, intV, reduceCtorEq, pickV, nilCheckV, ptrV, unV, Rt, resultsV, allV, resV, calleeV, builtinV, eqV, fieldAddrV, ldVar, stN_own, stN_ownL, Int.reduceToNat, Int.reducePow, IntKind.bits, convV, Int.reduceNeg, Int.reduceAdd, Int.reduceSub, Int.reduceLT, Int.reduceLE, extractV, Int.reduceEq, mkFuncV, stBLawPrints, spBLawPrints, beq_self_eq_true, tyB0LawPrints, getL_take, glBLawPrints, e_1, e_2]
      refine live38_ok (hL.mild (M01.trans M2) (by omega)) (by omega) fun t3 M3 => ?_
      simp (disch := first | omega | ((simp only [nxBLawPrints]) <;> omega) | decide) only [↓stepPre, stepPost, ↓W_cond, ↓W_block, ↓reduceIte, Nat.reduceEqDiff, Nat.reduceLT, Nat.reduceLeDiff, ret0, stVar, isTup, Value.cells, Nat.reduceAdd, Nat.reduceMul, Nat.reduceSub, env0, binV, intV, reduceCtorEq, pickV, nilCheckV, ptrV, unV, Rt, resultsV, allV, resV, calleeV, builtinV, eqV, fieldAddrV, ldVar, stN_own, stN_ownL, Int.reduceToNat, Int.reducePow, IntKind.bits, convV, Int.reduceNeg, Int.reduceAdd, Int.reduceSub, Int.reduceLT, Int.reduceLE, extractV, Int.reduceEq, mkFuncV, stBLawPrints, spBLawPrints, beq_self_eq_true, tyB0LawPrints, getL_take, glBLawPrints, e_1, e_2, eqlStrV, eqlStr, eq_self, Tryz.results3]
    have g3 : ¬ (p.xs.length : Int) > 12 := by omega
    have g3' : ¬ 12 < (p.xs.length : Int) := by omega
    simp (disch := first | omega | ((simp only [nxBLawPrints]) <;> omega) | decide) only [↓stepPre, stepPost, ↓W_cond, ↓W_block, ↓reduceIte, Nat.reduceEqDiff, Nat.reduceLT, Nat.reduceLeDiff, ret0, stVar, isTup, Value.cells, Nat.reduceAdd, Nat.reduceMul, Nat.reduceSub, env0, binV, intV, reduceCtorEq, pickV, nilCheckV, ptrV, unV, Rt, resultsV, allV, resV, calleeV, builtinV, eqV, fieldAddrV, ldVar, stN_own, stN_ownL, Int.reduceToNat, Int.reducePow, IntKind.bits, convV, Int.reduceNeg, Int.reduceAdd, Int.reduceSub, Int.reduceLT, Int.reduceLE, extractV, Int.reduceEq, mkFuncV, stBLawPrints, spBLawPrints, beq_self_eq_true, tyB0LawPrints, getL_take, glBLawPrints, hlu, hlv, c0, g1, g1', g2, g3, g3']
    refine W_loop_inv l.length (fun i e1 t => e1 1 = u ∧ e1 2 = .pointer (some ⟨s.next, 0, none⟩) ∧ e1 5 = .int .i64 (i : Int) ∧ Mild s1 t)
      (fun y e1 t => y = .exit 0 ∧ e1 1 = u ∧ e1 2 = .pointer (some ⟨s.next, 0, none⟩) ∧ Mild s1 t) ?_ ⟨rfl, rfl, rfl, .refl _⟩ ?_
    · rintro i e1 t hi ⟨e_1, e_2, e_5, M⟩
      have hsM := hu.mild (m0.trans M)
      by_cases hil : i < l.length
      rotate_left
      · have k1 : ¬ (i : Int) < (l.length : Int) := by omega
        simp (disch := first | omega | ((simp only [nxBLawPrints]) <;> omega) | decide) only [↓stepPre, stepPost, ↓W_cond, ↓W_block, ↓reduceIte, Nat.reduceEqDiff, Nat.reduceLT, Nat.reduceLeDiff, ret0, stVar, isTup, Value.cells, Nat.reduceAdd, Nat.reduceMul, Nat.reduceSub, env0, binV, intV, reduceCtorEq, pickV, nilCheckV, ptrV, unV, Rt, resultsV, allV, resV, calleeV, builtinV, eqV, fieldAddrV, ldVar, stN_own, stN_ownL, Int.reduceToNat, Int.reducePow, IntKind.bits, convV, Int.reduceNeg, Int.reduceAdd, Int.reduceSub, Int.reduceLT, Int.reduceLE, extractV, Int.reduceEq, mkFuncV, stBLawPrints, spBLawPrints, beq_self_eq_true, tyB0LawPrints, getL_take, glBLawPrints, e_1, e_2, e_5, hlu, k1]
        exact M
      have k1 : (i : Int) < (l.length : Int) := by omega
      by_cases hi100 : i < 100
      rotate_left
      · have k2 : ¬ (i : Int) < 100 := by omega
        simp (disch := first | omega | ((simp only [nxBLawPrints]) <;> omega) | decide) only [↓stepPre, stepPost, ↓W_cond, ↓W_block, ↓reduceIte, Nat.reduceEqDiff, Nat.reduceLT, Nat.reduceLeDiff, ret0, stVar, isTup, Value.cells, Nat.reduceAdd, Nat.reduceMul, Nat.reduceSub, env0, binV, intV, reduceCtorEq, pickV, nilCheckV, ptrV, unV, Rt, resultsV, allV, resV, calleeV, builtinV, eqV, fieldAddrV, ldVar, stN_own, stN_ownL, Int.reduceToNat, Int.reducePow, IntKind.bits, convV, Int.reduceNeg, Int.reduceAdd, Int.reduceSub, Int.reduceLT, Int.reduceLE, extractV, Int.reduceEq, mkFuncV, stBLawPrints, spBLawPrints, beq_self_eq_true, tyB0LawPrints, getL_take, glBLawPrints, e_1, e_2, e_5, hlu, k1, k2]
        exact M
      have k2 : (i : Int) < 100 := by omega
      have hix := hsM.index (P := Tryz.prog) (k := .i64) (i := (i : Int)) Ty.elem27 Ty.siz33 (by omega) (by rw [acL_len]; omega)
      rw [Int.toNat_natCast] at hix
      have hld := fun {t' : St} (m : Mild t t') => (hsM.mild m).loadA (P := Tryz.prog) (acL_at hil) Ty.agg33 Ty.siz33
      have hgi := hg _ (List.getElem_mem hil)
      have nM := M.next
      generalize l[i] = a at hld hgi
      simp (disch := first | omega | ((simp only [nxBLawPrints]) <;> omega) | decide) only [↓stepPre, stepPost, ↓W_cond, ↓W_block, ↓reduceIte, Nat.reduceEqDiff, Nat.reduceLT, Nat.reduceLeDiff, ret0, stVar, isTup, Value.cells, Nat.reduceAdd, Nat.reduceMul, Nat.reduceSub, env0, binV, intV, reduceCtorEq, pickV, nilCheckV, ptrV, unV, Rt, resultsV, allV, resV, calleeV, builtinV, eqV, fieldAddrV, ldVar, stN_own, stN_ownL, Int.reduceToNat, Int.reducePow, IntKind.bits, convV, Int.reduceNeg, Int.reduceAdd, Int.reduceSub, Int.reduceLT, Int.reduceLE, extractV, Int.reduceEq, mkFuncV, stBLawPrints, spBLawPrints, beq_self_eq_true, tyB0LawPrints, getL_take, glBLawPrints, e_1, e_2, e_5, hlu, k1, k2]
      refine W_draw (fun _ => false) (fun _ => false) (fun _ => false) (by kernel_rfl) (by kernel_rfl) ?_
      simp (disch := first | omega | ((simp only [nxBLawPrints]) <;> omega) | decide) only [↓stepPre, stepPost, ↓W_cond, ↓W_block, ↓reduceIte, Nat.reduceEqDiff, Nat.reduceLT, Nat.reduceLeDiff, ret0, stVar, isTup, Value.cells, Nat.reduceAdd, Nat.reduceMul, Nat.reduceSub, env0, binV, intV, reduceCtorEq, pickV, nilCheckV, ptrV, unV, Rt, resultsV, allV, resV, calleeV, builtinV, eqV, fieldAddrV, ldVar, stN_own, stN_ownL, Int.reduceToNat, Int.reducePow, IntKind.bits, convV, Int.reduceNeg, Int.reduceAdd, Int.reduceSub, Int.reduceLT, Int.reduceLE, extractV, Int.reduceEq, mkFuncV, stBLawPrints, spBLawPrints, beq_self_eq_true, tyB0LawPrints, getL_take, glBLawPrints, e_1, e_2, e_5, hix, hld (.refl _)]
      refine right38_p hgi.1 ?_
      simp (disch := first | omega | ((simp only [nxBLawPrints]) <;> omega) | decide) only [↓stepPre, stepPost, ↓W_cond, ↓W_block, ↓reduceIte, Nat.reduceEqDiff, Nat.reduceLT, Nat.reduceLeDiff, ret0, stVar, isTup, Value.cells, Nat.reduceAdd, Nat.reduceMul, Nat.reduceSub, env0, binV, intV, reduceCtorEq, pickV, nilCheckV, ptrV, unV, Rt, resultsV, allV, resV, calleeV, builtinV, eqV, fieldAddrV, ldVar, stN_own, stN_ownL, Int.reduceToNat, Int.reducePow, IntKind.bits, convV, Int.reduceNeg, Int.reduceAdd, Int.reduceSub, Int.reduceLT, Int.reduceLE, extractV, Int.reduceEq, mkFuncV, stBLawPrints, spBLawPrints, beq_self_eq_true, tyB0LawPrints, getL_take, glBLawPrints, Dok_same, e_1, e_2, e_5, hix, hld (.refl _)]
      refine rright38_p hgi.1 ?_
      simp (disch := first | omega | ((simp only [nxBLawPrints]) <;> omega) | decide) only [↓stepPre, stepPost, ↓W_cond, ↓W_block, ↓reduceIte, Nat.reduceEqDiff, Nat.reduceLT, Nat.reduceLeDiff, ret0, stVar, isTup, Value.cells, Nat.reduceAdd, Nat.reduceMul, Nat.reduceSub, env0, binV, intV, reduceCtorEq, pickV, nilCheckV, ptrV, unV, Rt, resultsV, allV, resV, calleeV, builtinV, eqV, fieldAddrV, ldVar, stN_own, stN_ownL, Int.reduceToNat, Int.reducePow, IntKind.bits, convV, Int.reduceNeg, Int.reduceAdd, Int.reduceSub, Int.reduceLT, Int.reduceLE, extractV, Int.reduceEq, mkFuncV, stBLawPrints, spBLawPrints, beq_self_eq_true, tyB0LawPrints, getL_take, glBLawPrints, Dok_same, e_1, e_2, e_5, hix, hld (.refl _), bne_self_eq_false]
      refine line38_ok hgi.1 hgi.2 (hL.mild (m0.trans M) (by omega)) (by omega) fun t4 M4 => ?_
      refine ⟨.inl M4, ?_⟩
      have n4 := M4.next
      simp (disch := first | omega | ((simp only [nxBLawPrints]) <;> omega) | decide) only [↓stepPre, stepPost, ↓W_cond, ↓W_block, ↓reduceIte, Nat.reduceEqDiff, Nat.reduceLT, Nat.reduceLeDiff, ret0, stVar, isTup, Value.cells, Nat.reduceAdd, Nat.reduceMul, Nat.reduceSub, env0, binV, intV, reduceCtorEq, pickV, nilCheckV, ptrV, unV, Rt, resultsV, allV, resV, calleeV, builtinV, eqV, fieldAddrV, ldVar, stN_own, stN_ownL, Int.reduceToNat, Int.reducePow, IntKind.bits, convV, Int.reduceNeg, Int.reduceAdd, Int.reduceSub, Int.reduceLT, Int.reduceLE, extractV, Int.reduceEq, mkFuncV, stBLawPrints, spBLawPrints, beq_self_eq_true, tyB0LawPrints, getL_take, glBLawPrints, e_1, e_2, e_5, hix, hld M4]
      refine rline38_ok hgi.1 hgi.2 (by omega) fun t5 M5 => ?_
      refine ⟨.inl M5, ?_⟩
      simp (disch := first | omega | ((simp only [nxBLawPrints]) <;> omega) | decide) only [↓stepPre, stepPost, ↓W_cond, ↓W_block, ↓reduceIte, Nat.reduceEqDiff, Nat.reduceLT, Nat.reduceLeDiff, ret0, stVar, isTup, Value.cells, Nat.reduceAdd, Nat.reduceMul, Nat.reduceSub, env0, binV, intV, reduceCtorEq, pickV, nilCheckV, ptrV, unV, Rt, resultsV, allV, resV, calleeV, builtinV, eqV, fieldAddrV, ldVar, stN_own, stN_ownL, Int.reduceToNat, Int.reducePow, IntKind.bits, convV, Int.reduceNeg, Int.reduceAdd, Int.reduceSub, Int.reduceLT, Int.reduceLE, extractV, Int.reduceEq, mkFuncV, stBLawPrints, spBLawPrints, beq_self_eq_true, tyB0LawPrints, getL_take, glBLawPrints, e_1, e_2, e_5, neqStrV38, eq_self, not_true_eq_false]
      exact ⟨hil, by simp, (M.trans M4).trans M5⟩
    rintro y e1 t ⟨rfl, e_1, e_2, M⟩
    have cM := (M.heap s.next (by omega)).trans c0
    have nM := M.next
    simp (disch := first | omega | ((simp only [nxBLawPrints]) <;> omega) | decide) only [↓stepPre, stepPost, ↓W_cond, ↓W_block, ↓reduceIte, Nat.reduceEqDiff, Nat.reduceLT, Nat.reduceLeDiff, ret0, stVar, isTup, Value.cells, Nat.reduceAdd, Nat.reduceMul, Nat.reduceSub, env0, binV, intV, reduceCtorEq, pickV, nilCheckV, ptrV, unV, Rt, resultsV, allV, resV, calleeV, builtinV, eqV, fieldAddrV, ldVar, stN_own, stN_ownL, Int.reduceToNat, Int.reducePow, IntKind.bits, convV, Int.reduceNeg, Int.reduceAdd, Int.reduceSub, Int.reduceLT, Int.reduceLE, extractV, Int.reduceEq, mkFuncV, stBLawPrints, spBLawPrints, beq_self_eq_true, tyB0LawPrints, getL_take, glBLawPrints, e_1, e_2, cM]
    refine print38_ok (p := p) (hs.mild (m0.trans M)) (hu.mild (m0.trans M)) hg hnx hnl (.inl (by omega)) (.inr (by omega)) hnm (hL.mild (m0.trans M) (by omega)) (by omega) fun t1 M1 => ?_
    have n1 := M1.next
    have cM1 := (M1.heap s.next (by omega)).trans cM
    have M01 := (m0.trans M).trans M1
    simp (disch := first | omega | ((simp only [nxBLawPrints]) <;> omega) | decide) only [↓stepPre, stepPost, ↓W_cond, ↓W_block, ↓reduceIte, Nat.reduceEqDiff, Nat.reduceLT, Nat.reduceLeDiff, ret0, stVar, isTup, Value.cells, Nat.reduceAdd, Nat.reduceMul, Nat.reduceSub, env0, binV, intV, reduceCtorEq, pickV, nilCheckV, ptrV, unV, Rt, resultsV, allV, resV, calleeV, builtinV, eqV, fieldAddrV, ldVar, stN_own, stN_ownL, Int.reduceToNat, Int.reducePow, IntKind.bits, convV, Int.reduceNeg, Int.reduceAdd, Int.reduceSub, Int.reduceLT, Int.reduceLE, extractV, Int.reduceEq, mkFuncV, stBLawPrints, spBLawPrints, beq_self_eq_true, tyB0LawPrints, getL_take, glBLawPrints, e_1, e_2, cM1]
    refine rprint38_ok (p := p) (hs.mild M01) (hu.mild M01) hg hnx hnl (.inl (by omega)) (.inr (by omega)) (by omega) fun t2 M2 => ?_
    have n2 := M2.next
    simp (disch := first | omega | ((simp only [nxBLawPrints]) <;> omega) | decide) only [↓stepPre, stepPost, ↓W_cond, ↓W_block, ↓reduceIte, Nat.reduceEqDiff, Nat.reduceLT, Nat.reduceLeDiff, ret0, stVar, isTup, Value.cells, Nat.reduceAdd, Nat.reduceMul, Nat.reduceSub, env0, binV, intV, reduceCtorEq, pickV, nilCheckV, ptrV, unV, Rt, resultsV, allV, resV, calleeV, builtinV, eqV, fieldAddrV, ldVar, stN_own, stN_ownL, Int.reduceToNat, Int.reducePow, IntKind.bits, convV, Int.reduceNeg, Int.reduceAdd, Int.reduceSub, Int.reduceLT, Int.reduceLE, extractV, Int.reduceEq, mkFuncV, stBLawPrints, spBLawPrints, beq_self_eq_true, tyB0LawPrints, getL_take, glBLawPrints, e_1, e_2]
    refine live38_ok (hL.mild (M01.trans M2) (by omega)) (by omega) fun t3 M3 => ?_
    simp (disch := first | omega | ((simp only [nxBLawPrints]) <;> omega) | decide) only [↓stepPre, stepPost, ↓W_cond, ↓W_block, ↓reduceIte, Nat.reduceEqDiff, Nat.reduceLT, Nat.reduceLeDiff, ret0, stVar, isTup, Value.cells, Nat.reduceAdd, Nat.reduceMul, Nat.reduceSub, env0, binV, intV, reduceCtorEq, pickV, nilCheckV, ptrV, unV, Rt, resultsV, allV, resV, calleeV, builtinV, eqV, fieldAddrV, ldVar, stN_own, stN_ownL, Int.reduceToNat, Int.reducePow, IntKind.bits, convV, Int.reduceNeg, Int.reduceAdd, Int.reduceSub, Int.reduceLT, Int.reduceLE, extractV, Int.reduceEq, mkFuncV, stBLawPrints, spBLawPrints, beq_self_eq_true, tyB0LawPrints, getL_take, glBLawPrints, e_1, e_2, eqlStrV, eqlStr, eq_self, Tryz.results3]
  have g1 : ¬ (l.length : Int) > 100 := by omega
  have g1' : ¬ 100 < (l.length : Int) := by omega
  by_cases hC : 12 < p.xs.length
  · have g3 : (p.xs.length : Int) > 12 := by omega
    have g3' : 12 < (p.xs.length : Int) := by omega
    by_cases hD : p.xs.length ≤ 64
    · have g4 : (p.xs.length : Int) ≤ 64 := by omega
      simp (disch := first | omega | ((simp only [nxBLawPrints]) <;> omega) | decide) only [↓stepPre, stepPost, ↓W_cond, ↓W_block, ↓reduceIte, Nat.reduceEqDiff, Nat.reduceLT, Nat.reduceLeDiff, ret0, stVar, isTup, Value.cells, Nat.reduceAdd, Nat.reduceMul, Nat.reduceSub, env0, binV, intV, reduceCtorEq, pickV, nilCheckV, ptrV, unV, Rt, resultsV, allV, resV, calleeV, builtinV, eqV, fieldAddrV, ldVar, stN_own, stN_ownL, Int.reduceToNat, Int.reducePow, IntKind.bits, convV, Int.reduceNeg, Int.reduceAdd, Int.reduceSub, Int.reduceLT, Int.reduceLE, extractV, Int.reduceEq, mkFuncV, stBLawPrints, spBLawPrints, beq_self_eq_true, tyB0LawPrints, getL_take, glBLawPrints, hlu, hlv, c0, g1, g1', g3, g3', g4]
      refine live38_ok (hL.mild m0 (by omega)) (by omega) fun t3 M3 => ?_
      simp (disch := first | omega | ((simp only [nxBLawPrints]) <;> omega) | decide) only [↓stepPre, stepPost, ↓W_cond, ↓W_block, ↓reduceIte, Nat.reduceEqDiff, Nat.reduceLT, Nat.reduceLeDiff, ret0, stVar, isTup, Value.cells, Nat.reduceAdd, Nat.reduceMul, Nat.reduceSub, env0, binV, intV, reduceCtorEq, pickV, nilCheckV, ptrV, unV, Rt, resultsV, allV, resV, calleeV, builtinV, eqV, fieldAddrV, ldVar, stN_own, stN_ownL, Int.reduceToNat, Int.reducePow, IntKind.bits, convV, Int.reduceNeg, Int.reduceAdd, Int.reduceSub, Int.reduceLT, Int.reduceLE, extractV, Int.reduceEq, mkFuncV, stBLawPrints, spBLawPrints, beq_self_eq_true, tyB0LawPrints, getL_take, glBLawPrints, Tryz.results3]
    have g4 : ¬ (p.xs.length : Int) ≤ 64 := by omega
    simp (disch := first | omega | ((simp only [nxBLawPrints]) <;> omega) | decide) only [↓stepPre, stepPost, ↓W_cond, ↓W_block, ↓reduceIte, Nat.reduceEqDiff, Nat.reduceLT, Nat.reduceLeDiff, ret0, stVar, isTup, Value.cells, Nat.reduceAdd, Nat.reduceMul, Nat.reduceSub, env0, binV, intV, reduceCtorEq, pickV, nilCheckV, ptrV, unV, Rt, resultsV, allV, resV, calleeV, builtinV, eqV, fieldAddrV, ldVar, stN_own, stN_ownL, Int.reduceToNat, Int.reducePow, IntKind.bits, convV, Int.reduceNeg, Int.reduceAdd, Int.reduceSub, Int.reduceLT, Int.reduceLE, extractV, Int.reduceEq, mkFuncV, stBLawPrints, spBLawPrints, beq_self_eq_true, tyB0LawPrints, getL_take, glBLawPrints, hlu, hlv, c0, g1, g1', g3, g3', g4]
    refine W_loop_inv l.length (fun i e1 t => e1 1 = u ∧ e1 2 = .pointer (some ⟨s.next, 0, none⟩) ∧ e1 5 = .int .i64 (i : Int) ∧ Mild s1 t)
      (fun y e1 t => y = .exit 0 ∧ e1 1 = u ∧ e1 2 = .pointer (some ⟨s.next, 0, none⟩) ∧ Mild s1 t) ?_ ⟨rfl, rfl, rfl, .refl _⟩ ?_
    · rintro i e1 t hi ⟨e_1, e_2, e_5, M⟩
      have hsM := hu.mild (m0.trans M)
      by_cases hil : i < l.length
      rotate_left
      · have k1 : ¬ (i : Int) < (l.length : Int) := by omega
        simp (disch := first | omega | ((simp only [nxBLawPrints]) <;> omega) | decide) only [↓stepPre, stepPost, ↓W_cond, ↓W_block, ↓reduceIte, Nat.reduceEqDiff, Nat.reduceLT, Nat.reduceLeDiff, ret0, stVar, isTup, Value.cells, Nat.reduceAdd, Nat.reduceMul, Nat.reduceSub, env0, binV, intV, reduceCtorEq, pickV, nilCheckV, ptrV, unV, Rt, resultsV, allV, resV, calleeV, builtinV, eqV, fieldAddrV, ldVar, stN_own, stN_ownL, Int.reduceToNat, Int.reducePow, IntKind.bits, convV, Int.reduceNeg, Int.reduceAdd, Int.reduceSub, Int.reduceLT, Int.reduceLE, extractV, Int.reduceEq, mkFuncV, stBLawPrints, spBLawPrints, beq_self_eq_true, tyB0LawPrints, getL_take, glBLawPrints, e_1, e_2, e_5, hlu, k1]
        exact M
      have k1 : (i : Int) < (l.length : Int) := by omega
      by_cases hi100 : i < 100
      rotate_left
      · have k2 : ¬ (i : Int) < 100 := by omega
        simp (disch := first | omega | ((simp only [nxBLawPrints]) <;> omega) | decide) only [↓stepPre, stepPost, ↓W_cond, ↓W_block, ↓reduceIte, Nat.reduceEqDiff, Nat.reduceLT, Nat.reduceLeDiff, ret0, stVar, isTup, Value.cells, Nat.reduceAdd, Nat.reduceMul, Nat.reduceSub, env0, binV, intV, reduceCtorEq, pickV, nilCheckV, ptrV, unV, Rt, resultsV, allV, resV, calleeV, builtinV, eqV, fieldAddrV, ldVar, stN_own, stN_ownL, Int.reduceToNat, Int.reducePow, IntKind.bits, convV, Int.reduceNeg, Int.reduceAdd, Int.reduceSub, Int.reduceLT, Int.reduceLE, extractV, Int.reduceEq, mkFuncV, stBLawPrints, spBLawPrints, beq_self_eq_true, tyB0LawPrints, getL_take, glBLawPrints, e_1, e_2, e_5, hlu, k1, k2]
        exact M
      have k2 : (i : Int) < 100 := by omega
      have hix := hsM.index (P := Tryz.prog) (k := .i64) (i := (i : Int)) Ty.elem27 Ty.siz33 (by omega) (by rw [acL_len]; omega)
      rw [Int.toNat_natCast] at hix
      have hld := fun {t' : St} (m : Mild t t') => (hsM.mild m).loadA (P := Tryz.prog) (acL_at hil) Ty.agg33 Ty.siz33
      have hgi := hg _ (List.getElem_mem hil)
      have nM := M.next
      generalize l[i] = a at hld hgi
      simp (disch := first | omega | ((simp only [nxBLawPrints]) <;> omega) | decide) only [↓stepPre, stepPost, ↓W_cond, ↓W_block, ↓reduceIte, Nat.reduceEqDiff, Nat.reduceLT, Nat.reduceLeDiff, ret0, stVar, isTup, Value.cells, Nat.reduceAdd, Nat.reduceMul, Nat.reduceSub, env0, binV, intV, reduceCtorEq, pickV, nilCheckV, ptrV, unV, Rt, resultsV, allV, resV, calleeV, builtinV, eqV, fieldAddrV, ldVar, stN_own, stN_ownL, Int.reduceToNat, Int.reducePow, IntKind.bits, convV, Int.reduceNeg, Int.reduceAdd, Int.reduceSub, Int.reduceLT, Int.reduceLE, extractV, Int.reduceEq, mkFuncV, stBLawPrints, spBLawPrints, beq_self_eq_true, tyB0LawPrints, getL_take, glBLawPrints, e_1, e_2, e_5, hlu, k1, k2]
      refine W_draw (fun _ => false) (fun _ => false) (fun _ => false) (by kernel_rfl) (by kernel_rfl) ?_
      simp (disch := first | omega | ((simp only [nxBLawPrints]) <;> omega) | decide) only [↓stepPre, stepPost, ↓W_cond, ↓W_block, ↓reduceIte, Nat.reduceEqDiff, Nat.reduceLT, Nat.reduceLeDiff, ret0, stVar, isTup, Value.cells, Nat.reduceAdd, Nat.reduceMul, Nat.reduceSub, env0, binV, intV, reduceCtorEq, pickV, nilCheckV, ptrV, unV, Rt, resultsV, allV, resV, calleeV, builtinV, eqV, fieldAddrV, ldVar, stN_own, stN_ownL, Int.reduceToNat, Int.reducePow, IntKind.bits, convV, Int.reduceNeg, Int.reduceAdd, Int.reduceSub, Int.reduceLT, Int.reduceLE, extractV, Int.reduceEq, mkFuncV, stBLawPrints, spBLawPrints, beq_self_eq_true, tyB0LawPrints, getL_take, glBLawPrints, e_1, e_2, e_5, hix, hld (.refl _)]
      refine right38_p hgi.1 ?_
      simp (disch := first | omega | ((simp only [nxBLawPrints]) <;> omega) | decide) only [↓stepPre, stepPost, ↓W_cond, ↓W_block, ↓reduceIte, Nat.reduceEqDiff, Nat.reduceLT, Nat.reduceLeDiff, ret0, stVar, isTup, Value.cells, Nat.reduceAdd, Nat.reduceMul, Nat.reduceSub, env0, binV, intV, reduceCtorEq, pickV, nilCheckV, ptrV, unV, Rt, resultsV, allV, resV, calleeV, builtinV, eqV, fieldAddrV, ldVar, stN_own, stN_ownL, Int.reduceToNat, Int.reducePow, IntKind.bits, convV, Int.reduceNeg, Int.reduceAdd, Int.reduceSub, Int.reduceLT, Int.reduceLE, extractV, Int.reduceEq, mkFuncV, stBLawPrints, spBLawPrints, beq_self_eq_true, tyB0LawPrints, getL_take, glBLawPrints, Dok_same, e_1, e_2, e_5, hix, hld (.refl _)]
      refine rright38_p hgi.1 ?_
      simp (disch := first | omega | ((simp only [nxBLawPrints]) <;> omega) | decide) only [↓stepPre, stepPost, ↓W_cond, ↓W_block, ↓reduceIte, Nat.reduceEqDiff, Nat.reduceLT, Nat.reduceLeDiff, ret0, stVar, isTup, Value.cells, Nat.reduceAdd, Nat.reduceMul, Nat.reduceSub, env0, binV, intV, reduceCtorEq, pickV, nilCheckV, ptrV, unV, Rt, resultsV, allV, resV, calleeV, builtinV, eqV, fieldAddrV, ldVar, stN_own, stN_ownL, Int.reduceToNat, Int.reducePow, IntKind.bits, convV, Int.reduceNeg, Int.reduceAdd, Int.reduceSub, Int.reduceLT, Int.reduceLE, extractV, Int.reduceEq, mkFuncV, stBLawPrints, spBLawPrints, beq_self_eq_true, tyB0LawPrints, getL_take, glBLawPrints, Dok_same, e_1, e_2, e_5, hix, hld (.refl _), bne_self_eq_false]
      refine line38_ok hgi.1 hgi.2 (hL.mild (m0.trans M) (by omega)) (by omega) fun t4 M4 => ?_
      refine ⟨.inl M4, ?_⟩
      have n4 := M4.next
      simp (disch := first | omega | ((simp only [nxBLawPrints]) <;> omega) | decide) only [↓stepPre, stepPost, ↓W_cond, ↓W_block, ↓reduceIte, Nat.reduceEqDiff, Nat.reduceLT, Nat.reduceLeDiff, ret0, stVar, isTup, Value.cells, Nat.reduceAdd, Nat.reduceMul, Nat.reduceSub, env0, binV, intV, reduceCtorEq, pickV, nilCheckV, ptrV, unV, Rt, resultsV, allV, resV, calleeV, builtinV, eqV, fieldAddrV, ldVar, stN_own, stN_ownL, Int.reduceToNat, Int.reducePow, IntKind.bits, convV, Int.reduceNeg, Int.reduceAdd, Int.reduceSub, Int.reduceLT, Int.reduceLE, extractV, Int.reduceEq, mkFuncV, stBLawPrints, spBLawPrints, beq_self_eq_true, tyB0LawPrints, getL_take, glBLawPrints, e_1, e_2, e_5, hix, hld M4]
      refine rline38_ok hgi.1 hgi.2 (by omega) fun t5 M5 => ?_
      refine ⟨.inl M5, ?_⟩
      simp (disch := first | omega | ((simp only [nxBLawPrints]) <;> omega) | decide) only [↓stepPre, stepPost, ↓W_cond, ↓W_block, ↓reduceIte, Nat.reduceEqDiff, Nat.reduceLT, Nat.reduceLeDiff, ret0, stVar, isTup, Value.cells, Nat.reduceAdd, Nat.reduceMul, Nat.reduceSub, env0, binV, intV, reduceCtorEq, pickV, nilCheckV, ptrV, unV, Rt, resultsV, allV, resV, calleeV, builtinV, eqV, fieldAddrV, ldVar, stN_own, stN_ownL, Int.reduceToNat, Int.reducePow, IntKind.bits, convV, Int.reduceNeg, Int.reduceAdd, Int.reduceSub, Int.reduceLT, Int.reduceLE, extractV, Int.reduceEq, mkFuncV, stBLawPrints, spBLawPrints, beq_self_eq_true, tyB0LawPrints, getL_take, glBLawPrints, e_1, e_2, e_5, neqStrV38, eq_self, not_true_eq_false]
      exact ⟨hil, by simp, (M.trans M4).trans M5⟩
    rintro y e1 t ⟨rfl, e_1, e_2, M⟩
    have cM := (M.heap s.next (by omega)).trans c0
    have nM := M.next
    simp (disch := first | omega | ((simp only [nxBLawPrints]) <;> omega) | decide) only [↓stepPre, stepPost, ↓W_cond, ↓W_block, ↓reduceIte, Nat.reduceEqDiff, Nat.reduceLT, Nat.reduceLeDiff, ret0, stVar, isTup, Value.cells, Nat.reduceAdd, Nat.reduceMul, Nat.reduceSub, env0, binV, intV, reduceCtorEq, pickV, nilCheckV, ptrV, unV, Rt, resultsV, allV, resV, calleeV, builtinV, eqV, fieldAddrV, ldVar, stN_own, stN_ownL, Int.reduceToNat, Int.reducePow, IntKind.bits, convV, Int.reduceNeg, Int.reduceAdd, Int.reduceSub, Int.reduceLT, Int.reduceLE, extractV, Int.reduceEq, mkFuncV, stBLawPrints, spBLawPrints, beq_self_eq_true, tyB0LawPrints, getL_take, glBLawPrints, e_1, e_2, cM]
    refine print38_ok (p := p) (hs.mild (m0.trans M)) (hu.mild (m0.trans M)) hg hnx hnl (.inr (by omega)) (.inl (by omega)) hnm (hL.mild (m0.trans M) (by omega)) (by omega) fun t1 M1 => ?_
    have n1 := M1.next
    have cM1 := (M1.heap s.next (by omega)).trans cM
    have M01 := (m0.trans M).trans M1
    simp (disch := first | omega | ((simp only [nxBLawPrints]) <;> omega) | decide) only [↓stepPre, stepPost, ↓W_cond, ↓W_block, ↓reduceIte, Nat.reduceEqDiff, Nat.reduceLT, Nat.reduceLeDiff, ret0, stVar, isTup, Value.cells, Nat.reduceAdd, Nat.reduceMul, Nat.reduceSub, env0, binV, intV, reduceCtorEq, pickV, nilCheckV, ptrV, unV, Rt, resultsV, allV, resV, calleeV, builtinV, eqV, fieldAddrV, ldVar, stN_own, stN_ownL, Int.reduceToNat, Int.reducePow, IntKind.bits, convV, Int.reduceNeg, Int.reduceAdd, Int.reduceSub, Int.reduceLT, Int.reduceLE, extractV, Int.reduceEq, mkFuncV, stBLawPrints, spBLawPrints, beq_self_eq_true, tyB0LawPrints, getL_take, glBLawPrints, e_1, e_2, cM1]
    refine rprint38_ok (p := p) (hs.mild M01) (hu.mild M01) hg hnx hnl (.inr (by omega)) (.inl (by omega)) (by omega) fun t2 M2 => ?_
    have n2 := M2.next
    simp (disch := first | omega | ((simp only [nxBLawPrints]) <;> omega) | decide) only [↓stepPre, stepPost, ↓W_cond, ↓W_block, ↓reduceIte, Nat.reduceEqDiff, Nat.reduceLT, Nat.reduceLeDiff, ret0, stVar, isTup, Value.cells, Nat.reduceAdd, Nat.reduceMul, Nat.reduceSub, env0, binV, intV, reduceCtorEq, pickV, nilCheckV, ptrV, unV, Rt, resultsV, allV, resV, calleeV, builtinV, eqV, fieldAddrV, ldVar, stN_own, stN_ownL, Int.reduceToNat, Int.reducePow, IntKind.bits, convV, Int.reduceNeg, Int.reduceAdd, Int.reduceSub, Int.reduceLT, Int.reduceLE, extractV, Int.reduceEq, mkFuncV, stBLawPrints, spBLawPrints, beq_self_eq_true, tyB0LawPrints, getL_take, glBLawPrints, e_1, e_2]
    refine live38_ok (hL.mild (M01.trans M2) (by omega)) (by omega) fun t3 M3 => ?_
    simp (disch := first | omega | ((simp only [nxBLawPrints]) <;> omega) | decide) only [↓stepPre, stepPost, ↓W_cond, ↓W_block, ↓reduceIte, Nat.reduceEqDiff, Nat.reduceLT, Nat.reduceLeDiff, ret0, stVar, isTup, Value.cells, Nat.reduceAdd, Nat.reduceMul, Nat.reduceSub, env0, binV, intV, reduceCtorEq, pickV, nilCheckV, ptrV, unV, Rt, resultsV, allV, resV, calleeV, builtinV, eqV, fieldAddrV, ldVar, stN_own, stN_ownL, Int.reduceToNat, Int.reducePow, IntKind.bits, convV, Int.reduceNeg, Int.reduceAdd, Int.reduceSub, Int.reduceLT, Int.reduceLE, extractV, Int.reduceEq, mkFuncV, stBLawPrints, spBLawPrints, beq_self_eq_true, tyB0LawPrints, getL_take, glBLawPrints, e_1, e_2, eqlStrV, eqlStr, eq_self, Tryz.results3]
  have g3 : ¬ (p.xs.length : Int) > 12 := by omega
  have g3' : ¬ 12 < (p.xs.length : Int) := by omega
  simp (disch := first | omega | ((simp only [nxBLawPrints]) <;> omega) | decide) only [↓stepPre, stepPost, ↓W_cond, ↓W_block, ↓reduceIte, Nat.reduceEqDiff, Nat.reduceLT, Nat.reduceLeDiff, ret0, stVar, isTup, Value.cells, Nat.reduceAdd, Nat.reduceMul, Nat.reduceSub, env0, binV, intV, reduceCtorEq, pickV, nilCheckV, ptrV, unV, Rt, resultsV, allV, resV, calleeV, builtinV, eqV, fieldAddrV, ldVar, stN_own, stN_ownL, Int.reduceToNat, Int.reducePow, IntKind.bits, convV, Int.reduceNeg, Int.reduceAdd, Int.reduceSub, Int.reduceLT, Int.reduceLE, extractV, Int.reduceEq, mkFuncV, stBLawPrints, spBLawPrints, beq_self_eq_true, tyB0LawPrints, getL_take, glBLawPrints, hlu, hlv, c0, g1, g1', g3, g3']
  refine W_loop_inv l.length (fun i e1 t => e1 1 = u ∧ e1 2 = .pointer (some ⟨s.next, 0, none⟩) ∧ e1 5 = .int .i64 (i : Int) ∧ Mild s1 t)
    (fun y e1 t => y = .exit 0 ∧ e1 1 = u ∧ e1 2 = .pointer (some ⟨s.next, 0, none⟩) ∧ Mild s1 t) ?_ ⟨rfl, rfl, rfl, .refl _⟩ ?_
  · rintro i e1 t hi ⟨e_1, e_2, e_5, M⟩
    have hsM := hu.mild (m0.trans M)
    by_cases hil : i < l.length
    rotate_left
    · have k1 : ¬ (i : Int) < (l.length : Int) := by omega
      simp (disch := first | omega | ((simp only [nxBLawPrints]) <;> omega) | decide) only [↓stepPre, stepPost, ↓W_cond, ↓W_block, ↓reduceIte, Nat.reduceEqDiff, Nat.reduceLT, Nat.reduceLeDiff, ret0, stVar, isTup, Value.cells, Nat.reduceAdd, Nat.reduceMul, Nat.reduceSub, env0, binV, intV, reduceCtorEq, pickV, nilCheckV, ptrV, unV, Rt, resultsV, allV, resV, calleeV, builtinV, eqV, fieldAddrV, ldVar, stN_own, stN_ownL, Int.reduceToNat, Int.reducePow, IntKind.bits, convV, Int.reduceNeg, Int.reduceAdd, Int.reduceSub, Int.reduceLT, Int.reduceLE, extractV, Int.reduceEq, mkFuncV, stBLawPrints, spBLawPrints, beq_self_eq_true, tyB0LawPrints, getL_take, glBLawPrints, e_1, e_2, e_5, hlu, k1]
      exact M
    have k1 : (i : Int) < (l.length : Int) := by omega
    by_cases hi100 : i < 100
    rotate_left
    · have k2 : ¬ (i : Int) < 100 := by omega
      simp (disch := first | omega | ((simp only [nxBLawPrints]) <;> omega) | decide) only [↓stepPre, stepPost, ↓W_cond, ↓W_block, ↓reduceIte, Nat.reduceEqDiff, Nat.reduceLT, Nat.reduceLeDiff, ret0, stVar, isTup, Value.cells, Nat.reduceAdd, Nat.reduceMul, Nat.reduceSub, env0, binV, intV, reduceCtorEq, pickV, nilCheckV, ptrV, unV, Rt, resultsV, allV, resV, calleeV, builtinV, eqV, fieldAddrV, ldVar, stN_own, stN_ownL, Int.reduceToNat, Int.reducePow, IntKind.bits, convV, Int.reduceNeg, Int.reduceAdd, Int.reduceSub, Int.reduceLT, Int.reduceLE, extractV, Int.reduceEq, mkFuncV, stBLawPrints, spBLawPrints, beq_self_eq_true, tyB0LawPrints, getL_take, glBLawPrints, e_1, e_2, e_5, hlu, k1, k2]
      exact M
    have k2 : (i : Int) < 100 := by omega
    have hix := hsM.index (P := Tryz.prog) (k := .i64) (i := (i : Int)) Ty.elem27 Ty.siz33 (by omega) (by rw [acL_len]; omega)
    rw [Int.toNat_natCast] at hix
    have hld := fun {t' : St} (m : Mild t t') => (hsM.mild m).loadA (P := Tryz.prog) (acL_at hil) Ty.agg33 Ty.siz33
    have hgi := hg _ (List.getElem_mem hil)
    have nM := M.next
    generalize l[i] = a at hld hgi
    simp (disch := first | omega | ((simp only [nxBLawPrints]) <;> omega) | decide) only [↓stepPre, stepPost, ↓W_cond, ↓W_block, ↓reduceIte, Nat.reduceEqDiff, Nat.reduceLT, Nat.reduceLeDiff, ret0, stVar, isTup, Value.cells, Nat.reduceAdd, Nat.reduceMul, Nat.reduceSub, env0, binV, intV, reduceCtorEq, pickV, nilCheckV, ptrV, unV, Rt, resultsV, allV, resV, calleeV, builtinV, eqV, fieldAddrV, ldVar, stN_own, stN_ownL, Int.reduceToNat, Int.reducePow, IntKind.bits, convV, Int.reduceNeg, Int.reduceAdd, Int.reduceSub, Int.reduceLT, Int.reduceLE, extractV, Int.reduceEq, mkFuncV, stBLawPrints, spBLawPrints, beq_self_eq_true, tyB0LawPrints, getL_take, glBLawPrints, e_1, e_2, e_5, hlu, k1, k2]
    refine W_draw (fun _ => false) (fun _ => false) (fun _ => false) (by kernel_rfl) (by kernel_rfl) ?_
    simp (disch := first | omega | ((simp only [nxBLawPrints]) <;> omega) | decide) only [↓stepPre, stepPost, ↓W_cond, ↓W_block, ↓reduceIte, Nat.reduceEqDiff, Nat.reduceLT, Nat.reduceLeDiff, ret0, stVar, isTup, Value.cells, Nat.reduceAdd, Nat.reduceMul, Nat.reduceSub, env0, binV, intV, reduceCtorEq, pickV, nilCheckV, ptrV, unV, Rt, resultsV, allV, resV, calleeV, builtinV, eqV, fieldAddrV, ldVar, stN_own, stN_ownL, Int.reduceToNat, Int.reducePow, IntKind.bits, convV, Int.reduceNeg, Int.reduceAdd, Int.reduceSub, Int.reduceLT, Int.reduceLE, extractV, Int.reduceEq, mkFuncV, stBLawPrints, spBLawPrints, beq_self_eq_true, tyB0LawPrints, getL_take, glBLawPrints, e_1, e_2, e_5, hix, hld (.refl _)]
    refine right38_p hgi.1 ?_
    simp (disch := first | omega | ((simp only [nxBLawPrints]) <;> omega) | decide) only [↓stepPre, stepPost, ↓W_cond, ↓W_block, ↓reduceIte, Nat.reduceEqDiff, Nat.reduceLT, Nat.reduceLeDiff, ret0, stVar, isTup, Value.cells, Nat.reduceAdd, Nat.reduceMul, Nat.reduceSub, env0, binV, intV, reduceCtorEq, pickV, nilCheckV, ptrV, unV, Rt, resultsV, allV, resV, calleeV, builtinV, eqV, fieldAddrV, ldVar, stN_own, stN_ownL, Int.reduceToNat, Int.reducePow, IntKind.bits, convV, Int.reduceNeg, Int.reduceAdd, Int.reduceSub, Int.reduceLT, Int.reduceLE, extractV, Int.reduceEq, mkFuncV, stBLawPrints, spBLawPrints, beq_self_eq_true, tyB0LawPrints, getL_take, glBLawPrints, Dok_same, e_1, e_2, e_5, hix, hld (.refl _)]
    refine rright38_p hgi.1 ?_
    simp (disch := first | omega | ((simp only [nxBLawPrints]) <;> omega) | decide) only [↓stepPre, stepPost, ↓W_cond, ↓W_block, ↓reduceIte, Nat.reduceEqDiff, Nat.reduceLT, Nat.reduceLeDiff, ret0, stVar, isTup, Value.cells, Nat.reduceAdd, Nat.reduceMul, Nat.reduceSub, env0, binV, intV, reduceCtorEq, pickV, nilCheckV, ptrV, unV, Rt, resultsV, allV, resV, calleeV, builtinV, eqV, fieldAddrV, ldVar, stN_own, stN_ownL, Int.reduceToNat, Int.reducePow, IntKind.bits, convV, Int.reduceNeg, Int.reduceAdd, Int.reduceSub, Int.reduceLT, Int.reduceLE, extractV, Int.reduceEq, mkFuncV, stBLawPrints, spBLawPrints, beq_self_eq_true, tyB0LawPrints, getL_take, glBLawPrints, Dok_same, e_1, e_2, e_5, hix, hld (.refl _), bne_self_eq_false]
    refine line38_ok hgi.1 hgi.2 (hL.mild (m0.trans M) (by omega)) (by omega) fun t4 M4 => ?_
    refine ⟨.inl M4, ?_⟩
    have n4 := M4.next
    simp (disch := first | omega | ((simp only [nxBLawPrints]) <;> omega) | decide) only [↓stepPre, stepPost, ↓W_cond, ↓W_block, ↓reduceIte, Nat.reduceEqDiff, Nat.reduceLT, Nat.reduceLeDiff, ret0, stVar, isTup, Value.cells, Nat.reduceAdd, Nat.reduceMul, Nat.reduceSub, env0, binV, intV, reduceCtorEq, pickV, nilCheckV, ptrV, unV, Rt, resultsV, allV, resV, calleeV, builtinV, eqV, fieldAddrV, ldVar, stN_own, stN_ownL, Int.reduceToNat, Int.reducePow, IntKind.bits, convV, Int.reduceNeg, Int.reduceAdd, Int.reduceSub, Int.reduceLT, Int.reduceLE, extractV, Int.reduceEq, mkFuncV, stBLawPrints, spBLawPrints, beq_self_eq_true, tyB0LawPrints, getL_take, glBLawPrints, e_1, e_2, e_5, hix, hld M4]
    refine rline38_ok hgi.1 hgi.2 (by omega) fun t5 M5 => ?_
    refine ⟨.inl M5, ?_⟩
    simp (disch := first | omega | ((simp only [nxBLawPrints]) <;> omega) | decide) only [↓stepPre, stepPost, ↓W_cond, ↓W_block, ↓reduceIte, Nat.reduceEqDiff, Nat.reduceLT, Nat.reduceLeDiff, ret0, stVar, isTup, Value.cells, Nat.reduceAdd, Nat.reduceMul, Nat.reduceSub, env0, binV, intV, reduceCtorEq, pickV, nilCheckV, ptrV, unV, Rt, resultsV, allV, resV, calleeV, builtinV, eqV, fieldAddrV, ldVar, stN_own, stN_ownL, Int.reduceToNat, Int.reducePow, IntKind.bits, convV, Int.reduceNeg, Int.reduceAdd, Int.reduceSub, Int.reduceLT, Int.reduceLE, extractV, Int.reduceEq, mkFuncV, stBLawPrints, spBLawPrints, beq_self_eq_true, tyB0LawPrints, getL_take, glBLawPrints, e_1, e_2, e_5, neqStrV38, eq_self, not_true_eq_false]
    exact ⟨hil, by simp, (M.trans M4).trans M5⟩
  rintro y e1 t ⟨rfl, e_1, e_2, M⟩
  have cM := (M.heap s.next (by omega)).trans c0
  have nM := M.next
  simp (disch := first | omega | ((simp only [nxBLawPrints]) <;> omega) | decide) only [↓stepPre, stepPost, ↓W_cond, ↓W_block, ↓reduceIte, Nat.reduceEqDiff, Nat.reduceLT, Nat.reduceLeDiff, ret0, stVar, isTup, Value.cells, Nat.reduceAdd, Nat.reduceMul, Nat.reduceSub, env0, binV, intV, reduceCtorEq, pickV, nilCheckV, ptrV, unV, Rt, resultsV, allV, resV, calleeV, builtinV, eqV, fieldAddrV, ldVar, stN_own, stN_ownL, Int.reduceToNat, Int.reducePow, IntKind.bits, convV, Int.reduceNeg, Int.reduceAdd, Int.reduceSub, Int.reduceLT, Int.reduceLE, extractV, Int.reduceEq, mkFuncV, stBLawPrints, spBLawPrints, beq_self_eq_true, tyB0LawPrints, getL_take, glBLawPrints, e_1, e_2, cM]
  refine print38_ok (p := p) (hs.mild (m0.trans M)) (hu.mild (m0.trans M)) hg hnx hnl (.inl (by omega)) (.inl (by omega)) hnm (hL.mild (m0.trans M) (by omega)) (by omega) fun t1 M1 => ?_
  have n1 := M1.next
  have cM1 := (M1.heap s.next (by omega)).trans cM
  have M01 := (m0.trans M).trans M1
  simp (disch := first | omega | ((simp only [nxBLawPrints]) <;> omega) | decide) only [↓stepPre, stepPost, ↓W_cond, ↓W_block, ↓reduceIte, Nat.reduceEqDiff, Nat.reduceLT, Nat.reduceLeDiff, ret0, stVar, isTup, Value.cells, Nat.reduceAdd, Nat.reduceMul, Nat.reduceSub, env0, binV, intV, reduceCtorEq, pickV, nilCheckV, ptrV, unV, Rt, resultsV, allV, resV, calleeV, builtinV, eqV, fieldAddrV, ldVar, stN_own, stN_ownL, Int.reduceToNat, Int.reducePow, IntKind.bits, convV, Int.reduceNeg, Int.reduceAdd, Int.reduceSub, Int.reduceLT, Int.reduceLE, extractV, Int.reduceEq, mkFuncV, stBLawPrints, spBLawPrints, beq_self_eq_true, tyB0LawPrints, getL_take, glBLawPrints, e_1, e_2, cM1]
  refine rprint38_ok (p := p) (hs.mild M01) (hu.mild M01) hg hnx hnl (.inl (by omega)) (.inl (by omega)) (by omega) fun t2 M2 => ?_
  have n2 := M2.next
  simp (disch := first | omega | ((simp only [nxBLawPrints]) <;> omega) | decide) only [↓stepPre, stepPost, ↓W_cond, ↓W_block, ↓reduceIte, Nat.reduceEqDiff, Nat.reduceLT, Nat.reduceLeDiff, ret0, stVar, isTup, Value.cells, Nat.reduceAdd, Nat.reduceMul, Nat.reduceSub, env0, binV, intV, reduceCtorEq, pickV, nilCheckV, ptrV, unV, Rt, resultsV, allV, resV, calleeV, builtinV, eqV, fieldAddrV, ldVar, stN_own, stN_ownL, Int.reduceToNat, Int.reducePow, IntKind.bits, convV, Int.reduceNeg, Int.reduceAdd, Int.reduceSub, Int.reduceLT, Int.reduceLE, extractV, Int.reduceEq, mkFuncV, stBLawPrints, spBLawPrints, beq_self_eq_true, tyB0LawPrints, getL_take, glBLawPrints, e_1, e_2]
  refine live38_ok (hL.mild (M01.trans M2) (by omega)) (by omega) fun t3 M3 => ?_
  simp (disch := first | omega | ((simp only [nxBLawPrints]) <;> omega) | decide) only [↓stepPre, stepPost, ↓W_cond, ↓W_block, ↓reduceIte, Nat.reduceEqDiff, Nat.reduceLT, Nat.reduceLeDiff, ret0, stVar, isTup, Value.cells, Nat.reduceAdd, Nat.reduceMul, Nat.reduceSub, env0, binV, intV, reduceCtorEq, pickV, nilCheckV, ptrV, unV, Rt, resultsV, allV, resV, calleeV, builtinV, eqV, fieldAddrV, ldVar, stN_own, stN_ownL, Int.reduceToNat, Int.reducePow, IntKind.bits, convV, Int.reduceNeg, Int.reduceAdd, Int.reduceSub, Int.reduceLT, Int.reduceLE, extractV, Int.reduceEq, mkFuncV, stBLawPrints, spBLawPrints, beq_self_eq_true, tyB0LawPrints, getL_take, glBLawPrints, e_1, e_2, eqlStrV, eqlStr, eq_self, Tryz.results3]
end Go.Proofs.YthjpfllmecpliaaGreatDoor
