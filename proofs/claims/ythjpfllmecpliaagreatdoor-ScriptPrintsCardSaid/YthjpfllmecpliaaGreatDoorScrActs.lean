/- An act's line, read (the package script): the walk. -/
import Derived.Test.YthjpfllmecpliaaGreatDoorMg4
import Derived.Test.YthjpfllmecpliaaGreatDoorMg3
import Derived.Test.YthjpfllmecpliaaGreatDoorMg12
set_option linter.all false
set_option maxRecDepth 20000
namespace Go.Proofs.YthjpfllmecpliaaGreatDoor
open Go Go.Ab
def spBScrActs := And.intro @Nat.le_refl (And.intro @true_and (And.intro @and_true (And.intro @Nat.add_zero (And.intro @Nat.zero_add (And.intro @Bool.not_true (And.intro @Bool.not_false (And.intro @ne_eq.{1} (And.intro @not_false_eq_true (And.intro @not_true_eq_false (And.intro @decide_true (And.intro @decide_false (@Int.fdiv_eq_ediv_of_nonneg))))))))))))
def nxBScrActs := And.intro @Ab.next_alloc (And.intro @Ab.next_upd (And.intro @List.length_cons.{0} (And.intro @List.length_nil.{0} (And.intro @ne_eq.{1} (And.intro not_true_eq_false not_false_eq_true)))))
def tyB0ScrActs := And.intro @Ty.t9 (And.intro @Tryz.underlying9 (And.intro @Ty.t50 (And.intro @Tryz.underlying50 (And.intro @Ty.t33 (And.intro @Tryz.underlying33 (And.intro @Ty.t30 (And.intro @Tryz.underlying30 (And.intro @Ty.t31 (And.intro @Tryz.underlying31 (And.intro @Ty.t128 (And.intro @Tryz.underlying128 (And.intro @Ty.t118 (And.intro @Tryz.underlying118 (And.intro @Ty.t140 (And.intro @Tryz.underlying140 (And.intro @Ty.t122 (And.intro @Tryz.underlying122 (And.intro @Ty.t5 (And.intro @Tryz.underlying5 (And.intro @Ty.t70 (And.intro @Tryz.underlying70 (And.intro @Ty.t2 (And.intro @Tryz.underlying2 (And.intro @Ty.t3 (And.intro @Tryz.underlying3 (And.intro @Ty.t4 @Tryz.underlying4))))))))))))))))))))))))))
def stBScrActs := And.intro @List.size_toArray.{0} (And.intro @List.length_cons.{0} (And.intro @List.length_nil.{0} (And.intro @List.set_cons_zero.{0} (And.intro @List.set_cons_succ.{0} (And.intro @List.getD_cons_zero.{0} (And.intro @List.getD_cons_succ.{0} (And.intro @List.getElem?_cons_succ.{0} (And.intro @List.getElem?_cons_zero.{0} (And.intro @List.map_cons.{0,0} (And.intro @List.map_nil.{0,0} (And.intro @Option.isNone_none.{0} (And.intro @Option.isNone_some.{0} (And.intro @Option.map_some.{0,0} (And.intro @Option.map_none.{0,0} (And.intro @List.cons_append.{0} (And.intro @List.nil_append.{0} (And.intro @List.append_nil.{0} (And.intro @Array.toList_append.{0} (And.intro @List.toList_toArray.{0} (And.intro @Int.cast_ofNat_Int (And.intro @Option.isSome_some.{0} (And.intro @List.getElem?_toArray.{0} (And.intro @List.map_toArray.{0,0} (@Nat.min_eq_left))))))))))))))))))))))))
def glBScrActs := And.intro @List.drop_zero.{0} (And.intro @List.drop_succ_cons.{0} (And.intro @List.take_succ_cons.{0} (And.intro @List.take_zero.{0} (@List.take_nil.{0}))))
variable {base : Nat} [Bok base] {s : St} {R : Value → St → Prop}
theorem actOf_a {x : List UInt8} (hx : x.length ≤ 1000000) (hL : LaidOk base s) (hbn : base ≤ s.next) (h1 : ¬ 1 < actK x) (h2 : ¬ 0 ≤ boundA (actK x)) (h3 : ¬ actK x = 3)
    (hR : ∀ s' (a : Ac), Mild s s' → a.good → (actB x = true → a = actA x) → R (.tuple #[.agg a.c.toArray, .bool (actB x)]) s') :
    WC Tryz.prog base 52 [.string (strB x)] s R := by
  refine WC_open Tryz.func52 rfl ?_
  have h5 := Bok.le5 (base := base)
  have hk8 := actK_lt x
  have M_s0 := Mild.alloc s (.row [.int .i64 0, .int .i64 0, .int .i64 0, .int .u8 0, .int .u8 0, .int .u8 0, .int .u8 0, .int .u8 0, .int .u8 0, .int .u8 0, .int .u8 0])
  obtain ⟨mx, hmx⟩ := (hL.mild M_s0 hbn).most
  obtain ⟨cv, c1, c2, c3⟩ := (hL.mild M_s0 hbn).words
  simp (disch := first | omega | ((simp only [nxBScrActs]) <;> omega) | decide) only [↓stepPre, stepPost, ↓W_cond, ↓W_block, ↓reduceIte, Nat.reduceEqDiff, Nat.reduceLT, Nat.reduceLeDiff, ret0, stVar, isTup, Value.cells, Nat.reduceAdd, Nat.reduceMul, Nat.reduceSub, env0, binV, intV, reduceCtorEq, pickV, nilCheckV, ptrV, unV, Rt, resultsV, allV, resV, calleeV, builtinV, eqV, fieldAddrV, ldVar, stN_own, stN_ownL, Int.reduceToNat, Int.reducePow, IntKind.bits, convV, Int.reduceNeg, Int.reduceAdd, Int.reduceSub, Int.reduceLT, Int.reduceLE, extractV, Int.reduceEq, mkFuncV, stBScrActs, spBScrActs, beq_self_eq_true, tyB0ScrActs, getL_take, glBScrActs]
  refine cut38_p (b := [32]) (by omega) hmx ?_
  rw [cut_fst]
  simp (disch := first | omega | ((simp only [nxBScrActs]) <;> omega) | decide) only [↓stepPre, stepPost, ↓W_cond, ↓W_block, ↓reduceIte, Nat.reduceEqDiff, Nat.reduceLT, Nat.reduceLeDiff, ret0, stVar, isTup, Value.cells, Nat.reduceAdd, Nat.reduceMul, Nat.reduceSub, env0, binV, intV, reduceCtorEq, pickV, nilCheckV, ptrV, unV, Rt, resultsV, allV, resV, calleeV, builtinV, eqV, fieldAddrV, ldVar, stN_own, stN_ownL, Int.reduceToNat, Int.reducePow, IntKind.bits, convV, Int.reduceNeg, Int.reduceAdd, Int.reduceSub, Int.reduceLT, Int.reduceLE, extractV, Int.reduceEq, mkFuncV, stBScrActs, spBScrActs, beq_self_eq_true, tyB0ScrActs, getL_take, glBScrActs, ev_global, ld_var c1 c3]
  refine place38_ok c2 (by decide) ?_
  rw [show placeN wordsL ((partW 32 x).headD []) = actK x from rfl]
  simp (disch := first | omega | ((simp only [nxBScrActs]) <;> omega) | decide) only [↓stepPre, stepPost, ↓W_cond, ↓W_block, ↓reduceIte, Nat.reduceEqDiff, Nat.reduceLT, Nat.reduceLeDiff, ret0, stVar, isTup, Value.cells, Nat.reduceAdd, Nat.reduceMul, Nat.reduceSub, env0, binV, intV, reduceCtorEq, pickV, nilCheckV, ptrV, unV, Rt, resultsV, allV, resV, calleeV, builtinV, eqV, fieldAddrV, ldVar, stN_own, stN_ownL, Int.reduceToNat, Int.reducePow, IntKind.bits, convV, Int.reduceNeg, Int.reduceAdd, Int.reduceSub, Int.reduceLT, Int.reduceLE, extractV, Int.reduceEq, mkFuncV, stBScrActs, spBScrActs, beq_self_eq_true, tyB0ScrActs, getL_take, glBScrActs, buildV, fillL, setL]
  have M_s2 : Mild s ((s.alloc (.row [.int .i64 0, .int .i64 0, .int .i64 0, .int .u8 0, .int .u8 0, .int .u8 0, .int .u8 0, .int .u8 0, .int .u8 0, .int .u8 0, .int .u8 0])).alloc (.row [.int .i64 (actK x : Int), .int .i64 0, .int .i64 0, .int .u8 0, .int .u8 0, .int .u8 0, .int .u8 0, .int .u8 0, .int .u8 0, .int .u8 0, .int .u8 0])) := (Mild.alloc s _).alloc'
  have z_s2 : ((s.alloc (.row [.int .i64 0, .int .i64 0, .int .i64 0, .int .u8 0, .int .u8 0, .int .u8 0, .int .u8 0, .int .u8 0, .int .u8 0, .int .u8 0, .int .u8 0])).alloc (.row [.int .i64 (actK x : Int), .int .i64 0, .int .i64 0, .int .u8 0, .int .u8 0, .int .u8 0, .int .u8 0, .int .u8 0, .int .u8 0, .int .u8 0, .int .u8 0])).heap s.next = .row [.int .i64 0, .int .i64 0, .int .i64 0, .int .u8 0, .int .u8 0, .int .u8 0, .int .u8 0, .int .u8 0, .int .u8 0, .int .u8 0, .int .u8 0] := (Ab.heap_alloc_ne _ _ (by simp only [Ab.next_alloc]; omega)).trans (Ab.heap_alloc_new _ _)
  have q_s2 : ((s.alloc (.row [.int .i64 0, .int .i64 0, .int .i64 0, .int .u8 0, .int .u8 0, .int .u8 0, .int .u8 0, .int .u8 0, .int .u8 0, .int .u8 0, .int .u8 0])).alloc (.row [.int .i64 (actK x : Int), .int .i64 0, .int .i64 0, .int .u8 0, .int .u8 0, .int .u8 0, .int .u8 0, .int .u8 0, .int .u8 0, .int .u8 0, .int .u8 0])).heap (s.next + 1) = .row (actC (actK x) 0 0 [0, 0, 0, 0, 0, 0, 0, 0]) := Ab.heap_alloc_new (s.alloc (.row [.int .i64 0, .int .i64 0, .int .i64 0, .int .u8 0, .int .u8 0, .int .u8 0, .int .u8 0, .int .u8 0, .int .u8 0, .int .u8 0, .int .u8 0])) (.row [.int .i64 (actK x : Int), .int .i64 0, .int .i64 0, .int .u8 0, .int .u8 0, .int .u8 0, .int .u8 0, .int .u8 0, .int .u8 0, .int .u8 0, .int .u8 0])
  have n_s2 : ((s.alloc (.row [.int .i64 0, .int .i64 0, .int .i64 0, .int .u8 0, .int .u8 0, .int .u8 0, .int .u8 0, .int .u8 0, .int .u8 0, .int .u8 0, .int .u8 0])).alloc (.row [.int .i64 (actK x : Int), .int .i64 0, .int .i64 0, .int .u8 0, .int .u8 0, .int .u8 0, .int .u8 0, .int .u8 0, .int .u8 0, .int .u8 0, .int .u8 0])).next = s.next + 2 := rfl
  generalize (s.alloc (.row [.int .i64 0, .int .i64 0, .int .i64 0, .int .u8 0, .int .u8 0, .int .u8 0, .int .u8 0, .int .u8 0, .int .u8 0, .int .u8 0, .int .u8 0])).alloc (.row [.int .i64 (actK x : Int), .int .i64 0, .int .i64 0, .int .u8 0, .int .u8 0, .int .u8 0, .int .u8 0, .int .u8 0, .int .u8 0, .int .u8 0, .int .u8 0]) = s2 at M_s2 z_s2 q_s2 n_s2 ⊢
  refine open38_ok hx (by omega) fun s3 b m3 r_s3 => ?_
  rw [show decide (¬ (partW 32 x).headD [] = (partW 32 x).headD []) = false by simp] at r_s3
  have n3 := m3.next
  have M_s3 := M_s2.trans m3
  have z_s3 := (m3.heap s.next (by omega)).trans z_s2
  have q_s3 := (m3.heap (s.next + 1) (by omega)).trans q_s2
  have hb2 : s2.next ≤ b ∧ b < s3.next := by obtain ⟨v, y1, y2, y3, y4, y5, y6⟩ := r_s3; exact ⟨y4, y5⟩
  have g1 : ¬ (actK x : Int) > 1 := by omega
  have g1' : ¬ 1 < (actK x : Int) := by omega
  have g3 : ¬ (actK x : Int) = 3 := by omega
  simp (disch := first | omega | ((simp only [nxBScrActs]) <;> omega) | decide) only [↓stepPre, stepPost, ↓W_cond, ↓W_block, ↓reduceIte, Nat.reduceEqDiff, Nat.reduceLT, Nat.reduceLeDiff, ret0, stVar, isTup, Value.cells, Nat.reduceAdd, Nat.reduceMul, Nat.reduceSub, env0, binV, intV, reduceCtorEq, pickV, nilCheckV, ptrV, unV, Rt, resultsV, allV, resV, calleeV, builtinV, eqV, fieldAddrV, ldVar, stN_own, stN_ownL, Int.reduceToNat, Int.reducePow, IntKind.bits, convV, Int.reduceNeg, Int.reduceAdd, Int.reduceSub, Int.reduceLT, Int.reduceLE, extractV, Int.reduceEq, mkFuncV, stBScrActs, spBScrActs, beq_self_eq_true, tyB0ScrActs, getL_take, glBScrActs, g1, g1', q_s3]
  refine bound38_p ?_
  simp (disch := first | omega | ((simp only [nxBScrActs]) <;> omega) | decide) only [↓stepPre, stepPost, ↓W_cond, ↓W_block, ↓reduceIte, Nat.reduceEqDiff, Nat.reduceLT, Nat.reduceLeDiff, ret0, stVar, isTup, Value.cells, Nat.reduceAdd, Nat.reduceMul, Nat.reduceSub, env0, binV, intV, reduceCtorEq, pickV, nilCheckV, ptrV, unV, Rt, resultsV, allV, resV, calleeV, builtinV, eqV, fieldAddrV, ldVar, stN_own, stN_ownL, Int.reduceToNat, Int.reducePow, IntKind.bits, convV, Int.reduceNeg, Int.reduceAdd, Int.reduceSub, Int.reduceLT, Int.reduceLE, extractV, Int.reduceEq, mkFuncV, stBScrActs, spBScrActs, beq_self_eq_true, tyB0ScrActs, getL_take, glBScrActs, Dok_same, h2, q_s3, g3]
  have hgl := getL_act (a := .int .i64 (actK x : Int)) (b := .int .i64 (0 : Int)) (c := .int .i64 (0 : Int)) (ds := [0, 0, 0, 0, 0, 0, 0, 0]) rfl
  have hp11 := putAt_act (a0 := .int .i64 0) (a1 := .int .i64 0) (a2 := .int .i64 0) (a3 := .int .u8 0) (a4 := .int .u8 0) (a5 := .int .u8 0) (a6 := .int .u8 0) (a7 := .int .u8 0) (a8 := .int .u8 0) (a9 := .int .u8 0) (a10 := .int .u8 0) (x := .int .i64 (actK x : Int)) (y := .int .i64 (0 : Int)) (z := .int .i64 (0 : Int)) (ds := [0, 0, 0, 0, 0, 0, 0, 0]) rfl
  have hb8 : (bC [0, 0, 0, 0, 0, 0, 0, 0]).length = 8 := (bC_len _).trans rfl
  have hF : (!false && (partW 32 x).tail.isEmpty) = actF x := by simp [actF, actT, actU, h1, h2, h3]
  have hsv : actF x = true → (⟨actK x, 0, 0, [0, 0, 0, 0, 0, 0, 0, 0]⟩ : Ac) = actA x := fun h => by
    rw [← hF] at h
    simp only [Bool.and_eq_true, Bool.not_eq_true', Bool.or_eq_false_iff, Bool.not_eq_false'] at h
    simp only [actA, actT, if_neg h1, if_neg h2, if_neg h3]
  have key : ∀ s', Mild s s' → R (.tuple #[.agg (actC (actK x) 0 0 [0, 0, 0, 0, 0, 0, 0, 0]).toArray, .bool (actF x && rightA (actK x) 0 0 [0, 0, 0, 0, 0, 0, 0, 0])]) s' := fun s' M => by
    have := hR s' ⟨actK x, 0, 0, [0, 0, 0, 0, 0, 0, 0, 0]⟩ M ⟨rfl, by simp⟩ (fun h => hsv (by unfold actB at h; simp only [Bool.and_eq_true] at h; exact h.1))
    have e : actB x = (actF x && rightA (actK x) 0 0 [0, 0, 0, 0, 0, 0, 0, 0]) := by
      unfold actB
      cases hf : actF x with
      | false => rfl
      | true => rw [← hsv hf]; rfl
    rw [e] at this
    exact this
  refine W_draw (fun k => k == 7) (fun _ => false) (fun _ => false) (by kernel_rfl) (by kernel_rfl) ?_
  simp (disch := first | omega | ((simp only [nxBScrActs]) <;> omega) | decide) only [↓stepPre, stepPost, ↓W_cond, ↓W_block, ↓reduceIte, Nat.reduceEqDiff, Nat.reduceLT, Nat.reduceLeDiff, ret0, stVar, isTup, Value.cells, Nat.reduceAdd, Nat.reduceMul, Nat.reduceSub, env0, binV, intV, reduceCtorEq, pickV, nilCheckV, ptrV, unV, Rt, resultsV, allV, resV, calleeV, builtinV, eqV, fieldAddrV, ldVar, stN_own, stN_ownL, Int.reduceToNat, Int.reducePow, IntKind.bits, convV, Int.reduceNeg, Int.reduceAdd, Int.reduceSub, Int.reduceLT, Int.reduceLE, extractV, Int.reduceEq, mkFuncV, stBScrActs, spBScrActs, beq_self_eq_true, tyB0ScrActs, getL_take, glBScrActs, q_s3, hgl]
  refine fine38_ok r_s3 ?_
  rw [hF]
  cases hf : actF x with
  | false =>
    rw [hf] at key
    simp (disch := first | omega | ((simp only [nxBScrActs]) <;> omega) | decide) only [↓stepPre, stepPost, ↓W_cond, ↓W_block, ↓reduceIte, Nat.reduceEqDiff, Nat.reduceLT, Nat.reduceLeDiff, ret0, stVar, isTup, Value.cells, Nat.reduceAdd, Nat.reduceMul, Nat.reduceSub, env0, binV, intV, reduceCtorEq, pickV, nilCheckV, ptrV, unV, Rt, resultsV, allV, resV, calleeV, builtinV, eqV, fieldAddrV, ldVar, stN_own, stN_ownL, Int.reduceToNat, Int.reducePow, IntKind.bits, convV, Int.reduceNeg, Int.reduceAdd, Int.reduceSub, Int.reduceLT, Int.reduceLE, extractV, Int.reduceEq, mkFuncV, stBScrActs, spBScrActs, beq_self_eq_true, tyB0ScrActs, getL_take, glBScrActs, Dok_same, hgl, hp11, hb8, eq_self, q_s3, z_s3, Tryz.results52]
    refine ⟨.inr ⟨rfl, Nat.le_refl _, fun j hj hjn => by cases hj⟩, ?_⟩
    simp (disch := first | omega | ((simp only [nxBScrActs]) <;> omega) | decide) only [↓stepPre, stepPost, ↓W_cond, ↓W_block, ↓reduceIte, Nat.reduceEqDiff, Nat.reduceLT, Nat.reduceLeDiff, ret0, stVar, isTup, Value.cells, Nat.reduceAdd, Nat.reduceMul, Nat.reduceSub, env0, binV, intV, reduceCtorEq, pickV, nilCheckV, ptrV, unV, Rt, resultsV, allV, resV, calleeV, builtinV, eqV, fieldAddrV, ldVar, stN_own, stN_ownL, Int.reduceToNat, Int.reducePow, IntKind.bits, convV, Int.reduceNeg, Int.reduceAdd, Int.reduceSub, Int.reduceLT, Int.reduceLE, extractV, Int.reduceEq, mkFuncV, stBScrActs, spBScrActs, beq_self_eq_true, tyB0ScrActs, getL_take, glBScrActs, Dok_same, hgl, Tryz.results52]
    exact key _ (M_s3.upd' (Nat.le_refl _))
  | true =>
    rw [hf] at key
    simp (disch := first | omega | ((simp only [nxBScrActs]) <;> omega) | decide) only [↓stepPre, stepPost, ↓W_cond, ↓W_block, ↓reduceIte, Nat.reduceEqDiff, Nat.reduceLT, Nat.reduceLeDiff, ret0, stVar, isTup, Value.cells, Nat.reduceAdd, Nat.reduceMul, Nat.reduceSub, env0, binV, intV, reduceCtorEq, pickV, nilCheckV, ptrV, unV, Rt, resultsV, allV, resV, calleeV, builtinV, eqV, fieldAddrV, ldVar, stN_own, stN_ownL, Int.reduceToNat, Int.reducePow, IntKind.bits, convV, Int.reduceNeg, Int.reduceAdd, Int.reduceSub, Int.reduceLT, Int.reduceLE, extractV, Int.reduceEq, mkFuncV, stBScrActs, spBScrActs, beq_self_eq_true, tyB0ScrActs, getL_take, glBScrActs, Dok_same, hgl, q_s3, z_s3]
    refine right38_p (ds := [0, 0, 0, 0, 0, 0, 0, 0]) rfl ?_
    simp (disch := first | omega | ((simp only [nxBScrActs]) <;> omega) | decide) only [↓stepPre, stepPost, ↓W_cond, ↓W_block, ↓reduceIte, Nat.reduceEqDiff, Nat.reduceLT, Nat.reduceLeDiff, ret0, stVar, isTup, Value.cells, Nat.reduceAdd, Nat.reduceMul, Nat.reduceSub, env0, binV, intV, reduceCtorEq, pickV, nilCheckV, ptrV, unV, Rt, resultsV, allV, resV, calleeV, builtinV, eqV, fieldAddrV, ldVar, stN_own, stN_ownL, Int.reduceToNat, Int.reducePow, IntKind.bits, convV, Int.reduceNeg, Int.reduceAdd, Int.reduceSub, Int.reduceLT, Int.reduceLE, extractV, Int.reduceEq, mkFuncV, stBScrActs, spBScrActs, beq_self_eq_true, tyB0ScrActs, getL_take, glBScrActs, Dok_same, hgl, hp11, hb8, eq_self, q_s3, z_s3, Tryz.results52]
    refine ⟨.inr ⟨rfl, Nat.le_refl _, fun j hj hjn => by cases hj⟩, ?_⟩
    simp (disch := first | omega | ((simp only [nxBScrActs]) <;> omega) | decide) only [↓stepPre, stepPost, ↓W_cond, ↓W_block, ↓reduceIte, Nat.reduceEqDiff, Nat.reduceLT, Nat.reduceLeDiff, ret0, stVar, isTup, Value.cells, Nat.reduceAdd, Nat.reduceMul, Nat.reduceSub, env0, binV, intV, reduceCtorEq, pickV, nilCheckV, ptrV, unV, Rt, resultsV, allV, resV, calleeV, builtinV, eqV, fieldAddrV, ldVar, stN_own, stN_ownL, Int.reduceToNat, Int.reducePow, IntKind.bits, convV, Int.reduceNeg, Int.reduceAdd, Int.reduceSub, Int.reduceLT, Int.reduceLE, extractV, Int.reduceEq, mkFuncV, stBScrActs, spBScrActs, beq_self_eq_true, tyB0ScrActs, getL_take, glBScrActs, Dok_same, hgl, Tryz.results52]
    exact key _ (M_s3.upd' (Nat.le_refl _))
theorem actOf_b {x : List UInt8} (hx : x.length ≤ 1000000) (hL : LaidOk base s) (hbn : base ≤ s.next) (h1 : ¬ 1 < actK x) (h2 : 0 ≤ boundA (actK x)) (h3 : ¬ actK x = 3)
    (hR : ∀ s' (a : Ac), Mild s s' → a.good → (actB x = true → a = actA x) → R (.tuple #[.agg a.c.toArray, .bool (actB x)]) s') :
    WC Tryz.prog base 52 [.string (strB x)] s R := by
  refine WC_open Tryz.func52 rfl ?_
  have h5 := Bok.le5 (base := base)
  have hk8 := actK_lt x
  have M_s0 := Mild.alloc s (.row [.int .i64 0, .int .i64 0, .int .i64 0, .int .u8 0, .int .u8 0, .int .u8 0, .int .u8 0, .int .u8 0, .int .u8 0, .int .u8 0, .int .u8 0])
  obtain ⟨mx, hmx⟩ := (hL.mild M_s0 hbn).most
  obtain ⟨cv, c1, c2, c3⟩ := (hL.mild M_s0 hbn).words
  simp (disch := first | omega | ((simp only [nxBScrActs]) <;> omega) | decide) only [↓stepPre, stepPost, ↓W_cond, ↓W_block, ↓reduceIte, Nat.reduceEqDiff, Nat.reduceLT, Nat.reduceLeDiff, ret0, stVar, isTup, Value.cells, Nat.reduceAdd, Nat.reduceMul, Nat.reduceSub, env0, binV, intV, reduceCtorEq, pickV, nilCheckV, ptrV, unV, Rt, resultsV, allV, resV, calleeV, builtinV, eqV, fieldAddrV, ldVar, stN_own, stN_ownL, Int.reduceToNat, Int.reducePow, IntKind.bits, convV, Int.reduceNeg, Int.reduceAdd, Int.reduceSub, Int.reduceLT, Int.reduceLE, extractV, Int.reduceEq, mkFuncV, stBScrActs, spBScrActs, beq_self_eq_true, tyB0ScrActs, getL_take, glBScrActs]
  refine cut38_p (b := [32]) (by omega) hmx ?_
  rw [cut_fst]
  simp (disch := first | omega | ((simp only [nxBScrActs]) <;> omega) | decide) only [↓stepPre, stepPost, ↓W_cond, ↓W_block, ↓reduceIte, Nat.reduceEqDiff, Nat.reduceLT, Nat.reduceLeDiff, ret0, stVar, isTup, Value.cells, Nat.reduceAdd, Nat.reduceMul, Nat.reduceSub, env0, binV, intV, reduceCtorEq, pickV, nilCheckV, ptrV, unV, Rt, resultsV, allV, resV, calleeV, builtinV, eqV, fieldAddrV, ldVar, stN_own, stN_ownL, Int.reduceToNat, Int.reducePow, IntKind.bits, convV, Int.reduceNeg, Int.reduceAdd, Int.reduceSub, Int.reduceLT, Int.reduceLE, extractV, Int.reduceEq, mkFuncV, stBScrActs, spBScrActs, beq_self_eq_true, tyB0ScrActs, getL_take, glBScrActs, ev_global, ld_var c1 c3]
  refine place38_ok c2 (by decide) ?_
  rw [show placeN wordsL ((partW 32 x).headD []) = actK x from rfl]
  simp (disch := first | omega | ((simp only [nxBScrActs]) <;> omega) | decide) only [↓stepPre, stepPost, ↓W_cond, ↓W_block, ↓reduceIte, Nat.reduceEqDiff, Nat.reduceLT, Nat.reduceLeDiff, ret0, stVar, isTup, Value.cells, Nat.reduceAdd, Nat.reduceMul, Nat.reduceSub, env0, binV, intV, reduceCtorEq, pickV, nilCheckV, ptrV, unV, Rt, resultsV, allV, resV, calleeV, builtinV, eqV, fieldAddrV, ldVar, stN_own, stN_ownL, Int.reduceToNat, Int.reducePow, IntKind.bits, convV, Int.reduceNeg, Int.reduceAdd, Int.reduceSub, Int.reduceLT, Int.reduceLE, extractV, Int.reduceEq, mkFuncV, stBScrActs, spBScrActs, beq_self_eq_true, tyB0ScrActs, getL_take, glBScrActs, buildV, fillL, setL]
  have M_s2 : Mild s ((s.alloc (.row [.int .i64 0, .int .i64 0, .int .i64 0, .int .u8 0, .int .u8 0, .int .u8 0, .int .u8 0, .int .u8 0, .int .u8 0, .int .u8 0, .int .u8 0])).alloc (.row [.int .i64 (actK x : Int), .int .i64 0, .int .i64 0, .int .u8 0, .int .u8 0, .int .u8 0, .int .u8 0, .int .u8 0, .int .u8 0, .int .u8 0, .int .u8 0])) := (Mild.alloc s _).alloc'
  have z_s2 : ((s.alloc (.row [.int .i64 0, .int .i64 0, .int .i64 0, .int .u8 0, .int .u8 0, .int .u8 0, .int .u8 0, .int .u8 0, .int .u8 0, .int .u8 0, .int .u8 0])).alloc (.row [.int .i64 (actK x : Int), .int .i64 0, .int .i64 0, .int .u8 0, .int .u8 0, .int .u8 0, .int .u8 0, .int .u8 0, .int .u8 0, .int .u8 0, .int .u8 0])).heap s.next = .row [.int .i64 0, .int .i64 0, .int .i64 0, .int .u8 0, .int .u8 0, .int .u8 0, .int .u8 0, .int .u8 0, .int .u8 0, .int .u8 0, .int .u8 0] := (Ab.heap_alloc_ne _ _ (by simp only [Ab.next_alloc]; omega)).trans (Ab.heap_alloc_new _ _)
  have q_s2 : ((s.alloc (.row [.int .i64 0, .int .i64 0, .int .i64 0, .int .u8 0, .int .u8 0, .int .u8 0, .int .u8 0, .int .u8 0, .int .u8 0, .int .u8 0, .int .u8 0])).alloc (.row [.int .i64 (actK x : Int), .int .i64 0, .int .i64 0, .int .u8 0, .int .u8 0, .int .u8 0, .int .u8 0, .int .u8 0, .int .u8 0, .int .u8 0, .int .u8 0])).heap (s.next + 1) = .row (actC (actK x) 0 0 [0, 0, 0, 0, 0, 0, 0, 0]) := Ab.heap_alloc_new (s.alloc (.row [.int .i64 0, .int .i64 0, .int .i64 0, .int .u8 0, .int .u8 0, .int .u8 0, .int .u8 0, .int .u8 0, .int .u8 0, .int .u8 0, .int .u8 0])) (.row [.int .i64 (actK x : Int), .int .i64 0, .int .i64 0, .int .u8 0, .int .u8 0, .int .u8 0, .int .u8 0, .int .u8 0, .int .u8 0, .int .u8 0, .int .u8 0])
  have n_s2 : ((s.alloc (.row [.int .i64 0, .int .i64 0, .int .i64 0, .int .u8 0, .int .u8 0, .int .u8 0, .int .u8 0, .int .u8 0, .int .u8 0, .int .u8 0, .int .u8 0])).alloc (.row [.int .i64 (actK x : Int), .int .i64 0, .int .i64 0, .int .u8 0, .int .u8 0, .int .u8 0, .int .u8 0, .int .u8 0, .int .u8 0, .int .u8 0, .int .u8 0])).next = s.next + 2 := rfl
  generalize (s.alloc (.row [.int .i64 0, .int .i64 0, .int .i64 0, .int .u8 0, .int .u8 0, .int .u8 0, .int .u8 0, .int .u8 0, .int .u8 0, .int .u8 0, .int .u8 0])).alloc (.row [.int .i64 (actK x : Int), .int .i64 0, .int .i64 0, .int .u8 0, .int .u8 0, .int .u8 0, .int .u8 0, .int .u8 0, .int .u8 0, .int .u8 0, .int .u8 0]) = s2 at M_s2 z_s2 q_s2 n_s2 ⊢
  refine open38_ok hx (by omega) fun s3 b m3 r_s3 => ?_
  rw [show decide (¬ (partW 32 x).headD [] = (partW 32 x).headD []) = false by simp] at r_s3
  have n3 := m3.next
  have M_s3 := M_s2.trans m3
  have z_s3 := (m3.heap s.next (by omega)).trans z_s2
  have q_s3 := (m3.heap (s.next + 1) (by omega)).trans q_s2
  have hb2 : s2.next ≤ b ∧ b < s3.next := by obtain ⟨v, y1, y2, y3, y4, y5, y6⟩ := r_s3; exact ⟨y4, y5⟩
  have g1 : ¬ (actK x : Int) > 1 := by omega
  have g1' : ¬ 1 < (actK x : Int) := by omega
  have g3 : ¬ (actK x : Int) = 3 := by omega
  simp (disch := first | omega | ((simp only [nxBScrActs]) <;> omega) | decide) only [↓stepPre, stepPost, ↓W_cond, ↓W_block, ↓reduceIte, Nat.reduceEqDiff, Nat.reduceLT, Nat.reduceLeDiff, ret0, stVar, isTup, Value.cells, Nat.reduceAdd, Nat.reduceMul, Nat.reduceSub, env0, binV, intV, reduceCtorEq, pickV, nilCheckV, ptrV, unV, Rt, resultsV, allV, resV, calleeV, builtinV, eqV, fieldAddrV, ldVar, stN_own, stN_ownL, Int.reduceToNat, Int.reducePow, IntKind.bits, convV, Int.reduceNeg, Int.reduceAdd, Int.reduceSub, Int.reduceLT, Int.reduceLE, extractV, Int.reduceEq, mkFuncV, stBScrActs, spBScrActs, beq_self_eq_true, tyB0ScrActs, getL_take, glBScrActs, g1, g1', q_s3]
  refine bound38_p ?_
  simp (disch := first | omega | ((simp only [nxBScrActs]) <;> omega) | decide) only [↓stepPre, stepPost, ↓W_cond, ↓W_block, ↓reduceIte, Nat.reduceEqDiff, Nat.reduceLT, Nat.reduceLeDiff, ret0, stVar, isTup, Value.cells, Nat.reduceAdd, Nat.reduceMul, Nat.reduceSub, env0, binV, intV, reduceCtorEq, pickV, nilCheckV, ptrV, unV, Rt, resultsV, allV, resV, calleeV, builtinV, eqV, fieldAddrV, ldVar, stN_own, stN_ownL, Int.reduceToNat, Int.reducePow, IntKind.bits, convV, Int.reduceNeg, Int.reduceAdd, Int.reduceSub, Int.reduceLT, Int.reduceLE, extractV, Int.reduceEq, mkFuncV, stBScrActs, spBScrActs, beq_self_eq_true, tyB0ScrActs, getL_take, glBScrActs, Dok_same, h2, build1p]
  have r_s5 := r_s3.keep (fun j h1 h2 => Ab.heap_alloc_ne s3 (.row [.pointer (some ⟨s.next + 1, 2, none⟩)]) (by omega)) (by simp only [Ab.next_alloc]; omega)
  have q_s5 := (Ab.heap_alloc_ne s3 (.row [.pointer (some ⟨s.next + 1, 2, none⟩)]) (b := s.next + 1) (by omega)).trans q_s3
  have z_s5 := (Ab.heap_alloc_ne s3 (.row [.pointer (some ⟨s.next + 1, 2, none⟩)]) (b := s.next) (by omega)).trans z_s3
  have M_s5 := M_s3.alloc' (o := .row [.pointer (some ⟨s.next + 1, 2, none⟩)])
  have p_s5 : Sl base (s3.alloc (.row [.pointer (some ⟨s.next + 1, 2, none⟩)])) 1 (.slice (some ⟨s3.next, 0, none⟩) 1 1) (ptrL (s.next + 1) [2]) := .newRow (Ab.heap_alloc_new _ _) rfl rfl (by simp [ptrL]) (by omega) (by simp only [Ab.next_alloc]; omega)
  have n_s5 := Ab.next_alloc s3 (.row [.pointer (some ⟨s.next + 1, 2, none⟩)])
  generalize s3.alloc (.row [.pointer (some ⟨s.next + 1, 2, none⟩)]) = s5 at r_s5 q_s5 z_s5 M_s5 p_s5 n_s5 ⊢
  refine read38_ok (offs := [2]) r_s5 (by omega) (by omega) (.inl (by omega)) q_s5 (by simp [bC]) (by simp) p_s5 (fun j hj => by simp only [inB] at hj; omega) fun t2 nsN nN fN r_t2 hN lN bN vN => ?_
  obtain ⟨N, rfl⟩ := one_ns lN
  have M_t2 : Mild s t2 := ⟨by have := M_s5.next; omega, fun k hk => by rw [fN k (by omega) (by omega)]; exact M_s5.heap k hk⟩
  have z_t2 := (fN s.next (by omega) (by omega)).trans z_s5
  have r_t2 : Rd base s2.next s3.next t2 b ((partW 32 x).tail.drop 1) (false || !okW (partW 32 x).tail 1) := r_t2
  have q_t2 : t2.heap (s.next + 1) = .row (actC (actK x) 0 N [0, 0, 0, 0, 0, 0, 0, 0]) := hN
  simp (disch := first | omega | ((simp only [nxBScrActs]) <;> omega) | decide) only [↓stepPre, stepPost, ↓W_cond, ↓W_block, ↓reduceIte, Nat.reduceEqDiff, Nat.reduceLT, Nat.reduceLeDiff, ret0, stVar, isTup, Value.cells, Nat.reduceAdd, Nat.reduceMul, Nat.reduceSub, env0, binV, intV, reduceCtorEq, pickV, nilCheckV, ptrV, unV, Rt, resultsV, allV, resV, calleeV, builtinV, eqV, fieldAddrV, ldVar, stN_own, stN_ownL, Int.reduceToNat, Int.reducePow, IntKind.bits, convV, Int.reduceNeg, Int.reduceAdd, Int.reduceSub, Int.reduceLT, Int.reduceLE, extractV, Int.reduceEq, mkFuncV, stBScrActs, spBScrActs, beq_self_eq_true, tyB0ScrActs, getL_take, glBScrActs, q_t2, g3]
  have hgl := getL_act (a := .int .i64 (actK x : Int)) (b := .int .i64 (0 : Int)) (c := .int .i64 (N : Int)) (ds := [0, 0, 0, 0, 0, 0, 0, 0]) rfl
  have hp11 := putAt_act (a0 := .int .i64 0) (a1 := .int .i64 0) (a2 := .int .i64 0) (a3 := .int .u8 0) (a4 := .int .u8 0) (a5 := .int .u8 0) (a6 := .int .u8 0) (a7 := .int .u8 0) (a8 := .int .u8 0) (a9 := .int .u8 0) (a10 := .int .u8 0) (x := .int .i64 (actK x : Int)) (y := .int .i64 (0 : Int)) (z := .int .i64 (N : Int)) (ds := [0, 0, 0, 0, 0, 0, 0, 0]) rfl
  have hb8 : (bC [0, 0, 0, 0, 0, 0, 0, 0]).length = 8 := (bC_len _).trans rfl
  have hF : (!(false || !okW (partW 32 x).tail 1) && ((partW 32 x).tail.drop 1).isEmpty) = actF x := by simp [actF, actT, actU, h1, h2, h3]
  have hsv : actF x = true → (⟨actK x, 0, N, [0, 0, 0, 0, 0, 0, 0, 0]⟩ : Ac) = actA x := fun h => by
    rw [← hF] at h
    simp only [Bool.and_eq_true, Bool.not_eq_true', Bool.or_eq_false_iff, Bool.not_eq_false'] at h
    obtain ⟨⟨wf, wN⟩, wl⟩ := h
    have eN := one_val wN (vN wN)
    simp only [actA, actT, if_neg h1, if_pos h2, if_neg h3]
    rw [eN]
  have key : ∀ s', Mild s s' → R (.tuple #[.agg (actC (actK x) 0 N [0, 0, 0, 0, 0, 0, 0, 0]).toArray, .bool (actF x && rightA (actK x) 0 N [0, 0, 0, 0, 0, 0, 0, 0])]) s' := fun s' M => by
    have := hR s' ⟨actK x, 0, N, [0, 0, 0, 0, 0, 0, 0, 0]⟩ M ⟨rfl, by simp⟩ (fun h => hsv (by unfold actB at h; simp only [Bool.and_eq_true] at h; exact h.1))
    have e : actB x = (actF x && rightA (actK x) 0 N [0, 0, 0, 0, 0, 0, 0, 0]) := by
      unfold actB
      cases hf : actF x with
      | false => rfl
      | true => rw [← hsv hf]; rfl
    rw [e] at this
    exact this
  refine W_draw (fun k => k == 7) (fun _ => false) (fun _ => false) (by kernel_rfl) (by kernel_rfl) ?_
  simp (disch := first | omega | ((simp only [nxBScrActs]) <;> omega) | decide) only [↓stepPre, stepPost, ↓W_cond, ↓W_block, ↓reduceIte, Nat.reduceEqDiff, Nat.reduceLT, Nat.reduceLeDiff, ret0, stVar, isTup, Value.cells, Nat.reduceAdd, Nat.reduceMul, Nat.reduceSub, env0, binV, intV, reduceCtorEq, pickV, nilCheckV, ptrV, unV, Rt, resultsV, allV, resV, calleeV, builtinV, eqV, fieldAddrV, ldVar, stN_own, stN_ownL, Int.reduceToNat, Int.reducePow, IntKind.bits, convV, Int.reduceNeg, Int.reduceAdd, Int.reduceSub, Int.reduceLT, Int.reduceLE, extractV, Int.reduceEq, mkFuncV, stBScrActs, spBScrActs, beq_self_eq_true, tyB0ScrActs, getL_take, glBScrActs, q_t2, hgl]
  refine fine38_ok r_t2 ?_
  rw [hF]
  cases hf : actF x with
  | false =>
    rw [hf] at key
    simp (disch := first | omega | ((simp only [nxBScrActs]) <;> omega) | decide) only [↓stepPre, stepPost, ↓W_cond, ↓W_block, ↓reduceIte, Nat.reduceEqDiff, Nat.reduceLT, Nat.reduceLeDiff, ret0, stVar, isTup, Value.cells, Nat.reduceAdd, Nat.reduceMul, Nat.reduceSub, env0, binV, intV, reduceCtorEq, pickV, nilCheckV, ptrV, unV, Rt, resultsV, allV, resV, calleeV, builtinV, eqV, fieldAddrV, ldVar, stN_own, stN_ownL, Int.reduceToNat, Int.reducePow, IntKind.bits, convV, Int.reduceNeg, Int.reduceAdd, Int.reduceSub, Int.reduceLT, Int.reduceLE, extractV, Int.reduceEq, mkFuncV, stBScrActs, spBScrActs, beq_self_eq_true, tyB0ScrActs, getL_take, glBScrActs, Dok_same, hgl, hp11, hb8, eq_self, q_t2, z_t2, Tryz.results52]
    refine ⟨.inr ⟨rfl, Nat.le_refl _, fun j hj hjn => by cases hj⟩, ?_⟩
    simp (disch := first | omega | ((simp only [nxBScrActs]) <;> omega) | decide) only [↓stepPre, stepPost, ↓W_cond, ↓W_block, ↓reduceIte, Nat.reduceEqDiff, Nat.reduceLT, Nat.reduceLeDiff, ret0, stVar, isTup, Value.cells, Nat.reduceAdd, Nat.reduceMul, Nat.reduceSub, env0, binV, intV, reduceCtorEq, pickV, nilCheckV, ptrV, unV, Rt, resultsV, allV, resV, calleeV, builtinV, eqV, fieldAddrV, ldVar, stN_own, stN_ownL, Int.reduceToNat, Int.reducePow, IntKind.bits, convV, Int.reduceNeg, Int.reduceAdd, Int.reduceSub, Int.reduceLT, Int.reduceLE, extractV, Int.reduceEq, mkFuncV, stBScrActs, spBScrActs, beq_self_eq_true, tyB0ScrActs, getL_take, glBScrActs, Dok_same, hgl, Tryz.results52]
    exact key _ (M_t2.upd' (Nat.le_refl _))
  | true =>
    rw [hf] at key
    simp (disch := first | omega | ((simp only [nxBScrActs]) <;> omega) | decide) only [↓stepPre, stepPost, ↓W_cond, ↓W_block, ↓reduceIte, Nat.reduceEqDiff, Nat.reduceLT, Nat.reduceLeDiff, ret0, stVar, isTup, Value.cells, Nat.reduceAdd, Nat.reduceMul, Nat.reduceSub, env0, binV, intV, reduceCtorEq, pickV, nilCheckV, ptrV, unV, Rt, resultsV, allV, resV, calleeV, builtinV, eqV, fieldAddrV, ldVar, stN_own, stN_ownL, Int.reduceToNat, Int.reducePow, IntKind.bits, convV, Int.reduceNeg, Int.reduceAdd, Int.reduceSub, Int.reduceLT, Int.reduceLE, extractV, Int.reduceEq, mkFuncV, stBScrActs, spBScrActs, beq_self_eq_true, tyB0ScrActs, getL_take, glBScrActs, Dok_same, hgl, q_t2, z_t2]
    refine right38_p (ds := [0, 0, 0, 0, 0, 0, 0, 0]) rfl ?_
    simp (disch := first | omega | ((simp only [nxBScrActs]) <;> omega) | decide) only [↓stepPre, stepPost, ↓W_cond, ↓W_block, ↓reduceIte, Nat.reduceEqDiff, Nat.reduceLT, Nat.reduceLeDiff, ret0, stVar, isTup, Value.cells, Nat.reduceAdd, Nat.reduceMul, Nat.reduceSub, env0, binV, intV, reduceCtorEq, pickV, nilCheckV, ptrV, unV, Rt, resultsV, allV, resV, calleeV, builtinV, eqV, fieldAddrV, ldVar, stN_own, stN_ownL, Int.reduceToNat, Int.reducePow, IntKind.bits, convV, Int.reduceNeg, Int.reduceAdd, Int.reduceSub, Int.reduceLT, Int.reduceLE, extractV, Int.reduceEq, mkFuncV, stBScrActs, spBScrActs, beq_self_eq_true, tyB0ScrActs, getL_take, glBScrActs, Dok_same, hgl, hp11, hb8, eq_self, q_t2, z_t2, Tryz.results52]
    refine ⟨.inr ⟨rfl, Nat.le_refl _, fun j hj hjn => by cases hj⟩, ?_⟩
    simp (disch := first | omega | ((simp only [nxBScrActs]) <;> omega) | decide) only [↓stepPre, stepPost, ↓W_cond, ↓W_block, ↓reduceIte, Nat.reduceEqDiff, Nat.reduceLT, Nat.reduceLeDiff, ret0, stVar, isTup, Value.cells, Nat.reduceAdd, Nat.reduceMul, Nat.reduceSub, env0, binV, intV, reduceCtorEq, pickV, nilCheckV, ptrV, unV, Rt, resultsV, allV, resV, calleeV, builtinV, eqV, fieldAddrV, ldVar, stN_own, stN_ownL, Int.reduceToNat, Int.reducePow, IntKind.bits, convV, Int.reduceNeg, Int.reduceAdd, Int.reduceSub, Int.reduceLT, Int.reduceLE, extractV, Int.reduceEq, mkFuncV, stBScrActs, spBScrActs, beq_self_eq_true, tyB0ScrActs, getL_take, glBScrActs, Dok_same, hgl, Tryz.results52]
    exact key _ (M_t2.upd' (Nat.le_refl _))
theorem actOf_c {x : List UInt8} (hx : x.length ≤ 1000000) (hL : LaidOk base s) (hbn : base ≤ s.next) (h1 : 1 < actK x) (h2 : ¬ 0 ≤ boundA (actK x)) (h3 : ¬ actK x = 3)
    (hR : ∀ s' (a : Ac), Mild s s' → a.good → (actB x = true → a = actA x) → R (.tuple #[.agg a.c.toArray, .bool (actB x)]) s') :
    WC Tryz.prog base 52 [.string (strB x)] s R := by
  refine WC_open Tryz.func52 rfl ?_
  have h5 := Bok.le5 (base := base)
  have hk8 := actK_lt x
  have M_s0 := Mild.alloc s (.row [.int .i64 0, .int .i64 0, .int .i64 0, .int .u8 0, .int .u8 0, .int .u8 0, .int .u8 0, .int .u8 0, .int .u8 0, .int .u8 0, .int .u8 0])
  obtain ⟨mx, hmx⟩ := (hL.mild M_s0 hbn).most
  obtain ⟨cv, c1, c2, c3⟩ := (hL.mild M_s0 hbn).words
  simp (disch := first | omega | ((simp only [nxBScrActs]) <;> omega) | decide) only [↓stepPre, stepPost, ↓W_cond, ↓W_block, ↓reduceIte, Nat.reduceEqDiff, Nat.reduceLT, Nat.reduceLeDiff, ret0, stVar, isTup, Value.cells, Nat.reduceAdd, Nat.reduceMul, Nat.reduceSub, env0, binV, intV, reduceCtorEq, pickV, nilCheckV, ptrV, unV, Rt, resultsV, allV, resV, calleeV, builtinV, eqV, fieldAddrV, ldVar, stN_own, stN_ownL, Int.reduceToNat, Int.reducePow, IntKind.bits, convV, Int.reduceNeg, Int.reduceAdd, Int.reduceSub, Int.reduceLT, Int.reduceLE, extractV, Int.reduceEq, mkFuncV, stBScrActs, spBScrActs, beq_self_eq_true, tyB0ScrActs, getL_take, glBScrActs]
  refine cut38_p (b := [32]) (by omega) hmx ?_
  rw [cut_fst]
  simp (disch := first | omega | ((simp only [nxBScrActs]) <;> omega) | decide) only [↓stepPre, stepPost, ↓W_cond, ↓W_block, ↓reduceIte, Nat.reduceEqDiff, Nat.reduceLT, Nat.reduceLeDiff, ret0, stVar, isTup, Value.cells, Nat.reduceAdd, Nat.reduceMul, Nat.reduceSub, env0, binV, intV, reduceCtorEq, pickV, nilCheckV, ptrV, unV, Rt, resultsV, allV, resV, calleeV, builtinV, eqV, fieldAddrV, ldVar, stN_own, stN_ownL, Int.reduceToNat, Int.reducePow, IntKind.bits, convV, Int.reduceNeg, Int.reduceAdd, Int.reduceSub, Int.reduceLT, Int.reduceLE, extractV, Int.reduceEq, mkFuncV, stBScrActs, spBScrActs, beq_self_eq_true, tyB0ScrActs, getL_take, glBScrActs, ev_global, ld_var c1 c3]
  refine place38_ok c2 (by decide) ?_
  rw [show placeN wordsL ((partW 32 x).headD []) = actK x from rfl]
  simp (disch := first | omega | ((simp only [nxBScrActs]) <;> omega) | decide) only [↓stepPre, stepPost, ↓W_cond, ↓W_block, ↓reduceIte, Nat.reduceEqDiff, Nat.reduceLT, Nat.reduceLeDiff, ret0, stVar, isTup, Value.cells, Nat.reduceAdd, Nat.reduceMul, Nat.reduceSub, env0, binV, intV, reduceCtorEq, pickV, nilCheckV, ptrV, unV, Rt, resultsV, allV, resV, calleeV, builtinV, eqV, fieldAddrV, ldVar, stN_own, stN_ownL, Int.reduceToNat, Int.reducePow, IntKind.bits, convV, Int.reduceNeg, Int.reduceAdd, Int.reduceSub, Int.reduceLT, Int.reduceLE, extractV, Int.reduceEq, mkFuncV, stBScrActs, spBScrActs, beq_self_eq_true, tyB0ScrActs, getL_take, glBScrActs, buildV, fillL, setL]
  have M_s2 : Mild s ((s.alloc (.row [.int .i64 0, .int .i64 0, .int .i64 0, .int .u8 0, .int .u8 0, .int .u8 0, .int .u8 0, .int .u8 0, .int .u8 0, .int .u8 0, .int .u8 0])).alloc (.row [.int .i64 (actK x : Int), .int .i64 0, .int .i64 0, .int .u8 0, .int .u8 0, .int .u8 0, .int .u8 0, .int .u8 0, .int .u8 0, .int .u8 0, .int .u8 0])) := (Mild.alloc s _).alloc'
  have z_s2 : ((s.alloc (.row [.int .i64 0, .int .i64 0, .int .i64 0, .int .u8 0, .int .u8 0, .int .u8 0, .int .u8 0, .int .u8 0, .int .u8 0, .int .u8 0, .int .u8 0])).alloc (.row [.int .i64 (actK x : Int), .int .i64 0, .int .i64 0, .int .u8 0, .int .u8 0, .int .u8 0, .int .u8 0, .int .u8 0, .int .u8 0, .int .u8 0, .int .u8 0])).heap s.next = .row [.int .i64 0, .int .i64 0, .int .i64 0, .int .u8 0, .int .u8 0, .int .u8 0, .int .u8 0, .int .u8 0, .int .u8 0, .int .u8 0, .int .u8 0] := (Ab.heap_alloc_ne _ _ (by simp only [Ab.next_alloc]; omega)).trans (Ab.heap_alloc_new _ _)
  have q_s2 : ((s.alloc (.row [.int .i64 0, .int .i64 0, .int .i64 0, .int .u8 0, .int .u8 0, .int .u8 0, .int .u8 0, .int .u8 0, .int .u8 0, .int .u8 0, .int .u8 0])).alloc (.row [.int .i64 (actK x : Int), .int .i64 0, .int .i64 0, .int .u8 0, .int .u8 0, .int .u8 0, .int .u8 0, .int .u8 0, .int .u8 0, .int .u8 0, .int .u8 0])).heap (s.next + 1) = .row (actC (actK x) 0 0 [0, 0, 0, 0, 0, 0, 0, 0]) := Ab.heap_alloc_new (s.alloc (.row [.int .i64 0, .int .i64 0, .int .i64 0, .int .u8 0, .int .u8 0, .int .u8 0, .int .u8 0, .int .u8 0, .int .u8 0, .int .u8 0, .int .u8 0])) (.row [.int .i64 (actK x : Int), .int .i64 0, .int .i64 0, .int .u8 0, .int .u8 0, .int .u8 0, .int .u8 0, .int .u8 0, .int .u8 0, .int .u8 0, .int .u8 0])
  have n_s2 : ((s.alloc (.row [.int .i64 0, .int .i64 0, .int .i64 0, .int .u8 0, .int .u8 0, .int .u8 0, .int .u8 0, .int .u8 0, .int .u8 0, .int .u8 0, .int .u8 0])).alloc (.row [.int .i64 (actK x : Int), .int .i64 0, .int .i64 0, .int .u8 0, .int .u8 0, .int .u8 0, .int .u8 0, .int .u8 0, .int .u8 0, .int .u8 0, .int .u8 0])).next = s.next + 2 := rfl
  generalize (s.alloc (.row [.int .i64 0, .int .i64 0, .int .i64 0, .int .u8 0, .int .u8 0, .int .u8 0, .int .u8 0, .int .u8 0, .int .u8 0, .int .u8 0, .int .u8 0])).alloc (.row [.int .i64 (actK x : Int), .int .i64 0, .int .i64 0, .int .u8 0, .int .u8 0, .int .u8 0, .int .u8 0, .int .u8 0, .int .u8 0, .int .u8 0, .int .u8 0]) = s2 at M_s2 z_s2 q_s2 n_s2 ⊢
  refine open38_ok hx (by omega) fun s3 b m3 r_s3 => ?_
  rw [show decide (¬ (partW 32 x).headD [] = (partW 32 x).headD []) = false by simp] at r_s3
  have n3 := m3.next
  have M_s3 := M_s2.trans m3
  have z_s3 := (m3.heap s.next (by omega)).trans z_s2
  have q_s3 := (m3.heap (s.next + 1) (by omega)).trans q_s2
  have hb2 : s2.next ≤ b ∧ b < s3.next := by obtain ⟨v, y1, y2, y3, y4, y5, y6⟩ := r_s3; exact ⟨y4, y5⟩
  have g1 : (actK x : Int) > 1 := by omega
  have g1' : 1 < (actK x : Int) := by omega
  have g3 : ¬ (actK x : Int) = 3 := by omega
  simp (disch := first | omega | ((simp only [nxBScrActs]) <;> omega) | decide) only [↓stepPre, stepPost, ↓W_cond, ↓W_block, ↓reduceIte, Nat.reduceEqDiff, Nat.reduceLT, Nat.reduceLeDiff, ret0, stVar, isTup, Value.cells, Nat.reduceAdd, Nat.reduceMul, Nat.reduceSub, env0, binV, intV, reduceCtorEq, pickV, nilCheckV, ptrV, unV, Rt, resultsV, allV, resV, calleeV, builtinV, eqV, fieldAddrV, ldVar, stN_own, stN_ownL, Int.reduceToNat, Int.reducePow, IntKind.bits, convV, Int.reduceNeg, Int.reduceAdd, Int.reduceSub, Int.reduceLT, Int.reduceLE, extractV, Int.reduceEq, mkFuncV, stBScrActs, spBScrActs, beq_self_eq_true, tyB0ScrActs, getL_take, glBScrActs, g1, g1', q_s3, build1p]
  have r_s4 := r_s3.keep (fun j h1 h2 => Ab.heap_alloc_ne s3 (.row [.pointer (some ⟨s.next + 1, 1, none⟩)]) (by omega)) (by simp only [Ab.next_alloc]; omega)
  have q_s4 := (Ab.heap_alloc_ne s3 (.row [.pointer (some ⟨s.next + 1, 1, none⟩)]) (b := s.next + 1) (by omega)).trans q_s3
  have z_s4 := (Ab.heap_alloc_ne s3 (.row [.pointer (some ⟨s.next + 1, 1, none⟩)]) (b := s.next) (by omega)).trans z_s3
  have M_s4 := M_s3.alloc' (o := .row [.pointer (some ⟨s.next + 1, 1, none⟩)])
  have p_s4 : Sl base (s3.alloc (.row [.pointer (some ⟨s.next + 1, 1, none⟩)])) 1 (.slice (some ⟨s3.next, 0, none⟩) 1 1) (ptrL (s.next + 1) [1]) := .newRow (Ab.heap_alloc_new _ _) rfl rfl (by simp [ptrL]) (by omega) (by simp only [Ab.next_alloc]; omega)
  have n_s4 := Ab.next_alloc s3 (.row [.pointer (some ⟨s.next + 1, 1, none⟩)])
  generalize s3.alloc (.row [.pointer (some ⟨s.next + 1, 1, none⟩)]) = s4 at r_s4 q_s4 z_s4 M_s4 p_s4 n_s4 ⊢
  refine read38_ok (offs := [1]) r_s4 (by omega) (by omega) (.inl (by omega)) q_s4 (by simp [bC]) (by simp) p_s4 (fun j hj => by simp only [inB] at hj; omega) fun t1 nsK nK fK r_t1 hK lK bK vK => ?_
  obtain ⟨K, rfl⟩ := one_ns lK
  have M_t1 : Mild s t1 := ⟨by have := M_s4.next; omega, fun k hk => by rw [fK k (by omega) (by omega)]; exact M_s4.heap k hk⟩
  have z_t1 := (fK s.next (by omega) (by omega)).trans z_s4
  have r_t1 : Rd base s2.next s3.next t1 b ((partW 32 x).tail.drop 1) (false || !okW (partW 32 x).tail 1) := r_t1
  have q_t1 : t1.heap (s.next + 1) = .row (actC (actK x) K 0 [0, 0, 0, 0, 0, 0, 0, 0]) := hK
  simp (disch := first | omega | ((simp only [nxBScrActs]) <;> omega) | decide) only [↓stepPre, stepPost, ↓W_cond, ↓W_block, ↓reduceIte, Nat.reduceEqDiff, Nat.reduceLT, Nat.reduceLeDiff, ret0, stVar, isTup, Value.cells, Nat.reduceAdd, Nat.reduceMul, Nat.reduceSub, env0, binV, intV, reduceCtorEq, pickV, nilCheckV, ptrV, unV, Rt, resultsV, allV, resV, calleeV, builtinV, eqV, fieldAddrV, ldVar, stN_own, stN_ownL, Int.reduceToNat, Int.reducePow, IntKind.bits, convV, Int.reduceNeg, Int.reduceAdd, Int.reduceSub, Int.reduceLT, Int.reduceLE, extractV, Int.reduceEq, mkFuncV, stBScrActs, spBScrActs, beq_self_eq_true, tyB0ScrActs, getL_take, glBScrActs, q_t1]
  refine bound38_p ?_
  simp (disch := first | omega | ((simp only [nxBScrActs]) <;> omega) | decide) only [↓stepPre, stepPost, ↓W_cond, ↓W_block, ↓reduceIte, Nat.reduceEqDiff, Nat.reduceLT, Nat.reduceLeDiff, ret0, stVar, isTup, Value.cells, Nat.reduceAdd, Nat.reduceMul, Nat.reduceSub, env0, binV, intV, reduceCtorEq, pickV, nilCheckV, ptrV, unV, Rt, resultsV, allV, resV, calleeV, builtinV, eqV, fieldAddrV, ldVar, stN_own, stN_ownL, Int.reduceToNat, Int.reducePow, IntKind.bits, convV, Int.reduceNeg, Int.reduceAdd, Int.reduceSub, Int.reduceLT, Int.reduceLE, extractV, Int.reduceEq, mkFuncV, stBScrActs, spBScrActs, beq_self_eq_true, tyB0ScrActs, getL_take, glBScrActs, Dok_same, h2, q_t1, g3]
  have hgl := getL_act (a := .int .i64 (actK x : Int)) (b := .int .i64 (K : Int)) (c := .int .i64 (0 : Int)) (ds := [0, 0, 0, 0, 0, 0, 0, 0]) rfl
  have hp11 := putAt_act (a0 := .int .i64 0) (a1 := .int .i64 0) (a2 := .int .i64 0) (a3 := .int .u8 0) (a4 := .int .u8 0) (a5 := .int .u8 0) (a6 := .int .u8 0) (a7 := .int .u8 0) (a8 := .int .u8 0) (a9 := .int .u8 0) (a10 := .int .u8 0) (x := .int .i64 (actK x : Int)) (y := .int .i64 (K : Int)) (z := .int .i64 (0 : Int)) (ds := [0, 0, 0, 0, 0, 0, 0, 0]) rfl
  have hb8 : (bC [0, 0, 0, 0, 0, 0, 0, 0]).length = 8 := (bC_len _).trans rfl
  have hF : (!(false || !okW (partW 32 x).tail 1) && ((partW 32 x).tail.drop 1).isEmpty) = actF x := by simp [actF, actT, actU, h1, h2, h3]
  have hsv : actF x = true → (⟨actK x, K, 0, [0, 0, 0, 0, 0, 0, 0, 0]⟩ : Ac) = actA x := fun h => by
    rw [← hF] at h
    simp only [Bool.and_eq_true, Bool.not_eq_true', Bool.or_eq_false_iff, Bool.not_eq_false'] at h
    obtain ⟨⟨wf, wK⟩, wl⟩ := h
    have eK := one_val wK (vK wK)
    simp only [actA, actT, if_pos h1, if_neg h2, if_neg h3]
    rw [eK]
  have key : ∀ s', Mild s s' → R (.tuple #[.agg (actC (actK x) K 0 [0, 0, 0, 0, 0, 0, 0, 0]).toArray, .bool (actF x && rightA (actK x) K 0 [0, 0, 0, 0, 0, 0, 0, 0])]) s' := fun s' M => by
    have := hR s' ⟨actK x, K, 0, [0, 0, 0, 0, 0, 0, 0, 0]⟩ M ⟨rfl, by simp⟩ (fun h => hsv (by unfold actB at h; simp only [Bool.and_eq_true] at h; exact h.1))
    have e : actB x = (actF x && rightA (actK x) K 0 [0, 0, 0, 0, 0, 0, 0, 0]) := by
      unfold actB
      cases hf : actF x with
      | false => rfl
      | true => rw [← hsv hf]; rfl
    rw [e] at this
    exact this
  refine W_draw (fun k => k == 7) (fun _ => false) (fun _ => false) (by kernel_rfl) (by kernel_rfl) ?_
  simp (disch := first | omega | ((simp only [nxBScrActs]) <;> omega) | decide) only [↓stepPre, stepPost, ↓W_cond, ↓W_block, ↓reduceIte, Nat.reduceEqDiff, Nat.reduceLT, Nat.reduceLeDiff, ret0, stVar, isTup, Value.cells, Nat.reduceAdd, Nat.reduceMul, Nat.reduceSub, env0, binV, intV, reduceCtorEq, pickV, nilCheckV, ptrV, unV, Rt, resultsV, allV, resV, calleeV, builtinV, eqV, fieldAddrV, ldVar, stN_own, stN_ownL, Int.reduceToNat, Int.reducePow, IntKind.bits, convV, Int.reduceNeg, Int.reduceAdd, Int.reduceSub, Int.reduceLT, Int.reduceLE, extractV, Int.reduceEq, mkFuncV, stBScrActs, spBScrActs, beq_self_eq_true, tyB0ScrActs, getL_take, glBScrActs, q_t1, hgl]
  refine fine38_ok r_t1 ?_
  rw [hF]
  cases hf : actF x with
  | false =>
    rw [hf] at key
    simp (disch := first | omega | ((simp only [nxBScrActs]) <;> omega) | decide) only [↓stepPre, stepPost, ↓W_cond, ↓W_block, ↓reduceIte, Nat.reduceEqDiff, Nat.reduceLT, Nat.reduceLeDiff, ret0, stVar, isTup, Value.cells, Nat.reduceAdd, Nat.reduceMul, Nat.reduceSub, env0, binV, intV, reduceCtorEq, pickV, nilCheckV, ptrV, unV, Rt, resultsV, allV, resV, calleeV, builtinV, eqV, fieldAddrV, ldVar, stN_own, stN_ownL, Int.reduceToNat, Int.reducePow, IntKind.bits, convV, Int.reduceNeg, Int.reduceAdd, Int.reduceSub, Int.reduceLT, Int.reduceLE, extractV, Int.reduceEq, mkFuncV, stBScrActs, spBScrActs, beq_self_eq_true, tyB0ScrActs, getL_take, glBScrActs, Dok_same, hgl, hp11, hb8, eq_self, q_t1, z_t1, Tryz.results52]
    refine ⟨.inr ⟨rfl, Nat.le_refl _, fun j hj hjn => by cases hj⟩, ?_⟩
    simp (disch := first | omega | ((simp only [nxBScrActs]) <;> omega) | decide) only [↓stepPre, stepPost, ↓W_cond, ↓W_block, ↓reduceIte, Nat.reduceEqDiff, Nat.reduceLT, Nat.reduceLeDiff, ret0, stVar, isTup, Value.cells, Nat.reduceAdd, Nat.reduceMul, Nat.reduceSub, env0, binV, intV, reduceCtorEq, pickV, nilCheckV, ptrV, unV, Rt, resultsV, allV, resV, calleeV, builtinV, eqV, fieldAddrV, ldVar, stN_own, stN_ownL, Int.reduceToNat, Int.reducePow, IntKind.bits, convV, Int.reduceNeg, Int.reduceAdd, Int.reduceSub, Int.reduceLT, Int.reduceLE, extractV, Int.reduceEq, mkFuncV, stBScrActs, spBScrActs, beq_self_eq_true, tyB0ScrActs, getL_take, glBScrActs, Dok_same, hgl, Tryz.results52]
    exact key _ (M_t1.upd' (Nat.le_refl _))
  | true =>
    rw [hf] at key
    simp (disch := first | omega | ((simp only [nxBScrActs]) <;> omega) | decide) only [↓stepPre, stepPost, ↓W_cond, ↓W_block, ↓reduceIte, Nat.reduceEqDiff, Nat.reduceLT, Nat.reduceLeDiff, ret0, stVar, isTup, Value.cells, Nat.reduceAdd, Nat.reduceMul, Nat.reduceSub, env0, binV, intV, reduceCtorEq, pickV, nilCheckV, ptrV, unV, Rt, resultsV, allV, resV, calleeV, builtinV, eqV, fieldAddrV, ldVar, stN_own, stN_ownL, Int.reduceToNat, Int.reducePow, IntKind.bits, convV, Int.reduceNeg, Int.reduceAdd, Int.reduceSub, Int.reduceLT, Int.reduceLE, extractV, Int.reduceEq, mkFuncV, stBScrActs, spBScrActs, beq_self_eq_true, tyB0ScrActs, getL_take, glBScrActs, Dok_same, hgl, q_t1, z_t1]
    refine right38_p (ds := [0, 0, 0, 0, 0, 0, 0, 0]) rfl ?_
    simp (disch := first | omega | ((simp only [nxBScrActs]) <;> omega) | decide) only [↓stepPre, stepPost, ↓W_cond, ↓W_block, ↓reduceIte, Nat.reduceEqDiff, Nat.reduceLT, Nat.reduceLeDiff, ret0, stVar, isTup, Value.cells, Nat.reduceAdd, Nat.reduceMul, Nat.reduceSub, env0, binV, intV, reduceCtorEq, pickV, nilCheckV, ptrV, unV, Rt, resultsV, allV, resV, calleeV, builtinV, eqV, fieldAddrV, ldVar, stN_own, stN_ownL, Int.reduceToNat, Int.reducePow, IntKind.bits, convV, Int.reduceNeg, Int.reduceAdd, Int.reduceSub, Int.reduceLT, Int.reduceLE, extractV, Int.reduceEq, mkFuncV, stBScrActs, spBScrActs, beq_self_eq_true, tyB0ScrActs, getL_take, glBScrActs, Dok_same, hgl, hp11, hb8, eq_self, q_t1, z_t1, Tryz.results52]
    refine ⟨.inr ⟨rfl, Nat.le_refl _, fun j hj hjn => by cases hj⟩, ?_⟩
    simp (disch := first | omega | ((simp only [nxBScrActs]) <;> omega) | decide) only [↓stepPre, stepPost, ↓W_cond, ↓W_block, ↓reduceIte, Nat.reduceEqDiff, Nat.reduceLT, Nat.reduceLeDiff, ret0, stVar, isTup, Value.cells, Nat.reduceAdd, Nat.reduceMul, Nat.reduceSub, env0, binV, intV, reduceCtorEq, pickV, nilCheckV, ptrV, unV, Rt, resultsV, allV, resV, calleeV, builtinV, eqV, fieldAddrV, ldVar, stN_own, stN_ownL, Int.reduceToNat, Int.reducePow, IntKind.bits, convV, Int.reduceNeg, Int.reduceAdd, Int.reduceSub, Int.reduceLT, Int.reduceLE, extractV, Int.reduceEq, mkFuncV, stBScrActs, spBScrActs, beq_self_eq_true, tyB0ScrActs, getL_take, glBScrActs, Dok_same, hgl, Tryz.results52]
    exact key _ (M_t1.upd' (Nat.le_refl _))
theorem actOf_d {x : List UInt8} (hx : x.length ≤ 1000000) (hL : LaidOk base s) (hbn : base ≤ s.next) (h1 : 1 < actK x) (h2 : 0 ≤ boundA (actK x)) (h3 : ¬ actK x = 3)
    (hR : ∀ s' (a : Ac), Mild s s' → a.good → (actB x = true → a = actA x) → R (.tuple #[.agg a.c.toArray, .bool (actB x)]) s') :
    WC Tryz.prog base 52 [.string (strB x)] s R := by
  refine WC_open Tryz.func52 rfl ?_
  have h5 := Bok.le5 (base := base)
  have hk8 := actK_lt x
  have M_s0 := Mild.alloc s (.row [.int .i64 0, .int .i64 0, .int .i64 0, .int .u8 0, .int .u8 0, .int .u8 0, .int .u8 0, .int .u8 0, .int .u8 0, .int .u8 0, .int .u8 0])
  obtain ⟨mx, hmx⟩ := (hL.mild M_s0 hbn).most
  obtain ⟨cv, c1, c2, c3⟩ := (hL.mild M_s0 hbn).words
  simp (disch := first | omega | ((simp only [nxBScrActs]) <;> omega) | decide) only [↓stepPre, stepPost, ↓W_cond, ↓W_block, ↓reduceIte, Nat.reduceEqDiff, Nat.reduceLT, Nat.reduceLeDiff, ret0, stVar, isTup, Value.cells, Nat.reduceAdd, Nat.reduceMul, Nat.reduceSub, env0, binV, intV, reduceCtorEq, pickV, nilCheckV, ptrV, unV, Rt, resultsV, allV, resV, calleeV, builtinV, eqV, fieldAddrV, ldVar, stN_own, stN_ownL, Int.reduceToNat, Int.reducePow, IntKind.bits, convV, Int.reduceNeg, Int.reduceAdd, Int.reduceSub, Int.reduceLT, Int.reduceLE, extractV, Int.reduceEq, mkFuncV, stBScrActs, spBScrActs, beq_self_eq_true, tyB0ScrActs, getL_take, glBScrActs]
  refine cut38_p (b := [32]) (by omega) hmx ?_
  rw [cut_fst]
  simp (disch := first | omega | ((simp only [nxBScrActs]) <;> omega) | decide) only [↓stepPre, stepPost, ↓W_cond, ↓W_block, ↓reduceIte, Nat.reduceEqDiff, Nat.reduceLT, Nat.reduceLeDiff, ret0, stVar, isTup, Value.cells, Nat.reduceAdd, Nat.reduceMul, Nat.reduceSub, env0, binV, intV, reduceCtorEq, pickV, nilCheckV, ptrV, unV, Rt, resultsV, allV, resV, calleeV, builtinV, eqV, fieldAddrV, ldVar, stN_own, stN_ownL, Int.reduceToNat, Int.reducePow, IntKind.bits, convV, Int.reduceNeg, Int.reduceAdd, Int.reduceSub, Int.reduceLT, Int.reduceLE, extractV, Int.reduceEq, mkFuncV, stBScrActs, spBScrActs, beq_self_eq_true, tyB0ScrActs, getL_take, glBScrActs, ev_global, ld_var c1 c3]
  refine place38_ok c2 (by decide) ?_
  rw [show placeN wordsL ((partW 32 x).headD []) = actK x from rfl]
  simp (disch := first | omega | ((simp only [nxBScrActs]) <;> omega) | decide) only [↓stepPre, stepPost, ↓W_cond, ↓W_block, ↓reduceIte, Nat.reduceEqDiff, Nat.reduceLT, Nat.reduceLeDiff, ret0, stVar, isTup, Value.cells, Nat.reduceAdd, Nat.reduceMul, Nat.reduceSub, env0, binV, intV, reduceCtorEq, pickV, nilCheckV, ptrV, unV, Rt, resultsV, allV, resV, calleeV, builtinV, eqV, fieldAddrV, ldVar, stN_own, stN_ownL, Int.reduceToNat, Int.reducePow, IntKind.bits, convV, Int.reduceNeg, Int.reduceAdd, Int.reduceSub, Int.reduceLT, Int.reduceLE, extractV, Int.reduceEq, mkFuncV, stBScrActs, spBScrActs, beq_self_eq_true, tyB0ScrActs, getL_take, glBScrActs, buildV, fillL, setL]
  have M_s2 : Mild s ((s.alloc (.row [.int .i64 0, .int .i64 0, .int .i64 0, .int .u8 0, .int .u8 0, .int .u8 0, .int .u8 0, .int .u8 0, .int .u8 0, .int .u8 0, .int .u8 0])).alloc (.row [.int .i64 (actK x : Int), .int .i64 0, .int .i64 0, .int .u8 0, .int .u8 0, .int .u8 0, .int .u8 0, .int .u8 0, .int .u8 0, .int .u8 0, .int .u8 0])) := (Mild.alloc s _).alloc'
  have z_s2 : ((s.alloc (.row [.int .i64 0, .int .i64 0, .int .i64 0, .int .u8 0, .int .u8 0, .int .u8 0, .int .u8 0, .int .u8 0, .int .u8 0, .int .u8 0, .int .u8 0])).alloc (.row [.int .i64 (actK x : Int), .int .i64 0, .int .i64 0, .int .u8 0, .int .u8 0, .int .u8 0, .int .u8 0, .int .u8 0, .int .u8 0, .int .u8 0, .int .u8 0])).heap s.next = .row [.int .i64 0, .int .i64 0, .int .i64 0, .int .u8 0, .int .u8 0, .int .u8 0, .int .u8 0, .int .u8 0, .int .u8 0, .int .u8 0, .int .u8 0] := (Ab.heap_alloc_ne _ _ (by simp only [Ab.next_alloc]; omega)).trans (Ab.heap_alloc_new _ _)
  have q_s2 : ((s.alloc (.row [.int .i64 0, .int .i64 0, .int .i64 0, .int .u8 0, .int .u8 0, .int .u8 0, .int .u8 0, .int .u8 0, .int .u8 0, .int .u8 0, .int .u8 0])).alloc (.row [.int .i64 (actK x : Int), .int .i64 0, .int .i64 0, .int .u8 0, .int .u8 0, .int .u8 0, .int .u8 0, .int .u8 0, .int .u8 0, .int .u8 0, .int .u8 0])).heap (s.next + 1) = .row (actC (actK x) 0 0 [0, 0, 0, 0, 0, 0, 0, 0]) := Ab.heap_alloc_new (s.alloc (.row [.int .i64 0, .int .i64 0, .int .i64 0, .int .u8 0, .int .u8 0, .int .u8 0, .int .u8 0, .int .u8 0, .int .u8 0, .int .u8 0, .int .u8 0])) (.row [.int .i64 (actK x : Int), .int .i64 0, .int .i64 0, .int .u8 0, .int .u8 0, .int .u8 0, .int .u8 0, .int .u8 0, .int .u8 0, .int .u8 0, .int .u8 0])
  have n_s2 : ((s.alloc (.row [.int .i64 0, .int .i64 0, .int .i64 0, .int .u8 0, .int .u8 0, .int .u8 0, .int .u8 0, .int .u8 0, .int .u8 0, .int .u8 0, .int .u8 0])).alloc (.row [.int .i64 (actK x : Int), .int .i64 0, .int .i64 0, .int .u8 0, .int .u8 0, .int .u8 0, .int .u8 0, .int .u8 0, .int .u8 0, .int .u8 0, .int .u8 0])).next = s.next + 2 := rfl
  generalize (s.alloc (.row [.int .i64 0, .int .i64 0, .int .i64 0, .int .u8 0, .int .u8 0, .int .u8 0, .int .u8 0, .int .u8 0, .int .u8 0, .int .u8 0, .int .u8 0])).alloc (.row [.int .i64 (actK x : Int), .int .i64 0, .int .i64 0, .int .u8 0, .int .u8 0, .int .u8 0, .int .u8 0, .int .u8 0, .int .u8 0, .int .u8 0, .int .u8 0]) = s2 at M_s2 z_s2 q_s2 n_s2 ⊢
  refine open38_ok hx (by omega) fun s3 b m3 r_s3 => ?_
  rw [show decide (¬ (partW 32 x).headD [] = (partW 32 x).headD []) = false by simp] at r_s3
  have n3 := m3.next
  have M_s3 := M_s2.trans m3
  have z_s3 := (m3.heap s.next (by omega)).trans z_s2
  have q_s3 := (m3.heap (s.next + 1) (by omega)).trans q_s2
  have hb2 : s2.next ≤ b ∧ b < s3.next := by obtain ⟨v, y1, y2, y3, y4, y5, y6⟩ := r_s3; exact ⟨y4, y5⟩
  have g1 : (actK x : Int) > 1 := by omega
  have g1' : 1 < (actK x : Int) := by omega
  have g3 : ¬ (actK x : Int) = 3 := by omega
  simp (disch := first | omega | ((simp only [nxBScrActs]) <;> omega) | decide) only [↓stepPre, stepPost, ↓W_cond, ↓W_block, ↓reduceIte, Nat.reduceEqDiff, Nat.reduceLT, Nat.reduceLeDiff, ret0, stVar, isTup, Value.cells, Nat.reduceAdd, Nat.reduceMul, Nat.reduceSub, env0, binV, intV, reduceCtorEq, pickV, nilCheckV, ptrV, unV, Rt, resultsV, allV, resV, calleeV, builtinV, eqV, fieldAddrV, ldVar, stN_own, stN_ownL, Int.reduceToNat, Int.reducePow, IntKind.bits, convV, Int.reduceNeg, Int.reduceAdd, Int.reduceSub, Int.reduceLT, Int.reduceLE, extractV, Int.reduceEq, mkFuncV, stBScrActs, spBScrActs, beq_self_eq_true, tyB0ScrActs, getL_take, glBScrActs, g1, g1', q_s3, build1p]
  have r_s4 := r_s3.keep (fun j h1 h2 => Ab.heap_alloc_ne s3 (.row [.pointer (some ⟨s.next + 1, 1, none⟩)]) (by omega)) (by simp only [Ab.next_alloc]; omega)
  have q_s4 := (Ab.heap_alloc_ne s3 (.row [.pointer (some ⟨s.next + 1, 1, none⟩)]) (b := s.next + 1) (by omega)).trans q_s3
  have z_s4 := (Ab.heap_alloc_ne s3 (.row [.pointer (some ⟨s.next + 1, 1, none⟩)]) (b := s.next) (by omega)).trans z_s3
  have M_s4 := M_s3.alloc' (o := .row [.pointer (some ⟨s.next + 1, 1, none⟩)])
  have p_s4 : Sl base (s3.alloc (.row [.pointer (some ⟨s.next + 1, 1, none⟩)])) 1 (.slice (some ⟨s3.next, 0, none⟩) 1 1) (ptrL (s.next + 1) [1]) := .newRow (Ab.heap_alloc_new _ _) rfl rfl (by simp [ptrL]) (by omega) (by simp only [Ab.next_alloc]; omega)
  have n_s4 := Ab.next_alloc s3 (.row [.pointer (some ⟨s.next + 1, 1, none⟩)])
  generalize s3.alloc (.row [.pointer (some ⟨s.next + 1, 1, none⟩)]) = s4 at r_s4 q_s4 z_s4 M_s4 p_s4 n_s4 ⊢
  refine read38_ok (offs := [1]) r_s4 (by omega) (by omega) (.inl (by omega)) q_s4 (by simp [bC]) (by simp) p_s4 (fun j hj => by simp only [inB] at hj; omega) fun t1 nsK nK fK r_t1 hK lK bK vK => ?_
  obtain ⟨K, rfl⟩ := one_ns lK
  have M_t1 : Mild s t1 := ⟨by have := M_s4.next; omega, fun k hk => by rw [fK k (by omega) (by omega)]; exact M_s4.heap k hk⟩
  have z_t1 := (fK s.next (by omega) (by omega)).trans z_s4
  have r_t1 : Rd base s2.next s3.next t1 b ((partW 32 x).tail.drop 1) (false || !okW (partW 32 x).tail 1) := r_t1
  have q_t1 : t1.heap (s.next + 1) = .row (actC (actK x) K 0 [0, 0, 0, 0, 0, 0, 0, 0]) := hK
  simp (disch := first | omega | ((simp only [nxBScrActs]) <;> omega) | decide) only [↓stepPre, stepPost, ↓W_cond, ↓W_block, ↓reduceIte, Nat.reduceEqDiff, Nat.reduceLT, Nat.reduceLeDiff, ret0, stVar, isTup, Value.cells, Nat.reduceAdd, Nat.reduceMul, Nat.reduceSub, env0, binV, intV, reduceCtorEq, pickV, nilCheckV, ptrV, unV, Rt, resultsV, allV, resV, calleeV, builtinV, eqV, fieldAddrV, ldVar, stN_own, stN_ownL, Int.reduceToNat, Int.reducePow, IntKind.bits, convV, Int.reduceNeg, Int.reduceAdd, Int.reduceSub, Int.reduceLT, Int.reduceLE, extractV, Int.reduceEq, mkFuncV, stBScrActs, spBScrActs, beq_self_eq_true, tyB0ScrActs, getL_take, glBScrActs, q_t1]
  refine bound38_p ?_
  simp (disch := first | omega | ((simp only [nxBScrActs]) <;> omega) | decide) only [↓stepPre, stepPost, ↓W_cond, ↓W_block, ↓reduceIte, Nat.reduceEqDiff, Nat.reduceLT, Nat.reduceLeDiff, ret0, stVar, isTup, Value.cells, Nat.reduceAdd, Nat.reduceMul, Nat.reduceSub, env0, binV, intV, reduceCtorEq, pickV, nilCheckV, ptrV, unV, Rt, resultsV, allV, resV, calleeV, builtinV, eqV, fieldAddrV, ldVar, stN_own, stN_ownL, Int.reduceToNat, Int.reducePow, IntKind.bits, convV, Int.reduceNeg, Int.reduceAdd, Int.reduceSub, Int.reduceLT, Int.reduceLE, extractV, Int.reduceEq, mkFuncV, stBScrActs, spBScrActs, beq_self_eq_true, tyB0ScrActs, getL_take, glBScrActs, Dok_same, h2, build1p]
  have r_s5 := r_t1.keep (fun j h1 h2 => Ab.heap_alloc_ne t1 (.row [.pointer (some ⟨s.next + 1, 2, none⟩)]) (by omega)) (by simp only [Ab.next_alloc]; omega)
  have q_s5 := (Ab.heap_alloc_ne t1 (.row [.pointer (some ⟨s.next + 1, 2, none⟩)]) (b := s.next + 1) (by omega)).trans q_t1
  have z_s5 := (Ab.heap_alloc_ne t1 (.row [.pointer (some ⟨s.next + 1, 2, none⟩)]) (b := s.next) (by omega)).trans z_t1
  have M_s5 := M_t1.alloc' (o := .row [.pointer (some ⟨s.next + 1, 2, none⟩)])
  have p_s5 : Sl base (t1.alloc (.row [.pointer (some ⟨s.next + 1, 2, none⟩)])) 1 (.slice (some ⟨t1.next, 0, none⟩) 1 1) (ptrL (s.next + 1) [2]) := .newRow (Ab.heap_alloc_new _ _) rfl rfl (by simp [ptrL]) (by omega) (by simp only [Ab.next_alloc]; omega)
  have n_s5 := Ab.next_alloc t1 (.row [.pointer (some ⟨s.next + 1, 2, none⟩)])
  generalize t1.alloc (.row [.pointer (some ⟨s.next + 1, 2, none⟩)]) = s5 at r_s5 q_s5 z_s5 M_s5 p_s5 n_s5 ⊢
  refine read38_ok (offs := [2]) r_s5 (by omega) (by omega) (.inl (by omega)) q_s5 (by simp [bC]) (by simp) p_s5 (fun j hj => by simp only [inB] at hj; omega) fun t2 nsN nN fN r_t2 hN lN bN vN => ?_
  obtain ⟨N, rfl⟩ := one_ns lN
  have M_t2 : Mild s t2 := ⟨by have := M_s5.next; omega, fun k hk => by rw [fN k (by omega) (by omega)]; exact M_s5.heap k hk⟩
  have z_t2 := (fN s.next (by omega) (by omega)).trans z_s5
  have r_t2 : Rd base s2.next s3.next t2 b (((partW 32 x).tail.drop 1).drop 1) ((false || !okW (partW 32 x).tail 1) || !okW ((partW 32 x).tail.drop 1) 1) := r_t2
  have q_t2 : t2.heap (s.next + 1) = .row (actC (actK x) K N [0, 0, 0, 0, 0, 0, 0, 0]) := hN
  simp (disch := first | omega | ((simp only [nxBScrActs]) <;> omega) | decide) only [↓stepPre, stepPost, ↓W_cond, ↓W_block, ↓reduceIte, Nat.reduceEqDiff, Nat.reduceLT, Nat.reduceLeDiff, ret0, stVar, isTup, Value.cells, Nat.reduceAdd, Nat.reduceMul, Nat.reduceSub, env0, binV, intV, reduceCtorEq, pickV, nilCheckV, ptrV, unV, Rt, resultsV, allV, resV, calleeV, builtinV, eqV, fieldAddrV, ldVar, stN_own, stN_ownL, Int.reduceToNat, Int.reducePow, IntKind.bits, convV, Int.reduceNeg, Int.reduceAdd, Int.reduceSub, Int.reduceLT, Int.reduceLE, extractV, Int.reduceEq, mkFuncV, stBScrActs, spBScrActs, beq_self_eq_true, tyB0ScrActs, getL_take, glBScrActs, q_t2, g3]
  have hgl := getL_act (a := .int .i64 (actK x : Int)) (b := .int .i64 (K : Int)) (c := .int .i64 (N : Int)) (ds := [0, 0, 0, 0, 0, 0, 0, 0]) rfl
  have hp11 := putAt_act (a0 := .int .i64 0) (a1 := .int .i64 0) (a2 := .int .i64 0) (a3 := .int .u8 0) (a4 := .int .u8 0) (a5 := .int .u8 0) (a6 := .int .u8 0) (a7 := .int .u8 0) (a8 := .int .u8 0) (a9 := .int .u8 0) (a10 := .int .u8 0) (x := .int .i64 (actK x : Int)) (y := .int .i64 (K : Int)) (z := .int .i64 (N : Int)) (ds := [0, 0, 0, 0, 0, 0, 0, 0]) rfl
  have hb8 : (bC [0, 0, 0, 0, 0, 0, 0, 0]).length = 8 := (bC_len _).trans rfl
  have hF : (!((false || !okW (partW 32 x).tail 1) || !okW ((partW 32 x).tail.drop 1) 1) && (((partW 32 x).tail.drop 1).drop 1).isEmpty) = actF x := by simp [actF, actT, actU, h1, h2, h3]
  have hsv : actF x = true → (⟨actK x, K, N, [0, 0, 0, 0, 0, 0, 0, 0]⟩ : Ac) = actA x := fun h => by
    rw [← hF] at h
    simp only [Bool.and_eq_true, Bool.not_eq_true', Bool.or_eq_false_iff, Bool.not_eq_false'] at h
    obtain ⟨⟨⟨wf, wK⟩, wN⟩, wl⟩ := h
    have eK := one_val wK (vK wK)
    have eN := one_val wN (vN wN)
    simp only [actA, actT, if_pos h1, if_pos h2, if_neg h3]
    rw [eK, eN]
  have key : ∀ s', Mild s s' → R (.tuple #[.agg (actC (actK x) K N [0, 0, 0, 0, 0, 0, 0, 0]).toArray, .bool (actF x && rightA (actK x) K N [0, 0, 0, 0, 0, 0, 0, 0])]) s' := fun s' M => by
    have := hR s' ⟨actK x, K, N, [0, 0, 0, 0, 0, 0, 0, 0]⟩ M ⟨rfl, by simp⟩ (fun h => hsv (by unfold actB at h; simp only [Bool.and_eq_true] at h; exact h.1))
    have e : actB x = (actF x && rightA (actK x) K N [0, 0, 0, 0, 0, 0, 0, 0]) := by
      unfold actB
      cases hf : actF x with
      | false => rfl
      | true => rw [← hsv hf]; rfl
    rw [e] at this
    exact this
  refine W_draw (fun k => k == 7) (fun _ => false) (fun _ => false) (by kernel_rfl) (by kernel_rfl) ?_
  simp (disch := first | omega | ((simp only [nxBScrActs]) <;> omega) | decide) only [↓stepPre, stepPost, ↓W_cond, ↓W_block, ↓reduceIte, Nat.reduceEqDiff, Nat.reduceLT, Nat.reduceLeDiff, ret0, stVar, isTup, Value.cells, Nat.reduceAdd, Nat.reduceMul, Nat.reduceSub, env0, binV, intV, reduceCtorEq, pickV, nilCheckV, ptrV, unV, Rt, resultsV, allV, resV, calleeV, builtinV, eqV, fieldAddrV, ldVar, stN_own, stN_ownL, Int.reduceToNat, Int.reducePow, IntKind.bits, convV, Int.reduceNeg, Int.reduceAdd, Int.reduceSub, Int.reduceLT, Int.reduceLE, extractV, Int.reduceEq, mkFuncV, stBScrActs, spBScrActs, beq_self_eq_true, tyB0ScrActs, getL_take, glBScrActs, q_t2, hgl]
  refine fine38_ok r_t2 ?_
  rw [hF]
  cases hf : actF x with
  | false =>
    rw [hf] at key
    simp (disch := first | omega | ((simp only [nxBScrActs]) <;> omega) | decide) only [↓stepPre, stepPost, ↓W_cond, ↓W_block, ↓reduceIte, Nat.reduceEqDiff, Nat.reduceLT, Nat.reduceLeDiff, ret0, stVar, isTup, Value.cells, Nat.reduceAdd, Nat.reduceMul, Nat.reduceSub, env0, binV, intV, reduceCtorEq, pickV, nilCheckV, ptrV, unV, Rt, resultsV, allV, resV, calleeV, builtinV, eqV, fieldAddrV, ldVar, stN_own, stN_ownL, Int.reduceToNat, Int.reducePow, IntKind.bits, convV, Int.reduceNeg, Int.reduceAdd, Int.reduceSub, Int.reduceLT, Int.reduceLE, extractV, Int.reduceEq, mkFuncV, stBScrActs, spBScrActs, beq_self_eq_true, tyB0ScrActs, getL_take, glBScrActs, Dok_same, hgl, hp11, hb8, eq_self, q_t2, z_t2, Tryz.results52]
    refine ⟨.inr ⟨rfl, Nat.le_refl _, fun j hj hjn => by cases hj⟩, ?_⟩
    simp (disch := first | omega | ((simp only [nxBScrActs]) <;> omega) | decide) only [↓stepPre, stepPost, ↓W_cond, ↓W_block, ↓reduceIte, Nat.reduceEqDiff, Nat.reduceLT, Nat.reduceLeDiff, ret0, stVar, isTup, Value.cells, Nat.reduceAdd, Nat.reduceMul, Nat.reduceSub, env0, binV, intV, reduceCtorEq, pickV, nilCheckV, ptrV, unV, Rt, resultsV, allV, resV, calleeV, builtinV, eqV, fieldAddrV, ldVar, stN_own, stN_ownL, Int.reduceToNat, Int.reducePow, IntKind.bits, convV, Int.reduceNeg, Int.reduceAdd, Int.reduceSub, Int.reduceLT, Int.reduceLE, extractV, Int.reduceEq, mkFuncV, stBScrActs, spBScrActs, beq_self_eq_true, tyB0ScrActs, getL_take, glBScrActs, Dok_same, hgl, Tryz.results52]
    exact key _ (M_t2.upd' (Nat.le_refl _))
  | true =>
    rw [hf] at key
    simp (disch := first | omega | ((simp only [nxBScrActs]) <;> omega) | decide) only [↓stepPre, stepPost, ↓W_cond, ↓W_block, ↓reduceIte, Nat.reduceEqDiff, Nat.reduceLT, Nat.reduceLeDiff, ret0, stVar, isTup, Value.cells, Nat.reduceAdd, Nat.reduceMul, Nat.reduceSub, env0, binV, intV, reduceCtorEq, pickV, nilCheckV, ptrV, unV, Rt, resultsV, allV, resV, calleeV, builtinV, eqV, fieldAddrV, ldVar, stN_own, stN_ownL, Int.reduceToNat, Int.reducePow, IntKind.bits, convV, Int.reduceNeg, Int.reduceAdd, Int.reduceSub, Int.reduceLT, Int.reduceLE, extractV, Int.reduceEq, mkFuncV, stBScrActs, spBScrActs, beq_self_eq_true, tyB0ScrActs, getL_take, glBScrActs, Dok_same, hgl, q_t2, z_t2]
    refine right38_p (ds := [0, 0, 0, 0, 0, 0, 0, 0]) rfl ?_
    simp (disch := first | omega | ((simp only [nxBScrActs]) <;> omega) | decide) only [↓stepPre, stepPost, ↓W_cond, ↓W_block, ↓reduceIte, Nat.reduceEqDiff, Nat.reduceLT, Nat.reduceLeDiff, ret0, stVar, isTup, Value.cells, Nat.reduceAdd, Nat.reduceMul, Nat.reduceSub, env0, binV, intV, reduceCtorEq, pickV, nilCheckV, ptrV, unV, Rt, resultsV, allV, resV, calleeV, builtinV, eqV, fieldAddrV, ldVar, stN_own, stN_ownL, Int.reduceToNat, Int.reducePow, IntKind.bits, convV, Int.reduceNeg, Int.reduceAdd, Int.reduceSub, Int.reduceLT, Int.reduceLE, extractV, Int.reduceEq, mkFuncV, stBScrActs, spBScrActs, beq_self_eq_true, tyB0ScrActs, getL_take, glBScrActs, Dok_same, hgl, hp11, hb8, eq_self, q_t2, z_t2, Tryz.results52]
    refine ⟨.inr ⟨rfl, Nat.le_refl _, fun j hj hjn => by cases hj⟩, ?_⟩
    simp (disch := first | omega | ((simp only [nxBScrActs]) <;> omega) | decide) only [↓stepPre, stepPost, ↓W_cond, ↓W_block, ↓reduceIte, Nat.reduceEqDiff, Nat.reduceLT, Nat.reduceLeDiff, ret0, stVar, isTup, Value.cells, Nat.reduceAdd, Nat.reduceMul, Nat.reduceSub, env0, binV, intV, reduceCtorEq, pickV, nilCheckV, ptrV, unV, Rt, resultsV, allV, resV, calleeV, builtinV, eqV, fieldAddrV, ldVar, stN_own, stN_ownL, Int.reduceToNat, Int.reducePow, IntKind.bits, convV, Int.reduceNeg, Int.reduceAdd, Int.reduceSub, Int.reduceLT, Int.reduceLE, extractV, Int.reduceEq, mkFuncV, stBScrActs, spBScrActs, beq_self_eq_true, tyB0ScrActs, getL_take, glBScrActs, Dok_same, hgl, Tryz.results52]
    exact key _ (M_t2.upd' (Nat.le_refl _))
theorem actOf_e {x : List UInt8} (hx : x.length ≤ 1000000) (hL : LaidOk base s) (hbn : base ≤ s.next) (h1 : 1 < actK x) (h2 : 0 ≤ boundA (actK x)) (h3 : actK x = 3)
    (hR : ∀ s' (a : Ac), Mild s s' → a.good → (actB x = true → a = actA x) → R (.tuple #[.agg a.c.toArray, .bool (actB x)]) s') :
    WC Tryz.prog base 52 [.string (strB x)] s R := by
  refine WC_open Tryz.func52 rfl ?_
  have h5 := Bok.le5 (base := base)
  have hk8 := actK_lt x
  have M_s0 := Mild.alloc s (.row [.int .i64 0, .int .i64 0, .int .i64 0, .int .u8 0, .int .u8 0, .int .u8 0, .int .u8 0, .int .u8 0, .int .u8 0, .int .u8 0, .int .u8 0])
  obtain ⟨mx, hmx⟩ := (hL.mild M_s0 hbn).most
  obtain ⟨cv, c1, c2, c3⟩ := (hL.mild M_s0 hbn).words
  simp (disch := first | omega | ((simp only [nxBScrActs]) <;> omega) | decide) only [↓stepPre, stepPost, ↓W_cond, ↓W_block, ↓reduceIte, Nat.reduceEqDiff, Nat.reduceLT, Nat.reduceLeDiff, ret0, stVar, isTup, Value.cells, Nat.reduceAdd, Nat.reduceMul, Nat.reduceSub, env0, binV, intV, reduceCtorEq, pickV, nilCheckV, ptrV, unV, Rt, resultsV, allV, resV, calleeV, builtinV, eqV, fieldAddrV, ldVar, stN_own, stN_ownL, Int.reduceToNat, Int.reducePow, IntKind.bits, convV, Int.reduceNeg, Int.reduceAdd, Int.reduceSub, Int.reduceLT, Int.reduceLE, extractV, Int.reduceEq, mkFuncV, stBScrActs, spBScrActs, beq_self_eq_true, tyB0ScrActs, getL_take, glBScrActs]
  refine cut38_p (b := [32]) (by omega) hmx ?_
  rw [cut_fst]
  simp (disch := first | omega | ((simp only [nxBScrActs]) <;> omega) | decide) only [↓stepPre, stepPost, ↓W_cond, ↓W_block, ↓reduceIte, Nat.reduceEqDiff, Nat.reduceLT, Nat.reduceLeDiff, ret0, stVar, isTup, Value.cells, Nat.reduceAdd, Nat.reduceMul, Nat.reduceSub, env0, binV, intV, reduceCtorEq, pickV, nilCheckV, ptrV, unV, Rt, resultsV, allV, resV, calleeV, builtinV, eqV, fieldAddrV, ldVar, stN_own, stN_ownL, Int.reduceToNat, Int.reducePow, IntKind.bits, convV, Int.reduceNeg, Int.reduceAdd, Int.reduceSub, Int.reduceLT, Int.reduceLE, extractV, Int.reduceEq, mkFuncV, stBScrActs, spBScrActs, beq_self_eq_true, tyB0ScrActs, getL_take, glBScrActs, ev_global, ld_var c1 c3]
  refine place38_ok c2 (by decide) ?_
  rw [show placeN wordsL ((partW 32 x).headD []) = actK x from rfl]
  simp (disch := first | omega | ((simp only [nxBScrActs]) <;> omega) | decide) only [↓stepPre, stepPost, ↓W_cond, ↓W_block, ↓reduceIte, Nat.reduceEqDiff, Nat.reduceLT, Nat.reduceLeDiff, ret0, stVar, isTup, Value.cells, Nat.reduceAdd, Nat.reduceMul, Nat.reduceSub, env0, binV, intV, reduceCtorEq, pickV, nilCheckV, ptrV, unV, Rt, resultsV, allV, resV, calleeV, builtinV, eqV, fieldAddrV, ldVar, stN_own, stN_ownL, Int.reduceToNat, Int.reducePow, IntKind.bits, convV, Int.reduceNeg, Int.reduceAdd, Int.reduceSub, Int.reduceLT, Int.reduceLE, extractV, Int.reduceEq, mkFuncV, stBScrActs, spBScrActs, beq_self_eq_true, tyB0ScrActs, getL_take, glBScrActs, buildV, fillL, setL]
  have M_s2 : Mild s ((s.alloc (.row [.int .i64 0, .int .i64 0, .int .i64 0, .int .u8 0, .int .u8 0, .int .u8 0, .int .u8 0, .int .u8 0, .int .u8 0, .int .u8 0, .int .u8 0])).alloc (.row [.int .i64 (actK x : Int), .int .i64 0, .int .i64 0, .int .u8 0, .int .u8 0, .int .u8 0, .int .u8 0, .int .u8 0, .int .u8 0, .int .u8 0, .int .u8 0])) := (Mild.alloc s _).alloc'
  have z_s2 : ((s.alloc (.row [.int .i64 0, .int .i64 0, .int .i64 0, .int .u8 0, .int .u8 0, .int .u8 0, .int .u8 0, .int .u8 0, .int .u8 0, .int .u8 0, .int .u8 0])).alloc (.row [.int .i64 (actK x : Int), .int .i64 0, .int .i64 0, .int .u8 0, .int .u8 0, .int .u8 0, .int .u8 0, .int .u8 0, .int .u8 0, .int .u8 0, .int .u8 0])).heap s.next = .row [.int .i64 0, .int .i64 0, .int .i64 0, .int .u8 0, .int .u8 0, .int .u8 0, .int .u8 0, .int .u8 0, .int .u8 0, .int .u8 0, .int .u8 0] := (Ab.heap_alloc_ne _ _ (by simp only [Ab.next_alloc]; omega)).trans (Ab.heap_alloc_new _ _)
  have q_s2 : ((s.alloc (.row [.int .i64 0, .int .i64 0, .int .i64 0, .int .u8 0, .int .u8 0, .int .u8 0, .int .u8 0, .int .u8 0, .int .u8 0, .int .u8 0, .int .u8 0])).alloc (.row [.int .i64 (actK x : Int), .int .i64 0, .int .i64 0, .int .u8 0, .int .u8 0, .int .u8 0, .int .u8 0, .int .u8 0, .int .u8 0, .int .u8 0, .int .u8 0])).heap (s.next + 1) = .row (actC (actK x) 0 0 [0, 0, 0, 0, 0, 0, 0, 0]) := Ab.heap_alloc_new (s.alloc (.row [.int .i64 0, .int .i64 0, .int .i64 0, .int .u8 0, .int .u8 0, .int .u8 0, .int .u8 0, .int .u8 0, .int .u8 0, .int .u8 0, .int .u8 0])) (.row [.int .i64 (actK x : Int), .int .i64 0, .int .i64 0, .int .u8 0, .int .u8 0, .int .u8 0, .int .u8 0, .int .u8 0, .int .u8 0, .int .u8 0, .int .u8 0])
  have n_s2 : ((s.alloc (.row [.int .i64 0, .int .i64 0, .int .i64 0, .int .u8 0, .int .u8 0, .int .u8 0, .int .u8 0, .int .u8 0, .int .u8 0, .int .u8 0, .int .u8 0])).alloc (.row [.int .i64 (actK x : Int), .int .i64 0, .int .i64 0, .int .u8 0, .int .u8 0, .int .u8 0, .int .u8 0, .int .u8 0, .int .u8 0, .int .u8 0, .int .u8 0])).next = s.next + 2 := rfl
  generalize (s.alloc (.row [.int .i64 0, .int .i64 0, .int .i64 0, .int .u8 0, .int .u8 0, .int .u8 0, .int .u8 0, .int .u8 0, .int .u8 0, .int .u8 0, .int .u8 0])).alloc (.row [.int .i64 (actK x : Int), .int .i64 0, .int .i64 0, .int .u8 0, .int .u8 0, .int .u8 0, .int .u8 0, .int .u8 0, .int .u8 0, .int .u8 0, .int .u8 0]) = s2 at M_s2 z_s2 q_s2 n_s2 ⊢
  refine open38_ok hx (by omega) fun s3 b m3 r_s3 => ?_
  rw [show decide (¬ (partW 32 x).headD [] = (partW 32 x).headD []) = false by simp] at r_s3
  have n3 := m3.next
  have M_s3 := M_s2.trans m3
  have z_s3 := (m3.heap s.next (by omega)).trans z_s2
  have q_s3 := (m3.heap (s.next + 1) (by omega)).trans q_s2
  have hb2 : s2.next ≤ b ∧ b < s3.next := by obtain ⟨v, y1, y2, y3, y4, y5, y6⟩ := r_s3; exact ⟨y4, y5⟩
  have g1 : (actK x : Int) > 1 := by omega
  have g1' : 1 < (actK x : Int) := by omega
  have g3 : (actK x : Int) = 3 := by omega
  simp (disch := first | omega | ((simp only [nxBScrActs]) <;> omega) | decide) only [↓stepPre, stepPost, ↓W_cond, ↓W_block, ↓reduceIte, Nat.reduceEqDiff, Nat.reduceLT, Nat.reduceLeDiff, ret0, stVar, isTup, Value.cells, Nat.reduceAdd, Nat.reduceMul, Nat.reduceSub, env0, binV, intV, reduceCtorEq, pickV, nilCheckV, ptrV, unV, Rt, resultsV, allV, resV, calleeV, builtinV, eqV, fieldAddrV, ldVar, stN_own, stN_ownL, Int.reduceToNat, Int.reducePow, IntKind.bits, convV, Int.reduceNeg, Int.reduceAdd, Int.reduceSub, Int.reduceLT, Int.reduceLE, extractV, Int.reduceEq, mkFuncV, stBScrActs, spBScrActs, beq_self_eq_true, tyB0ScrActs, getL_take, glBScrActs, g1, g1', q_s3, build1p]
  have r_s4 := r_s3.keep (fun j h1 h2 => Ab.heap_alloc_ne s3 (.row [.pointer (some ⟨s.next + 1, 1, none⟩)]) (by omega)) (by simp only [Ab.next_alloc]; omega)
  have q_s4 := (Ab.heap_alloc_ne s3 (.row [.pointer (some ⟨s.next + 1, 1, none⟩)]) (b := s.next + 1) (by omega)).trans q_s3
  have z_s4 := (Ab.heap_alloc_ne s3 (.row [.pointer (some ⟨s.next + 1, 1, none⟩)]) (b := s.next) (by omega)).trans z_s3
  have M_s4 := M_s3.alloc' (o := .row [.pointer (some ⟨s.next + 1, 1, none⟩)])
  have p_s4 : Sl base (s3.alloc (.row [.pointer (some ⟨s.next + 1, 1, none⟩)])) 1 (.slice (some ⟨s3.next, 0, none⟩) 1 1) (ptrL (s.next + 1) [1]) := .newRow (Ab.heap_alloc_new _ _) rfl rfl (by simp [ptrL]) (by omega) (by simp only [Ab.next_alloc]; omega)
  have n_s4 := Ab.next_alloc s3 (.row [.pointer (some ⟨s.next + 1, 1, none⟩)])
  generalize s3.alloc (.row [.pointer (some ⟨s.next + 1, 1, none⟩)]) = s4 at r_s4 q_s4 z_s4 M_s4 p_s4 n_s4 ⊢
  refine read38_ok (offs := [1]) r_s4 (by omega) (by omega) (.inl (by omega)) q_s4 (by simp [bC]) (by simp) p_s4 (fun j hj => by simp only [inB] at hj; omega) fun t1 nsK nK fK r_t1 hK lK bK vK => ?_
  obtain ⟨K, rfl⟩ := one_ns lK
  have M_t1 : Mild s t1 := ⟨by have := M_s4.next; omega, fun k hk => by rw [fK k (by omega) (by omega)]; exact M_s4.heap k hk⟩
  have z_t1 := (fK s.next (by omega) (by omega)).trans z_s4
  have r_t1 : Rd base s2.next s3.next t1 b ((partW 32 x).tail.drop 1) (false || !okW (partW 32 x).tail 1) := r_t1
  have q_t1 : t1.heap (s.next + 1) = .row (actC (actK x) K 0 [0, 0, 0, 0, 0, 0, 0, 0]) := hK
  simp (disch := first | omega | ((simp only [nxBScrActs]) <;> omega) | decide) only [↓stepPre, stepPost, ↓W_cond, ↓W_block, ↓reduceIte, Nat.reduceEqDiff, Nat.reduceLT, Nat.reduceLeDiff, ret0, stVar, isTup, Value.cells, Nat.reduceAdd, Nat.reduceMul, Nat.reduceSub, env0, binV, intV, reduceCtorEq, pickV, nilCheckV, ptrV, unV, Rt, resultsV, allV, resV, calleeV, builtinV, eqV, fieldAddrV, ldVar, stN_own, stN_ownL, Int.reduceToNat, Int.reducePow, IntKind.bits, convV, Int.reduceNeg, Int.reduceAdd, Int.reduceSub, Int.reduceLT, Int.reduceLE, extractV, Int.reduceEq, mkFuncV, stBScrActs, spBScrActs, beq_self_eq_true, tyB0ScrActs, getL_take, glBScrActs, q_t1]
  refine bound38_p ?_
  simp (disch := first | omega | ((simp only [nxBScrActs]) <;> omega) | decide) only [↓stepPre, stepPost, ↓W_cond, ↓W_block, ↓reduceIte, Nat.reduceEqDiff, Nat.reduceLT, Nat.reduceLeDiff, ret0, stVar, isTup, Value.cells, Nat.reduceAdd, Nat.reduceMul, Nat.reduceSub, env0, binV, intV, reduceCtorEq, pickV, nilCheckV, ptrV, unV, Rt, resultsV, allV, resV, calleeV, builtinV, eqV, fieldAddrV, ldVar, stN_own, stN_ownL, Int.reduceToNat, Int.reducePow, IntKind.bits, convV, Int.reduceNeg, Int.reduceAdd, Int.reduceSub, Int.reduceLT, Int.reduceLE, extractV, Int.reduceEq, mkFuncV, stBScrActs, spBScrActs, beq_self_eq_true, tyB0ScrActs, getL_take, glBScrActs, Dok_same, h2, build1p]
  have r_s5 := r_t1.keep (fun j h1 h2 => Ab.heap_alloc_ne t1 (.row [.pointer (some ⟨s.next + 1, 2, none⟩)]) (by omega)) (by simp only [Ab.next_alloc]; omega)
  have q_s5 := (Ab.heap_alloc_ne t1 (.row [.pointer (some ⟨s.next + 1, 2, none⟩)]) (b := s.next + 1) (by omega)).trans q_t1
  have z_s5 := (Ab.heap_alloc_ne t1 (.row [.pointer (some ⟨s.next + 1, 2, none⟩)]) (b := s.next) (by omega)).trans z_t1
  have M_s5 := M_t1.alloc' (o := .row [.pointer (some ⟨s.next + 1, 2, none⟩)])
  have p_s5 : Sl base (t1.alloc (.row [.pointer (some ⟨s.next + 1, 2, none⟩)])) 1 (.slice (some ⟨t1.next, 0, none⟩) 1 1) (ptrL (s.next + 1) [2]) := .newRow (Ab.heap_alloc_new _ _) rfl rfl (by simp [ptrL]) (by omega) (by simp only [Ab.next_alloc]; omega)
  have n_s5 := Ab.next_alloc t1 (.row [.pointer (some ⟨s.next + 1, 2, none⟩)])
  generalize t1.alloc (.row [.pointer (some ⟨s.next + 1, 2, none⟩)]) = s5 at r_s5 q_s5 z_s5 M_s5 p_s5 n_s5 ⊢
  refine read38_ok (offs := [2]) r_s5 (by omega) (by omega) (.inl (by omega)) q_s5 (by simp [bC]) (by simp) p_s5 (fun j hj => by simp only [inB] at hj; omega) fun t2 nsN nN fN r_t2 hN lN bN vN => ?_
  obtain ⟨N, rfl⟩ := one_ns lN
  have M_t2 : Mild s t2 := ⟨by have := M_s5.next; omega, fun k hk => by rw [fN k (by omega) (by omega)]; exact M_s5.heap k hk⟩
  have z_t2 := (fN s.next (by omega) (by omega)).trans z_s5
  have r_t2 : Rd base s2.next s3.next t2 b (((partW 32 x).tail.drop 1).drop 1) ((false || !okW (partW 32 x).tail 1) || !okW ((partW 32 x).tail.drop 1) 1) := r_t2
  have q_t2 : t2.heap (s.next + 1) = .row (actC (actK x) K N [0, 0, 0, 0, 0, 0, 0, 0]) := hN
  simp (disch := first | omega | ((simp only [nxBScrActs]) <;> omega) | decide) only [↓stepPre, stepPost, ↓W_cond, ↓W_block, ↓reduceIte, Nat.reduceEqDiff, Nat.reduceLT, Nat.reduceLeDiff, ret0, stVar, isTup, Value.cells, Nat.reduceAdd, Nat.reduceMul, Nat.reduceSub, env0, binV, intV, reduceCtorEq, pickV, nilCheckV, ptrV, unV, Rt, resultsV, allV, resV, calleeV, builtinV, eqV, fieldAddrV, ldVar, stN_own, stN_ownL, Int.reduceToNat, Int.reducePow, IntKind.bits, convV, Int.reduceNeg, Int.reduceAdd, Int.reduceSub, Int.reduceLT, Int.reduceLE, extractV, Int.reduceEq, mkFuncV, stBScrActs, spBScrActs, beq_self_eq_true, tyB0ScrActs, getL_take, glBScrActs, q_t2, g3]
  refine next38_ok r_t2 fun t3 n3' f3 r_t3 => ?_
  have M_t3 : Mild s t3 := ⟨by have := M_t2.next; omega, fun k hk => by rw [f3 k (by omega)]; exact M_t2.heap k hk⟩
  have z_t3 := (f3 s.next (by omega)).trans z_t2
  have q_t3 := (f3 (s.next + 1) (by omega)).trans q_t2
  have hW : ((((partW 32 x).tail.drop [1].length).drop [2].length).headD []).length ≤ 1000000 := headD_mem r_t2.choose_spec.2.2.2.2.2.2.2
  generalize hw : (((partW 32 x).tail.drop [1].length).drop [2].length).headD [] = w at hW ⊢
  have hlen : ∀ ts, lenB Tryz.prog (9 :: ts) [.string (strB w)] = some (.int .i64 (w.length : Int)) := fun ts => lenStr Ty.str9 Ty.arr9
  have hmin : minB [.int .i64 (w.length : Int), .int .i64 16] = some (.int .i64 ((min w.length 16 : Nat) : Int)) := by
    simp only [minB, foldV, minV]
    by_cases hh : (16 : Int) < w.length
    · rw [if_pos hh, show min w.length 16 = 16 by omega]; rfl
    · rw [if_neg hh, show min w.length 16 = w.length by omega]
  have hmx : ∀ k : Int, maxB [.int .i64 k, .int .i64 0] = some (.int .i64 (max k 0)) := fun k => by
    simp only [maxB, foldV, maxV]
    split <;> congr <;> omega
  simp (disch := first | omega | ((simp only [nxBScrActs]) <;> omega) | decide) only [↓stepPre, stepPost, ↓W_cond, ↓W_block, ↓reduceIte, Nat.reduceEqDiff, Nat.reduceLT, Nat.reduceLeDiff, ret0, stVar, isTup, Value.cells, Nat.reduceAdd, Nat.reduceMul, Nat.reduceSub, env0, binV, intV, reduceCtorEq, pickV, nilCheckV, ptrV, unV, Rt, resultsV, allV, resV, calleeV, builtinV, eqV, fieldAddrV, ldVar, stN_own, stN_ownL, Int.reduceToNat, Int.reducePow, IntKind.bits, convV, Int.reduceNeg, Int.reduceAdd, Int.reduceSub, Int.reduceLT, Int.reduceLE, extractV, Int.reduceEq, mkFuncV, stBScrActs, spBScrActs, beq_self_eq_true, tyB0ScrActs, getL_take, glBScrActs, hlen, hmin]
  have hm16 : min w.length 16 ≤ w.length ∧ min w.length 16 ≤ 16 := by omega
  generalize hm : min w.length 16 = m at hm16
  refine W_loop_inv m (fun i e1 t => e1 2 = .pointer (some ⟨s.next, 0, none⟩) ∧ e1 7 = .pointer (some ⟨s.next + 1, 0, none⟩) ∧ e1 8 = .pointer (some ⟨b, 0, none⟩) ∧ e1 9 = .string (strB w) ∧ e1 46 = .int .i64 (m : Int) ∧ e1 47 = .int .i64 (i : Int) ∧ t.next = t3.next ∧ (∀ k, k ≠ s.next + 1 → t.heap k = t3.heap k) ∧ t.heap (s.next + 1) = .row (actC (actK x) K N (decA w i)))
    (fun y e1 t => y = .exit 0 ∧ e1 2 = .pointer (some ⟨s.next, 0, none⟩) ∧ e1 7 = .pointer (some ⟨s.next + 1, 0, none⟩) ∧ e1 8 = .pointer (some ⟨b, 0, none⟩) ∧ e1 9 = .string (strB w) ∧ t.next = t3.next ∧ (∀ k, k ≠ s.next + 1 → t.heap k = t3.heap k) ∧ t.heap (s.next + 1) = .row (actC (actK x) K N (decA w m))) ?_ ?_ ?_
  rotate_left
  · exact ⟨rfl, rfl, rfl, rfl, rfl, rfl, rfl, fun _ _ => rfl, by rw [decA_zero]; exact q_t3⟩
  rotate_left
  · rintro i e1 t hi ⟨e2, e7, e8, e9, e46, e47, nt, ft, qt⟩
    by_cases hil : i < m
    rotate_left
    · have k1 : ¬ (i : Int) < (m : Int) := by omega
      obtain rfl : i = m := by omega
      simp (disch := first | omega | ((simp only [nxBScrActs]) <;> omega) | decide) only [↓stepPre, stepPost, ↓W_cond, ↓W_block, ↓reduceIte, Nat.reduceEqDiff, Nat.reduceLT, Nat.reduceLeDiff, ret0, stVar, isTup, Value.cells, Nat.reduceAdd, Nat.reduceMul, Nat.reduceSub, env0, binV, intV, reduceCtorEq, pickV, nilCheckV, ptrV, unV, Rt, resultsV, allV, resV, calleeV, builtinV, eqV, fieldAddrV, ldVar, stN_own, stN_ownL, Int.reduceToNat, Int.reducePow, IntKind.bits, convV, Int.reduceNeg, Int.reduceAdd, Int.reduceSub, Int.reduceLT, Int.reduceLE, extractV, Int.reduceEq, mkFuncV, stBScrActs, spBScrActs, beq_self_eq_true, tyB0ScrActs, getL_take, glBScrActs, e2, e7, e8, e9, e46, e47, k1]
      exact ⟨nt, ft, qt⟩
    have k1 : (i : Int) < (m : Int) := by omega
    have i1 := idxStr (P := Tryz.prog) (t := 9) (l := w) (k := .i64) (i := (i : Int)) Ty.str9 (by omega) (by omega)
    rw [Int.toNat_natCast] at i1
    obtain ⟨hlt, hset⟩ := decA_step (w := w) (i := i) (by omega)
    have hidx := idxArr (P := Tryz.prog) (b := s.next + 1) (o := 3) (kk := .i64) (i := ((i / 2 : Nat) : Int)) Ty.arr31 Ty.siz5 (by omega) (by omega)
    rw [Int.toNat_natCast] at hidx
    have qi : (i : Int).tdiv 2 = ((i / 2 : Nat) : Int) := by rw [Int.tdiv_eq_ediv_of_nonneg (by omega)]; omega
    have hfa := act_at (k := actK x) (K := K) (N := N) (ds := decA w i) (j := i / 2) (by rw [decA_len]; omega)
    have hld : loadV Tryz.prog base t 5 (.pointer (some ⟨s.next + 1, 3 + i / 2 * 1, none⟩)) = some (.int .u8 (((decA w i).getD (i / 2) 0 : Nat) : Int)) := by
      simp (disch := first | omega | ((simp only [nxBScrActs]) <;> omega) | decide) only [↓stepPre, stepPost, ↓W_cond, ↓W_block, ↓reduceIte, Nat.reduceEqDiff, Nat.reduceLT, Nat.reduceLeDiff, ret0, stVar, isTup, Value.cells, Nat.reduceAdd, Nat.reduceMul, Nat.reduceSub, env0, binV, intV, reduceCtorEq, pickV, nilCheckV, ptrV, unV, Rt, resultsV, allV, resV, calleeV, builtinV, eqV, fieldAddrV, ldVar, Int.reduceToNat, Int.reducePow, IntKind.bits, convV, Int.reduceNeg, Int.reduceAdd, Int.reduceSub, Int.reduceLT, Int.reduceLE, extractV, Int.reduceEq, mkFuncV, stBScrActs, spBScrActs, beq_self_eq_true, tyB0ScrActs, qt, hfa]
    have hput := act_put (k := actK x) (K := K) (N := N) (ds := decA w i) (j := i / 2) (y := (decA w i).getD (i / 2) 0 * 16 + hvA w i) (by rw [decA_len]; omega)
    rw [hset] at hput
    obtain ⟨d1, d2⟩ := hv_lt (w.getD i 0)
    rw [show hvA w i = hv (w.getD i 0) from rfl] at hput
    generalize (decA w i).getD (i / 2) 0 = y at hld hput hlt
    generalize hv (w.getD i 0) = d at d1 d2 hput
    clear hset hfa
    have w1 : IntKind.u8.wrap (d : Int) = (d : Int) := IntWalk.u8_in _ (by omega)
    have w2 := nibA hlt d1
    simp (disch := first | omega | ((simp only [nxBScrActs]) <;> omega) | decide) only [↓stepPre, stepPost, ↓W_cond, ↓W_block, ↓reduceIte, Nat.reduceEqDiff, Nat.reduceLT, Nat.reduceLeDiff, ret0, stVar, isTup, Value.cells, Nat.reduceAdd, Nat.reduceMul, Nat.reduceSub, env0, binV, intV, reduceCtorEq, pickV, nilCheckV, ptrV, unV, Rt, resultsV, allV, resV, calleeV, builtinV, eqV, fieldAddrV, ldVar, stN_own, stN_ownL, Int.reduceToNat, Int.reducePow, IntKind.bits, convV, Int.reduceNeg, Int.reduceAdd, Int.reduceSub, Int.reduceLT, Int.reduceLE, extractV, Int.reduceEq, mkFuncV, stBScrActs, spBScrActs, beq_self_eq_true, tyB0ScrActs, getL_take, glBScrActs, e2, e7, e8, e9, e46, e47, k1]
    refine W_draw (fun k => k == 17) (fun _ => false) (fun _ => false) (by kernel_rfl) (by kernel_rfl) ?_
    simp (disch := first | omega | ((simp only [nxBScrActs]) <;> omega) | decide) only [↓stepPre, stepPost, ↓W_cond, ↓W_block, ↓reduceIte, Nat.reduceEqDiff, Nat.reduceLT, Nat.reduceLeDiff, ret0, stVar, isTup, Value.cells, Nat.reduceAdd, Nat.reduceMul, Nat.reduceSub, env0, binV, intV, reduceCtorEq, pickV, nilCheckV, ptrV, unV, Rt, resultsV, allV, resV, calleeV, builtinV, eqV, fieldAddrV, ldVar, stN_own, stN_ownL, Int.reduceToNat, Int.reducePow, IntKind.bits, convV, Int.reduceNeg, Int.reduceAdd, Int.reduceSub, Int.reduceLT, Int.reduceLE, extractV, Int.reduceEq, mkFuncV, stBScrActs, spBScrActs, beq_self_eq_true, tyB0ScrActs, getL_take, glBScrActs, e2, e7, e8, e9, e46, e47, qi, hidx, hld, i1]
    refine indexB_p (a := hxD) (c := (w.getD i 0).toNat) ?_
    rw [show (w.getD i 0).toNat.toUInt8 = w.getD i 0 from UInt8.ofNat_toNat]
    generalize Lib.indexByte hxD (w.getD i 0) = ib at d2 ⊢
    have hmxd : maxB [.int .i64 ib, .int .i64 0] = some (.int .i64 (d : Int)) := by rw [hmx, d2]
    simp (disch := first | omega | ((simp only [nxBScrActs]) <;> omega) | decide) only [↓stepPre, stepPost, ↓W_cond, ↓W_block, ↓reduceIte, Nat.reduceEqDiff, Nat.reduceLT, Nat.reduceLeDiff, ret0, stVar, isTup, Value.cells, Nat.reduceAdd, Nat.reduceMul, Nat.reduceSub, env0, binV, intV, reduceCtorEq, pickV, nilCheckV, ptrV, unV, Rt, resultsV, allV, resV, calleeV, builtinV, eqV, fieldAddrV, ldVar, stN_own, stN_ownL, Int.reduceToNat, Int.reducePow, IntKind.bits, convV, Int.reduceNeg, Int.reduceAdd, Int.reduceSub, Int.reduceLT, Int.reduceLE, extractV, Int.reduceEq, mkFuncV, stBScrActs, spBScrActs, beq_self_eq_true, tyB0ScrActs, getL_take, glBScrActs, Dok_same, e2, e7, e8, e9, e46, e47, hmxd, w1, w2, qt, hput, hidx]
    exact ⟨hil, by simp, nt, fun k hk => by rw [Ab.heap_upd_ne _ _ hk]; exact ft k hk⟩
  rintro y e1 t ⟨rfl, e2, e7, e8, e9, nt, ft, qt⟩
  have hw' : ((((partW 32 x).tail.drop 1).drop 1).headD []) = w := hw
  have M_t : Mild s t := ⟨by have := M_t3.next; omega, fun k hk => by rw [ft k (by omega)]; exact M_t3.heap k hk⟩
  have z_t := (ft s.next (by omega)).trans z_t3
  have r_t : Rd base s2.next s3.next t b (((partW 32 x).tail.drop 1).drop 1).tail (((false || !okW (partW 32 x).tail 1) || !okW ((partW 32 x).tail.drop 1) 1) || (((partW 32 x).tail.drop 1).drop 1).isEmpty) := r_t3.keep (fun k h1 h2 => ft k (by omega)) (by omega)
  obtain ⟨v', y1, y2, y3, y4, y5, y6, y7, y8⟩ := r_t
  have rdc : ∀ (t5 : St) (fl : Bool), Mild t t5 → Rd base s2.next s3.next (t5.upd b (.row [v', .bool fl])) b (((partW 32 x).tail.drop 1).drop 1).tail fl := fun t5 fl M5 =>
    ⟨v', Ab.heap_upd_same _ _ _, (y2.mild M5).frame (fun a n c e => Ab.heap_upd_ne _ _ (by subst e; exact (y7 a.block rfl).2.2)) (Nat.le_refl _), y3, y4, y5, Nat.le_trans y6 M5.next, y7, y8⟩
  have hg3 := getL_act3 (a := .int .i64 (actK x : Int)) (b := .int .i64 (K : Int)) (c := .int .i64 (N : Int)) (decA_len w m)
  have hfl : (((false || !okW (partW 32 x).tail 1) || !okW ((partW 32 x).tail.drop 1) 1) || (((partW 32 x).tail.drop 1).drop 1).isEmpty) = true ∨ (((false || !okW (partW 32 x).tail 1) || !okW ((partW 32 x).tail.drop 1) 1) || (((partW 32 x).tail.drop 1).drop 1).isEmpty) = false := by cases (((false || !okW (partW 32 x).tail 1) || !okW ((partW 32 x).tail.drop 1) 1) || (((partW 32 x).tail.drop 1).drop 1).isEmpty) <;> simp
  rcases hfl with hB | hB
  · rw [hB] at y1
    simp (disch := first | omega | ((simp only [nxBScrActs]) <;> omega) | decide) only [↓stepPre, stepPost, ↓W_cond, ↓W_block, ↓reduceIte, Nat.reduceEqDiff, Nat.reduceLT, Nat.reduceLeDiff, ret0, stVar, isTup, Value.cells, Nat.reduceAdd, Nat.reduceMul, Nat.reduceSub, env0, binV, intV, reduceCtorEq, pickV, nilCheckV, ptrV, unV, Rt, resultsV, allV, resV, calleeV, builtinV, eqV, fieldAddrV, ldVar, stN_own, stN_ownL, Int.reduceToNat, Int.reducePow, IntKind.bits, convV, Int.reduceNeg, Int.reduceAdd, Int.reduceSub, Int.reduceLT, Int.reduceLE, extractV, Int.reduceEq, mkFuncV, stBScrActs, spBScrActs, beq_self_eq_true, tyB0ScrActs, getL_take, glBScrActs, e2, e7, e8, e9, y1, putAt_row, setL]
    have r_t4 : Rd base s2.next s3.next (t.upd b (.row [v', .bool true])) b (((partW 32 x).tail.drop 1).drop 1).tail ((((false || !okW (partW 32 x).tail 1) || !okW ((partW 32 x).tail.drop 1) 1) || (((partW 32 x).tail.drop 1).drop 1).isEmpty) || decide (¬ w = hxT (decA w m))) := by
      rw [hB]; exact rdc t true (.refl _)
    have M_t4 : Mild s (t.upd b (.row [v', .bool true])) := M_t.upd' (by omega)
    have z_t4 := (Ab.heap_upd_ne t (.row [v', .bool true]) (show s.next ≠ b by omega)).trans z_t
    have q_t4 := (Ab.heap_upd_ne t (.row [v', .bool true]) (show s.next + 1 ≠ b by omega)).trans qt
    have nt4 : s.next + 1 < (t.upd b (.row [v', .bool true])).next := by show s.next + 1 < t.next; omega
    generalize t.upd b (.row [v', .bool true]) = t4 at r_t4 M_t4 z_t4 q_t4 nt4 ⊢
    have hgl := getL_act (a := .int .i64 (actK x : Int)) (b := .int .i64 (K : Int)) (c := .int .i64 (N : Int)) (ds := (decA w m)) (decA_len _ _)
    have hp11 := putAt_act (a0 := .int .i64 0) (a1 := .int .i64 0) (a2 := .int .i64 0) (a3 := .int .u8 0) (a4 := .int .u8 0) (a5 := .int .u8 0) (a6 := .int .u8 0) (a7 := .int .u8 0) (a8 := .int .u8 0) (a9 := .int .u8 0) (a10 := .int .u8 0) (x := .int .i64 (actK x : Int)) (y := .int .i64 (K : Int)) (z := .int .i64 (N : Int)) (ds := (decA w m)) (decA_len _ _)
    have hb8 : (bC (decA w m)).length = 8 := (bC_len _).trans (decA_len _ _)
    have hF : (!((((false || !okW (partW 32 x).tail 1) || !okW ((partW 32 x).tail.drop 1) 1) || (((partW 32 x).tail.drop 1).drop 1).isEmpty) || decide (¬ w = hxT (decA w m))) && (((partW 32 x).tail.drop 1).drop 1).tail.isEmpty) = actF x := by simp only [actF, actT, actU, if_pos h1, if_pos h2, if_pos h3, hw', actW, hm, Bool.or_assoc, Bool.false_or]
    have hsv : actF x = true → (⟨actK x, K, N, (decA w m)⟩ : Ac) = actA x := fun h => by
      rw [← hF] at h
      simp only [Bool.and_eq_true, Bool.not_eq_true', Bool.or_eq_false_iff, Bool.not_eq_false'] at h
      obtain ⟨⟨⟨⟨⟨wf, wK⟩, wN⟩, we⟩, wh⟩, wl⟩ := h
      have eK := one_val wK (vK wK)
      have eN := one_val wN (vN wN)
      simp only [actA, actT, actU, if_pos h1, if_pos h2, if_pos h3, hw', actW, hm]
      rw [eK, eN]
    have key : ∀ s', Mild s s' → R (.tuple #[.agg (actC (actK x) K N (decA w m)).toArray, .bool (actF x && rightA (actK x) K N (decA w m))]) s' := fun s' M => by
      have := hR s' ⟨actK x, K, N, (decA w m)⟩ M ⟨(decA_len _ _), decA_lt _ _⟩ (fun h => hsv (by unfold actB at h; simp only [Bool.and_eq_true] at h; exact h.1))
      have e : actB x = (actF x && rightA (actK x) K N (decA w m)) := by
        unfold actB
        cases hf : actF x with
        | false => rfl
        | true => rw [← hsv hf]; rfl
      rw [e] at this
      exact this
    refine W_draw (fun k => k == 7) (fun _ => false) (fun _ => false) (by kernel_rfl) (by kernel_rfl) ?_
    simp (disch := first | omega | ((simp only [nxBScrActs]) <;> omega) | decide) only [↓stepPre, stepPost, ↓W_cond, ↓W_block, ↓reduceIte, Nat.reduceEqDiff, Nat.reduceLT, Nat.reduceLeDiff, ret0, stVar, isTup, Value.cells, Nat.reduceAdd, Nat.reduceMul, Nat.reduceSub, env0, binV, intV, reduceCtorEq, pickV, nilCheckV, ptrV, unV, Rt, resultsV, allV, resV, calleeV, builtinV, eqV, fieldAddrV, ldVar, stN_own, stN_ownL, Int.reduceToNat, Int.reducePow, IntKind.bits, convV, Int.reduceNeg, Int.reduceAdd, Int.reduceSub, Int.reduceLT, Int.reduceLE, extractV, Int.reduceEq, mkFuncV, stBScrActs, spBScrActs, beq_self_eq_true, tyB0ScrActs, getL_take, glBScrActs, e2, e7, e8, q_t4, hgl]
    refine fine38_ok r_t4 ?_
    rw [hF]
    cases hf : actF x with
    | false =>
      rw [hf] at key
      simp (disch := first | omega | ((simp only [nxBScrActs]) <;> omega) | decide) only [↓stepPre, stepPost, ↓W_cond, ↓W_block, ↓reduceIte, Nat.reduceEqDiff, Nat.reduceLT, Nat.reduceLeDiff, ret0, stVar, isTup, Value.cells, Nat.reduceAdd, Nat.reduceMul, Nat.reduceSub, env0, binV, intV, reduceCtorEq, pickV, nilCheckV, ptrV, unV, Rt, resultsV, allV, resV, calleeV, builtinV, eqV, fieldAddrV, ldVar, stN_own, stN_ownL, Int.reduceToNat, Int.reducePow, IntKind.bits, convV, Int.reduceNeg, Int.reduceAdd, Int.reduceSub, Int.reduceLT, Int.reduceLE, extractV, Int.reduceEq, mkFuncV, stBScrActs, spBScrActs, beq_self_eq_true, tyB0ScrActs, getL_take, glBScrActs, e2, e7, e8, Dok_same, hgl, hp11, hb8, eq_self, q_t4, z_t4, Tryz.results52]
      refine ⟨.inr ⟨rfl, Nat.le_refl _, fun j hj hjn => by cases hj⟩, ?_⟩
      simp (disch := first | omega | ((simp only [nxBScrActs]) <;> omega) | decide) only [↓stepPre, stepPost, ↓W_cond, ↓W_block, ↓reduceIte, Nat.reduceEqDiff, Nat.reduceLT, Nat.reduceLeDiff, ret0, stVar, isTup, Value.cells, Nat.reduceAdd, Nat.reduceMul, Nat.reduceSub, env0, binV, intV, reduceCtorEq, pickV, nilCheckV, ptrV, unV, Rt, resultsV, allV, resV, calleeV, builtinV, eqV, fieldAddrV, ldVar, stN_own, stN_ownL, Int.reduceToNat, Int.reducePow, IntKind.bits, convV, Int.reduceNeg, Int.reduceAdd, Int.reduceSub, Int.reduceLT, Int.reduceLE, extractV, Int.reduceEq, mkFuncV, stBScrActs, spBScrActs, beq_self_eq_true, tyB0ScrActs, getL_take, glBScrActs, e2, e7, e8, Dok_same, hgl, Tryz.results52]
      exact key _ (M_t4.upd' (Nat.le_refl _))
    | true =>
      rw [hf] at key
      simp (disch := first | omega | ((simp only [nxBScrActs]) <;> omega) | decide) only [↓stepPre, stepPost, ↓W_cond, ↓W_block, ↓reduceIte, Nat.reduceEqDiff, Nat.reduceLT, Nat.reduceLeDiff, ret0, stVar, isTup, Value.cells, Nat.reduceAdd, Nat.reduceMul, Nat.reduceSub, env0, binV, intV, reduceCtorEq, pickV, nilCheckV, ptrV, unV, Rt, resultsV, allV, resV, calleeV, builtinV, eqV, fieldAddrV, ldVar, stN_own, stN_ownL, Int.reduceToNat, Int.reducePow, IntKind.bits, convV, Int.reduceNeg, Int.reduceAdd, Int.reduceSub, Int.reduceLT, Int.reduceLE, extractV, Int.reduceEq, mkFuncV, stBScrActs, spBScrActs, beq_self_eq_true, tyB0ScrActs, getL_take, glBScrActs, e2, e7, e8, Dok_same, hgl, q_t4, z_t4]
      refine right38_p (ds := (decA w m)) (decA_len _ _) ?_
      simp (disch := first | omega | ((simp only [nxBScrActs]) <;> omega) | decide) only [↓stepPre, stepPost, ↓W_cond, ↓W_block, ↓reduceIte, Nat.reduceEqDiff, Nat.reduceLT, Nat.reduceLeDiff, ret0, stVar, isTup, Value.cells, Nat.reduceAdd, Nat.reduceMul, Nat.reduceSub, env0, binV, intV, reduceCtorEq, pickV, nilCheckV, ptrV, unV, Rt, resultsV, allV, resV, calleeV, builtinV, eqV, fieldAddrV, ldVar, stN_own, stN_ownL, Int.reduceToNat, Int.reducePow, IntKind.bits, convV, Int.reduceNeg, Int.reduceAdd, Int.reduceSub, Int.reduceLT, Int.reduceLE, extractV, Int.reduceEq, mkFuncV, stBScrActs, spBScrActs, beq_self_eq_true, tyB0ScrActs, getL_take, glBScrActs, e2, e7, e8, Dok_same, hgl, hp11, hb8, eq_self, q_t4, z_t4, Tryz.results52]
      refine ⟨.inr ⟨rfl, Nat.le_refl _, fun j hj hjn => by cases hj⟩, ?_⟩
      simp (disch := first | omega | ((simp only [nxBScrActs]) <;> omega) | decide) only [↓stepPre, stepPost, ↓W_cond, ↓W_block, ↓reduceIte, Nat.reduceEqDiff, Nat.reduceLT, Nat.reduceLeDiff, ret0, stVar, isTup, Value.cells, Nat.reduceAdd, Nat.reduceMul, Nat.reduceSub, env0, binV, intV, reduceCtorEq, pickV, nilCheckV, ptrV, unV, Rt, resultsV, allV, resV, calleeV, builtinV, eqV, fieldAddrV, ldVar, stN_own, stN_ownL, Int.reduceToNat, Int.reducePow, IntKind.bits, convV, Int.reduceNeg, Int.reduceAdd, Int.reduceSub, Int.reduceLT, Int.reduceLE, extractV, Int.reduceEq, mkFuncV, stBScrActs, spBScrActs, beq_self_eq_true, tyB0ScrActs, getL_take, glBScrActs, e2, e7, e8, Dok_same, hgl, Tryz.results52]
      exact key _ (M_t4.upd' (Nat.le_refl _))
  · rw [hB] at y1
    simp (disch := first | omega | ((simp only [nxBScrActs]) <;> omega) | decide) only [↓stepPre, stepPost, ↓W_cond, ↓W_block, ↓reduceIte, Nat.reduceEqDiff, Nat.reduceLT, Nat.reduceLeDiff, ret0, stVar, isTup, Value.cells, Nat.reduceAdd, Nat.reduceMul, Nat.reduceSub, env0, binV, intV, reduceCtorEq, pickV, nilCheckV, ptrV, unV, Rt, resultsV, allV, resV, calleeV, builtinV, eqV, fieldAddrV, ldVar, stN_own, stN_ownL, Int.reduceToNat, Int.reducePow, IntKind.bits, convV, Int.reduceNeg, Int.reduceAdd, Int.reduceSub, Int.reduceLT, Int.reduceLE, extractV, Int.reduceEq, mkFuncV, stBScrActs, spBScrActs, beq_self_eq_true, tyB0ScrActs, getL_take, glBScrActs, e2, e7, e8, e9, y1, qt, hg3]
    refine bytes38_ok (decA_len w m) (decA_lt w m) (by omega) fun t5 M5 => ?_
    have y1' := (M5.heap b (by omega)).trans y1
    have n5 := M5.next
    simp (disch := first | omega | ((simp only [nxBScrActs]) <;> omega) | decide) only [↓stepPre, stepPost, ↓W_cond, ↓W_block, ↓reduceIte, Nat.reduceEqDiff, Nat.reduceLT, Nat.reduceLeDiff, ret0, stVar, isTup, Value.cells, Nat.reduceAdd, Nat.reduceMul, Nat.reduceSub, env0, binV, intV, reduceCtorEq, pickV, nilCheckV, ptrV, unV, Rt, resultsV, allV, resV, calleeV, builtinV, eqV, fieldAddrV, ldVar, stN_own, stN_ownL, Int.reduceToNat, Int.reducePow, IntKind.bits, convV, Int.reduceNeg, Int.reduceAdd, Int.reduceSub, Int.reduceLT, Int.reduceLE, extractV, Int.reduceEq, mkFuncV, stBScrActs, spBScrActs, beq_self_eq_true, tyB0ScrActs, getL_take, glBScrActs, e2, e7, e8, e9, y1', neqStrV38, putAt_row, setL]
    have r_t4 : Rd base s2.next s3.next (t5.upd b (.row [v', .bool (decide (¬ w = hxT (decA w m)))])) b (((partW 32 x).tail.drop 1).drop 1).tail ((((false || !okW (partW 32 x).tail 1) || !okW ((partW 32 x).tail.drop 1) 1) || (((partW 32 x).tail.drop 1).drop 1).isEmpty) || decide (¬ w = hxT (decA w m))) := by
      rw [hB, Bool.false_or]; exact rdc t5 _ M5
    have M_t4 : Mild s (t5.upd b (.row [v', .bool (decide (¬ w = hxT (decA w m)))])) := (M_t.trans M5).upd' (by omega)
    have z_t4 := (Ab.heap_upd_ne t5 (.row [v', .bool (decide (¬ w = hxT (decA w m)))]) (show s.next ≠ b by omega)).trans ((M5.heap s.next (by omega)).trans z_t)
    have q_t4 := (Ab.heap_upd_ne t5 (.row [v', .bool (decide (¬ w = hxT (decA w m)))]) (show s.next + 1 ≠ b by omega)).trans ((M5.heap (s.next + 1) (by omega)).trans qt)
    have nt4 : s.next + 1 < (t5.upd b (.row [v', .bool (decide (¬ w = hxT (decA w m)))])).next := by show s.next + 1 < t5.next; omega
    generalize t5.upd b (.row [v', .bool (decide (¬ w = hxT (decA w m)))]) = t4 at r_t4 M_t4 z_t4 q_t4 nt4 ⊢
    have hgl := getL_act (a := .int .i64 (actK x : Int)) (b := .int .i64 (K : Int)) (c := .int .i64 (N : Int)) (ds := (decA w m)) (decA_len _ _)
    have hp11 := putAt_act (a0 := .int .i64 0) (a1 := .int .i64 0) (a2 := .int .i64 0) (a3 := .int .u8 0) (a4 := .int .u8 0) (a5 := .int .u8 0) (a6 := .int .u8 0) (a7 := .int .u8 0) (a8 := .int .u8 0) (a9 := .int .u8 0) (a10 := .int .u8 0) (x := .int .i64 (actK x : Int)) (y := .int .i64 (K : Int)) (z := .int .i64 (N : Int)) (ds := (decA w m)) (decA_len _ _)
    have hb8 : (bC (decA w m)).length = 8 := (bC_len _).trans (decA_len _ _)
    have hF : (!((((false || !okW (partW 32 x).tail 1) || !okW ((partW 32 x).tail.drop 1) 1) || (((partW 32 x).tail.drop 1).drop 1).isEmpty) || decide (¬ w = hxT (decA w m))) && (((partW 32 x).tail.drop 1).drop 1).tail.isEmpty) = actF x := by simp only [actF, actT, actU, if_pos h1, if_pos h2, if_pos h3, hw', actW, hm, Bool.or_assoc, Bool.false_or]
    have hsv : actF x = true → (⟨actK x, K, N, (decA w m)⟩ : Ac) = actA x := fun h => by
      rw [← hF] at h
      simp only [Bool.and_eq_true, Bool.not_eq_true', Bool.or_eq_false_iff, Bool.not_eq_false'] at h
      obtain ⟨⟨⟨⟨⟨wf, wK⟩, wN⟩, we⟩, wh⟩, wl⟩ := h
      have eK := one_val wK (vK wK)
      have eN := one_val wN (vN wN)
      simp only [actA, actT, actU, if_pos h1, if_pos h2, if_pos h3, hw', actW, hm]
      rw [eK, eN]
    have key : ∀ s', Mild s s' → R (.tuple #[.agg (actC (actK x) K N (decA w m)).toArray, .bool (actF x && rightA (actK x) K N (decA w m))]) s' := fun s' M => by
      have := hR s' ⟨actK x, K, N, (decA w m)⟩ M ⟨(decA_len _ _), decA_lt _ _⟩ (fun h => hsv (by unfold actB at h; simp only [Bool.and_eq_true] at h; exact h.1))
      have e : actB x = (actF x && rightA (actK x) K N (decA w m)) := by
        unfold actB
        cases hf : actF x with
        | false => rfl
        | true => rw [← hsv hf]; rfl
      rw [e] at this
      exact this
    refine W_draw (fun k => k == 7) (fun _ => false) (fun _ => false) (by kernel_rfl) (by kernel_rfl) ?_
    simp (disch := first | omega | ((simp only [nxBScrActs]) <;> omega) | decide) only [↓stepPre, stepPost, ↓W_cond, ↓W_block, ↓reduceIte, Nat.reduceEqDiff, Nat.reduceLT, Nat.reduceLeDiff, ret0, stVar, isTup, Value.cells, Nat.reduceAdd, Nat.reduceMul, Nat.reduceSub, env0, binV, intV, reduceCtorEq, pickV, nilCheckV, ptrV, unV, Rt, resultsV, allV, resV, calleeV, builtinV, eqV, fieldAddrV, ldVar, stN_own, stN_ownL, Int.reduceToNat, Int.reducePow, IntKind.bits, convV, Int.reduceNeg, Int.reduceAdd, Int.reduceSub, Int.reduceLT, Int.reduceLE, extractV, Int.reduceEq, mkFuncV, stBScrActs, spBScrActs, beq_self_eq_true, tyB0ScrActs, getL_take, glBScrActs, e2, e7, e8, q_t4, hgl]
    refine fine38_ok r_t4 ?_
    rw [hF]
    cases hf : actF x with
    | false =>
      rw [hf] at key
      simp (disch := first | omega | ((simp only [nxBScrActs]) <;> omega) | decide) only [↓stepPre, stepPost, ↓W_cond, ↓W_block, ↓reduceIte, Nat.reduceEqDiff, Nat.reduceLT, Nat.reduceLeDiff, ret0, stVar, isTup, Value.cells, Nat.reduceAdd, Nat.reduceMul, Nat.reduceSub, env0, binV, intV, reduceCtorEq, pickV, nilCheckV, ptrV, unV, Rt, resultsV, allV, resV, calleeV, builtinV, eqV, fieldAddrV, ldVar, stN_own, stN_ownL, Int.reduceToNat, Int.reducePow, IntKind.bits, convV, Int.reduceNeg, Int.reduceAdd, Int.reduceSub, Int.reduceLT, Int.reduceLE, extractV, Int.reduceEq, mkFuncV, stBScrActs, spBScrActs, beq_self_eq_true, tyB0ScrActs, getL_take, glBScrActs, e2, e7, e8, Dok_same, hgl, hp11, hb8, eq_self, q_t4, z_t4, Tryz.results52]
      refine ⟨.inr ⟨rfl, Nat.le_refl _, fun j hj hjn => by cases hj⟩, ?_⟩
      simp (disch := first | omega | ((simp only [nxBScrActs]) <;> omega) | decide) only [↓stepPre, stepPost, ↓W_cond, ↓W_block, ↓reduceIte, Nat.reduceEqDiff, Nat.reduceLT, Nat.reduceLeDiff, ret0, stVar, isTup, Value.cells, Nat.reduceAdd, Nat.reduceMul, Nat.reduceSub, env0, binV, intV, reduceCtorEq, pickV, nilCheckV, ptrV, unV, Rt, resultsV, allV, resV, calleeV, builtinV, eqV, fieldAddrV, ldVar, stN_own, stN_ownL, Int.reduceToNat, Int.reducePow, IntKind.bits, convV, Int.reduceNeg, Int.reduceAdd, Int.reduceSub, Int.reduceLT, Int.reduceLE, extractV, Int.reduceEq, mkFuncV, stBScrActs, spBScrActs, beq_self_eq_true, tyB0ScrActs, getL_take, glBScrActs, e2, e7, e8, Dok_same, hgl, Tryz.results52]
      exact key _ (M_t4.upd' (Nat.le_refl _))
    | true =>
      rw [hf] at key
      simp (disch := first | omega | ((simp only [nxBScrActs]) <;> omega) | decide) only [↓stepPre, stepPost, ↓W_cond, ↓W_block, ↓reduceIte, Nat.reduceEqDiff, Nat.reduceLT, Nat.reduceLeDiff, ret0, stVar, isTup, Value.cells, Nat.reduceAdd, Nat.reduceMul, Nat.reduceSub, env0, binV, intV, reduceCtorEq, pickV, nilCheckV, ptrV, unV, Rt, resultsV, allV, resV, calleeV, builtinV, eqV, fieldAddrV, ldVar, stN_own, stN_ownL, Int.reduceToNat, Int.reducePow, IntKind.bits, convV, Int.reduceNeg, Int.reduceAdd, Int.reduceSub, Int.reduceLT, Int.reduceLE, extractV, Int.reduceEq, mkFuncV, stBScrActs, spBScrActs, beq_self_eq_true, tyB0ScrActs, getL_take, glBScrActs, e2, e7, e8, Dok_same, hgl, q_t4, z_t4]
      refine right38_p (ds := (decA w m)) (decA_len _ _) ?_
      simp (disch := first | omega | ((simp only [nxBScrActs]) <;> omega) | decide) only [↓stepPre, stepPost, ↓W_cond, ↓W_block, ↓reduceIte, Nat.reduceEqDiff, Nat.reduceLT, Nat.reduceLeDiff, ret0, stVar, isTup, Value.cells, Nat.reduceAdd, Nat.reduceMul, Nat.reduceSub, env0, binV, intV, reduceCtorEq, pickV, nilCheckV, ptrV, unV, Rt, resultsV, allV, resV, calleeV, builtinV, eqV, fieldAddrV, ldVar, stN_own, stN_ownL, Int.reduceToNat, Int.reducePow, IntKind.bits, convV, Int.reduceNeg, Int.reduceAdd, Int.reduceSub, Int.reduceLT, Int.reduceLE, extractV, Int.reduceEq, mkFuncV, stBScrActs, spBScrActs, beq_self_eq_true, tyB0ScrActs, getL_take, glBScrActs, e2, e7, e8, Dok_same, hgl, hp11, hb8, eq_self, q_t4, z_t4, Tryz.results52]
      refine ⟨.inr ⟨rfl, Nat.le_refl _, fun j hj hjn => by cases hj⟩, ?_⟩
      simp (disch := first | omega | ((simp only [nxBScrActs]) <;> omega) | decide) only [↓stepPre, stepPost, ↓W_cond, ↓W_block, ↓reduceIte, Nat.reduceEqDiff, Nat.reduceLT, Nat.reduceLeDiff, ret0, stVar, isTup, Value.cells, Nat.reduceAdd, Nat.reduceMul, Nat.reduceSub, env0, binV, intV, reduceCtorEq, pickV, nilCheckV, ptrV, unV, Rt, resultsV, allV, resV, calleeV, builtinV, eqV, fieldAddrV, ldVar, stN_own, stN_ownL, Int.reduceToNat, Int.reducePow, IntKind.bits, convV, Int.reduceNeg, Int.reduceAdd, Int.reduceSub, Int.reduceLT, Int.reduceLE, extractV, Int.reduceEq, mkFuncV, stBScrActs, spBScrActs, beq_self_eq_true, tyB0ScrActs, getL_take, glBScrActs, e2, e7, e8, Dok_same, hgl, Tryz.results52]
      exact key _ (M_t4.upd' (Nat.le_refl _))
theorem actOf_ok {x : List UInt8} (hx : x.length ≤ 1000000) (hL : LaidOk base s) (hbn : base ≤ s.next)
    (hR : ∀ s' (a : Ac), Mild s s' → a.good → (actB x = true → a = actA x) → R (.tuple #[.agg a.c.toArray, .bool (actB x)]) s') :
    WC Tryz.prog base 52 [.string (strB x)] s R := by
  have hk8 := actK_lt x
  have hc : actK x = 0 ∨ actK x = 1 ∨ actK x = 2 ∨ actK x = 3 ∨ actK x = 4 ∨ actK x = 5 ∨ actK x = 6 ∨ actK x = 7 := by omega
  rcases hc with h | h | h | h | h | h | h | h
  · exact actOf_a hx hL hbn (by omega) (by rw [h]; decide) (by omega) hR
  · exact actOf_b hx hL hbn (by omega) (by rw [h]; decide) (by omega) hR
  · exact actOf_c hx hL hbn (by omega) (by rw [h]; decide) (by omega) hR
  · exact actOf_e hx hL hbn (by omega) (by rw [h]; decide) (by omega) hR
  · exact actOf_d hx hL hbn (by omega) (by rw [h]; decide) (by omega) hR
  · exact actOf_c hx hL hbn (by omega) (by rw [h]; decide) (by omega) hR
  · exact actOf_c hx hL hbn (by omega) (by rw [h]; decide) (by omega) hR
  · exact actOf_d hx hL hbn (by omega) (by rw [h]; decide) (by omega) hR
end Go.Proofs.YthjpfllmecpliaaGreatDoor
