/- The law FrameBack, as a run of the abstract machine. -/
import Derived.Test.YtdhmjnpaoacpfaaDoorTypes
import Derived.Test.YtdhmjnpaoacpfaaDoorRow0
import Derived.Test.YtdhmjnpaoacpfaaDoorAbC
import Derived.Test.YtdhmjnpaoacpfaaDoorBits
import Derived.Test.YtdhmjnpaoacpfaaDoorOwnOf
import Derived.Test.YtdhmjnpaoacpfaaDoorStrand
import Derived.Test.YtdhmjnpaoacpfaaDoorArgs
import Derived.Test.YtdhmjnpaoacpfaaDoorPure
import Derived.Test.YtdhmjnpaoacpfaaDoorRight
import Derived.Test.YtdhmjnpaoacpfaaDoorBoxes
import Derived.Test.YtdhmjnpaoacpfaaDoorLawIs
import Derived.Test.YtdhmjnpaoacpfaaDoorFrBack
import Derived.Test.YtdhmjnpaoacpfaaDoorFew3
set_option linter.all false
set_option maxRecDepth 20000
namespace Go.Proofs.YtdhmjnpaoacpfaaDoor
open Go Go.Ab
def stBLawBack := And.intro @List.size_toArray.{0} (And.intro @List.length_cons.{0} (And.intro @List.length_nil.{0} (And.intro @List.set_cons_zero.{0} (And.intro @List.set_cons_succ.{0} (And.intro @List.getD_cons_zero.{0} (And.intro @List.getD_cons_succ.{0} (And.intro @List.getElem?_cons_succ.{0} (And.intro @List.getElem?_cons_zero.{0} (And.intro @List.map_cons.{0,0} (And.intro @List.map_nil.{0,0} (And.intro @Option.isNone_none.{0} (And.intro @Option.isNone_some.{0} (And.intro @Option.map_some.{0,0} (And.intro @Option.map_none.{0,0} (And.intro @List.cons_append.{0} (And.intro @List.nil_append.{0} (And.intro @List.append_nil.{0} (And.intro @Array.toList_append.{0} (And.intro @List.toList_toArray.{0} (And.intro @Int.cast_ofNat_Int (And.intro @Option.isSome_some.{0} (And.intro @List.getElem?_toArray.{0} (And.intro @List.map_toArray.{0,0} (@Nat.min_eq_left))))))))))))))))))))))))
def glBLawBack := And.intro @List.drop_zero.{0} (And.intro @List.drop_succ_cons.{0} (And.intro @List.take_succ_cons.{0} (And.intro @List.take_zero.{0} (@List.take_nil.{0}))))
theorem seal_one (xs : List Nat) : (sealL xs).map one = sealL xs := by
  unfold sealL
  rw [List.map_append, bits_map_one, List.map_map]
  congr 1
  apply List.map_congr_left
  intro b _
  simp only [Function.comp, one]; split <;> rfl
theorem datT_lt (l : List UInt8) (i : Nat) : ∀ y ∈ datT l i, y < 256 := by
  intro y hy
  obtain ⟨j, _, rfl⟩ := List.mem_map.1 hy
  have d1 := dig_lt l (2 * j)
  have d2 := dig_lt l (2 * j + 1)
  split
  · omega
  · split <;> omega
theorem readV_is2 (l : List UInt8) : ∃ e' n' r y ds b, readV l = .tuple #[frV e' n' r y ds, .bool b] ∧ ds.length = 8 ∧ ∀ y ∈ ds, y < 256 := by
  unfold readV
  split
  · split
    · unfold askV; split
      · exact ⟨_, _, _, _, _, _, rfl, rfl, by decide⟩
      · exact ⟨_, _, _, _, _, _, rfl, rfl, by decide⟩
    · unfold fillV; split
      · exact ⟨_, _, _, _, _, _, rfl, datT_len _ _, datT_lt _ _⟩
      · exact ⟨_, _, _, _, _, _, rfl, rfl, by decide⟩
  · exact ⟨_, _, _, _, _, _, rfl, rfl, by decide⟩
theorem frameBack_law (W : World) (args : List Value) (hsh : W.ShapedOpen Tryd.prog) (hlaid : laidMetH Tryd.prog laidVars W) (ha : ArgsR Tryd.prog W Tryd.f5.params.toList args) : WC Tryd.prog W.heap.size 5 args (St0 W) (fun v _ => v = .bool true) := by
  obtain ⟨hg, -⟩ := of_laid hlaid
  obtain ⟨hb2, m, hgm⟩ := of_shaped hsh
  have hB : Bok W.heap.size := ⟨hb2⟩
  obtain ⟨v0, _, rfl, a1, ha⟩ := args_cons (show ArgsR Tryd.prog W [27, 34, 9] args from ha)
  obtain ⟨v1, _, rfl, a2, ha⟩ := args_cons ha
  obtain ⟨v2, _, rfl, a3, ha⟩ := args_cons ha
  obtain rfl := args_nil ha
  obtain ⟨e, n, r, l, ds, rfl, hd, hn, hy, -⟩ := frame_arg a1
  obtain ⟨xs0, hs0, hxn, -⟩ := bytes_arg2 a2
  obtain ⟨q, rfl⟩ := str_arg a3
  have hnx : (St0 W).next = W.heap.size := rfl
  clear a1 a2 a3
  generalize St0 W = s at hg hgm hnx hs0
  refine WC_open Tryd.func5 rfl ?_
  have hlen : ∀ (l : List UInt8) ts, lenB Tryd.prog (9 :: ts) [.string (strB l)] = some (.int .i64 (l.length : Int)) := fun l ts => lenStr Ty.str9 Ty.arr9
  have hgl := fun (e : Bool) (n : Nat) (r : Bool) (l : Int) (ds : List Nat) (hd : ds.length = 8) => getL_fr (a := .bool e) (b := .int .u32 (n : Int)) (c := .bool r) (d := .int .i64 l) hd
  have hgl1 := hgl e n r l ds hd
  have hz := fun (e6 : Bool) (n6 : Nat) (r6 : Bool) (y6 : Int) (d6 : List Nat) (hd6 : d6.length = 8) => putAt_12 (a0 := .bool false) (a1 := .int .u32 0) (a2 := .bool false) (a3 := .int .i64 0) (a4 := .int .u8 0) (a5 := .int .u8 0) (a6 := .int .u8 0) (a7 := .int .u8 0) (a8 := .int .u8 0) (a9 := .int .u8 0) (a10 := .int .u8 0) (a11 := .int .u8 0) (b0 := .bool e6) (b1 := .int .u32 (n6 : Int)) (b2 := .bool r6) (b3 := .int .i64 y6) hd6
  have m1 := Mild.alloc s (.row (frC e n r l ds))
  have c1 := Ab.heap_alloc_new s (.row (frC e n r l ds))
  have n1 := Ab.next_alloc s (.row (frC e n r l ds))
  by_cases hq : 100 < q.length
  · have e1 : (q.length : Int) > 100 := by omega
    have e1' : 100 < (q.length : Int) := by omega
    simp (disch := first | omega | ((simp only [Ab.next_alloc, Ab.next_upd, List.length_cons, List.length_nil, ne_eq, not_true_eq_false, not_false_eq_true]) <;> omega) | decide) only [↓stepPre, stepPost, ↓W_cond, ↓W_block, ↓reduceIte, Nat.reduceEqDiff, Nat.reduceLT, Nat.reduceLeDiff, ret0, stVar, isTup, Value.cells, Nat.le_refl, Nat.reduceAdd, Nat.reduceMul, Nat.reduceSub, env0, binV, intV, reduceCtorEq, pickV, nilCheckV, ptrV, unV, true_and, and_true, Nat.add_zero, Nat.zero_add, Rt, resultsV, allV, resV, Bool.not_true, Bool.not_false, calleeV, builtinV, eqV, fieldAddrV, ldVar, stN_own, stN_ownL, Int.fdiv_eq_ediv_of_nonneg, Int.reduceToNat, Int.reducePow, IntKind.bits, convV, ne_eq, not_false_eq_true, not_true_eq_false, Int.reduceNeg, Int.reduceAdd, Int.reduceSub, Int.reduceLT, Int.reduceLE, extractV, decide_true, decide_false, Int.reduceEq, mkFuncV, stBLawBack, beq_self_eq_true, Ty.t27, Tryd.underlying27, Ty.t5, Tryd.underlying5, Ty.t34, Tryd.underlying34, Ty.t9, Tryd.underlying9, Ty.t3, Tryd.underlying3, Ty.t4, Tryd.underlying4, Ty.t31, Tryd.underlying31, getL_take, glBLawBack, hgl1, hlen, e1, e1']
    refine live_p ((m1.heap 0 (by omega)).trans hg) ⟨m, (m1.heap 1 (by omega)).trans hgm⟩ ?_
    simp (disch := first | omega | ((simp only [Ab.next_alloc, Ab.next_upd, List.length_cons, List.length_nil, ne_eq, not_true_eq_false, not_false_eq_true]) <;> omega) | decide) only [↓stepPre, stepPost, ↓W_cond, ↓W_block, ↓reduceIte, Nat.reduceEqDiff, Nat.reduceLT, Nat.reduceLeDiff, ret0, stVar, isTup, Value.cells, Nat.le_refl, Nat.reduceAdd, Nat.reduceMul, Nat.reduceSub, env0, binV, intV, reduceCtorEq, pickV, nilCheckV, ptrV, unV, true_and, and_true, Nat.add_zero, Nat.zero_add, Rt, resultsV, allV, resV, Bool.not_true, Bool.not_false, calleeV, builtinV, eqV, fieldAddrV, ldVar, stN_own, stN_ownL, Int.fdiv_eq_ediv_of_nonneg, Int.reduceToNat, Int.reducePow, IntKind.bits, convV, ne_eq, not_false_eq_true, not_true_eq_false, Int.reduceNeg, Int.reduceAdd, Int.reduceSub, Int.reduceLT, Int.reduceLE, extractV, decide_true, decide_false, Int.reduceEq, mkFuncV, stBLawBack, beq_self_eq_true, Ty.t27, Tryd.underlying27, Ty.t5, Tryd.underlying5, Ty.t34, Tryd.underlying34, Ty.t9, Tryd.underlying9, Ty.t3, Tryd.underlying3, Ty.t4, Tryd.underlying4, Ty.t31, Tryd.underlying31, getL_take, glBLawBack, Tryd.results5]
  have e1 : ¬ (q.length : Int) > 100 := by omega
  have e1' : ¬ 100 < (q.length : Int) := by omega
  rw [W_seq]
  refine W_mid (fun e' s' => e' 1 = v1 ∧ e' 2 = .string (strB q) ∧ e' 3 = .pointer (some ⟨s.next, 0, none⟩) ∧ s' = s.alloc (.row (frC e n r l ds))) ?_ ?_
  · simp (disch := first | omega | ((simp only [Ab.next_alloc, Ab.next_upd, List.length_cons, List.length_nil, ne_eq, not_true_eq_false, not_false_eq_true]) <;> omega) | decide) only [↓stepPre, stepPost, ↓W_cond, ↓W_block, ↓reduceIte, Nat.reduceEqDiff, Nat.reduceLT, Nat.reduceLeDiff, ret0, stVar, isTup, Value.cells, Nat.le_refl, Nat.reduceAdd, Nat.reduceMul, Nat.reduceSub, env0, binV, intV, reduceCtorEq, pickV, nilCheckV, ptrV, unV, true_and, and_true, Nat.add_zero, Nat.zero_add, Rt, resultsV, allV, resV, Bool.not_true, Bool.not_false, calleeV, builtinV, eqV, fieldAddrV, ldVar, stN_own, stN_ownL, Int.fdiv_eq_ediv_of_nonneg, Int.reduceToNat, Int.reducePow, IntKind.bits, convV, ne_eq, not_false_eq_true, not_true_eq_false, Int.reduceNeg, Int.reduceAdd, Int.reduceSub, Int.reduceLT, Int.reduceLE, extractV, decide_true, decide_false, Int.reduceEq, mkFuncV, stBLawBack, beq_self_eq_true, Ty.t27, Tryd.underlying27, Ty.t5, Tryd.underlying5, Ty.t34, Tryd.underlying34, Ty.t9, Tryd.underlying9, Ty.t3, Tryd.underlying3, Ty.t4, Tryd.underlying4, Ty.t31, Tryd.underlying31, getL_take, glBLawBack, hgl1]
  generalize s.alloc (.row (frC e n r l ds)) = s1 at m1 c1 n1 ⊢
  rintro e' s' ⟨h1, h2, h3, rfl⟩
  rw [W_seq]
  refine W_mid (fun e' s1 => e' 1 = v1 ∧ e' 2 = .string (strB q) ∧ e' 3 = .pointer (some ⟨s.next, 0, none⟩) ∧ s1 = s') ?_ ?_
  · simp (disch := first | omega | ((simp only [Ab.next_alloc, Ab.next_upd, List.length_cons, List.length_nil, ne_eq, not_true_eq_false, not_false_eq_true]) <;> omega) | decide) only [↓stepPre, stepPost, ↓W_cond, ↓W_block, ↓reduceIte, Nat.reduceEqDiff, Nat.reduceLT, Nat.reduceLeDiff, ret0, stVar, isTup, Value.cells, Nat.le_refl, Nat.reduceAdd, Nat.reduceMul, Nat.reduceSub, env0, binV, intV, reduceCtorEq, pickV, nilCheckV, ptrV, unV, true_and, and_true, Nat.add_zero, Nat.zero_add, Rt, resultsV, allV, resV, Bool.not_true, Bool.not_false, calleeV, builtinV, eqV, fieldAddrV, ldVar, stN_own, stN_ownL, Int.fdiv_eq_ediv_of_nonneg, Int.reduceToNat, Int.reducePow, IntKind.bits, convV, ne_eq, not_false_eq_true, not_true_eq_false, Int.reduceNeg, Int.reduceAdd, Int.reduceSub, Int.reduceLT, Int.reduceLE, extractV, decide_true, decide_false, Int.reduceEq, mkFuncV, stBLawBack, beq_self_eq_true, Ty.t27, Tryd.underlying27, Ty.t5, Tryd.underlying5, Ty.t34, Tryd.underlying34, Ty.t9, Tryd.underlying9, Ty.t3, Tryd.underlying3, Ty.t4, Tryd.underlying4, Ty.t31, Tryd.underlying31, getL_take, glBLawBack, h2, hlen, e1, e1']
    exact ⟨h1, h3⟩
  clear h1 h2 h3 e'
  rintro e' s1 ⟨h1, h2, h3, rfl⟩
  rw [W_seq]
  refine W_mid (fun e' s2 => e' 2 = .string (strB q) ∧ Mild s1 s2) ?_ ?_
  · simp (disch := first | omega | ((simp only [Ab.next_alloc, Ab.next_upd, List.length_cons, List.length_nil, ne_eq, not_true_eq_false, not_false_eq_true]) <;> omega) | decide) only [↓stepPre, stepPost, ↓W_cond, ↓W_block, ↓reduceIte, Nat.reduceEqDiff, Nat.reduceLT, Nat.reduceLeDiff, ret0, stVar, isTup, Value.cells, Nat.le_refl, Nat.reduceAdd, Nat.reduceMul, Nat.reduceSub, env0, binV, intV, reduceCtorEq, pickV, nilCheckV, ptrV, unV, true_and, and_true, Nat.add_zero, Nat.zero_add, Rt, resultsV, allV, resV, Bool.not_true, Bool.not_false, calleeV, builtinV, eqV, fieldAddrV, ldVar, stN_own, stN_ownL, Int.fdiv_eq_ediv_of_nonneg, Int.reduceToNat, Int.reducePow, IntKind.bits, convV, ne_eq, not_false_eq_true, not_true_eq_false, Int.reduceNeg, Int.reduceAdd, Int.reduceSub, Int.reduceLT, Int.reduceLE, extractV, decide_true, decide_false, Int.reduceEq, mkFuncV, stBLawBack, beq_self_eq_true, Ty.t27, Tryd.underlying27, Ty.t5, Tryd.underlying5, Ty.t34, Tryd.underlying34, Ty.t9, Tryd.underlying9, Ty.t3, Tryd.underlying3, Ty.t4, Tryd.underlying4, Ty.t31, Tryd.underlying31, getL_take, glBLawBack, h3, c1, hgl1]
    refine rframeRight_p hd ?_
    by_cases hr : rightF e n r l ds = 0
    rotate_left
    · simp (disch := first | omega | ((simp only [Ab.next_alloc, Ab.next_upd, List.length_cons, List.length_nil, ne_eq, not_true_eq_false, not_false_eq_true]) <;> omega) | decide) only [↓stepPre, stepPost, ↓W_cond, ↓W_block, ↓reduceIte, Nat.reduceEqDiff, Nat.reduceLT, Nat.reduceLeDiff, ret0, stVar, isTup, Value.cells, Nat.le_refl, Nat.reduceAdd, Nat.reduceMul, Nat.reduceSub, env0, binV, intV, reduceCtorEq, pickV, nilCheckV, ptrV, unV, true_and, and_true, Nat.add_zero, Nat.zero_add, Rt, resultsV, allV, resV, Bool.not_true, Bool.not_false, calleeV, builtinV, eqV, fieldAddrV, ldVar, stN_own, stN_ownL, Int.fdiv_eq_ediv_of_nonneg, Int.reduceToNat, Int.reducePow, IntKind.bits, convV, ne_eq, not_false_eq_true, not_true_eq_false, Int.reduceNeg, Int.reduceAdd, Int.reduceSub, Int.reduceLT, Int.reduceLE, extractV, decide_true, decide_false, Int.reduceEq, mkFuncV, stBLawBack, beq_self_eq_true, Ty.t27, Tryd.underlying27, Ty.t5, Tryd.underlying5, Ty.t34, Tryd.underlying34, Ty.t9, Tryd.underlying9, Ty.t3, Tryd.underlying3, Ty.t4, Tryd.underlying4, Ty.t31, Tryd.underlying31, getL_take, glBLawBack, hr]
      exact ⟨h2, .refl _⟩
    simp (disch := first | omega | ((simp only [Ab.next_alloc, Ab.next_upd, List.length_cons, List.length_nil, ne_eq, not_true_eq_false, not_false_eq_true]) <;> omega) | decide) only [↓stepPre, stepPost, ↓W_cond, ↓W_block, ↓reduceIte, Nat.reduceEqDiff, Nat.reduceLT, Nat.reduceLeDiff, ret0, stVar, isTup, Value.cells, Nat.le_refl, Nat.reduceAdd, Nat.reduceMul, Nat.reduceSub, env0, binV, intV, reduceCtorEq, pickV, nilCheckV, ptrV, unV, true_and, and_true, Nat.add_zero, Nat.zero_add, Rt, resultsV, allV, resV, Bool.not_true, Bool.not_false, calleeV, builtinV, eqV, fieldAddrV, ldVar, stN_own, stN_ownL, Int.fdiv_eq_ediv_of_nonneg, Int.reduceToNat, Int.reducePow, IntKind.bits, convV, ne_eq, not_false_eq_true, not_true_eq_false, Int.reduceNeg, Int.reduceAdd, Int.reduceSub, Int.reduceLT, Int.reduceLE, extractV, decide_true, decide_false, Int.reduceEq, mkFuncV, stBLawBack, beq_self_eq_true, Ty.t27, Tryd.underlying27, Ty.t5, Tryd.underlying5, Ty.t34, Tryd.underlying34, Ty.t9, Tryd.underlying9, Ty.t3, Tryd.underlying3, Ty.t4, Tryd.underlying4, Ty.t31, Tryd.underlying31, getL_take, glBLawBack, hr, eq_self, h3, c1, hgl1]
    refine body_ok hd hy hn (by omega) ((m1.heap 0 (by omega)).trans hg) (fun h => absurd hr h) (fun _ v3 s3 m3 l3 t3 w3 => ?_)
    have n3 := m3.next
    simp (disch := first | omega | ((simp only [Ab.next_alloc, Ab.next_upd, List.length_cons, List.length_nil, ne_eq, not_true_eq_false, not_false_eq_true]) <;> omega) | decide) only [↓stepPre, stepPost, ↓W_cond, ↓W_block, ↓reduceIte, Nat.reduceEqDiff, Nat.reduceLT, Nat.reduceLeDiff, ret0, stVar, isTup, Value.cells, Nat.le_refl, Nat.reduceAdd, Nat.reduceMul, Nat.reduceSub, env0, binV, intV, reduceCtorEq, pickV, nilCheckV, ptrV, unV, true_and, and_true, Nat.add_zero, Nat.zero_add, Rt, resultsV, allV, resV, Bool.not_true, Bool.not_false, calleeV, builtinV, eqV, fieldAddrV, ldVar, stN_own, stN_ownL, Int.fdiv_eq_ediv_of_nonneg, Int.reduceToNat, Int.reducePow, IntKind.bits, convV, ne_eq, not_false_eq_true, not_true_eq_false, Int.reduceNeg, Int.reduceAdd, Int.reduceSub, Int.reduceLT, Int.reduceLE, extractV, decide_true, decide_false, Int.reduceEq, mkFuncV, stBLawBack, beq_self_eq_true, Ty.t27, Tryd.underlying27, Ty.t5, Tryd.underlying5, Ty.t34, Tryd.underlying34, Ty.t9, Tryd.underlying9, Ty.t3, Tryd.underlying3, Ty.t4, Tryd.underlying4, Ty.t31, Tryd.underlying31, getL_take, glBLawBack]
    have hbl := bodyX_len (e := e) (n := n) (r := r) (l := l) (ds := ds)
    rw [bodyX, if_pos hr] at hbl
    refine rclean_ok l3 (by omega) (by omega) fun s4 v4 m4 l4 t4 w4 => ?_
    have n4 := m4.next
    rw [seal_one] at l4
    have hbb := fun more => body_back (more := more) hd hy hr
    generalize sealL (bodyL e n r l.toNat ds) = X at l4 hbb hbl
    have hlen4 := l4.len (P := Tryd.prog) (ts := []) Ty.elem34 Ty.arr34
    rw [bL_len] at hlen4
    have M4 := (m1.trans m3).trans m4
    simp (disch := first | omega | ((simp only [Ab.next_alloc, Ab.next_upd, List.length_cons, List.length_nil, ne_eq, not_true_eq_false, not_false_eq_true]) <;> omega) | decide) only [↓stepPre, stepPost, ↓W_cond, ↓W_block, ↓reduceIte, Nat.reduceEqDiff, Nat.reduceLT, Nat.reduceLeDiff, ret0, stVar, isTup, Value.cells, Nat.le_refl, Nat.reduceAdd, Nat.reduceMul, Nat.reduceSub, env0, binV, intV, reduceCtorEq, pickV, nilCheckV, ptrV, unV, true_and, and_true, Nat.add_zero, Nat.zero_add, Rt, resultsV, allV, resV, Bool.not_true, Bool.not_false, calleeV, builtinV, eqV, fieldAddrV, ldVar, stN_own, stN_ownL, Int.fdiv_eq_ediv_of_nonneg, Int.reduceToNat, Int.reducePow, IntKind.bits, convV, ne_eq, not_false_eq_true, not_true_eq_false, Int.reduceNeg, Int.reduceAdd, Int.reduceSub, Int.reduceLT, Int.reduceLE, extractV, decide_true, decide_false, Int.reduceEq, mkFuncV, stBLawBack, beq_self_eq_true, Ty.t27, Tryd.underlying27, Ty.t5, Tryd.underlying5, Ty.t34, Tryd.underlying34, Ty.t9, Tryd.underlying9, Ty.t3, Tryd.underlying3, Ty.t4, Tryd.underlying4, Ty.t31, Tryd.underlying31, getL_take, glBLawBack, hlen4, h1]
    refine few3_ok (hs0.mild M4) hxn fun v5 l5 => ?_
    have hn5 : (xs0.take 200).length ≤ 200 := by rw [List.length_take]; omega
    generalize xs0.take 200 = ys at l5 hn5
    obtain ⟨v6, s6, e6, m6, l6, t6, w6⟩ := appS (s0 := s3) m4 l4 t4 w4 (by omega) l5 (by omega)
    have n6 := m6.next
    simp (disch := first | omega | ((simp only [Ab.next_alloc, Ab.next_upd, List.length_cons, List.length_nil, ne_eq, not_true_eq_false, not_false_eq_true]) <;> omega) | decide) only [↓stepPre, stepPost, ↓W_cond, ↓W_block, ↓reduceIte, Nat.reduceEqDiff, Nat.reduceLT, Nat.reduceLeDiff, ret0, stVar, isTup, Value.cells, Nat.le_refl, Nat.reduceAdd, Nat.reduceMul, Nat.reduceSub, env0, binV, intV, reduceCtorEq, pickV, nilCheckV, ptrV, unV, true_and, and_true, Nat.add_zero, Nat.zero_add, Rt, resultsV, allV, resV, Bool.not_true, Bool.not_false, calleeV, builtinV, eqV, fieldAddrV, ldVar, stN_own, stN_ownL, Int.fdiv_eq_ediv_of_nonneg, Int.reduceToNat, Int.reducePow, IntKind.bits, convV, ne_eq, not_false_eq_true, not_true_eq_false, Int.reduceNeg, Int.reduceAdd, Int.reduceSub, Int.reduceLT, Int.reduceLE, extractV, decide_true, decide_false, Int.reduceEq, mkFuncV, stBLawBack, beq_self_eq_true, Ty.t27, Tryd.underlying27, Ty.t5, Tryd.underlying5, Ty.t34, Tryd.underlying34, Ty.t9, Tryd.underlying9, Ty.t3, Tryd.underlying3, Ty.t4, Tryd.underlying4, Ty.t31, Tryd.underlying31, getL_take, glBLawBack, e6]
    have M6 := (m1.trans m3).trans m6
    refine parse6_ok l6 (by omega) (by rw [List.length_append]; omega) ((M6.heap 0 (by omega)).trans hg) fun s7 m7 => ?_
    have n7 := m7.next
    rw [hbb]
    simp (disch := first | omega | ((simp only [Ab.next_alloc, Ab.next_upd, List.length_cons, List.length_nil, ne_eq, not_true_eq_false, not_false_eq_true]) <;> omega) | decide) only [↓stepPre, stepPost, ↓W_cond, ↓W_block, ↓reduceIte, Nat.reduceEqDiff, Nat.reduceLT, Nat.reduceLeDiff, ret0, stVar, isTup, Value.cells, Nat.le_refl, Nat.reduceAdd, Nat.reduceMul, Nat.reduceSub, env0, binV, intV, reduceCtorEq, pickV, nilCheckV, ptrV, unV, true_and, and_true, Nat.add_zero, Nat.zero_add, Rt, resultsV, allV, resV, Bool.not_true, Bool.not_false, calleeV, builtinV, eqV, fieldAddrV, ldVar, Int.fdiv_eq_ediv_of_nonneg, Int.reduceToNat, Int.reducePow, IntKind.bits, convV, ne_eq, not_false_eq_true, not_true_eq_false, Int.reduceNeg, Int.reduceAdd, Int.reduceSub, Int.reduceLT, Int.reduceLE, extractV, decide_true, decide_false, Int.reduceEq, mkFuncV, stBLawBack, beq_self_eq_true, Ty.t27, Tryd.underlying27, Ty.t5, Tryd.underlying5, Ty.t34, Tryd.underlying34, Ty.t9, Tryd.underlying9, Ty.t3, Tryd.underlying3, Ty.t4, Tryd.underlying4, Ty.t31, Tryd.underlying31, hz _ _ _ _ _ hd, stN_ownL, Nat.zero_lt_succ, bC_len, hd, eq_self]
    have c8 := Ab.heap_alloc_new s7 (.row (frC e n r l ds))
    have k8 := Ab.next_alloc s7 (.row (frC e n r l ds))
    have m8 := ((m3.trans m6).trans m7).alloc' (o := .row (frC e n r l ds))
    have f8 := (m8.heap s.next (by omega)).trans c1
    generalize s7.alloc (.row (frC e n r l ds)) = s8 at c8 k8 m8 f8 ⊢
    simp (disch := first | omega | ((simp only [Ab.next_alloc, Ab.next_upd, List.length_cons, List.length_nil, ne_eq, not_true_eq_false, not_false_eq_true]) <;> omega) | decide) only [↓stepPre, stepPost, ↓W_cond, ↓W_block, ↓reduceIte, Nat.reduceEqDiff, Nat.reduceLT, Nat.reduceLeDiff, ret0, stVar, isTup, Value.cells, Nat.le_refl, Nat.reduceAdd, Nat.reduceMul, Nat.reduceSub, env0, binV, intV, reduceCtorEq, pickV, nilCheckV, ptrV, unV, true_and, and_true, Nat.add_zero, Nat.zero_add, Rt, resultsV, allV, resV, Bool.not_true, Bool.not_false, calleeV, builtinV, eqV, fieldAddrV, ldVar, stN_own, stN_ownL, Int.fdiv_eq_ediv_of_nonneg, Int.reduceToNat, Int.reducePow, IntKind.bits, convV, ne_eq, not_false_eq_true, not_true_eq_false, Int.reduceNeg, Int.reduceAdd, Int.reduceSub, Int.reduceLT, Int.reduceLE, extractV, decide_true, decide_false, Int.reduceEq, mkFuncV, stBLawBack, beq_self_eq_true, Ty.t27, Tryd.underlying27, Ty.t5, Tryd.underlying5, Ty.t34, Tryd.underlying34, Ty.t9, Tryd.underlying9, Ty.t3, Tryd.underlying3, Ty.t4, Tryd.underlying4, Ty.t31, Tryd.underlying31, getL_take, glBLawBack, h3, f8, hgl1]
    have M8 := m1.trans m8
    refine ftext_ok hd hn hy (by omega) fun s9 m9 => ?_
    have n9 := m9.next
    have M9 := M8.trans m9
    have hfl : (frT e n r l ds).length ≤ 1000 := by
      have hi := idT_len e n
      unfold frT
      rw [if_pos hr]
      split
      · simp only [List.length_append, List.length_cons, List.length_nil]; omega
      · simp only [List.length_append, byT_len, List.length_take, List.length_cons, List.length_nil]; omega
    simp (disch := first | omega | ((simp only [Ab.next_alloc, Ab.next_upd, List.length_cons, List.length_nil, ne_eq, not_true_eq_false, not_false_eq_true]) <;> omega) | decide) only [↓stepPre, stepPost, ↓W_cond, ↓W_block, ↓reduceIte, Nat.reduceEqDiff, Nat.reduceLT, Nat.reduceLeDiff, ret0, stVar, isTup, Value.cells, Nat.le_refl, Nat.reduceAdd, Nat.reduceMul, Nat.reduceSub, env0, binV, intV, reduceCtorEq, pickV, nilCheckV, ptrV, unV, true_and, and_true, Nat.add_zero, Nat.zero_add, Rt, resultsV, allV, resV, Bool.not_true, Bool.not_false, calleeV, builtinV, eqV, fieldAddrV, ldVar, stN_own, stN_ownL, Int.fdiv_eq_ediv_of_nonneg, Int.reduceToNat, Int.reducePow, IntKind.bits, convV, ne_eq, not_false_eq_true, not_true_eq_false, Int.reduceNeg, Int.reduceAdd, Int.reduceSub, Int.reduceLT, Int.reduceLE, extractV, decide_true, decide_false, Int.reduceEq, mkFuncV, stBLawBack, beq_self_eq_true, Ty.t27, Tryd.underlying27, Ty.t5, Tryd.underlying5, Ty.t34, Tryd.underlying34, Ty.t9, Tryd.underlying9, Ty.t3, Tryd.underlying3, Ty.t4, Tryd.underlying4, Ty.t31, Tryd.underlying31, getL_take, glBLawBack]
    refine fread_ok (m := m) hfl ((M9.heap 1 (by omega)).trans hgm) hb2 (by omega) fun s10 m10 => ?_
    have n10 := m10.next
    rw [read_text hd hy hr]
    have m11 := m9.trans m10
    have f11 := (m11.heap s.next (by omega)).trans f8
    have g11 := (m11.heap s7.next (by omega)).trans c8
    have M11 := m8.trans m11
    have hfit := fits_fr (e := e) (n := n) (r := r) (l := l) hd
    have heqc : eqCells (frC e n r l ds) (frC e n r l ds) = true := by rw [eqCells_fr hd hd]; simp
    simp (disch := first | omega | ((simp only [Ab.next_alloc, Ab.next_upd, List.length_cons, List.length_nil, ne_eq, not_true_eq_false, not_false_eq_true]) <;> omega) | decide) only [↓stepPre, stepPost, ↓W_cond, ↓W_block, ↓reduceIte, Nat.reduceEqDiff, Nat.reduceLT, Nat.reduceLeDiff, ret0, stVar, isTup, Value.cells, Nat.le_refl, Nat.reduceAdd, Nat.reduceMul, Nat.reduceSub, env0, binV, intV, reduceCtorEq, pickV, nilCheckV, ptrV, unV, true_and, and_true, Nat.add_zero, Nat.zero_add, Rt, resultsV, allV, resV, Bool.not_true, Bool.not_false, calleeV, builtinV, eqV, fieldAddrV, ldVar, stN_own, stN_ownL, Int.fdiv_eq_ediv_of_nonneg, Int.reduceToNat, Int.reducePow, IntKind.bits, convV, ne_eq, not_false_eq_true, not_true_eq_false, Int.reduceNeg, Int.reduceAdd, Int.reduceSub, Int.reduceLT, Int.reduceLE, extractV, decide_true, decide_false, Int.reduceEq, mkFuncV, stBLawBack, beq_self_eq_true, Ty.t27, Tryd.underlying27, Ty.t5, Tryd.underlying5, Ty.t34, Tryd.underlying34, Ty.t9, Tryd.underlying9, Ty.t3, Tryd.underlying3, Ty.t4, Tryd.underlying4, Ty.t31, Tryd.underlying31, getL_take, glBLawBack, hz _ _ _ _ _ hd, stN_ownL, Nat.zero_lt_succ, bC_len, hd, h3, f11, g11, hgl1, hfit, heqc, if_true, eq_self]
    exact ⟨h2, M11.alloc'⟩
  clear h1 h2 h3 e'
  rintro e' s2 ⟨h2, m2⟩
  have n2 := m2.next
  have M2 := m1.trans m2
  simp (disch := first | omega | ((simp only [Ab.next_alloc, Ab.next_upd, List.length_cons, List.length_nil, ne_eq, not_true_eq_false, not_false_eq_true]) <;> omega) | decide) only [↓stepPre, stepPost, ↓W_cond, ↓W_block, ↓reduceIte, Nat.reduceEqDiff, Nat.reduceLT, Nat.reduceLeDiff, ret0, stVar, isTup, Value.cells, Nat.le_refl, Nat.reduceAdd, Nat.reduceMul, Nat.reduceSub, env0, binV, intV, reduceCtorEq, pickV, nilCheckV, ptrV, unV, true_and, and_true, Nat.add_zero, Nat.zero_add, Rt, resultsV, allV, resV, Bool.not_true, Bool.not_false, calleeV, builtinV, eqV, fieldAddrV, ldVar, stN_own, stN_ownL, Int.fdiv_eq_ediv_of_nonneg, Int.reduceToNat, Int.reducePow, IntKind.bits, convV, ne_eq, not_false_eq_true, not_true_eq_false, Int.reduceNeg, Int.reduceAdd, Int.reduceSub, Int.reduceLT, Int.reduceLE, extractV, decide_true, decide_false, Int.reduceEq, mkFuncV, stBLawBack, beq_self_eq_true, Ty.t27, Tryd.underlying27, Ty.t5, Tryd.underlying5, Ty.t34, Tryd.underlying34, Ty.t9, Tryd.underlying9, Ty.t3, Tryd.underlying3, Ty.t4, Tryd.underlying4, Ty.t31, Tryd.underlying31, getL_take, glBLawBack, h2]
  refine fread_ok (m := m) (by omega) ((M2.heap 1 (by omega)).trans hgm) hb2 (by omega) fun s3 m3 => ?_
  have n3 := m3.next
  obtain ⟨e6, n6, r6, y6, d6, b6, eq6, hd6, hy6⟩ := readV_is2 q
  have hback := fun (h : b6 = true) => text_read (e := e6) (n := n6) (r := r6) (l := y6) hd6 (by rw [eq6, h] : readV q = _)
  rw [eq6]
  simp (disch := first | omega | ((simp only [Ab.next_alloc, Ab.next_upd, List.length_cons, List.length_nil, ne_eq, not_true_eq_false, not_false_eq_true]) <;> omega) | decide) only [↓stepPre, stepPost, ↓W_cond, ↓W_block, ↓reduceIte, Nat.reduceEqDiff, Nat.reduceLT, Nat.reduceLeDiff, ret0, stVar, isTup, Value.cells, Nat.le_refl, Nat.reduceAdd, Nat.reduceMul, Nat.reduceSub, env0, binV, intV, reduceCtorEq, pickV, nilCheckV, ptrV, unV, true_and, and_true, Nat.add_zero, Nat.zero_add, Rt, resultsV, allV, resV, Bool.not_true, Bool.not_false, calleeV, builtinV, eqV, fieldAddrV, ldVar, Int.fdiv_eq_ediv_of_nonneg, Int.reduceToNat, Int.reducePow, IntKind.bits, convV, ne_eq, not_false_eq_true, not_true_eq_false, Int.reduceNeg, Int.reduceAdd, Int.reduceSub, Int.reduceLT, Int.reduceLE, extractV, decide_true, decide_false, Int.reduceEq, mkFuncV, stBLawBack, beq_self_eq_true, Ty.t27, Tryd.underlying27, Ty.t5, Tryd.underlying5, Ty.t34, Tryd.underlying34, Ty.t9, Tryd.underlying9, Ty.t3, Tryd.underlying3, Ty.t4, Tryd.underlying4, Ty.t31, Tryd.underlying31, hz _ _ _ _ _ hd6, stN_ownL, Nat.zero_lt_succ, bC_len, hd6, eq_self]
  have c4 := Ab.heap_alloc_new s3 (.row (frC e6 n6 r6 y6 d6))
  have m4 := (M2.trans m3).alloc' (o := .row (frC e6 n6 r6 y6 d6))
  have n4 := m4.next
  have k4 := Ab.next_alloc s3 (.row (frC e6 n6 r6 y6 d6))
  generalize s3.alloc (.row (frC e6 n6 r6 y6 d6)) = s4 at c4 m4 n4 k4 ⊢
  refine live_p ((m4.heap 0 (by omega)).trans hg) ⟨m, (m4.heap 1 (by omega)).trans hgm⟩ ?_
  cases b6 with
  | false =>
    simp (disch := first | omega | ((simp only [Ab.next_alloc, Ab.next_upd, List.length_cons, List.length_nil, ne_eq, not_true_eq_false, not_false_eq_true]) <;> omega) | decide) only [↓stepPre, stepPost, ↓W_cond, ↓W_block, ↓reduceIte, Nat.reduceEqDiff, Nat.reduceLT, Nat.reduceLeDiff, ret0, stVar, isTup, Value.cells, Nat.le_refl, Nat.reduceAdd, Nat.reduceMul, Nat.reduceSub, env0, binV, intV, reduceCtorEq, pickV, nilCheckV, ptrV, unV, true_and, and_true, Nat.add_zero, Nat.zero_add, Rt, resultsV, allV, resV, Bool.not_true, Bool.not_false, calleeV, builtinV, eqV, fieldAddrV, ldVar, stN_own, stN_ownL, Int.fdiv_eq_ediv_of_nonneg, Int.reduceToNat, Int.reducePow, IntKind.bits, convV, ne_eq, not_false_eq_true, not_true_eq_false, Int.reduceNeg, Int.reduceAdd, Int.reduceSub, Int.reduceLT, Int.reduceLE, extractV, decide_true, decide_false, Int.reduceEq, mkFuncV, stBLawBack, beq_self_eq_true, Ty.t27, Tryd.underlying27, Ty.t5, Tryd.underlying5, Ty.t34, Tryd.underlying34, Ty.t9, Tryd.underlying9, Ty.t3, Tryd.underlying3, Ty.t4, Tryd.underlying4, Ty.t31, Tryd.underlying31, getL_take, glBLawBack, h2, c4, Tryd.results5]
  | true =>
    obtain ⟨hR, hT⟩ := hback rfl
    simp (disch := first | omega | ((simp only [Ab.next_alloc, Ab.next_upd, List.length_cons, List.length_nil, ne_eq, not_true_eq_false, not_false_eq_true]) <;> omega) | decide) only [↓stepPre, stepPost, ↓W_cond, ↓W_block, ↓reduceIte, Nat.reduceEqDiff, Nat.reduceLT, Nat.reduceLeDiff, ret0, stVar, isTup, Value.cells, Nat.le_refl, Nat.reduceAdd, Nat.reduceMul, Nat.reduceSub, env0, binV, intV, reduceCtorEq, pickV, nilCheckV, ptrV, unV, true_and, and_true, Nat.add_zero, Nat.zero_add, Rt, resultsV, allV, resV, Bool.not_true, Bool.not_false, calleeV, builtinV, eqV, fieldAddrV, ldVar, stN_own, stN_ownL, Int.fdiv_eq_ediv_of_nonneg, Int.reduceToNat, Int.reducePow, IntKind.bits, convV, ne_eq, not_false_eq_true, not_true_eq_false, Int.reduceNeg, Int.reduceAdd, Int.reduceSub, Int.reduceLT, Int.reduceLE, extractV, decide_true, decide_false, Int.reduceEq, mkFuncV, stBLawBack, beq_self_eq_true, Ty.t27, Tryd.underlying27, Ty.t5, Tryd.underlying5, Ty.t34, Tryd.underlying34, Ty.t9, Tryd.underlying9, Ty.t3, Tryd.underlying3, Ty.t4, Tryd.underlying4, Ty.t31, Tryd.underlying31, getL_take, glBLawBack, h2, c4, hgl _ _ _ _ _ hd6]
    refine frameRight_p hd6 ?_
    rw [hR]
    simp (disch := first | omega | ((simp only [Ab.next_alloc, Ab.next_upd, List.length_cons, List.length_nil, ne_eq, not_true_eq_false, not_false_eq_true]) <;> omega) | decide) only [↓stepPre, stepPost, ↓W_cond, ↓W_block, ↓reduceIte, Nat.reduceEqDiff, Nat.reduceLT, Nat.reduceLeDiff, ret0, stVar, isTup, Value.cells, Nat.le_refl, Nat.reduceAdd, Nat.reduceMul, Nat.reduceSub, env0, binV, intV, reduceCtorEq, pickV, nilCheckV, ptrV, unV, true_and, and_true, Nat.add_zero, Nat.zero_add, Rt, resultsV, allV, resV, Bool.not_true, Bool.not_false, calleeV, builtinV, eqV, fieldAddrV, ldVar, stN_own, stN_ownL, Int.fdiv_eq_ediv_of_nonneg, Int.reduceToNat, Int.reducePow, IntKind.bits, convV, ne_eq, not_false_eq_true, not_true_eq_false, Int.reduceNeg, Int.reduceAdd, Int.reduceSub, Int.reduceLT, Int.reduceLE, extractV, decide_true, decide_false, Int.reduceEq, mkFuncV, stBLawBack, beq_self_eq_true, Ty.t27, Tryd.underlying27, Ty.t5, Tryd.underlying5, Ty.t34, Tryd.underlying34, Ty.t9, Tryd.underlying9, Ty.t3, Tryd.underlying3, Ty.t4, Tryd.underlying4, Ty.t31, Tryd.underlying31, getL_take, glBLawBack, h2, c4, eq_self, hgl _ _ _ _ _ hd6]
    have hn6 : n6 < 2 ^ 32 := by
      have hi := (rightF_zero hR).1
      simp only [idOk, decide_eq_true_eq] at hi
      split at hi <;> omega
    refine ftext_ok hd6 hn6 hy6 (by omega) fun s5 m5 => ?_
    rw [hT]
    have heqs := eqlStrV (l := q) (m := q)
    rw [decide_eq_true (rfl : q = q)] at heqs
    simp (disch := first | omega | ((simp only [Ab.next_alloc, Ab.next_upd, List.length_cons, List.length_nil, ne_eq, not_true_eq_false, not_false_eq_true]) <;> omega) | decide) only [↓stepPre, stepPost, ↓W_cond, ↓W_block, ↓reduceIte, Nat.reduceEqDiff, Nat.reduceLT, Nat.reduceLeDiff, ret0, stVar, isTup, Value.cells, Nat.le_refl, Nat.reduceAdd, Nat.reduceMul, Nat.reduceSub, env0, binV, intV, reduceCtorEq, pickV, nilCheckV, ptrV, unV, true_and, and_true, Nat.add_zero, Nat.zero_add, Rt, resultsV, allV, resV, Bool.not_true, Bool.not_false, calleeV, builtinV, eqV, fieldAddrV, ldVar, stN_own, stN_ownL, Int.fdiv_eq_ediv_of_nonneg, Int.reduceToNat, Int.reducePow, IntKind.bits, convV, ne_eq, not_false_eq_true, not_true_eq_false, Int.reduceNeg, Int.reduceAdd, Int.reduceSub, Int.reduceLT, Int.reduceLE, extractV, decide_true, decide_false, Int.reduceEq, mkFuncV, stBLawBack, beq_self_eq_true, Ty.t27, Tryd.underlying27, Ty.t5, Tryd.underlying5, Ty.t34, Tryd.underlying34, Ty.t9, Tryd.underlying9, Ty.t3, Tryd.underlying3, Ty.t4, Tryd.underlying4, Ty.t31, Tryd.underlying31, getL_take, glBLawBack, h2, heqs, Tryd.results5]
end Go.Proofs.YtdhmjnpaoacpfaaDoor
