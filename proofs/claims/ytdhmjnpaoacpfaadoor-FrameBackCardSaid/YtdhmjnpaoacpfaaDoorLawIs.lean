/- The law FrameIs, as a run of the abstract machine. -/
import Derived.Test.YtdhmjnpaoacpfaaDoorTypes
import Derived.Test.YtdhmjnpaoacpfaaDoorRow0
import Derived.Test.YtdhmjnpaoacpfaaDoorAbC
import Derived.Test.YtdhmjnpaoacpfaaDoorBits
import Derived.Test.YtdhmjnpaoacpfaaDoorOwnOf
import Derived.Test.YtdhmjnpaoacpfaaDoorStrand
import Derived.Test.YtdhmjnpaoacpfaaDoorPure
import Derived.Test.YtdhmjnpaoacpfaaDoorRight
import Derived.Test.YtdhmjnpaoacpfaaDoorBoxes
import Derived.Test.YtdhmjnpaoacpfaaDoorFrReadO
import Derived.Test.YtdhmjnpaoacpfaaDoorBody
import Derived.Test.YtdhmjnpaoacpfaaDoorBodyRef
import Derived.Test.YtdhmjnpaoacpfaaDoorLive
set_option linter.all false
set_option maxRecDepth 20000
namespace Go.Proofs.YtdhmjnpaoacpfaaDoor
open Go Go.Ab
def stBLawIs := And.intro @List.size_toArray.{0} (And.intro @List.length_cons.{0} (And.intro @List.length_nil.{0} (And.intro @List.set_cons_zero.{0} (And.intro @List.set_cons_succ.{0} (And.intro @List.getD_cons_zero.{0} (And.intro @List.getD_cons_succ.{0} (And.intro @List.getElem?_cons_succ.{0} (And.intro @List.getElem?_cons_zero.{0} (And.intro @List.map_cons.{0,0} (And.intro @List.map_nil.{0,0} (And.intro @Option.isNone_none.{0} (And.intro @Option.isNone_some.{0} (And.intro @Option.map_some.{0,0} (And.intro @Option.map_none.{0,0} (And.intro @List.cons_append.{0} (And.intro @List.nil_append.{0} (And.intro @List.append_nil.{0} (And.intro @Array.toList_append.{0} (And.intro @List.toList_toArray.{0} (And.intro @Int.cast_ofNat_Int (And.intro @Option.isSome_some.{0} (And.intro @List.getElem?_toArray.{0} (And.intro @List.map_toArray.{0,0} (@Nat.min_eq_left))))))))))))))))))))))))
def glBLawIs := And.intro @List.drop_zero.{0} (And.intro @List.drop_succ_cons.{0} (And.intro @List.take_succ_cons.{0} (And.intro @List.take_zero.{0} (@List.take_nil.{0}))))
theorem str_arg {W : World} {v : Value} (h : ArgR Tryd.prog W 9 v) : ∃ l : List UInt8, v = .string (strB l) := by
  obtain ⟨r1, -⟩ := arg_one h (by kernel_rfl : flat Tryd.prog 16 9 = some [.str]) (by kernel_rfl)
  obtain ⟨b, rfl, -⟩ := (by simpa only [okCell] using r1 : ∃ s, v = .string s ∧ _)
  obtain ⟨l, rfl⟩ := strB_of b
  exact ⟨l, rfl⟩
theorem readV_is (l : List UInt8) : ∃ e' n' r y ds b, readV l = .tuple #[frV e' n' r y ds, .bool b] ∧ ds.length = 8 := by
  unfold readV
  split
  · split
    · exact askV_is _ _ _
    · exact fillV_is _ _ _
  · exact ⟨_, _, _, _, _, _, rfl, rfl⟩
def bodyX (e : Bool) (n : Nat) (r : Bool) (l : Int) (ds : List Nat) : List Nat := if rightF e n r l ds = 0 then sealL (bodyL e n r l.toNat ds) else []
theorem bodyX_len {e : Bool} {n : Nat} {r : Bool} {l : Int} {ds : List Nat} : (bodyX e n r l ds).length ≤ 200 := by
  unfold bodyX
  split
  · rename_i h0
    obtain ⟨hi, hl0, hl8⟩ := rightF_zero h0
    simp only [sealL_len, bodyL_len]
    cases e <;> cases r <;> simp <;> omega
  · simp
theorem bodyO_ok {base : Nat} [Bok base] {s : St} {R : Value → St → Prop} {e : Bool} {n : Nat} {r : Bool} {l : Int} {ds : List Nat} (hd : ds.length = 8) (hy : ∀ y ∈ ds, y < 256) (hn : n < 2 ^ 32) (hbn : base ≤ s.next) (hg : s.heap 0 = .row divC)
    (hR : ∀ v' s', Mild s s' → Sl base s' 1 v' (bL (bodyX e n r l ds)) → R v' s') :
    WC Tryd.prog base 14 [frV e n r l ds] s R := by
  refine body_ok hd hy hn hbn hg (fun h s' m => hR _ _ m ?_) (fun h v' s' m hs _ _ => hR _ _ m ?_)
  · rw [bodyX, if_neg h]; exact .nil
  · rw [bodyX, if_pos h]; exact hs
theorem bodyR_ok {base : Nat} [Bok base] {s : St} {R : Value → St → Prop} {e : Bool} {n : Nat} {r : Bool} {l : Int} {ds : List Nat} (hd : ds.length = 8) (hy : ∀ y ∈ ds, y < 256) (hn : n < 2 ^ 32) (hbn : base ≤ s.next)
    (hR : ∀ v' s', Mild s s' → Sl base s' 1 v' (bL (bodyX e n r l ds)) → R v' s') :
    WC Tryd.prog base 15 [frV e n r l ds] s R := by
  refine rbody_ok hd hy hn hbn (fun h s' m => hR _ _ m ?_) (fun h v' s' m hs _ _ => hR _ _ m ?_)
  · rw [bodyX, if_neg h]; exact .nil
  · rw [bodyX, if_pos h]; exact hs
theorem frameIs_law (W : World) (args : List Value) (hsh : W.ShapedOpen Tryd.prog) (hlaid : laidMetH Tryd.prog laidVars W) (ha : ArgsR Tryd.prog W Tryd.f3.params.toList args) : WC Tryd.prog W.heap.size 3 args (St0 W) (fun v _ => v = .bool true) := by
  obtain ⟨hg, -⟩ := of_laid hlaid
  obtain ⟨hb2, m, hgm⟩ := of_shaped hsh
  have hB : Bok W.heap.size := ⟨hb2⟩
  obtain ⟨v0, _, rfl, a1, ha⟩ := args_cons (show ArgsR Tryd.prog W [27, 9] args from ha)
  obtain ⟨v1, _, rfl, a2, ha⟩ := args_cons ha
  obtain rfl := args_nil ha
  obtain ⟨e, n, r, l, ds, rfl, hd, hn, hy, -⟩ := frame_arg a1
  obtain ⟨q, rfl⟩ := str_arg a2
  have hnx : (St0 W).next = W.heap.size := rfl
  clear a1 a2
  generalize St0 W = s at hg hgm hnx
  refine WC_open Tryd.func3 rfl ?_
  have hlen : ∀ (l : List UInt8) ts, lenB Tryd.prog (9 :: ts) [.string (strB l)] = some (.int .i64 (l.length : Int)) := fun l ts => lenStr Ty.str9 Ty.arr9
  have hgl := getL_fr (a := .bool e) (b := .int .u32 (n : Int)) (c := .bool r) (d := .int .i64 l) hd
  have m1 := Mild.alloc s (.row (frC e n r l ds))
  have c1 := Ab.heap_alloc_new s (.row (frC e n r l ds))
  have n1 := Ab.next_alloc s (.row (frC e n r l ds))
  by_cases hq : 100 < q.length
  · have e1 : (q.length : Int) > 100 := by omega
    have e1' : 100 < (q.length : Int) := by omega
    simp (disch := first | omega | ((simp only [Ab.next_alloc, Ab.next_upd, List.length_cons, List.length_nil, ne_eq, not_true_eq_false, not_false_eq_true]) <;> omega) | decide) only [↓stepPre, stepPost, ↓W_cond, ↓W_block, ↓reduceIte, Nat.reduceEqDiff, Nat.reduceLT, Nat.reduceLeDiff, ret0, stVar, isTup, Value.cells, Nat.le_refl, Nat.reduceAdd, Nat.reduceMul, Nat.reduceSub, env0, binV, intV, reduceCtorEq, pickV, nilCheckV, ptrV, unV, true_and, and_true, Nat.add_zero, Nat.zero_add, Rt, resultsV, allV, resV, Bool.not_true, Bool.not_false, calleeV, builtinV, eqV, fieldAddrV, ldVar, stN_own, stN_ownL, Int.fdiv_eq_ediv_of_nonneg, Int.reduceToNat, Int.reducePow, IntKind.bits, convV, ne_eq, not_false_eq_true, not_true_eq_false, Int.reduceNeg, Int.reduceAdd, Int.reduceSub, Int.reduceLT, Int.reduceLE, extractV, decide_true, decide_false, Int.reduceEq, mkFuncV, stBLawIs, beq_self_eq_true, Ty.t27, Tryd.underlying27, Ty.t5, Tryd.underlying5, Ty.t34, Tryd.underlying34, Ty.t9, Tryd.underlying9, Ty.t3, Tryd.underlying3, Ty.t4, Tryd.underlying4, Ty.t31, Tryd.underlying31, getL_take, glBLawIs, hgl, hlen, e1, e1']
    refine live_p ((m1.heap 0 (by omega)).trans hg) ⟨m, (m1.heap 1 (by omega)).trans hgm⟩ ?_
    simp (disch := first | omega | ((simp only [Ab.next_alloc, Ab.next_upd, List.length_cons, List.length_nil, ne_eq, not_true_eq_false, not_false_eq_true]) <;> omega) | decide) only [↓stepPre, stepPost, ↓W_cond, ↓W_block, ↓reduceIte, Nat.reduceEqDiff, Nat.reduceLT, Nat.reduceLeDiff, ret0, stVar, isTup, Value.cells, Nat.le_refl, Nat.reduceAdd, Nat.reduceMul, Nat.reduceSub, env0, binV, intV, reduceCtorEq, pickV, nilCheckV, ptrV, unV, true_and, and_true, Nat.add_zero, Nat.zero_add, Rt, resultsV, allV, resV, Bool.not_true, Bool.not_false, calleeV, builtinV, eqV, fieldAddrV, ldVar, stN_own, stN_ownL, Int.fdiv_eq_ediv_of_nonneg, Int.reduceToNat, Int.reducePow, IntKind.bits, convV, ne_eq, not_false_eq_true, not_true_eq_false, Int.reduceNeg, Int.reduceAdd, Int.reduceSub, Int.reduceLT, Int.reduceLE, extractV, decide_true, decide_false, Int.reduceEq, mkFuncV, stBLawIs, beq_self_eq_true, Ty.t27, Tryd.underlying27, Ty.t5, Tryd.underlying5, Ty.t34, Tryd.underlying34, Ty.t9, Tryd.underlying9, Ty.t3, Tryd.underlying3, Ty.t4, Tryd.underlying4, Ty.t31, Tryd.underlying31, getL_take, glBLawIs, Tryd.results3]
  have e1 : ¬ (q.length : Int) > 100 := by omega
  have e1' : ¬ 100 < (q.length : Int) := by omega
  obtain ⟨e6, n6, r6, y6, d6, b6, eq6, hd6⟩ := readV_is q
  have hz := putAt_12 (a0 := .bool false) (a1 := .int .u32 0) (a2 := .bool false) (a3 := .int .i64 0) (a4 := .int .u8 0) (a5 := .int .u8 0) (a6 := .int .u8 0) (a7 := .int .u8 0) (a8 := .int .u8 0) (a9 := .int .u8 0) (a10 := .int .u8 0) (a11 := .int .u8 0) (b0 := .bool e6) (b1 := .int .u32 (n6 : Int)) (b2 := .bool r6) (b3 := .int .i64 y6) hd6
  have hg6 := getL_fr (a := .bool e6) (b := .int .u32 (n6 : Int)) (c := .bool r6) (d := .int .i64 y6) hd6
  simp (disch := first | omega | ((simp only [Ab.next_alloc, Ab.next_upd, List.length_cons, List.length_nil, ne_eq, not_true_eq_false, not_false_eq_true]) <;> omega) | decide) only [↓stepPre, stepPost, ↓W_cond, ↓W_block, ↓reduceIte, Nat.reduceEqDiff, Nat.reduceLT, Nat.reduceLeDiff, ret0, stVar, isTup, Value.cells, Nat.le_refl, Nat.reduceAdd, Nat.reduceMul, Nat.reduceSub, env0, binV, intV, reduceCtorEq, pickV, nilCheckV, ptrV, unV, true_and, and_true, Nat.add_zero, Nat.zero_add, Rt, resultsV, allV, resV, Bool.not_true, Bool.not_false, calleeV, builtinV, eqV, fieldAddrV, ldVar, stN_own, stN_ownL, Int.fdiv_eq_ediv_of_nonneg, Int.reduceToNat, Int.reducePow, IntKind.bits, convV, ne_eq, not_false_eq_true, not_true_eq_false, Int.reduceNeg, Int.reduceAdd, Int.reduceSub, Int.reduceLT, Int.reduceLE, extractV, decide_true, decide_false, Int.reduceEq, mkFuncV, stBLawIs, beq_self_eq_true, Ty.t27, Tryd.underlying27, Ty.t5, Tryd.underlying5, Ty.t34, Tryd.underlying34, Ty.t9, Tryd.underlying9, Ty.t3, Tryd.underlying3, Ty.t4, Tryd.underlying4, Ty.t31, Tryd.underlying31, getL_take, glBLawIs, hgl, hlen, e1, e1']
  generalize s.alloc (.row (frC e n r l ds)) = s1 at m1 c1 n1 ⊢
  refine fread_ok (m := m) (by omega) ((m1.heap 1 (by omega)).trans hgm) hb2 (by omega) fun s2 m2 => ?_
  have k2 := m2.next
  rw [eq6]
  simp (disch := first | omega | ((simp only [Ab.next_alloc, Ab.next_upd, List.length_cons, List.length_nil, ne_eq, not_true_eq_false, not_false_eq_true]) <;> omega) | decide) only [↓stepPre, stepPost, ↓W_cond, ↓W_block, ↓reduceIte, Nat.reduceEqDiff, Nat.reduceLT, Nat.reduceLeDiff, ret0, stVar, isTup, Value.cells, Nat.le_refl, Nat.reduceAdd, Nat.reduceMul, Nat.reduceSub, env0, binV, intV, reduceCtorEq, pickV, nilCheckV, ptrV, unV, true_and, and_true, Nat.add_zero, Nat.zero_add, Rt, resultsV, allV, resV, Bool.not_true, Bool.not_false, calleeV, builtinV, eqV, fieldAddrV, ldVar, Int.fdiv_eq_ediv_of_nonneg, Int.reduceToNat, Int.reducePow, IntKind.bits, convV, ne_eq, not_false_eq_true, not_true_eq_false, Int.reduceNeg, Int.reduceAdd, Int.reduceSub, Int.reduceLT, Int.reduceLE, extractV, decide_true, decide_false, Int.reduceEq, mkFuncV, stBLawIs, beq_self_eq_true, Ty.t27, Tryd.underlying27, Ty.t5, Tryd.underlying5, Ty.t34, Tryd.underlying34, Ty.t9, Tryd.underlying9, Ty.t3, Tryd.underlying3, Ty.t4, Tryd.underlying4, Ty.t31, Tryd.underlying31, hz, stN_ownL, Nat.zero_lt_succ, bC_len, hd6, eq_self]
  have c3 := Ab.heap_alloc_new s2 (.row (frC e6 n6 r6 y6 d6))
  have m3 := m2.alloc' (o := .row (frC e6 n6 r6 y6 d6))
  have k3 := Ab.next_alloc s2 (.row (frC e6 n6 r6 y6 d6))
  generalize s2.alloc (.row (frC e6 n6 r6 y6 d6)) = s3 at c3 m3 k3 ⊢
  refine rread6_ok (by omega) (by omega) fun s4 m4 => ?_
  have k4 := m4.next
  have c4 := (m4.heap s2.next (by omega)).trans c3
  rw [eq6]
  simp (disch := first | omega | ((simp only [Ab.next_alloc, Ab.next_upd, List.length_cons, List.length_nil, ne_eq, not_true_eq_false, not_false_eq_true]) <;> omega) | decide) only [↓stepPre, stepPost, ↓W_cond, ↓W_block, ↓reduceIte, Nat.reduceEqDiff, Nat.reduceLT, Nat.reduceLeDiff, ret0, stVar, isTup, Value.cells, Nat.le_refl, Nat.reduceAdd, Nat.reduceMul, Nat.reduceSub, env0, binV, intV, reduceCtorEq, pickV, nilCheckV, ptrV, unV, true_and, and_true, Nat.add_zero, Nat.zero_add, Rt, resultsV, allV, resV, Bool.not_true, Bool.not_false, calleeV, builtinV, eqV, fieldAddrV, ldVar, Int.fdiv_eq_ediv_of_nonneg, Int.reduceToNat, Int.reducePow, IntKind.bits, convV, ne_eq, not_false_eq_true, not_true_eq_false, Int.reduceNeg, Int.reduceAdd, Int.reduceSub, Int.reduceLT, Int.reduceLE, extractV, decide_true, decide_false, Int.reduceEq, mkFuncV, stBLawIs, beq_self_eq_true, Ty.t27, Tryd.underlying27, Ty.t5, Tryd.underlying5, Ty.t34, Tryd.underlying34, Ty.t9, Tryd.underlying9, Ty.t3, Tryd.underlying3, Ty.t4, Tryd.underlying4, Ty.t31, Tryd.underlying31, hz, stN_ownL, Nat.zero_lt_succ, bC_len, hd6, eq_self]
  have c5 := Ab.heap_alloc_new s4 (.row (frC e6 n6 r6 y6 d6))
  have k5 := Ab.next_alloc s4 (.row (frC e6 n6 r6 y6 d6))
  have m5 := (m3.trans m4).alloc' (o := .row (frC e6 n6 r6 y6 d6))
  have c6 : (s4.alloc (.row (frC e6 n6 r6 y6 d6))).heap s2.next = .row (frC e6 n6 r6 y6 d6) := by rw [Ab.heap_alloc_ne _ _ (by omega)]; exact c4
  generalize s4.alloc (.row (frC e6 n6 r6 y6 d6)) = s5 at c5 m5 k5 c6 ⊢
  have M5 := m1.trans m5
  have cf := (m5.heap s.next (by omega)).trans c1
  refine W_draw (fun _ => false) (fun _ => false) (fun _ => false) (by kernel_rfl) (by kernel_rfl) ?_
  simp (disch := first | omega | ((simp only [Ab.next_alloc, Ab.next_upd, List.length_cons, List.length_nil, ne_eq, not_true_eq_false, not_false_eq_true]) <;> omega) | decide) only [↓stepPre, stepPost, ↓W_cond, ↓W_block, ↓reduceIte, Nat.reduceEqDiff, Nat.reduceLT, Nat.reduceLeDiff, ret0, stVar, isTup, Value.cells, Nat.le_refl, Nat.reduceAdd, Nat.reduceMul, Nat.reduceSub, env0, binV, intV, reduceCtorEq, pickV, nilCheckV, ptrV, unV, true_and, and_true, Nat.add_zero, Nat.zero_add, Rt, resultsV, allV, resV, Bool.not_true, Bool.not_false, calleeV, builtinV, eqV, fieldAddrV, ldVar, stN_own, stN_ownL, Int.fdiv_eq_ediv_of_nonneg, Int.reduceToNat, Int.reducePow, IntKind.bits, convV, ne_eq, not_false_eq_true, not_true_eq_false, Int.reduceNeg, Int.reduceAdd, Int.reduceSub, Int.reduceLT, Int.reduceLE, extractV, decide_true, decide_false, Int.reduceEq, mkFuncV, stBLawIs, beq_self_eq_true, Ty.t27, Tryd.underlying27, Ty.t5, Tryd.underlying5, Ty.t34, Tryd.underlying34, Ty.t9, Tryd.underlying9, Ty.t3, Tryd.underlying3, Ty.t4, Tryd.underlying4, Ty.t31, Tryd.underlying31, getL_take, glBLawIs]
  refine live_p ((M5.heap 0 (by omega)).trans hg) ⟨m, (M5.heap 1 (by omega)).trans hgm⟩ ?_
  simp (disch := first | omega | ((simp only [Ab.next_alloc, Ab.next_upd, List.length_cons, List.length_nil, ne_eq, not_true_eq_false, not_false_eq_true]) <;> omega) | decide) only [↓stepPre, stepPost, ↓W_cond, ↓W_block, ↓reduceIte, Nat.reduceEqDiff, Nat.reduceLT, Nat.reduceLeDiff, ret0, stVar, isTup, Value.cells, Nat.le_refl, Nat.reduceAdd, Nat.reduceMul, Nat.reduceSub, env0, binV, intV, reduceCtorEq, pickV, nilCheckV, ptrV, unV, true_and, and_true, Nat.add_zero, Nat.zero_add, Rt, resultsV, allV, resV, Bool.not_true, Bool.not_false, calleeV, builtinV, eqV, fieldAddrV, ldVar, stN_own, stN_ownL, Int.fdiv_eq_ediv_of_nonneg, Int.reduceToNat, Int.reducePow, IntKind.bits, convV, ne_eq, not_false_eq_true, not_true_eq_false, Int.reduceNeg, Int.reduceAdd, Int.reduceSub, Int.reduceLT, Int.reduceLE, extractV, decide_true, decide_false, Int.reduceEq, mkFuncV, stBLawIs, beq_self_eq_true, Ty.t27, Tryd.underlying27, Ty.t5, Tryd.underlying5, Ty.t34, Tryd.underlying34, Ty.t9, Tryd.underlying9, Ty.t3, Tryd.underlying3, Ty.t4, Tryd.underlying4, Ty.t31, Tryd.underlying31, getL_take, glBLawIs, cf, hgl, Dok_same]
  refine frameRight_p hd ?_
  simp (disch := first | omega | ((simp only [Ab.next_alloc, Ab.next_upd, List.length_cons, List.length_nil, ne_eq, not_true_eq_false, not_false_eq_true]) <;> omega) | decide) only [↓stepPre, stepPost, ↓W_cond, ↓W_block, ↓reduceIte, Nat.reduceEqDiff, Nat.reduceLT, Nat.reduceLeDiff, ret0, stVar, isTup, Value.cells, Nat.le_refl, Nat.reduceAdd, Nat.reduceMul, Nat.reduceSub, env0, binV, intV, reduceCtorEq, pickV, nilCheckV, ptrV, unV, true_and, and_true, Nat.add_zero, Nat.zero_add, Rt, resultsV, allV, resV, Bool.not_true, Bool.not_false, calleeV, builtinV, eqV, fieldAddrV, ldVar, stN_own, stN_ownL, Int.fdiv_eq_ediv_of_nonneg, Int.reduceToNat, Int.reducePow, IntKind.bits, convV, ne_eq, not_false_eq_true, not_true_eq_false, Int.reduceNeg, Int.reduceAdd, Int.reduceSub, Int.reduceLT, Int.reduceLE, extractV, decide_true, decide_false, Int.reduceEq, mkFuncV, stBLawIs, beq_self_eq_true, Ty.t27, Tryd.underlying27, Ty.t5, Tryd.underlying5, Ty.t34, Tryd.underlying34, Ty.t9, Tryd.underlying9, Ty.t3, Tryd.underlying3, Ty.t4, Tryd.underlying4, Ty.t31, Tryd.underlying31, getL_take, glBLawIs, cf, hgl, Dok_same]
  refine rframeRight_p hd ?_
  simp (disch := first | omega | ((simp only [Ab.next_alloc, Ab.next_upd, List.length_cons, List.length_nil, ne_eq, not_true_eq_false, not_false_eq_true]) <;> omega) | decide) only [↓stepPre, stepPost, ↓W_cond, ↓W_block, ↓reduceIte, Nat.reduceEqDiff, Nat.reduceLT, Nat.reduceLeDiff, ret0, stVar, isTup, Value.cells, Nat.le_refl, Nat.reduceAdd, Nat.reduceMul, Nat.reduceSub, env0, binV, intV, reduceCtorEq, pickV, nilCheckV, ptrV, unV, true_and, and_true, Nat.add_zero, Nat.zero_add, Rt, resultsV, allV, resV, Bool.not_true, Bool.not_false, calleeV, builtinV, eqV, fieldAddrV, ldVar, stN_own, stN_ownL, Int.fdiv_eq_ediv_of_nonneg, Int.reduceToNat, Int.reducePow, IntKind.bits, convV, ne_eq, not_false_eq_true, not_true_eq_false, Int.reduceNeg, Int.reduceAdd, Int.reduceSub, Int.reduceLT, Int.reduceLE, extractV, decide_true, decide_false, Int.reduceEq, mkFuncV, stBLawIs, beq_self_eq_true, Ty.t27, Tryd.underlying27, Ty.t5, Tryd.underlying5, Ty.t34, Tryd.underlying34, Ty.t9, Tryd.underlying9, Ty.t3, Tryd.underlying3, Ty.t4, Tryd.underlying4, Ty.t31, Tryd.underlying31, getL_take, glBLawIs, cf, hgl, Dok_same, eq_self]
  refine bodyO_ok hd hy hn (by omega) ((M5.heap 0 (by omega)).trans hg) fun v6 s6 m6 l6 => ?_
  have cf6 := (m6.heap s.next (by omega)).trans cf
  have k6 := m6.next
  simp (disch := first | omega | ((simp only [Ab.next_alloc, Ab.next_upd, List.length_cons, List.length_nil, ne_eq, not_true_eq_false, not_false_eq_true]) <;> omega) | decide) only [↓stepPre, stepPost, ↓W_cond, ↓W_block, ↓reduceIte, Nat.reduceEqDiff, Nat.reduceLT, Nat.reduceLeDiff, ret0, stVar, isTup, Value.cells, Nat.le_refl, Nat.reduceAdd, Nat.reduceMul, Nat.reduceSub, env0, binV, intV, reduceCtorEq, pickV, nilCheckV, ptrV, unV, true_and, and_true, Nat.add_zero, Nat.zero_add, Rt, resultsV, allV, resV, Bool.not_true, Bool.not_false, calleeV, builtinV, eqV, fieldAddrV, ldVar, stN_own, stN_ownL, Int.fdiv_eq_ediv_of_nonneg, Int.reduceToNat, Int.reducePow, IntKind.bits, convV, ne_eq, not_false_eq_true, not_true_eq_false, Int.reduceNeg, Int.reduceAdd, Int.reduceSub, Int.reduceLT, Int.reduceLE, extractV, decide_true, decide_false, Int.reduceEq, mkFuncV, stBLawIs, beq_self_eq_true, Ty.t27, Tryd.underlying27, Ty.t5, Tryd.underlying5, Ty.t34, Tryd.underlying34, Ty.t9, Tryd.underlying9, Ty.t3, Tryd.underlying3, Ty.t4, Tryd.underlying4, Ty.t31, Tryd.underlying31, getL_take, glBLawIs, cf6, hgl, Dok_same, eq_self]
  refine ⟨.inl m6, ?_⟩
  refine bodyR_ok hd hy hn (by omega) fun v7 s7 m7 l7 => ?_
  have k7 := m7.next
  have cf7 := (m7.heap s.next (by omega)).trans cf6
  refine ⟨.inl m7, ?_⟩
  simp (disch := first | omega | ((simp only [Ab.next_alloc, Ab.next_upd, List.length_cons, List.length_nil, ne_eq, not_true_eq_false, not_false_eq_true]) <;> omega) | decide) only [↓stepPre, stepPost, ↓W_cond, ↓W_block, ↓reduceIte, Nat.reduceEqDiff, Nat.reduceLT, Nat.reduceLeDiff, ret0, stVar, isTup, Value.cells, Nat.le_refl, Nat.reduceAdd, Nat.reduceMul, Nat.reduceSub, env0, binV, intV, reduceCtorEq, pickV, nilCheckV, ptrV, unV, true_and, and_true, Nat.add_zero, Nat.zero_add, Rt, resultsV, allV, resV, Bool.not_true, Bool.not_false, calleeV, builtinV, eqV, fieldAddrV, ldVar, stN_own, stN_ownL, Int.fdiv_eq_ediv_of_nonneg, Int.reduceToNat, Int.reducePow, IntKind.bits, convV, ne_eq, not_false_eq_true, not_true_eq_false, Int.reduceNeg, Int.reduceAdd, Int.reduceSub, Int.reduceLT, Int.reduceLE, extractV, decide_true, decide_false, Int.reduceEq, mkFuncV, stBLawIs, beq_self_eq_true, Ty.t27, Tryd.underlying27, Ty.t5, Tryd.underlying5, Ty.t34, Tryd.underlying34, Ty.t9, Tryd.underlying9, Ty.t3, Tryd.underlying3, Ty.t4, Tryd.underlying4, Ty.t31, Tryd.underlying31, getL_take, glBLawIs, cf7, hgl]
  refine bytes_ok (l6.mild m7) l7 (by have := bodyX_len (e := e) (n := n) (r := r) (l := l) (ds := ds); omega) ?_
  rw [decide_eq_true (rfl : bodyX e n r l ds = bodyX e n r l ds)]
  simp (disch := first | omega | ((simp only [Ab.next_alloc, Ab.next_upd, List.length_cons, List.length_nil, ne_eq, not_true_eq_false, not_false_eq_true]) <;> omega) | decide) only [↓stepPre, stepPost, ↓W_cond, ↓W_block, ↓reduceIte, Nat.reduceEqDiff, Nat.reduceLT, Nat.reduceLeDiff, ret0, stVar, isTup, Value.cells, Nat.le_refl, Nat.reduceAdd, Nat.reduceMul, Nat.reduceSub, env0, binV, intV, reduceCtorEq, pickV, nilCheckV, ptrV, unV, true_and, and_true, Nat.add_zero, Nat.zero_add, Rt, resultsV, allV, resV, Bool.not_true, Bool.not_false, calleeV, builtinV, eqV, fieldAddrV, ldVar, stN_own, stN_ownL, Int.fdiv_eq_ediv_of_nonneg, Int.reduceToNat, Int.reducePow, IntKind.bits, convV, ne_eq, not_false_eq_true, not_true_eq_false, Int.reduceNeg, Int.reduceAdd, Int.reduceSub, Int.reduceLT, Int.reduceLE, extractV, decide_true, decide_false, Int.reduceEq, mkFuncV, stBLawIs, beq_self_eq_true, Ty.t27, Tryd.underlying27, Ty.t5, Tryd.underlying5, Ty.t34, Tryd.underlying34, Ty.t9, Tryd.underlying9, Ty.t3, Tryd.underlying3, Ty.t4, Tryd.underlying4, Ty.t31, Tryd.underlying31, getL_take, glBLawIs, cf7, hgl, Dok_same]
  refine ftext_ok hd hn hy (by omega) fun s8 m8 => ?_
  have k8 := m8.next
  have cf8 := (m8.heap s.next (by omega)).trans cf7
  simp (disch := first | omega | ((simp only [Ab.next_alloc, Ab.next_upd, List.length_cons, List.length_nil, ne_eq, not_true_eq_false, not_false_eq_true]) <;> omega) | decide) only [↓stepPre, stepPost, ↓W_cond, ↓W_block, ↓reduceIte, Nat.reduceEqDiff, Nat.reduceLT, Nat.reduceLeDiff, ret0, stVar, isTup, Value.cells, Nat.le_refl, Nat.reduceAdd, Nat.reduceMul, Nat.reduceSub, env0, binV, intV, reduceCtorEq, pickV, nilCheckV, ptrV, unV, true_and, and_true, Nat.add_zero, Nat.zero_add, Rt, resultsV, allV, resV, Bool.not_true, Bool.not_false, calleeV, builtinV, eqV, fieldAddrV, ldVar, stN_own, stN_ownL, Int.fdiv_eq_ediv_of_nonneg, Int.reduceToNat, Int.reducePow, IntKind.bits, convV, ne_eq, not_false_eq_true, not_true_eq_false, Int.reduceNeg, Int.reduceAdd, Int.reduceSub, Int.reduceLT, Int.reduceLE, extractV, decide_true, decide_false, Int.reduceEq, mkFuncV, stBLawIs, beq_self_eq_true, Ty.t27, Tryd.underlying27, Ty.t5, Tryd.underlying5, Ty.t34, Tryd.underlying34, Ty.t9, Tryd.underlying9, Ty.t3, Tryd.underlying3, Ty.t4, Tryd.underlying4, Ty.t31, Tryd.underlying31, getL_take, glBLawIs, cf8, hgl]
  refine ⟨.inl m8, ?_⟩
  refine rtext6_ok hd hn hy (by omega) fun s9 m9 => ?_
  have k9 := m9.next
  have M9 := ((m6.trans m7).trans m8).trans m9
  have c69 := (M9.heap s2.next (by omega)).trans c6
  have c59 := (M9.heap s4.next (by omega)).trans c5
  have heqs := eqlStrV (l := frT e n r l ds) (m := frT e n r l ds)
  rw [decide_eq_true (rfl : frT e n r l ds = frT e n r l ds)] at heqs
  have hfit := fits_fr (e := e6) (n := n6) (r := r6) (l := y6) hd6
  have heqc : eqCells (frC e6 n6 r6 y6 d6) (frC e6 n6 r6 y6 d6) = true := by rw [eqCells_fr hd6 hd6]; simp
  refine ⟨.inl m9, ?_⟩
  simp (disch := first | omega | ((simp only [Ab.next_alloc, Ab.next_upd, List.length_cons, List.length_nil, ne_eq, not_true_eq_false, not_false_eq_true]) <;> omega) | decide) only [↓stepPre, stepPost, ↓W_cond, ↓W_block, ↓reduceIte, Nat.reduceEqDiff, Nat.reduceLT, Nat.reduceLeDiff, ret0, stVar, isTup, Value.cells, Nat.le_refl, Nat.reduceAdd, Nat.reduceMul, Nat.reduceSub, env0, binV, intV, reduceCtorEq, pickV, nilCheckV, ptrV, unV, true_and, and_true, Nat.add_zero, Nat.zero_add, Rt, resultsV, allV, resV, Bool.not_true, Bool.not_false, calleeV, builtinV, eqV, fieldAddrV, ldVar, stN_own, stN_ownL, Int.fdiv_eq_ediv_of_nonneg, Int.reduceToNat, Int.reducePow, IntKind.bits, convV, ne_eq, not_false_eq_true, not_true_eq_false, Int.reduceNeg, Int.reduceAdd, Int.reduceSub, Int.reduceLT, Int.reduceLE, extractV, decide_true, decide_false, Int.reduceEq, mkFuncV, stBLawIs, beq_self_eq_true, Ty.t27, Tryd.underlying27, Ty.t5, Tryd.underlying5, Ty.t34, Tryd.underlying34, Ty.t9, Tryd.underlying9, Ty.t3, Tryd.underlying3, Ty.t4, Tryd.underlying4, Ty.t31, Tryd.underlying31, getL_take, glBLawIs, c69, c59, hg6, heqs, hfit, heqc, eq_self, Dok_same, Tryd.results3]
end Go.Proofs.YtdhmjnpaoacpfaaDoor
