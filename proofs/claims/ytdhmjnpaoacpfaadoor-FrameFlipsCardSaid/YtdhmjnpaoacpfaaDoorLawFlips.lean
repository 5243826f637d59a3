/- The law FrameFlips, as a run of the abstract machine. -/
import Derived.Test.YtdhmjnpaoacpfaaDoorTypes
import Derived.Test.YtdhmjnpaoacpfaaDoorRow0
import Derived.Test.YtdhmjnpaoacpfaaDoorAbC
import Derived.Test.YtdhmjnpaoacpfaaDoorBits
import Derived.Test.YtdhmjnpaoacpfaaDoorOwnOf
import Derived.Test.YtdhmjnpaoacpfaaDoorFlip
import Derived.Test.YtdhmjnpaoacpfaaDoorUnpack
import Derived.Test.YtdhmjnpaoacpfaaDoorArgs
import Derived.Test.YtdhmjnpaoacpfaaDoorPure
import Derived.Test.YtdhmjnpaoacpfaaDoorRight
import Derived.Test.YtdhmjnpaoacpfaaDoorHead
import Derived.Test.YtdhmjnpaoacpfaaDoorCrcLaws
import Derived.Test.YtdhmjnpaoacpfaaDoorFew3
import Derived.Test.YtdhmjnpaoacpfaaDoorLive
set_option linter.all false
set_option maxRecDepth 20000
namespace Go.Proofs.YtdhmjnpaoacpfaaDoor
open Go Go.Ab
def ones (xs : List Nat) : Nat := (xs.map one).sum
theorem ones_app (xs ys : List Nat) : ones (xs ++ ys) = ones xs + ones ys := by simp [ones]
theorem par_ones (xs : List Nat) : par xs = ones xs % 2 := by
  have : ∀ k, k ≤ xs.length → par (xs.take k) = ones (xs.take k) % 2 := by
    intro k
    induction k with
    | zero => intro _; rfl
    | succ k ih =>
      intro hk
      rw [List.take_succ_eq_append_getElem (by omega), par_snoc, ih (by omega), ones_app]
      have : ones [xs[k]] = one xs[k] := by simp [ones]
      omega
  have h := this xs.length (Nat.le_refl _)
  rwa [List.take_length] at h
theorem ones_set : ∀ {xs : List Nat} {i y : Nat} (h : i < xs.length), ones (xs.set i y) + one xs[i] = ones xs + one y := by
  intro xs
  induction xs with
  | nil => intro i y h; simp at h
  | cons x xs ih =>
    intro i y h
    cases i with
    | zero => simp [ones]; omega
    | succ i =>
      have := ih (i := i) (y := y) (by simpa using h)
      simp only [ones, List.set_cons_succ, List.map_cons, List.sum_cons, List.getElem_cons_succ] at this ⊢
      omega
theorem ones_map (xs : List Nat) : ones (xs.map one) = ones xs := by
  unfold ones
  rw [List.map_map]
  congr 1
  exact List.map_congr_left fun x _ => one_one x
theorem flip_not_whole {xs : List Nat} {i : Nat} (hw : wholeB xs = true) (hi : i < xs.length) : wholeB (flipL xs (i : Int)) = false := by
  cases h : wholeB (flipL xs (i : Int)) with
  | false => rfl
  | true =>
    have h1 := par_whole hw
    have h2 := par_whole h
    rw [par_ones] at h1 h2
    have hf : flipL xs (i : Int) = (xs.map one).set i (1 - one (xs.getD i 0)) := by
      unfold flipL; rw [if_pos ⟨by omega, by omega⟩, Int.toNat_natCast]
    rw [hf] at h2
    have h3 := ones_set (xs := xs.map one) (i := i) (y := 1 - one (xs.getD i 0)) (by simpa using hi)
    rw [ones_map, List.getElem_map, one_one] at h3
    have hg : xs.getD i 0 = xs[i] := by simp [List.getD_eq_getElem?_getD, hi]
    rw [hg] at h2 h3
    have ho := one_le xs[i]
    have : one (1 - one xs[i]) = 1 - one xs[i] := by
      have : one xs[i] = 0 ∨ one xs[i] = 1 := by omega
      rcases this with h | h <;> rw [h] <;> rfl
    omega
theorem frameFlips_law (W : World) (args : List Value) (hsh : W.ShapedOpen Tryd.prog) (hlaid : laidMetH Tryd.prog laidVars W) (ha : ArgsR Tryd.prog W Tryd.f7.params.toList args) : WC Tryd.prog W.heap.size 7 args (St0 W) (fun v _ => v = .bool true) := by
  obtain ⟨hg, -⟩ := of_laid hlaid
  obtain ⟨hb2, m, hgm⟩ := of_shaped hsh
  have hB : Bok W.heap.size := ⟨hb2⟩
  obtain ⟨v0, _, rfl, a1, ha⟩ := args_cons (show ArgsR Tryd.prog W [27, 5] args from ha)
  obtain ⟨v1, _, rfl, a2, ha⟩ := args_cons ha
  obtain rfl := args_nil ha
  obtain ⟨e, n, r, l, ds, rfl, hd, hn, hy, -⟩ := frame_arg a1
  obtain ⟨at_, rfl, hat0, hat1⟩ := int_arg (k := .u8) a2 (by kernel_rfl) (by kernel_rfl)
  have hat0 : 0 ≤ at_ := hat0
  have hat1 : at_ ≤ 255 := hat1
  have hnx : (St0 W).next = W.heap.size := rfl
  clear a1 a2
  generalize St0 W = s at hg hgm hnx
  refine WC_open Tryd.func7 rfl ?_
  have hgl := getL_fr (a := .bool e) (b := .int .u32 (n : Int)) (c := .bool r) (d := .int .i64 l) hd
  have hm := Mild.alloc s (.row (frC e n r l ds))
  have hm1 := Ab.next_alloc s (.row (frC e n r l ds))
  simp (disch := first | omega | ((simp only [Ab.next_alloc, Ab.next_upd, List.length_cons, List.length_nil, ne_eq, not_true_eq_false, not_false_eq_true]) <;> omega) | decide) only [↓stepPre, stepPost, ↓W_cond, ↓W_block, ↓reduceIte, Nat.reduceEqDiff, Nat.reduceLT, Nat.reduceLeDiff, List.size_toArray, List.length_cons, List.length_nil, ret0, stVar, isTup, Value.cells, List.set_cons_zero, List.set_cons_succ, Nat.le_refl, Nat.reduceAdd, Nat.reduceMul, Nat.reduceSub, env0, List.getD_cons_zero, List.getD_cons_succ, binV, intV, reduceCtorEq, List.getElem?_cons_succ, List.getElem?_cons_zero, pickV, nilCheckV, ptrV, unV, true_and, and_true, List.map_cons, List.map_nil, Nat.add_zero, Nat.zero_add, Option.isNone_none, Option.isNone_some, Rt, resultsV, allV, resV, Bool.not_true, Bool.not_false, calleeV, builtinV, Option.map_some, Option.map_none, List.cons_append, List.nil_append, List.append_nil, Array.toList_append, List.toList_toArray, eqV, fieldAddrV, ldVar, stN_own, stN_ownL, Int.cast_ofNat_Int, Int.fdiv_eq_ediv_of_nonneg, Int.reduceToNat, Nat.min_eq_left, Int.reducePow, IntKind.bits, convV, ne_eq, not_false_eq_true, not_true_eq_false, Int.reduceNeg, Int.reduceAdd, Int.reduceSub, Int.reduceLT, Int.reduceLE, Option.isSome_some, extractV, decide_true, decide_false, Int.reduceEq, List.getElem?_toArray, mkFuncV, List.map_toArray, beq_self_eq_true, Ty.t27, Tryd.underlying27, Ty.t5, Tryd.underlying5, Ty.t34, Tryd.underlying34, Ty.t3, Tryd.underlying3, Ty.t4, Tryd.underlying4, Ty.t31, Tryd.underlying31, hgl]
  refine rbody_ok hd hy hn (by simp only [Ab.next_alloc]; omega) (fun h0 s1 m1 => ?_) (fun h0 v1 s1 m1 l1 t1 w1 => ?_)
  · have M1 := hm.trans m1
    simp (disch := first | omega | ((simp only [Ab.next_alloc, Ab.next_upd, List.length_cons, List.length_nil, ne_eq, not_true_eq_false, not_false_eq_true]) <;> omega) | decide) only [↓stepPre, stepPost, ↓W_cond, ↓W_block, ↓reduceIte, Nat.reduceEqDiff, Nat.reduceLT, Nat.reduceLeDiff, List.size_toArray, List.length_cons, List.length_nil, ret0, stVar, isTup, Value.cells, List.set_cons_zero, List.set_cons_succ, Nat.le_refl, Nat.reduceAdd, Nat.reduceMul, Nat.reduceSub, env0, List.getD_cons_zero, List.getD_cons_succ, binV, intV, reduceCtorEq, List.getElem?_cons_succ, List.getElem?_cons_zero, pickV, nilCheckV, ptrV, unV, true_and, and_true, List.map_cons, List.map_nil, Nat.add_zero, Nat.zero_add, Option.isNone_none, Option.isNone_some, Rt, resultsV, allV, resV, Bool.not_true, Bool.not_false, calleeV, builtinV, Option.map_some, Option.map_none, List.cons_append, List.nil_append, List.append_nil, Array.toList_append, List.toList_toArray, eqV, fieldAddrV, ldVar, stN_own, stN_ownL, Int.cast_ofNat_Int, Int.fdiv_eq_ediv_of_nonneg, Int.reduceToNat, Nat.min_eq_left, Int.reducePow, IntKind.bits, convV, ne_eq, not_false_eq_true, not_true_eq_false, Int.reduceNeg, Int.reduceAdd, Int.reduceSub, Int.reduceLT, Int.reduceLE, Option.isSome_some, extractV, decide_true, decide_false, Int.reduceEq, List.getElem?_toArray, mkFuncV, List.map_toArray, beq_self_eq_true, Ty.t27, Tryd.underlying27, Ty.t5, Tryd.underlying5, Ty.t34, Tryd.underlying34, Ty.t3, Tryd.underlying3, Ty.t4, Tryd.underlying4, Ty.t31, Tryd.underlying31, lenB]
    refine live_p ((M1.heap 0 (by omega)).trans hg) ⟨m, (M1.heap 1 (by omega)).trans hgm⟩ ?_
    simp (disch := first | omega | ((simp only [Ab.next_alloc, Ab.next_upd, List.length_cons, List.length_nil, ne_eq, not_true_eq_false, not_false_eq_true]) <;> omega) | decide) only [↓stepPre, stepPost, ↓W_cond, ↓W_block, ↓reduceIte, Nat.reduceEqDiff, Nat.reduceLT, Nat.reduceLeDiff, List.size_toArray, List.length_cons, List.length_nil, ret0, stVar, isTup, Value.cells, List.set_cons_zero, List.set_cons_succ, Nat.le_refl, Nat.reduceAdd, Nat.reduceMul, Nat.reduceSub, env0, List.getD_cons_zero, List.getD_cons_succ, binV, intV, reduceCtorEq, List.getElem?_cons_succ, List.getElem?_cons_zero, pickV, nilCheckV, ptrV, unV, true_and, and_true, List.map_cons, List.map_nil, Nat.add_zero, Nat.zero_add, Option.isNone_none, Option.isNone_some, Rt, resultsV, allV, resV, Bool.not_true, Bool.not_false, calleeV, builtinV, Option.map_some, Option.map_none, List.cons_append, List.nil_append, List.append_nil, Array.toList_append, List.toList_toArray, eqV, fieldAddrV, ldVar, stN_own, stN_ownL, Int.cast_ofNat_Int, Int.fdiv_eq_ediv_of_nonneg, Int.reduceToNat, Nat.min_eq_left, Int.reducePow, IntKind.bits, convV, ne_eq, not_false_eq_true, not_true_eq_false, Int.reduceNeg, Int.reduceAdd, Int.reduceSub, Int.reduceLT, Int.reduceLE, Option.isSome_some, extractV, decide_true, decide_false, Int.reduceEq, List.getElem?_toArray, mkFuncV, List.map_toArray, beq_self_eq_true, Ty.t27, Tryd.underlying27, Ty.t5, Tryd.underlying5, Ty.t34, Tryd.underlying34, Ty.t3, Tryd.underlying3, Ty.t4, Tryd.underlying4, Ty.t31, Tryd.underlying31, Tryd.results7]
  have M1 := hm.trans m1
  have n1 := M1.next
  obtain ⟨hi, hl0, hl8⟩ := rightF_zero h0
  have hL : 34 ≤ (sealL (bodyL e n r l.toNat ds)).length ∧ (sealL (bodyL e n r l.toNat ds)).length ≤ 200 ∧ (sealL (bodyL e n r l.toNat ds)).getD 0 0 = 0 := by
    obtain ⟨c, hc, hlen⟩ := body_head (r := r) (ds := ds) hi (l := l.toNat) (by omega)
    refine ⟨by rw [hlen]; cases e <;> cases r <;> simp <;> omega, by rw [hlen]; cases e <;> cases r <;> simp <;> omega, ?_⟩
    rw [hc]; simp [headL]
  have hw := whole_seal (bodyL e n r l.toNat ds)
  generalize sealL (bodyL e n r l.toNat ds) = xs at l1 hw hL
  obtain ⟨hL1, hL2, hL3⟩ := hL
  have hlen := l1.len (P := Tryd.prog) (ts := []) Ty.elem34 Ty.arr34
  rw [bL_len] at hlen
  have c1 : ¬ (xs.length : Int) = 0 := by omega
  obtain ⟨k, hk⟩ : ∃ k : Nat, at_.tmod (xs.length : Int) = k := ⟨(at_.tmod (xs.length : Int)).toNat, by rw [Int.tmod_eq_emod_of_nonneg (by omega)]; have := Int.emod_nonneg at_ (show (xs.length : Int) ≠ 0 by omega); omega⟩
  have hkl : k < xs.length := by
    rw [Int.tmod_eq_emod_of_nonneg (by omega)] at hk
    have := Int.emod_lt_of_pos at_ (show 0 < (xs.length : Int) by omega); omega
  simp (disch := first | omega | ((simp only [Ab.next_alloc, Ab.next_upd, List.length_cons, List.length_nil, ne_eq, not_true_eq_false, not_false_eq_true]) <;> omega) | decide) only [↓stepPre, stepPost, ↓W_cond, ↓W_block, ↓reduceIte, Nat.reduceEqDiff, Nat.reduceLT, Nat.reduceLeDiff, List.size_toArray, List.length_cons, List.length_nil, ret0, stVar, isTup, Value.cells, List.set_cons_zero, List.set_cons_succ, Nat.le_refl, Nat.reduceAdd, Nat.reduceMul, Nat.reduceSub, env0, List.getD_cons_zero, List.getD_cons_succ, binV, intV, reduceCtorEq, List.getElem?_cons_succ, List.getElem?_cons_zero, pickV, nilCheckV, ptrV, unV, true_and, and_true, List.map_cons, List.map_nil, Nat.add_zero, Nat.zero_add, Option.isNone_none, Option.isNone_some, Rt, resultsV, allV, resV, Bool.not_true, Bool.not_false, calleeV, builtinV, Option.map_some, Option.map_none, List.cons_append, List.nil_append, List.append_nil, Array.toList_append, List.toList_toArray, eqV, fieldAddrV, ldVar, stN_own, stN_ownL, Int.cast_ofNat_Int, Int.fdiv_eq_ediv_of_nonneg, Int.reduceToNat, Nat.min_eq_left, Int.reducePow, IntKind.bits, convV, ne_eq, not_false_eq_true, not_true_eq_false, Int.reduceNeg, Int.reduceAdd, Int.reduceSub, Int.reduceLT, Int.reduceLE, Option.isSome_some, extractV, decide_true, decide_false, Int.reduceEq, List.getElem?_toArray, mkFuncV, List.map_toArray, beq_self_eq_true, Ty.t27, Tryd.underlying27, Ty.t5, Tryd.underlying5, Ty.t34, Tryd.underlying34, Ty.t3, Tryd.underlying3, Ty.t4, Tryd.underlying4, Ty.t31, Tryd.underlying31, hlen, c1, hk]
  refine rflip_ok l1 (by omega) (by omega) fun s2 v2 m2 l2 => ?_
  have n2 := m2.next
  have M2 := M1.trans m2
  have hfl := flipL_len xs (k : Int)
  have hfw := flip_not_whole hw hkl
  have hf : flipL xs (k : Int) = (xs.map one).set k (1 - one (xs.getD k 0)) := by
    unfold flipL; rw [if_pos ⟨by omega, by omega⟩, Int.toNat_natCast]
  have hf0 : (flipL xs (k : Int)).getD 0 0 = if k = 0 then 1 else 0 := by
    rw [hf, List.getD_eq_getElem?_getD, List.getElem?_set]
    by_cases h : k = 0
    · subst h
      rw [if_pos rfl, if_pos (by simp; omega), hL3]; rfl
    · rw [if_neg h, if_neg h]
      have : xs[0]? = some 0 := by rw [List.getD_eq_getElem?_getD] at hL3; rw [List.getElem?_eq_getElem (by omega)] at hL3 ⊢; simpa using hL3
      simp [this, one]
  generalize flipL xs (k : Int) = ys at l2 hfl hfw hf0
  simp (disch := first | omega | ((simp only [Ab.next_alloc, Ab.next_upd, List.length_cons, List.length_nil, ne_eq, not_true_eq_false, not_false_eq_true]) <;> omega) | decide) only [↓stepPre, stepPost, ↓W_cond, ↓W_block, ↓reduceIte, Nat.reduceEqDiff, Nat.reduceLT, Nat.reduceLeDiff, List.size_toArray, List.length_cons, List.length_nil, ret0, stVar, isTup, Value.cells, List.set_cons_zero, List.set_cons_succ, Nat.le_refl, Nat.reduceAdd, Nat.reduceMul, Nat.reduceSub, env0, List.getD_cons_zero, List.getD_cons_succ, binV, intV, reduceCtorEq, List.getElem?_cons_succ, List.getElem?_cons_zero, pickV, nilCheckV, ptrV, unV, true_and, and_true, List.map_cons, List.map_nil, Nat.add_zero, Nat.zero_add, Option.isNone_none, Option.isNone_some, Rt, resultsV, allV, resV, Bool.not_true, Bool.not_false, calleeV, builtinV, Option.map_some, Option.map_none, List.cons_append, List.nil_append, List.append_nil, Array.toList_append, List.toList_toArray, eqV, fieldAddrV, ldVar, stN_own, stN_ownL, Int.cast_ofNat_Int, Int.fdiv_eq_ediv_of_nonneg, Int.reduceToNat, Nat.min_eq_left, Int.reducePow, IntKind.bits, convV, ne_eq, not_false_eq_true, not_true_eq_false, Int.reduceNeg, Int.reduceAdd, Int.reduceSub, Int.reduceLT, Int.reduceLE, Option.isSome_some, extractV, decide_true, decide_false, Int.reduceEq, List.getElem?_toArray, mkFuncV, List.map_toArray, beq_self_eq_true, Ty.t27, Tryd.underlying27, Ty.t5, Tryd.underlying5, Ty.t34, Tryd.underlying34, Ty.t3, Tryd.underlying3, Ty.t4, Tryd.underlying4, Ty.t31, Tryd.underlying31, hlen]
  refine rsize_p l2 (by omega) ?_
  simp (disch := first | omega | ((simp only [Ab.next_alloc, Ab.next_upd, List.length_cons, List.length_nil, ne_eq, not_true_eq_false, not_false_eq_true]) <;> omega) | decide) only [↓stepPre, stepPost, ↓W_cond, ↓W_block, ↓reduceIte, Nat.reduceEqDiff, Nat.reduceLT, Nat.reduceLeDiff, List.size_toArray, List.length_cons, List.length_nil, ret0, stVar, isTup, Value.cells, List.set_cons_zero, List.set_cons_succ, Nat.le_refl, Nat.reduceAdd, Nat.reduceMul, Nat.reduceSub, env0, List.getD_cons_zero, List.getD_cons_succ, binV, intV, reduceCtorEq, List.getElem?_cons_succ, List.getElem?_cons_zero, pickV, nilCheckV, ptrV, unV, true_and, and_true, List.map_cons, List.map_nil, Nat.add_zero, Nat.zero_add, Option.isNone_none, Option.isNone_some, Rt, resultsV, allV, resV, Bool.not_true, Bool.not_false, calleeV, builtinV, Option.map_some, Option.map_none, List.cons_append, List.nil_append, List.append_nil, Array.toList_append, List.toList_toArray, eqV, fieldAddrV, ldVar, stN_own, stN_ownL, Int.cast_ofNat_Int, Int.fdiv_eq_ediv_of_nonneg, Int.reduceToNat, Nat.min_eq_left, Int.reducePow, IntKind.bits, convV, ne_eq, not_false_eq_true, not_true_eq_false, Int.reduceNeg, Int.reduceAdd, Int.reduceSub, Int.reduceLT, Int.reduceLE, Option.isSome_some, extractV, decide_true, decide_false, Int.reduceEq, List.getElem?_toArray, mkFuncV, List.map_toArray, beq_self_eq_true, Ty.t27, Tryd.underlying27, Ty.t5, Tryd.underlying5, Ty.t34, Tryd.underlying34, Ty.t3, Tryd.underlying3, Ty.t4, Tryd.underlying4, Ty.t31, Tryd.underlying31, hlen]
  refine parse6_ok l2 (by omega) (by omega) ((M2.heap 0 (by omega)).trans hg) fun s3 m3 => ?_
  have n3 := m3.next
  have M3 := M2.trans m3
  obtain ⟨e', n', r', l', ds', k', er, hp, hd', her⟩ := parV_is ys
  rw [hp]
  have hz := putAt_12 (a0 := .bool false) (a1 := .int .u32 0) (a2 := .bool false) (a3 := .int .i64 0) (a4 := .int .u8 0) (a5 := .int .u8 0) (a6 := .int .u8 0) (a7 := .int .u8 0) (a8 := .int .u8 0) (a9 := .int .u8 0) (a10 := .int .u8 0) (a11 := .int .u8 0) (b0 := .bool e') (b1 := .int .u32 (n' : Int)) (b2 := .bool r') (b3 := .int .i64 l') hd'
  by_cases hk0 : k = 0
  · have e3 : er = 3 := by rw [her]; unfold errN; rw [if_pos ⟨by omega, by rw [hf0, if_pos hk0]; omega⟩]
    have ck : ((k : Nat) : Int) = 0 := by omega
    rw [e3]
    simp (disch := first | omega | ((simp only [Ab.next_alloc, Ab.next_upd, List.length_cons, List.length_nil, ne_eq, not_true_eq_false, not_false_eq_true]) <;> omega) | decide) only [↓stepPre, stepPost, ↓W_cond, ↓W_block, ↓reduceIte, Nat.reduceEqDiff, Nat.reduceLT, Nat.reduceLeDiff, List.size_toArray, List.length_cons, List.length_nil, ret0, stVar, isTup, Value.cells, List.set_cons_zero, List.set_cons_succ, Nat.le_refl, Nat.reduceAdd, Nat.reduceMul, Nat.reduceSub, env0, List.getD_cons_zero, List.getD_cons_succ, binV, intV, reduceCtorEq, List.getElem?_cons_succ, List.getElem?_cons_zero, pickV, nilCheckV, ptrV, unV, true_and, and_true, List.map_cons, List.map_nil, Nat.add_zero, Nat.zero_add, Option.isNone_none, Option.isNone_some, Rt, resultsV, allV, resV, Bool.not_true, Bool.not_false, calleeV, builtinV, Option.map_some, Option.map_none, List.cons_append, List.nil_append, List.append_nil, Array.toList_append, List.toList_toArray, eqV, fieldAddrV, ldVar, Int.cast_ofNat_Int, Int.fdiv_eq_ediv_of_nonneg, Int.reduceToNat, Nat.min_eq_left, Int.reducePow, IntKind.bits, convV, ne_eq, not_false_eq_true, not_true_eq_false, Int.reduceNeg, Int.reduceAdd, Int.reduceSub, Int.reduceLT, Int.reduceLE, Option.isSome_some, extractV, decide_true, decide_false, Int.reduceEq, List.getElem?_toArray, mkFuncV, List.map_toArray, beq_self_eq_true, Ty.t27, Tryd.underlying27, Ty.t5, Tryd.underlying5, Ty.t34, Tryd.underlying34, Ty.t3, Tryd.underlying3, Ty.t4, Tryd.underlying4, Ty.t31, Tryd.underlying31, hlen, hk, ck, hz, stN_ownL, Nat.zero_lt_succ, bC_len, hd', eq_self]
    refine live_p (((M3.alloc').heap 0 (by omega)).trans hg) ⟨m, ((M3.alloc').heap 1 (by omega)).trans hgm⟩ ?_
    simp (disch := first | omega | ((simp only [Ab.next_alloc, Ab.next_upd, List.length_cons, List.length_nil, ne_eq, not_true_eq_false, not_false_eq_true]) <;> omega) | decide) only [↓stepPre, stepPost, ↓W_cond, ↓W_block, ↓reduceIte, Nat.reduceEqDiff, Nat.reduceLT, Nat.reduceLeDiff, List.size_toArray, List.length_cons, List.length_nil, ret0, stVar, isTup, Value.cells, List.set_cons_zero, List.set_cons_succ, Nat.le_refl, Nat.reduceAdd, Nat.reduceMul, Nat.reduceSub, env0, List.getD_cons_zero, List.getD_cons_succ, binV, intV, reduceCtorEq, List.getElem?_cons_succ, List.getElem?_cons_zero, pickV, nilCheckV, ptrV, unV, true_and, and_true, List.map_cons, List.map_nil, Nat.add_zero, Nat.zero_add, Option.isNone_none, Option.isNone_some, Rt, resultsV, allV, resV, Bool.not_true, Bool.not_false, calleeV, builtinV, Option.map_some, Option.map_none, List.cons_append, List.nil_append, List.append_nil, Array.toList_append, List.toList_toArray, eqV, fieldAddrV, ldVar, stN_own, stN_ownL, Int.cast_ofNat_Int, Int.fdiv_eq_ediv_of_nonneg, Int.reduceToNat, Nat.min_eq_left, Int.reducePow, IntKind.bits, convV, ne_eq, not_false_eq_true, not_true_eq_false, Int.reduceNeg, Int.reduceAdd, Int.reduceSub, Int.reduceLT, Int.reduceLE, Option.isSome_some, extractV, decide_true, decide_false, Int.reduceEq, List.getElem?_toArray, mkFuncV, List.map_toArray, beq_self_eq_true, Ty.t27, Tryd.underlying27, Ty.t5, Tryd.underlying5, Ty.t34, Tryd.underlying34, Ty.t3, Tryd.underlying3, Ty.t4, Tryd.underlying4, Ty.t31, Tryd.underlying31, hlen, Tryd.results7]
  have ck : ¬ ((k : Nat) : Int) = 0 := by omega
  simp (disch := first | omega | ((simp only [Ab.next_alloc, Ab.next_upd, List.length_cons, List.length_nil, ne_eq, not_true_eq_false, not_false_eq_true]) <;> omega) | decide) only [↓stepPre, stepPost, ↓W_cond, ↓W_block, ↓reduceIte, Nat.reduceEqDiff, Nat.reduceLT, Nat.reduceLeDiff, List.size_toArray, List.length_cons, List.length_nil, ret0, stVar, isTup, Value.cells, List.set_cons_zero, List.set_cons_succ, Nat.le_refl, Nat.reduceAdd, Nat.reduceMul, Nat.reduceSub, env0, List.getD_cons_zero, List.getD_cons_succ, binV, intV, reduceCtorEq, List.getElem?_cons_succ, List.getElem?_cons_zero, pickV, nilCheckV, ptrV, unV, true_and, and_true, List.map_cons, List.map_nil, Nat.add_zero, Nat.zero_add, Option.isNone_none, Option.isNone_some, Rt, resultsV, allV, resV, Bool.not_true, Bool.not_false, calleeV, builtinV, Option.map_some, Option.map_none, List.cons_append, List.nil_append, List.append_nil, Array.toList_append, List.toList_toArray, eqV, fieldAddrV, ldVar, Int.cast_ofNat_Int, Int.fdiv_eq_ediv_of_nonneg, Int.reduceToNat, Nat.min_eq_left, Int.reducePow, IntKind.bits, convV, ne_eq, not_false_eq_true, not_true_eq_false, Int.reduceNeg, Int.reduceAdd, Int.reduceSub, Int.reduceLT, Int.reduceLE, Option.isSome_some, extractV, decide_true, decide_false, Int.reduceEq, List.getElem?_toArray, mkFuncV, List.map_toArray, beq_self_eq_true, Ty.t27, Tryd.underlying27, Ty.t5, Tryd.underlying5, Ty.t34, Tryd.underlying34, Ty.t3, Tryd.underlying3, Ty.t4, Tryd.underlying4, Ty.t31, Tryd.underlying31, hlen, hk, ck, hz, stN_ownL, Nat.zero_lt_succ, bC_len, hd', eq_self]
  refine live_p (((M3.alloc').heap 0 (by omega)).trans hg) ⟨m, ((M3.alloc').heap 1 (by omega)).trans hgm⟩ ?_
  by_cases ht : toldB ys = true
  rotate_left
  · have hF : sizF ys = (0, false) := by simp [sizF, ht]
    rw [hF]
    simp (disch := first | omega | ((simp only [Ab.next_alloc, Ab.next_upd, List.length_cons, List.length_nil, ne_eq, not_true_eq_false, not_false_eq_true]) <;> omega) | decide) only [↓stepPre, stepPost, ↓W_cond, ↓W_block, ↓reduceIte, Nat.reduceEqDiff, Nat.reduceLT, Nat.reduceLeDiff, List.size_toArray, List.length_cons, List.length_nil, ret0, stVar, isTup, Value.cells, List.set_cons_zero, List.set_cons_succ, Nat.le_refl, Nat.reduceAdd, Nat.reduceMul, Nat.reduceSub, env0, List.getD_cons_zero, List.getD_cons_succ, binV, intV, reduceCtorEq, List.getElem?_cons_succ, List.getElem?_cons_zero, pickV, nilCheckV, ptrV, unV, true_and, and_true, List.map_cons, List.map_nil, Nat.add_zero, Nat.zero_add, Option.isNone_none, Option.isNone_some, Rt, resultsV, allV, resV, Bool.not_true, Bool.not_false, calleeV, builtinV, Option.map_some, Option.map_none, List.cons_append, List.nil_append, List.append_nil, Array.toList_append, List.toList_toArray, eqV, fieldAddrV, ldVar, stN_own, stN_ownL, Int.cast_ofNat_Int, Int.fdiv_eq_ediv_of_nonneg, Int.reduceToNat, Nat.min_eq_left, Int.reducePow, IntKind.bits, convV, ne_eq, not_false_eq_true, not_true_eq_false, Int.reduceNeg, Int.reduceAdd, Int.reduceSub, Int.reduceLT, Int.reduceLE, Option.isSome_some, extractV, decide_true, decide_false, Int.reduceEq, List.getElem?_toArray, mkFuncV, List.map_toArray, beq_self_eq_true, Ty.t27, Tryd.underlying27, Ty.t5, Tryd.underlying5, Ty.t34, Tryd.underlying34, Ty.t3, Tryd.underlying3, Ty.t4, Tryd.underlying4, Ty.t31, Tryd.underlying31, hlen, eq_self, Dok_same, Tryd.results7]
  have hF : sizF ys = ((sizN ys : Int), true) := by simp [sizF, ht]
  rw [hF]
  by_cases hz2 : sizN ys = xs.length
  · have e5 : er = 5 := by
      rw [her]; unfold errN
      rw [if_neg (by rw [hf0, if_neg hk0]; simp), if_neg (by rw [ht]; simp; omega), hz2, List.take_of_length_le (by omega), if_pos hfw]
    have c3 : ((sizN ys : Nat) : Int) = (xs.length : Int) := by omega
    simp (disch := first | omega | ((simp only [Ab.next_alloc, Ab.next_upd, List.length_cons, List.length_nil, ne_eq, not_true_eq_false, not_false_eq_true]) <;> omega) | decide) only [↓stepPre, stepPost, ↓W_cond, ↓W_block, ↓reduceIte, Nat.reduceEqDiff, Nat.reduceLT, Nat.reduceLeDiff, List.size_toArray, List.length_cons, List.length_nil, ret0, stVar, isTup, Value.cells, List.set_cons_zero, List.set_cons_succ, Nat.le_refl, Nat.reduceAdd, Nat.reduceMul, Nat.reduceSub, env0, List.getD_cons_zero, List.getD_cons_succ, binV, intV, reduceCtorEq, List.getElem?_cons_succ, List.getElem?_cons_zero, pickV, nilCheckV, ptrV, unV, true_and, and_true, List.map_cons, List.map_nil, Nat.add_zero, Nat.zero_add, Option.isNone_none, Option.isNone_some, Rt, resultsV, allV, resV, Bool.not_true, Bool.not_false, calleeV, builtinV, Option.map_some, Option.map_none, List.cons_append, List.nil_append, List.append_nil, Array.toList_append, List.toList_toArray, eqV, fieldAddrV, ldVar, stN_own, stN_ownL, Int.cast_ofNat_Int, Int.fdiv_eq_ediv_of_nonneg, Int.reduceToNat, Nat.min_eq_left, Int.reducePow, IntKind.bits, convV, ne_eq, not_false_eq_true, not_true_eq_false, Int.reduceNeg, Int.reduceAdd, Int.reduceSub, Int.reduceLT, Int.reduceLE, Option.isSome_some, extractV, decide_true, decide_false, Int.reduceEq, List.getElem?_toArray, mkFuncV, List.map_toArray, beq_self_eq_true, Ty.t27, Tryd.underlying27, Ty.t5, Tryd.underlying5, Ty.t34, Tryd.underlying34, Ty.t3, Tryd.underlying3, Ty.t4, Tryd.underlying4, Ty.t31, Tryd.underlying31, hlen, c3, e5, eq_self, Dok_same, Tryd.results7]
  · have c3 : ¬ ((sizN ys : Nat) : Int) = (xs.length : Int) := by omega
    simp (disch := first | omega | ((simp only [Ab.next_alloc, Ab.next_upd, List.length_cons, List.length_nil, ne_eq, not_true_eq_false, not_false_eq_true]) <;> omega) | decide) only [↓stepPre, stepPost, ↓W_cond, ↓W_block, ↓reduceIte, Nat.reduceEqDiff, Nat.reduceLT, Nat.reduceLeDiff, List.size_toArray, List.length_cons, List.length_nil, ret0, stVar, isTup, Value.cells, List.set_cons_zero, List.set_cons_succ, Nat.le_refl, Nat.reduceAdd, Nat.reduceMul, Nat.reduceSub, env0, List.getD_cons_zero, List.getD_cons_succ, binV, intV, reduceCtorEq, List.getElem?_cons_succ, List.getElem?_cons_zero, pickV, nilCheckV, ptrV, unV, true_and, and_true, List.map_cons, List.map_nil, Nat.add_zero, Nat.zero_add, Option.isNone_none, Option.isNone_some, Rt, resultsV, allV, resV, Bool.not_true, Bool.not_false, calleeV, builtinV, Option.map_some, Option.map_none, List.cons_append, List.nil_append, List.append_nil, Array.toList_append, List.toList_toArray, eqV, fieldAddrV, ldVar, stN_own, stN_ownL, Int.cast_ofNat_Int, Int.fdiv_eq_ediv_of_nonneg, Int.reduceToNat, Nat.min_eq_left, Int.reducePow, IntKind.bits, convV, ne_eq, not_false_eq_true, not_true_eq_false, Int.reduceNeg, Int.reduceAdd, Int.reduceSub, Int.reduceLT, Int.reduceLE, Option.isSome_some, extractV, decide_true, decide_false, Int.reduceEq, List.getElem?_toArray, mkFuncV, List.map_toArray, beq_self_eq_true, Ty.t27, Tryd.underlying27, Ty.t5, Tryd.underlying5, Ty.t34, Tryd.underlying34, Ty.t3, Tryd.underlying3, Ty.t4, Tryd.underlying4, Ty.t31, Tryd.underlying31, hlen, c3, eq_self, Dok_same, Tryd.results7]
end Go.Proofs.YtdhmjnpaoacpfaaDoor
