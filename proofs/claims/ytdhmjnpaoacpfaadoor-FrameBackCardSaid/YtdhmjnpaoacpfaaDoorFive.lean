import Derived.Test.YtdhmjnpaoacpfaaDoorTypes
import Derived.Test.YtdhmjnpaoacpfaaDoorRow0
import Derived.Test.YtdhmjnpaoacpfaaDoorAbC
import Derived.Test.YtdhmjnpaoacpfaaDoorBits
import Derived.Test.YtdhmjnpaoacpfaaDoorRefTwo
import Derived.Test.YtdhmjnpaoacpfaaDoorPure
import Derived.Test.YtdhmjnpaoacpfaaDoorRight
/- Keys by which frames win the bus: the package ident, and bellbuoyref05; as contracts. -/
set_option linter.all false
set_option maxRecDepth 20000
namespace Go.Proofs.YtdhmjnpaoacpfaaDoor
open Go Go.Ab
def stBFive := And.intro @List.size_toArray.{0} (And.intro @List.length_cons.{0} (And.intro @List.length_nil.{0} (And.intro @List.set_cons_zero.{0} (And.intro @List.set_cons_succ.{0} (And.intro @List.getD_cons_zero.{0} (And.intro @List.getD_cons_succ.{0} (And.intro @List.getElem?_cons_succ.{0} (And.intro @List.getElem?_cons_zero.{0} (And.intro @List.map_cons.{0,0} (And.intro @List.map_nil.{0,0} (And.intro @Option.isNone_none.{0} (And.intro @Option.isNone_some.{0} (And.intro @Option.map_some.{0,0} (And.intro @Option.map_none.{0,0} (And.intro @List.cons_append.{0} (And.intro @List.nil_append.{0} (And.intro @List.append_nil.{0} (And.intro @Array.toList_append.{0} (And.intro @List.toList_toArray.{0} (And.intro @Int.cast_ofNat_Int (And.intro @Option.isSome_some.{0} (And.intro @List.getElem?_toArray.{0} (And.intro @List.map_toArray.{0,0} (@Nat.min_eq_left))))))))))))))))))))))))
def glBFive := And.intro @List.drop_zero.{0} (And.intro @List.drop_succ_cons.{0} (And.intro @List.take_succ_cons.{0} (And.intro @List.take_zero.{0} (@List.take_nil.{0}))))
variable {base : Nat} [Bok base] {s : St} {R : Value → St → Prop}
theorem or_disj {x y : Nat} (k : Nat) (h1 : x % 2 ^ k = 0) (h2 : y < 2 ^ k) : x ||| y = x + y := by
  obtain ⟨c, rfl⟩ : ∃ c, x = 2 ^ k * c := ⟨x / 2 ^ k, by rw [Nat.mul_div_cancel' (Nat.dvd_of_mod_eq_zero h1)]⟩
  rw [← Nat.two_pow_add_eq_or_of_lt h2]
theorem or32_disj {x y : Nat} (k : Nat) (h1 : x % 2 ^ k = 0) (h2 : y < 2 ^ k) (h3 : x + y < 2 ^ 32) : orI .u32 (x : Int) (y : Int) = ((x + y : Nat) : Int) := by
  have e1 : ((x : Int) % 2 ^ IntKind.u32.bits).toNat = x := by simp only [IntKind.bits]; omega
  have e2 : ((y : Int) % 2 ^ IntKind.u32.bits).toNat = y := by simp only [IntKind.bits]; omega
  simp only [orI, e1, e2]
  rw [or_disj k h1 h2, IntWalk.u32_in _ (by omega)]
theorem and32_mask {x : Nat} (k : Nat) (hk : k ≤ 32) (hx : x < 2 ^ 32) : andI .u32 (x : Int) ((2 ^ k - 1 : Nat) : Int) = ((x % 2 ^ k : Nat) : Int) := by
  have hp : 2 ^ k ≤ 2 ^ 32 := Nat.pow_le_pow_right (by omega) hk
  have e1 : ((x : Int) % 2 ^ IntKind.u32.bits).toNat = x := by simp only [IntKind.bits]; omega
  have e2 : (((2 ^ k - 1 : Nat) : Int) % 2 ^ IntKind.u32.bits).toNat = 2 ^ k - 1 := by simp only [IntKind.bits]; omega
  simp only [andI, e1, e2]
  rw [Nat.and_two_pow_sub_one_eq_mod, IntWalk.u32_in _ (by have := Nat.mod_le x (2 ^ k); omega)]
theorem or32_lit {x : Nat} {y : Int} (k m : Nat) (hy : y = m) (h1 : x % 2 ^ k = 0) (h2 : m < 2 ^ k) (h3 : x + m < 2 ^ 32) : orI .u32 (x : Int) y = ((x + m : Nat) : Int) := by
  subst hy; exact or32_disj k h1 h2 h3
theorem and32_lit {x : Nat} {y : Int} (k m : Nat) (hy : y = m) (hm : m = 2 ^ k - 1) (hk : k ≤ 32) (hx : x < 2 ^ 32) : andI .u32 (x : Int) y = ((x % 2 ^ k : Nat) : Int) := by
  subst hy; subst hm; exact and32_mask k hk hx
theorem wrap32 (x : Nat) : IntKind.u32.wrap (x : Int) = ((x % 2 ^ 32 : Nat) : Int) := by
  simp [IntKind.wrap, IntKind.bits, IntKind.signed]
def ask (r : Bool) : Nat := if r then 1 else 0
theorem ask_le (r : Bool) : ask r ≤ 1 := by unfold ask; split <;> omega
def keyN (e : Bool) (n : Nat) (r : Bool) : Nat :=
  if idOk e n then (if e then ((n / 262144 * 4 + 3) * 262144 + n % 262144) * 2 + ask r else (n * 2 + ask r) * 1048576) else 0
theorem keyN_lt (e : Bool) (n : Nat) (r : Bool) : keyN e n r < 2 ^ 32 := by
  have := ask_le r
  unfold keyN
  split
  · rename_i h
    simp only [idOk, decide_eq_true_eq] at h
    cases e
    · simp only [Bool.false_eq_true, if_false] at h ⊢; omega
    · simp only [if_true] at h ⊢; omega
  · omega
theorem truth32_p {r : Bool} (hR : R (.int .u32 (ask r : Nat)) s) : WC Tryd.prog base 76 [.bool r] s R := by
  refine WC_open Tryd.func76 rfl ?_
  cases r <;> (simp (disch := first | omega | ((simp only [Ab.next_alloc, Ab.next_upd, List.length_cons, List.length_nil, ne_eq, not_true_eq_false, not_false_eq_true]) <;> omega) | decide) only [↓stepPre, stepPost, ↓W_cond, ↓W_block, ↓reduceIte, Nat.reduceEqDiff, Nat.reduceLT, Nat.reduceLeDiff, ret0, stVar, isTup, Value.cells, Nat.le_refl, Nat.reduceAdd, Nat.reduceMul, Nat.reduceSub, env0, binV, intV, reduceCtorEq, pickV, nilCheckV, ptrV, unV, true_and, and_true, Nat.add_zero, Nat.zero_add, Rt, resultsV, allV, resV, Bool.not_true, Bool.not_false, calleeV, builtinV, eqV, fieldAddrV, ldVar, stN_own, stN_ownL, Int.fdiv_eq_ediv_of_nonneg, Int.reduceToNat, Int.reducePow, IntKind.bits, convV, ne_eq, not_false_eq_true, not_true_eq_false, Int.reduceNeg, Int.reduceAdd, Int.reduceSub, Int.reduceLT, Int.reduceLE, extractV, decide_true, decide_false, Int.reduceEq, mkFuncV, stBFive, beq_self_eq_true, Ty.t27, Tryd.underlying27, Ty.t24, Tryd.underlying24, Ty.t3, Tryd.underlying3, Ty.t4, Tryd.underlying4, Ty.t22, Tryd.underlying22, Ty.t58, Tryd.underlying58, Ty.t5, Tryd.underlying5, Ty.t25, Tryd.underlying25, Ty.t34, Tryd.underlying34, Ty.t60, Tryd.underlying60, Ty.t31, Tryd.underlying31, Tryd.results76]; exact hR)
theorem ownKey_p {e : Bool} {n : Nat} {r : Bool} (hn : n < 2 ^ 32) (hR : R (.int .u32 (keyN e n r : Nat)) s) : WC Tryd.prog base 65 [idV e n, .bool r] s R := by
  refine WC_pureG rfl rfl (fun base s hB hn0 => ?_) hR
  clear hR
  have ha := ask_le r
  refine WC_open Tryd.func65 rfl ?_
  simp (disch := first | omega | ((simp only [Ab.next_alloc, Ab.next_upd, List.length_cons, List.length_nil, ne_eq, not_true_eq_false, not_false_eq_true]) <;> omega) | decide) only [↓stepPre, stepPost, ↓W_cond, ↓W_block, ↓reduceIte, Nat.reduceEqDiff, Nat.reduceLT, Nat.reduceLeDiff, ret0, stVar, isTup, Value.cells, Nat.le_refl, Nat.reduceAdd, Nat.reduceMul, Nat.reduceSub, env0, binV, intV, reduceCtorEq, pickV, nilCheckV, ptrV, unV, true_and, and_true, Nat.add_zero, Nat.zero_add, Rt, resultsV, allV, resV, Bool.not_true, Bool.not_false, calleeV, builtinV, eqV, fieldAddrV, ldVar, stN_own, stN_ownL, Int.fdiv_eq_ediv_of_nonneg, Int.reduceToNat, Int.reducePow, IntKind.bits, convV, ne_eq, not_false_eq_true, not_true_eq_false, Int.reduceNeg, Int.reduceAdd, Int.reduceSub, Int.reduceLT, Int.reduceLE, extractV, decide_true, decide_false, Int.reduceEq, mkFuncV, stBFive, beq_self_eq_true, Ty.t27, Tryd.underlying27, Ty.t24, Tryd.underlying24, Ty.t3, Tryd.underlying3, Ty.t4, Tryd.underlying4, Ty.t22, Tryd.underlying22, Ty.t58, Tryd.underlying58, Ty.t5, Tryd.underlying5, Ty.t25, Tryd.underlying25, Ty.t34, Tryd.underlying34, Ty.t60, Tryd.underlying60, Ty.t31, Tryd.underlying31, getL_take, glBFive, hn0]
  refine iright_p ?_
  cases hi : idOk e n
  · (repeat' (first | (simp (disch := first | omega | ((simp only [Ab.next_alloc, Ab.next_upd, List.length_cons, List.length_nil, ne_eq, not_true_eq_false, not_false_eq_true]) <;> omega) | decide) only [↓stepPre, stepPost, ↓W_cond, ↓W_block, ↓reduceIte, Nat.reduceEqDiff, Nat.reduceLT, Nat.reduceLeDiff, ret0, stVar, isTup, Value.cells, Nat.le_refl, Nat.reduceAdd, Nat.reduceMul, Nat.reduceSub, env0, binV, intV, reduceCtorEq, pickV, nilCheckV, ptrV, unV, true_and, and_true, Nat.add_zero, Nat.zero_add, Rt, resultsV, allV, resV, Bool.not_true, Bool.not_false, calleeV, builtinV, eqV, fieldAddrV, ldVar, stN_own, stN_ownL, Int.fdiv_eq_ediv_of_nonneg, Int.reduceToNat, Int.reducePow, IntKind.bits, convV, ne_eq, not_false_eq_true, not_true_eq_false, Int.reduceNeg, Int.reduceAdd, Int.reduceSub, Int.reduceLT, Int.reduceLE, extractV, decide_true, decide_false, Int.reduceEq, mkFuncV, stBFive, beq_self_eq_true, Ty.t27, Tryd.underlying27, Ty.t24, Tryd.underlying24, Ty.t3, Tryd.underlying3, Ty.t4, Tryd.underlying4, Ty.t22, Tryd.underlying22, Ty.t58, Tryd.underlying58, Ty.t5, Tryd.underlying5, Ty.t25, Tryd.underlying25, Ty.t34, Tryd.underlying34, Ty.t60, Tryd.underlying60, Ty.t31, Tryd.underlying31, getL_take, glBFive, Tryd.results65, Dok_free, Dok_alloc, eq_self, Int.toNat_natCast, *]) | (refine Gif_dt (fun _ => ?_) (fun _ => ?_)) | (refine Gif_df (fun _ => ?_) (fun _ => ?_)) | (refine Wif_dec (fun _ => ?_) (fun _ => ?_)) | (refine Gif_bt (fun _ => ?_) (fun _ => ?_)) | (refine Gif_bf (fun _ => ?_) (fun _ => ?_)) | (refine Wif_bool (fun _ => ?_) (fun _ => ?_)) | (exfalso; omega)))
    simp [keyN, hi]
  have hi2 := hi
  simp only [idOk, decide_eq_true_eq] at hi2
  cases e
  · simp (disch := first | omega | ((simp only [Ab.next_alloc, Ab.next_upd, List.length_cons, List.length_nil, ne_eq, not_true_eq_false, not_false_eq_true]) <;> omega) | decide) only [↓stepPre, stepPost, ↓W_cond, ↓W_block, ↓reduceIte, Nat.reduceEqDiff, Nat.reduceLT, Nat.reduceLeDiff, ret0, stVar, isTup, Value.cells, Nat.le_refl, Nat.reduceAdd, Nat.reduceMul, Nat.reduceSub, env0, binV, intV, reduceCtorEq, pickV, nilCheckV, ptrV, unV, true_and, and_true, Nat.add_zero, Nat.zero_add, Rt, resultsV, allV, resV, Bool.not_true, Bool.not_false, calleeV, builtinV, eqV, fieldAddrV, ldVar, stN_own, stN_ownL, Int.fdiv_eq_ediv_of_nonneg, Int.reduceToNat, Int.reducePow, IntKind.bits, convV, ne_eq, not_false_eq_true, not_true_eq_false, Int.reduceNeg, Int.reduceAdd, Int.reduceSub, Int.reduceLT, Int.reduceLE, extractV, decide_true, decide_false, Int.reduceEq, mkFuncV, stBFive, beq_self_eq_true, Ty.t27, Tryd.underlying27, Ty.t24, Tryd.underlying24, Ty.t3, Tryd.underlying3, Ty.t4, Tryd.underlying4, Ty.t22, Tryd.underlying22, Ty.t58, Tryd.underlying58, Ty.t5, Tryd.underlying5, Ty.t25, Tryd.underlying25, Ty.t34, Tryd.underlying34, Ty.t60, Tryd.underlying60, Ty.t31, Tryd.underlying31, getL_take, glBFive, hn0, Bool.false_eq_true]
    simp only [Bool.false_eq_true, if_false] at hi2
    refine W_draw (fun _ => false) (fun _ => false) (fun _ => false) (by kernel_rfl) (by kernel_rfl) ?_
    have h1 : IntKind.u32.wrap ((n : Int) * 2097152) = ((n * 2097152 : Nat) : Int) := by rw [IntWalk.u32_in _ (by omega)]; omega
    have h2 : IntKind.u32.wrap (((ask r : Nat) : Int) * 1048576) = ((ask r * 1048576 : Nat) : Int) := by rw [IntWalk.u32_in _ (by omega)]; omega
    simp (disch := first | omega | ((simp only [Ab.next_alloc, Ab.next_upd, List.length_cons, List.length_nil, ne_eq, not_true_eq_false, not_false_eq_true]) <;> omega) | decide) only [↓stepPre, stepPost, ↓W_cond, ↓W_block, ↓reduceIte, Nat.reduceEqDiff, Nat.reduceLT, Nat.reduceLeDiff, ret0, stVar, isTup, Value.cells, Nat.le_refl, Nat.reduceAdd, Nat.reduceMul, Nat.reduceSub, env0, binV, intV, reduceCtorEq, pickV, nilCheckV, ptrV, unV, true_and, and_true, Nat.add_zero, Nat.zero_add, Rt, resultsV, allV, resV, Bool.not_true, Bool.not_false, calleeV, builtinV, eqV, fieldAddrV, ldVar, stN_own, stN_ownL, Int.fdiv_eq_ediv_of_nonneg, Int.reduceToNat, Int.reducePow, IntKind.bits, convV, ne_eq, not_false_eq_true, not_true_eq_false, Int.reduceNeg, Int.reduceAdd, Int.reduceSub, Int.reduceLT, Int.reduceLE, extractV, decide_true, decide_false, Int.reduceEq, mkFuncV, stBFive, beq_self_eq_true, Ty.t27, Tryd.underlying27, Ty.t24, Tryd.underlying24, Ty.t3, Tryd.underlying3, Ty.t4, Tryd.underlying4, Ty.t22, Tryd.underlying22, Ty.t58, Tryd.underlying58, Ty.t5, Tryd.underlying5, Ty.t25, Tryd.underlying25, Ty.t34, Tryd.underlying34, Ty.t60, Tryd.underlying60, Ty.t31, Tryd.underlying31, getL_take, glBFive, hn0, h1]
    refine truth32_p ?_
    simp (disch := first | omega | ((simp only [Ab.next_alloc, Ab.next_upd, List.length_cons, List.length_nil, ne_eq, not_true_eq_false, not_false_eq_true]) <;> omega) | decide) only [↓stepPre, stepPost, ↓W_cond, ↓W_block, ↓reduceIte, Nat.reduceEqDiff, Nat.reduceLT, Nat.reduceLeDiff, ret0, stVar, isTup, Value.cells, Nat.le_refl, Nat.reduceAdd, Nat.reduceMul, Nat.reduceSub, env0, binV, intV, reduceCtorEq, pickV, nilCheckV, ptrV, unV, true_and, and_true, Nat.add_zero, Nat.zero_add, Rt, resultsV, allV, resV, Bool.not_true, Bool.not_false, calleeV, builtinV, eqV, fieldAddrV, ldVar, stN_own, stN_ownL, Int.fdiv_eq_ediv_of_nonneg, Int.reduceToNat, Int.reducePow, IntKind.bits, convV, ne_eq, not_false_eq_true, not_true_eq_false, Int.reduceNeg, Int.reduceAdd, Int.reduceSub, Int.reduceLT, Int.reduceLE, extractV, decide_true, decide_false, Int.reduceEq, mkFuncV, stBFive, beq_self_eq_true, Ty.t27, Tryd.underlying27, Ty.t24, Tryd.underlying24, Ty.t3, Tryd.underlying3, Ty.t4, Tryd.underlying4, Ty.t22, Tryd.underlying22, Ty.t58, Tryd.underlying58, Ty.t5, Tryd.underlying5, Ty.t25, Tryd.underlying25, Ty.t34, Tryd.underlying34, Ty.t60, Tryd.underlying60, Ty.t31, Tryd.underlying31, getL_take, glBFive, hn0, h1, h2, or32_disj 21 (x := n * 2097152) (y := ask r * 1048576), Tryd.results65]
    simp only [keyN, hi, if_true, Bool.false_eq_true, if_false, Value.int.injEq, true_and]
    omega
  · simp (disch := first | omega | ((simp only [Ab.next_alloc, Ab.next_upd, List.length_cons, List.length_nil, ne_eq, not_true_eq_false, not_false_eq_true]) <;> omega) | decide) only [↓stepPre, stepPost, ↓W_cond, ↓W_block, ↓reduceIte, Nat.reduceEqDiff, Nat.reduceLT, Nat.reduceLeDiff, ret0, stVar, isTup, Value.cells, Nat.le_refl, Nat.reduceAdd, Nat.reduceMul, Nat.reduceSub, env0, binV, intV, reduceCtorEq, pickV, nilCheckV, ptrV, unV, true_and, and_true, Nat.add_zero, Nat.zero_add, Rt, resultsV, allV, resV, Bool.not_true, Bool.not_false, calleeV, builtinV, eqV, fieldAddrV, ldVar, stN_own, stN_ownL, Int.fdiv_eq_ediv_of_nonneg, Int.reduceToNat, Int.reducePow, IntKind.bits, convV, ne_eq, not_false_eq_true, not_true_eq_false, Int.reduceNeg, Int.reduceAdd, Int.reduceSub, Int.reduceLT, Int.reduceLE, extractV, decide_true, decide_false, Int.reduceEq, mkFuncV, stBFive, beq_self_eq_true, Ty.t27, Tryd.underlying27, Ty.t24, Tryd.underlying24, Ty.t3, Tryd.underlying3, Ty.t4, Tryd.underlying4, Ty.t22, Tryd.underlying22, Ty.t58, Tryd.underlying58, Ty.t5, Tryd.underlying5, Ty.t25, Tryd.underlying25, Ty.t34, Tryd.underlying34, Ty.t60, Tryd.underlying60, Ty.t31, Tryd.underlying31, getL_take, glBFive, hn0]
    simp only [if_true] at hi2
    refine W_draw (fun _ => false) (fun _ => false) (fun _ => false) (by kernel_rfl) (by kernel_rfl) ?_
    have h0 : (n : Int) / 262144 = ((n / 262144 : Nat) : Int) := by omega
    have h1 : IntKind.u32.wrap (((n / 262144 : Nat) : Int) * 2097152) = ((n / 262144 * 2097152 : Nat) : Int) := by rw [IntWalk.u32_in _ (by omega)]; omega
    have h2 : andI .u32 (n : Int) 262143 = ((n % 262144 : Nat) : Int) := and32_lit 18 262143 (by omega) (by decide) (by omega) hn
    have h3 : IntKind.u32.wrap (((n % 262144 : Nat) : Int) * 2) = ((n % 262144 * 2 : Nat) : Int) := by rw [IntWalk.u32_in _ (by omega)]; omega
    have o1 : orI .u32 ((n / 262144 * 2097152 : Nat) : Int) 1572864 = ((n / 262144 * 2097152 + 1572864 : Nat) : Int) := or32_lit 21 1572864 (by omega) (by omega) (by omega) (by omega)
    have o2 := or32_disj 19 (x := n / 262144 * 2097152 + 1572864) (y := n % 262144 * 2) (by omega) (by omega) (by omega)
    have o3 := or32_disj 1 (x := n / 262144 * 2097152 + 1572864 + n % 262144 * 2) (y := ask r) (by omega) (by omega) (by omega)
    simp (disch := first | omega | ((simp only [Ab.next_alloc, Ab.next_upd, List.length_cons, List.length_nil, ne_eq, not_true_eq_false, not_false_eq_true]) <;> omega) | decide) only [↓stepPre, stepPost, ↓W_cond, ↓W_block, ↓reduceIte, Nat.reduceEqDiff, Nat.reduceLT, Nat.reduceLeDiff, ret0, stVar, isTup, Value.cells, Nat.le_refl, Nat.reduceAdd, Nat.reduceMul, Nat.reduceSub, env0, binV, intV, reduceCtorEq, pickV, nilCheckV, ptrV, unV, true_and, and_true, Nat.add_zero, Nat.zero_add, Rt, resultsV, allV, resV, Bool.not_true, Bool.not_false, calleeV, builtinV, eqV, fieldAddrV, ldVar, stN_own, stN_ownL, Int.fdiv_eq_ediv_of_nonneg, Int.reduceToNat, Int.reducePow, IntKind.bits, convV, ne_eq, not_false_eq_true, not_true_eq_false, Int.reduceNeg, Int.reduceAdd, Int.reduceSub, Int.reduceLT, Int.reduceLE, extractV, decide_true, decide_false, Int.reduceEq, mkFuncV, stBFive, beq_self_eq_true, Ty.t27, Tryd.underlying27, Ty.t24, Tryd.underlying24, Ty.t3, Tryd.underlying3, Ty.t4, Tryd.underlying4, Ty.t22, Tryd.underlying22, Ty.t58, Tryd.underlying58, Ty.t5, Tryd.underlying5, Ty.t25, Tryd.underlying25, Ty.t34, Tryd.underlying34, Ty.t60, Tryd.underlying60, Ty.t31, Tryd.underlying31, getL_take, glBFive, hn0, h0, h1, h2, h3, o1, o2]
    refine truth32_p ?_
    simp (disch := first | omega | ((simp only [Ab.next_alloc, Ab.next_upd, List.length_cons, List.length_nil, ne_eq, not_true_eq_false, not_false_eq_true]) <;> omega) | decide) only [↓stepPre, stepPost, ↓W_cond, ↓W_block, ↓reduceIte, Nat.reduceEqDiff, Nat.reduceLT, Nat.reduceLeDiff, ret0, stVar, isTup, Value.cells, Nat.le_refl, Nat.reduceAdd, Nat.reduceMul, Nat.reduceSub, env0, binV, intV, reduceCtorEq, pickV, nilCheckV, ptrV, unV, true_and, and_true, Nat.add_zero, Nat.zero_add, Rt, resultsV, allV, resV, Bool.not_true, Bool.not_false, calleeV, builtinV, eqV, fieldAddrV, ldVar, stN_own, stN_ownL, Int.fdiv_eq_ediv_of_nonneg, Int.reduceToNat, Int.reducePow, IntKind.bits, convV, ne_eq, not_false_eq_true, not_true_eq_false, Int.reduceNeg, Int.reduceAdd, Int.reduceSub, Int.reduceLT, Int.reduceLE, extractV, decide_true, decide_false, Int.reduceEq, mkFuncV, stBFive, beq_self_eq_true, Ty.t27, Tryd.underlying27, Ty.t24, Tryd.underlying24, Ty.t3, Tryd.underlying3, Ty.t4, Tryd.underlying4, Ty.t22, Tryd.underlying22, Ty.t58, Tryd.underlying58, Ty.t5, Tryd.underlying5, Ty.t25, Tryd.underlying25, Ty.t34, Tryd.underlying34, Ty.t60, Tryd.underlying60, Ty.t31, Tryd.underlying31, getL_take, glBFive, hn0, h0, h1, h2, h3, o1, o2, o3, Tryd.results65]
    simp only [keyN, hi, if_true, Value.int.injEq, true_and]
    omega
/-! ### The document's -/
def bits5 (e : Bool) (n : Nat) (r : Bool) : List Nat := if e then bitsOf (n / 262144) 11 ++ [1, 1] ++ bitsOf n 18 ++ [ask r] else bitsOf ((n * 2 + ask r) * 2) 13
theorem bits5_ok {e : Bool} {n : Nat} {r : Bool} (hn : n < 2 ^ 32) (hi : idOk e n = true) (hbn : base ≤ s.next) (hR : ∀ v' s', Mild s s' → Sl base s' 1 v' (bL (bits5 e n r)) → Tight base v' → (∀ b, inB v' b → s.next ≤ b) → R v' s') :
    WC Tryd.prog base 40 [idV e n, .bool r] s R := by
  refine WC_open Tryd.func40 rfl ?_
  have ha := ask_le r
  have hi2 := hi
  simp only [idOk, decide_eq_true_eq] at hi2
  simp (disch := first | omega | ((simp only [Ab.next_alloc, Ab.next_upd, List.length_cons, List.length_nil, ne_eq, not_true_eq_false, not_false_eq_true]) <;> omega) | decide) only [↓stepPre, stepPost, ↓W_cond, ↓W_block, ↓reduceIte, Nat.reduceEqDiff, Nat.reduceLT, Nat.reduceLeDiff, ret0, stVar, isTup, Value.cells, Nat.le_refl, Nat.reduceAdd, Nat.reduceMul, Nat.reduceSub, env0, binV, intV, reduceCtorEq, pickV, nilCheckV, ptrV, unV, true_and, and_true, Nat.add_zero, Nat.zero_add, Rt, resultsV, allV, resV, Bool.not_true, Bool.not_false, calleeV, builtinV, eqV, fieldAddrV, ldVar, stN_own, stN_ownL, Int.fdiv_eq_ediv_of_nonneg, Int.reduceToNat, Int.reducePow, IntKind.bits, convV, ne_eq, not_false_eq_true, not_true_eq_false, Int.reduceNeg, Int.reduceAdd, Int.reduceSub, Int.reduceLT, Int.reduceLE, extractV, decide_true, decide_false, Int.reduceEq, mkFuncV, stBFive, beq_self_eq_true, Ty.t27, Tryd.underlying27, Ty.t24, Tryd.underlying24, Ty.t3, Tryd.underlying3, Ty.t4, Tryd.underlying4, Ty.t22, Tryd.underlying22, Ty.t58, Tryd.underlying58, Ty.t5, Tryd.underlying5, Ty.t25, Tryd.underlying25, Ty.t34, Tryd.underlying34, Ty.t60, Tryd.underlying60, Ty.t31, Tryd.underlying31, getL_take, glBFive]
  refine r05right_p ?_
  have hdiv : (n : Int) / 262144 = ((n / 262144 : Nat) : Int) := by omega
  have hmB := Mild.alloc s (.row [.bool e, .int .u32 (n : Int)])
  have hask : IntKind.u8.wrap ((ask r : Nat) : Int) = ((ask r : Nat) : Int) := by rw [IntWalk.u8_in _ (by omega)]
  simp (disch := first | omega | ((simp only [Ab.next_alloc, Ab.next_upd, List.length_cons, List.length_nil, ne_eq, not_true_eq_false, not_false_eq_true]) <;> omega) | decide) only [↓stepPre, stepPost, ↓W_block, ↓reduceIte, Nat.reduceEqDiff, Nat.reduceLT, Nat.reduceLeDiff, ret0, stVar, isTup, Value.cells, Nat.le_refl, Nat.reduceAdd, Nat.reduceMul, Nat.reduceSub, env0, binV, intV, reduceCtorEq, pickV, nilCheckV, ptrV, unV, true_and, and_true, Nat.add_zero, Nat.zero_add, Rt, resultsV, allV, resV, Bool.not_true, Bool.not_false, calleeV, builtinV, eqV, fieldAddrV, ldVar, stN_own, stN_ownL, Int.fdiv_eq_ediv_of_nonneg, Int.reduceToNat, Int.reducePow, IntKind.bits, convV, ne_eq, not_false_eq_true, not_true_eq_false, Int.reduceNeg, Int.reduceAdd, Int.reduceSub, Int.reduceLT, Int.reduceLE, extractV, decide_true, decide_false, Int.reduceEq, mkFuncV, stBFive, beq_self_eq_true, Ty.t27, Tryd.underlying27, Ty.t24, Tryd.underlying24, Ty.t3, Tryd.underlying3, Ty.t4, Tryd.underlying4, Ty.t22, Tryd.underlying22, Ty.t58, Tryd.underlying58, Ty.t5, Tryd.underlying5, Ty.t25, Tryd.underlying25, Ty.t34, Tryd.underlying34, Ty.t60, Tryd.underlying60, Ty.t31, Tryd.underlying31, getL_take, glBFive, hi]
  rw [W_cond]
  simp (disch := first | omega | ((simp only [Ab.next_alloc, Ab.next_upd, List.length_cons, List.length_nil, ne_eq, not_true_eq_false, not_false_eq_true]) <;> omega) | decide) only [↓stepPre, stepPost, ↓W_block, ↓reduceIte, Nat.reduceEqDiff, Nat.reduceLT, Nat.reduceLeDiff, ret0, stVar, isTup, Value.cells, Nat.le_refl, Nat.reduceAdd, Nat.reduceMul, Nat.reduceSub, env0, binV, intV, reduceCtorEq, pickV, nilCheckV, ptrV, unV, true_and, and_true, Nat.add_zero, Nat.zero_add, Rt, resultsV, allV, resV, Bool.not_true, Bool.not_false, calleeV, builtinV, eqV, fieldAddrV, ldVar, stN_own, stN_ownL, Int.fdiv_eq_ediv_of_nonneg, Int.reduceToNat, Int.reducePow, IntKind.bits, convV, ne_eq, not_false_eq_true, not_true_eq_false, Int.reduceNeg, Int.reduceAdd, Int.reduceSub, Int.reduceLT, Int.reduceLE, extractV, decide_true, decide_false, Int.reduceEq, mkFuncV, stBFive, beq_self_eq_true, Ty.t27, Tryd.underlying27, Ty.t24, Tryd.underlying24, Ty.t3, Tryd.underlying3, Ty.t4, Tryd.underlying4, Ty.t22, Tryd.underlying22, Ty.t58, Tryd.underlying58, Ty.t5, Tryd.underlying5, Ty.t25, Tryd.underlying25, Ty.t34, Tryd.underlying34, Ty.t60, Tryd.underlying60, Ty.t31, Tryd.underlying31, getL_take, glBFive]
  refine W_mid (fun e' s' => e' 5 = .int .u64 ((ask r : Nat) : Int) ∧ e' 2 = .pointer (some ⟨s.next, 0, none⟩) ∧ s' = s.alloc (.row [.bool e, .int .u32 (n : Int)])) ?_ ?_
  · cases r <;> (simp (disch := first | omega | ((simp only [Ab.next_alloc, Ab.next_upd, List.length_cons, List.length_nil, ne_eq, not_true_eq_false, not_false_eq_true]) <;> omega) | decide) only [↓stepPre, stepPost, ↓W_cond, ↓W_block, ↓reduceIte, Nat.reduceEqDiff, Nat.reduceLT, Nat.reduceLeDiff, ret0, stVar, isTup, Value.cells, Nat.le_refl, Nat.reduceAdd, Nat.reduceMul, Nat.reduceSub, env0, binV, intV, reduceCtorEq, pickV, nilCheckV, ptrV, unV, true_and, and_true, Nat.add_zero, Nat.zero_add, Rt, resultsV, allV, resV, Bool.not_true, Bool.not_false, calleeV, builtinV, eqV, fieldAddrV, ldVar, stN_own, stN_ownL, Int.fdiv_eq_ediv_of_nonneg, Int.reduceToNat, Int.reducePow, IntKind.bits, convV, ne_eq, not_false_eq_true, not_true_eq_false, Int.reduceNeg, Int.reduceAdd, Int.reduceSub, Int.reduceLT, Int.reduceLE, extractV, decide_true, decide_false, Int.reduceEq, mkFuncV, stBFive, beq_self_eq_true, Ty.t27, Tryd.underlying27, Ty.t24, Tryd.underlying24, Ty.t3, Tryd.underlying3, Ty.t4, Tryd.underlying4, Ty.t22, Tryd.underlying22, Ty.t58, Tryd.underlying58, Ty.t5, Tryd.underlying5, Ty.t25, Tryd.underlying25, Ty.t34, Tryd.underlying34, Ty.t60, Tryd.underlying60, Ty.t31, Tryd.underlying31, getL_take, glBFive]; rfl)
  rintro e' s' ⟨h5, h2, rfl⟩
  cases e
  · have hmul : ((n : Int) * 2 + ((ask r : Nat) : Int)) * 2 = (((n * 2 + ask r) * 2 : Nat) : Int) := by omega
    simp only [Bool.false_eq_true, if_false] at hi2
    simp (disch := first | omega | ((simp only [Ab.next_alloc, Ab.next_upd, List.length_cons, List.length_nil, ne_eq, not_true_eq_false, not_false_eq_true]) <;> omega) | decide) only [↓stepPre, stepPost, ↓W_cond, ↓W_block, ↓reduceIte, Nat.reduceEqDiff, Nat.reduceLT, Nat.reduceLeDiff, ret0, stVar, isTup, Value.cells, Nat.le_refl, Nat.reduceAdd, Nat.reduceMul, Nat.reduceSub, env0, binV, intV, reduceCtorEq, pickV, nilCheckV, ptrV, unV, true_and, and_true, Nat.add_zero, Nat.zero_add, Rt, resultsV, allV, resV, Bool.not_true, Bool.not_false, calleeV, builtinV, eqV, fieldAddrV, ldVar, stN_own, stN_ownL, Int.fdiv_eq_ediv_of_nonneg, Int.reduceToNat, Int.reducePow, IntKind.bits, convV, ne_eq, not_false_eq_true, not_true_eq_false, Int.reduceNeg, Int.reduceAdd, Int.reduceSub, Int.reduceLT, Int.reduceLE, extractV, decide_true, decide_false, Int.reduceEq, mkFuncV, stBFive, beq_self_eq_true, Ty.t27, Tryd.underlying27, Ty.t24, Tryd.underlying24, Ty.t3, Tryd.underlying3, Ty.t4, Tryd.underlying4, Ty.t22, Tryd.underlying22, Ty.t58, Tryd.underlying58, Ty.t5, Tryd.underlying5, Ty.t25, Tryd.underlying25, Ty.t34, Tryd.underlying34, Ty.t60, Tryd.underlying60, Ty.t31, Tryd.underlying31, getL_take, glBFive, h5, h2, hmul]
    refine of_ok (n := (n * 2 + ask r) * 2) (k := 13) (by omega) (by omega) (by simp only [Ab.next_alloc]; omega) fun v' s' hm hv ht hw => ?_
    simp (disch := first | omega | ((simp only [Ab.next_alloc, Ab.next_upd, List.length_cons, List.length_nil, ne_eq, not_true_eq_false, not_false_eq_true]) <;> omega) | decide) only [↓stepPre, stepPost, ↓W_cond, ↓W_block, ↓reduceIte, Nat.reduceEqDiff, Nat.reduceLT, Nat.reduceLeDiff, ret0, stVar, isTup, Value.cells, Nat.le_refl, Nat.reduceAdd, Nat.reduceMul, Nat.reduceSub, env0, binV, intV, reduceCtorEq, pickV, nilCheckV, ptrV, unV, true_and, and_true, Nat.add_zero, Nat.zero_add, Rt, resultsV, allV, resV, Bool.not_true, Bool.not_false, calleeV, builtinV, eqV, fieldAddrV, ldVar, stN_own, stN_ownL, Int.fdiv_eq_ediv_of_nonneg, Int.reduceToNat, Int.reducePow, IntKind.bits, convV, ne_eq, not_false_eq_true, not_true_eq_false, Int.reduceNeg, Int.reduceAdd, Int.reduceSub, Int.reduceLT, Int.reduceLE, extractV, decide_true, decide_false, Int.reduceEq, mkFuncV, stBFive, beq_self_eq_true, Tryd.results40]
    refine hR _ _ (hmB.trans hm) (by simpa [bits5] using hv) ht fun b hb => ?_
    have := hw b hb; simp only [Ab.next_alloc] at this; omega
  · simp (disch := first | omega | ((simp only [Ab.next_alloc, Ab.next_upd, List.length_cons, List.length_nil, ne_eq, not_true_eq_false, not_false_eq_true]) <;> omega) | decide) only [↓stepPre, stepPost, ↓W_cond, ↓W_block, ↓reduceIte, Nat.reduceEqDiff, Nat.reduceLT, Nat.reduceLeDiff, ret0, stVar, isTup, Value.cells, Nat.le_refl, Nat.reduceAdd, Nat.reduceMul, Nat.reduceSub, env0, binV, intV, reduceCtorEq, pickV, nilCheckV, ptrV, unV, true_and, and_true, Nat.add_zero, Nat.zero_add, Rt, resultsV, allV, resV, Bool.not_true, Bool.not_false, calleeV, builtinV, eqV, fieldAddrV, ldVar, stN_own, stN_ownL, Int.fdiv_eq_ediv_of_nonneg, Int.reduceToNat, Int.reducePow, IntKind.bits, convV, ne_eq, not_false_eq_true, not_true_eq_false, Int.reduceNeg, Int.reduceAdd, Int.reduceSub, Int.reduceLT, Int.reduceLE, extractV, decide_true, decide_false, Int.reduceEq, mkFuncV, stBFive, beq_self_eq_true, Ty.t27, Tryd.underlying27, Ty.t24, Tryd.underlying24, Ty.t3, Tryd.underlying3, Ty.t4, Tryd.underlying4, Ty.t22, Tryd.underlying22, Ty.t58, Tryd.underlying58, Ty.t5, Tryd.underlying5, Ty.t25, Tryd.underlying25, Ty.t34, Tryd.underlying34, Ty.t60, Tryd.underlying60, Ty.t31, Tryd.underlying31, getL_take, glBFive, h5, h2, hdiv]
    refine of_ok (n := n / 262144) (k := 11) (by omega) (by omega) (by simp only [Ab.next_alloc]; omega) fun v1 s1 hm1 hv1 ht1 hw1 => ?_
    have hn1 := hm1.next
    simp only [Ab.next_alloc] at hn1
    have g2 : Sl base (s1.alloc (.row [.int .u8 1, .int .u8 1])) 1 (.slice (some ⟨s1.next, 0, none⟩) 2 2) (bL [1, 1]) := newBytes (by omega) rfl rfl
    obtain ⟨v2, s2, e1, e2, e3, e4, e5⟩ := app_new (hv1.mild (Mild.alloc _ (.row [.int .u8 1, .int .u8 1]))) ht1 (by simp only [Ab.next_alloc]; omega) g2 (by rw [bitsOf_len]; simp)
    have hn2 := e4.next
    simp only [Ab.next_alloc] at hn2
    have hm2 : Mild (s.alloc (.row [.bool true, .int .u32 (n : Int)])) s2 := (Ch.after (Ch.of_mild (hm1.alloc' (o := .row [.int .u8 1, .int .u8 1])) (fun b => s.next + 1 ≤ b)) e4 fun b hb hi => by have := hw1 b hi; simpa only [Ab.next_alloc] using this).mild fun b hb h => by simp only [Ab.next_alloc] at hb; omega
    have hfr : s2.heap s.next = .row [.bool true, .int .u32 (n : Int)] := by rw [hm2.heap _ (by simp only [Ab.next_alloc]; omega), Ab.heap_alloc_new]
    have hw2 : ∀ b, inB v2 b → s.next + 1 ≤ b := fun b hb => by
      rcases e5 b hb with h | h
      · simp only [Ab.next_alloc] at h; omega
      · have := hw1 b h; simpa only [Ab.next_alloc] using this
    simp (disch := first | omega | ((simp only [Ab.next_alloc, Ab.next_upd, List.length_cons, List.length_nil, ne_eq, not_true_eq_false, not_false_eq_true]) <;> omega) | decide) only [↓stepPre, stepPost, ↓W_cond, ↓W_block, ↓reduceIte, Nat.reduceEqDiff, Nat.reduceLT, Nat.reduceLeDiff, ret0, stVar, isTup, Value.cells, Nat.le_refl, Nat.reduceAdd, Nat.reduceMul, Nat.reduceSub, env0, binV, intV, reduceCtorEq, pickV, nilCheckV, ptrV, unV, true_and, and_true, Nat.add_zero, Nat.zero_add, Rt, resultsV, allV, resV, Bool.not_true, Bool.not_false, calleeV, builtinV, eqV, fieldAddrV, ldVar, stN_own, stN_ownL, Int.fdiv_eq_ediv_of_nonneg, Int.reduceToNat, Int.reducePow, IntKind.bits, convV, ne_eq, not_false_eq_true, not_true_eq_false, Int.reduceNeg, Int.reduceAdd, Int.reduceSub, Int.reduceLT, Int.reduceLE, extractV, decide_true, decide_false, Int.reduceEq, mkFuncV, stBFive, beq_self_eq_true, Ty.t27, Tryd.underlying27, Ty.t24, Tryd.underlying24, Ty.t3, Tryd.underlying3, Ty.t4, Tryd.underlying4, Ty.t22, Tryd.underlying22, Ty.t58, Tryd.underlying58, Ty.t5, Tryd.underlying5, Ty.t25, Tryd.underlying25, Ty.t34, Tryd.underlying34, Ty.t60, Tryd.underlying60, Ty.t31, Tryd.underlying31, getL_take, glBFive, h5, h2, build2i Ty.elem34 Ty.siz5 Ty.zer5, e1, hfr]
    refine of_ok (n := n) (k := 18) (by omega) (by omega) (by omega) fun v3 s3 hm3 hv3 ht3 hw3 => ?_
    have hn3 := hm3.next
    obtain ⟨v4, s4, f1, f2, f3, f4, f5⟩ := app_new (e2.mild hm3) e3 (by omega) hv3 (by rw [bitsOf_len, List.length_append, bitsOf_len]; simp)
    have hn4 := f4.next
    have g5 : Sl base (s4.alloc (.row [.int .u8 ((ask r : Nat) : Int)])) 1 (.slice (some ⟨s4.next, 0, none⟩) 1 1) (bL [ask r]) := newBytes (by omega) rfl rfl
    obtain ⟨v5, s5, k1, k2, k3, k4, k5⟩ := app_new (f2.mild (Mild.alloc _ (.row [.int .u8 ((ask r : Nat) : Int)]))) f3 (by simp only [Ab.next_alloc]; omega) g5 (by simp only [List.length_append, bitsOf_len]; simp)
    have hw4 : ∀ b, inB v4 b → s.next + 1 ≤ b := fun b hb => by
      rcases f5 b hb with h | h
      · omega
      · exact hw2 b h
    have hm4 : Mild (s.alloc (.row [.bool true, .int .u32 (n : Int)])) s4 := (Ch.after (Ch.of_mild (hm2.trans hm3) (fun b => s.next + 1 ≤ b)) f4 fun b hb hi => hw2 b hi).mild fun b hb h => by simp only [Ab.next_alloc] at hb; omega
    have hm5 : Mild (s.alloc (.row [.bool true, .int .u32 (n : Int)])) s5 := (Ch.after (Ch.of_mild (hm4.alloc' (o := .row [.int .u8 ((ask r : Nat) : Int)])) (fun b => s.next + 1 ≤ b)) k4 fun b hb hi => hw4 b hi).mild fun b hb h => by simp only [Ab.next_alloc] at hb; omega
    simp (disch := first | omega | ((simp only [Ab.next_alloc, Ab.next_upd, List.length_cons, List.length_nil, ne_eq, not_true_eq_false, not_false_eq_true]) <;> omega) | decide) only [↓stepPre, stepPost, ↓W_cond, ↓W_block, ↓reduceIte, Nat.reduceEqDiff, Nat.reduceLT, Nat.reduceLeDiff, ret0, stVar, isTup, Value.cells, Nat.le_refl, Nat.reduceAdd, Nat.reduceMul, Nat.reduceSub, env0, binV, intV, reduceCtorEq, pickV, nilCheckV, ptrV, unV, true_and, and_true, Nat.add_zero, Nat.zero_add, Rt, resultsV, allV, resV, Bool.not_true, Bool.not_false, calleeV, builtinV, eqV, fieldAddrV, ldVar, stN_own, stN_ownL, Int.fdiv_eq_ediv_of_nonneg, Int.reduceToNat, Int.reducePow, IntKind.bits, convV, ne_eq, not_false_eq_true, not_true_eq_false, Int.reduceNeg, Int.reduceAdd, Int.reduceSub, Int.reduceLT, Int.reduceLE, extractV, decide_true, decide_false, Int.reduceEq, mkFuncV, stBFive, beq_self_eq_true, Ty.t27, Tryd.underlying27, Ty.t24, Tryd.underlying24, Ty.t3, Tryd.underlying3, Ty.t4, Tryd.underlying4, Ty.t22, Tryd.underlying22, Ty.t58, Tryd.underlying58, Ty.t5, Tryd.underlying5, Ty.t25, Tryd.underlying25, Ty.t34, Tryd.underlying34, Ty.t60, Tryd.underlying60, Ty.t31, Tryd.underlying31, getL_take, glBFive, h5, h2, hask, f1, build1i Ty.elem34 Ty.siz5 Ty.zer5, k1, Tryd.results40]
    refine hR _ _ (hmB.trans hm5) (by simpa [bits5] using k2) k3 fun b hb => ?_
    rcases k5 b hb with h | h
    · simp only [Ab.next_alloc] at h; omega
    · have := hw4 b h; omega
theorem bits5_len (e : Bool) (n : Nat) (r : Bool) : (bits5 e n r).length = if e then 32 else 13 := by cases e <;> simp [bits5, bitsOf_len]
theorem num_zeros (xs : List Nat) (t : Nat) : numOf (xs ++ List.replicate t 0) = numOf xs * 2 ^ t := by
  rw [numOf_append, List.length_replicate]
  have : ∀ t, numOf (List.replicate t 0) = 0 := fun t => by
    induction t with
    | zero => rfl
    | succ t ih => rw [List.replicate_succ', numOf_snoc, ih]; rfl
  rw [this]; omega
theorem one_ask (r : Bool) : one (ask r) = ask r := by cases r <;> rfl
theorem key5_num {e : Bool} {n : Nat} (r : Bool) (hi : idOk e n = true) : numOf (bits5 e n r ++ List.replicate (32 - (bits5 e n r).length) 0) = keyN e n r := by
  have ha := ask_le r
  rw [num_zeros, bits5_len]
  unfold keyN
  rw [if_pos hi]
  simp only [idOk, decide_eq_true_eq] at hi
  cases e
  · simp only [Bool.false_eq_true, if_false] at hi
    simp only [bits5, Bool.false_eq_true, if_false, numOf_bits, Nat.reduceSub, Nat.reducePow]
    omega
  · simp only [if_true] at hi
    have h3 : numOf [1, 1] = 3 := by decide
    have h4 : numOf [ask r] = ask r := by cases r <;> decide
    simp only [bits5, if_true, numOf_append, numOf_bits, bitsOf_len, h3, h4, List.length_cons, List.length_nil, Nat.reduceSub, Nat.reducePow, Nat.reduceAdd, Nat.mul_one]
    omega
/-! ### Numbers compared -/
end Go.Proofs.YtdhmjnpaoacpfaaDoor
