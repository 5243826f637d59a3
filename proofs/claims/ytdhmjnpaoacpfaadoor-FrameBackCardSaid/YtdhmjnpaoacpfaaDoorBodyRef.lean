/- Frames' bodies (the document's answer), as a contract; both sides' bits are the same. -/
import Derived.Test.YtdhmjnpaoacpfaaDoorTypes
import Derived.Test.YtdhmjnpaoacpfaaDoorRow0
import Derived.Test.YtdhmjnpaoacpfaaDoorAbC
import Derived.Test.YtdhmjnpaoacpfaaDoorBits
import Derived.Test.YtdhmjnpaoacpfaaDoorOwnOf
import Derived.Test.YtdhmjnpaoacpfaaDoorRefTwo
import Derived.Test.YtdhmjnpaoacpfaaDoorUnpack
import Derived.Test.YtdhmjnpaoacpfaaDoorPure
import Derived.Test.YtdhmjnpaoacpfaaDoorRight
import Derived.Test.YtdhmjnpaoacpfaaDoorFive
import Derived.Test.YtdhmjnpaoacpfaaDoorBoxes
import Derived.Test.YtdhmjnpaoacpfaaDoorBody
import Derived.Test.YtdhmjnpaoacpfaaDoorCrcMore
set_option linter.all false
set_option maxRecDepth 20000
namespace Go.Proofs.YtdhmjnpaoacpfaaDoor
open Go Go.Ab
def stBBodyRef := And.intro @List.size_toArray.{0} (And.intro @List.length_cons.{0} (And.intro @List.length_nil.{0} (And.intro @List.set_cons_zero.{0} (And.intro @List.set_cons_succ.{0} (And.intro @List.getD_cons_zero.{0} (And.intro @List.getD_cons_succ.{0} (And.intro @List.getElem?_cons_succ.{0} (And.intro @List.getElem?_cons_zero.{0} (And.intro @List.map_cons.{0,0} (And.intro @List.map_nil.{0,0} (And.intro @Option.isNone_none.{0} (And.intro @Option.isNone_some.{0} (And.intro @Option.map_some.{0,0} (And.intro @Option.map_none.{0,0} (And.intro @List.cons_append.{0} (And.intro @List.nil_append.{0} (And.intro @List.append_nil.{0} (And.intro @Array.toList_append.{0} (And.intro @List.toList_toArray.{0} (And.intro @Int.cast_ofNat_Int (And.intro @Option.isSome_some.{0} (And.intro @List.getElem?_toArray.{0} (And.intro @List.map_toArray.{0,0} (@Nat.min_eq_left))))))))))))))))))))))))
def glBBodyRef := And.intro @List.drop_zero.{0} (And.intro @List.drop_succ_cons.{0} (And.intro @List.take_succ_cons.{0} (And.intro @List.take_zero.{0} (@List.take_nil.{0}))))
variable {base : Nat} [Bok base] {s : St} {R : Value → St → Prop}
theorem ibits_eq {e : Bool} {n : Nat} (r : Bool) (hi : idOk e n = true) : ibits e n r = bits5 e n r := by
  have hone : (bits5 e n r).map one = bits5 e n r := by
    cases e
    · simp only [bits5, Bool.false_eq_true, if_false]; exact bits_map_one _ _
    · simp only [bits5, if_true, List.map_append, bits_map_one, List.map_cons, List.map_nil, one_ask]; rfl
  have hk := key5_num r hi
  have hl := bits5_len e n r
  have := bits_num (bits5 e n r ++ List.replicate (32 - (bits5 e n r).length) 0)
  have hL : (bits5 e n r ++ List.replicate (32 - (bits5 e n r).length) 0).length = 32 := by
    rw [List.length_append, List.length_replicate, hl]; cases e <;> rfl
  rw [hk, hL, List.map_append, hone] at this
  unfold ibits
  rw [this]
  cases e
  · rw [if_neg (by simp), List.take_append_of_le_length (by rw [hl]; simp), List.take_of_length_le (by rw [hl]; simp)]
  · rw [if_pos rfl, hl]; simp
/-- What is put behind own bytes. -/
theorem appS {s0 : St} {v x : Value} {xs ys : List Nat} (M : Mild s0 s) (hv : Sl base s 1 v (bL xs)) (ht : Tight base v) (hw : ∀ b, inB v b → s0.next ≤ b) (hbn : base ≤ s0.next) (hx : Sl base s 1 x (bL ys)) (hl : xs.length + ys.length ≤ 1000) :
    ∃ v' s', appendB Tryd.prog base s [34, 34] [v, x] = some (v', s') ∧ Mild s0 s' ∧ Sl base s' 1 v' (bL (xs ++ ys)) ∧ Tight base v' ∧ ∀ b, inB v' b → s0.next ≤ b := by
  have hn := M.next
  obtain ⟨v', s', e1, e2, e3, e4, e5⟩ := app_new hv ht (by omega) hx hl
  refine ⟨v', s', e1, ⟨Nat.le_trans hn e4.next, fun b hb => ?_⟩, e2, e3, fun b hb => ?_⟩
  · rw [e4.heap b (by omega) fun h => by have := hw b h; omega]
    exact M.heap b hb
  · rcases e5 b hb with h | h
    · omega
    · exact hw b h
def datL (ds : List Nat) (l : Nat) : List Nat := unpackL (ds.take l) (8 * l)
theorem unp_take (ds : List Nat) {i l : Nat} (h : i ≤ l) (hl : l ≤ ds.length) : unpackL (ds.take l) (8 * i) = unpackL (ds.take i) (8 * i) := by
  unfold unpackL
  apply List.ext_getElem
  · simp
  · intro j h1 h2
    simp only [List.length_map, List.length_range] at h1
    simp only [List.getElem_map, List.getElem_range]
    congr 2
    simp only [List.getD_eq_getElem?_getD]
    rw [List.getElem?_take_of_lt (by omega), List.getElem?_take_of_lt (by omega)]
theorem datL_succ {ds : List Nat} {i : Nat} (h : i < ds.length) : datL ds (i + 1) = datL ds i ++ bitsOf (ds.getD i 0) 8 := by
  unfold datL
  rw [unpackL_succ, unp_take ds (Nat.le_succ i) (by omega)]
  congr 2
  simp only [List.getD_eq_getElem?_getD]
  rw [List.getElem?_take_of_lt (by omega)]
def headL (e : Bool) (n : Nat) (r : Bool) (l : Nat) : List Nat := [0] ++ bits5 e n r ++ List.replicate (if e then 2 else 1) 0 ++ bitsOf l 4
theorem bodyL_eq {e : Bool} {n : Nat} {r : Bool} {l : Nat} {ds : List Nat} (hi : idOk e n = true) : bodyL e n r l ds = headL e n r l ++ if r then [] else datL ds l := by
  unfold bodyL headL datL
  rw [ibits_eq r hi]
theorem headL_len (e : Bool) (n : Nat) (r : Bool) (l : Nat) : (headL e n r l).length = if e then 39 else 19 := by
  cases e <;> simp [headL, bits5_len, bitsOf_len]
theorem rbody_ok {e : Bool} {n : Nat} {r : Bool} {l : Int} {ds : List Nat} (hd : ds.length = 8) (hy : ∀ y ∈ ds, y < 256) (hn : n < 2 ^ 32) (hbn : base ≤ s.next)
    (h0 : rightF e n r l ds ≠ 0 → ∀ s', Mild s s' → R (.slice none 0 0) s')
    (hR : rightF e n r l ds = 0 → ∀ v' s', Mild s s' → Sl base s' 1 v' (bL (sealL (bodyL e n r l.toNat ds))) → Tight base v' → (∀ b, inB v' b → s.next ≤ b) → R v' s') :
    WC Tryd.prog base 15 [frV e n r l ds] s R := by
  have hb1 : 1 ≤ base := Bok.le (base := base)
  refine WC_open Tryd.func15 rfl ?_
  have hm := Mild.alloc s (.row (frC e n r l ds))
  have hfl : (frC e n r l ds).length = 12 := by simp [bC_len, hd]
  have htk : List.take 8 (bC ds) = bC ds := List.take_of_length_le (by rw [bC_len]; omega)
  simp (disch := first | omega | ((simp only [Ab.next_alloc, Ab.next_upd, List.length_cons, List.length_nil, ne_eq, not_true_eq_false, not_false_eq_true]) <;> omega) | decide) only [↓stepPre, stepPost, ↓W_cond, ↓W_block, ↓reduceIte, Nat.reduceEqDiff, Nat.reduceLT, Nat.reduceLeDiff, ret0, stVar, isTup, Value.cells, Nat.le_refl, Nat.reduceAdd, Nat.reduceMul, Nat.reduceSub, env0, binV, intV, reduceCtorEq, pickV, nilCheckV, ptrV, unV, true_and, and_true, Nat.add_zero, Nat.zero_add, Rt, resultsV, allV, resV, Bool.not_true, Bool.not_false, calleeV, builtinV, eqV, fieldAddrV, ldVar, stN_own, stN_ownL, Int.fdiv_eq_ediv_of_nonneg, Int.reduceToNat, Int.reducePow, IntKind.bits, convV, ne_eq, not_false_eq_true, not_true_eq_false, Int.reduceNeg, Int.reduceAdd, Int.reduceSub, Int.reduceLT, Int.reduceLE, extractV, decide_true, decide_false, Int.reduceEq, mkFuncV, stBBodyRef, beq_self_eq_true, Ty.t27, Tryd.underlying27, Ty.t24, Tryd.underlying24, Ty.t5, Tryd.underlying5, Ty.t58, Tryd.underlying58, Ty.t22, Tryd.underlying22, Ty.t34, Tryd.underlying34, Ty.t25, Tryd.underlying25, Ty.t3, Tryd.underlying3, Ty.t4, Tryd.underlying4, Ty.t31, Tryd.underlying31, getL_take, glBBodyRef, hfl, htk]
  refine rframeRight_p (base := base) hd ?_
  by_cases hr : rightF e n r l ds = 0
  rotate_left
  · simp (disch := first | omega | ((simp only [Ab.next_alloc, Ab.next_upd, List.length_cons, List.length_nil, ne_eq, not_true_eq_false, not_false_eq_true]) <;> omega) | decide) only [↓stepPre, stepPost, ↓W_cond, ↓W_block, ↓reduceIte, Nat.reduceEqDiff, Nat.reduceLT, Nat.reduceLeDiff, ret0, stVar, isTup, Value.cells, Nat.le_refl, Nat.reduceAdd, Nat.reduceMul, Nat.reduceSub, env0, binV, intV, reduceCtorEq, pickV, nilCheckV, ptrV, unV, true_and, and_true, Nat.add_zero, Nat.zero_add, Rt, resultsV, allV, resV, Bool.not_true, Bool.not_false, calleeV, builtinV, eqV, fieldAddrV, ldVar, stN_own, stN_ownL, Int.fdiv_eq_ediv_of_nonneg, Int.reduceToNat, Int.reducePow, IntKind.bits, convV, ne_eq, not_false_eq_true, not_true_eq_false, Int.reduceNeg, Int.reduceAdd, Int.reduceSub, Int.reduceLT, Int.reduceLE, extractV, decide_true, decide_false, Int.reduceEq, mkFuncV, stBBodyRef, beq_self_eq_true, Ty.t27, Tryd.underlying27, Ty.t24, Tryd.underlying24, Ty.t5, Tryd.underlying5, Ty.t58, Tryd.underlying58, Ty.t22, Tryd.underlying22, Ty.t34, Tryd.underlying34, Ty.t25, Tryd.underlying25, Ty.t3, Tryd.underlying3, Ty.t4, Tryd.underlying4, Ty.t31, Tryd.underlying31, getL_take, glBBodyRef, hr, Tryd.results15]
    exact h0 hr _ hm
  obtain ⟨hi, hl0, hl8⟩ := rightF_zero hr
  obtain ⟨q, rfl⟩ : ∃ q : Nat, l = q := ⟨l.toNat, by omega⟩
  have hrow := Ab.heap_alloc_new s (.row (frC e n r (q : Int) ds))
  have hnx := Ab.next_alloc s (.row (frC e n r (q : Int) ds))
  simp (disch := first | omega | ((simp only [Ab.next_alloc, Ab.next_upd, List.length_cons, List.length_nil, ne_eq, not_true_eq_false, not_false_eq_true]) <;> omega) | decide) only [↓stepPre, stepPost, ↓W_cond, ↓W_block, ↓reduceIte, Nat.reduceEqDiff, Nat.reduceLT, Nat.reduceLeDiff, ret0, stVar, isTup, Value.cells, Nat.le_refl, Nat.reduceAdd, Nat.reduceMul, Nat.reduceSub, env0, binV, intV, reduceCtorEq, pickV, nilCheckV, ptrV, unV, true_and, and_true, Nat.add_zero, Nat.zero_add, Rt, resultsV, allV, resV, Bool.not_true, Bool.not_false, calleeV, builtinV, eqV, fieldAddrV, ldVar, stN_own, stN_ownL, Int.fdiv_eq_ediv_of_nonneg, Int.reduceToNat, Int.reducePow, IntKind.bits, convV, ne_eq, not_false_eq_true, not_true_eq_false, Int.reduceNeg, Int.reduceAdd, Int.reduceSub, Int.reduceLT, Int.reduceLE, extractV, decide_true, decide_false, Int.reduceEq, mkFuncV, stBBodyRef, beq_self_eq_true, Ty.t27, Tryd.underlying27, Ty.t24, Tryd.underlying24, Ty.t5, Tryd.underlying5, Ty.t58, Tryd.underlying58, Ty.t22, Tryd.underlying22, Ty.t34, Tryd.underlying34, Ty.t25, Tryd.underlying25, Ty.t3, Tryd.underlying3, Ty.t4, Tryd.underlying4, Ty.t31, Tryd.underlying31, getL_take, glBBodyRef, hr, build1i Ty.elem34 Ty.siz5 Ty.zer5]
  generalize s.alloc (.row (frC e n r (q : Int) ds)) = s0 at hm hrow hnx ⊢
  have hn0 : base ≤ s0.next := by omega
  have ma := Mild.alloc s0 (.row [.int .u8 0])
  have la : Sl base (s0.alloc (.row [.int .u8 0])) 1 (.slice (some ⟨s0.next, 0, none⟩) 1 1) (bL [0]) := newBytes hn0 rfl rfl
  refine bits5_ok hn hi (by simp only [Ab.next_alloc]; omega) fun v1 s1 m1 l1 t1 w1 => ?_
  have M1 := ma.trans m1
  have n1 := m1.next
  simp only [Ab.next_alloc] at n1 w1
  obtain ⟨v2, s2, e2, M2, l2, t2, w2⟩ := appS M1 (la.mild m1) ⟨rfl, hn0⟩ (fun b hb => by have : s0.next = b := hb; omega) hn0 l1 (by rw [bits5_len]; simp; split <;> omega)
  rw [hnx] at e2
  have f2 := (M2.heap s.next (by omega)).trans hrow
  have lb : Sl base (s2.alloc (.row [.int .u8 0])) 1 (.slice (some ⟨s2.next, 0, none⟩) 1 1) (bL [0]) := newBytes (by have := M2.next; omega) rfl rfl
  have hb5 := bits5_len e n r
  have hb5' : (bits5 e n r).length ≤ 32 := by rw [hb5]; split <;> omega
  obtain ⟨v3, s3, e3, M3, l3, t3, w3⟩ := appS (M2.alloc' (o := .row [.int .u8 0])) (l2.mild (.alloc _ _)) t2 w2 hn0 lb (by simp; omega)
  have f3 := (M3.heap s.next (by omega)).trans hrow
  simp (disch := first | omega | ((simp only [Ab.next_alloc, Ab.next_upd, List.length_cons, List.length_nil, ne_eq, not_true_eq_false, not_false_eq_true]) <;> omega) | decide) only [↓stepPre, stepPost, ↓W_cond, ↓W_block, ↓reduceIte, Nat.reduceEqDiff, Nat.reduceLT, Nat.reduceLeDiff, ret0, stVar, isTup, Value.cells, Nat.le_refl, Nat.reduceAdd, Nat.reduceMul, Nat.reduceSub, env0, binV, intV, reduceCtorEq, pickV, nilCheckV, ptrV, unV, true_and, and_true, Nat.add_zero, Nat.zero_add, Rt, resultsV, allV, resV, Bool.not_true, Bool.not_false, calleeV, builtinV, eqV, fieldAddrV, ldVar, stN_own, stN_ownL, Int.fdiv_eq_ediv_of_nonneg, Int.reduceToNat, Int.reducePow, IntKind.bits, convV, ne_eq, not_false_eq_true, not_true_eq_false, Int.reduceNeg, Int.reduceAdd, Int.reduceSub, Int.reduceLT, Int.reduceLE, extractV, decide_true, decide_false, Int.reduceEq, mkFuncV, stBBodyRef, beq_self_eq_true, Ty.t27, Tryd.underlying27, Ty.t24, Tryd.underlying24, Ty.t5, Tryd.underlying5, Ty.t58, Tryd.underlying58, Ty.t22, Tryd.underlying22, Ty.t34, Tryd.underlying34, Ty.t25, Tryd.underlying25, Ty.t3, Tryd.underlying3, Ty.t4, Tryd.underlying4, Ty.t31, Tryd.underlying31, getL_take, glBBodyRef, e2, build1i Ty.elem34 Ty.siz5 Ty.zer5, e3, f3]
  cases e
  · simp (disch := first | omega | ((simp only [Ab.next_alloc, Ab.next_upd, List.length_cons, List.length_nil, ne_eq, not_true_eq_false, not_false_eq_true]) <;> omega) | decide) only [↓stepPre, stepPost, ↓W_cond, ↓W_block, ↓reduceIte, Nat.reduceEqDiff, Nat.reduceLT, Nat.reduceLeDiff, ret0, stVar, isTup, Value.cells, Nat.le_refl, Nat.reduceAdd, Nat.reduceMul, Nat.reduceSub, env0, binV, intV, reduceCtorEq, pickV, nilCheckV, ptrV, unV, true_and, and_true, Nat.add_zero, Nat.zero_add, Rt, resultsV, allV, resV, Bool.not_true, Bool.not_false, calleeV, builtinV, eqV, fieldAddrV, ldVar, stN_own, stN_ownL, Int.fdiv_eq_ediv_of_nonneg, Int.reduceToNat, Int.reducePow, IntKind.bits, convV, ne_eq, not_false_eq_true, not_true_eq_false, Int.reduceNeg, Int.reduceAdd, Int.reduceSub, Int.reduceLT, Int.reduceLE, extractV, decide_true, decide_false, Int.reduceEq, mkFuncV, stBBodyRef, beq_self_eq_true, Ty.t27, Tryd.underlying27, Ty.t24, Tryd.underlying24, Ty.t5, Tryd.underlying5, Ty.t58, Tryd.underlying58, Ty.t22, Tryd.underlying22, Ty.t34, Tryd.underlying34, Ty.t25, Tryd.underlying25, Ty.t3, Tryd.underlying3, Ty.t4, Tryd.underlying4, Ty.t31, Tryd.underlying31, getL_take, glBBodyRef]
    obtain ⟨v4, s4, M4, l4, t4, w4, f4, hE⟩ : ∃ v4 s4, Mild s0 s4 ∧ Sl base s4 1 v4 (bL ([0] ++ bits5 false n r ++ List.replicate 1 0)) ∧ Tight base v4 ∧ (∀ b, inB v4 b → s0.next ≤ b) ∧ s4.heap s.next = .row (frC false n r (q : Int) ds) ∧ (v4 = v3 ∧ s4 = s3) := ⟨v3, s3, M3, l3, t3, w3, f3, rfl, rfl⟩
    obtain ⟨rfl, rfl⟩ := hE

    simp (disch := first | omega | ((simp only [Ab.next_alloc, Ab.next_upd, List.length_cons, List.length_nil, ne_eq, not_true_eq_false, not_false_eq_true]) <;> omega) | decide) only [↓stepPre, stepPost, ↓W_cond, ↓W_block, ↓reduceIte, Nat.reduceEqDiff, Nat.reduceLT, Nat.reduceLeDiff, ret0, stVar, isTup, Value.cells, Nat.le_refl, Nat.reduceAdd, Nat.reduceMul, Nat.reduceSub, env0, binV, intV, reduceCtorEq, pickV, nilCheckV, ptrV, unV, true_and, and_true, Nat.add_zero, Nat.zero_add, Rt, resultsV, allV, resV, Bool.not_true, Bool.not_false, calleeV, builtinV, eqV, fieldAddrV, ldVar, stN_own, stN_ownL, Int.fdiv_eq_ediv_of_nonneg, Int.reduceToNat, Int.reducePow, IntKind.bits, convV, ne_eq, not_false_eq_true, not_true_eq_false, Int.reduceNeg, Int.reduceAdd, Int.reduceSub, Int.reduceLT, Int.reduceLE, extractV, decide_true, decide_false, Int.reduceEq, mkFuncV, stBBodyRef, beq_self_eq_true, Ty.t27, Tryd.underlying27, Ty.t24, Tryd.underlying24, Ty.t5, Tryd.underlying5, Ty.t58, Tryd.underlying58, Ty.t22, Tryd.underlying22, Ty.t34, Tryd.underlying34, Ty.t25, Tryd.underlying25, Ty.t3, Tryd.underlying3, Ty.t4, Tryd.underlying4, Ty.t31, Tryd.underlying31, getL_take, glBBodyRef, f4]
    have n4 := M4.next
    refine of_ok (n := q) (k := 4) (by omega) (by omega) (by omega) fun v5 s5 m5 l5 t5 w5 => ?_
    obtain ⟨v6, s6, e6, M6, l6, t6, w6⟩ := appS (M4.trans m5) (l4.mild m5) t4 w4 hn0 l5 (by simp [bitsOf_len]; omega)

    have hH : [0] ++ bits5 false n r ++ List.replicate 1 0 ++ bitsOf q 4 = headL false n r q := rfl
    simp only [List.append_assoc, List.singleton_append, List.cons_append, List.nil_append, List.replicate_succ, List.replicate_zero] at hH l6
    rw [hH] at l6
    simp (disch := first | omega | ((simp only [Ab.next_alloc, Ab.next_upd, List.length_cons, List.length_nil, ne_eq, not_true_eq_false, not_false_eq_true]) <;> omega) | decide) only [↓stepPre, stepPost, ↓W_cond, ↓W_block, ↓reduceIte, Nat.reduceEqDiff, Nat.reduceLT, Nat.reduceLeDiff, ret0, stVar, isTup, Value.cells, Nat.le_refl, Nat.reduceAdd, Nat.reduceMul, Nat.reduceSub, env0, binV, intV, reduceCtorEq, pickV, nilCheckV, ptrV, unV, true_and, and_true, Nat.add_zero, Nat.zero_add, Rt, resultsV, allV, resV, Bool.not_true, Bool.not_false, calleeV, builtinV, eqV, fieldAddrV, ldVar, stN_own, stN_ownL, Int.fdiv_eq_ediv_of_nonneg, Int.reduceToNat, Int.reducePow, IntKind.bits, convV, ne_eq, not_false_eq_true, not_true_eq_false, Int.reduceNeg, Int.reduceAdd, Int.reduceSub, Int.reduceLT, Int.reduceLE, extractV, decide_true, decide_false, Int.reduceEq, mkFuncV, stBBodyRef, beq_self_eq_true, Ty.t27, Tryd.underlying27, Ty.t24, Tryd.underlying24, Ty.t5, Tryd.underlying5, Ty.t58, Tryd.underlying58, Ty.t22, Tryd.underlying22, Ty.t34, Tryd.underlying34, Ty.t25, Tryd.underlying25, Ty.t3, Tryd.underlying3, Ty.t4, Tryd.underlying4, Ty.t31, Tryd.underlying31, getL_take, glBBodyRef, e6]
    refine W_loop_ind q (fun i e' t => Mild s0 t ∧ e' 1 = .pointer (some ⟨s.next, 0, none⟩) ∧ e' 4 = .int .i64 (i : Int) ∧ ∃ w, e' 3 = w ∧ Sl base t 1 w (bL (headL false n r q ++ if r then [] else datL ds i)) ∧ Tight base w ∧ ∀ b, inB w b → s0.next ≤ b) ?_
      ⟨M6, rfl, rfl, v6, rfl, by cases r <;> simpa [datL, unpackL] using l6, t6, w6⟩
    rintro i e' t hi' ⟨mt, h1, h4, w, h3, lw, tw, fw⟩
    have nt := mt.next
    have ft := (mt.heap s.next (by omega)).trans hrow
    have hhl := headL_len false n r q
    have hdl : (datL ds i).length = 8 * i := by simp [datL, unpackL_len]
    have hres : ((i = q ∨ r = true) → headL false n r q ++ (if r then [] else datL ds i) = bodyL false n r q ds) := fun h => by
      rw [bodyL_eq hi]
      cases r
      · rcases h with rfl | h
        · rfl
        · cases h
      · rfl
    have hL : (headL false n r q ++ if r then [] else datL ds i).length ≤ 39 + 64 := by
      have q1 : (if r then ([] : List Nat) else datL ds i).length ≤ 64 := by
        cases r
        · simp only [Bool.false_eq_true, if_false, hdl]; omega
        · simp
      rw [List.length_append, hhl]; simp; omega
    by_cases hend : i = q ∨ r = true
    · have fin : ∀ v s', Mild t s' → Sl base s' 1 v (bL (sealL (headL false n r q ++ if r then [] else datL ds i))) → Tight base v → (∀ b, inB v b → t.next ≤ b) → R v s' := fun v s' h1 h2 h3 h4 => by
        rw [hres hend] at h2
        exact hR hr v s' ((hm.trans mt).trans h1) h2 h3 fun b hb => by have := h4 b hb; omega
      by_cases hiq : i < q
      · have c1 : (i : Int) < (q : Int) := by omega
        have hrt : r = true := by rcases hend with h | h; omega; exact h
        simp (disch := first | omega | ((simp only [Ab.next_alloc, Ab.next_upd, List.length_cons, List.length_nil, ne_eq, not_true_eq_false, not_false_eq_true]) <;> omega) | decide) only [↓stepPre, stepPost, ↓W_cond, ↓W_block, ↓reduceIte, Nat.reduceEqDiff, Nat.reduceLT, Nat.reduceLeDiff, ret0, stVar, isTup, Value.cells, Nat.le_refl, Nat.reduceAdd, Nat.reduceMul, Nat.reduceSub, env0, binV, intV, reduceCtorEq, pickV, nilCheckV, ptrV, unV, true_and, and_true, Nat.add_zero, Nat.zero_add, Rt, resultsV, allV, resV, Bool.not_true, Bool.not_false, calleeV, builtinV, eqV, fieldAddrV, ldVar, stN_own, stN_ownL, Int.fdiv_eq_ediv_of_nonneg, Int.reduceToNat, Int.reducePow, IntKind.bits, convV, ne_eq, not_false_eq_true, not_true_eq_false, Int.reduceNeg, Int.reduceAdd, Int.reduceSub, Int.reduceLT, Int.reduceLE, extractV, decide_true, decide_false, Int.reduceEq, mkFuncV, stBBodyRef, beq_self_eq_true, Ty.t27, Tryd.underlying27, Ty.t24, Tryd.underlying24, Ty.t5, Tryd.underlying5, Ty.t58, Tryd.underlying58, Ty.t22, Tryd.underlying22, Ty.t34, Tryd.underlying34, Ty.t25, Tryd.underlying25, Ty.t3, Tryd.underlying3, Ty.t4, Tryd.underlying4, Ty.t31, Tryd.underlying31, getL_take, glBBodyRef, ft, h1, h3, h4, c1, hrt]
        refine rseal_ok lw (by omega) (by omega) fun v8 s8 m8 l8 t8 w8 => ?_
        simp (disch := first | omega | ((simp only [Ab.next_alloc, Ab.next_upd, List.length_cons, List.length_nil, ne_eq, not_true_eq_false, not_false_eq_true]) <;> omega) | decide) only [↓stepPre, stepPost, ↓W_cond, ↓W_block, ↓reduceIte, Nat.reduceEqDiff, Nat.reduceLT, Nat.reduceLeDiff, ret0, stVar, isTup, Value.cells, Nat.le_refl, Nat.reduceAdd, Nat.reduceMul, Nat.reduceSub, env0, binV, intV, reduceCtorEq, pickV, nilCheckV, ptrV, unV, true_and, and_true, Nat.add_zero, Nat.zero_add, Rt, resultsV, allV, resV, Bool.not_true, Bool.not_false, calleeV, builtinV, eqV, fieldAddrV, ldVar, stN_own, stN_ownL, Int.fdiv_eq_ediv_of_nonneg, Int.reduceToNat, Int.reducePow, IntKind.bits, convV, ne_eq, not_false_eq_true, not_true_eq_false, Int.reduceNeg, Int.reduceAdd, Int.reduceSub, Int.reduceLT, Int.reduceLE, extractV, decide_true, decide_false, Int.reduceEq, mkFuncV, stBBodyRef, beq_self_eq_true, Ty.t27, Tryd.underlying27, Ty.t24, Tryd.underlying24, Ty.t5, Tryd.underlying5, Ty.t58, Tryd.underlying58, Ty.t22, Tryd.underlying22, Ty.t34, Tryd.underlying34, Ty.t25, Tryd.underlying25, Ty.t3, Tryd.underlying3, Ty.t4, Tryd.underlying4, Ty.t31, Tryd.underlying31, Tryd.results15]
        exact fin v8 s8 m8 l8 t8 w8
      · have c1 : ¬ (i : Int) < (q : Int) := by omega
        simp (disch := first | omega | ((simp only [Ab.next_alloc, Ab.next_upd, List.length_cons, List.length_nil, ne_eq, not_true_eq_false, not_false_eq_true]) <;> omega) | decide) only [↓stepPre, stepPost, ↓W_cond, ↓W_block, ↓reduceIte, Nat.reduceEqDiff, Nat.reduceLT, Nat.reduceLeDiff, ret0, stVar, isTup, Value.cells, Nat.le_refl, Nat.reduceAdd, Nat.reduceMul, Nat.reduceSub, env0, binV, intV, reduceCtorEq, pickV, nilCheckV, ptrV, unV, true_and, and_true, Nat.add_zero, Nat.zero_add, Rt, resultsV, allV, resV, Bool.not_true, Bool.not_false, calleeV, builtinV, eqV, fieldAddrV, ldVar, stN_own, stN_ownL, Int.fdiv_eq_ediv_of_nonneg, Int.reduceToNat, Int.reducePow, IntKind.bits, convV, ne_eq, not_false_eq_true, not_true_eq_false, Int.reduceNeg, Int.reduceAdd, Int.reduceSub, Int.reduceLT, Int.reduceLE, extractV, decide_true, decide_false, Int.reduceEq, mkFuncV, stBBodyRef, beq_self_eq_true, Ty.t27, Tryd.underlying27, Ty.t24, Tryd.underlying24, Ty.t5, Tryd.underlying5, Ty.t58, Tryd.underlying58, Ty.t22, Tryd.underlying22, Ty.t34, Tryd.underlying34, Ty.t25, Tryd.underlying25, Ty.t3, Tryd.underlying3, Ty.t4, Tryd.underlying4, Ty.t31, Tryd.underlying31, getL_take, glBBodyRef, ft, h1, h3, h4, c1]
        refine rseal_ok lw (by omega) (by omega) fun v8 s8 m8 l8 t8 w8 => ?_
        simp (disch := first | omega | ((simp only [Ab.next_alloc, Ab.next_upd, List.length_cons, List.length_nil, ne_eq, not_true_eq_false, not_false_eq_true]) <;> omega) | decide) only [↓stepPre, stepPost, ↓W_cond, ↓W_block, ↓reduceIte, Nat.reduceEqDiff, Nat.reduceLT, Nat.reduceLeDiff, ret0, stVar, isTup, Value.cells, Nat.le_refl, Nat.reduceAdd, Nat.reduceMul, Nat.reduceSub, env0, binV, intV, reduceCtorEq, pickV, nilCheckV, ptrV, unV, true_and, and_true, Nat.add_zero, Nat.zero_add, Rt, resultsV, allV, resV, Bool.not_true, Bool.not_false, calleeV, builtinV, eqV, fieldAddrV, ldVar, stN_own, stN_ownL, Int.fdiv_eq_ediv_of_nonneg, Int.reduceToNat, Int.reducePow, IntKind.bits, convV, ne_eq, not_false_eq_true, not_true_eq_false, Int.reduceNeg, Int.reduceAdd, Int.reduceSub, Int.reduceLT, Int.reduceLE, extractV, decide_true, decide_false, Int.reduceEq, mkFuncV, stBBodyRef, beq_self_eq_true, Ty.t27, Tryd.underlying27, Ty.t24, Tryd.underlying24, Ty.t5, Tryd.underlying5, Ty.t58, Tryd.underlying58, Ty.t22, Tryd.underlying22, Ty.t34, Tryd.underlying34, Ty.t25, Tryd.underlying25, Ty.t3, Tryd.underlying3, Ty.t4, Tryd.underlying4, Ty.t31, Tryd.underlying31, Tryd.results15]
        exact fin v8 s8 m8 l8 t8 w8
    · have hiq : i < q := by have := fun h => hend (.inl h); omega
      have c1 : (i : Int) < (q : Int) := by omega
      have hrf : r = false := by
        cases h : r
        · rfl
        · exact absurd (.inr h) hend
      subst hrf
      have hat := frC_at (e := false) (n := n) (r := false) (l := (q : Int)) (ds := ds) (i := i) (by omega)
      have hb8 : ds.getD i 0 < 256 := by
        have : ds.getD i 0 = ds[i]'(by omega) := by simp [List.getD_eq_getElem?_getD, hd]; rw [List.getElem?_eq_getElem (by omega)]; rfl
        rw [this]; exact hy _ (List.getElem_mem _)
      simp only [frC] at hat
      simp (disch := first | omega | ((simp only [Ab.next_alloc, Ab.next_upd, List.length_cons, List.length_nil, ne_eq, not_true_eq_false, not_false_eq_true]) <;> omega) | decide) only [↓stepPre, stepPost, ↓W_cond, ↓W_block, ↓reduceIte, Nat.reduceEqDiff, Nat.reduceLT, Nat.reduceLeDiff, ret0, stVar, isTup, Value.cells, Nat.le_refl, Nat.reduceAdd, Nat.reduceMul, Nat.reduceSub, env0, binV, intV, reduceCtorEq, pickV, nilCheckV, ptrV, unV, true_and, and_true, Nat.add_zero, Nat.zero_add, Rt, resultsV, allV, resV, Bool.not_true, Bool.not_false, calleeV, builtinV, eqV, fieldAddrV, ldVar, stN_own, stN_ownL, Int.fdiv_eq_ediv_of_nonneg, Int.reduceToNat, Int.reducePow, IntKind.bits, convV, ne_eq, not_false_eq_true, not_true_eq_false, Int.reduceNeg, Int.reduceAdd, Int.reduceSub, Int.reduceLT, Int.reduceLE, extractV, decide_true, decide_false, Int.reduceEq, mkFuncV, stBBodyRef, beq_self_eq_true, Ty.t27, Tryd.underlying27, Ty.t24, Tryd.underlying24, Ty.t5, Tryd.underlying5, Ty.t58, Tryd.underlying58, Ty.t22, Tryd.underlying22, Ty.t34, Tryd.underlying34, Ty.t25, Tryd.underlying25, Ty.t3, Tryd.underlying3, Ty.t4, Tryd.underlying4, Ty.t31, Tryd.underlying31, getL_take, glBBodyRef, ft, h1, h3, h4, c1, idxArr Ty.arr25 Ty.siz5, Int.toNat_natCast, hat]
      refine of_ok (n := ds.getD i 0) (k := 8) (by omega) (by omega) (by omega) fun v8 s8 m8 l8 t8 w8 => ?_
      obtain ⟨v9, s9, e9, M9, l9, t9, w9⟩ := appS (mt.trans m8) (lw.mild m8) tw fw hn0 l8 (by rw [bitsOf_len]; omega)
      simp (disch := first | omega | ((simp only [Ab.next_alloc, Ab.next_upd, List.length_cons, List.length_nil, ne_eq, not_true_eq_false, not_false_eq_true]) <;> omega) | decide) only [↓stepPre, stepPost, ↓W_cond, ↓W_block, ↓reduceIte, Nat.reduceEqDiff, Nat.reduceLT, Nat.reduceLeDiff, ret0, stVar, isTup, Value.cells, Nat.le_refl, Nat.reduceAdd, Nat.reduceMul, Nat.reduceSub, env0, binV, intV, reduceCtorEq, pickV, nilCheckV, ptrV, unV, true_and, and_true, Nat.add_zero, Nat.zero_add, Rt, resultsV, allV, resV, Bool.not_true, Bool.not_false, calleeV, builtinV, eqV, fieldAddrV, ldVar, stN_own, stN_ownL, Int.fdiv_eq_ediv_of_nonneg, Int.reduceToNat, Int.reducePow, IntKind.bits, convV, ne_eq, not_false_eq_true, not_true_eq_false, Int.reduceNeg, Int.reduceAdd, Int.reduceSub, Int.reduceLT, Int.reduceLE, extractV, decide_true, decide_false, Int.reduceEq, mkFuncV, stBBodyRef, beq_self_eq_true, Ty.t27, Tryd.underlying27, Ty.t24, Tryd.underlying24, Ty.t5, Tryd.underlying5, Ty.t58, Tryd.underlying58, Ty.t22, Tryd.underlying22, Ty.t34, Tryd.underlying34, Ty.t25, Tryd.underlying25, Ty.t3, Tryd.underlying3, Ty.t4, Tryd.underlying4, Ty.t31, Tryd.underlying31, getL_take, glBBodyRef, e9, h1, h3, h4]
      refine ⟨hiq, M9, by simp, v9, rfl, ?_, t9, w9⟩
      rw [datL_succ (by omega)]
      simpa using l9
  · have lc : Sl base (s3.alloc (.row [.int .u8 0])) 1 (.slice (some ⟨s3.next, 0, none⟩) 1 1) (bL [0]) := newBytes (by have := M3.next; omega) rfl rfl
    obtain ⟨v4, s4, e4, M4, l4, t4, w4⟩ := appS (M3.alloc' (o := .row [.int .u8 0])) (l3.mild (.alloc _ _)) t3 w3 hn0 lc (by simp; omega)
    have f4 := (M4.heap s.next (by omega)).trans hrow
    simp (disch := first | omega | ((simp only [Ab.next_alloc, Ab.next_upd, List.length_cons, List.length_nil, ne_eq, not_true_eq_false, not_false_eq_true]) <;> omega) | decide) only [↓stepPre, stepPost, ↓W_cond, ↓W_block, ↓reduceIte, Nat.reduceEqDiff, Nat.reduceLT, Nat.reduceLeDiff, ret0, stVar, isTup, Value.cells, Nat.le_refl, Nat.reduceAdd, Nat.reduceMul, Nat.reduceSub, env0, binV, intV, reduceCtorEq, pickV, nilCheckV, ptrV, unV, true_and, and_true, Nat.add_zero, Nat.zero_add, Rt, resultsV, allV, resV, Bool.not_true, Bool.not_false, calleeV, builtinV, eqV, fieldAddrV, ldVar, stN_own, stN_ownL, Int.fdiv_eq_ediv_of_nonneg, Int.reduceToNat, Int.reducePow, IntKind.bits, convV, ne_eq, not_false_eq_true, not_true_eq_false, Int.reduceNeg, Int.reduceAdd, Int.reduceSub, Int.reduceLT, Int.reduceLE, extractV, decide_true, decide_false, Int.reduceEq, mkFuncV, stBBodyRef, beq_self_eq_true, Ty.t27, Tryd.underlying27, Ty.t24, Tryd.underlying24, Ty.t5, Tryd.underlying5, Ty.t58, Tryd.underlying58, Ty.t22, Tryd.underlying22, Ty.t34, Tryd.underlying34, Ty.t25, Tryd.underlying25, Ty.t3, Tryd.underlying3, Ty.t4, Tryd.underlying4, Ty.t31, Tryd.underlying31, getL_take, glBBodyRef, build1i Ty.elem34 Ty.siz5 Ty.zer5, e4]

    simp (disch := first | omega | ((simp only [Ab.next_alloc, Ab.next_upd, List.length_cons, List.length_nil, ne_eq, not_true_eq_false, not_false_eq_true]) <;> omega) | decide) only [↓stepPre, stepPost, ↓W_cond, ↓W_block, ↓reduceIte, Nat.reduceEqDiff, Nat.reduceLT, Nat.reduceLeDiff, ret0, stVar, isTup, Value.cells, Nat.le_refl, Nat.reduceAdd, Nat.reduceMul, Nat.reduceSub, env0, binV, intV, reduceCtorEq, pickV, nilCheckV, ptrV, unV, true_and, and_true, Nat.add_zero, Nat.zero_add, Rt, resultsV, allV, resV, Bool.not_true, Bool.not_false, calleeV, builtinV, eqV, fieldAddrV, ldVar, stN_own, stN_ownL, Int.fdiv_eq_ediv_of_nonneg, Int.reduceToNat, Int.reducePow, IntKind.bits, convV, ne_eq, not_false_eq_true, not_true_eq_false, Int.reduceNeg, Int.reduceAdd, Int.reduceSub, Int.reduceLT, Int.reduceLE, extractV, decide_true, decide_false, Int.reduceEq, mkFuncV, stBBodyRef, beq_self_eq_true, Ty.t27, Tryd.underlying27, Ty.t24, Tryd.underlying24, Ty.t5, Tryd.underlying5, Ty.t58, Tryd.underlying58, Ty.t22, Tryd.underlying22, Ty.t34, Tryd.underlying34, Ty.t25, Tryd.underlying25, Ty.t3, Tryd.underlying3, Ty.t4, Tryd.underlying4, Ty.t31, Tryd.underlying31, getL_take, glBBodyRef, f4]
    have n4 := M4.next
    refine of_ok (n := q) (k := 4) (by omega) (by omega) (by omega) fun v5 s5 m5 l5 t5 w5 => ?_
    obtain ⟨v6, s6, e6, M6, l6, t6, w6⟩ := appS (M4.trans m5) (l4.mild m5) t4 w4 hn0 l5 (by simp [bitsOf_len]; omega)
    have hH : [0] ++ bits5 true n r ++ [0] ++ [0] ++ bitsOf q 4 = headL true n r q := rfl
    simp only [List.append_assoc, List.singleton_append, List.cons_append, List.nil_append, List.replicate_succ, List.replicate_zero] at hH l6
    rw [hH] at l6
    simp (disch := first | omega | ((simp only [Ab.next_alloc, Ab.next_upd, List.length_cons, List.length_nil, ne_eq, not_true_eq_false, not_false_eq_true]) <;> omega) | decide) only [↓stepPre, stepPost, ↓W_cond, ↓W_block, ↓reduceIte, Nat.reduceEqDiff, Nat.reduceLT, Nat.reduceLeDiff, ret0, stVar, isTup, Value.cells, Nat.le_refl, Nat.reduceAdd, Nat.reduceMul, Nat.reduceSub, env0, binV, intV, reduceCtorEq, pickV, nilCheckV, ptrV, unV, true_and, and_true, Nat.add_zero, Nat.zero_add, Rt, resultsV, allV, resV, Bool.not_true, Bool.not_false, calleeV, builtinV, eqV, fieldAddrV, ldVar, stN_own, stN_ownL, Int.fdiv_eq_ediv_of_nonneg, Int.reduceToNat, Int.reducePow, IntKind.bits, convV, ne_eq, not_false_eq_true, not_true_eq_false, Int.reduceNeg, Int.reduceAdd, Int.reduceSub, Int.reduceLT, Int.reduceLE, extractV, decide_true, decide_false, Int.reduceEq, mkFuncV, stBBodyRef, beq_self_eq_true, Ty.t27, Tryd.underlying27, Ty.t24, Tryd.underlying24, Ty.t5, Tryd.underlying5, Ty.t58, Tryd.underlying58, Ty.t22, Tryd.underlying22, Ty.t34, Tryd.underlying34, Ty.t25, Tryd.underlying25, Ty.t3, Tryd.underlying3, Ty.t4, Tryd.underlying4, Ty.t31, Tryd.underlying31, getL_take, glBBodyRef, e6]
    refine W_loop_ind q (fun i e' t => Mild s0 t ∧ e' 1 = .pointer (some ⟨s.next, 0, none⟩) ∧ e' 4 = .int .i64 (i : Int) ∧ ∃ w, e' 3 = w ∧ Sl base t 1 w (bL (headL true n r q ++ if r then [] else datL ds i)) ∧ Tight base w ∧ ∀ b, inB w b → s0.next ≤ b) ?_
      ⟨M6, rfl, rfl, v6, rfl, by cases r <;> simpa [datL, unpackL] using l6, t6, w6⟩
    rintro i e' t hi' ⟨mt, h1, h4, w, h3, lw, tw, fw⟩
    have nt := mt.next
    have ft := (mt.heap s.next (by omega)).trans hrow
    have hhl := headL_len true n r q
    have hdl : (datL ds i).length = 8 * i := by simp [datL, unpackL_len]
    have hres : ((i = q ∨ r = true) → headL true n r q ++ (if r then [] else datL ds i) = bodyL true n r q ds) := fun h => by
      rw [bodyL_eq hi]
      cases r
      · rcases h with rfl | h
        · rfl
        · cases h
      · rfl
    have hL : (headL true n r q ++ if r then [] else datL ds i).length ≤ 39 + 64 := by
      have q1 : (if r then ([] : List Nat) else datL ds i).length ≤ 64 := by
        cases r
        · simp only [Bool.false_eq_true, if_false, hdl]; omega
        · simp
      rw [List.length_append, hhl]; simp; omega
    by_cases hend : i = q ∨ r = true
    · have fin : ∀ v s', Mild t s' → Sl base s' 1 v (bL (sealL (headL true n r q ++ if r then [] else datL ds i))) → Tight base v → (∀ b, inB v b → t.next ≤ b) → R v s' := fun v s' h1 h2 h3 h4 => by
        rw [hres hend] at h2
        exact hR hr v s' ((hm.trans mt).trans h1) h2 h3 fun b hb => by have := h4 b hb; omega
      by_cases hiq : i < q
      · have c1 : (i : Int) < (q : Int) := by omega
        have hrt : r = true := by rcases hend with h | h; omega; exact h
        simp (disch := first | omega | ((simp only [Ab.next_alloc, Ab.next_upd, List.length_cons, List.length_nil, ne_eq, not_true_eq_false, not_false_eq_true]) <;> omega) | decide) only [↓stepPre, stepPost, ↓W_cond, ↓W_block, ↓reduceIte, Nat.reduceEqDiff, Nat.reduceLT, Nat.reduceLeDiff, ret0, stVar, isTup, Value.cells, Nat.le_refl, Nat.reduceAdd, Nat.reduceMul, Nat.reduceSub, env0, binV, intV, reduceCtorEq, pickV, nilCheckV, ptrV, unV, true_and, and_true, Nat.add_zero, Nat.zero_add, Rt, resultsV, allV, resV, Bool.not_true, Bool.not_false, calleeV, builtinV, eqV, fieldAddrV, ldVar, stN_own, stN_ownL, Int.fdiv_eq_ediv_of_nonneg, Int.reduceToNat, Int.reducePow, IntKind.bits, convV, ne_eq, not_false_eq_true, not_true_eq_false, Int.reduceNeg, Int.reduceAdd, Int.reduceSub, Int.reduceLT, Int.reduceLE, extractV, decide_true, decide_false, Int.reduceEq, mkFuncV, stBBodyRef, beq_self_eq_true, Ty.t27, Tryd.underlying27, Ty.t24, Tryd.underlying24, Ty.t5, Tryd.underlying5, Ty.t58, Tryd.underlying58, Ty.t22, Tryd.underlying22, Ty.t34, Tryd.underlying34, Ty.t25, Tryd.underlying25, Ty.t3, Tryd.underlying3, Ty.t4, Tryd.underlying4, Ty.t31, Tryd.underlying31, getL_take, glBBodyRef, ft, h1, h3, h4, c1, hrt]
        refine rseal_ok lw (by omega) (by omega) fun v8 s8 m8 l8 t8 w8 => ?_
        simp (disch := first | omega | ((simp only [Ab.next_alloc, Ab.next_upd, List.length_cons, List.length_nil, ne_eq, not_true_eq_false, not_false_eq_true]) <;> omega) | decide) only [↓stepPre, stepPost, ↓W_cond, ↓W_block, ↓reduceIte, Nat.reduceEqDiff, Nat.reduceLT, Nat.reduceLeDiff, ret0, stVar, isTup, Value.cells, Nat.le_refl, Nat.reduceAdd, Nat.reduceMul, Nat.reduceSub, env0, binV, intV, reduceCtorEq, pickV, nilCheckV, ptrV, unV, true_and, and_true, Nat.add_zero, Nat.zero_add, Rt, resultsV, allV, resV, Bool.not_true, Bool.not_false, calleeV, builtinV, eqV, fieldAddrV, ldVar, stN_own, stN_ownL, Int.fdiv_eq_ediv_of_nonneg, Int.reduceToNat, Int.reducePow, IntKind.bits, convV, ne_eq, not_false_eq_true, not_true_eq_false, Int.reduceNeg, Int.reduceAdd, Int.reduceSub, Int.reduceLT, Int.reduceLE, extractV, decide_true, decide_false, Int.reduceEq, mkFuncV, stBBodyRef, beq_self_eq_true, Ty.t27, Tryd.underlying27, Ty.t24, Tryd.underlying24, Ty.t5, Tryd.underlying5, Ty.t58, Tryd.underlying58, Ty.t22, Tryd.underlying22, Ty.t34, Tryd.underlying34, Ty.t25, Tryd.underlying25, Ty.t3, Tryd.underlying3, Ty.t4, Tryd.underlying4, Ty.t31, Tryd.underlying31, Tryd.results15]
        exact fin v8 s8 m8 l8 t8 w8
      · have c1 : ¬ (i : Int) < (q : Int) := by omega
        simp (disch := first | omega | ((simp only [Ab.next_alloc, Ab.next_upd, List.length_cons, List.length_nil, ne_eq, not_true_eq_false, not_false_eq_true]) <;> omega) | decide) only [↓stepPre, stepPost, ↓W_cond, ↓W_block, ↓reduceIte, Nat.reduceEqDiff, Nat.reduceLT, Nat.reduceLeDiff, ret0, stVar, isTup, Value.cells, Nat.le_refl, Nat.reduceAdd, Nat.reduceMul, Nat.reduceSub, env0, binV, intV, reduceCtorEq, pickV, nilCheckV, ptrV, unV, true_and, and_true, Nat.add_zero, Nat.zero_add, Rt, resultsV, allV, resV, Bool.not_true, Bool.not_false, calleeV, builtinV, eqV, fieldAddrV, ldVar, stN_own, stN_ownL, Int.fdiv_eq_ediv_of_nonneg, Int.reduceToNat, Int.reducePow, IntKind.bits, convV, ne_eq, not_false_eq_true, not_true_eq_false, Int.reduceNeg, Int.reduceAdd, Int.reduceSub, Int.reduceLT, Int.reduceLE, extractV, decide_true, decide_false, Int.reduceEq, mkFuncV, stBBodyRef, beq_self_eq_true, Ty.t27, Tryd.underlying27, Ty.t24, Tryd.underlying24, Ty.t5, Tryd.underlying5, Ty.t58, Tryd.underlying58, Ty.t22, Tryd.underlying22, Ty.t34, Tryd.underlying34, Ty.t25, Tryd.underlying25, Ty.t3, Tryd.underlying3, Ty.t4, Tryd.underlying4, Ty.t31, Tryd.underlying31, getL_take, glBBodyRef, ft, h1, h3, h4, c1]
        refine rseal_ok lw (by omega) (by omega) fun v8 s8 m8 l8 t8 w8 => ?_
        simp (disch := first | omega | ((simp only [Ab.next_alloc, Ab.next_upd, List.length_cons, List.length_nil, ne_eq, not_true_eq_false, not_false_eq_true]) <;> omega) | decide) only [↓stepPre, stepPost, ↓W_cond, ↓W_block, ↓reduceIte, Nat.reduceEqDiff, Nat.reduceLT, Nat.reduceLeDiff, ret0, stVar, isTup, Value.cells, Nat.le_refl, Nat.reduceAdd, Nat.reduceMul, Nat.reduceSub, env0, binV, intV, reduceCtorEq, pickV, nilCheckV, ptrV, unV, true_and, and_true, Nat.add_zero, Nat.zero_add, Rt, resultsV, allV, resV, Bool.not_true, Bool.not_false, calleeV, builtinV, eqV, fieldAddrV, ldVar, stN_own, stN_ownL, Int.fdiv_eq_ediv_of_nonneg, Int.reduceToNat, Int.reducePow, IntKind.bits, convV, ne_eq, not_false_eq_true, not_true_eq_false, Int.reduceNeg, Int.reduceAdd, Int.reduceSub, Int.reduceLT, Int.reduceLE, extractV, decide_true, decide_false, Int.reduceEq, mkFuncV, stBBodyRef, beq_self_eq_true, Ty.t27, Tryd.underlying27, Ty.t24, Tryd.underlying24, Ty.t5, Tryd.underlying5, Ty.t58, Tryd.underlying58, Ty.t22, Tryd.underlying22, Ty.t34, Tryd.underlying34, Ty.t25, Tryd.underlying25, Ty.t3, Tryd.underlying3, Ty.t4, Tryd.underlying4, Ty.t31, Tryd.underlying31, Tryd.results15]
        exact fin v8 s8 m8 l8 t8 w8
    · have hiq : i < q := by have := fun h => hend (.inl h); omega
      have c1 : (i : Int) < (q : Int) := by omega
      have hrf : r = false := by
        cases h : r
        · rfl
        · exact absurd (.inr h) hend
      subst hrf
      have hat := frC_at (e := true) (n := n) (r := false) (l := (q : Int)) (ds := ds) (i := i) (by omega)
      have hb8 : ds.getD i 0 < 256 := by
        have : ds.getD i 0 = ds[i]'(by omega) := by simp [List.getD_eq_getElem?_getD, hd]; rw [List.getElem?_eq_getElem (by omega)]; rfl
        rw [this]; exact hy _ (List.getElem_mem _)
      simp only [frC] at hat
      simp (disch := first | omega | ((simp only [Ab.next_alloc, Ab.next_upd, List.length_cons, List.length_nil, ne_eq, not_true_eq_false, not_false_eq_true]) <;> omega) | decide) only [↓stepPre, stepPost, ↓W_cond, ↓W_block, ↓reduceIte, Nat.reduceEqDiff, Nat.reduceLT, Nat.reduceLeDiff, ret0, stVar, isTup, Value.cells, Nat.le_refl, Nat.reduceAdd, Nat.reduceMul, Nat.reduceSub, env0, binV, intV, reduceCtorEq, pickV, nilCheckV, ptrV, unV, true_and, and_true, Nat.add_zero, Nat.zero_add, Rt, resultsV, allV, resV, Bool.not_true, Bool.not_false, calleeV, builtinV, eqV, fieldAddrV, ldVar, stN_own, stN_ownL, Int.fdiv_eq_ediv_of_nonneg, Int.reduceToNat, Int.reducePow, IntKind.bits, convV, ne_eq, not_false_eq_true, not_true_eq_false, Int.reduceNeg, Int.reduceAdd, Int.reduceSub, Int.reduceLT, Int.reduceLE, extractV, decide_true, decide_false, Int.reduceEq, mkFuncV, stBBodyRef, beq_self_eq_true, Ty.t27, Tryd.underlying27, Ty.t24, Tryd.underlying24, Ty.t5, Tryd.underlying5, Ty.t58, Tryd.underlying58, Ty.t22, Tryd.underlying22, Ty.t34, Tryd.underlying34, Ty.t25, Tryd.underlying25, Ty.t3, Tryd.underlying3, Ty.t4, Tryd.underlying4, Ty.t31, Tryd.underlying31, getL_take, glBBodyRef, ft, h1, h3, h4, c1, idxArr Ty.arr25 Ty.siz5, Int.toNat_natCast, hat]
      refine of_ok (n := ds.getD i 0) (k := 8) (by omega) (by omega) (by omega) fun v8 s8 m8 l8 t8 w8 => ?_
      obtain ⟨v9, s9, e9, M9, l9, t9, w9⟩ := appS (mt.trans m8) (lw.mild m8) tw fw hn0 l8 (by rw [bitsOf_len]; omega)
      simp (disch := first | omega | ((simp only [Ab.next_alloc, Ab.next_upd, List.length_cons, List.length_nil, ne_eq, not_true_eq_false, not_false_eq_true]) <;> omega) | decide) only [↓stepPre, stepPost, ↓W_cond, ↓W_block, ↓reduceIte, Nat.reduceEqDiff, Nat.reduceLT, Nat.reduceLeDiff, ret0, stVar, isTup, Value.cells, Nat.le_refl, Nat.reduceAdd, Nat.reduceMul, Nat.reduceSub, env0, binV, intV, reduceCtorEq, pickV, nilCheckV, ptrV, unV, true_and, and_true, Nat.add_zero, Nat.zero_add, Rt, resultsV, allV, resV, Bool.not_true, Bool.not_false, calleeV, builtinV, eqV, fieldAddrV, ldVar, stN_own, stN_ownL, Int.fdiv_eq_ediv_of_nonneg, Int.reduceToNat, Int.reducePow, IntKind.bits, convV, ne_eq, not_false_eq_true, not_true_eq_false, Int.reduceNeg, Int.reduceAdd, Int.reduceSub, Int.reduceLT, Int.reduceLE, extractV, decide_true, decide_false, Int.reduceEq, mkFuncV, stBBodyRef, beq_self_eq_true, Ty.t27, Tryd.underlying27, Ty.t24, Tryd.underlying24, Ty.t5, Tryd.underlying5, Ty.t58, Tryd.underlying58, Ty.t22, Tryd.underlying22, Ty.t34, Tryd.underlying34, Ty.t25, Tryd.underlying25, Ty.t3, Tryd.underlying3, Ty.t4, Tryd.underlying4, Ty.t31, Tryd.underlying31, getL_take, glBBodyRef, e9, h1, h3, h4]
      refine ⟨hiq, M9, by simp, v9, rfl, ?_, t9, w9⟩
      rw [datL_succ (by omega)]
      simpa using l9
end Go.Proofs.YtdhmjnpaoacpfaaDoor
