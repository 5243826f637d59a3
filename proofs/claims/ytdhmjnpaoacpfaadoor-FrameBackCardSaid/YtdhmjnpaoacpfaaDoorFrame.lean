/- Bodies of frames, read: how many bits they have, and what they say (the package frame), as contracts. -/
import Derived.Test.YtdhmjnpaoacpfaaDoorTypes
import Derived.Test.YtdhmjnpaoacpfaaDoorRow0
import Derived.Test.YtdhmjnpaoacpfaaDoorAbC
import Derived.Test.YtdhmjnpaoacpfaaDoorBits
import Derived.Test.YtdhmjnpaoacpfaaDoorOwnOf
import Derived.Test.YtdhmjnpaoacpfaaDoorPack
import Derived.Test.YtdhmjnpaoacpfaaDoorPure
import Derived.Test.YtdhmjnpaoacpfaaDoorRight
import Derived.Test.YtdhmjnpaoacpfaaDoorBytes
import Derived.Test.YtdhmjnpaoacpfaaDoorBoxes
import Derived.Test.YtdhmjnpaoacpfaaDoorBody
import Derived.Test.YtdhmjnpaoacpfaaDoorCrcMore
set_option linter.all false
set_option maxRecDepth 20000
namespace Go.Proofs.YtdhmjnpaoacpfaaDoor
open Go Go.Ab
def stBFrame := And.intro @List.size_toArray.{0} (And.intro @List.length_cons.{0} (And.intro @List.length_nil.{0} (And.intro @List.set_cons_zero.{0} (And.intro @List.set_cons_succ.{0} (And.intro @List.getD_cons_zero.{0} (And.intro @List.getD_cons_succ.{0} (And.intro @List.getElem?_cons_succ.{0} (And.intro @List.getElem?_cons_zero.{0} (And.intro @List.map_cons.{0,0} (And.intro @List.map_nil.{0,0} (And.intro @Option.isNone_none.{0} (And.intro @Option.isNone_some.{0} (And.intro @Option.map_some.{0,0} (And.intro @Option.map_none.{0,0} (And.intro @List.cons_append.{0} (And.intro @List.nil_append.{0} (And.intro @List.append_nil.{0} (And.intro @Array.toList_append.{0} (And.intro @List.toList_toArray.{0} (And.intro @Int.cast_ofNat_Int (And.intro @Option.isSome_some.{0} (And.intro @List.getElem?_toArray.{0} (And.intro @List.map_toArray.{0,0} (@Nat.min_eq_left))))))))))))))))))))))))
def glBFrame := And.intro @List.drop_zero.{0} (And.intro @List.drop_succ_cons.{0} (And.intro @List.take_succ_cons.{0} (And.intro @List.take_zero.{0} (@List.take_nil.{0}))))
variable {base : Nat} [Bok base] {s : St} {R : Value → St → Prop}
theorem Sl.mid {v : Value} {xs : List Nat} (hs : Sl base s 1 v (bL xs)) {l h : Nat} (hl : l ≤ h) (hh : h ≤ xs.length) : ∃ v', sliceV Tryd.prog s 34 v (some (.int .i64 (l : Int))) (some (.int .i64 (h : Int))) none = some v' ∧ Sl base s 1 v' (bL ((xs.take h).drop l)) := by
  obtain ⟨va, vn, vc, rfl⟩ := hs.shape
  obtain ⟨c1, c2⟩ := sl_cap hs
  rw [bL_len] at c1
  obtain ⟨v', q3, q4, q5, q6⟩ := hs.cut (P := Tryd.prog) (lo := some (.int .i64 (l : Int))) (hi := some (.int .i64 (h : Int))) (mx := none) (l := l) (h := h) (m := vc) Ty.elem34 Ty.siz5 (fun a len cap hv => by
    cases hv
    simp only [cutV, intOf?]
    rw [if_pos ⟨by omega, by omega, by omega, by omega⟩]; simp) (by omega) (by rw [bL_len]; omega) (by omega)
  exact ⟨v', q3, by simpa [bL, List.map_take, List.map_drop] using q4⟩
/-! ### What a body's beginning tells -/
def extB (xs : List Nat) : Bool := xs.getD 13 0 != 0
def askN (xs : List Nat) : Nat := if extB xs then 32 else 12
def fromN (xs : List Nat) : Nat := if extB xs then 35 else 15
def toldB (xs : List Nat) : Bool := decide (14 ≤ xs.length ∧ fromN xs + 4 ≤ xs.length)
def remB (xs : List Nat) : Bool := xs.getD (askN xs) 0 != 0
def seg (xs : List Nat) (l h : Nat) : List Nat := (xs.take h).drop l
theorem seg_len (xs : List Nat) {l h : Nat} (h1 : l ≤ h) (h2 : h ≤ xs.length) : (seg xs l h).length = h - l := by simp [seg]; omega
def lenN (xs : List Nat) : Nat := min 8 (numOf (seg xs (fromN xs) (fromN xs + 4)))
def sizN (xs : List Nat) : Nat := fromN xs + 19 + if remB xs then 0 else 8 * lenN xs
def idN (xs : List Nat) : Nat := if extB xs then numOf (seg xs 1 12) * 262144 + numOf (seg xs 14 32) else numOf (seg xs 1 12)
theorem told_on {xs : List Nat} (h : toldB xs = true) : 14 ≤ xs.length ∧ fromN xs + 4 ≤ xs.length := of_decide_eq_true h
theorem from_in (xs : List Nat) : fromN xs = 15 ∨ fromN xs = 35 := by unfold fromN; split <;> simp
theorem ask_lt (xs : List Nat) : askN xs < fromN xs ∧ askN xs < 33 := by unfold askN fromN; split <;> omega
theorem lenN_le (xs : List Nat) : lenN xs ≤ 8 := Nat.min_le_left _ _
theorem getD_eq {xs : List Nat} {i : Nat} (h : i < xs.length) : xs.getD i 0 = xs[i] := by simp [List.getD_eq_getElem?_getD, h]
theorem at_u8 {v : Value} {xs : List Nat} (hs : Sl base s 1 v (bL xs)) {i : Nat} (hi : i < xs.length) : indexAddrV Tryd.prog 34 v (.int .i64 (i : Int)) = some (atP v (i * 1)) ∧ loadV Tryd.prog base s 5 (atP v (i * 1)) = some (.int .u8 ((xs.getD i 0 : Nat) : Int)) := by
  have h1 := hs.index (P := Tryd.prog) (k := .i64) (i := (i : Int)) Ty.elem34 Ty.siz5 (by omega) (by rw [bL_len]; omega)
  rw [Int.toNat_natCast] at h1
  rw [getD_eq hi]
  exact ⟨h1, hs.load1 (bL_at hi) Ty.agg5 Ty.siz5⟩
abbrev layC (xs : List Nat) : List Value := [.bool (extB xs), .int .i64 (askN xs : Int), .int .i64 (fromN xs : Int)]
abbrev redC (v : Value) (xs : List Nat) : List Value := [.bool (extB xs), .int .i64 (askN xs : Int), .int .i64 (fromN xs : Int), v]
theorem laid_ok {v : Value} {xs : List Nat} (hs : Sl base s 1 v (bL xs)) (hbn : base ≤ s.next)
    (hR : ∀ s', Mild s s' → R (.tuple #[.agg (if 14 ≤ xs.length then (layC xs).toArray else #[.bool false, .int .i64 0, .int .i64 0]), .bool (decide (14 ≤ xs.length))]) s') : WC Tryd.prog base 70 [v] s R := by
  refine WC_open Tryd.func70 rfl ?_
  have hlen := hs.len (P := Tryd.prog) (ts := []) Ty.elem34 Ty.arr34
  rw [bL_len] at hlen
  by_cases h : 14 ≤ xs.length
  rotate_left
  · have c1 : (xs.length : Int) < 14 := by omega
    simp (disch := first | omega | ((simp only [Ab.next_alloc, Ab.next_upd, List.length_cons, List.length_nil, ne_eq, not_true_eq_false, not_false_eq_true]) <;> omega) | decide) only [↓stepPre, stepPost, ↓W_cond, ↓W_block, ↓reduceIte, Nat.reduceEqDiff, Nat.reduceLT, Nat.reduceLeDiff, ret0, stVar, isTup, Value.cells, Nat.le_refl, Nat.reduceAdd, Nat.reduceMul, Nat.reduceSub, env0, binV, intV, reduceCtorEq, pickV, nilCheckV, ptrV, unV, true_and, and_true, Nat.add_zero, Nat.zero_add, Rt, resultsV, allV, resV, Bool.not_true, Bool.not_false, calleeV, builtinV, eqV, fieldAddrV, ldVar, stN_own, stN_ownL, Int.fdiv_eq_ediv_of_nonneg, Int.reduceToNat, Int.reducePow, IntKind.bits, convV, ne_eq, not_false_eq_true, not_true_eq_false, Int.reduceNeg, Int.reduceAdd, Int.reduceSub, Int.reduceLT, Int.reduceLE, extractV, decide_true, decide_false, Int.reduceEq, mkFuncV, stBFrame, beq_self_eq_true, Ty.t27, Tryd.underlying27, Ty.t24, Tryd.underlying24, Ty.t63, Tryd.underlying63, Ty.t65, Tryd.underlying65, Ty.t5, Tryd.underlying5, Ty.t58, Tryd.underlying58, Ty.t22, Tryd.underlying22, Ty.t34, Tryd.underlying34, Ty.t25, Tryd.underlying25, Ty.t3, Tryd.underlying3, Ty.t4, Tryd.underlying4, Ty.t31, Tryd.underlying31, getL_take, glBFrame, hlen, c1, buildV, fillL, Tryd.results70]
    have := hR _ (Mild.alloc s (.row [.bool false, .int .i64 0, .int .i64 0]))
    rw [if_neg h, decide_eq_false h] at this
    exact this
  have c1 : ¬ (xs.length : Int) < 14 := by omega
  have hm := Mild.alloc s (.row [.bool false, .int .i64 0, .int .i64 0])
  obtain ⟨i1, i2⟩ := at_u8 (hs.mild hm) (i := 13) (by omega)
  have i1' : indexAddrV Tryd.prog 34 v (.int .i64 13) = some (atP v (13 * 1)) := i1
  rw [decide_eq_true h] at hR
  simp only [if_pos h] at hR
  by_cases he : xs.getD 13 0 = 0
  · have e1 : extB xs = false := by simp only [extB, he]; rfl
    have c2 : ((xs.getD 13 0 : Nat) : Int) = 0 := by omega
    simp (disch := first | omega | ((simp only [Ab.next_alloc, Ab.next_upd, List.length_cons, List.length_nil, ne_eq, not_true_eq_false, not_false_eq_true]) <;> omega) | decide) only [↓stepPre, stepPost, ↓W_cond, ↓W_block, ↓reduceIte, Nat.reduceEqDiff, Nat.reduceLT, Nat.reduceLeDiff, ret0, stVar, isTup, Value.cells, Nat.le_refl, Nat.reduceAdd, Nat.reduceMul, Nat.reduceSub, env0, binV, intV, reduceCtorEq, pickV, nilCheckV, ptrV, unV, true_and, and_true, Nat.add_zero, Nat.zero_add, Rt, resultsV, allV, resV, Bool.not_true, Bool.not_false, calleeV, builtinV, eqV, fieldAddrV, ldVar, stN_own, stN_ownL, Int.fdiv_eq_ediv_of_nonneg, Int.reduceToNat, Int.reducePow, IntKind.bits, convV, ne_eq, not_false_eq_true, not_true_eq_false, Int.reduceNeg, Int.reduceAdd, Int.reduceSub, Int.reduceLT, Int.reduceLE, extractV, decide_true, decide_false, Int.reduceEq, mkFuncV, stBFrame, beq_self_eq_true, Ty.t27, Tryd.underlying27, Ty.t24, Tryd.underlying24, Ty.t63, Tryd.underlying63, Ty.t65, Tryd.underlying65, Ty.t5, Tryd.underlying5, Ty.t58, Tryd.underlying58, Ty.t22, Tryd.underlying22, Ty.t34, Tryd.underlying34, Ty.t25, Tryd.underlying25, Ty.t3, Tryd.underlying3, Ty.t4, Tryd.underlying4, Ty.t31, Tryd.underlying31, getL_take, glBFrame, hlen, c1, i1', i2, c2, buildV, fillL, Tryd.results70]
    have := hR _ (Mild.alloc s (.row [.bool false, .int .i64 12, .int .i64 15]))
    simp only [layC, askN, fromN, e1] at this
    exact this
  · have e1 : extB xs = true := by simp only [extB, bne_iff_ne, ne_eq]; exact he
    have c2 : ¬ ((xs.getD 13 0 : Nat) : Int) = 0 := by omega
    simp (disch := first | omega | ((simp only [Ab.next_alloc, Ab.next_upd, List.length_cons, List.length_nil, ne_eq, not_true_eq_false, not_false_eq_true]) <;> omega) | decide) only [↓stepPre, stepPost, ↓W_cond, ↓W_block, ↓reduceIte, Nat.reduceEqDiff, Nat.reduceLT, Nat.reduceLeDiff, ret0, stVar, isTup, Value.cells, Nat.le_refl, Nat.reduceAdd, Nat.reduceMul, Nat.reduceSub, env0, binV, intV, reduceCtorEq, pickV, nilCheckV, ptrV, unV, true_and, and_true, Nat.add_zero, Nat.zero_add, Rt, resultsV, allV, resV, Bool.not_true, Bool.not_false, calleeV, builtinV, eqV, fieldAddrV, ldVar, stN_own, stN_ownL, Int.fdiv_eq_ediv_of_nonneg, Int.reduceToNat, Int.reducePow, IntKind.bits, convV, ne_eq, not_false_eq_true, not_true_eq_false, Int.reduceNeg, Int.reduceAdd, Int.reduceSub, Int.reduceLT, Int.reduceLE, extractV, decide_true, decide_false, Int.reduceEq, mkFuncV, stBFrame, beq_self_eq_true, Ty.t27, Tryd.underlying27, Ty.t24, Tryd.underlying24, Ty.t63, Tryd.underlying63, Ty.t65, Tryd.underlying65, Ty.t5, Tryd.underlying5, Ty.t58, Tryd.underlying58, Ty.t22, Tryd.underlying22, Ty.t34, Tryd.underlying34, Ty.t25, Tryd.underlying25, Ty.t3, Tryd.underlying3, Ty.t4, Tryd.underlying4, Ty.t31, Tryd.underlying31, getL_take, glBFrame, hlen, c1, i1', i2, c2, buildV, fillL, Tryd.results70]
    have := hR _ (Mild.alloc s (.row [.bool true, .int .i64 32, .int .i64 35]))
    simp only [layC, askN, fromN, e1] at this
    exact this
theorem open_ok {v : Value} {xs : List Nat} (hs : Sl base s 1 v (bL xs)) (hbn : base ≤ s.next) (hn : xs.length ≤ 2 ^ 62)
    (hR : ∀ s', Mild s s' → R (.tuple #[.agg (if toldB xs then (redC v xs).toArray else #[.bool false, .int .i64 0, .int .i64 0, .slice none 0 0]), .bool (toldB xs)]) s') : WC Tryd.prog base 46 [v] s R := by
  refine WC_open Tryd.func46 rfl ?_
  have hlen := hs.len (P := Tryd.prog) (ts := []) Ty.elem34 Ty.arr34
  rw [bL_len] at hlen
  simp (disch := first | omega | ((simp only [Ab.next_alloc, Ab.next_upd, List.length_cons, List.length_nil, ne_eq, not_true_eq_false, not_false_eq_true]) <;> omega) | decide) only [↓stepPre, stepPost, ↓W_cond, ↓W_block, ↓reduceIte, Nat.reduceEqDiff, Nat.reduceLT, Nat.reduceLeDiff, ret0, stVar, isTup, Value.cells, Nat.le_refl, Nat.reduceAdd, Nat.reduceMul, Nat.reduceSub, env0, binV, intV, reduceCtorEq, pickV, nilCheckV, ptrV, unV, true_and, and_true, Nat.add_zero, Nat.zero_add, Rt, resultsV, allV, resV, Bool.not_true, Bool.not_false, calleeV, builtinV, eqV, fieldAddrV, ldVar, stN_own, stN_ownL, Int.fdiv_eq_ediv_of_nonneg, Int.reduceToNat, Int.reducePow, IntKind.bits, convV, ne_eq, not_false_eq_true, not_true_eq_false, Int.reduceNeg, Int.reduceAdd, Int.reduceSub, Int.reduceLT, Int.reduceLE, extractV, decide_true, decide_false, Int.reduceEq, mkFuncV, stBFrame, beq_self_eq_true, Ty.t27, Tryd.underlying27, Ty.t24, Tryd.underlying24, Ty.t63, Tryd.underlying63, Ty.t65, Tryd.underlying65, Ty.t5, Tryd.underlying5, Ty.t58, Tryd.underlying58, Ty.t22, Tryd.underlying22, Ty.t34, Tryd.underlying34, Ty.t25, Tryd.underlying25, Ty.t3, Tryd.underlying3, Ty.t4, Tryd.underlying4, Ty.t31, Tryd.underlying31, getL_take, glBFrame]
  refine laid_ok (hs.mild (.alloc _ _)) (by simp only [Ab.next_alloc]; omega) fun s1 m1 => ?_
  have n1 := m1.next
  simp only [Ab.next_alloc] at n1
  have r1 := (m1.heap s.next (by simp only [Ab.next_alloc]; omega)).trans (Ab.heap_alloc_new s _)
  have M1 := (Mild.alloc s (.row [.bool false, .int .i64 0, .int .i64 0, .slice none 0 0])).trans m1
  by_cases h : 14 ≤ xs.length
  rotate_left
  · have hf : toldB xs = false := by simp only [toldB]; exact decide_eq_false fun h' => h h'.1
    rw [if_neg h, decide_eq_false h]
    simp (disch := first | omega | ((simp only [Ab.next_alloc, Ab.next_upd, List.length_cons, List.length_nil, ne_eq, not_true_eq_false, not_false_eq_true]) <;> omega) | decide) only [↓stepPre, stepPost, ↓W_cond, ↓W_block, ↓reduceIte, Nat.reduceEqDiff, Nat.reduceLT, Nat.reduceLeDiff, ret0, stVar, isTup, Value.cells, Nat.le_refl, Nat.reduceAdd, Nat.reduceMul, Nat.reduceSub, env0, binV, intV, reduceCtorEq, pickV, nilCheckV, ptrV, unV, true_and, and_true, Nat.add_zero, Nat.zero_add, Rt, resultsV, allV, resV, Bool.not_true, Bool.not_false, calleeV, builtinV, eqV, fieldAddrV, ldVar, stN_own, stN_ownL, Int.fdiv_eq_ediv_of_nonneg, Int.reduceToNat, Int.reducePow, IntKind.bits, convV, ne_eq, not_false_eq_true, not_true_eq_false, Int.reduceNeg, Int.reduceAdd, Int.reduceSub, Int.reduceLT, Int.reduceLE, extractV, decide_true, decide_false, Int.reduceEq, mkFuncV, stBFrame, beq_self_eq_true, Ty.t27, Tryd.underlying27, Ty.t24, Tryd.underlying24, Ty.t63, Tryd.underlying63, Ty.t65, Tryd.underlying65, Ty.t5, Tryd.underlying5, Ty.t58, Tryd.underlying58, Ty.t22, Tryd.underlying22, Ty.t34, Tryd.underlying34, Ty.t25, Tryd.underlying25, Ty.t3, Tryd.underlying3, Ty.t4, Tryd.underlying4, Ty.t31, Tryd.underlying31, getL_take, glBFrame, hlen, r1, buildV, fillL, Tryd.results46]
    have := hR _ ((M1.alloc' (o := .row [.bool false, .int .i64 0, .int .i64 0])).upd' (b := s.next) (o := .row [.bool false, .int .i64 0, .int .i64 0, .slice none 0 0]) (Nat.le_refl _))
    rw [hf] at this
    exact this
  have hfi := from_in xs
  rw [if_pos h, decide_eq_true h]
  by_cases hf : toldB xs = true
  · obtain ⟨t1, t2⟩ := told_on hf
    have c2 : ¬ (xs.length : Int) < (fromN xs : Int) + 4 := by omega
    have := hR _ ((M1.alloc' (o := .row (layC xs))).upd' (b := s.next) (o := .row (redC v xs)) (Nat.le_refl _))
    rw [hf] at this
    obtain ⟨vb, vo, vn, vc, rfl⟩ := hs.conc (by intro h; have := congrArg List.length h; simp only [bL_len, List.length_nil] at this; omega)
    simp (disch := first | omega | ((simp only [Ab.next_alloc, Ab.next_upd, List.length_cons, List.length_nil, ne_eq, not_true_eq_false, not_false_eq_true]) <;> omega) | decide) only [↓stepPre, stepPost, ↓W_cond, ↓W_block, ↓reduceIte, Nat.reduceEqDiff, Nat.reduceLT, Nat.reduceLeDiff, ret0, stVar, isTup, Value.cells, Nat.le_refl, Nat.reduceAdd, Nat.reduceMul, Nat.reduceSub, env0, binV, intV, reduceCtorEq, pickV, nilCheckV, ptrV, unV, true_and, and_true, Nat.add_zero, Nat.zero_add, Rt, resultsV, allV, resV, Bool.not_true, Bool.not_false, calleeV, builtinV, eqV, fieldAddrV, ldVar, stN_own, stN_ownL, Int.fdiv_eq_ediv_of_nonneg, Int.reduceToNat, Int.reducePow, IntKind.bits, convV, ne_eq, not_false_eq_true, not_true_eq_false, Int.reduceNeg, Int.reduceAdd, Int.reduceSub, Int.reduceLT, Int.reduceLE, extractV, decide_true, decide_false, Int.reduceEq, mkFuncV, stBFrame, beq_self_eq_true, Ty.t27, Tryd.underlying27, Ty.t24, Tryd.underlying24, Ty.t63, Tryd.underlying63, Ty.t65, Tryd.underlying65, Ty.t5, Tryd.underlying5, Ty.t58, Tryd.underlying58, Ty.t22, Tryd.underlying22, Ty.t34, Tryd.underlying34, Ty.t25, Tryd.underlying25, Ty.t3, Tryd.underlying3, Ty.t4, Tryd.underlying4, Ty.t31, Tryd.underlying31, getL_take, glBFrame, hlen, r1, buildV, fillL, c2, Tryd.results46]
    exact this
  · have hf' : toldB xs = false := by simpa using hf
    have c2 : (xs.length : Int) < (fromN xs : Int) + 4 := by
      have : ¬ (14 ≤ xs.length ∧ fromN xs + 4 ≤ xs.length) := of_decide_eq_false hf'
      omega
    have := hR _ ((M1.alloc' (o := .row (layC xs))).upd' (b := s.next) (o := .row [.bool false, .int .i64 0, .int .i64 0, .slice none 0 0]) (Nat.le_refl _))
    rw [hf'] at this
    simp (disch := first | omega | ((simp only [Ab.next_alloc, Ab.next_upd, List.length_cons, List.length_nil, ne_eq, not_true_eq_false, not_false_eq_true]) <;> omega) | decide) only [↓stepPre, stepPost, ↓W_cond, ↓W_block, ↓reduceIte, Nat.reduceEqDiff, Nat.reduceLT, Nat.reduceLeDiff, ret0, stVar, isTup, Value.cells, Nat.le_refl, Nat.reduceAdd, Nat.reduceMul, Nat.reduceSub, env0, binV, intV, reduceCtorEq, pickV, nilCheckV, ptrV, unV, true_and, and_true, Nat.add_zero, Nat.zero_add, Rt, resultsV, allV, resV, Bool.not_true, Bool.not_false, calleeV, builtinV, eqV, fieldAddrV, ldVar, stN_own, stN_ownL, Int.fdiv_eq_ediv_of_nonneg, Int.reduceToNat, Int.reducePow, IntKind.bits, convV, ne_eq, not_false_eq_true, not_true_eq_false, Int.reduceNeg, Int.reduceAdd, Int.reduceSub, Int.reduceLT, Int.reduceLE, extractV, decide_true, decide_false, Int.reduceEq, mkFuncV, stBFrame, beq_self_eq_true, Ty.t27, Tryd.underlying27, Ty.t24, Tryd.underlying24, Ty.t63, Tryd.underlying63, Ty.t65, Tryd.underlying65, Ty.t5, Tryd.underlying5, Ty.t58, Tryd.underlying58, Ty.t22, Tryd.underlying22, Ty.t34, Tryd.underlying34, Ty.t25, Tryd.underlying25, Ty.t3, Tryd.underlying3, Ty.t4, Tryd.underlying4, Ty.t31, Tryd.underlying31, getL_take, glBFrame, hlen, r1, buildV, fillL, c2, Tryd.results46]
    exact this
theorem remote_ok {v : Value} {xs : List Nat} (hs : Sl base s 1 v (bL xs)) (hbn : base ≤ s.next) (ht : toldB xs = true) (hR : ∀ s', Mild s s' → R (.bool (remB xs)) s') : WC Tryd.prog base 50 [.agg (redC v xs).toArray] s R := by
  refine WC_open Tryd.func50 rfl ?_
  obtain ⟨t1, t2⟩ := told_on ht
  have ha := ask_lt xs
  obtain ⟨vb, vo, vn, vc, rfl⟩ := hs.conc (by intro h; have := congrArg List.length h; simp only [bL_len, List.length_nil] at this; omega)
  have hm := Mild.alloc s (.row (redC (.slice (some ⟨vb, vo, none⟩) vn vc) xs))
  obtain ⟨i1, i2⟩ := at_u8 (hs.mild hm) (i := askN xs) (by omega)
  have hv : decide (¬ ((xs.getD (askN xs) 0 : Nat) : Int) = 0) = remB xs := by
    unfold remB
    rw [Bool.eq_iff_iff]; simp
  have := hR _ hm
  rw [← hv] at this
  simp (disch := first | omega | ((simp only [Ab.next_alloc, Ab.next_upd, List.length_cons, List.length_nil, ne_eq, not_true_eq_false, not_false_eq_true]) <;> omega) | decide) only [↓stepPre, stepPost, ↓W_cond, ↓W_block, ↓reduceIte, Nat.reduceEqDiff, Nat.reduceLT, Nat.reduceLeDiff, ret0, stVar, isTup, Value.cells, Nat.le_refl, Nat.reduceAdd, Nat.reduceMul, Nat.reduceSub, env0, binV, intV, reduceCtorEq, pickV, nilCheckV, ptrV, unV, true_and, and_true, Nat.add_zero, Nat.zero_add, Rt, resultsV, allV, resV, Bool.not_true, Bool.not_false, calleeV, builtinV, eqV, fieldAddrV, ldVar, stN_own, stN_ownL, Int.fdiv_eq_ediv_of_nonneg, Int.reduceToNat, Int.reducePow, IntKind.bits, convV, ne_eq, not_false_eq_true, not_true_eq_false, Int.reduceNeg, Int.reduceAdd, Int.reduceSub, Int.reduceLT, Int.reduceLE, extractV, decide_true, decide_false, Int.reduceEq, mkFuncV, stBFrame, beq_self_eq_true, Ty.t27, Tryd.underlying27, Ty.t24, Tryd.underlying24, Ty.t63, Tryd.underlying63, Ty.t65, Tryd.underlying65, Ty.t5, Tryd.underlying5, Ty.t58, Tryd.underlying58, Ty.t22, Tryd.underlying22, Ty.t34, Tryd.underlying34, Ty.t25, Tryd.underlying25, Ty.t3, Tryd.underlying3, Ty.t4, Tryd.underlying4, Ty.t31, Tryd.underlying31, getL_take, glBFrame, i1, i2, Tryd.results50]
  exact this
theorem bytes6_ok {v : Value} {xs : List Nat} (hs : Sl base s 1 v (bL xs)) (hbn : base ≤ s.next) (ht : toldB xs = true) (hR : ∀ s', Mild s s' → R (.int .i64 (lenN xs : Int)) s') : WC Tryd.prog base 51 [.agg (redC v xs).toArray] s R := by
  refine WC_open Tryd.func51 rfl ?_
  obtain ⟨t1, t2⟩ := told_on ht
  have hfi := from_in xs
  obtain ⟨vb, vo, vn, vc, rfl⟩ := hs.conc (by intro h; have := congrArg List.length h; simp only [bL_len, List.length_nil] at this; omega)
  have hm := Mild.alloc s (.row (redC (.slice (some ⟨vb, vo, none⟩) vn vc) xs))
  obtain ⟨v', e1, e2⟩ := Sl.mid (hs.mild hm) (l := fromN xs) (h := fromN xs + 4) (by omega) t2
  have e1' : sliceV Tryd.prog (s.alloc (.row (redC (.slice (some ⟨vb, vo, none⟩) vn vc) xs))) 34 (.slice (some ⟨vb, vo, none⟩) vn vc) (some (.int .i64 (fromN xs : Int))) (some (.int .i64 ((fromN xs : Int) + 4))) none = some v' := by rw [← e1]; congr 3
  simp (disch := first | omega | ((simp only [Ab.next_alloc, Ab.next_upd, List.length_cons, List.length_nil, ne_eq, not_true_eq_false, not_false_eq_true]) <;> omega) | decide) only [↓stepPre, stepPost, ↓W_cond, ↓W_block, ↓reduceIte, Nat.reduceEqDiff, Nat.reduceLT, Nat.reduceLeDiff, ret0, stVar, isTup, Value.cells, Nat.le_refl, Nat.reduceAdd, Nat.reduceMul, Nat.reduceSub, env0, binV, intV, reduceCtorEq, pickV, nilCheckV, ptrV, unV, true_and, and_true, Nat.add_zero, Nat.zero_add, Rt, resultsV, allV, resV, Bool.not_true, Bool.not_false, calleeV, builtinV, eqV, fieldAddrV, ldVar, stN_own, stN_ownL, Int.fdiv_eq_ediv_of_nonneg, Int.reduceToNat, Int.reducePow, IntKind.bits, convV, ne_eq, not_false_eq_true, not_true_eq_false, Int.reduceNeg, Int.reduceAdd, Int.reduceSub, Int.reduceLT, Int.reduceLE, extractV, decide_true, decide_false, Int.reduceEq, mkFuncV, stBFrame, beq_self_eq_true, Ty.t27, Tryd.underlying27, Ty.t24, Tryd.underlying24, Ty.t63, Tryd.underlying63, Ty.t65, Tryd.underlying65, Ty.t5, Tryd.underlying5, Ty.t58, Tryd.underlying58, Ty.t22, Tryd.underlying22, Ty.t34, Tryd.underlying34, Ty.t25, Tryd.underlying25, Ty.t3, Tryd.underlying3, Ty.t4, Tryd.underlying4, Ty.t31, Tryd.underlying31, getL_take, glBFrame, e1']
  have hsl : (seg xs (fromN xs) (fromN xs + 4)).length = 4 := by rw [seg_len _ (by omega) t2]; omega
  refine own_number_ok e2 (by have := hsl; simp only [seg] at this; omega) (by simp only [Ab.next_alloc]; omega) fun s1 m1 => ?_
  have hlt := numOf_lt (seg xs (fromN xs) (fromN xs + 4))
  rw [hsl] at hlt
  have hmod : numOf ((xs.take (fromN xs + 4)).drop (fromN xs)) % 2 ^ 64 = numOf (seg xs (fromN xs) (fromN xs + 4)) := Nat.mod_eq_of_lt (by simp only [seg] at hlt ⊢; omega)
  rw [hmod]
  simp (disch := first | omega | ((simp only [Ab.next_alloc, Ab.next_upd, List.length_cons, List.length_nil, ne_eq, not_true_eq_false, not_false_eq_true]) <;> omega) | decide) only [↓stepPre, stepPost, ↓W_cond, ↓W_block, ↓reduceIte, Nat.reduceEqDiff, Nat.reduceLT, Nat.reduceLeDiff, ret0, stVar, isTup, Value.cells, Nat.le_refl, Nat.reduceAdd, Nat.reduceMul, Nat.reduceSub, env0, binV, intV, reduceCtorEq, pickV, nilCheckV, ptrV, unV, true_and, and_true, Nat.add_zero, Nat.zero_add, Rt, resultsV, allV, resV, Bool.not_true, Bool.not_false, calleeV, builtinV, eqV, fieldAddrV, ldVar, stN_own, stN_ownL, Int.fdiv_eq_ediv_of_nonneg, Int.reduceToNat, Int.reducePow, IntKind.bits, convV, ne_eq, not_false_eq_true, not_true_eq_false, Int.reduceNeg, Int.reduceAdd, Int.reduceSub, Int.reduceLT, Int.reduceLE, extractV, decide_true, decide_false, Int.reduceEq, mkFuncV, stBFrame, beq_self_eq_true, Ty.t27, Tryd.underlying27, Ty.t24, Tryd.underlying24, Ty.t63, Tryd.underlying63, Ty.t65, Tryd.underlying65, Ty.t5, Tryd.underlying5, Ty.t58, Tryd.underlying58, Ty.t22, Tryd.underlying22, Ty.t34, Tryd.underlying34, Ty.t25, Tryd.underlying25, Ty.t3, Tryd.underlying3, Ty.t4, Tryd.underlying4, Ty.t31, Tryd.underlying31, getL_take, glBFrame, minB, foldV, minV, Tryd.results51]
  have e : (if ((numOf (seg xs (fromN xs) (fromN xs + 4)) : Nat) : Int) < 8 then ((numOf (seg xs (fromN xs) (fromN xs + 4)) : Nat) : Int) else 8) = ((lenN xs : Nat) : Int) := by
    unfold lenN
    rw [Nat.min_def]
    split <;> split <;> omega
  rw [e]
  exact hR _ (hm.trans m1)
theorem size6_ok {v : Value} {xs : List Nat} (hs : Sl base s 1 v (bL xs)) (hbn : base ≤ s.next) (ht : toldB xs = true) (hR : ∀ s', Mild s s' → R (.int .i64 (sizN xs : Int)) s') : WC Tryd.prog base 47 [.agg (redC v xs).toArray] s R := by
  refine WC_open Tryd.func47 rfl ?_
  obtain ⟨t1, t2⟩ := told_on ht
  have hfi := from_in xs
  have hle := lenN_le xs
  obtain ⟨vb, vo, vn, vc, rfl⟩ := hs.conc (by intro h; have := congrArg List.length h; simp only [bL_len, List.length_nil] at this; omega)
  have hm := Mild.alloc s (.row (redC (.slice (some ⟨vb, vo, none⟩) vn vc) xs))
  simp (disch := first | omega | ((simp only [Ab.next_alloc, Ab.next_upd, List.length_cons, List.length_nil, ne_eq, not_true_eq_false, not_false_eq_true]) <;> omega) | decide) only [↓stepPre, stepPost, ↓W_cond, ↓W_block, ↓reduceIte, Nat.reduceEqDiff, Nat.reduceLT, Nat.reduceLeDiff, ret0, stVar, isTup, Value.cells, Nat.le_refl, Nat.reduceAdd, Nat.reduceMul, Nat.reduceSub, env0, binV, intV, reduceCtorEq, pickV, nilCheckV, ptrV, unV, true_and, and_true, Nat.add_zero, Nat.zero_add, Rt, resultsV, allV, resV, Bool.not_true, Bool.not_false, calleeV, builtinV, eqV, fieldAddrV, ldVar, stN_own, stN_ownL, Int.fdiv_eq_ediv_of_nonneg, Int.reduceToNat, Int.reducePow, IntKind.bits, convV, ne_eq, not_false_eq_true, not_true_eq_false, Int.reduceNeg, Int.reduceAdd, Int.reduceSub, Int.reduceLT, Int.reduceLE, extractV, decide_true, decide_false, Int.reduceEq, mkFuncV, stBFrame, beq_self_eq_true, Ty.t27, Tryd.underlying27, Ty.t24, Tryd.underlying24, Ty.t63, Tryd.underlying63, Ty.t65, Tryd.underlying65, Ty.t5, Tryd.underlying5, Ty.t58, Tryd.underlying58, Ty.t22, Tryd.underlying22, Ty.t34, Tryd.underlying34, Ty.t25, Tryd.underlying25, Ty.t3, Tryd.underlying3, Ty.t4, Tryd.underlying4, Ty.t31, Tryd.underlying31, getL_take, glBFrame]
  refine remote_ok (hs.mild hm) (by simp only [Ab.next_alloc]; omega) ht fun s1 m1 => ?_
  have M1 := hm.trans m1
  have n1 := M1.next
  have r1 := (m1.heap s.next (by simp only [Ab.next_alloc]; omega)).trans (Ab.heap_alloc_new s _)
  cases hr : remB xs with
  | true =>
    have e : ((sizN xs : Nat) : Int) = (fromN xs : Int) + 4 + 15 := by simp only [sizN, hr, if_true]; omega
    simp (disch := first | omega | ((simp only [Ab.next_alloc, Ab.next_upd, List.length_cons, List.length_nil, ne_eq, not_true_eq_false, not_false_eq_true]) <;> omega) | decide) only [↓stepPre, stepPost, ↓W_cond, ↓W_block, ↓reduceIte, Nat.reduceEqDiff, Nat.reduceLT, Nat.reduceLeDiff, ret0, stVar, isTup, Value.cells, Nat.le_refl, Nat.reduceAdd, Nat.reduceMul, Nat.reduceSub, env0, binV, intV, reduceCtorEq, pickV, nilCheckV, ptrV, unV, true_and, and_true, Nat.add_zero, Nat.zero_add, Rt, resultsV, allV, resV, Bool.not_true, Bool.not_false, calleeV, builtinV, eqV, fieldAddrV, ldVar, stN_own, stN_ownL, Int.fdiv_eq_ediv_of_nonneg, Int.reduceToNat, Int.reducePow, IntKind.bits, convV, ne_eq, not_false_eq_true, not_true_eq_false, Int.reduceNeg, Int.reduceAdd, Int.reduceSub, Int.reduceLT, Int.reduceLE, extractV, decide_true, decide_false, Int.reduceEq, mkFuncV, stBFrame, beq_self_eq_true, Ty.t27, Tryd.underlying27, Ty.t24, Tryd.underlying24, Ty.t63, Tryd.underlying63, Ty.t65, Tryd.underlying65, Ty.t5, Tryd.underlying5, Ty.t58, Tryd.underlying58, Ty.t22, Tryd.underlying22, Ty.t34, Tryd.underlying34, Ty.t25, Tryd.underlying25, Ty.t3, Tryd.underlying3, Ty.t4, Tryd.underlying4, Ty.t31, Tryd.underlying31, getL_take, glBFrame, Tryd.results47]
    rw [← e]
    exact hR _ M1
  | false =>
    have e : ((sizN xs : Nat) : Int) = (fromN xs : Int) + 4 + 15 + 8 * (lenN xs : Int) := by simp only [sizN, hr]; simp; omega
    simp (disch := first | omega | ((simp only [Ab.next_alloc, Ab.next_upd, List.length_cons, List.length_nil, ne_eq, not_true_eq_false, not_false_eq_true]) <;> omega) | decide) only [↓stepPre, stepPost, ↓W_cond, ↓W_block, ↓reduceIte, Nat.reduceEqDiff, Nat.reduceLT, Nat.reduceLeDiff, ret0, stVar, isTup, Value.cells, Nat.le_refl, Nat.reduceAdd, Nat.reduceMul, Nat.reduceSub, env0, binV, intV, reduceCtorEq, pickV, nilCheckV, ptrV, unV, true_and, and_true, Nat.add_zero, Nat.zero_add, Rt, resultsV, allV, resV, Bool.not_true, Bool.not_false, calleeV, builtinV, eqV, fieldAddrV, ldVar, stN_own, stN_ownL, Int.fdiv_eq_ediv_of_nonneg, Int.reduceToNat, Int.reducePow, IntKind.bits, convV, ne_eq, not_false_eq_true, not_true_eq_false, Int.reduceNeg, Int.reduceAdd, Int.reduceSub, Int.reduceLT, Int.reduceLE, extractV, decide_true, decide_false, Int.reduceEq, mkFuncV, stBFrame, beq_self_eq_true, Ty.t27, Tryd.underlying27, Ty.t24, Tryd.underlying24, Ty.t63, Tryd.underlying63, Ty.t65, Tryd.underlying65, Ty.t5, Tryd.underlying5, Ty.t58, Tryd.underlying58, Ty.t22, Tryd.underlying22, Ty.t34, Tryd.underlying34, Ty.t25, Tryd.underlying25, Ty.t3, Tryd.underlying3, Ty.t4, Tryd.underlying4, Ty.t31, Tryd.underlying31, getL_take, glBFrame, r1]
    refine bytes6_ok (hs.mild M1) (by omega) ht fun s2 m2 => ?_
    simp (disch := first | omega | ((simp only [Ab.next_alloc, Ab.next_upd, List.length_cons, List.length_nil, ne_eq, not_true_eq_false, not_false_eq_true]) <;> omega) | decide) only [↓stepPre, stepPost, ↓W_cond, ↓W_block, ↓reduceIte, Nat.reduceEqDiff, Nat.reduceLT, Nat.reduceLeDiff, ret0, stVar, isTup, Value.cells, Nat.le_refl, Nat.reduceAdd, Nat.reduceMul, Nat.reduceSub, env0, binV, intV, reduceCtorEq, pickV, nilCheckV, ptrV, unV, true_and, and_true, Nat.add_zero, Nat.zero_add, Rt, resultsV, allV, resV, Bool.not_true, Bool.not_false, calleeV, builtinV, eqV, fieldAddrV, ldVar, stN_own, stN_ownL, Int.fdiv_eq_ediv_of_nonneg, Int.reduceToNat, Int.reducePow, IntKind.bits, convV, ne_eq, not_false_eq_true, not_true_eq_false, Int.reduceNeg, Int.reduceAdd, Int.reduceSub, Int.reduceLT, Int.reduceLE, extractV, decide_true, decide_false, Int.reduceEq, mkFuncV, stBFrame, beq_self_eq_true, Ty.t27, Tryd.underlying27, Ty.t24, Tryd.underlying24, Ty.t63, Tryd.underlying63, Ty.t65, Tryd.underlying65, Ty.t5, Tryd.underlying5, Ty.t58, Tryd.underlying58, Ty.t22, Tryd.underlying22, Ty.t34, Tryd.underlying34, Ty.t25, Tryd.underlying25, Ty.t3, Tryd.underlying3, Ty.t4, Tryd.underlying4, Ty.t31, Tryd.underlying31, getL_take, glBFrame, Tryd.results47]
    rw [← e]
    exact hR _ (M1.trans m2)
theorem or18 {a b : Nat} (ha : a < 2048) (hb : b < 262144) : orI .u32 (IntKind.u32.wrap ((a : Int) * 2 ^ 18)) (b : Int) = ((a * 262144 + b : Nat) : Int) := by
  have h0 : (a : Int) * 2 ^ 18 = ((a * 262144 : Nat) : Int) := by
    rw [show (2 : Int) ^ 18 = ((262144 : Nat) : Int) from rfl, ← Int.natCast_mul]
  have h1 : IntKind.u32.wrap ((a : Int) * 2 ^ 18) = ((a * 262144 : Nat) : Int) := by
    rw [h0, IntWalk.u32_in _ (by omega)]
  rw [h1]
  unfold orI
  have e1 : (((a * 262144 : Nat) : Int) % 2 ^ IntKind.u32.bits).toNat = a * 262144 := by
    rw [show (2 : Int) ^ IntKind.u32.bits = 4294967296 from rfl, Int.emod_eq_of_lt (by omega) (by omega)]; exact Int.toNat_natCast _
  have e2 : ((b : Int) % 2 ^ IntKind.u32.bits).toNat = b := by
    rw [show (2 : Int) ^ IntKind.u32.bits = 4294967296 from rfl, Int.emod_eq_of_lt (by omega) (by omega)]; exact Int.toNat_natCast _
  rw [e1, e2]
  have e3 : a * 262144 ||| b = a * 262144 + b := by
    have := Nat.two_pow_add_eq_or_of_lt (i := 18) (b := b) (by omega) a
    rw [Nat.mul_comm a, ← this]
  rw [e3, IntWalk.u32_in _ (by omega)]
theorem id6_ok {v : Value} {xs : List Nat} (hs : Sl base s 1 v (bL xs)) (hbn : base ≤ s.next) (ht : toldB xs = true) (hR : ∀ s', Mild s s' → R (.agg #[.bool (extB xs), .int .u32 ((idN xs : Nat) : Int)]) s') : WC Tryd.prog base 49 [.agg (redC v xs).toArray] s R := by
  refine WC_open Tryd.func49 rfl ?_
  obtain ⟨t1, t2⟩ := told_on ht
  have hfi := from_in xs
  obtain ⟨vb, vo, vn, vc, rfl⟩ := hs.conc (by intro h; have := congrArg List.length h; simp only [bL_len, List.length_nil] at this; omega)
  have hm := (Mild.alloc s (.row (redC (.slice (some ⟨vb, vo, none⟩) vn vc) xs))).alloc' (o := .row [.bool false, .int .u32 0])
  obtain ⟨v', e1, e2⟩ := Sl.mid (hs.mild hm) (l := 1) (h := 12) (by omega) (by omega)
  have e1' : sliceV Tryd.prog ((s.alloc (.row (redC (.slice (some ⟨vb, vo, none⟩) vn vc) xs))).alloc (.row [.bool false, .int .u32 0])) 34 (.slice (some ⟨vb, vo, none⟩) vn vc) (some (.int .i64 1)) (some (.int .i64 12)) none = some v' := e1
  simp (disch := first | omega | ((simp only [Ab.next_alloc, Ab.next_upd, List.length_cons, List.length_nil, ne_eq, not_true_eq_false, not_false_eq_true]) <;> omega) | decide) only [↓stepPre, stepPost, ↓W_cond, ↓W_block, ↓reduceIte, Nat.reduceEqDiff, Nat.reduceLT, Nat.reduceLeDiff, ret0, stVar, isTup, Value.cells, Nat.le_refl, Nat.reduceAdd, Nat.reduceMul, Nat.reduceSub, env0, binV, intV, reduceCtorEq, pickV, nilCheckV, ptrV, unV, true_and, and_true, Nat.add_zero, Nat.zero_add, Rt, resultsV, allV, resV, Bool.not_true, Bool.not_false, calleeV, builtinV, eqV, fieldAddrV, ldVar, stN_own, stN_ownL, Int.fdiv_eq_ediv_of_nonneg, Int.reduceToNat, Int.reducePow, IntKind.bits, convV, ne_eq, not_false_eq_true, not_true_eq_false, Int.reduceNeg, Int.reduceAdd, Int.reduceSub, Int.reduceLT, Int.reduceLE, extractV, decide_true, decide_false, Int.reduceEq, mkFuncV, stBFrame, beq_self_eq_true, Ty.t27, Tryd.underlying27, Ty.t24, Tryd.underlying24, Ty.t63, Tryd.underlying63, Ty.t65, Tryd.underlying65, Ty.t5, Tryd.underlying5, Ty.t58, Tryd.underlying58, Ty.t22, Tryd.underlying22, Ty.t34, Tryd.underlying34, Ty.t25, Tryd.underlying25, Ty.t3, Tryd.underlying3, Ty.t4, Tryd.underlying4, Ty.t31, Tryd.underlying31, getL_take, glBFrame]
  refine W_draw (fun k => k == 10) (fun _ => false) (fun _ => false) (by kernel_rfl) (by kernel_rfl) ?_
  simp (disch := first | omega | ((simp only [Ab.next_alloc, Ab.next_upd, List.length_cons, List.length_nil, ne_eq, not_true_eq_false, not_false_eq_true]) <;> omega) | decide) only [↓stepPre, stepPost, ↓W_cond, ↓W_block, ↓reduceIte, Nat.reduceEqDiff, Nat.reduceLT, Nat.reduceLeDiff, ret0, stVar, isTup, Value.cells, Nat.le_refl, Nat.reduceAdd, Nat.reduceMul, Nat.reduceSub, env0, binV, intV, reduceCtorEq, pickV, nilCheckV, ptrV, unV, true_and, and_true, Nat.add_zero, Nat.zero_add, Rt, resultsV, allV, resV, Bool.not_true, Bool.not_false, calleeV, builtinV, eqV, fieldAddrV, ldVar, stN_own, stN_ownL, Int.fdiv_eq_ediv_of_nonneg, Int.reduceToNat, Int.reducePow, IntKind.bits, convV, ne_eq, not_false_eq_true, not_true_eq_false, Int.reduceNeg, Int.reduceAdd, Int.reduceSub, Int.reduceLT, Int.reduceLE, extractV, decide_true, decide_false, Int.reduceEq, mkFuncV, stBFrame, beq_self_eq_true, Ty.t27, Tryd.underlying27, Ty.t24, Tryd.underlying24, Ty.t63, Tryd.underlying63, Ty.t65, Tryd.underlying65, Ty.t5, Tryd.underlying5, Ty.t58, Tryd.underlying58, Ty.t22, Tryd.underlying22, Ty.t34, Tryd.underlying34, Ty.t25, Tryd.underlying25, Ty.t3, Tryd.underlying3, Ty.t4, Tryd.underlying4, Ty.t31, Tryd.underlying31, getL_take, glBFrame, e1']
  have hsl : (seg xs 1 12).length = 11 := by rw [seg_len _ (by omega) (by omega)]
  refine own_number_ok e2 (by have := hsl; simp only [seg] at this; omega) (by simp only [Ab.next_alloc]; omega) fun s1 m1 => ?_
  have hlt := numOf_lt (seg xs 1 12)
  rw [hsl] at hlt
  have hmod : numOf ((xs.take 12).drop 1) % 2 ^ 64 = numOf (seg xs 1 12) := Nat.mod_eq_of_lt (by simp only [seg] at hlt ⊢; omega)
  rw [hmod]
  refine ⟨Dok_mild m1, ?_⟩
  have M1 := hm.trans m1
  have n1 := m1.next
  simp only [Ab.next_alloc] at n1
  have r0 := (m1.heap s.next (by simp only [Ab.next_alloc]; omega)).trans ((Ab.heap_alloc_lt _ _ (by simp only [Ab.next_alloc]; omega)).trans (Ab.heap_alloc_new s _))
  have r1 := (m1.heap (s.next + 1) (by simp only [Ab.next_alloc]; omega)).trans (Ab.heap_alloc_new (s.alloc (.row (redC (.slice (some ⟨vb, vo, none⟩) vn vc) xs))) _)
  have hna : ((numOf (seg xs 1 12) : Nat) : Int) < 2048 := by omega
  simp (disch := first | omega | ((simp only [Ab.next_alloc, Ab.next_upd, List.length_cons, List.length_nil, ne_eq, not_true_eq_false, not_false_eq_true]) <;> omega) | decide) only [↓stepPre, stepPost, ↓W_cond, ↓W_block, ↓reduceIte, Nat.reduceEqDiff, Nat.reduceLT, Nat.reduceLeDiff, ret0, stVar, isTup, Value.cells, Nat.le_refl, Nat.reduceAdd, Nat.reduceMul, Nat.reduceSub, env0, binV, intV, reduceCtorEq, pickV, nilCheckV, ptrV, unV, true_and, and_true, Nat.add_zero, Nat.zero_add, Rt, resultsV, allV, resV, Bool.not_true, Bool.not_false, calleeV, builtinV, eqV, fieldAddrV, ldVar, stN_own, stN_ownL, Int.fdiv_eq_ediv_of_nonneg, Int.reduceToNat, Int.reducePow, IntKind.bits, convV, ne_eq, not_false_eq_true, not_true_eq_false, Int.reduceNeg, Int.reduceAdd, Int.reduceSub, Int.reduceLT, Int.reduceLE, extractV, decide_true, decide_false, Int.reduceEq, mkFuncV, stBFrame, beq_self_eq_true, Ty.t27, Tryd.underlying27, Ty.t24, Tryd.underlying24, Ty.t63, Tryd.underlying63, Ty.t65, Tryd.underlying65, Ty.t5, Tryd.underlying5, Ty.t58, Tryd.underlying58, Ty.t22, Tryd.underlying22, Ty.t34, Tryd.underlying34, Ty.t25, Tryd.underlying25, Ty.t3, Tryd.underlying3, Ty.t4, Tryd.underlying4, Ty.t31, Tryd.underlying31, getL_take, glBFrame, r0, r1, buildV, fillL, Dok_free, Dok_alloc]
  have M2 := M1.alloc' (o := .row [.bool (extB xs), .int .u32 ((numOf (seg xs 1 12) : Nat) : Int)])
  have q0 : (s1.alloc (.row [.bool (extB xs), .int .u32 ((numOf (seg xs 1 12) : Nat) : Int)])).heap s.next = .row (redC (.slice (some ⟨vb, vo, none⟩) vn vc) xs) := by rw [Ab.heap_alloc_ne _ _ (by omega)]; exact r0
  have q1 : (s1.alloc (.row [.bool (extB xs), .int .u32 ((numOf (seg xs 1 12) : Nat) : Int)])).heap (s.next + 1) = .row [.bool false, .int .u32 0] := by rw [Ab.heap_alloc_ne _ _ (by omega)]; exact r1
  have q2 := Ab.heap_alloc_new s1 (.row [.bool (extB xs), .int .u32 ((numOf (seg xs 1 12) : Nat) : Int)])
  have n2 := Ab.next_alloc s1 (.row [.bool (extB xs), .int .u32 ((numOf (seg xs 1 12) : Nat) : Int)])
  generalize s1.alloc (.row [.bool (extB xs), .int .u32 ((numOf (seg xs 1 12) : Nat) : Int)]) = s2 at M2 q0 q1 q2 n2 ⊢
  cases he : extB xs with
  | false =>
    have e : idN xs = numOf (seg xs 1 12) := by simp only [idN, he]; rfl
    simp (disch := first | omega | ((simp only [Ab.next_alloc, Ab.next_upd, List.length_cons, List.length_nil, ne_eq, not_true_eq_false, not_false_eq_true]) <;> omega) | decide) only [↓stepPre, stepPost, ↓W_cond, ↓W_block, ↓reduceIte, Nat.reduceEqDiff, Nat.reduceLT, Nat.reduceLeDiff, ret0, stVar, isTup, Value.cells, Nat.le_refl, Nat.reduceAdd, Nat.reduceMul, Nat.reduceSub, env0, binV, intV, reduceCtorEq, pickV, nilCheckV, ptrV, unV, true_and, and_true, Nat.add_zero, Nat.zero_add, Rt, resultsV, allV, resV, Bool.not_true, Bool.not_false, calleeV, builtinV, eqV, fieldAddrV, ldVar, stN_own, stN_ownL, Int.fdiv_eq_ediv_of_nonneg, Int.reduceToNat, Int.reducePow, IntKind.bits, convV, ne_eq, not_false_eq_true, not_true_eq_false, Int.reduceNeg, Int.reduceAdd, Int.reduceSub, Int.reduceLT, Int.reduceLE, extractV, decide_true, decide_false, Int.reduceEq, mkFuncV, stBFrame, beq_self_eq_true, Ty.t27, Tryd.underlying27, Ty.t24, Tryd.underlying24, Ty.t63, Tryd.underlying63, Ty.t65, Tryd.underlying65, Ty.t5, Tryd.underlying5, Ty.t58, Tryd.underlying58, Ty.t22, Tryd.underlying22, Ty.t34, Tryd.underlying34, Ty.t25, Tryd.underlying25, Ty.t3, Tryd.underlying3, Ty.t4, Tryd.underlying4, Ty.t31, Tryd.underlying31, getL_take, glBFrame, q0, q1, q2, he, Tryd.results49]
    have := hR _ (M2.upd' (b := s.next + 1) (o := .row [.bool false, .int .u32 ((numOf (seg xs 1 12) : Nat) : Int)]) (by omega))
    rw [he, e] at this
    exact this
  | true =>
    have hfi2 : fromN xs = 35 := by simp only [fromN, he, if_true]
    obtain ⟨v2, e3, e4⟩ := Sl.mid (hs.mild M2) (l := 14) (h := 32) (by omega) (by omega)
    have e3' : sliceV Tryd.prog s2 34 (.slice (some ⟨vb, vo, none⟩) vn vc) (some (.int .i64 14)) (some (.int .i64 32)) none = some v2 := e3
    simp (disch := first | omega | ((simp only [Ab.next_alloc, Ab.next_upd, List.length_cons, List.length_nil, ne_eq, not_true_eq_false, not_false_eq_true]) <;> omega) | decide) only [↓stepPre, stepPost, ↓W_cond, ↓W_block, ↓reduceIte, Nat.reduceEqDiff, Nat.reduceLT, Nat.reduceLeDiff, ret0, stVar, isTup, Value.cells, Nat.le_refl, Nat.reduceAdd, Nat.reduceMul, Nat.reduceSub, env0, binV, intV, reduceCtorEq, pickV, nilCheckV, ptrV, unV, true_and, and_true, Nat.add_zero, Nat.zero_add, Rt, resultsV, allV, resV, Bool.not_true, Bool.not_false, calleeV, builtinV, eqV, fieldAddrV, ldVar, stN_own, stN_ownL, Int.fdiv_eq_ediv_of_nonneg, Int.reduceToNat, Int.reducePow, IntKind.bits, convV, ne_eq, not_false_eq_true, not_true_eq_false, Int.reduceNeg, Int.reduceAdd, Int.reduceSub, Int.reduceLT, Int.reduceLE, extractV, decide_true, decide_false, Int.reduceEq, mkFuncV, stBFrame, beq_self_eq_true, Ty.t27, Tryd.underlying27, Ty.t24, Tryd.underlying24, Ty.t63, Tryd.underlying63, Ty.t65, Tryd.underlying65, Ty.t5, Tryd.underlying5, Ty.t58, Tryd.underlying58, Ty.t22, Tryd.underlying22, Ty.t34, Tryd.underlying34, Ty.t25, Tryd.underlying25, Ty.t3, Tryd.underlying3, Ty.t4, Tryd.underlying4, Ty.t31, Tryd.underlying31, getL_take, glBFrame, q0, q1, q2, he]
    refine W_draw (fun k => k == 10) (fun _ => false) (fun _ => false) (by kernel_rfl) (by kernel_rfl) ?_
    simp (disch := first | omega | ((simp only [Ab.next_alloc, Ab.next_upd, List.length_cons, List.length_nil, ne_eq, not_true_eq_false, not_false_eq_true]) <;> omega) | decide) only [↓stepPre, stepPost, ↓W_cond, ↓W_block, ↓reduceIte, Nat.reduceEqDiff, Nat.reduceLT, Nat.reduceLeDiff, ret0, stVar, isTup, Value.cells, Nat.le_refl, Nat.reduceAdd, Nat.reduceMul, Nat.reduceSub, env0, binV, intV, reduceCtorEq, pickV, nilCheckV, ptrV, unV, true_and, and_true, Nat.add_zero, Nat.zero_add, Rt, resultsV, allV, resV, Bool.not_true, Bool.not_false, calleeV, builtinV, eqV, fieldAddrV, ldVar, stN_own, stN_ownL, Int.fdiv_eq_ediv_of_nonneg, Int.reduceToNat, Int.reducePow, IntKind.bits, convV, ne_eq, not_false_eq_true, not_true_eq_false, Int.reduceNeg, Int.reduceAdd, Int.reduceSub, Int.reduceLT, Int.reduceLE, extractV, decide_true, decide_false, Int.reduceEq, mkFuncV, stBFrame, beq_self_eq_true, Ty.t27, Tryd.underlying27, Ty.t24, Tryd.underlying24, Ty.t63, Tryd.underlying63, Ty.t65, Tryd.underlying65, Ty.t5, Tryd.underlying5, Ty.t58, Tryd.underlying58, Ty.t22, Tryd.underlying22, Ty.t34, Tryd.underlying34, Ty.t25, Tryd.underlying25, Ty.t3, Tryd.underlying3, Ty.t4, Tryd.underlying4, Ty.t31, Tryd.underlying31, getL_take, glBFrame, q0, q1, q2, e3']
    have hsl2 : (seg xs 14 32).length = 18 := by rw [seg_len _ (by omega) (by omega)]
    refine own_number_ok e4 (by have := hsl2; simp only [seg] at this; omega) (by omega) fun s3 m3 => ?_
    have hlt2 := numOf_lt (seg xs 14 32)
    rw [hsl2] at hlt2
    have hmod2 : numOf ((xs.take 32).drop 14) % 2 ^ 64 = numOf (seg xs 14 32) := Nat.mod_eq_of_lt (by simp only [seg] at hlt2 ⊢; omega)
    rw [hmod2]
    refine ⟨Dok_mild m3, ?_⟩
    have M3 := M2.trans m3
    have n3 := m3.next
    have w1 := (m3.heap (s.next + 1) (by omega)).trans q1
    have w2 := (m3.heap s1.next (by omega)).trans q2
    have hnb : ((numOf (seg xs 14 32) : Nat) : Int) < 262144 := by omega
    have hor := or18 hlt hlt2
    rw [show (2 : Int) ^ 18 = 262144 from rfl, IntWalk.u32_in _ (by omega)] at hor
    have e : idN xs = numOf (seg xs 1 12) * 262144 + numOf (seg xs 14 32) := by simp only [idN, he, if_true]
    have w0 := (m3.heap s.next (by omega)).trans q0
    simp (disch := first | omega | ((simp only [Ab.next_alloc, Ab.next_upd, List.length_cons, List.length_nil, ne_eq, not_true_eq_false, not_false_eq_true]) <;> omega) | decide) only [↓stepPre, stepPost, ↓W_cond, ↓W_block, ↓reduceIte, Nat.reduceEqDiff, Nat.reduceLT, Nat.reduceLeDiff, ret0, stVar, isTup, Value.cells, Nat.le_refl, Nat.reduceAdd, Nat.reduceMul, Nat.reduceSub, env0, binV, intV, reduceCtorEq, pickV, nilCheckV, ptrV, unV, true_and, and_true, Nat.add_zero, Nat.zero_add, Rt, resultsV, allV, resV, Bool.not_true, Bool.not_false, calleeV, builtinV, eqV, fieldAddrV, ldVar, stN_own, stN_ownL, Int.fdiv_eq_ediv_of_nonneg, Int.reduceToNat, Int.reducePow, IntKind.bits, convV, ne_eq, not_false_eq_true, not_true_eq_false, Int.reduceNeg, Int.reduceAdd, Int.reduceSub, Int.reduceLT, Int.reduceLE, extractV, decide_true, decide_false, Int.reduceEq, mkFuncV, stBFrame, beq_self_eq_true, Ty.t27, Tryd.underlying27, Ty.t24, Tryd.underlying24, Ty.t63, Tryd.underlying63, Ty.t65, Tryd.underlying65, Ty.t5, Tryd.underlying5, Ty.t58, Tryd.underlying58, Ty.t22, Tryd.underlying22, Ty.t34, Tryd.underlying34, Ty.t25, Tryd.underlying25, Ty.t3, Tryd.underlying3, Ty.t4, Tryd.underlying4, Ty.t31, Tryd.underlying31, getL_take, glBFrame, w1, w2, hor, Dok_free, Tryd.results49]
    have k : ∀ u, Mild s u → R (.agg #[.bool (extB xs), .int .u32 ((numOf (seg xs 1 12) * 262144 + numOf (seg xs 14 32) : Nat) : Int)]) u := fun u hu => by
      have := hR u hu
      rw [e] at this
      exact this
    refine k _ ?_
    (repeat first | exact Mild.refl _ | assumption | apply Mild.alloc' | (refine Mild.upd' ?_ (by omega)) | (refine Mild.upd' ?_ (by simp only [Ab.next_alloc, Ab.next_upd] at *; omega)))
/-! ### A body, read -/
def segD (xs : List Nat) : List Nat := seg xs (fromN xs + 4) (sizN xs - 15)
def datN (xs : List Nat) : List Nat := if remB xs then List.replicate 8 0 else pkYs (segD xs) (segD xs).length ++ List.replicate (8 - lenN xs) 0
def errN (xs : List Nat) : Int := if 0 < xs.length ∧ xs.getD 0 0 ≠ 0 then 3 else if toldB xs = false ∨ xs.length < sizN xs then 2 else if wholeB (xs.take (sizN xs)) = false then 5 else 0
/-- What a body says: the frame's cells, how many bits, and what is wrong. -/
def parV (xs : List Nat) : Value := if errN xs = 0 then .tuple #[frV (extB xs) (idN xs) (remB xs) (lenN xs : Int) (datN xs), .int .i64 (sizN xs : Int), .int .i64 0] else .tuple #[frV false 0 false 0 [0, 0, 0, 0, 0, 0, 0, 0], .int .i64 0, .int .i64 (errN xs)]
theorem segD_len {xs : List Nat} (h1 : remB xs = false) (h2 : sizN xs ≤ xs.length) : (segD xs).length = 8 * lenN xs := by
  have e : sizN xs = fromN xs + 19 + 8 * lenN xs := by simp only [sizN, h1]; simp
  unfold segD
  rw [seg_len _ (by omega) (by omega)]
  omega
theorem parse6_ok {v : Value} {xs : List Nat} (hs : Sl base s 1 v (bL xs)) (hbn : base ≤ s.next) (hn : xs.length ≤ 90000) (hg : s.heap 0 = .row divC) (hR : ∀ s', Mild s s' → R (parV xs) s') : WC Tryd.prog base 19 [v] s R := by
  refine WC_open Tryd.func19 rfl ?_
  have hb1 : 1 ≤ base := Bok.le (base := base)
  have hlen := hs.len (P := Tryd.prog) (ts := []) Ty.elem34 Ty.arr34
  rw [bL_len] at hlen
  have bad : errN xs ≠ 0 → ∀ u, Mild s u → R (.tuple #[frV false 0 false 0 [0, 0, 0, 0, 0, 0, 0, 0], .int .i64 0, .int .i64 (errN xs)]) u := fun h u hu => by
    have := hR u hu
    unfold parV at this
    rw [if_neg h] at this
    exact this
  by_cases h0 : 0 < xs.length ∧ xs.getD 0 0 ≠ 0
  · have e : errN xs = 3 := by unfold errN; rw [if_pos h0]
    obtain ⟨i1, i2⟩ := at_u8 (hs.mild (.alloc _ (.row [.bool false, .int .u32 0, .bool false, .int .i64 0, .int .u8 0, .int .u8 0, .int .u8 0, .int .u8 0, .int .u8 0, .int .u8 0, .int .u8 0, .int .u8 0]))) (i := 0) h0.1
    have i1' : indexAddrV Tryd.prog 34 v (.int .i64 0) = some (atP v (0 * 1)) := i1
    have c1 : (xs.length : Int) > 0 := by omega
    have c1' : 0 < (xs.length : Int) := by omega
    have c2 : ¬ ((xs.getD 0 0 : Nat) : Int) = 0 := by omega
    simp (disch := first | omega | ((simp only [Ab.next_alloc, Ab.next_upd, List.length_cons, List.length_nil, ne_eq, not_true_eq_false, not_false_eq_true]) <;> omega) | decide) only [↓stepPre, stepPost, ↓W_cond, ↓W_block, ↓reduceIte, Nat.reduceEqDiff, Nat.reduceLT, Nat.reduceLeDiff, ret0, stVar, isTup, Value.cells, Nat.le_refl, Nat.reduceAdd, Nat.reduceMul, Nat.reduceSub, env0, binV, intV, reduceCtorEq, pickV, nilCheckV, ptrV, unV, true_and, and_true, Nat.add_zero, Nat.zero_add, Rt, resultsV, allV, resV, Bool.not_true, Bool.not_false, calleeV, builtinV, eqV, fieldAddrV, ldVar, stN_own, stN_ownL, Int.fdiv_eq_ediv_of_nonneg, Int.reduceToNat, Int.reducePow, IntKind.bits, convV, ne_eq, not_false_eq_true, not_true_eq_false, Int.reduceNeg, Int.reduceAdd, Int.reduceSub, Int.reduceLT, Int.reduceLE, extractV, decide_true, decide_false, Int.reduceEq, mkFuncV, stBFrame, beq_self_eq_true, Ty.t27, Tryd.underlying27, Ty.t24, Tryd.underlying24, Ty.t63, Tryd.underlying63, Ty.t65, Tryd.underlying65, Ty.t5, Tryd.underlying5, Ty.t58, Tryd.underlying58, Ty.t22, Tryd.underlying22, Ty.t34, Tryd.underlying34, Ty.t25, Tryd.underlying25, Ty.t3, Tryd.underlying3, Ty.t4, Tryd.underlying4, Ty.t31, Tryd.underlying31, getL_take, glBFrame, hlen, c1, c1', i1', i2, c2, buildV, fillL, Tryd.results19]
    have := bad (by omega) _ (Mild.alloc s (.row (frC false 0 false 0 [0, 0, 0, 0, 0, 0, 0, 0])))
    rw [e] at this
    exact this
  have hm := Mild.alloc s (.row [.bool false, .int .u32 0, .bool false, .int .i64 0, .int .u8 0, .int .u8 0, .int .u8 0, .int .u8 0, .int .u8 0, .int .u8 0, .int .u8 0, .int .u8 0])
  have hr := Ab.heap_alloc_new s (.row [.bool false, .int .u32 0, .bool false, .int .i64 0, .int .u8 0, .int .u8 0, .int .u8 0, .int .u8 0, .int .u8 0, .int .u8 0, .int .u8 0, .int .u8 0])
  have hnx := Ab.next_alloc s (.row [.bool false, .int .u32 0, .bool false, .int .i64 0, .int .u8 0, .int .u8 0, .int .u8 0, .int .u8 0, .int .u8 0, .int .u8 0, .int .u8 0, .int .u8 0])
  have goal : ∀ u, Mild s u → u.heap s.next = .row [.bool false, .int .u32 0, .bool false, .int .i64 0, .int .u8 0, .int .u8 0, .int .u8 0, .int .u8 0, .int .u8 0, .int .u8 0, .int .u8 0, .int .u8 0] → s.next < u.next → True := fun _ _ _ _ => trivial
  by_cases hl : 0 < xs.length
  · obtain ⟨i1, i2⟩ := at_u8 (hs.mild hm) (i := 0) hl
    have i1' : indexAddrV Tryd.prog 34 v (.int .i64 0) = some (atP v (0 * 1)) := i1
    have c1 : (xs.length : Int) > 0 := by omega
    have c1' : 0 < (xs.length : Int) := by omega
    have c2 : ((xs.getD 0 0 : Nat) : Int) = 0 := by
      by_cases h : xs.getD 0 0 = 0
      · omega
      · exact absurd ⟨hl, h⟩ h0
    simp (disch := first | omega | ((simp only [Ab.next_alloc, Ab.next_upd, List.length_cons, List.length_nil, ne_eq, not_true_eq_false, not_false_eq_true]) <;> omega) | decide) only [↓stepPre, stepPost, ↓W_cond, ↓W_block, ↓reduceIte, Nat.reduceEqDiff, Nat.reduceLT, Nat.reduceLeDiff, ret0, stVar, isTup, Value.cells, Nat.le_refl, Nat.reduceAdd, Nat.reduceMul, Nat.reduceSub, env0, binV, intV, reduceCtorEq, pickV, nilCheckV, ptrV, unV, true_and, and_true, Nat.add_zero, Nat.zero_add, Rt, resultsV, allV, resV, Bool.not_true, Bool.not_false, calleeV, builtinV, eqV, fieldAddrV, ldVar, stN_own, stN_ownL, Int.fdiv_eq_ediv_of_nonneg, Int.reduceToNat, Int.reducePow, IntKind.bits, convV, ne_eq, not_false_eq_true, not_true_eq_false, Int.reduceNeg, Int.reduceAdd, Int.reduceSub, Int.reduceLT, Int.reduceLE, extractV, decide_true, decide_false, Int.reduceEq, mkFuncV, stBFrame, beq_self_eq_true, Ty.t27, Tryd.underlying27, Ty.t24, Tryd.underlying24, Ty.t63, Tryd.underlying63, Ty.t65, Tryd.underlying65, Ty.t5, Tryd.underlying5, Ty.t58, Tryd.underlying58, Ty.t22, Tryd.underlying22, Ty.t34, Tryd.underlying34, Ty.t25, Tryd.underlying25, Ty.t3, Tryd.underlying3, Ty.t4, Tryd.underlying4, Ty.t31, Tryd.underlying31, getL_take, glBFrame, hlen, c1, c1', i1', i2, c2]
    generalize s.alloc (.row [.bool false, .int .u32 0, .bool false, .int .i64 0, .int .u8 0, .int .u8 0, .int .u8 0, .int .u8 0, .int .u8 0, .int .u8 0, .int .u8 0, .int .u8 0]) = s1 at hm hr hnx ⊢
    refine open_ok (hs.mild hm) (by omega) (by omega) fun s2 m2 => ?_
    have n2 := m2.next
    have M2 := hm.trans m2
    cases ht : toldB xs with
    | false =>
      have e : errN xs = 2 := by unfold errN; rw [if_neg h0, if_pos (.inl ht)]
      have q2 := (m2.heap s.next (by omega)).trans hr
      simp (disch := first | omega | ((simp only [Ab.next_alloc, Ab.next_upd, List.length_cons, List.length_nil, ne_eq, not_true_eq_false, not_false_eq_true]) <;> omega) | decide) only [↓stepPre, stepPost, ↓W_cond, ↓W_block, ↓reduceIte, Nat.reduceEqDiff, Nat.reduceLT, Nat.reduceLeDiff, ret0, stVar, isTup, Value.cells, Nat.le_refl, Nat.reduceAdd, Nat.reduceMul, Nat.reduceSub, env0, binV, intV, reduceCtorEq, pickV, nilCheckV, ptrV, unV, true_and, and_true, Nat.add_zero, Nat.zero_add, Rt, resultsV, allV, resV, Bool.not_true, Bool.not_false, calleeV, builtinV, eqV, fieldAddrV, ldVar, stN_own, stN_ownL, Int.fdiv_eq_ediv_of_nonneg, Int.reduceToNat, Int.reducePow, IntKind.bits, convV, ne_eq, not_false_eq_true, not_true_eq_false, Int.reduceNeg, Int.reduceAdd, Int.reduceSub, Int.reduceLT, Int.reduceLE, extractV, decide_true, decide_false, Int.reduceEq, mkFuncV, stBFrame, beq_self_eq_true, Ty.t27, Tryd.underlying27, Ty.t24, Tryd.underlying24, Ty.t63, Tryd.underlying63, Ty.t65, Tryd.underlying65, Ty.t5, Tryd.underlying5, Ty.t58, Tryd.underlying58, Ty.t22, Tryd.underlying22, Ty.t34, Tryd.underlying34, Ty.t25, Tryd.underlying25, Ty.t3, Tryd.underlying3, Ty.t4, Tryd.underlying4, Ty.t31, Tryd.underlying31, getL_take, glBFrame, hlen, q2, buildV, fillL, Tryd.results19]
      have k := bad (by omega)
      rw [e] at k
      refine k _ ?_
      (repeat first | exact Mild.refl _ | assumption | apply Mild.alloc' | (refine Mild.upd' ?_ (by omega)) | (refine Mild.upd' ?_ (by simp only [Ab.next_alloc, Ab.next_upd] at *; omega)))
    | true =>
      obtain ⟨vb, vo, vn, vc, rfl⟩ := hs.conc (by intro h; have := congrArg List.length h; simp only [bL_len, List.length_nil] at this; omega)
      simp (disch := first | omega | ((simp only [Ab.next_alloc, Ab.next_upd, List.length_cons, List.length_nil, ne_eq, not_true_eq_false, not_false_eq_true]) <;> omega) | decide) only [↓stepPre, stepPost, ↓W_cond, ↓W_block, ↓reduceIte, Nat.reduceEqDiff, Nat.reduceLT, Nat.reduceLeDiff, ret0, stVar, isTup, Value.cells, Nat.le_refl, Nat.reduceAdd, Nat.reduceMul, Nat.reduceSub, env0, binV, intV, reduceCtorEq, pickV, nilCheckV, ptrV, unV, true_and, and_true, Nat.add_zero, Nat.zero_add, Rt, resultsV, allV, resV, Bool.not_true, Bool.not_false, calleeV, builtinV, eqV, fieldAddrV, ldVar, stN_own, stN_ownL, Int.fdiv_eq_ediv_of_nonneg, Int.reduceToNat, Int.reducePow, IntKind.bits, convV, ne_eq, not_false_eq_true, not_true_eq_false, Int.reduceNeg, Int.reduceAdd, Int.reduceSub, Int.reduceLT, Int.reduceLE, extractV, decide_true, decide_false, Int.reduceEq, mkFuncV, stBFrame, beq_self_eq_true, Ty.t27, Tryd.underlying27, Ty.t24, Tryd.underlying24, Ty.t63, Tryd.underlying63, Ty.t65, Tryd.underlying65, Ty.t5, Tryd.underlying5, Ty.t58, Tryd.underlying58, Ty.t22, Tryd.underlying22, Ty.t34, Tryd.underlying34, Ty.t25, Tryd.underlying25, Ty.t3, Tryd.underlying3, Ty.t4, Tryd.underlying4, Ty.t31, Tryd.underlying31, getL_take, glBFrame, hlen, if_true]
      have m3 := M2.alloc' (o := .row (redC (.slice (some ⟨vb, vo, none⟩) vn vc) xs))
      have r3 := Ab.heap_alloc_new s2 (.row (redC (.slice (some ⟨vb, vo, none⟩) vn vc) xs))
      have q3 : (s2.alloc (.row (redC (.slice (some ⟨vb, vo, none⟩) vn vc) xs))).heap s.next = .row [.bool false, .int .u32 0, .bool false, .int .i64 0, .int .u8 0, .int .u8 0, .int .u8 0, .int .u8 0, .int .u8 0, .int .u8 0, .int .u8 0, .int .u8 0] := by rw [Ab.heap_alloc_ne _ _ (by omega), m2.heap _ (by omega)]; exact hr
      have n3 := Ab.next_alloc s2 (.row (redC (.slice (some ⟨vb, vo, none⟩) vn vc) xs))
      generalize s2.alloc (.row (redC (.slice (some ⟨vb, vo, none⟩) vn vc) xs)) = s3 at m3 r3 q3 n3 ⊢
      refine size6_ok (hs.mild m3) (by omega) ht fun s4 m4 => ?_
      have M4 := m3.trans m4
      have n4 := m4.next
      have r4 := (m4.heap s2.next (by omega)).trans r3
      have q4 := (m4.heap s.next (by omega)).trans q3
      by_cases hz : xs.length < sizN xs
      · have e : errN xs = 2 := by unfold errN; rw [if_neg h0, if_pos (.inr hz)]
        have c3 : (xs.length : Int) < (sizN xs : Int) := by omega
        simp (disch := first | omega | ((simp only [Ab.next_alloc, Ab.next_upd, List.length_cons, List.length_nil, ne_eq, not_true_eq_false, not_false_eq_true]) <;> omega) | decide) only [↓stepPre, stepPost, ↓W_cond, ↓W_block, ↓reduceIte, Nat.reduceEqDiff, Nat.reduceLT, Nat.reduceLeDiff, ret0, stVar, isTup, Value.cells, Nat.le_refl, Nat.reduceAdd, Nat.reduceMul, Nat.reduceSub, env0, binV, intV, reduceCtorEq, pickV, nilCheckV, ptrV, unV, true_and, and_true, Nat.add_zero, Nat.zero_add, Rt, resultsV, allV, resV, Bool.not_true, Bool.not_false, calleeV, builtinV, eqV, fieldAddrV, ldVar, stN_own, stN_ownL, Int.fdiv_eq_ediv_of_nonneg, Int.reduceToNat, Int.reducePow, IntKind.bits, convV, ne_eq, not_false_eq_true, not_true_eq_false, Int.reduceNeg, Int.reduceAdd, Int.reduceSub, Int.reduceLT, Int.reduceLE, extractV, decide_true, decide_false, Int.reduceEq, mkFuncV, stBFrame, beq_self_eq_true, Ty.t27, Tryd.underlying27, Ty.t24, Tryd.underlying24, Ty.t63, Tryd.underlying63, Ty.t65, Tryd.underlying65, Ty.t5, Tryd.underlying5, Ty.t58, Tryd.underlying58, Ty.t22, Tryd.underlying22, Ty.t34, Tryd.underlying34, Ty.t25, Tryd.underlying25, Ty.t3, Tryd.underlying3, Ty.t4, Tryd.underlying4, Ty.t31, Tryd.underlying31, getL_take, glBFrame, hlen, c3, q4, buildV, fillL, Tryd.results19]
        have k := bad (by omega)
        rw [e] at k
        refine k _ ?_
        (repeat first | exact Mild.refl _ | assumption | apply Mild.alloc' | (refine Mild.upd' ?_ (by omega)) | (refine Mild.upd' ?_ (by simp only [Ab.next_alloc, Ab.next_upd] at *; omega)))
      have c3 : ¬ (xs.length : Int) < (sizN xs : Int) := by omega
      simp (disch := first | omega | ((simp only [Ab.next_alloc, Ab.next_upd, List.length_cons, List.length_nil, ne_eq, not_true_eq_false, not_false_eq_true]) <;> omega) | decide) only [↓stepPre, stepPost, ↓W_cond, ↓W_block, ↓reduceIte, Nat.reduceEqDiff, Nat.reduceLT, Nat.reduceLeDiff, ret0, stVar, isTup, Value.cells, Nat.le_refl, Nat.reduceAdd, Nat.reduceMul, Nat.reduceSub, env0, binV, intV, reduceCtorEq, pickV, nilCheckV, ptrV, unV, true_and, and_true, Nat.add_zero, Nat.zero_add, Rt, resultsV, allV, resV, Bool.not_true, Bool.not_false, calleeV, builtinV, eqV, fieldAddrV, ldVar, stN_own, stN_ownL, Int.fdiv_eq_ediv_of_nonneg, Int.reduceToNat, Int.reducePow, IntKind.bits, convV, ne_eq, not_false_eq_true, not_true_eq_false, Int.reduceNeg, Int.reduceAdd, Int.reduceSub, Int.reduceLT, Int.reduceLE, extractV, decide_true, decide_false, Int.reduceEq, mkFuncV, stBFrame, beq_self_eq_true, Ty.t27, Tryd.underlying27, Ty.t24, Tryd.underlying24, Ty.t63, Tryd.underlying63, Ty.t65, Tryd.underlying65, Ty.t5, Tryd.underlying5, Ty.t58, Tryd.underlying58, Ty.t22, Tryd.underlying22, Ty.t34, Tryd.underlying34, Ty.t25, Tryd.underlying25, Ty.t3, Tryd.underlying3, Ty.t4, Tryd.underlying4, Ty.t31, Tryd.underlying31, getL_take, glBFrame, hlen, c3, r4]
      refine size6_ok (hs.mild M4) (by omega) ht fun s5 m5 => ?_
      have M5 := M4.trans m5
      have n5 := m5.next
      have r5 := (m5.heap s2.next (by omega)).trans r4
      have q5 := (m5.heap s.next (by omega)).trans q4
      obtain ⟨v6, e6, l6⟩ := Sl.upTo (hs.mild M5) (k := sizN xs) (by omega)
      simp (disch := first | omega | ((simp only [Ab.next_alloc, Ab.next_upd, List.length_cons, List.length_nil, ne_eq, not_true_eq_false, not_false_eq_true]) <;> omega) | decide) only [↓stepPre, stepPost, ↓W_cond, ↓W_block, ↓reduceIte, Nat.reduceEqDiff, Nat.reduceLT, Nat.reduceLeDiff, ret0, stVar, isTup, Value.cells, Nat.le_refl, Nat.reduceAdd, Nat.reduceMul, Nat.reduceSub, env0, binV, intV, reduceCtorEq, pickV, nilCheckV, ptrV, unV, true_and, and_true, Nat.add_zero, Nat.zero_add, Rt, resultsV, allV, resV, Bool.not_true, Bool.not_false, calleeV, builtinV, eqV, fieldAddrV, ldVar, stN_own, stN_ownL, Int.fdiv_eq_ediv_of_nonneg, Int.reduceToNat, Int.reducePow, IntKind.bits, convV, ne_eq, not_false_eq_true, not_true_eq_false, Int.reduceNeg, Int.reduceAdd, Int.reduceSub, Int.reduceLT, Int.reduceLE, extractV, decide_true, decide_false, Int.reduceEq, mkFuncV, stBFrame, beq_self_eq_true, Ty.t27, Tryd.underlying27, Ty.t24, Tryd.underlying24, Ty.t63, Tryd.underlying63, Ty.t65, Tryd.underlying65, Ty.t5, Tryd.underlying5, Ty.t58, Tryd.underlying58, Ty.t22, Tryd.underlying22, Ty.t34, Tryd.underlying34, Ty.t25, Tryd.underlying25, Ty.t3, Tryd.underlying3, Ty.t4, Tryd.underlying4, Ty.t31, Tryd.underlying31, getL_take, glBFrame, e6]
      refine whole_ok l6 (by simp; omega) (by omega) hb1 ((M5.heap 0 (by omega)).trans hg) fun s6 m6 => ?_
      have M6 := M5.trans m6
      have n6 := m6.next
      have r6 := (m6.heap s2.next (by omega)).trans r5
      have q6 := (m6.heap s.next (by omega)).trans q5
      cases hw : wholeB (xs.take (sizN xs)) with
      | false =>
        have e : errN xs = 5 := by unfold errN; rw [if_neg h0, if_neg (by rw [ht]; simp; omega), if_pos hw]
        simp (disch := first | omega | ((simp only [Ab.next_alloc, Ab.next_upd, List.length_cons, List.length_nil, ne_eq, not_true_eq_false, not_false_eq_true]) <;> omega) | decide) only [↓stepPre, stepPost, ↓W_cond, ↓W_block, ↓reduceIte, Nat.reduceEqDiff, Nat.reduceLT, Nat.reduceLeDiff, ret0, stVar, isTup, Value.cells, Nat.le_refl, Nat.reduceAdd, Nat.reduceMul, Nat.reduceSub, env0, binV, intV, reduceCtorEq, pickV, nilCheckV, ptrV, unV, true_and, and_true, Nat.add_zero, Nat.zero_add, Rt, resultsV, allV, resV, Bool.not_true, Bool.not_false, calleeV, builtinV, eqV, fieldAddrV, ldVar, stN_own, stN_ownL, Int.fdiv_eq_ediv_of_nonneg, Int.reduceToNat, Int.reducePow, IntKind.bits, convV, ne_eq, not_false_eq_true, not_true_eq_false, Int.reduceNeg, Int.reduceAdd, Int.reduceSub, Int.reduceLT, Int.reduceLE, extractV, decide_true, decide_false, Int.reduceEq, mkFuncV, stBFrame, beq_self_eq_true, Ty.t27, Tryd.underlying27, Ty.t24, Tryd.underlying24, Ty.t63, Tryd.underlying63, Ty.t65, Tryd.underlying65, Ty.t5, Tryd.underlying5, Ty.t58, Tryd.underlying58, Ty.t22, Tryd.underlying22, Ty.t34, Tryd.underlying34, Ty.t25, Tryd.underlying25, Ty.t3, Tryd.underlying3, Ty.t4, Tryd.underlying4, Ty.t31, Tryd.underlying31, getL_take, glBFrame, q6, buildV, fillL, Tryd.results19]
        have k := bad (by omega)
        rw [e] at k
        refine k _ ?_
        (repeat first | exact Mild.refl _ | assumption | apply Mild.alloc' | (refine Mild.upd' ?_ (by omega)) | (refine Mild.upd' ?_ (by simp only [Ab.next_alloc, Ab.next_upd] at *; omega)))
      | true =>
        have e : errN xs = 0 := by unfold errN; rw [if_neg h0, if_neg (by rw [ht]; simp; omega), if_neg (by rw [hw]; simp)]
        simp (disch := first | omega | ((simp only [Ab.next_alloc, Ab.next_upd, List.length_cons, List.length_nil, ne_eq, not_true_eq_false, not_false_eq_true]) <;> omega) | decide) only [↓stepPre, stepPost, ↓W_cond, ↓W_block, ↓reduceIte, Nat.reduceEqDiff, Nat.reduceLT, Nat.reduceLeDiff, ret0, stVar, isTup, Value.cells, Nat.le_refl, Nat.reduceAdd, Nat.reduceMul, Nat.reduceSub, env0, binV, intV, reduceCtorEq, pickV, nilCheckV, ptrV, unV, true_and, and_true, Nat.add_zero, Nat.zero_add, Rt, resultsV, allV, resV, Bool.not_true, Bool.not_false, calleeV, builtinV, eqV, fieldAddrV, ldVar, stN_own, stN_ownL, Int.fdiv_eq_ediv_of_nonneg, Int.reduceToNat, Int.reducePow, IntKind.bits, convV, ne_eq, not_false_eq_true, not_true_eq_false, Int.reduceNeg, Int.reduceAdd, Int.reduceSub, Int.reduceLT, Int.reduceLE, extractV, decide_true, decide_false, Int.reduceEq, mkFuncV, stBFrame, beq_self_eq_true, Ty.t27, Tryd.underlying27, Ty.t24, Tryd.underlying24, Ty.t63, Tryd.underlying63, Ty.t65, Tryd.underlying65, Ty.t5, Tryd.underlying5, Ty.t58, Tryd.underlying58, Ty.t22, Tryd.underlying22, Ty.t34, Tryd.underlying34, Ty.t25, Tryd.underlying25, Ty.t3, Tryd.underlying3, Ty.t4, Tryd.underlying4, Ty.t31, Tryd.underlying31, getL_take, glBFrame, q6]
        refine W_draw (fun k => k == 8) (fun _ => false) (fun _ => false) (by kernel_rfl) (by kernel_rfl) ?_
        simp (disch := first | omega | ((simp only [Ab.next_alloc, Ab.next_upd, List.length_cons, List.length_nil, ne_eq, not_true_eq_false, not_false_eq_true]) <;> omega) | decide) only [↓stepPre, stepPost, ↓W_cond, ↓W_block, ↓reduceIte, Nat.reduceEqDiff, Nat.reduceLT, Nat.reduceLeDiff, ret0, stVar, isTup, Value.cells, Nat.le_refl, Nat.reduceAdd, Nat.reduceMul, Nat.reduceSub, env0, binV, intV, reduceCtorEq, pickV, nilCheckV, ptrV, unV, true_and, and_true, Nat.add_zero, Nat.zero_add, Rt, resultsV, allV, resV, Bool.not_true, Bool.not_false, calleeV, builtinV, eqV, fieldAddrV, ldVar, stN_own, stN_ownL, Int.fdiv_eq_ediv_of_nonneg, Int.reduceToNat, Int.reducePow, IntKind.bits, convV, ne_eq, not_false_eq_true, not_true_eq_false, Int.reduceNeg, Int.reduceAdd, Int.reduceSub, Int.reduceLT, Int.reduceLE, extractV, decide_true, decide_false, Int.reduceEq, mkFuncV, stBFrame, beq_self_eq_true, Ty.t27, Tryd.underlying27, Ty.t24, Tryd.underlying24, Ty.t63, Tryd.underlying63, Ty.t65, Tryd.underlying65, Ty.t5, Tryd.underlying5, Ty.t58, Tryd.underlying58, Ty.t22, Tryd.underlying22, Ty.t34, Tryd.underlying34, Ty.t25, Tryd.underlying25, Ty.t3, Tryd.underlying3, Ty.t4, Tryd.underlying4, Ty.t31, Tryd.underlying31, getL_take, glBFrame, r6]
        refine id6_ok (hs.mild M6) (by omega) ht fun s7 m7 => ?_
        have M7 := M6.trans m7
        have n7 := m7.next
        have r7 := (m7.heap s2.next (by omega)).trans r6
        have q7 := (m7.heap s.next (by omega)).trans q6
        refine ⟨Dok_mild m7, ?_⟩
        simp (disch := first | omega | ((simp only [Ab.next_alloc, Ab.next_upd, List.length_cons, List.length_nil, ne_eq, not_true_eq_false, not_false_eq_true]) <;> omega) | decide) only [↓stepPre, stepPost, ↓W_cond, ↓W_block, ↓reduceIte, Nat.reduceEqDiff, Nat.reduceLT, Nat.reduceLeDiff, ret0, stVar, isTup, Value.cells, Nat.le_refl, Nat.reduceAdd, Nat.reduceMul, Nat.reduceSub, env0, binV, intV, reduceCtorEq, pickV, nilCheckV, ptrV, unV, true_and, and_true, Nat.add_zero, Nat.zero_add, Rt, resultsV, allV, resV, Bool.not_true, Bool.not_false, calleeV, builtinV, eqV, fieldAddrV, ldVar, stN_own, stN_ownL, Int.fdiv_eq_ediv_of_nonneg, Int.reduceToNat, Int.reducePow, IntKind.bits, convV, ne_eq, not_false_eq_true, not_true_eq_false, Int.reduceNeg, Int.reduceAdd, Int.reduceSub, Int.reduceLT, Int.reduceLE, extractV, decide_true, decide_false, Int.reduceEq, mkFuncV, stBFrame, beq_self_eq_true, Ty.t27, Tryd.underlying27, Ty.t24, Tryd.underlying24, Ty.t63, Tryd.underlying63, Ty.t65, Tryd.underlying65, Ty.t5, Tryd.underlying5, Ty.t58, Tryd.underlying58, Ty.t22, Tryd.underlying22, Ty.t34, Tryd.underlying34, Ty.t25, Tryd.underlying25, Ty.t3, Tryd.underlying3, Ty.t4, Tryd.underlying4, Ty.t31, Tryd.underlying31, getL_take, glBFrame, r7]
        refine remote_ok (hs.mild M7) (by omega) ht fun s8 m8 => ?_
        have M8 := M7.trans m8
        have n8 := m8.next
        have r8 := (m8.heap s2.next (by omega)).trans r7
        have q8 := (m8.heap s.next (by omega)).trans q7
        refine ⟨Dok_mild m8, ?_⟩
        simp (disch := first | omega | ((simp only [Ab.next_alloc, Ab.next_upd, List.length_cons, List.length_nil, ne_eq, not_true_eq_false, not_false_eq_true]) <;> omega) | decide) only [↓stepPre, stepPost, ↓W_cond, ↓W_block, ↓reduceIte, Nat.reduceEqDiff, Nat.reduceLT, Nat.reduceLeDiff, ret0, stVar, isTup, Value.cells, Nat.le_refl, Nat.reduceAdd, Nat.reduceMul, Nat.reduceSub, env0, binV, intV, reduceCtorEq, pickV, nilCheckV, ptrV, unV, true_and, and_true, Nat.add_zero, Nat.zero_add, Rt, resultsV, allV, resV, Bool.not_true, Bool.not_false, calleeV, builtinV, eqV, fieldAddrV, ldVar, stN_own, stN_ownL, Int.fdiv_eq_ediv_of_nonneg, Int.reduceToNat, Int.reducePow, IntKind.bits, convV, ne_eq, not_false_eq_true, not_true_eq_false, Int.reduceNeg, Int.reduceAdd, Int.reduceSub, Int.reduceLT, Int.reduceLE, extractV, decide_true, decide_false, Int.reduceEq, mkFuncV, stBFrame, beq_self_eq_true, Ty.t27, Tryd.underlying27, Ty.t24, Tryd.underlying24, Ty.t63, Tryd.underlying63, Ty.t65, Tryd.underlying65, Ty.t5, Tryd.underlying5, Ty.t58, Tryd.underlying58, Ty.t22, Tryd.underlying22, Ty.t34, Tryd.underlying34, Ty.t25, Tryd.underlying25, Ty.t3, Tryd.underlying3, Ty.t4, Tryd.underlying4, Ty.t31, Tryd.underlying31, getL_take, glBFrame, r8]
        refine bytes6_ok (hs.mild M8) (by omega) ht fun s9 m9 => ?_
        have M9 := M8.trans m9
        have n9 := m9.next
        have r9 := (m9.heap s2.next (by omega)).trans r8
        have q9 := (m9.heap s.next (by omega)).trans q8
        refine ⟨Dok_mild m9, ?_⟩
        simp (disch := first | omega | ((simp only [Ab.next_alloc, Ab.next_upd, List.length_cons, List.length_nil, ne_eq, not_true_eq_false, not_false_eq_true]) <;> omega) | decide) only [↓stepPre, stepPost, ↓W_cond, ↓W_block, ↓reduceIte, Nat.reduceEqDiff, Nat.reduceLT, Nat.reduceLeDiff, ret0, stVar, isTup, Value.cells, Nat.le_refl, Nat.reduceAdd, Nat.reduceMul, Nat.reduceSub, env0, binV, intV, reduceCtorEq, pickV, nilCheckV, ptrV, unV, true_and, and_true, Nat.add_zero, Nat.zero_add, Rt, resultsV, allV, resV, Bool.not_true, Bool.not_false, calleeV, builtinV, eqV, fieldAddrV, ldVar, stN_own, stN_ownL, Int.fdiv_eq_ediv_of_nonneg, Int.reduceToNat, Int.reducePow, IntKind.bits, convV, ne_eq, not_false_eq_true, not_true_eq_false, Int.reduceNeg, Int.reduceAdd, Int.reduceSub, Int.reduceLT, Int.reduceLE, extractV, decide_true, decide_false, Int.reduceEq, mkFuncV, stBFrame, beq_self_eq_true, Ty.t27, Tryd.underlying27, Ty.t24, Tryd.underlying24, Ty.t63, Tryd.underlying63, Ty.t65, Tryd.underlying65, Ty.t5, Tryd.underlying5, Ty.t58, Tryd.underlying58, Ty.t22, Tryd.underlying22, Ty.t34, Tryd.underlying34, Ty.t25, Tryd.underlying25, Ty.t3, Tryd.underlying3, Ty.t4, Tryd.underlying4, Ty.t31, Tryd.underlying31, getL_take, glBFrame, r9, buildV, fillL, Dok_free, Dok_alloc]
        have m10 := M9.alloc' (o := .row [.bool (extB xs), .int .u32 ((idN xs : Nat) : Int), .bool (remB xs), .int .i64 ((lenN xs : Nat) : Int), .int .u8 0, .int .u8 0, .int .u8 0, .int .u8 0, .int .u8 0, .int .u8 0, .int .u8 0, .int .u8 0])
        have q10 : (s9.alloc (.row [.bool (extB xs), .int .u32 ((idN xs : Nat) : Int), .bool (remB xs), .int .i64 ((lenN xs : Nat) : Int), .int .u8 0, .int .u8 0, .int .u8 0, .int .u8 0, .int .u8 0, .int .u8 0, .int .u8 0, .int .u8 0])).heap s.next = .row [.bool false, .int .u32 0, .bool false, .int .i64 0, .int .u8 0, .int .u8 0, .int .u8 0, .int .u8 0, .int .u8 0, .int .u8 0, .int .u8 0, .int .u8 0] := by rw [Ab.heap_alloc_ne _ _ (by omega)]; exact q9
        have r10 : (s9.alloc (.row [.bool (extB xs), .int .u32 ((idN xs : Nat) : Int), .bool (remB xs), .int .i64 ((lenN xs : Nat) : Int), .int .u8 0, .int .u8 0, .int .u8 0, .int .u8 0, .int .u8 0, .int .u8 0, .int .u8 0, .int .u8 0])).heap s2.next = .row (redC (.slice (some ⟨vb, vo, none⟩) vn vc) xs) := by rw [Ab.heap_alloc_ne _ _ (by omega)]; exact r9
        have w10 := Ab.heap_alloc_new s9 (.row [.bool (extB xs), .int .u32 ((idN xs : Nat) : Int), .bool (remB xs), .int .i64 ((lenN xs : Nat) : Int), .int .u8 0, .int .u8 0, .int .u8 0, .int .u8 0, .int .u8 0, .int .u8 0, .int .u8 0, .int .u8 0])
        have n10 := Ab.next_alloc s9 (.row [.bool (extB xs), .int .u32 ((idN xs : Nat) : Int), .bool (remB xs), .int .i64 ((lenN xs : Nat) : Int), .int .u8 0, .int .u8 0, .int .u8 0, .int .u8 0, .int .u8 0, .int .u8 0, .int .u8 0, .int .u8 0])
        generalize s9.alloc (.row [.bool (extB xs), .int .u32 ((idN xs : Nat) : Int), .bool (remB xs), .int .i64 ((lenN xs : Nat) : Int), .int .u8 0, .int .u8 0, .int .u8 0, .int .u8 0, .int .u8 0, .int .u8 0, .int .u8 0, .int .u8 0]) = s10 at m10 q10 r10 w10 n10 ⊢
        have fin : ∀ u, Mild s u → R (.tuple #[frV (extB xs) (idN xs) (remB xs) (lenN xs : Int) (datN xs), .int .i64 (sizN xs : Int), .int .i64 0]) u := fun u hu => by
          have := hR u hu
          unfold parV at this
          rw [if_pos e] at this
          exact this
        cases hrm : remB xs with
        | true =>
          have ed : datN xs = [0, 0, 0, 0, 0, 0, 0, 0] := by simp only [datN, hrm, if_true]; rfl
          rw [ed] at fin
          simp (disch := first | omega | ((simp only [Ab.next_alloc, Ab.next_upd, List.length_cons, List.length_nil, ne_eq, not_true_eq_false, not_false_eq_true]) <;> omega) | decide) only [↓stepPre, stepPost, ↓W_cond, ↓W_block, ↓reduceIte, Nat.reduceEqDiff, Nat.reduceLT, Nat.reduceLeDiff, ret0, stVar, isTup, Value.cells, Nat.le_refl, Nat.reduceAdd, Nat.reduceMul, Nat.reduceSub, env0, binV, intV, reduceCtorEq, pickV, nilCheckV, ptrV, unV, true_and, and_true, Nat.add_zero, Nat.zero_add, Rt, resultsV, allV, resV, Bool.not_true, Bool.not_false, calleeV, builtinV, eqV, fieldAddrV, ldVar, stN_own, stN_ownL, Int.fdiv_eq_ediv_of_nonneg, Int.reduceToNat, Int.reducePow, IntKind.bits, convV, ne_eq, not_false_eq_true, not_true_eq_false, Int.reduceNeg, Int.reduceAdd, Int.reduceSub, Int.reduceLT, Int.reduceLE, extractV, decide_true, decide_false, Int.reduceEq, mkFuncV, stBFrame, beq_self_eq_true, Ty.t27, Tryd.underlying27, Ty.t24, Tryd.underlying24, Ty.t63, Tryd.underlying63, Ty.t65, Tryd.underlying65, Ty.t5, Tryd.underlying5, Ty.t58, Tryd.underlying58, Ty.t22, Tryd.underlying22, Ty.t34, Tryd.underlying34, Ty.t25, Tryd.underlying25, Ty.t3, Tryd.underlying3, Ty.t4, Tryd.underlying4, Ty.t31, Tryd.underlying31, getL_take, glBFrame, q10, w10, Tryd.results19]
          refine fin _ ?_
          (repeat first | exact Mild.refl _ | assumption | apply Mild.alloc' | (refine Mild.upd' ?_ (by omega)) | (refine Mild.upd' ?_ (by simp only [Ab.next_alloc, Ab.next_upd] at *; omega)))
        | false =>
          simp (disch := first | omega | ((simp only [Ab.next_alloc, Ab.next_upd, List.length_cons, List.length_nil, ne_eq, not_true_eq_false, not_false_eq_true]) <;> omega) | decide) only [↓stepPre, stepPost, ↓W_cond, ↓W_block, ↓reduceIte, Nat.reduceEqDiff, Nat.reduceLT, Nat.reduceLeDiff, ret0, stVar, isTup, Value.cells, Nat.le_refl, Nat.reduceAdd, Nat.reduceMul, Nat.reduceSub, env0, binV, intV, reduceCtorEq, pickV, nilCheckV, ptrV, unV, true_and, and_true, Nat.add_zero, Nat.zero_add, Rt, resultsV, allV, resV, Bool.not_true, Bool.not_false, calleeV, builtinV, eqV, fieldAddrV, ldVar, stN_own, stN_ownL, Int.fdiv_eq_ediv_of_nonneg, Int.reduceToNat, Int.reducePow, IntKind.bits, convV, ne_eq, not_false_eq_true, not_true_eq_false, Int.reduceNeg, Int.reduceAdd, Int.reduceSub, Int.reduceLT, Int.reduceLE, extractV, decide_true, decide_false, Int.reduceEq, mkFuncV, stBFrame, beq_self_eq_true, Ty.t27, Tryd.underlying27, Ty.t24, Tryd.underlying24, Ty.t63, Tryd.underlying63, Ty.t65, Tryd.underlying65, Ty.t5, Tryd.underlying5, Ty.t58, Tryd.underlying58, Ty.t22, Tryd.underlying22, Ty.t34, Tryd.underlying34, Ty.t25, Tryd.underlying25, Ty.t3, Tryd.underlying3, Ty.t4, Tryd.underlying4, Ty.t31, Tryd.underlying31, getL_take, glBFrame]
          refine W_draw (fun k => k == 11) (fun _ => false) (fun _ => false) (by kernel_rfl) (by kernel_rfl) ?_
          have hsz : sizN xs = fromN xs + 19 + 8 * lenN xs := by simp only [sizN, hrm]; simp
          have hfi := from_in xs
          have hl8 := lenN_le xs
          have hpl : (pkYs (segD xs) (segD xs).length).length = lenN xs := by rw [pkYs_len, segD_len hrm (by omega)]; omega
          have hdl : (datN xs).length = 8 := by simp only [datN, hrm]; simp [hpl]; omega
          obtain ⟨v11, e11, l11⟩ := Sl.mid (hs.mild m10) (l := fromN xs + 4) (h := sizN xs - 15) (by omega) (by omega)
          have a1 : ((fromN xs + 4 : Nat) : Int) = (fromN xs : Int) + 4 := by omega
          have a2 : ((sizN xs - 15 : Nat) : Int) = (sizN xs : Int) - 15 := by omega
          rw [a1, a2] at e11
          simp (disch := first | omega | ((simp only [Ab.next_alloc, Ab.next_upd, List.length_cons, List.length_nil, ne_eq, not_true_eq_false, not_false_eq_true]) <;> omega) | decide) only [↓stepPre, stepPost, ↓W_cond, ↓W_block, ↓reduceIte, Nat.reduceEqDiff, Nat.reduceLT, Nat.reduceLeDiff, ret0, stVar, isTup, Value.cells, Nat.le_refl, Nat.reduceAdd, Nat.reduceMul, Nat.reduceSub, env0, binV, intV, reduceCtorEq, pickV, nilCheckV, ptrV, unV, true_and, and_true, Nat.add_zero, Nat.zero_add, Rt, resultsV, allV, resV, Bool.not_true, Bool.not_false, calleeV, builtinV, eqV, fieldAddrV, ldVar, stN_own, stN_ownL, Int.fdiv_eq_ediv_of_nonneg, Int.reduceToNat, Int.reducePow, IntKind.bits, convV, ne_eq, not_false_eq_true, not_true_eq_false, Int.reduceNeg, Int.reduceAdd, Int.reduceSub, Int.reduceLT, Int.reduceLE, extractV, decide_true, decide_false, Int.reduceEq, mkFuncV, stBFrame, beq_self_eq_true, Ty.t27, Tryd.underlying27, Ty.t24, Tryd.underlying24, Ty.t63, Tryd.underlying63, Ty.t65, Tryd.underlying65, Ty.t5, Tryd.underlying5, Ty.t58, Tryd.underlying58, Ty.t22, Tryd.underlying22, Ty.t34, Tryd.underlying34, Ty.t25, Tryd.underlying25, Ty.t3, Tryd.underlying3, Ty.t4, Tryd.underlying4, Ty.t31, Tryd.underlying31, getL_take, glBFrame, sliceArr Ty.arr25 Ty.siz5, r10, e11]
          refine pack_ok l11 (by have := segD_len hrm (xs := xs) (by omega); simp only [segD, seg] at this; omega) (by omega) fun s11 b11 n11 m11 p1 p2 p3 p4 => ?_
          change n11 = (pkYs (segD xs) (segD xs).length).length at p3
          change s11.heap b11 = .row (bC (pkYs (segD xs) (segD xs).length)) at p4
          refine ⟨Dok_mild m11, ?_⟩
          have M11 := m10.trans m11
          have n11' := m11.next
          have w11 := (m11.heap s9.next (by omega)).trans w10
          have q11 := (m11.heap s.next (by omega)).trans q10
          rw [hpl] at p3
          have l12 : Sl base s11 1 (.slice (some ⟨b11, 0, none⟩) n11 n11) (bL (pkYs (segD xs) (segD xs).length)) := sl_bytes p4 (by rw [hpl]; exact p3) (by omega) (by omega)
          have ed : datN xs = pkYs (segD xs) (segD xs).length ++ List.replicate (8 - lenN xs) 0 := by simp only [datN, hrm]; simp
          by_cases hz0 : lenN xs = 0
          · have hcp : copyB Tryd.prog base s11 [34, 34] [.slice (some ⟨s9.next, 0 + 4, none⟩) 8 8, .slice (some ⟨b11, 0, none⟩) n11 n11] = some (.int .i64 0, s11) := by
              rw [p3, hz0]
              simp only [copyB, Ty.elem34, Ty.siz5, lenV?]
              rfl
            have eds : datN xs = [0, 0, 0, 0, 0, 0, 0, 0] := by
              have hnil : pkYs (segD xs) (segD xs).length = [] := List.eq_nil_of_length_eq_zero (by rw [hpl]; exact hz0)
              rw [ed, hnil, hz0]; rfl
            rw [eds] at fin
            simp (disch := first | omega | ((simp only [Ab.next_alloc, Ab.next_upd, List.length_cons, List.length_nil, ne_eq, not_true_eq_false, not_false_eq_true]) <;> omega) | decide) only [↓stepPre, stepPost, ↓W_cond, ↓W_block, ↓reduceIte, Nat.reduceEqDiff, Nat.reduceLT, Nat.reduceLeDiff, ret0, stVar, isTup, Value.cells, Nat.le_refl, Nat.reduceAdd, Nat.reduceMul, Nat.reduceSub, env0, binV, intV, reduceCtorEq, pickV, nilCheckV, ptrV, unV, true_and, and_true, Nat.add_zero, Nat.zero_add, Rt, resultsV, allV, resV, Bool.not_true, Bool.not_false, calleeV, builtinV, eqV, fieldAddrV, ldVar, stN_own, stN_ownL, Int.fdiv_eq_ediv_of_nonneg, Int.reduceToNat, Int.reducePow, IntKind.bits, convV, ne_eq, not_false_eq_true, not_true_eq_false, Int.reduceNeg, Int.reduceAdd, Int.reduceSub, Int.reduceLT, Int.reduceLE, extractV, decide_true, decide_false, Int.reduceEq, mkFuncV, stBFrame, beq_self_eq_true, Ty.t27, Tryd.underlying27, Ty.t24, Tryd.underlying24, Ty.t63, Tryd.underlying63, Ty.t65, Tryd.underlying65, Ty.t5, Tryd.underlying5, Ty.t58, Tryd.underlying58, Ty.t22, Tryd.underlying22, Ty.t34, Tryd.underlying34, Ty.t25, Tryd.underlying25, Ty.t3, Tryd.underlying3, Ty.t4, Tryd.underlying4, Ty.t31, Tryd.underlying31, getL_take, glBFrame, hcp, w11, q11, Tryd.results19]
            refine fin _ ?_
            (repeat first | exact Mild.refl _ | assumption | apply Mild.alloc' | (refine Mild.upd' ?_ (by omega)) | (refine Mild.upd' ?_ (by simp only [Ab.next_alloc, Ab.next_upd] at *; omega)))
          · have hcp := copy_bytes (b := s9.next) (o := 4) (dl := 8) (cap := 8) l12 w11 (by omega) (by rw [hpl]; omega) (by rw [hpl]; omega) (by simp)
            rw [hpl] at hcp
            have hset : setL [.bool (extB xs), .int .u32 ((idN xs : Nat) : Int), .bool (remB xs), .int .i64 ((lenN xs : Nat) : Int), .int .u8 0, .int .u8 0, .int .u8 0, .int .u8 0, .int .u8 0, .int .u8 0, .int .u8 0, .int .u8 0] 4 (bC (pkYs (segD xs) (segD xs).length)) =
                frC (extB xs) (idN xs) (remB xs) (lenN xs : Int) (datN xs) := by
              have := setL_ds (p := [.bool (extB xs), .int .u32 ((idN xs : Nat) : Int), .bool (remB xs), .int .i64 ((lenN xs : Nat) : Int)]) (ds := List.replicate 8 0) (ys := pkYs (segD xs) (segD xs).length) (by rw [hpl]; simp; omega) (o := 4) rfl
              rw [ed]
              rw [List.drop_replicate, hpl] at this
              exact this
            rw [hset] at hcp
            have hg12 := getL_fr (a := .bool (extB xs)) (b := .int .u32 ((idN xs : Nat) : Int)) (c := .bool (remB xs)) (d := .int .i64 ((lenN xs : Nat) : Int)) hdl
            have hp12 : putAt (.row [.bool false, .int .u32 0, .bool false, .int .i64 0, .int .u8 0, .int .u8 0, .int .u8 0, .int .u8 0, .int .u8 0, .int .u8 0, .int .u8 0, .int .u8 0]) 0 (frC (extB xs) (idN xs) (remB xs) (lenN xs : Int) (datN xs)) = some (.row (frC (extB xs) (idN xs) (remB xs) (lenN xs : Int) (datN xs))) := putAt_12 hdl
            simp (disch := first | omega | ((simp only [Ab.next_alloc, Ab.next_upd, List.length_cons, List.length_nil, ne_eq, not_true_eq_false, not_false_eq_true]) <;> omega) | decide) only [↓stepPre, stepPost, ↓W_cond, ↓W_block, ↓reduceIte, Nat.reduceEqDiff, Nat.reduceLT, Nat.reduceLeDiff, ret0, stVar, isTup, Value.cells, Nat.le_refl, Nat.reduceAdd, Nat.reduceMul, Nat.reduceSub, env0, binV, intV, reduceCtorEq, pickV, nilCheckV, ptrV, unV, true_and, and_true, Nat.add_zero, Nat.zero_add, Rt, resultsV, allV, resV, Bool.not_true, Bool.not_false, calleeV, builtinV, eqV, fieldAddrV, ldVar, stN_own, stN_ownL, Int.fdiv_eq_ediv_of_nonneg, Int.reduceToNat, Int.reducePow, IntKind.bits, convV, ne_eq, not_false_eq_true, not_true_eq_false, Int.reduceNeg, Int.reduceAdd, Int.reduceSub, Int.reduceLT, Int.reduceLE, extractV, decide_true, decide_false, Int.reduceEq, mkFuncV, stBFrame, beq_self_eq_true, Ty.t27, Tryd.underlying27, Ty.t24, Tryd.underlying24, Ty.t63, Tryd.underlying63, Ty.t65, Tryd.underlying65, Ty.t5, Tryd.underlying5, Ty.t58, Tryd.underlying58, Ty.t22, Tryd.underlying22, Ty.t34, Tryd.underlying34, Ty.t25, Tryd.underlying25, Ty.t3, Tryd.underlying3, Ty.t4, Tryd.underlying4, Ty.t31, Tryd.underlying31, hcp, Dok_upd, Dok_free]
            simp (disch := first | omega | ((simp only [Ab.next_alloc, Ab.next_upd, List.length_cons, List.length_nil, ne_eq, not_true_eq_false, not_false_eq_true]) <;> omega) | decide) only [↓stepPre, stepPost, ↓W_cond, ↓W_block, ↓reduceIte, Nat.reduceEqDiff, Nat.reduceLT, Nat.reduceLeDiff, ret0, stVar, isTup, Value.cells, Nat.le_refl, Nat.reduceAdd, Nat.reduceMul, Nat.reduceSub, env0, binV, intV, reduceCtorEq, pickV, nilCheckV, ptrV, unV, true_and, and_true, Nat.add_zero, Nat.zero_add, Rt, resultsV, allV, resV, Bool.not_true, Bool.not_false, calleeV, builtinV, eqV, fieldAddrV, ldVar, Int.fdiv_eq_ediv_of_nonneg, Int.reduceToNat, Int.reducePow, IntKind.bits, convV, ne_eq, not_false_eq_true, not_true_eq_false, Int.reduceNeg, Int.reduceAdd, Int.reduceSub, Int.reduceLT, Int.reduceLE, extractV, decide_true, decide_false, Int.reduceEq, mkFuncV, stBFrame, beq_self_eq_true, Ty.t27, Tryd.underlying27, Ty.t24, Tryd.underlying24, Ty.t63, Tryd.underlying63, Ty.t65, Tryd.underlying65, Ty.t5, Tryd.underlying5, Ty.t58, Tryd.underlying58, Ty.t22, Tryd.underlying22, Ty.t34, Tryd.underlying34, Ty.t25, Tryd.underlying25, Ty.t3, Tryd.underlying3, Ty.t4, Tryd.underlying4, Ty.t31, Tryd.underlying31, hg12, hp12, q11, stN_ownL, Nat.zero_lt_succ, bC_len, hdl, eq_self, Tryd.results19]
            refine fin _ ?_
            (repeat first | exact Mild.refl _ | assumption | apply Mild.alloc' | (refine Mild.upd' ?_ (by omega)) | (refine Mild.upd' ?_ (by simp only [Ab.next_alloc, Ab.next_upd] at *; omega)))
  · have hx : xs = [] := List.eq_nil_of_length_eq_zero (by omega)
    have c1 : ¬ (xs.length : Int) > 0 := by omega
    have c1' : ¬ 0 < (xs.length : Int) := by omega
    have ht : toldB xs = false := decide_eq_false (by omega)
    have e : errN xs = 2 := by unfold errN; rw [if_neg h0, if_pos (.inl ht)]
    simp (disch := first | omega | ((simp only [Ab.next_alloc, Ab.next_upd, List.length_cons, List.length_nil, ne_eq, not_true_eq_false, not_false_eq_true]) <;> omega) | decide) only [↓stepPre, stepPost, ↓W_cond, ↓W_block, ↓reduceIte, Nat.reduceEqDiff, Nat.reduceLT, Nat.reduceLeDiff, ret0, stVar, isTup, Value.cells, Nat.le_refl, Nat.reduceAdd, Nat.reduceMul, Nat.reduceSub, env0, binV, intV, reduceCtorEq, pickV, nilCheckV, ptrV, unV, true_and, and_true, Nat.add_zero, Nat.zero_add, Rt, resultsV, allV, resV, Bool.not_true, Bool.not_false, calleeV, builtinV, eqV, fieldAddrV, ldVar, stN_own, stN_ownL, Int.fdiv_eq_ediv_of_nonneg, Int.reduceToNat, Int.reducePow, IntKind.bits, convV, ne_eq, not_false_eq_true, not_true_eq_false, Int.reduceNeg, Int.reduceAdd, Int.reduceSub, Int.reduceLT, Int.reduceLE, extractV, decide_true, decide_false, Int.reduceEq, mkFuncV, stBFrame, beq_self_eq_true, Ty.t27, Tryd.underlying27, Ty.t24, Tryd.underlying24, Ty.t63, Tryd.underlying63, Ty.t65, Tryd.underlying65, Ty.t5, Tryd.underlying5, Ty.t58, Tryd.underlying58, Ty.t22, Tryd.underlying22, Ty.t34, Tryd.underlying34, Ty.t25, Tryd.underlying25, Ty.t3, Tryd.underlying3, Ty.t4, Tryd.underlying4, Ty.t31, Tryd.underlying31, getL_take, glBFrame, hlen, c1, c1']
    generalize s.alloc (.row [.bool false, .int .u32 0, .bool false, .int .i64 0, .int .u8 0, .int .u8 0, .int .u8 0, .int .u8 0, .int .u8 0, .int .u8 0, .int .u8 0, .int .u8 0]) = s1 at hm hr hnx ⊢
    refine open_ok (hs.mild hm) (by omega) (by omega) fun s2 m2 => ?_
    have n2 := m2.next
    have M2 := hm.trans m2
    have q2 := (m2.heap s.next (by omega)).trans hr
    rw [ht]
    simp (disch := first | omega | ((simp only [Ab.next_alloc, Ab.next_upd, List.length_cons, List.length_nil, ne_eq, not_true_eq_false, not_false_eq_true]) <;> omega) | decide) only [↓stepPre, stepPost, ↓W_cond, ↓W_block, ↓reduceIte, Nat.reduceEqDiff, Nat.reduceLT, Nat.reduceLeDiff, ret0, stVar, isTup, Value.cells, Nat.le_refl, Nat.reduceAdd, Nat.reduceMul, Nat.reduceSub, env0, binV, intV, reduceCtorEq, pickV, nilCheckV, ptrV, unV, true_and, and_true, Nat.add_zero, Nat.zero_add, Rt, resultsV, allV, resV, Bool.not_true, Bool.not_false, calleeV, builtinV, eqV, fieldAddrV, ldVar, stN_own, stN_ownL, Int.fdiv_eq_ediv_of_nonneg, Int.reduceToNat, Int.reducePow, IntKind.bits, convV, ne_eq, not_false_eq_true, not_true_eq_false, Int.reduceNeg, Int.reduceAdd, Int.reduceSub, Int.reduceLT, Int.reduceLE, extractV, decide_true, decide_false, Int.reduceEq, mkFuncV, stBFrame, beq_self_eq_true, Ty.t27, Tryd.underlying27, Ty.t24, Tryd.underlying24, Ty.t63, Tryd.underlying63, Ty.t65, Tryd.underlying65, Ty.t5, Tryd.underlying5, Ty.t58, Tryd.underlying58, Ty.t22, Tryd.underlying22, Ty.t34, Tryd.underlying34, Ty.t25, Tryd.underlying25, Ty.t3, Tryd.underlying3, Ty.t4, Tryd.underlying4, Ty.t31, Tryd.underlying31, getL_take, glBFrame, hlen, q2, buildV, fillL, Tryd.results19]
    have k := bad (by omega)
    rw [e] at k
    refine k _ ?_
    (repeat first | exact Mild.refl _ | assumption | apply Mild.alloc' | (refine Mild.upd' ?_ (by omega)) | (refine Mild.upd' ?_ (by simp only [Ab.next_alloc, Ab.next_upd] at *; omega)))
end Go.Proofs.YtdhmjnpaoacpfaaDoor
