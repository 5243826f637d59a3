/- Frames as texts: the document's. -/
import Derived.Test.YtdhmjnpaoacpfaaDoorTypes
import Derived.Test.YtdhmjnpaoacpfaaDoorRow0
import Derived.Test.YtdhmjnpaoacpfaaDoorAbC
import Derived.Test.YtdhmjnpaoacpfaaDoorOwnOf
import Derived.Test.YtdhmjnpaoacpfaaDoorPure
import Derived.Test.YtdhmjnpaoacpfaaDoorRight
import Derived.Test.YtdhmjnpaoacpfaaDoorBoxes
import Derived.Test.YtdhmjnpaoacpfaaDoorStr
import Derived.Test.YtdhmjnpaoacpfaaDoorHex
import Derived.Test.YtdhmjnpaoacpfaaDoorIdText
import Derived.Test.YtdhmjnpaoacpfaaDoorIdPrint
import Derived.Test.YtdhmjnpaoacpfaaDoorIdPrintR
import Derived.Test.YtdhmjnpaoacpfaaDoorFrText
import Derived.Test.YtdhmjnpaoacpfaaDoorFrDef
import Derived.Test.YtdhmjnpaoacpfaaDoorFrameRef
set_option linter.all false
set_option maxRecDepth 20000
namespace Go.Proofs.YtdhmjnpaoacpfaaDoor
open Go Go.Ab
def stBFrReadR := And.intro @List.size_toArray.{0} (And.intro @List.length_cons.{0} (And.intro @List.length_nil.{0} (And.intro @List.set_cons_zero.{0} (And.intro @List.set_cons_succ.{0} (And.intro @List.getD_cons_zero.{0} (And.intro @List.getD_cons_succ.{0} (And.intro @List.getElem?_cons_succ.{0} (And.intro @List.getElem?_cons_zero.{0} (And.intro @List.map_cons.{0,0} (And.intro @List.map_nil.{0,0} (And.intro @Option.isNone_none.{0} (And.intro @Option.isNone_some.{0} (And.intro @Option.map_some.{0,0} (And.intro @Option.map_none.{0,0} (And.intro @List.cons_append.{0} (And.intro @List.nil_append.{0} (And.intro @List.append_nil.{0} (And.intro @Array.toList_append.{0} (And.intro @List.toList_toArray.{0} (And.intro @Int.cast_ofNat_Int (And.intro @Option.isSome_some.{0} (And.intro @List.getElem?_toArray.{0} (And.intro @List.map_toArray.{0,0} (@Nat.min_eq_left))))))))))))))))))))))))
def glBFrReadR := And.intro @List.drop_zero.{0} (And.intro @List.drop_succ_cons.{0} (And.intro @List.take_succ_cons.{0} (And.intro @List.take_zero.{0} (@List.take_nil.{0}))))
variable {base : Nat} [Bok base] {s : St} {R : Value → St → Prop}
theorem rhex_p {x : Nat} (hx : x < 256) (hR : R (.string (strB [hexAt (x / 16 % 16), hexAt (x % 16)])) s) : WC Tryd.prog base 45 [.int .u8 (x : Int)] s R := by
  refine WC_open Tryd.func45 rfl ?_
  simp (disch := first | omega | ((simp only [Ab.next_alloc, Ab.next_upd, List.length_cons, List.length_nil, ne_eq, not_true_eq_false, not_false_eq_true]) <;> omega) | decide) only [↓stepPre, stepPost, ↓W_cond, ↓W_block, ↓reduceIte, Nat.reduceEqDiff, Nat.reduceLT, Nat.reduceLeDiff, ret0, stVar, isTup, Value.cells, Nat.le_refl, Nat.reduceAdd, Nat.reduceMul, Nat.reduceSub, env0, binV, intV, reduceCtorEq, pickV, nilCheckV, ptrV, unV, true_and, and_true, Nat.add_zero, Nat.zero_add, Rt, resultsV, allV, resV, Bool.not_true, Bool.not_false, calleeV, builtinV, eqV, fieldAddrV, ldVar, stN_own, stN_ownL, Int.fdiv_eq_ediv_of_nonneg, Int.reduceToNat, Int.reducePow, IntKind.bits, convV, ne_eq, not_false_eq_true, not_true_eq_false, Int.reduceNeg, Int.reduceAdd, Int.reduceSub, Int.reduceLT, Int.reduceLE, extractV, decide_true, decide_false, Int.reduceEq, mkFuncV, stBFrReadR, beq_self_eq_true, Ty.t24, Tryd.underlying24, Ty.t27, Tryd.underlying27, Ty.t25, Tryd.underlying25, Ty.t9, Tryd.underlying9, Ty.t5, Tryd.underlying5, Ty.t22, Tryd.underlying22, Ty.t60, Tryd.underlying60, Ty.t3, Tryd.underlying3, Ty.t4, Tryd.underlying4, Ty.t31, Tryd.underlying31, getL_take, glBFrReadR]
  refine W_draw (fun _ => false) (fun _ => false) (fun _ => false) (by kernel_rfl) (by kernel_rfl) ?_
  have e16 : (x : Int).tdiv 16 = ((x / 16 % 16 : Nat) : Int) := by rw [Int.tdiv_eq_ediv_of_nonneg (by omega)]; omega
  have m16 : (x : Int).tmod 16 = ((x % 16 : Nat) : Int) := by rw [Int.tmod_eq_emod_of_nonneg (by omega)]; omega
  have s1h := slc_hex (s := s) (d := x / 16 % 16) (k := .u8) (k' := .u8) (Nat.mod_lt _ (by omega))
  have s2h := slc_hex (s := s) (d := x % 16) (k := .u8) (k' := .u8) (Nat.mod_lt _ (by omega))
  have w1 : IntKind.u8.wrap (((x % 16 : Nat) : Int) + 1) = ((x % 16 : Nat) : Int) + 1 := IntWalk.u8_in _ (by omega)
  have w2 : IntKind.u8.wrap (((x / 16 % 16 : Nat) : Int) + 1) = ((x / 16 % 16 : Nat) : Int) + 1 := IntWalk.u8_in _ (by omega)
  have a2 := addStrV (l := [hexAt (x / 16 % 16)]) (m := [hexAt (x % 16)]) (by simp)
  simp (disch := first | omega | ((simp only [Ab.next_alloc, Ab.next_upd, List.length_cons, List.length_nil, ne_eq, not_true_eq_false, not_false_eq_true]) <;> omega) | decide) only [↓stepPre, stepPost, ↓W_cond, ↓W_block, ↓reduceIte, Nat.reduceEqDiff, Nat.reduceLT, Nat.reduceLeDiff, ret0, stVar, isTup, Value.cells, Nat.le_refl, Nat.reduceAdd, Nat.reduceMul, Nat.reduceSub, env0, binV, intV, reduceCtorEq, pickV, nilCheckV, ptrV, unV, true_and, and_true, Nat.add_zero, Nat.zero_add, Rt, resultsV, allV, resV, Bool.not_true, Bool.not_false, calleeV, builtinV, eqV, fieldAddrV, ldVar, stN_own, stN_ownL, Int.fdiv_eq_ediv_of_nonneg, Int.reduceToNat, Int.reducePow, IntKind.bits, convV, ne_eq, not_false_eq_true, not_true_eq_false, Int.reduceNeg, Int.reduceAdd, Int.reduceSub, Int.reduceLT, Int.reduceLE, extractV, decide_true, decide_false, Int.reduceEq, mkFuncV, stBFrReadR, beq_self_eq_true, Ty.t24, Tryd.underlying24, Ty.t27, Tryd.underlying27, Ty.t25, Tryd.underlying25, Ty.t9, Tryd.underlying9, Ty.t5, Tryd.underlying5, Ty.t22, Tryd.underlying22, Ty.t60, Tryd.underlying60, Ty.t3, Tryd.underlying3, Ty.t4, Tryd.underlying4, Ty.t31, Tryd.underlying31, getL_take, glBFrReadR, e16, m16, s1h, s2h, w1, w2, a2, Tryd.results45]
  exact hR
theorem rdigit6_p {c : Nat} (hc : c < 256) (hR : R (.int .i64 (digI c)) s) : WC Tryd.prog base 30 [.int .u8 (c : Int)] s R := by
  refine WC_open Tryd.func30 rfl ?_
  simp (disch := first | omega | ((simp only [Ab.next_alloc, Ab.next_upd, List.length_cons, List.length_nil, ne_eq, not_true_eq_false, not_false_eq_true]) <;> omega) | decide) only [↓stepPre, stepPost, ↓W_cond, ↓W_block, ↓reduceIte, Nat.reduceEqDiff, Nat.reduceLT, Nat.reduceLeDiff, ret0, stVar, isTup, Value.cells, Nat.le_refl, Nat.reduceAdd, Nat.reduceMul, Nat.reduceSub, env0, binV, intV, reduceCtorEq, pickV, nilCheckV, ptrV, unV, true_and, and_true, Nat.add_zero, Nat.zero_add, Rt, resultsV, allV, resV, Bool.not_true, Bool.not_false, calleeV, builtinV, eqV, fieldAddrV, ldVar, stN_own, stN_ownL, Int.fdiv_eq_ediv_of_nonneg, Int.reduceToNat, Int.reducePow, IntKind.bits, convV, ne_eq, not_false_eq_true, not_true_eq_false, Int.reduceNeg, Int.reduceAdd, Int.reduceSub, Int.reduceLT, Int.reduceLE, extractV, decide_true, decide_false, Int.reduceEq, mkFuncV, stBFrReadR, beq_self_eq_true, Ty.t24, Tryd.underlying24, Ty.t27, Tryd.underlying27, Ty.t25, Tryd.underlying25, Ty.t9, Tryd.underlying9, Ty.t5, Tryd.underlying5, Ty.t22, Tryd.underlying22, Ty.t60, Tryd.underlying60, Ty.t3, Tryd.underlying3, Ty.t4, Tryd.underlying4, Ty.t31, Tryd.underlying31, getL_take, glBFrReadR]
  refine W_loop_ind 16 (fun i e s1 => s1 = s ∧ e 0 = .int .u8 (c : Int) ∧ e 3 = .int .i64 (i : Int) ∧ ∀ j, j < i → (hexAt j).toNat ≠ c) ?_ ⟨rfl, rfl, rfl, fun j hj => by omega⟩
  rintro i e s1 hi ⟨rfl, h0, h3, hq⟩
  by_cases hil : i < 16
  rotate_left
  · have hi16 : ¬ (i : Int) < 16 := by omega
    simp (disch := first | omega | ((simp only [Ab.next_alloc, Ab.next_upd, List.length_cons, List.length_nil, ne_eq, not_true_eq_false, not_false_eq_true]) <;> omega) | decide) only [↓stepPre, stepPost, ↓W_cond, ↓W_block, ↓reduceIte, Nat.reduceEqDiff, Nat.reduceLT, Nat.reduceLeDiff, ret0, stVar, isTup, Value.cells, Nat.le_refl, Nat.reduceAdd, Nat.reduceMul, Nat.reduceSub, env0, binV, intV, reduceCtorEq, pickV, nilCheckV, ptrV, unV, true_and, and_true, Nat.add_zero, Nat.zero_add, Rt, resultsV, allV, resV, Bool.not_true, Bool.not_false, calleeV, builtinV, eqV, fieldAddrV, ldVar, stN_own, stN_ownL, Int.fdiv_eq_ediv_of_nonneg, Int.reduceToNat, Int.reducePow, IntKind.bits, convV, ne_eq, not_false_eq_true, not_true_eq_false, Int.reduceNeg, Int.reduceAdd, Int.reduceSub, Int.reduceLT, Int.reduceLE, extractV, decide_true, decide_false, Int.reduceEq, mkFuncV, stBFrReadR, beq_self_eq_true, Ty.t24, Tryd.underlying24, Ty.t27, Tryd.underlying27, Ty.t25, Tryd.underlying25, Ty.t9, Tryd.underlying9, Ty.t5, Tryd.underlying5, Ty.t22, Tryd.underlying22, Ty.t60, Tryd.underlying60, Ty.t3, Tryd.underlying3, Ty.t4, Tryd.underlying4, Ty.t31, Tryd.underlying31, h0, h3, hi16, Tryd.results30]
    have hno : digI c = -1 := by
      unfold digI
      split
      · rename_i h
        refine absurd ?_ (hq (c - 48) (by omega))
        rw [hexAt_num (by omega)]; split <;> omega
      · split
        · rename_i h
          refine absurd ?_ (hq (c - 87) (by omega))
          rw [hexAt_num (by omega)]; split <;> omega
        · rfl
    rw [← hno]
    exact hR
  have g1 : (i : Int) < 16 := by omega
  have hix := idxStr (P := Tryd.prog) (t := 9) (l := hexD) (k := .i64) (i := (i : Int)) Ty.str9 (by omega) (by simp [hexD]; omega)
  rw [Int.toNat_natCast] at hix
  have hn := hexAt_num hil
  have h8 : (hexAt i).toNat < 256 := (hexAt i).toNat_lt
  have hix : indexV Tryd.prog 9 (.string ⟨#[48, 49, 50, 51, 52, 53, 54, 55, 56, 57, 97, 98, 99, 100, 101, 102]⟩) (.int .i64 (i : Int)) = some (.int .u8 ((hexAt i).toNat : Nat)) := hix
  by_cases he : (hexAt i).toNat = c
  · have heq : (((hexAt i).toNat : Nat) : Int) = (c : Int) := by omega
    simp (disch := first | omega | ((simp only [Ab.next_alloc, Ab.next_upd, List.length_cons, List.length_nil, ne_eq, not_true_eq_false, not_false_eq_true]) <;> omega) | decide) only [↓stepPre, stepPost, ↓W_cond, ↓W_block, ↓reduceIte, Nat.reduceEqDiff, Nat.reduceLT, Nat.reduceLeDiff, ret0, stVar, isTup, Value.cells, Nat.le_refl, Nat.reduceAdd, Nat.reduceMul, Nat.reduceSub, env0, binV, intV, reduceCtorEq, pickV, nilCheckV, ptrV, unV, true_and, and_true, Nat.add_zero, Nat.zero_add, Rt, resultsV, allV, resV, Bool.not_true, Bool.not_false, calleeV, builtinV, eqV, fieldAddrV, ldVar, stN_own, stN_ownL, Int.fdiv_eq_ediv_of_nonneg, Int.reduceToNat, Int.reducePow, IntKind.bits, convV, ne_eq, not_false_eq_true, not_true_eq_false, Int.reduceNeg, Int.reduceAdd, Int.reduceSub, Int.reduceLT, Int.reduceLE, extractV, decide_true, decide_false, Int.reduceEq, mkFuncV, stBFrReadR, beq_self_eq_true, Ty.t24, Tryd.underlying24, Ty.t27, Tryd.underlying27, Ty.t25, Tryd.underlying25, Ty.t9, Tryd.underlying9, Ty.t5, Tryd.underlying5, Ty.t22, Tryd.underlying22, Ty.t60, Tryd.underlying60, Ty.t3, Tryd.underlying3, Ty.t4, Tryd.underlying4, Ty.t31, Tryd.underlying31, h0, h3, g1, hix, heq, eq_self, Tryd.results30]
    have hdi : digI c = i := by
      unfold digI
      rw [← he, hn]
      by_cases h10 : i < 10
      · simp only [h10, if_true]; split <;> omega
      · simp only [h10, if_false]; split <;> (try split) <;> omega
    rw [← hdi]
    exact hR
  · have hei : ¬ ((hexAt i).toNat : Int) = (c : Int) := by omega
    simp (disch := first | omega | ((simp only [Ab.next_alloc, Ab.next_upd, List.length_cons, List.length_nil, ne_eq, not_true_eq_false, not_false_eq_true]) <;> omega) | decide) only [↓stepPre, stepPost, ↓W_cond, ↓W_block, ↓reduceIte, Nat.reduceEqDiff, Nat.reduceLT, Nat.reduceLeDiff, ret0, stVar, isTup, Value.cells, Nat.le_refl, Nat.reduceAdd, Nat.reduceMul, Nat.reduceSub, env0, binV, intV, reduceCtorEq, pickV, nilCheckV, ptrV, unV, true_and, and_true, Nat.add_zero, Nat.zero_add, Rt, resultsV, allV, resV, Bool.not_true, Bool.not_false, calleeV, builtinV, eqV, fieldAddrV, ldVar, stN_own, stN_ownL, Int.fdiv_eq_ediv_of_nonneg, Int.reduceToNat, Int.reducePow, IntKind.bits, convV, ne_eq, not_false_eq_true, not_true_eq_false, Int.reduceNeg, Int.reduceAdd, Int.reduceSub, Int.reduceLT, Int.reduceLE, extractV, decide_true, decide_false, Int.reduceEq, mkFuncV, stBFrReadR, beq_self_eq_true, Ty.t24, Tryd.underlying24, Ty.t27, Tryd.underlying27, Ty.t25, Tryd.underlying25, Ty.t9, Tryd.underlying9, Ty.t5, Tryd.underlying5, Ty.t22, Tryd.underlying22, Ty.t60, Tryd.underlying60, Ty.t3, Tryd.underlying3, Ty.t4, Tryd.underlying4, Ty.t31, Tryd.underlying31, h0, h3, g1, hix, hei]
    refine ⟨hil, by simp, fun j hj => ?_⟩
    by_cases hji : j = i
    · rw [hji]; exact he
    · exact hq j (by omega)
theorem rtext6_ok {e : Bool} {n : Nat} {r : Bool} {l : Int} {ds : List Nat} (hd : ds.length = 8) (hn : n < 2 ^ 32) (hy : ∀ y ∈ ds, y < 256) (hbn : base ≤ s.next) (hR : ∀ s', Mild s s' → R (.string (strB (frT e n r l ds))) s') : WC Tryd.prog base 17 [frV e n r l ds] s R := by
  refine WC_open Tryd.func17 rfl ?_
  have hm0 := Mild.alloc s (.row (frC e n r l ds))
  have hg12 := fun (a b c d : Value) => getL_fr (a := a) (b := b) (c := c) (d := d) hd
  simp (disch := first | omega | ((simp only [Ab.next_alloc, Ab.next_upd, List.length_cons, List.length_nil, ne_eq, not_true_eq_false, not_false_eq_true]) <;> omega) | decide) only [↓stepPre, stepPost, ↓W_cond, ↓W_block, ↓reduceIte, Nat.reduceEqDiff, Nat.reduceLT, Nat.reduceLeDiff, ret0, stVar, isTup, Value.cells, Nat.le_refl, Nat.reduceAdd, Nat.reduceMul, Nat.reduceSub, env0, binV, intV, reduceCtorEq, pickV, nilCheckV, ptrV, unV, true_and, and_true, Nat.add_zero, Nat.zero_add, Rt, resultsV, allV, resV, Bool.not_true, Bool.not_false, calleeV, builtinV, eqV, fieldAddrV, ldVar, stN_own, stN_ownL, Int.fdiv_eq_ediv_of_nonneg, Int.reduceToNat, Int.reducePow, IntKind.bits, convV, ne_eq, not_false_eq_true, not_true_eq_false, Int.reduceNeg, Int.reduceAdd, Int.reduceSub, Int.reduceLT, Int.reduceLE, extractV, decide_true, decide_false, Int.reduceEq, mkFuncV, stBFrReadR, beq_self_eq_true, Ty.t24, Tryd.underlying24, Ty.t27, Tryd.underlying27, Ty.t25, Tryd.underlying25, Ty.t9, Tryd.underlying9, Ty.t5, Tryd.underlying5, Ty.t22, Tryd.underlying22, Ty.t60, Tryd.underlying60, Ty.t3, Tryd.underlying3, Ty.t4, Tryd.underlying4, Ty.t31, Tryd.underlying31, getL_take, glBFrReadR, hg12]
  refine rframeRight_p hd ?_
  by_cases hr : rightF e n r l ds = 0
  rotate_left
  · have key := hR _ hm0
    simp only [frT, hr, if_false] at key
    simp (disch := first | omega | ((simp only [Ab.next_alloc, Ab.next_upd, List.length_cons, List.length_nil, ne_eq, not_true_eq_false, not_false_eq_true]) <;> omega) | decide) only [↓stepPre, stepPost, ↓W_cond, ↓W_block, ↓reduceIte, Nat.reduceEqDiff, Nat.reduceLT, Nat.reduceLeDiff, ret0, stVar, isTup, Value.cells, Nat.le_refl, Nat.reduceAdd, Nat.reduceMul, Nat.reduceSub, env0, binV, intV, reduceCtorEq, pickV, nilCheckV, ptrV, unV, true_and, and_true, Nat.add_zero, Nat.zero_add, Rt, resultsV, allV, resV, Bool.not_true, Bool.not_false, calleeV, builtinV, eqV, fieldAddrV, ldVar, stN_own, stN_ownL, Int.fdiv_eq_ediv_of_nonneg, Int.reduceToNat, Int.reducePow, IntKind.bits, convV, ne_eq, not_false_eq_true, not_true_eq_false, Int.reduceNeg, Int.reduceAdd, Int.reduceSub, Int.reduceLT, Int.reduceLE, extractV, decide_true, decide_false, Int.reduceEq, mkFuncV, stBFrReadR, beq_self_eq_true, Ty.t24, Tryd.underlying24, Ty.t27, Tryd.underlying27, Ty.t25, Tryd.underlying25, Ty.t9, Tryd.underlying9, Ty.t5, Tryd.underlying5, Ty.t22, Tryd.underlying22, Ty.t60, Tryd.underlying60, Ty.t3, Tryd.underlying3, Ty.t4, Tryd.underlying4, Ty.t31, Tryd.underlying31, getL_take, glBFrReadR, hg12, hr, Tryd.results17]
    exact key
  have hid := right_id hr
  obtain ⟨m, rfl, hm8⟩ : ∃ m : Nat, l = m ∧ m ≤ 8 := by
    by_cases h : l < 0 ∨ 8 < l
    · simp only [rightF, hid, h] at hr; simp at hr
    · exact ⟨l.toNat, by omega, by omega⟩
  simp (disch := first | omega | ((simp only [Ab.next_alloc, Ab.next_upd, List.length_cons, List.length_nil, ne_eq, not_true_eq_false, not_false_eq_true]) <;> omega) | decide) only [↓stepPre, stepPost, ↓W_cond, ↓W_block, ↓reduceIte, Nat.reduceEqDiff, Nat.reduceLT, Nat.reduceLeDiff, ret0, stVar, isTup, Value.cells, Nat.le_refl, Nat.reduceAdd, Nat.reduceMul, Nat.reduceSub, env0, binV, intV, reduceCtorEq, pickV, nilCheckV, ptrV, unV, true_and, and_true, Nat.add_zero, Nat.zero_add, Rt, resultsV, allV, resV, Bool.not_true, Bool.not_false, calleeV, builtinV, eqV, fieldAddrV, ldVar, stN_own, stN_ownL, Int.fdiv_eq_ediv_of_nonneg, Int.reduceToNat, Int.reducePow, IntKind.bits, convV, ne_eq, not_false_eq_true, not_true_eq_false, Int.reduceNeg, Int.reduceAdd, Int.reduceSub, Int.reduceLT, Int.reduceLE, extractV, decide_true, decide_false, Int.reduceEq, mkFuncV, stBFrReadR, beq_self_eq_true, Ty.t24, Tryd.underlying24, Ty.t27, Tryd.underlying27, Ty.t25, Tryd.underlying25, Ty.t9, Tryd.underlying9, Ty.t5, Tryd.underlying5, Ty.t22, Tryd.underlying22, Ty.t60, Tryd.underlying60, Ty.t3, Tryd.underlying3, Ty.t4, Tryd.underlying4, Ty.t31, Tryd.underlying31, getL_take, glBFrReadR, hg12, hr, eq_self]
  refine rtext5_ok hn (by simp only [Ab.next_alloc]; omega) fun s1 m1 => ?_
  have n1 := m1.next
  simp only [Ab.next_alloc] at n1
  have hfr : s1.heap s.next = .row (frC e n r m ds) := (m1.heap _ (by simp only [Ab.next_alloc]; omega)).trans (Ab.heap_alloc_new _ _)
  have hil := idT_len e n
  cases r with
  | true =>
    have h9 : sliceV Tryd.prog s1 9 (.string ⟨#[48, 49, 50, 51, 52, 53, 54, 55, 56]⟩) (some (.int .i64 (m : Int))) (some (.int .i64 ((m : Int) + 1))) none = some (.string (strB [hexAt m])) := by
      refine (slcStr (l := hexD.take 9) Ty.str9 (by omega) (by omega) (by simp [hexD]; omega)).trans ?_
      have : ∀ i : Fin 9, ((hexD.take 9).take (((i.val : Int) + 1).toNat)).drop ((i.val : Int).toNat) = [hexAt i.val] := by decide
      rw [this ⟨m, by omega⟩]
    have a1 := addStrV (l := idT e n) (m := [63]) (by simp; omega)
    have a2 := addStrV (l := idT e n ++ [63]) (m := [hexAt m]) (by simp; omega)
    have key := hR _ (hm0.trans m1)
    simp only [frT, hr, if_true, Int.toNat_natCast] at key
    simp (disch := first | omega | ((simp only [Ab.next_alloc, Ab.next_upd, List.length_cons, List.length_nil, ne_eq, not_true_eq_false, not_false_eq_true]) <;> omega) | decide) only [↓stepPre, stepPost, ↓W_cond, ↓W_block, ↓reduceIte, Nat.reduceEqDiff, Nat.reduceLT, Nat.reduceLeDiff, ret0, stVar, isTup, Value.cells, Nat.le_refl, Nat.reduceAdd, Nat.reduceMul, Nat.reduceSub, env0, binV, intV, reduceCtorEq, pickV, nilCheckV, ptrV, unV, true_and, and_true, Nat.add_zero, Nat.zero_add, Rt, resultsV, allV, resV, Bool.not_true, Bool.not_false, calleeV, builtinV, eqV, fieldAddrV, ldVar, stN_own, stN_ownL, Int.fdiv_eq_ediv_of_nonneg, Int.reduceToNat, Int.reducePow, IntKind.bits, convV, ne_eq, not_false_eq_true, not_true_eq_false, Int.reduceNeg, Int.reduceAdd, Int.reduceSub, Int.reduceLT, Int.reduceLE, extractV, decide_true, decide_false, Int.reduceEq, mkFuncV, stBFrReadR, beq_self_eq_true, Ty.t24, Tryd.underlying24, Ty.t27, Tryd.underlying27, Ty.t25, Tryd.underlying25, Ty.t9, Tryd.underlying9, Ty.t5, Tryd.underlying5, Ty.t22, Tryd.underlying22, Ty.t60, Tryd.underlying60, Ty.t3, Tryd.underlying3, Ty.t4, Tryd.underlying4, Ty.t31, Tryd.underlying31, getL_take, glBFrReadR, hfr, h9, a1, a2, Tryd.results17]
    exact key
  | false =>
    have a1 := addStrV (l := idT e n) (m := [35]) (by simp; omega)
    simp (disch := first | omega | ((simp only [Ab.next_alloc, Ab.next_upd, List.length_cons, List.length_nil, ne_eq, not_true_eq_false, not_false_eq_true]) <;> omega) | decide) only [↓stepPre, stepPost, ↓W_cond, ↓W_block, ↓reduceIte, Nat.reduceEqDiff, Nat.reduceLT, Nat.reduceLeDiff, ret0, stVar, isTup, Value.cells, Nat.le_refl, Nat.reduceAdd, Nat.reduceMul, Nat.reduceSub, env0, binV, intV, reduceCtorEq, pickV, nilCheckV, ptrV, unV, true_and, and_true, Nat.add_zero, Nat.zero_add, Rt, resultsV, allV, resV, Bool.not_true, Bool.not_false, calleeV, builtinV, eqV, fieldAddrV, ldVar, stN_own, stN_ownL, Int.fdiv_eq_ediv_of_nonneg, Int.reduceToNat, Int.reducePow, IntKind.bits, convV, ne_eq, not_false_eq_true, not_true_eq_false, Int.reduceNeg, Int.reduceAdd, Int.reduceSub, Int.reduceLT, Int.reduceLE, extractV, decide_true, decide_false, Int.reduceEq, mkFuncV, stBFrReadR, beq_self_eq_true, Ty.t24, Tryd.underlying24, Ty.t27, Tryd.underlying27, Ty.t25, Tryd.underlying25, Ty.t9, Tryd.underlying9, Ty.t5, Tryd.underlying5, Ty.t22, Tryd.underlying22, Ty.t60, Tryd.underlying60, Ty.t3, Tryd.underlying3, Ty.t4, Tryd.underlying4, Ty.t31, Tryd.underlying31, getL_take, glBFrReadR, hfr, a1]
    refine W_loop_inv m (fun i e1 s2 => Mild s1 s2 ∧ e1 1 = .pointer (some ⟨s.next, 0, none⟩) ∧ e1 3 = .string (strB (idT e n ++ [35] ++ byT (ds.take i))) ∧ e1 4 = .int .i64 (i : Int)) (fun x e1 s2 => x = .exit 0 ∧ Mild s1 s2 ∧ e1 3 = .string (strB (idT e n ++ [35] ++ byT (ds.take m)))) ?_ ?_ ?_
    rotate_left
    · exact ⟨.refl _, rfl, (rfl : _ = Value.string (strB (idT e n ++ [35]))).trans (by simp [byT]), rfl⟩
    · rintro x e1 s2 ⟨rfl, m2, h3⟩
      have key := hR _ ((hm0.trans m1).trans m2)
      simp only [frT, hr, if_true, Int.toNat_natCast, Bool.false_eq_true, if_false] at key
      simp (disch := first | omega | ((simp only [Ab.next_alloc, Ab.next_upd, List.length_cons, List.length_nil, ne_eq, not_true_eq_false, not_false_eq_true]) <;> omega) | decide) only [↓stepPre, stepPost, ↓W_cond, ↓W_block, ↓reduceIte, Nat.reduceEqDiff, Nat.reduceLT, Nat.reduceLeDiff, ret0, stVar, isTup, Value.cells, Nat.le_refl, Nat.reduceAdd, Nat.reduceMul, Nat.reduceSub, env0, binV, intV, reduceCtorEq, pickV, nilCheckV, ptrV, unV, true_and, and_true, Nat.add_zero, Nat.zero_add, Rt, resultsV, allV, resV, Bool.not_true, Bool.not_false, calleeV, builtinV, eqV, fieldAddrV, ldVar, stN_own, stN_ownL, Int.fdiv_eq_ediv_of_nonneg, Int.reduceToNat, Int.reducePow, IntKind.bits, convV, ne_eq, not_false_eq_true, not_true_eq_false, Int.reduceNeg, Int.reduceAdd, Int.reduceSub, Int.reduceLT, Int.reduceLE, extractV, decide_true, decide_false, Int.reduceEq, mkFuncV, stBFrReadR, beq_self_eq_true, Ty.t24, Tryd.underlying24, Ty.t27, Tryd.underlying27, Ty.t25, Tryd.underlying25, Ty.t9, Tryd.underlying9, Ty.t5, Tryd.underlying5, Ty.t22, Tryd.underlying22, Ty.t60, Tryd.underlying60, Ty.t3, Tryd.underlying3, Ty.t4, Tryd.underlying4, Ty.t31, Tryd.underlying31, getL_take, glBFrReadR, h3, Tryd.results17]
      exact key
    rintro i e1 s2 hi ⟨m2, h1, h3, h4⟩
    have n2 := m2.next
    have hfr2 := (m2.heap _ (by omega)).trans hfr
    by_cases him : i < m
    rotate_left
    · have g1 : ¬ (i : Int) < (m : Int) := by omega
      rw [show i = m by omega] at h3
      simp (disch := first | omega | ((simp only [Ab.next_alloc, Ab.next_upd, List.length_cons, List.length_nil, ne_eq, not_true_eq_false, not_false_eq_true]) <;> omega) | decide) only [↓stepPre, stepPost, ↓W_cond, ↓W_block, ↓reduceIte, Nat.reduceEqDiff, Nat.reduceLT, Nat.reduceLeDiff, ret0, stVar, isTup, Value.cells, Nat.le_refl, Nat.reduceAdd, Nat.reduceMul, Nat.reduceSub, env0, binV, intV, reduceCtorEq, pickV, nilCheckV, ptrV, unV, true_and, and_true, Nat.add_zero, Nat.zero_add, Rt, resultsV, allV, resV, Bool.not_true, Bool.not_false, calleeV, builtinV, eqV, fieldAddrV, ldVar, stN_own, stN_ownL, Int.fdiv_eq_ediv_of_nonneg, Int.reduceToNat, Int.reducePow, IntKind.bits, convV, ne_eq, not_false_eq_true, not_true_eq_false, Int.reduceNeg, Int.reduceAdd, Int.reduceSub, Int.reduceLT, Int.reduceLE, extractV, decide_true, decide_false, Int.reduceEq, mkFuncV, stBFrReadR, beq_self_eq_true, Ty.t24, Tryd.underlying24, Ty.t27, Tryd.underlying27, Ty.t25, Tryd.underlying25, Ty.t9, Tryd.underlying9, Ty.t5, Tryd.underlying5, Ty.t22, Tryd.underlying22, Ty.t60, Tryd.underlying60, Ty.t3, Tryd.underlying3, Ty.t4, Tryd.underlying4, Ty.t31, Tryd.underlying31, getL_take, glBFrReadR, hfr2, h1, h3, h4, g1]
      exact m2
    have g1 : (i : Int) < (m : Int) := by omega
    have hix := idxArr (P := Tryd.prog) (b := s.next) (o := 4) (kk := .i64) (i := (i : Int)) Ty.arr25 Ty.siz5 (by omega) (by omega)
    rw [Int.toNat_natCast] at hix
    have hfa := frC_at (e := e) (n := n) (r := false) (l := (m : Int)) (ds := ds) (i := i) (by omega)
    have hxy := hy (ds.getD i 0) (by rw [List.getD_eq_getElem?_getD, List.getElem?_eq_getElem (by omega)]; exact List.getElem_mem _)
    have hsn : ds.take (i + 1) = ds.take i ++ [ds.getD i 0] := by
      rw [List.take_succ_eq_append_getElem (by omega)]; simp [List.getD_eq_getElem?_getD, show i < ds.length by omega]
    have hld : loadV Tryd.prog base s2 5 (.pointer (some ⟨s.next, 4 + i * 1, none⟩)) = some (.int .u8 ((ds.getD i 0 : Nat) : Int)) := by
      simp (disch := first | omega | ((simp only [Ab.next_alloc, Ab.next_upd, List.length_cons, List.length_nil, ne_eq, not_true_eq_false, not_false_eq_true]) <;> omega) | decide) only [↓stepPre, stepPost, ↓W_cond, ↓W_block, ↓reduceIte, Nat.reduceEqDiff, Nat.reduceLT, Nat.reduceLeDiff, ret0, stVar, isTup, Value.cells, Nat.le_refl, Nat.reduceAdd, Nat.reduceMul, Nat.reduceSub, env0, binV, intV, reduceCtorEq, pickV, nilCheckV, ptrV, unV, true_and, and_true, Nat.add_zero, Nat.zero_add, Rt, resultsV, allV, resV, Bool.not_true, Bool.not_false, calleeV, builtinV, eqV, fieldAddrV, ldVar, Int.fdiv_eq_ediv_of_nonneg, Int.reduceToNat, Int.reducePow, IntKind.bits, convV, ne_eq, not_false_eq_true, not_true_eq_false, Int.reduceNeg, Int.reduceAdd, Int.reduceSub, Int.reduceLT, Int.reduceLE, extractV, decide_true, decide_false, Int.reduceEq, mkFuncV, stBFrReadR, beq_self_eq_true, Ty.t24, Tryd.underlying24, Ty.t27, Tryd.underlying27, Ty.t25, Tryd.underlying25, Ty.t9, Tryd.underlying9, Ty.t5, Tryd.underlying5, Ty.t22, Tryd.underlying22, Ty.t60, Tryd.underlying60, Ty.t3, Tryd.underlying3, Ty.t4, Tryd.underlying4, Ty.t31, Tryd.underlying31, hfr2, hfa]
    generalize ds.getD i 0 = x at hld hxy hsn
    simp (disch := first | omega | ((simp only [Ab.next_alloc, Ab.next_upd, List.length_cons, List.length_nil, ne_eq, not_true_eq_false, not_false_eq_true]) <;> omega) | decide) only [↓stepPre, stepPost, ↓W_cond, ↓W_block, ↓reduceIte, Nat.reduceEqDiff, Nat.reduceLT, Nat.reduceLeDiff, ret0, stVar, isTup, Value.cells, Nat.le_refl, Nat.reduceAdd, Nat.reduceMul, Nat.reduceSub, env0, binV, intV, reduceCtorEq, pickV, nilCheckV, ptrV, unV, true_and, and_true, Nat.add_zero, Nat.zero_add, Rt, resultsV, allV, resV, Bool.not_true, Bool.not_false, calleeV, builtinV, eqV, fieldAddrV, ldVar, stN_own, stN_ownL, Int.fdiv_eq_ediv_of_nonneg, Int.reduceToNat, Int.reducePow, IntKind.bits, convV, ne_eq, not_false_eq_true, not_true_eq_false, Int.reduceNeg, Int.reduceAdd, Int.reduceSub, Int.reduceLT, Int.reduceLE, extractV, decide_true, decide_false, Int.reduceEq, mkFuncV, stBFrReadR, beq_self_eq_true, Ty.t24, Tryd.underlying24, Ty.t27, Tryd.underlying27, Ty.t25, Tryd.underlying25, Ty.t9, Tryd.underlying9, Ty.t5, Tryd.underlying5, Ty.t22, Tryd.underlying22, Ty.t60, Tryd.underlying60, Ty.t3, Tryd.underlying3, Ty.t4, Tryd.underlying4, Ty.t31, Tryd.underlying31, getL_take, glBFrReadR, hfr2, h1, h3, h4, g1, hix, hld]
    refine rhex_p hxy ?_
    have a3 := addStrV (l := idT e n ++ [35] ++ byT (ds.take i)) (m := [hexAt (x / 16 % 16), hexAt (x % 16)]) (by simp [byT_len]; omega)
    simp (disch := first | omega | ((simp only [Ab.next_alloc, Ab.next_upd, List.length_cons, List.length_nil, ne_eq, not_true_eq_false, not_false_eq_true]) <;> omega) | decide) only [↓stepPre, stepPost, ↓W_cond, ↓W_block, ↓reduceIte, Nat.reduceEqDiff, Nat.reduceLT, Nat.reduceLeDiff, ret0, stVar, isTup, Value.cells, Nat.le_refl, Nat.reduceAdd, Nat.reduceMul, Nat.reduceSub, env0, binV, intV, reduceCtorEq, pickV, nilCheckV, ptrV, unV, true_and, and_true, Nat.add_zero, Nat.zero_add, Rt, resultsV, allV, resV, Bool.not_true, Bool.not_false, calleeV, builtinV, eqV, fieldAddrV, ldVar, stN_own, stN_ownL, Int.fdiv_eq_ediv_of_nonneg, Int.reduceToNat, Int.reducePow, IntKind.bits, convV, ne_eq, not_false_eq_true, not_true_eq_false, Int.reduceNeg, Int.reduceAdd, Int.reduceSub, Int.reduceLT, Int.reduceLE, extractV, decide_true, decide_false, Int.reduceEq, mkFuncV, stBFrReadR, beq_self_eq_true, Ty.t24, Tryd.underlying24, Ty.t27, Tryd.underlying27, Ty.t25, Tryd.underlying25, Ty.t9, Tryd.underlying9, Ty.t5, Tryd.underlying5, Ty.t22, Tryd.underlying22, Ty.t60, Tryd.underlying60, Ty.t3, Tryd.underlying3, Ty.t4, Tryd.underlying4, Ty.t31, Tryd.underlying31, getL_take, glBFrReadR, h1, h3, h4, a3]
    exact ⟨him, m2, by rw [hsn, byT_snoc, List.append_assoc], by simp⟩
theorem hexOk_take2 {l : List UInt8} {i : Nat} (h : 2 * i + 1 < l.length) : hexOk (l.take (2 * (i + 1))) = (hexOk (l.take (2 * i)) && decide (0 ≤ digI (l.getD (2 * i) 0).toNat) && decide (0 ≤ digI (l.getD (2 * i + 1) 0).toNat)) := by
  rw [show 2 * (i + 1) = 2 * i + 1 + 1 by omega, take_snoc h, hexOk_snoc, take_snoc (by omega), hexOk_snoc]
theorem hexOk_at {l : List UInt8} {i : Nat} (h : hexOk l = true) (hi : i < l.length) : 0 ≤ digI (l.getD i 0).toNat := by
  have := List.all_eq_true.1 h (l.getD i 0) (by rw [List.getD_eq_getElem?_getD, List.getElem?_eq_getElem hi]; exact List.getElem_mem hi)
  exact of_decide_eq_true this
abbrev z12 : List Value := [.bool false, .int .u32 0, .bool false, .int .i64 0, .int .u8 0, .int .u8 0, .int .u8 0, .int .u8 0, .int .u8 0, .int .u8 0, .int .u8 0, .int .u8 0]
theorem rread6_ok {l : List UInt8} (hl : l.length ≤ 1000) (hbn : base ≤ s.next) (hR : ∀ s', Mild s s' → R (readV l) s') : WC Tryd.prog base 10 [.string (strB l)] s R := by
  refine WC_open Tryd.func10 rfl ?_
  have hlen : ∀ (l : List UInt8) ts, lenB Tryd.prog (9 :: ts) [.string (strB l)] = some (.int .i64 (l.length : Int)) := fun l ts => lenStr Ty.str9 Ty.arr9
  have hm0 := Mild.alloc s (.row z12)
  have hr0 := Ab.heap_alloc_new s (.row z12)
  have hnx := Ab.next_alloc s (.row z12)
  simp (disch := first | omega | ((simp only [Ab.next_alloc, Ab.next_upd, List.length_cons, List.length_nil, ne_eq, not_true_eq_false, not_false_eq_true]) <;> omega) | decide) only [↓stepPre, stepPost, ↓W_cond, ↓W_block, ↓reduceIte, Nat.reduceEqDiff, Nat.reduceLT, Nat.reduceLeDiff, ret0, stVar, isTup, Value.cells, Nat.le_refl, Nat.reduceAdd, Nat.reduceMul, Nat.reduceSub, env0, binV, intV, reduceCtorEq, pickV, nilCheckV, ptrV, unV, true_and, and_true, Nat.add_zero, Nat.zero_add, Rt, resultsV, allV, resV, Bool.not_true, Bool.not_false, calleeV, builtinV, eqV, fieldAddrV, ldVar, stN_own, stN_ownL, Int.fdiv_eq_ediv_of_nonneg, Int.reduceToNat, Int.reducePow, IntKind.bits, convV, ne_eq, not_false_eq_true, not_true_eq_false, Int.reduceNeg, Int.reduceAdd, Int.reduceSub, Int.reduceLT, Int.reduceLE, extractV, decide_true, decide_false, Int.reduceEq, mkFuncV, stBFrReadR, beq_self_eq_true, Ty.t24, Tryd.underlying24, Ty.t27, Tryd.underlying27, Ty.t25, Tryd.underlying25, Ty.t9, Tryd.underlying9, Ty.t5, Tryd.underlying5, Ty.t22, Tryd.underlying22, Ty.t60, Tryd.underlying60, Ty.t3, Tryd.underlying3, Ty.t4, Tryd.underlying4, Ty.t31, Tryd.underlying31, getL_take, glBFrReadR]
  generalize s.alloc (.row z12) = s1 at hm0 hr0 hnx ⊢
  refine W_loop_inv l.length (fun i e1 s2 => s2 = s1 ∧ e1 0 = .string (strB l) ∧ e1 2 = .pointer (some ⟨s.next, 0, none⟩) ∧ e1 4 = .int .i64 (i : Int) ∧ ∀ j, j < i → sepB (l.getD j 0) = false) (fun x e1 s2 => x = .exit 0 ∧ s2 = s1 ∧ e1 0 = .string (strB l) ∧ e1 2 = .pointer (some ⟨s.next, 0, none⟩) ∧ e1 4 = .int .i64 (sepN l : Int)) ?_ ?_ ?_
  rotate_left
  · exact ⟨rfl, rfl, rfl, rfl, fun j hj => by omega⟩
  rotate_left
  · rintro i e1 s2 hi ⟨rfl, h0, h2, h4, hq⟩
    by_cases hil : i < l.length
    rotate_left
    · have g1 : ¬ (i : Int) < (l.length : Int) := by omega
      have hk := sepN_is hi hq (.inl (by omega))
      simp (disch := first | omega | ((simp only [Ab.next_alloc, Ab.next_upd, List.length_cons, List.length_nil, ne_eq, not_true_eq_false, not_false_eq_true]) <;> omega) | decide) only [↓stepPre, stepPost, ↓W_cond, ↓W_block, ↓reduceIte, Nat.reduceEqDiff, Nat.reduceLT, Nat.reduceLeDiff, ret0, stVar, isTup, Value.cells, Nat.le_refl, Nat.reduceAdd, Nat.reduceMul, Nat.reduceSub, env0, binV, intV, reduceCtorEq, pickV, nilCheckV, ptrV, unV, true_and, and_true, Nat.add_zero, Nat.zero_add, Rt, resultsV, allV, resV, Bool.not_true, Bool.not_false, calleeV, builtinV, eqV, fieldAddrV, ldVar, stN_own, stN_ownL, Int.fdiv_eq_ediv_of_nonneg, Int.reduceToNat, Int.reducePow, IntKind.bits, convV, ne_eq, not_false_eq_true, not_true_eq_false, Int.reduceNeg, Int.reduceAdd, Int.reduceSub, Int.reduceLT, Int.reduceLE, extractV, decide_true, decide_false, Int.reduceEq, mkFuncV, stBFrReadR, beq_self_eq_true, Ty.t24, Tryd.underlying24, Ty.t27, Tryd.underlying27, Ty.t25, Tryd.underlying25, Ty.t9, Tryd.underlying9, Ty.t5, Tryd.underlying5, Ty.t22, Tryd.underlying22, Ty.t60, Tryd.underlying60, Ty.t3, Tryd.underlying3, Ty.t4, Tryd.underlying4, Ty.t31, Tryd.underlying31, getL_take, glBFrReadR, h0, h2, h4, hlen, g1, hk]
    have g1 : (i : Int) < (l.length : Int) := by omega
    have hix := idxStr (P := Tryd.prog) (t := 9) (l := l) (k := .i64) (i := (i : Int)) Ty.str9 (by omega) (by omega)
    rw [Int.toNat_natCast] at hix
    have hsb := sepB_iff (l.getD i 0)
    by_cases c63 : (l.getD i 0).toNat = 63
    · have hk := sepN_is hi hq (.inr (hsb.2 (.inl c63)))
      rw [c63] at hix
      simp (disch := first | omega | ((simp only [Ab.next_alloc, Ab.next_upd, List.length_cons, List.length_nil, ne_eq, not_true_eq_false, not_false_eq_true]) <;> omega) | decide) only [↓stepPre, stepPost, ↓W_cond, ↓W_block, ↓reduceIte, Nat.reduceEqDiff, Nat.reduceLT, Nat.reduceLeDiff, ret0, stVar, isTup, Value.cells, Nat.le_refl, Nat.reduceAdd, Nat.reduceMul, Nat.reduceSub, env0, binV, intV, reduceCtorEq, pickV, nilCheckV, ptrV, unV, true_and, and_true, Nat.add_zero, Nat.zero_add, Rt, resultsV, allV, resV, Bool.not_true, Bool.not_false, calleeV, builtinV, eqV, fieldAddrV, ldVar, stN_own, stN_ownL, Int.fdiv_eq_ediv_of_nonneg, Int.reduceToNat, Int.reducePow, IntKind.bits, convV, ne_eq, not_false_eq_true, not_true_eq_false, Int.reduceNeg, Int.reduceAdd, Int.reduceSub, Int.reduceLT, Int.reduceLE, extractV, decide_true, decide_false, Int.reduceEq, mkFuncV, stBFrReadR, beq_self_eq_true, Ty.t24, Tryd.underlying24, Ty.t27, Tryd.underlying27, Ty.t25, Tryd.underlying25, Ty.t9, Tryd.underlying9, Ty.t5, Tryd.underlying5, Ty.t22, Tryd.underlying22, Ty.t60, Tryd.underlying60, Ty.t3, Tryd.underlying3, Ty.t4, Tryd.underlying4, Ty.t31, Tryd.underlying31, getL_take, glBFrReadR, h0, h2, h4, hlen, g1, hix, hk]
    have d63 : ¬ (((l.getD i 0).toNat : Nat) : Int) = 63 := by omega
    by_cases c35 : (l.getD i 0).toNat = 35
    · have hk := sepN_is hi hq (.inr (hsb.2 (.inr c35)))
      rw [c35] at hix
      simp (disch := first | omega | ((simp only [Ab.next_alloc, Ab.next_upd, List.length_cons, List.length_nil, ne_eq, not_true_eq_false, not_false_eq_true]) <;> omega) | decide) only [↓stepPre, stepPost, ↓W_cond, ↓W_block, ↓reduceIte, Nat.reduceEqDiff, Nat.reduceLT, Nat.reduceLeDiff, ret0, stVar, isTup, Value.cells, Nat.le_refl, Nat.reduceAdd, Nat.reduceMul, Nat.reduceSub, env0, binV, intV, reduceCtorEq, pickV, nilCheckV, ptrV, unV, true_and, and_true, Nat.add_zero, Nat.zero_add, Rt, resultsV, allV, resV, Bool.not_true, Bool.not_false, calleeV, builtinV, eqV, fieldAddrV, ldVar, stN_own, stN_ownL, Int.fdiv_eq_ediv_of_nonneg, Int.reduceToNat, Int.reducePow, IntKind.bits, convV, ne_eq, not_false_eq_true, not_true_eq_false, Int.reduceNeg, Int.reduceAdd, Int.reduceSub, Int.reduceLT, Int.reduceLE, extractV, decide_true, decide_false, Int.reduceEq, mkFuncV, stBFrReadR, beq_self_eq_true, Ty.t24, Tryd.underlying24, Ty.t27, Tryd.underlying27, Ty.t25, Tryd.underlying25, Ty.t9, Tryd.underlying9, Ty.t5, Tryd.underlying5, Ty.t22, Tryd.underlying22, Ty.t60, Tryd.underlying60, Ty.t3, Tryd.underlying3, Ty.t4, Tryd.underlying4, Ty.t31, Tryd.underlying31, getL_take, glBFrReadR, h0, h2, h4, hlen, g1, hix, hk]
    have d35 : ¬ (((l.getD i 0).toNat : Nat) : Int) = 35 := by omega
    simp (disch := first | omega | ((simp only [Ab.next_alloc, Ab.next_upd, List.length_cons, List.length_nil, ne_eq, not_true_eq_false, not_false_eq_true]) <;> omega) | decide) only [↓stepPre, stepPost, ↓W_cond, ↓W_block, ↓reduceIte, Nat.reduceEqDiff, Nat.reduceLT, Nat.reduceLeDiff, ret0, stVar, isTup, Value.cells, Nat.le_refl, Nat.reduceAdd, Nat.reduceMul, Nat.reduceSub, env0, binV, intV, reduceCtorEq, pickV, nilCheckV, ptrV, unV, true_and, and_true, Nat.add_zero, Nat.zero_add, Rt, resultsV, allV, resV, Bool.not_true, Bool.not_false, calleeV, builtinV, eqV, fieldAddrV, ldVar, stN_own, stN_ownL, Int.fdiv_eq_ediv_of_nonneg, Int.reduceToNat, Int.reducePow, IntKind.bits, convV, ne_eq, not_false_eq_true, not_true_eq_false, Int.reduceNeg, Int.reduceAdd, Int.reduceSub, Int.reduceLT, Int.reduceLE, extractV, decide_true, decide_false, Int.reduceEq, mkFuncV, stBFrReadR, beq_self_eq_true, Ty.t24, Tryd.underlying24, Ty.t27, Tryd.underlying27, Ty.t25, Tryd.underlying25, Ty.t9, Tryd.underlying9, Ty.t5, Tryd.underlying5, Ty.t22, Tryd.underlying22, Ty.t60, Tryd.underlying60, Ty.t3, Tryd.underlying3, Ty.t4, Tryd.underlying4, Ty.t31, Tryd.underlying31, getL_take, glBFrReadR, h0, h2, h4, hlen, g1, hix, d63, d35]
    refine ⟨hil, by simp, fun j hj => ?_⟩
    by_cases hji : j = i
    · subst hji
      exact Bool.eq_false_iff.2 fun h => (hsb.1 h).elim c63 c35
    · exact hq j (by omega)
  rintro x e1 s2 ⟨rfl, rfl, h0, h2, h4⟩
  have hkl : sepN l ≤ l.length := List.findIdx_le_length
  have hrd : readV l = if sepN l < l.length ∧ iparOk (l.take (sepN l)) = true then (if l.getD (sepN l) 0 = 63 then askV (decide ((l.take (sepN l)).length = 8)) (hexN (l.take (sepN l))) (l.drop (sepN l + 1)) else fillV (decide ((l.take (sepN l)).length = 8)) (hexN (l.take (sepN l))) (l.drop (sepN l + 1))) else badF := rfl
  generalize sepN l = k at h4 hkl hrd
  by_cases hk : k < l.length
  rotate_left
  · have g1 : (k : Int) = (l.length : Int) := by omega
    have key := hR _ (hm0.upd' (b := s.next) (o := .row z12) (Nat.le_refl _))
    rw [hrd, if_neg (fun h => hk h.1)] at key
    simp (disch := first | omega | ((simp only [Ab.next_alloc, Ab.next_upd, List.length_cons, List.length_nil, ne_eq, not_true_eq_false, not_false_eq_true]) <;> omega) | decide) only [↓stepPre, stepPost, ↓W_cond, ↓W_block, ↓reduceIte, Nat.reduceEqDiff, Nat.reduceLT, Nat.reduceLeDiff, ret0, stVar, isTup, Value.cells, Nat.le_refl, Nat.reduceAdd, Nat.reduceMul, Nat.reduceSub, env0, binV, intV, reduceCtorEq, pickV, nilCheckV, ptrV, unV, true_and, and_true, Nat.add_zero, Nat.zero_add, Rt, resultsV, allV, resV, Bool.not_true, Bool.not_false, calleeV, builtinV, eqV, fieldAddrV, ldVar, stN_own, stN_ownL, Int.fdiv_eq_ediv_of_nonneg, Int.reduceToNat, Int.reducePow, IntKind.bits, convV, ne_eq, not_false_eq_true, not_true_eq_false, Int.reduceNeg, Int.reduceAdd, Int.reduceSub, Int.reduceLT, Int.reduceLE, extractV, decide_true, decide_false, Int.reduceEq, mkFuncV, stBFrReadR, beq_self_eq_true, Ty.t24, Tryd.underlying24, Ty.t27, Tryd.underlying27, Ty.t25, Tryd.underlying25, Ty.t9, Tryd.underlying9, Ty.t5, Tryd.underlying5, Ty.t22, Tryd.underlying22, Ty.t60, Tryd.underlying60, Ty.t3, Tryd.underlying3, Ty.t4, Tryd.underlying4, Ty.t31, Tryd.underlying31, getL_take, glBFrReadR, h0, h2, h4, hlen, g1, eq_self, hr0, buildV, fillL, Tryd.results10]
    exact key
  have g1 : ¬ (k : Int) = (l.length : Int) := by omega
  have hs1 := slcStrHi (P := Tryd.prog) (s := s2) (t := 9) (l := l) (k' := .i64) (b := (k : Int)) Ty.str9 (by omega) (by omega)
  rw [Int.toNat_natCast] at hs1
  simp (disch := first | omega | ((simp only [Ab.next_alloc, Ab.next_upd, List.length_cons, List.length_nil, ne_eq, not_true_eq_false, not_false_eq_true]) <;> omega) | decide) only [↓stepPre, stepPost, ↓W_cond, ↓W_block, ↓reduceIte, Nat.reduceEqDiff, Nat.reduceLT, Nat.reduceLeDiff, ret0, stVar, isTup, Value.cells, Nat.le_refl, Nat.reduceAdd, Nat.reduceMul, Nat.reduceSub, env0, binV, intV, reduceCtorEq, pickV, nilCheckV, ptrV, unV, true_and, and_true, Nat.add_zero, Nat.zero_add, Rt, resultsV, allV, resV, Bool.not_true, Bool.not_false, calleeV, builtinV, eqV, fieldAddrV, ldVar, stN_own, stN_ownL, Int.fdiv_eq_ediv_of_nonneg, Int.reduceToNat, Int.reducePow, IntKind.bits, convV, ne_eq, not_false_eq_true, not_true_eq_false, Int.reduceNeg, Int.reduceAdd, Int.reduceSub, Int.reduceLT, Int.reduceLE, extractV, decide_true, decide_false, Int.reduceEq, mkFuncV, stBFrReadR, beq_self_eq_true, Ty.t24, Tryd.underlying24, Ty.t27, Tryd.underlying27, Ty.t25, Tryd.underlying25, Ty.t9, Tryd.underlying9, Ty.t5, Tryd.underlying5, Ty.t22, Tryd.underlying22, Ty.t60, Tryd.underlying60, Ty.t3, Tryd.underlying3, Ty.t4, Tryd.underlying4, Ty.t31, Tryd.underlying31, getL_take, glBFrReadR, h0, h2, h4, hlen, g1, hs1]
  refine rparse5_ok (by omega) fun s3 m3 => ?_
  have n3 := m3.next
  have hr3 := (m3.heap _ (by omega)).trans hr0
  have hs2 : ∀ s, sliceV Tryd.prog s 9 (.string (strB l)) (some (.int .i64 ((k : Int) + 1))) none none = some (.string (strB (l.drop (k + 1)))) := fun s => by
    have := slcStrLo (P := Tryd.prog) (s := s) (t := 9) (l := l) (k := .i64) (a := (k : Int) + 1) Ty.str9 (by omega) (by omega)
    rwa [show ((k : Int) + 1).toNat = k + 1 by omega] at this
  have M3 := hm0.trans m3
  by_cases hp : iparOk (l.take k) = true
  rotate_left
  · have hpv : iparV (l.take k) = .tuple #[idV false 0, .bool false] := by rw [iparV, if_neg hp]
    have key := hR _ ((M3.alloc' (o := .row [.bool false, .int .u32 0])).upd' (b := s.next) (o := .row z12) (Nat.le_refl _))
    rw [hrd, if_neg (fun h => hp h.2)] at key
    rw [hpv]
    simp (disch := first | omega | ((simp only [Ab.next_alloc, Ab.next_upd, List.length_cons, List.length_nil, ne_eq, not_true_eq_false, not_false_eq_true]) <;> omega) | decide) only [↓stepPre, stepPost, ↓W_cond, ↓W_block, ↓reduceIte, Nat.reduceEqDiff, Nat.reduceLT, Nat.reduceLeDiff, ret0, stVar, isTup, Value.cells, Nat.le_refl, Nat.reduceAdd, Nat.reduceMul, Nat.reduceSub, env0, binV, intV, reduceCtorEq, pickV, nilCheckV, ptrV, unV, true_and, and_true, Nat.add_zero, Nat.zero_add, Rt, resultsV, allV, resV, Bool.not_true, Bool.not_false, calleeV, builtinV, eqV, fieldAddrV, ldVar, stN_own, stN_ownL, Int.fdiv_eq_ediv_of_nonneg, Int.reduceToNat, Int.reducePow, IntKind.bits, convV, ne_eq, not_false_eq_true, not_true_eq_false, Int.reduceNeg, Int.reduceAdd, Int.reduceSub, Int.reduceLT, Int.reduceLE, extractV, decide_true, decide_false, Int.reduceEq, mkFuncV, stBFrReadR, beq_self_eq_true, Ty.t24, Tryd.underlying24, Ty.t27, Tryd.underlying27, Ty.t25, Tryd.underlying25, Ty.t9, Tryd.underlying9, Ty.t5, Tryd.underlying5, Ty.t22, Tryd.underlying22, Ty.t60, Tryd.underlying60, Ty.t3, Tryd.underlying3, Ty.t4, Tryd.underlying4, Ty.t31, Tryd.underlying31, getL_take, glBFrReadR, h0, h2, h4, hlen, hs2, hr3, buildV, fillL, Tryd.results10]
    exact key
  have hpv : iparV (l.take k) = .tuple #[idV (decide ((l.take k).length = 8)) (hexN (l.take k)), .bool true] := by rw [iparV, if_pos hp]
  rw [hrd, if_pos ⟨hk, hp⟩] at hR
  clear hrd
  rw [hpv]
  generalize decide ((l.take k).length = 8) = ee at hR ⊢
  generalize hexN (l.take k) = nn at hR ⊢
  have hix := idxStr (P := Tryd.prog) (t := 9) (l := l) (k := .i64) (i := (k : Int)) Ty.str9 (by omega) (by omega)
  rw [Int.toNat_natCast] at hix
  by_cases c63 : l.getD k 0 = 63
  · rw [if_pos c63] at hR
    rw [c63] at hix
    generalize l.drop (k + 1) = q at hs2 hR
    have hix : indexV Tryd.prog 9 (.string (strB l)) (.int .i64 (k : Int)) = some (.int .u8 63) := hix
    by_cases hq1 : q.length = 1
    rotate_left
    · have e1 : ¬ (q.length : Int) = 1 := by omega
      simp (disch := first | omega | ((simp only [Ab.next_alloc, Ab.next_upd, List.length_cons, List.length_nil, ne_eq, not_true_eq_false, not_false_eq_true]) <;> omega) | decide) only [↓stepPre, stepPost, ↓W_cond, ↓W_block, ↓reduceIte, Nat.reduceEqDiff, Nat.reduceLT, Nat.reduceLeDiff, ret0, stVar, isTup, Value.cells, Nat.le_refl, Nat.reduceAdd, Nat.reduceMul, Nat.reduceSub, env0, binV, intV, reduceCtorEq, pickV, nilCheckV, ptrV, unV, true_and, and_true, Nat.add_zero, Nat.zero_add, Rt, resultsV, allV, resV, Bool.not_true, Bool.not_false, calleeV, builtinV, eqV, fieldAddrV, ldVar, stN_own, stN_ownL, Int.fdiv_eq_ediv_of_nonneg, Int.reduceToNat, Int.reducePow, IntKind.bits, convV, ne_eq, not_false_eq_true, not_true_eq_false, Int.reduceNeg, Int.reduceAdd, Int.reduceSub, Int.reduceLT, Int.reduceLE, extractV, decide_true, decide_false, Int.reduceEq, mkFuncV, stBFrReadR, beq_self_eq_true, Ty.t24, Tryd.underlying24, Ty.t27, Tryd.underlying27, Ty.t25, Tryd.underlying25, Ty.t9, Tryd.underlying9, Ty.t5, Tryd.underlying5, Ty.t22, Tryd.underlying22, Ty.t60, Tryd.underlying60, Ty.t3, Tryd.underlying3, Ty.t4, Tryd.underlying4, Ty.t31, Tryd.underlying31, getL_take, glBFrReadR, h0, h2, h4, hlen, hs2, hix, e1, hr3, buildV, fillL, Tryd.results10]
      have hb : askV ee nn q = badF := if_neg (fun h => hq1 h.1)
      rw [hb] at hR
      refine hR _ ?_
      (repeat first | exact Mild.refl _ | assumption | apply Mild.alloc' | (refine Mild.upd' ?_ (by omega)) | (refine Mild.upd' ?_ (by simp only [Ab.next_alloc, Ab.next_upd] at *; omega)))
    have e1 : (q.length : Int) = 1 := by omega
    have hix0 := idxStr (P := Tryd.prog) (t := 9) (l := q) (k := .i64) (i := 0) Ty.str9 (by omega) (by omega)
    have hix0 : indexV Tryd.prog 9 (.string (strB q)) (.int .i64 0) = some (.int .u8 ((q.getD 0 0).toNat : Nat)) := hix0
    have hc8 := (q.getD 0 0).toNat_lt
    unfold askV at hR
    generalize (q.getD 0 0).toNat = c at hix0 hR hc8
    by_cases c1 : c < 48
    · have d1 : (c : Int) < 48 := by omega
      simp (disch := first | omega | ((simp only [Ab.next_alloc, Ab.next_upd, List.length_cons, List.length_nil, ne_eq, not_true_eq_false, not_false_eq_true]) <;> omega) | decide) only [↓stepPre, stepPost, ↓W_cond, ↓W_block, ↓reduceIte, Nat.reduceEqDiff, Nat.reduceLT, Nat.reduceLeDiff, ret0, stVar, isTup, Value.cells, Nat.le_refl, Nat.reduceAdd, Nat.reduceMul, Nat.reduceSub, env0, binV, intV, reduceCtorEq, pickV, nilCheckV, ptrV, unV, true_and, and_true, Nat.add_zero, Nat.zero_add, Rt, resultsV, allV, resV, Bool.not_true, Bool.not_false, calleeV, builtinV, eqV, fieldAddrV, ldVar, stN_own, stN_ownL, Int.fdiv_eq_ediv_of_nonneg, Int.reduceToNat, Int.reducePow, IntKind.bits, convV, ne_eq, not_false_eq_true, not_true_eq_false, Int.reduceNeg, Int.reduceAdd, Int.reduceSub, Int.reduceLT, Int.reduceLE, extractV, decide_true, decide_false, Int.reduceEq, mkFuncV, stBFrReadR, beq_self_eq_true, Ty.t24, Tryd.underlying24, Ty.t27, Tryd.underlying27, Ty.t25, Tryd.underlying25, Ty.t9, Tryd.underlying9, Ty.t5, Tryd.underlying5, Ty.t22, Tryd.underlying22, Ty.t60, Tryd.underlying60, Ty.t3, Tryd.underlying3, Ty.t4, Tryd.underlying4, Ty.t31, Tryd.underlying31, getL_take, glBFrReadR, h0, h2, h4, hlen, hs2, hix, e1, hix0, d1, hr3, buildV, fillL, Tryd.results10]
      rw [if_neg (fun h => by omega)] at hR
      refine hR _ ?_
      (repeat first | exact Mild.refl _ | assumption | apply Mild.alloc' | (refine Mild.upd' ?_ (by omega)) | (refine Mild.upd' ?_ (by simp only [Ab.next_alloc, Ab.next_upd] at *; omega)))
    have d1 : ¬ (c : Int) < 48 := by omega
    by_cases c2 : 56 < c
    · have d2 : (c : Int) > 56 := by omega
      have d2' : 56 < (c : Int) := by omega
      simp (disch := first | omega | ((simp only [Ab.next_alloc, Ab.next_upd, List.length_cons, List.length_nil, ne_eq, not_true_eq_false, not_false_eq_true]) <;> omega) | decide) only [↓stepPre, stepPost, ↓W_cond, ↓W_block, ↓reduceIte, Nat.reduceEqDiff, Nat.reduceLT, Nat.reduceLeDiff, ret0, stVar, isTup, Value.cells, Nat.le_refl, Nat.reduceAdd, Nat.reduceMul, Nat.reduceSub, env0, binV, intV, reduceCtorEq, pickV, nilCheckV, ptrV, unV, true_and, and_true, Nat.add_zero, Nat.zero_add, Rt, resultsV, allV, resV, Bool.not_true, Bool.not_false, calleeV, builtinV, eqV, fieldAddrV, ldVar, stN_own, stN_ownL, Int.fdiv_eq_ediv_of_nonneg, Int.reduceToNat, Int.reducePow, IntKind.bits, convV, ne_eq, not_false_eq_true, not_true_eq_false, Int.reduceNeg, Int.reduceAdd, Int.reduceSub, Int.reduceLT, Int.reduceLE, extractV, decide_true, decide_false, Int.reduceEq, mkFuncV, stBFrReadR, beq_self_eq_true, Ty.t24, Tryd.underlying24, Ty.t27, Tryd.underlying27, Ty.t25, Tryd.underlying25, Ty.t9, Tryd.underlying9, Ty.t5, Tryd.underlying5, Ty.t22, Tryd.underlying22, Ty.t60, Tryd.underlying60, Ty.t3, Tryd.underlying3, Ty.t4, Tryd.underlying4, Ty.t31, Tryd.underlying31, getL_take, glBFrReadR, h0, h2, h4, hlen, hs2, hix, e1, hix0, d1, d2, d2', hr3, buildV, fillL, Tryd.results10]
      rw [if_neg (fun h => by omega)] at hR
      refine hR _ ?_
      (repeat first | exact Mild.refl _ | assumption | apply Mild.alloc' | (refine Mild.upd' ?_ (by omega)) | (refine Mild.upd' ?_ (by simp only [Ab.next_alloc, Ab.next_upd] at *; omega)))
    have d2 : ¬ (c : Int) > 56 := by omega
    have d2' : ¬ 56 < (c : Int) := by omega
    have w1 : IntKind.u8.wrap ((c : Int) - 48) = ((c - 48 : Nat) : Int) := by rw [IntWalk.u8_in _ (by omega)]; omega
    have w2 : IntKind.i64.wrap ((c - 48 : Nat) : Int) = ((c - 48 : Nat) : Int) := IntWalk.i64_in _ (by omega)
    simp (disch := first | omega | ((simp only [Ab.next_alloc, Ab.next_upd, List.length_cons, List.length_nil, ne_eq, not_true_eq_false, not_false_eq_true]) <;> omega) | decide) only [↓stepPre, stepPost, ↓W_cond, ↓W_block, ↓reduceIte, Nat.reduceEqDiff, Nat.reduceLT, Nat.reduceLeDiff, ret0, stVar, isTup, Value.cells, Nat.le_refl, Nat.reduceAdd, Nat.reduceMul, Nat.reduceSub, env0, binV, intV, reduceCtorEq, pickV, nilCheckV, ptrV, unV, true_and, and_true, Nat.add_zero, Nat.zero_add, Rt, resultsV, allV, resV, Bool.not_true, Bool.not_false, calleeV, builtinV, eqV, fieldAddrV, ldVar, stN_own, stN_ownL, Int.fdiv_eq_ediv_of_nonneg, Int.reduceToNat, Int.reducePow, IntKind.bits, convV, ne_eq, not_false_eq_true, not_true_eq_false, Int.reduceNeg, Int.reduceAdd, Int.reduceSub, Int.reduceLT, Int.reduceLE, extractV, decide_true, decide_false, Int.reduceEq, mkFuncV, stBFrReadR, beq_self_eq_true, Ty.t24, Tryd.underlying24, Ty.t27, Tryd.underlying27, Ty.t25, Tryd.underlying25, Ty.t9, Tryd.underlying9, Ty.t5, Tryd.underlying5, Ty.t22, Tryd.underlying22, Ty.t60, Tryd.underlying60, Ty.t3, Tryd.underlying3, Ty.t4, Tryd.underlying4, Ty.t31, Tryd.underlying31, getL_take, glBFrReadR, h0, h2, h4, hlen, hs2, hix, e1, hix0, d1, d2, d2', w1, w2, hr3, buildV, fillL, Tryd.results10]
    rw [if_pos ⟨hq1, by omega, by omega⟩] at hR
    refine hR _ ?_
    (repeat first | exact Mild.refl _ | assumption | apply Mild.alloc' | (refine Mild.upd' ?_ (by omega)) | (refine Mild.upd' ?_ (by simp only [Ab.next_alloc, Ab.next_upd] at *; omega)))
  have c63' : ¬ ((((l.getD k 0).toNat : Nat) : Int) = 63) := fun h => c63 (UInt8.toNat_inj.1 (by rw [show (63 : UInt8).toNat = 63 from rfl]; omega))
  rw [if_neg c63] at hR
  have hqn : (l.drop (k + 1)).length ≤ 1000 := by rw [List.length_drop]; omega
  generalize l.drop (k + 1) = q at hs2 hR hqn
  have t2 : (q.length : Int).tmod 2 = ((q.length % 2 : Nat) : Int) := by rw [Int.tmod_eq_emod_of_nonneg (by omega)]; omega
  have q2 : (q.length : Int).tdiv 2 = ((q.length / 2 : Nat) : Int) := by rw [Int.tdiv_eq_ediv_of_nonneg (by omega)]; omega
  unfold fillV at hR
  by_cases hev : q.length % 2 = 0
  rotate_left
  · have e1 : ¬ ((q.length % 2 : Nat) : Int) = 0 := by omega
    simp (disch := first | omega | ((simp only [Ab.next_alloc, Ab.next_upd, List.length_cons, List.length_nil, ne_eq, not_true_eq_false, not_false_eq_true]) <;> omega) | decide) only [↓stepPre, stepPost, ↓W_cond, ↓W_block, ↓reduceIte, Nat.reduceEqDiff, Nat.reduceLT, Nat.reduceLeDiff, ret0, stVar, isTup, Value.cells, Nat.le_refl, Nat.reduceAdd, Nat.reduceMul, Nat.reduceSub, env0, binV, intV, reduceCtorEq, pickV, nilCheckV, ptrV, unV, true_and, and_true, Nat.add_zero, Nat.zero_add, Rt, resultsV, allV, resV, Bool.not_true, Bool.not_false, calleeV, builtinV, eqV, fieldAddrV, ldVar, stN_own, stN_ownL, Int.fdiv_eq_ediv_of_nonneg, Int.reduceToNat, Int.reducePow, IntKind.bits, convV, ne_eq, not_false_eq_true, not_true_eq_false, Int.reduceNeg, Int.reduceAdd, Int.reduceSub, Int.reduceLT, Int.reduceLE, extractV, decide_true, decide_false, Int.reduceEq, mkFuncV, stBFrReadR, beq_self_eq_true, Ty.t24, Tryd.underlying24, Ty.t27, Tryd.underlying27, Ty.t25, Tryd.underlying25, Ty.t9, Tryd.underlying9, Ty.t5, Tryd.underlying5, Ty.t22, Tryd.underlying22, Ty.t60, Tryd.underlying60, Ty.t3, Tryd.underlying3, Ty.t4, Tryd.underlying4, Ty.t31, Tryd.underlying31, getL_take, glBFrReadR, h0, h2, h4, hlen, hs2, hix, c63', t2, e1, hr3, buildV, fillL, Tryd.results10]
    rw [if_neg (fun h => hev h.1)] at hR
    refine hR _ ?_
    (repeat first | exact Mild.refl _ | assumption | apply Mild.alloc' | (refine Mild.upd' ?_ (by omega)) | (refine Mild.upd' ?_ (by simp only [Ab.next_alloc, Ab.next_upd] at *; omega)))
  have e1 : ((q.length % 2 : Nat) : Int) = 0 := by omega
  by_cases h16 : 16 < q.length
  · have e2 : (q.length : Int) > 16 := by omega
    have e2' : 16 < (q.length : Int) := by omega
    simp (disch := first | omega | ((simp only [Ab.next_alloc, Ab.next_upd, List.length_cons, List.length_nil, ne_eq, not_true_eq_false, not_false_eq_true]) <;> omega) | decide) only [↓stepPre, stepPost, ↓W_cond, ↓W_block, ↓reduceIte, Nat.reduceEqDiff, Nat.reduceLT, Nat.reduceLeDiff, ret0, stVar, isTup, Value.cells, Nat.le_refl, Nat.reduceAdd, Nat.reduceMul, Nat.reduceSub, env0, binV, intV, reduceCtorEq, pickV, nilCheckV, ptrV, unV, true_and, and_true, Nat.add_zero, Nat.zero_add, Rt, resultsV, allV, resV, Bool.not_true, Bool.not_false, calleeV, builtinV, eqV, fieldAddrV, ldVar, stN_own, stN_ownL, Int.fdiv_eq_ediv_of_nonneg, Int.reduceToNat, Int.reducePow, IntKind.bits, convV, ne_eq, not_false_eq_true, not_true_eq_false, Int.reduceNeg, Int.reduceAdd, Int.reduceSub, Int.reduceLT, Int.reduceLE, extractV, decide_true, decide_false, Int.reduceEq, mkFuncV, stBFrReadR, beq_self_eq_true, Ty.t24, Tryd.underlying24, Ty.t27, Tryd.underlying27, Ty.t25, Tryd.underlying25, Ty.t9, Tryd.underlying9, Ty.t5, Tryd.underlying5, Ty.t22, Tryd.underlying22, Ty.t60, Tryd.underlying60, Ty.t3, Tryd.underlying3, Ty.t4, Tryd.underlying4, Ty.t31, Tryd.underlying31, getL_take, glBFrReadR, h0, h2, h4, hlen, hs2, hix, c63', t2, e1, e2, e2', hr3, buildV, fillL, Tryd.results10]
    rw [if_neg (fun h => by omega)] at hR
    refine hR _ ?_
    (repeat first | exact Mild.refl _ | assumption | apply Mild.alloc' | (refine Mild.upd' ?_ (by omega)) | (refine Mild.upd' ?_ (by simp only [Ab.next_alloc, Ab.next_upd] at *; omega)))
  have e2 : ¬ (q.length : Int) > 16 := by omega
  have e2' : ¬ 16 < (q.length : Int) := by omega
  have hr4 : ∀ (c : List Value), ((s3.alloc (.row [.bool ee, .int .u32 (nn : Int)])).alloc (.row c)).heap s.next = .row z12 := fun c => by rw [Ab.heap_alloc_ne _ _ (by simp only [Ab.next_alloc]; omega), Ab.heap_alloc_ne _ _ (by omega)]; exact hr3
  simp (disch := first | omega | ((simp only [Ab.next_alloc, Ab.next_upd, List.length_cons, List.length_nil, ne_eq, not_true_eq_false, not_false_eq_true]) <;> omega) | decide) only [↓stepPre, stepPost, ↓W_cond, ↓W_block, ↓reduceIte, Nat.reduceEqDiff, Nat.reduceLT, Nat.reduceLeDiff, ret0, stVar, isTup, Value.cells, Nat.le_refl, Nat.reduceAdd, Nat.reduceMul, Nat.reduceSub, env0, binV, intV, reduceCtorEq, pickV, nilCheckV, ptrV, unV, true_and, and_true, Nat.add_zero, Nat.zero_add, Rt, resultsV, allV, resV, Bool.not_true, Bool.not_false, calleeV, builtinV, eqV, fieldAddrV, ldVar, stN_own, stN_ownL, Int.fdiv_eq_ediv_of_nonneg, Int.reduceToNat, Int.reducePow, IntKind.bits, convV, ne_eq, not_false_eq_true, not_true_eq_false, Int.reduceNeg, Int.reduceAdd, Int.reduceSub, Int.reduceLT, Int.reduceLE, extractV, decide_true, decide_false, Int.reduceEq, mkFuncV, stBFrReadR, beq_self_eq_true, Ty.t24, Tryd.underlying24, Ty.t27, Tryd.underlying27, Ty.t25, Tryd.underlying25, Ty.t9, Tryd.underlying9, Ty.t5, Tryd.underlying5, Ty.t22, Tryd.underlying22, Ty.t60, Tryd.underlying60, Ty.t3, Tryd.underlying3, Ty.t4, Tryd.underlying4, Ty.t31, Tryd.underlying31, getL_take, glBFrReadR, h0, h2, h4, hlen, hs2, hix, c63', t2, q2, e1, e2, e2', hr3, buildV, fillL]
  refine W_loop_inv (q.length / 2) (fun i e1 s4 => e1 2 = .pointer (some ⟨s.next, 0, none⟩) ∧ e1 7 = .string (strB q) ∧ e1 8 = .pointer (some ⟨s3.next + 1, 0, none⟩) ∧ e1 9 = .int .i64 (i : Int) ∧ Mild s s4 ∧ s3.next + 2 ≤ s4.next ∧ s4.heap s.next = .row z12 ∧ s4.heap (s3.next + 1) = .row (frC ee nn false ((q.length / 2 : Nat) : Int) (datT q (2 * i))) ∧ hexOk (q.take (2 * i)) = true)
    (fun x e1 s4 => (x = .exit 2 ∧ e1 2 = .pointer (some ⟨s.next, 0, none⟩) ∧ e1 8 = .pointer (some ⟨s3.next + 1, 0, none⟩) ∧ Mild s s4 ∧ s4.heap s.next = .row z12 ∧ s4.heap (s3.next + 1) = .row (frC ee nn false ((q.length / 2 : Nat) : Int) (datT q q.length)) ∧ hexOk q = true) ∨ (x = .ret ∧ e1 2 = .pointer (some ⟨s.next, 0, none⟩) ∧ e1 3 = .bool false ∧ Mild s s4 ∧ s4.heap s.next = .row z12 ∧ hexOk q = false)) ?_ ?_ ?_
  rotate_left
  · refine ⟨h2, rfl, rfl, rfl, ?_, by simp only [Ab.next_upd, Ab.next_alloc]; omega, ?_, ?_, rfl⟩
    · (repeat first | exact Mild.refl _ | assumption | apply Mild.alloc' | (refine Mild.upd' ?_ (by omega)) | (refine Mild.upd' ?_ (by simp only [Ab.next_alloc, Ab.next_upd] at *; omega)))
    · exact hr4 _
    · rw [Nat.mul_zero, datT_zero]; exact Ab.heap_alloc_new (s3.alloc _) _
  rotate_left
  · clear h2 h0 h4
    rintro i e1 s4 hi ⟨f2, f7, f8, f9, M4, n4, z4, w4, hok⟩
    by_cases him : i < q.length / 2
    rotate_left
    · have hie : 2 * i = q.length := by omega
      have g1 : ¬ (i : Int) < ((q.length / 2 : Nat) : Int) := by omega
      rw [hie] at w4 hok
      rw [List.take_length] at hok
      simp (disch := first | omega | ((simp only [Ab.next_alloc, Ab.next_upd, List.length_cons, List.length_nil, ne_eq, not_true_eq_false, not_false_eq_true]) <;> omega) | decide) only [↓stepPre, stepPost, ↓W_cond, ↓W_block, ↓reduceIte, Nat.reduceEqDiff, Nat.reduceLT, Nat.reduceLeDiff, ret0, stVar, isTup, Value.cells, Nat.le_refl, Nat.reduceAdd, Nat.reduceMul, Nat.reduceSub, env0, binV, intV, reduceCtorEq, pickV, nilCheckV, ptrV, unV, true_and, and_true, Nat.add_zero, Nat.zero_add, Rt, resultsV, allV, resV, Bool.not_true, Bool.not_false, calleeV, builtinV, eqV, fieldAddrV, ldVar, stN_own, stN_ownL, Int.fdiv_eq_ediv_of_nonneg, Int.reduceToNat, Int.reducePow, IntKind.bits, convV, ne_eq, not_false_eq_true, not_true_eq_false, Int.reduceNeg, Int.reduceAdd, Int.reduceSub, Int.reduceLT, Int.reduceLE, extractV, decide_true, decide_false, Int.reduceEq, mkFuncV, stBFrReadR, beq_self_eq_true, Ty.t24, Tryd.underlying24, Ty.t27, Tryd.underlying27, Ty.t25, Tryd.underlying25, Ty.t9, Tryd.underlying9, Ty.t5, Tryd.underlying5, Ty.t22, Tryd.underlying22, Ty.t60, Tryd.underlying60, Ty.t3, Tryd.underlying3, Ty.t4, Tryd.underlying4, Ty.t31, Tryd.underlying31, getL_take, glBFrReadR, f2, f7, f8, f9, z4, w4, g1]
      exact .inl ⟨M4, hok⟩
    have g1 : (i : Int) < ((q.length / 2 : Nat) : Int) := by omega
    have i1 := idxStr (P := Tryd.prog) (t := 9) (l := q) (k := .i64) (i := 2 * (i : Int)) Ty.str9 (by omega) (by omega)
    have i2 := idxStr (P := Tryd.prog) (t := 9) (l := q) (k := .i64) (i := 2 * (i : Int) + 1) Ty.str9 (by omega) (by omega)
    rw [show (2 * (i : Int)).toNat = 2 * i by omega] at i1
    rw [show (2 * (i : Int) + 1).toNat = 2 * i + 1 by omega] at i2
    have ha := hexOk_take2 (l := q) (i := i) (by omega)
    rw [hok, Bool.true_and] at ha
    have hset := datT_two (l := q) (i := i) (by omega)
    have hput := frC_put (e := ee) (n := (nn : Int)) (r := false) (l := ((q.length / 2 : Nat) : Int)) (ds := datT q (2 * i)) (i := i) (y := 16 * dig q (2 * i) + dig q (2 * i + 1)) (datT_len _ _) (by omega)
    rw [hset] at hput
    have hno : ¬ (0 ≤ digI (q.getD (2 * i) 0).toNat ∧ 0 ≤ digI (q.getD (2 * i + 1) 0).toNat) → hexOk q = false := fun h => Bool.eq_false_iff.2 fun hh => h ⟨hexOk_at hh (by omega), hexOk_at hh (by omega)⟩
    have ed1 : dig q (2 * i) = (digI (q.getD (2 * i) 0).toNat).toNat := rfl
    have ed2 : dig q (2 * i + 1) = (digI (q.getD (2 * i + 1) 0).toNat).toNat := rfl
    rw [ed1, ed2] at hput
    have b1 := digI_in (q.getD (2 * i) 0).toNat
    have b2 := digI_in (q.getD (2 * i + 1) 0).toNat
    have hidx := idxArr (P := Tryd.prog) (b := s3.next + 1) (o := 4) (kk := .i64) (i := (i : Int)) Ty.arr25 Ty.siz5 (by omega) (by omega)
    rw [Int.toNat_natCast] at hidx
    simp (disch := first | omega | ((simp only [Ab.next_alloc, Ab.next_upd, List.length_cons, List.length_nil, ne_eq, not_true_eq_false, not_false_eq_true]) <;> omega) | decide) only [↓stepPre, stepPost, ↓W_cond, ↓W_block, ↓reduceIte, Nat.reduceEqDiff, Nat.reduceLT, Nat.reduceLeDiff, ret0, stVar, isTup, Value.cells, Nat.le_refl, Nat.reduceAdd, Nat.reduceMul, Nat.reduceSub, env0, binV, intV, reduceCtorEq, pickV, nilCheckV, ptrV, unV, true_and, and_true, Nat.add_zero, Nat.zero_add, Rt, resultsV, allV, resV, Bool.not_true, Bool.not_false, calleeV, builtinV, eqV, fieldAddrV, ldVar, stN_own, stN_ownL, Int.fdiv_eq_ediv_of_nonneg, Int.reduceToNat, Int.reducePow, IntKind.bits, convV, ne_eq, not_false_eq_true, not_true_eq_false, Int.reduceNeg, Int.reduceAdd, Int.reduceSub, Int.reduceLT, Int.reduceLE, extractV, decide_true, decide_false, Int.reduceEq, mkFuncV, stBFrReadR, beq_self_eq_true, Ty.t24, Tryd.underlying24, Ty.t27, Tryd.underlying27, Ty.t25, Tryd.underlying25, Ty.t9, Tryd.underlying9, Ty.t5, Tryd.underlying5, Ty.t22, Tryd.underlying22, Ty.t60, Tryd.underlying60, Ty.t3, Tryd.underlying3, Ty.t4, Tryd.underlying4, Ty.t31, Tryd.underlying31, getL_take, glBFrReadR, f2, f7, f8, f9, z4, w4, g1]
    refine W_draw (fun _ => false) (fun _ => false) (fun _ => false) (by kernel_rfl) (by kernel_rfl) ?_
    simp (disch := first | omega | ((simp only [Ab.next_alloc, Ab.next_upd, List.length_cons, List.length_nil, ne_eq, not_true_eq_false, not_false_eq_true]) <;> omega) | decide) only [↓stepPre, stepPost, ↓W_cond, ↓W_block, ↓reduceIte, Nat.reduceEqDiff, Nat.reduceLT, Nat.reduceLeDiff, ret0, stVar, isTup, Value.cells, Nat.le_refl, Nat.reduceAdd, Nat.reduceMul, Nat.reduceSub, env0, binV, intV, reduceCtorEq, pickV, nilCheckV, ptrV, unV, true_and, and_true, Nat.add_zero, Nat.zero_add, Rt, resultsV, allV, resV, Bool.not_true, Bool.not_false, calleeV, builtinV, eqV, fieldAddrV, ldVar, stN_own, stN_ownL, Int.fdiv_eq_ediv_of_nonneg, Int.reduceToNat, Int.reducePow, IntKind.bits, convV, ne_eq, not_false_eq_true, not_true_eq_false, Int.reduceNeg, Int.reduceAdd, Int.reduceSub, Int.reduceLT, Int.reduceLE, extractV, decide_true, decide_false, Int.reduceEq, mkFuncV, stBFrReadR, beq_self_eq_true, Ty.t24, Tryd.underlying24, Ty.t27, Tryd.underlying27, Ty.t25, Tryd.underlying25, Ty.t9, Tryd.underlying9, Ty.t5, Tryd.underlying5, Ty.t22, Tryd.underlying22, Ty.t60, Tryd.underlying60, Ty.t3, Tryd.underlying3, Ty.t4, Tryd.underlying4, Ty.t31, Tryd.underlying31, getL_take, glBFrReadR, f2, f7, f8, f9, i1, i2]
    refine rdigit6_p (q.getD (2 * i) 0).toNat_lt ?_
    simp (disch := first | omega | ((simp only [Ab.next_alloc, Ab.next_upd, List.length_cons, List.length_nil, ne_eq, not_true_eq_false, not_false_eq_true]) <;> omega) | decide) only [↓stepPre, stepPost, ↓W_cond, ↓W_block, ↓reduceIte, Nat.reduceEqDiff, Nat.reduceLT, Nat.reduceLeDiff, ret0, stVar, isTup, Value.cells, Nat.le_refl, Nat.reduceAdd, Nat.reduceMul, Nat.reduceSub, env0, binV, intV, reduceCtorEq, pickV, nilCheckV, ptrV, unV, true_and, and_true, Nat.add_zero, Nat.zero_add, Rt, resultsV, allV, resV, Bool.not_true, Bool.not_false, calleeV, builtinV, eqV, fieldAddrV, ldVar, stN_own, stN_ownL, Int.fdiv_eq_ediv_of_nonneg, Int.reduceToNat, Int.reducePow, IntKind.bits, convV, ne_eq, not_false_eq_true, not_true_eq_false, Int.reduceNeg, Int.reduceAdd, Int.reduceSub, Int.reduceLT, Int.reduceLE, extractV, decide_true, decide_false, Int.reduceEq, mkFuncV, stBFrReadR, beq_self_eq_true, Ty.t24, Tryd.underlying24, Ty.t27, Tryd.underlying27, Ty.t25, Tryd.underlying25, Ty.t9, Tryd.underlying9, Ty.t5, Tryd.underlying5, Ty.t22, Tryd.underlying22, Ty.t60, Tryd.underlying60, Ty.t3, Tryd.underlying3, Ty.t4, Tryd.underlying4, Ty.t31, Tryd.underlying31, getL_take, glBFrReadR, f2, f7, f8, f9, i1, i2, Dok_same]
    refine rdigit6_p (q.getD (2 * i + 1) 0).toNat_lt ?_
    generalize digI (q.getD (2 * i) 0).toNat = a at *
    generalize digI (q.getD (2 * i + 1) 0).toNat = b at *
    by_cases ca : a < 0
    · simp (disch := first | omega | ((simp only [Ab.next_alloc, Ab.next_upd, List.length_cons, List.length_nil, ne_eq, not_true_eq_false, not_false_eq_true]) <;> omega) | decide) only [↓stepPre, stepPost, ↓W_cond, ↓W_block, ↓reduceIte, Nat.reduceEqDiff, Nat.reduceLT, Nat.reduceLeDiff, ret0, stVar, isTup, Value.cells, Nat.le_refl, Nat.reduceAdd, Nat.reduceMul, Nat.reduceSub, env0, binV, intV, reduceCtorEq, pickV, nilCheckV, ptrV, unV, true_and, and_true, Nat.add_zero, Nat.zero_add, Rt, resultsV, allV, resV, Bool.not_true, Bool.not_false, calleeV, builtinV, eqV, fieldAddrV, ldVar, stN_own, stN_ownL, Int.fdiv_eq_ediv_of_nonneg, Int.reduceToNat, Int.reducePow, IntKind.bits, convV, ne_eq, not_false_eq_true, not_true_eq_false, Int.reduceNeg, Int.reduceAdd, Int.reduceSub, Int.reduceLT, Int.reduceLE, extractV, decide_true, decide_false, Int.reduceEq, mkFuncV, stBFrReadR, beq_self_eq_true, Ty.t24, Tryd.underlying24, Ty.t27, Tryd.underlying27, Ty.t25, Tryd.underlying25, Ty.t9, Tryd.underlying9, Ty.t5, Tryd.underlying5, Ty.t22, Tryd.underlying22, Ty.t60, Tryd.underlying60, Ty.t3, Tryd.underlying3, Ty.t4, Tryd.underlying4, Ty.t31, Tryd.underlying31, getL_take, glBFrReadR, f2, f7, f8, f9, Dok_same, ca, z4, buildV, fillL]
      refine .inr ⟨?_, hno (by omega)⟩
      (repeat first | exact Mild.refl _ | assumption | apply Mild.alloc' | (refine Mild.upd' ?_ (by omega)) | (refine Mild.upd' ?_ (by simp only [Ab.next_alloc, Ab.next_upd] at *; omega)))
    by_cases cb : b < 0
    · simp (disch := first | omega | ((simp only [Ab.next_alloc, Ab.next_upd, List.length_cons, List.length_nil, ne_eq, not_true_eq_false, not_false_eq_true]) <;> omega) | decide) only [↓stepPre, stepPost, ↓W_cond, ↓W_block, ↓reduceIte, Nat.reduceEqDiff, Nat.reduceLT, Nat.reduceLeDiff, ret0, stVar, isTup, Value.cells, Nat.le_refl, Nat.reduceAdd, Nat.reduceMul, Nat.reduceSub, env0, binV, intV, reduceCtorEq, pickV, nilCheckV, ptrV, unV, true_and, and_true, Nat.add_zero, Nat.zero_add, Rt, resultsV, allV, resV, Bool.not_true, Bool.not_false, calleeV, builtinV, eqV, fieldAddrV, ldVar, stN_own, stN_ownL, Int.fdiv_eq_ediv_of_nonneg, Int.reduceToNat, Int.reducePow, IntKind.bits, convV, ne_eq, not_false_eq_true, not_true_eq_false, Int.reduceNeg, Int.reduceAdd, Int.reduceSub, Int.reduceLT, Int.reduceLE, extractV, decide_true, decide_false, Int.reduceEq, mkFuncV, stBFrReadR, beq_self_eq_true, Ty.t24, Tryd.underlying24, Ty.t27, Tryd.underlying27, Ty.t25, Tryd.underlying25, Ty.t9, Tryd.underlying9, Ty.t5, Tryd.underlying5, Ty.t22, Tryd.underlying22, Ty.t60, Tryd.underlying60, Ty.t3, Tryd.underlying3, Ty.t4, Tryd.underlying4, Ty.t31, Tryd.underlying31, getL_take, glBFrReadR, f2, f7, f8, f9, Dok_same, ca, cb, z4, buildV, fillL]
      refine .inr ⟨?_, hno (by omega)⟩
      (repeat first | exact Mild.refl _ | assumption | apply Mild.alloc' | (refine Mild.upd' ?_ (by omega)) | (refine Mild.upd' ?_ (by simp only [Ab.next_alloc, Ab.next_upd] at *; omega)))
    have w1 : IntKind.u8.wrap (16 * a + b) = ((16 * a.toNat + b.toNat : Nat) : Int) := by rw [IntWalk.u8_in _ (by omega)]; omega
    simp (disch := first | omega | ((simp only [Ab.next_alloc, Ab.next_upd, List.length_cons, List.length_nil, ne_eq, not_true_eq_false, not_false_eq_true]) <;> omega) | decide) only [↓stepPre, stepPost, ↓W_cond, ↓W_block, ↓reduceIte, Nat.reduceEqDiff, Nat.reduceLT, Nat.reduceLeDiff, ret0, stVar, isTup, Value.cells, Nat.le_refl, Nat.reduceAdd, Nat.reduceMul, Nat.reduceSub, env0, binV, intV, reduceCtorEq, pickV, nilCheckV, ptrV, unV, true_and, and_true, Nat.add_zero, Nat.zero_add, Rt, resultsV, allV, resV, Bool.not_true, Bool.not_false, calleeV, builtinV, eqV, fieldAddrV, ldVar, stN_own, stN_ownL, Int.fdiv_eq_ediv_of_nonneg, Int.reduceToNat, Int.reducePow, IntKind.bits, convV, ne_eq, not_false_eq_true, not_true_eq_false, Int.reduceNeg, Int.reduceAdd, Int.reduceSub, Int.reduceLT, Int.reduceLE, extractV, decide_true, decide_false, Int.reduceEq, mkFuncV, stBFrReadR, beq_self_eq_true, Ty.t24, Tryd.underlying24, Ty.t27, Tryd.underlying27, Ty.t25, Tryd.underlying25, Ty.t9, Tryd.underlying9, Ty.t5, Tryd.underlying5, Ty.t22, Tryd.underlying22, Ty.t60, Tryd.underlying60, Ty.t3, Tryd.underlying3, Ty.t4, Tryd.underlying4, Ty.t31, Tryd.underlying31, getL_take, glBFrReadR, f2, f7, f8, f9, Dok_same, ca, cb, w1, hidx, w4, hput]
    refine ⟨him, by simp, ?_, n4, z4, by rw [ha, decide_eq_true (show 0 ≤ a by omega), decide_eq_true (show 0 ≤ b by omega)]; rfl⟩
    (repeat first | exact Mild.refl _ | assumption | apply Mild.alloc' | (refine Mild.upd' ?_ (by omega)) | (refine Mild.upd' ?_ (by simp only [Ab.next_alloc, Ab.next_upd] at *; omega)))
  · rintro x e1 s4 (⟨rfl, f2, f8, M4, z4, w4, hok⟩ | ⟨rfl, f2, f3, M4, z4, hbd⟩)
    · rw [if_pos ⟨hev, by omega, hok⟩] at hR
      have hgl := getL_fr (a := .bool ee) (b := .int .u32 (nn : Int)) (c := .bool false) (d := .int .i64 ((q.length / 2 : Nat) : Int)) (datT_len q q.length)
      have hpu := putAt_12 (a0 := .bool false) (a1 := .int .u32 0) (a2 := .bool false) (a3 := .int .i64 0) (a4 := .int .u8 0) (a5 := .int .u8 0) (a6 := .int .u8 0) (a7 := .int .u8 0) (a8 := .int .u8 0) (a9 := .int .u8 0) (a10 := .int .u8 0) (a11 := .int .u8 0) (b0 := .bool ee) (b1 := .int .u32 (nn : Int)) (b2 := .bool false) (b3 := .int .i64 ((q.length / 2 : Nat) : Int)) (datT_len q q.length)
      simp (disch := first | omega | ((simp only [Ab.next_alloc, Ab.next_upd, List.length_cons, List.length_nil, ne_eq, not_true_eq_false, not_false_eq_true]) <;> omega) | decide) only [↓stepPre, stepPost, ↓W_cond, ↓W_block, ↓reduceIte, Nat.reduceEqDiff, Nat.reduceLT, Nat.reduceLeDiff, ret0, stVar, isTup, Value.cells, Nat.le_refl, Nat.reduceAdd, Nat.reduceMul, Nat.reduceSub, env0, binV, intV, reduceCtorEq, pickV, nilCheckV, ptrV, unV, true_and, and_true, Nat.add_zero, Nat.zero_add, Rt, resultsV, allV, resV, Bool.not_true, Bool.not_false, calleeV, builtinV, eqV, fieldAddrV, ldVar, stN_own, stN_ownL, Int.fdiv_eq_ediv_of_nonneg, Int.reduceToNat, Int.reducePow, IntKind.bits, convV, ne_eq, not_false_eq_true, not_true_eq_false, Int.reduceNeg, Int.reduceAdd, Int.reduceSub, Int.reduceLT, Int.reduceLE, extractV, decide_true, decide_false, Int.reduceEq, mkFuncV, stBFrReadR, beq_self_eq_true, Ty.t24, Tryd.underlying24, Ty.t27, Tryd.underlying27, Ty.t25, Tryd.underlying25, Ty.t9, Tryd.underlying9, Ty.t5, Tryd.underlying5, Ty.t22, Tryd.underlying22, Ty.t60, Tryd.underlying60, Ty.t3, Tryd.underlying3, Ty.t4, Tryd.underlying4, Ty.t31, Tryd.underlying31, getL_take, glBFrReadR, f2, f8, z4, w4, hgl, hpu, bC_len, datT_len, eq_self, Tryd.results10]
      refine hR _ ?_
      (repeat first | exact Mild.refl _ | assumption | apply Mild.alloc' | (refine Mild.upd' ?_ (by omega)) | (refine Mild.upd' ?_ (by simp only [Ab.next_alloc, Ab.next_upd] at *; omega)))
    · rw [if_neg (fun h => by rw [hbd] at h; exact absurd h.2.2 (by simp))] at hR
      simp (disch := first | omega | ((simp only [Ab.next_alloc, Ab.next_upd, List.length_cons, List.length_nil, ne_eq, not_true_eq_false, not_false_eq_true]) <;> omega) | decide) only [↓stepPre, stepPost, ↓W_cond, ↓W_block, ↓reduceIte, Nat.reduceEqDiff, Nat.reduceLT, Nat.reduceLeDiff, ret0, stVar, isTup, Value.cells, Nat.le_refl, Nat.reduceAdd, Nat.reduceMul, Nat.reduceSub, env0, binV, intV, reduceCtorEq, pickV, nilCheckV, ptrV, unV, true_and, and_true, Nat.add_zero, Nat.zero_add, Rt, resultsV, allV, resV, Bool.not_true, Bool.not_false, calleeV, builtinV, eqV, fieldAddrV, ldVar, stN_own, stN_ownL, Int.fdiv_eq_ediv_of_nonneg, Int.reduceToNat, Int.reducePow, IntKind.bits, convV, ne_eq, not_false_eq_true, not_true_eq_false, Int.reduceNeg, Int.reduceAdd, Int.reduceSub, Int.reduceLT, Int.reduceLE, extractV, decide_true, decide_false, Int.reduceEq, mkFuncV, stBFrReadR, beq_self_eq_true, Ty.t24, Tryd.underlying24, Ty.t27, Tryd.underlying27, Ty.t25, Tryd.underlying25, Ty.t9, Tryd.underlying9, Ty.t5, Tryd.underlying5, Ty.t22, Tryd.underlying22, Ty.t60, Tryd.underlying60, Ty.t3, Tryd.underlying3, Ty.t4, Tryd.underlying4, Ty.t31, Tryd.underlying31, getL_take, glBFrReadR, f2, f3, z4, Tryd.results10]
      refine hR _ ?_
      (repeat first | exact Mild.refl _ | assumption | apply Mild.alloc' | (refine Mild.upd' ?_ (by omega)) | (refine Mild.upd' ?_ (by simp only [Ab.next_alloc, Ab.next_upd] at *; omega)))
end Go.Proofs.YtdhmjnpaoacpfaaDoor
