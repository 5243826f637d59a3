/- Frames as texts, as contracts. -/
import Derived.Test.YtdhmjnpaoacpfaaDoorTypes
import Derived.Test.YtdhmjnpaoacpfaaDoorRow0
import Derived.Test.YtdhmjnpaoacpfaaDoorAbC
import Derived.Test.YtdhmjnpaoacpfaaDoorBits
import Derived.Test.YtdhmjnpaoacpfaaDoorOwnOf
import Derived.Test.YtdhmjnpaoacpfaaDoorPure
import Derived.Test.YtdhmjnpaoacpfaaDoorRight
import Derived.Test.YtdhmjnpaoacpfaaDoorBoxes
import Derived.Test.YtdhmjnpaoacpfaaDoorStr
import Derived.Test.YtdhmjnpaoacpfaaDoorHex
import Derived.Test.YtdhmjnpaoacpfaaDoorIdText
import Derived.Test.YtdhmjnpaoacpfaaDoorIdPrint
import Derived.Test.YtdhmjnpaoacpfaaDoorIdPrintR
set_option linter.all false
set_option maxRecDepth 20000
namespace Go.Proofs.YtdhmjnpaoacpfaaDoor
open Go Go.Ab
def stBFrText := And.intro @List.size_toArray.{0} (And.intro @List.length_cons.{0} (And.intro @List.length_nil.{0} (And.intro @List.set_cons_zero.{0} (And.intro @List.set_cons_succ.{0} (And.intro @List.getD_cons_zero.{0} (And.intro @List.getD_cons_succ.{0} (And.intro @List.getElem?_cons_succ.{0} (And.intro @List.getElem?_cons_zero.{0} (And.intro @List.map_cons.{0,0} (And.intro @List.map_nil.{0,0} (And.intro @Option.isNone_none.{0} (And.intro @Option.isNone_some.{0} (And.intro @Option.map_some.{0,0} (And.intro @Option.map_none.{0,0} (And.intro @List.cons_append.{0} (And.intro @List.nil_append.{0} (And.intro @List.append_nil.{0} (And.intro @Array.toList_append.{0} (And.intro @List.toList_toArray.{0} (And.intro @Int.cast_ofNat_Int (And.intro @Option.isSome_some.{0} (And.intro @List.getElem?_toArray.{0} (And.intro @List.map_toArray.{0,0} (@Nat.min_eq_left))))))))))))))))))))))))
def glBFrText := And.intro @List.drop_zero.{0} (And.intro @List.drop_succ_cons.{0} (And.intro @List.take_succ_cons.{0} (And.intro @List.take_zero.{0} (@List.take_nil.{0}))))
variable {base : Nat} [Bok base] {s : St} {R : Value → St → Prop}
def byT (ds : List Nat) : List UInt8 := ds.flatMap fun x => [hexAt (x / 16 % 16), hexAt (x % 16)]
theorem byT_snoc (ds : List Nat) (x : Nat) : byT (ds ++ [x]) = byT ds ++ [hexAt (x / 16 % 16), hexAt (x % 16)] := by simp [byT]
theorem byT_len (ds : List Nat) : (byT ds).length = 2 * ds.length := by
  induction ds with
  | nil => rfl
  | cons x ds ih => simp only [byT, List.flatMap_cons, List.length_append, List.length_cons, List.length_nil] at *; omega
def frT (e : Bool) (n : Nat) (r : Bool) (l : Int) (ds : List Nat) : List UInt8 :=
  if rightF e n r l ds = 0 then (if r then idT e n ++ [63] ++ [hexAt l.toNat] else idT e n ++ [35] ++ byT (ds.take l.toNat)) else []
theorem idT_len (e : Bool) (n : Nat) : (idT e n).length ≤ 8 := by unfold idT; split <;> simp [hexL_len]; split <;> omega
theorem and8_15 {x : Nat} (h : x < 256) : andI .u8 (x : Int) 15 = ((x % 16 : Nat) : Int) := by
  have : ∀ i : Fin 256, andI .u8 (i.val : Int) 15 = ((i.val % 16 : Nat) : Int) := by decide
  exact this ⟨x, h⟩
theorem ftext_ok {e : Bool} {n : Nat} {r : Bool} {l : Int} {ds : List Nat} (hd : ds.length = 8) (hn : n < 2 ^ 32) (hy : ∀ y ∈ ds, y < 256) (hbn : base ≤ s.next) (hR : ∀ s', Mild s s' → R (.string (strB (frT e n r l ds))) s') : WC Tryd.prog base 16 [frV e n r l ds] s R := by
  refine WC_open Tryd.func16 rfl ?_
  have hm0 := Mild.alloc s (.row (frC e n r l ds))
  have hg12 := fun (a b c d : Value) => getL_fr (a := a) (b := b) (c := c) (d := d) hd
  simp (disch := first | omega | ((simp only [Ab.next_alloc, Ab.next_upd, List.length_cons, List.length_nil, ne_eq, not_true_eq_false, not_false_eq_true]) <;> omega) | decide) only [↓stepPre, stepPost, ↓W_cond, ↓W_block, ↓reduceIte, Nat.reduceEqDiff, Nat.reduceLT, Nat.reduceLeDiff, ret0, stVar, isTup, Value.cells, Nat.le_refl, Nat.reduceAdd, Nat.reduceMul, Nat.reduceSub, env0, binV, intV, reduceCtorEq, pickV, nilCheckV, ptrV, unV, true_and, and_true, Nat.add_zero, Nat.zero_add, Rt, resultsV, allV, resV, Bool.not_true, Bool.not_false, calleeV, builtinV, eqV, fieldAddrV, ldVar, stN_own, stN_ownL, Int.fdiv_eq_ediv_of_nonneg, Int.reduceToNat, Int.reducePow, IntKind.bits, convV, ne_eq, not_false_eq_true, not_true_eq_false, Int.reduceNeg, Int.reduceAdd, Int.reduceSub, Int.reduceLT, Int.reduceLE, extractV, decide_true, decide_false, Int.reduceEq, mkFuncV, stBFrText, beq_self_eq_true, Ty.t24, Tryd.underlying24, Ty.t27, Tryd.underlying27, Ty.t25, Tryd.underlying25, Ty.t34, Tryd.underlying34, Ty.t9, Tryd.underlying9, Ty.t5, Tryd.underlying5, Ty.t22, Tryd.underlying22, Ty.t60, Tryd.underlying60, Ty.t3, Tryd.underlying3, Ty.t4, Tryd.underlying4, Ty.t31, Tryd.underlying31, getL_take, glBFrText, hg12]
  refine frameRight_p hd ?_
  by_cases hr : rightF e n r l ds = 0
  rotate_left
  · have key := hR _ hm0
    simp only [frT, hr, if_false] at key
    simp (disch := first | omega | ((simp only [Ab.next_alloc, Ab.next_upd, List.length_cons, List.length_nil, ne_eq, not_true_eq_false, not_false_eq_true]) <;> omega) | decide) only [↓stepPre, stepPost, ↓W_cond, ↓W_block, ↓reduceIte, Nat.reduceEqDiff, Nat.reduceLT, Nat.reduceLeDiff, ret0, stVar, isTup, Value.cells, Nat.le_refl, Nat.reduceAdd, Nat.reduceMul, Nat.reduceSub, env0, binV, intV, reduceCtorEq, pickV, nilCheckV, ptrV, unV, true_and, and_true, Nat.add_zero, Nat.zero_add, Rt, resultsV, allV, resV, Bool.not_true, Bool.not_false, calleeV, builtinV, eqV, fieldAddrV, ldVar, stN_own, stN_ownL, Int.fdiv_eq_ediv_of_nonneg, Int.reduceToNat, Int.reducePow, IntKind.bits, convV, ne_eq, not_false_eq_true, not_true_eq_false, Int.reduceNeg, Int.reduceAdd, Int.reduceSub, Int.reduceLT, Int.reduceLE, extractV, decide_true, decide_false, Int.reduceEq, mkFuncV, stBFrText, beq_self_eq_true, Ty.t24, Tryd.underlying24, Ty.t27, Tryd.underlying27, Ty.t25, Tryd.underlying25, Ty.t34, Tryd.underlying34, Ty.t9, Tryd.underlying9, Ty.t5, Tryd.underlying5, Ty.t22, Tryd.underlying22, Ty.t60, Tryd.underlying60, Ty.t3, Tryd.underlying3, Ty.t4, Tryd.underlying4, Ty.t31, Tryd.underlying31, getL_take, glBFrText, hg12, hr, Tryd.results16]
    exact key
  have hid := right_id hr
  obtain ⟨m, rfl, hm8⟩ : ∃ m : Nat, l = m ∧ m ≤ 8 := by
    by_cases h : l < 0 ∨ 8 < l
    · simp only [rightF, hid, h] at hr; simp at hr
    · exact ⟨l.toNat, by omega, by omega⟩
  simp (disch := first | omega | ((simp only [Ab.next_alloc, Ab.next_upd, List.length_cons, List.length_nil, ne_eq, not_true_eq_false, not_false_eq_true]) <;> omega) | decide) only [↓stepPre, stepPost, ↓W_cond, ↓W_block, ↓reduceIte, Nat.reduceEqDiff, Nat.reduceLT, Nat.reduceLeDiff, ret0, stVar, isTup, Value.cells, Nat.le_refl, Nat.reduceAdd, Nat.reduceMul, Nat.reduceSub, env0, binV, intV, reduceCtorEq, pickV, nilCheckV, ptrV, unV, true_and, and_true, Nat.add_zero, Nat.zero_add, Rt, resultsV, allV, resV, Bool.not_true, Bool.not_false, calleeV, builtinV, eqV, fieldAddrV, ldVar, stN_own, stN_ownL, Int.fdiv_eq_ediv_of_nonneg, Int.reduceToNat, Int.reducePow, IntKind.bits, convV, ne_eq, not_false_eq_true, not_true_eq_false, Int.reduceNeg, Int.reduceAdd, Int.reduceSub, Int.reduceLT, Int.reduceLE, extractV, decide_true, decide_false, Int.reduceEq, mkFuncV, stBFrText, beq_self_eq_true, Ty.t24, Tryd.underlying24, Ty.t27, Tryd.underlying27, Ty.t25, Tryd.underlying25, Ty.t34, Tryd.underlying34, Ty.t9, Tryd.underlying9, Ty.t5, Tryd.underlying5, Ty.t22, Tryd.underlying22, Ty.t60, Tryd.underlying60, Ty.t3, Tryd.underlying3, Ty.t4, Tryd.underlying4, Ty.t31, Tryd.underlying31, getL_take, glBFrText, hg12, hr, eq_self]
  refine itext_ok hn (by simp only [Ab.next_alloc]; omega) fun s1 m1 => ?_
  have n1 := m1.next
  simp only [Ab.next_alloc] at n1
  have hfr : s1.heap s.next = .row (frC e n r m ds) := (m1.heap _ (by simp only [Ab.next_alloc]; omega)).trans (Ab.heap_alloc_new _ _)
  have hil := idT_len e n
  cases r with
  | true =>
    have h9 : ∀ i : Fin 9, sliceV Tryd.prog s1 9 (.string ⟨#[48, 49, 50, 51, 52, 53, 54, 55, 56, 57, 97, 98, 99, 100, 101, 102]⟩) (some (.int .i64 (i.val : Int))) (some (.int .i64 ((i.val : Int) + 1))) none = some (.string (strB [hexAt i.val])) := fun i => slc_hex (by omega)
    have h9 := h9 ⟨m, by omega⟩
    have a1 := addStrV (l := idT e n) (m := [63]) (by simp; omega)
    have a2 := addStrV (l := idT e n ++ [63]) (m := [hexAt m]) (by simp; omega)
    have key := hR _ (hm0.trans m1)
    simp only [frT, hr, if_true, Int.toNat_natCast] at key
    simp (disch := first | omega | ((simp only [Ab.next_alloc, Ab.next_upd, List.length_cons, List.length_nil, ne_eq, not_true_eq_false, not_false_eq_true]) <;> omega) | decide) only [↓stepPre, stepPost, ↓W_cond, ↓W_block, ↓reduceIte, Nat.reduceEqDiff, Nat.reduceLT, Nat.reduceLeDiff, ret0, stVar, isTup, Value.cells, Nat.le_refl, Nat.reduceAdd, Nat.reduceMul, Nat.reduceSub, env0, binV, intV, reduceCtorEq, pickV, nilCheckV, ptrV, unV, true_and, and_true, Nat.add_zero, Nat.zero_add, Rt, resultsV, allV, resV, Bool.not_true, Bool.not_false, calleeV, builtinV, eqV, fieldAddrV, ldVar, stN_own, stN_ownL, Int.fdiv_eq_ediv_of_nonneg, Int.reduceToNat, Int.reducePow, IntKind.bits, convV, ne_eq, not_false_eq_true, not_true_eq_false, Int.reduceNeg, Int.reduceAdd, Int.reduceSub, Int.reduceLT, Int.reduceLE, extractV, decide_true, decide_false, Int.reduceEq, mkFuncV, stBFrText, beq_self_eq_true, Ty.t24, Tryd.underlying24, Ty.t27, Tryd.underlying27, Ty.t25, Tryd.underlying25, Ty.t34, Tryd.underlying34, Ty.t9, Tryd.underlying9, Ty.t5, Tryd.underlying5, Ty.t22, Tryd.underlying22, Ty.t60, Tryd.underlying60, Ty.t3, Tryd.underlying3, Ty.t4, Tryd.underlying4, Ty.t31, Tryd.underlying31, getL_take, glBFrText, hfr, h9, a1, a2, Tryd.results16]
    exact key
  | false =>
    have a1 := addStrV (l := idT e n) (m := [35]) (by simp; omega)
    have hsl : sliceV Tryd.prog s1 25 (.pointer (some ⟨s.next, 4, none⟩)) none (some (.int .i64 (m : Int))) none = some (.slice (some ⟨s.next, 4, none⟩) m 8) := by
      have := sliceArrHi (P := Tryd.prog) (s := s1) (t := 25) (b := s.next) (o := 4) (kk := .i64) (h := (m : Int)) Ty.arr25 Ty.siz5 (by omega) (by omega)
      rw [Int.toNat_natCast] at this; exact this
    have lD : Sl base s1 1 (.slice (some ⟨s.next, 4, none⟩) m 8) (bL (ds.take m)) := by
      refine sl_in hfr (by simp; omega) (by omega) ?_ (by simp [bC_len]; omega) (by omega) (by omega)
      simp [bC, List.map_take]
    have hlen := lD.len (P := Tryd.prog) (ts := []) Ty.elem34 Ty.arr34
    rw [bL_len, List.length_take, hd, Nat.min_eq_left hm8] at hlen
    have key := hR _ (hm0.trans m1)
    simp only [frT, hr, if_true, Int.toNat_natCast, Bool.false_eq_true, if_false] at key
    simp (disch := first | omega | ((simp only [Ab.next_alloc, Ab.next_upd, List.length_cons, List.length_nil, ne_eq, not_true_eq_false, not_false_eq_true]) <;> omega) | decide) only [↓stepPre, stepPost, ↓W_cond, ↓W_block, ↓reduceIte, Nat.reduceEqDiff, Nat.reduceLT, Nat.reduceLeDiff, ret0, stVar, isTup, Value.cells, Nat.le_refl, Nat.reduceAdd, Nat.reduceMul, Nat.reduceSub, env0, binV, intV, reduceCtorEq, pickV, nilCheckV, ptrV, unV, true_and, and_true, Nat.add_zero, Nat.zero_add, Rt, resultsV, allV, resV, Bool.not_true, Bool.not_false, calleeV, builtinV, eqV, fieldAddrV, ldVar, stN_own, stN_ownL, Int.fdiv_eq_ediv_of_nonneg, Int.reduceToNat, Int.reducePow, IntKind.bits, convV, ne_eq, not_false_eq_true, not_true_eq_false, Int.reduceNeg, Int.reduceAdd, Int.reduceSub, Int.reduceLT, Int.reduceLE, extractV, decide_true, decide_false, Int.reduceEq, mkFuncV, stBFrText, beq_self_eq_true, Ty.t24, Tryd.underlying24, Ty.t27, Tryd.underlying27, Ty.t25, Tryd.underlying25, Ty.t34, Tryd.underlying34, Ty.t9, Tryd.underlying9, Ty.t5, Tryd.underlying5, Ty.t22, Tryd.underlying22, Ty.t60, Tryd.underlying60, Ty.t3, Tryd.underlying3, Ty.t4, Tryd.underlying4, Ty.t31, Tryd.underlying31, getL_take, glBFrText, hfr, a1, hsl, hlen]
    refine W_loop_inv m (fun i e1 s2 => s2 = s1 ∧ e1 3 = .string (strB (idT e n ++ [35] ++ byT (ds.take i))) ∧ e1 28 = .slice (some ⟨s.next, 4, none⟩) m 8 ∧ e1 29 = .int .i64 (m : Int) ∧ e1 30 = .int .i64 (i : Int)) (fun x e1 s2 => x = .exit 0 ∧ s2 = s1 ∧ e1 3 = .string (strB (idT e n ++ [35] ++ byT (ds.take m)))) ?_ ?_ ?_
    rotate_left
    · exact ⟨rfl, (rfl : _ = Value.string (strB (idT e n ++ [35]))).trans (by simp [byT]), rfl, rfl, rfl⟩
    · rintro x e1 s2 ⟨rfl, rfl, h3⟩
      simp (disch := first | omega | ((simp only [Ab.next_alloc, Ab.next_upd, List.length_cons, List.length_nil, ne_eq, not_true_eq_false, not_false_eq_true]) <;> omega) | decide) only [↓stepPre, stepPost, ↓W_cond, ↓W_block, ↓reduceIte, Nat.reduceEqDiff, Nat.reduceLT, Nat.reduceLeDiff, ret0, stVar, isTup, Value.cells, Nat.le_refl, Nat.reduceAdd, Nat.reduceMul, Nat.reduceSub, env0, binV, intV, reduceCtorEq, pickV, nilCheckV, ptrV, unV, true_and, and_true, Nat.add_zero, Nat.zero_add, Rt, resultsV, allV, resV, Bool.not_true, Bool.not_false, calleeV, builtinV, eqV, fieldAddrV, ldVar, stN_own, stN_ownL, Int.fdiv_eq_ediv_of_nonneg, Int.reduceToNat, Int.reducePow, IntKind.bits, convV, ne_eq, not_false_eq_true, not_true_eq_false, Int.reduceNeg, Int.reduceAdd, Int.reduceSub, Int.reduceLT, Int.reduceLE, extractV, decide_true, decide_false, Int.reduceEq, mkFuncV, stBFrText, beq_self_eq_true, Ty.t24, Tryd.underlying24, Ty.t27, Tryd.underlying27, Ty.t25, Tryd.underlying25, Ty.t34, Tryd.underlying34, Ty.t9, Tryd.underlying9, Ty.t5, Tryd.underlying5, Ty.t22, Tryd.underlying22, Ty.t60, Tryd.underlying60, Ty.t3, Tryd.underlying3, Ty.t4, Tryd.underlying4, Ty.t31, Tryd.underlying31, getL_take, glBFrText, h3, Tryd.results16]
      exact key
    rintro i e1 s2 hi ⟨rfl, h3, h28, h29, h30⟩
    by_cases him : i < m
    rotate_left
    · have g1 : ¬ (i : Int) < (m : Int) := by omega
      rw [show i = m by omega] at h3
      simp (disch := first | omega | ((simp only [Ab.next_alloc, Ab.next_upd, List.length_cons, List.length_nil, ne_eq, not_true_eq_false, not_false_eq_true]) <;> omega) | decide) only [↓stepPre, stepPost, ↓W_cond, ↓W_block, ↓reduceIte, Nat.reduceEqDiff, Nat.reduceLT, Nat.reduceLeDiff, ret0, stVar, isTup, Value.cells, Nat.le_refl, Nat.reduceAdd, Nat.reduceMul, Nat.reduceSub, env0, binV, intV, reduceCtorEq, pickV, nilCheckV, ptrV, unV, true_and, and_true, Nat.add_zero, Nat.zero_add, Rt, resultsV, allV, resV, Bool.not_true, Bool.not_false, calleeV, builtinV, eqV, fieldAddrV, ldVar, stN_own, stN_ownL, Int.fdiv_eq_ediv_of_nonneg, Int.reduceToNat, Int.reducePow, IntKind.bits, convV, ne_eq, not_false_eq_true, not_true_eq_false, Int.reduceNeg, Int.reduceAdd, Int.reduceSub, Int.reduceLT, Int.reduceLE, extractV, decide_true, decide_false, Int.reduceEq, mkFuncV, stBFrText, beq_self_eq_true, Ty.t24, Tryd.underlying24, Ty.t27, Tryd.underlying27, Ty.t25, Tryd.underlying25, Ty.t34, Tryd.underlying34, Ty.t9, Tryd.underlying9, Ty.t5, Tryd.underlying5, Ty.t22, Tryd.underlying22, Ty.t60, Tryd.underlying60, Ty.t3, Tryd.underlying3, Ty.t4, Tryd.underlying4, Ty.t31, Tryd.underlying31, getL_take, glBFrText, h3, h28, h29, h30, g1]
    have g1 : (i : Int) < (m : Int) := by omega
    have hx := bL_at (xs := ds.take m) (i := i) (by simp; omega)
    have hix := lD.index (P := Tryd.prog) (k := .i64) (i := (i : Int)) Ty.elem34 Ty.siz5 (by omega) (by rw [bL_len, List.length_take]; omega)
    rw [Int.toNat_natCast] at hix
    have hld := lD.load1 hx Ty.agg5 Ty.siz5
    have hxy := hy ((ds.take m)[i]'(by simp; omega)) (List.mem_of_mem_take (List.getElem_mem _))
    have hsn : ds.take (i + 1) = ds.take i ++ [(ds.take m)[i]'(by simp; omega)] := by
      rw [List.take_succ_eq_append_getElem (by omega)]; simp
    generalize (ds.take m)[i]'(by simp; omega) = x at hx hld hxy hsn
    simp (disch := first | omega | ((simp only [Ab.next_alloc, Ab.next_upd, List.length_cons, List.length_nil, ne_eq, not_true_eq_false, not_false_eq_true]) <;> omega) | decide) only [↓stepPre, stepPost, ↓W_cond, ↓W_block, ↓reduceIte, Nat.reduceEqDiff, Nat.reduceLT, Nat.reduceLeDiff, ret0, stVar, isTup, Value.cells, Nat.le_refl, Nat.reduceAdd, Nat.reduceMul, Nat.reduceSub, env0, binV, intV, reduceCtorEq, pickV, nilCheckV, ptrV, unV, true_and, and_true, Nat.add_zero, Nat.zero_add, Rt, resultsV, allV, resV, Bool.not_true, Bool.not_false, calleeV, builtinV, eqV, fieldAddrV, ldVar, stN_own, stN_ownL, Int.fdiv_eq_ediv_of_nonneg, Int.reduceToNat, Int.reducePow, IntKind.bits, convV, ne_eq, not_false_eq_true, not_true_eq_false, Int.reduceNeg, Int.reduceAdd, Int.reduceSub, Int.reduceLT, Int.reduceLE, extractV, decide_true, decide_false, Int.reduceEq, mkFuncV, stBFrText, beq_self_eq_true, Ty.t24, Tryd.underlying24, Ty.t27, Tryd.underlying27, Ty.t25, Tryd.underlying25, Ty.t34, Tryd.underlying34, Ty.t9, Tryd.underlying9, Ty.t5, Tryd.underlying5, Ty.t22, Tryd.underlying22, Ty.t60, Tryd.underlying60, Ty.t3, Tryd.underlying3, Ty.t4, Tryd.underlying4, Ty.t31, Tryd.underlying31, getL_take, glBFrText, h3, h28, h29, h30, g1, hix, hld]
    refine W_draw (fun _ => false) (fun _ => false) (fun _ => false) (by kernel_rfl) (by kernel_rfl) ?_
    have e16 : (x : Int) / 16 = ((x / 16 % 16 : Nat) : Int) := by omega
    have s1h := slc_hex (s := s2) (d := x / 16 % 16) (k := .u8) (k' := .u8) (Nat.mod_lt _ (by omega))
    have s2h := slc_hex (s := s2) (d := x % 16) (k := .u8) (k' := .u8) (Nat.mod_lt _ (by omega))
    have w1 : IntKind.u8.wrap (((x % 16 : Nat) : Int) + 1) = ((x % 16 : Nat) : Int) + 1 := IntWalk.u8_in _ (by omega)
    have a2 := addStrV (l := [hexAt (x / 16 % 16)]) (m := [hexAt (x % 16)]) (by simp)
    have a3 := addStrV (l := idT e n ++ [35] ++ byT (ds.take i)) (m := [hexAt (x / 16 % 16), hexAt (x % 16)]) (by simp [byT_len]; omega)
    simp (disch := first | omega | ((simp only [Ab.next_alloc, Ab.next_upd, List.length_cons, List.length_nil, ne_eq, not_true_eq_false, not_false_eq_true]) <;> omega) | decide) only [↓stepPre, stepPost, ↓W_cond, ↓W_block, ↓reduceIte, Nat.reduceEqDiff, Nat.reduceLT, Nat.reduceLeDiff, ret0, stVar, isTup, Value.cells, Nat.le_refl, Nat.reduceAdd, Nat.reduceMul, Nat.reduceSub, env0, binV, intV, reduceCtorEq, pickV, nilCheckV, ptrV, unV, true_and, and_true, Nat.add_zero, Nat.zero_add, Rt, resultsV, allV, resV, Bool.not_true, Bool.not_false, calleeV, builtinV, eqV, fieldAddrV, ldVar, stN_own, stN_ownL, Int.fdiv_eq_ediv_of_nonneg, Int.reduceToNat, Int.reducePow, IntKind.bits, convV, ne_eq, not_false_eq_true, not_true_eq_false, Int.reduceNeg, Int.reduceAdd, Int.reduceSub, Int.reduceLT, Int.reduceLE, extractV, decide_true, decide_false, Int.reduceEq, mkFuncV, stBFrText, beq_self_eq_true, Ty.t24, Tryd.underlying24, Ty.t27, Tryd.underlying27, Ty.t25, Tryd.underlying25, Ty.t34, Tryd.underlying34, Ty.t9, Tryd.underlying9, Ty.t5, Tryd.underlying5, Ty.t22, Tryd.underlying22, Ty.t60, Tryd.underlying60, Ty.t3, Tryd.underlying3, Ty.t4, Tryd.underlying4, Ty.t31, Tryd.underlying31, getL_take, glBFrText, h3, h28, h29, h30, e16, and8_15 hxy, s1h, s2h, w1, a2, a3]
    exact ⟨him, by rw [hsn, byT_snoc, List.append_assoc], by simp⟩
end Go.Proofs.YtdhmjnpaoacpfaaDoor
