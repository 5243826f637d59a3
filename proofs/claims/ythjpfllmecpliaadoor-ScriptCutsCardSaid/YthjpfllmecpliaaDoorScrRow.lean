/- Rows of words and numbers, and acts' lines (the package script): as contracts. -/
import Derived.Test.YthjpfllmecpliaaDoorTypes
import Derived.Test.YthjpfllmecpliaaDoorRow0
import Derived.Test.YthjpfllmecpliaaDoorAbC
import Derived.Test.YthjpfllmecpliaaDoorPure
import Derived.Test.YthjpfllmecpliaaDoorBoxes
import Derived.Test.YthjpfllmecpliaaDoorScrJoin
set_option linter.all false
set_option maxRecDepth 20000
namespace Go.Proofs.YthjpfllmecpliaaDoor
open Go Go.Ab
def nxBScrRow := And.intro @Ab.next_alloc (And.intro @Ab.next_upd (And.intro @List.length_cons.{0} (And.intro @List.length_nil.{0} (And.intro @ne_eq.{1} (And.intro not_true_eq_false not_false_eq_true)))))
def tyB0ScrRow := And.intro @Ty.t9 (And.intro @Tryd.underlying9 (And.intro @Ty.t52 (And.intro @Tryd.underlying52 (And.intro @Ty.t68 (And.intro @Tryd.underlying68 (And.intro @Ty.t5 (And.intro @Tryd.underlying5 (And.intro @Ty.t104 (And.intro @Tryd.underlying104 (And.intro @Ty.t2 (And.intro @Tryd.underlying2 (And.intro @Ty.t3 (And.intro @Tryd.underlying3 (And.intro @Ty.t4 (And.intro @Tryd.underlying4 (And.intro @Ty.t45 (And.intro @Tryd.underlying45 (And.intro @Ty.t42 (And.intro @Tryd.underlying42 (And.intro @Ty.t43 @Tryd.underlying43))))))))))))))))))))
def stBScrRow := And.intro @List.size_toArray.{0} (And.intro @List.length_cons.{0} (And.intro @List.length_nil.{0} (And.intro @List.set_cons_zero.{0} (And.intro @List.set_cons_succ.{0} (And.intro @List.getD_cons_zero.{0} (And.intro @List.getD_cons_succ.{0} (And.intro @List.getElem?_cons_succ.{0} (And.intro @List.getElem?_cons_zero.{0} (And.intro @List.map_cons.{0,0} (And.intro @List.map_nil.{0,0} (And.intro @Option.isNone_none.{0} (And.intro @Option.isNone_some.{0} (And.intro @Option.map_some.{0,0} (And.intro @Option.map_none.{0,0} (And.intro @List.cons_append.{0} (And.intro @List.nil_append.{0} (And.intro @List.append_nil.{0} (And.intro @Array.toList_append.{0} (And.intro @List.toList_toArray.{0} (And.intro @Int.cast_ofNat_Int (And.intro @Option.isSome_some.{0} (And.intro @List.getElem?_toArray.{0} (And.intro @List.map_toArray.{0,0} (@Nat.min_eq_left))))))))))))))))))))))))
def glBScrRow := And.intro @List.drop_zero.{0} (And.intro @List.drop_succ_cons.{0} (And.intro @List.take_succ_cons.{0} (And.intro @List.take_zero.{0} (@List.take_nil.{0}))))
variable {base : Nat} [Bok base] {s : St} {R : Value → St → Prop}
def rowL (w : List UInt8) (ns : List Nat) : List UInt8 := w ++ ns.flatMap fun n => 32 :: digL n
theorem rowL_len (w : List UInt8) (ns : List Nat) (h : ∀ n ∈ ns, n < 2 ^ 63) : (rowL w ns).length ≤ w.length + 21 * ns.length := by
  unfold rowL
  rw [List.length_append]
  have : (ns.flatMap fun n => 32 :: digL n).length ≤ 21 * ns.length := by
    induction ns with
    | nil => simp
    | cons n ns ih =>
      have h1 := ih fun m hm => h m (by simp [hm])
      have h2 := digL_len 19 n (by have := h n (by simp); omega)
      simp only [List.flatMap_cons, List.length_append, List.length_cons]
      omega
  omega
theorem join_row (w : List UInt8) (ns : List Nat) : Lib.join (w :: ns.map digL) [32] = rowL w ns := by
  unfold rowL
  induction ns generalizing w with
  | nil => simp [Lib.join, List.intercalate]
  | cons n ns ih =>
    have h1 := ih (digL n)
    have : Lib.join (w :: (n :: ns).map digL) [32] = w ++ [32] ++ Lib.join (digL n :: ns.map digL) [32] := by simp [Lib.join, List.intercalate]
    rw [this, h1]; simp
def i64L (ns : List Nat) : List (List Value) := ns.map fun (n : Nat) => [.int .i64 (n : Int)]
theorem i64L_len (ns : List Nat) : (i64L ns).length = ns.length := by simp [i64L]
theorem i64L_at {ns : List Nat} {i : Nat} (h : i < ns.length) : (i64L ns)[i]? = some [.int .i64 ((ns[i] : Nat) : Int)] := by simp [i64L, h]
theorem build1t {s : St} {x : List UInt8} : buildSliceV Tryd.prog s 52 1 [(0, .string (strB x))] = some (.slice (some ⟨s.next, 0, none⟩) 1 1, s.alloc (.row [.string (strB x)])) := by
  simp [buildSliceV, Ty.elem52, Ty.siz9, Ty.zer9, fillL, isTup, Value.cells, repL, setL]
theorem put38_ok {v : Value} {xs : List (List UInt8)} (hs : Sl base s 1 v (strL xs)) (hn : 1 ≤ xs.length) (hN : xs.length ≤ 1000000) (hlen : (Lib.join xs [32]).length ≤ 1000000) (hR : R (.string (strB (Lib.join xs [32]))) s) :
    WC Tryd.prog base 30 [v] s R := by
  refine WC_open Tryd.func30 rfl ?_
  simp (disch := first | omega | ((simp only [nxBScrRow]) <;> omega) | decide) only [↓stepPre, stepPost, ↓W_cond, ↓W_block, ↓reduceIte, Nat.reduceEqDiff, Nat.reduceLT, Nat.reduceLeDiff, ret0, stVar, isTup, Value.cells, Nat.le_refl, Nat.reduceAdd, Nat.reduceMul, Nat.reduceSub, env0, binV, intV, reduceCtorEq, pickV, nilCheckV, ptrV, unV, true_and, and_true, Nat.add_zero, Nat.zero_add, Rt, resultsV, allV, resV, Bool.not_true, Bool.not_false, calleeV, builtinV, eqV, fieldAddrV, ldVar, stN_own, stN_ownL, Int.fdiv_eq_ediv_of_nonneg, Int.reduceToNat, Int.reducePow, IntKind.bits, convV, ne_eq, not_false_eq_true, not_true_eq_false, Int.reduceNeg, Int.reduceAdd, Int.reduceSub, Int.reduceLT, Int.reduceLE, extractV, decide_true, decide_false, Int.reduceEq, mkFuncV, stBScrRow, beq_self_eq_true, tyB0ScrRow, getL_take, glBScrRow]
  refine join_p (sep := [32]) hs hn hN hlen ?_
  simp (disch := first | omega | ((simp only [nxBScrRow]) <;> omega) | decide) only [↓stepPre, stepPost, ↓W_cond, ↓W_block, ↓reduceIte, Nat.reduceEqDiff, Nat.reduceLT, Nat.reduceLeDiff, ret0, stVar, isTup, Value.cells, Nat.le_refl, Nat.reduceAdd, Nat.reduceMul, Nat.reduceSub, env0, binV, intV, reduceCtorEq, pickV, nilCheckV, ptrV, unV, true_and, and_true, Nat.add_zero, Nat.zero_add, Rt, resultsV, allV, resV, Bool.not_true, Bool.not_false, calleeV, builtinV, eqV, fieldAddrV, ldVar, stN_own, stN_ownL, Int.fdiv_eq_ediv_of_nonneg, Int.reduceToNat, Int.reducePow, IntKind.bits, convV, ne_eq, not_false_eq_true, not_true_eq_false, Int.reduceNeg, Int.reduceAdd, Int.reduceSub, Int.reduceLT, Int.reduceLE, extractV, decide_true, decide_false, Int.reduceEq, mkFuncV, stBScrRow, beq_self_eq_true, tyB0ScrRow, getL_take, glBScrRow, Tryd.results30]
  exact hR
theorem row38_ok {w : List UInt8} {v : Value} {ns : List Nat} (hs : Sl base s 1 v (i64L ns)) (hw : w.length ≤ 100) (hn : ns.length ≤ 100) (hns : ∀ n ∈ ns, n < 2 ^ 63) (hbn : base ≤ s.next) (hR : ∀ s', Mild s s' → R (.string (strB (rowL w ns))) s') :
    WC Tryd.prog base 18 [.string (strB w), v] s R := by
  refine WC_open Tryd.func18 rfl ?_
  have hlen := hs.len (P := Tryd.prog) (ts := []) Ty.elem68 Ty.arr68
  rw [i64L_len] at hlen
  simp (disch := first | omega | ((simp only [nxBScrRow]) <;> omega) | decide) only [↓stepPre, stepPost, ↓W_cond, ↓W_block, ↓reduceIte, Nat.reduceEqDiff, Nat.reduceLT, Nat.reduceLeDiff, ret0, stVar, isTup, Value.cells, Nat.le_refl, Nat.reduceAdd, Nat.reduceMul, Nat.reduceSub, env0, binV, intV, reduceCtorEq, pickV, nilCheckV, ptrV, unV, true_and, and_true, Nat.add_zero, Nat.zero_add, Rt, resultsV, allV, resV, Bool.not_true, Bool.not_false, calleeV, builtinV, eqV, fieldAddrV, ldVar, stN_own, stN_ownL, Int.fdiv_eq_ediv_of_nonneg, Int.reduceToNat, Int.reducePow, IntKind.bits, convV, ne_eq, not_false_eq_true, not_true_eq_false, Int.reduceNeg, Int.reduceAdd, Int.reduceSub, Int.reduceLT, Int.reduceLE, extractV, decide_true, decide_false, Int.reduceEq, mkFuncV, stBScrRow, beq_self_eq_true, tyB0ScrRow, getL_take, glBScrRow, build1t, hlen]
  have h0 : Sl base (s.alloc (.row [.string (strB w)])) 1 (.slice (some ⟨s.next, 0, none⟩) 1 1) (strL [w]) := .newRow (L := strL [w]) (Ab.heap_alloc_new _ _) rfl rfl (by simp [strL]) hbn (by simp only [Ab.next_alloc]; omega)
  refine W_loop_inv ns.length (fun i e1 s1 => e1 10 = v ∧ e1 11 = .int .i64 (ns.length : Int) ∧ e1 12 = .int .i64 (i : Int) ∧ Mild s s1 ∧ ∃ u, e1 5 = u ∧ Sl base s1 1 u (strL (w :: (ns.take i).map digL)) ∧ Tight base u ∧ ∀ b, inB u b → s.next ≤ b)
    (fun x e1 s1 => x = .exit 0 ∧ Mild s s1 ∧ ∃ u, e1 5 = u ∧ Sl base s1 1 u (strL (w :: ns.map digL))) ?_ ?_ ?_
  rotate_left
  · exact ⟨rfl, rfl, rfl, Mild.alloc _ _, _, rfl, h0, ⟨rfl, hbn⟩, fun b hb => by cases hb; exact Nat.le_refl _⟩
  · rintro x e1 s1 ⟨rfl, M1, u, h5, l5⟩
    have hl := rowL_len w ns hns
    simp (disch := first | omega | ((simp only [nxBScrRow]) <;> omega) | decide) only [↓stepPre, stepPost, ↓W_cond, ↓W_block, ↓reduceIte, Nat.reduceEqDiff, Nat.reduceLT, Nat.reduceLeDiff, ret0, stVar, isTup, Value.cells, Nat.le_refl, Nat.reduceAdd, Nat.reduceMul, Nat.reduceSub, env0, binV, intV, reduceCtorEq, pickV, nilCheckV, ptrV, unV, true_and, and_true, Nat.add_zero, Nat.zero_add, Rt, resultsV, allV, resV, Bool.not_true, Bool.not_false, calleeV, builtinV, eqV, fieldAddrV, ldVar, stN_own, stN_ownL, Int.fdiv_eq_ediv_of_nonneg, Int.reduceToNat, Int.reducePow, IntKind.bits, convV, ne_eq, not_false_eq_true, not_true_eq_false, Int.reduceNeg, Int.reduceAdd, Int.reduceSub, Int.reduceLT, Int.reduceLE, extractV, decide_true, decide_false, Int.reduceEq, mkFuncV, stBScrRow, beq_self_eq_true, tyB0ScrRow, getL_take, glBScrRow, h5]
    refine put38_ok l5 (by simp) (by simp; omega) (by rw [join_row]; omega) ?_
    rw [join_row]
    simp (disch := first | omega | ((simp only [nxBScrRow]) <;> omega) | decide) only [↓stepPre, stepPost, ↓W_cond, ↓W_block, ↓reduceIte, Nat.reduceEqDiff, Nat.reduceLT, Nat.reduceLeDiff, ret0, stVar, isTup, Value.cells, Nat.le_refl, Nat.reduceAdd, Nat.reduceMul, Nat.reduceSub, env0, binV, intV, reduceCtorEq, pickV, nilCheckV, ptrV, unV, true_and, and_true, Nat.add_zero, Nat.zero_add, Rt, resultsV, allV, resV, Bool.not_true, Bool.not_false, calleeV, builtinV, eqV, fieldAddrV, ldVar, stN_own, stN_ownL, Int.fdiv_eq_ediv_of_nonneg, Int.reduceToNat, Int.reducePow, IntKind.bits, convV, ne_eq, not_false_eq_true, not_true_eq_false, Int.reduceNeg, Int.reduceAdd, Int.reduceSub, Int.reduceLT, Int.reduceLE, extractV, decide_true, decide_false, Int.reduceEq, mkFuncV, stBScrRow, beq_self_eq_true, tyB0ScrRow, getL_take, glBScrRow, Tryd.results18]
    exact hR _ M1
  rintro i e1 s1 hi ⟨h10, h11, h12, M1, u, h5, l5, t5, w5⟩
  by_cases hil : i < ns.length
  rotate_left
  · have g1 : ¬ (i : Int) < (ns.length : Int) := by omega
    rw [List.take_of_length_le (by omega)] at l5
    simp (disch := first | omega | ((simp only [nxBScrRow]) <;> omega) | decide) only [↓stepPre, stepPost, ↓W_cond, ↓W_block, ↓reduceIte, Nat.reduceEqDiff, Nat.reduceLT, Nat.reduceLeDiff, ret0, stVar, isTup, Value.cells, Nat.le_refl, Nat.reduceAdd, Nat.reduceMul, Nat.reduceSub, env0, binV, intV, reduceCtorEq, pickV, nilCheckV, ptrV, unV, true_and, and_true, Nat.add_zero, Nat.zero_add, Rt, resultsV, allV, resV, Bool.not_true, Bool.not_false, calleeV, builtinV, eqV, fieldAddrV, ldVar, stN_own, stN_ownL, Int.fdiv_eq_ediv_of_nonneg, Int.reduceToNat, Int.reducePow, IntKind.bits, convV, ne_eq, not_false_eq_true, not_true_eq_false, Int.reduceNeg, Int.reduceAdd, Int.reduceSub, Int.reduceLT, Int.reduceLE, extractV, decide_true, decide_false, Int.reduceEq, mkFuncV, stBScrRow, beq_self_eq_true, tyB0ScrRow, getL_take, glBScrRow, h10, h11, h12, g1]
    exact ⟨M1, u, h5, l5⟩
  have g1 : (i : Int) < (ns.length : Int) := by omega
  have n1 := M1.next
  have p1 := (hs.mild M1).index (P := Tryd.prog) (k := .i64) (i := (i : Int)) Ty.elem68 Ty.siz2 (by omega) (by rw [i64L_len]; omega)
  rw [Int.toNat_natCast] at p1
  have p2 := (hs.mild M1).load1 (P := Tryd.prog) (i64L_at hil) Ty.agg2 Ty.siz2
  simp (disch := first | omega | ((simp only [nxBScrRow]) <;> omega) | decide) only [↓stepPre, stepPost, ↓W_cond, ↓W_block, ↓reduceIte, Nat.reduceEqDiff, Nat.reduceLT, Nat.reduceLeDiff, ret0, stVar, isTup, Value.cells, Nat.le_refl, Nat.reduceAdd, Nat.reduceMul, Nat.reduceSub, env0, binV, intV, reduceCtorEq, pickV, nilCheckV, ptrV, unV, true_and, and_true, Nat.add_zero, Nat.zero_add, Rt, resultsV, allV, resV, Bool.not_true, Bool.not_false, calleeV, builtinV, eqV, fieldAddrV, ldVar, stN_own, stN_ownL, Int.fdiv_eq_ediv_of_nonneg, Int.reduceToNat, Int.reducePow, IntKind.bits, convV, ne_eq, not_false_eq_true, not_true_eq_false, Int.reduceNeg, Int.reduceAdd, Int.reduceSub, Int.reduceLT, Int.reduceLE, extractV, decide_true, decide_false, Int.reduceEq, mkFuncV, stBScrRow, beq_self_eq_true, tyB0ScrRow, getL_take, glBScrRow, h10, h11, h12, g1, p1, p2, h5]
  refine digits_ok (hns _ (List.getElem_mem hil)) ?_
  have hnew : Sl base (s1.alloc (.row [.string (strB (digL ns[i]))])) 1 (.slice (some ⟨s1.next, 0, none⟩) 1 1) (strL [digL ns[i]]) := .newRow (L := strL [digL ns[i]]) (Ab.heap_alloc_new _ _) rfl rfl (by simp [strL]) (by omega) (by simp only [Ab.next_alloc]; omega)
  obtain ⟨u', s2, e1', e2, e3, e4, e5, e6⟩ := appB_ok (P := Tryd.prog) (l5.mild (Mild.alloc s1 (.row [.string (strB (digL ns[i]))]))) t5 (by simp only [Ab.next_alloc]; omega) Ty.elem52 Ty.int52 Ty.und52 Ty.siz9 (by decide) Ty.zer9 rfl Ty.byt9 hnew (by simp [strL_len]; omega)
  simp (disch := first | omega | ((simp only [nxBScrRow]) <;> omega) | decide) only [↓stepPre, stepPost, ↓W_cond, ↓W_block, ↓reduceIte, Nat.reduceEqDiff, Nat.reduceLT, Nat.reduceLeDiff, ret0, stVar, isTup, Value.cells, Nat.le_refl, Nat.reduceAdd, Nat.reduceMul, Nat.reduceSub, env0, binV, intV, reduceCtorEq, pickV, nilCheckV, ptrV, unV, true_and, and_true, Nat.add_zero, Nat.zero_add, Rt, resultsV, allV, resV, Bool.not_true, Bool.not_false, calleeV, builtinV, eqV, fieldAddrV, ldVar, stN_own, stN_ownL, Int.fdiv_eq_ediv_of_nonneg, Int.reduceToNat, Int.reducePow, IntKind.bits, convV, ne_eq, not_false_eq_true, not_true_eq_false, Int.reduceNeg, Int.reduceAdd, Int.reduceSub, Int.reduceLT, Int.reduceLE, extractV, decide_true, decide_false, Int.reduceEq, mkFuncV, stBScrRow, beq_self_eq_true, tyB0ScrRow, getL_take, glBScrRow, build1t, e1', h5, h10, h11, h12]
  have hch : Ch s1 s2 (fun b => s.next ≤ b) := Ch.after (Ch.of_mild (Mild.alloc s1 _) (fun b => s.next ≤ b)) e4 fun k hk he => w5 k he
  refine ⟨hil, by simp, (Ch.after (Ch.of_mild M1 (fun b => s.next ≤ b)) hch fun k hk he => he).mild fun k hk h => by omega, u', rfl, ?_, e3, fun b hb => ?_⟩
  · rw [List.take_succ_eq_append_getElem hil, List.map_append, ← List.cons_append, strL_app]; exact e2
  · have := e5 (by simp [strL]) b hb
    simp only [Ab.next_alloc] at this; omega
end Go.Proofs.YthjpfllmecpliaaDoor
