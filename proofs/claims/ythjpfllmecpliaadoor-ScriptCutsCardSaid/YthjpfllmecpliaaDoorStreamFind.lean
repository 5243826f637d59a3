/- Where a stream is, as contracts. -/
import Derived.Test.YthjpfllmecpliaaDoorTypes
import Derived.Test.YthjpfllmecpliaaDoorRow0
import Derived.Test.YthjpfllmecpliaaDoorAbC
import Derived.Test.YthjpfllmecpliaaDoorPure
import Derived.Test.YthjpfllmecpliaaDoorBoxes
import Derived.Test.YthjpfllmecpliaaDoorStreamList
set_option linter.all false
set_option maxRecDepth 20000
namespace Go.Proofs.YthjpfllmecpliaaDoor
open Go Go.Ab
def nxBStreamFind := And.intro @Ab.next_alloc (And.intro @Ab.next_upd (And.intro @List.length_cons.{0} (And.intro @List.length_nil.{0} (And.intro @ne_eq.{1} (And.intro not_true_eq_false not_false_eq_true)))))
def tyB0StreamFind := And.intro @Ty.t55 (And.intro @Tryd.underlying55 (And.intro @Ty.t22 (And.intro @Tryd.underlying22 (And.intro @Ty.t53 (And.intro @Tryd.underlying53 (And.intro @Ty.t3 (And.intro @Tryd.underlying3 (And.intro @Ty.t2 (And.intro @Tryd.underlying2 (And.intro @Ty.t4 (And.intro @Tryd.underlying4 (And.intro @Ty.t29 @Tryd.underlying29))))))))))))
def stBStreamFind := And.intro @List.size_toArray.{0} (And.intro @List.length_cons.{0} (And.intro @List.length_nil.{0} (And.intro @List.set_cons_zero.{0} (And.intro @List.set_cons_succ.{0} (And.intro @List.getD_cons_zero.{0} (And.intro @List.getD_cons_succ.{0} (And.intro @List.getElem?_cons_succ.{0} (And.intro @List.getElem?_cons_zero.{0} (And.intro @List.map_cons.{0,0} (And.intro @List.map_nil.{0,0} (And.intro @Option.isNone_none.{0} (And.intro @Option.isNone_some.{0} (And.intro @Option.map_some.{0,0} (And.intro @Option.map_none.{0,0} (And.intro @List.cons_append.{0} (And.intro @List.nil_append.{0} (And.intro @List.append_nil.{0} (And.intro @Array.toList_append.{0} (And.intro @List.toList_toArray.{0} (And.intro @Int.cast_ofNat_Int (And.intro @Option.isSome_some.{0} (And.intro @List.getElem?_toArray.{0} (And.intro @List.map_toArray.{0,0} (@Nat.min_eq_left))))))))))))))))))))))))
def glBStreamFind := And.intro @List.drop_zero.{0} (And.intro @List.drop_succ_cons.{0} (And.intro @List.take_succ_cons.{0} (And.intro @List.take_zero.{0} (@List.take_nil.{0}))))
variable {base : Nat} [Bok base] {s : St} {R : Value → St → Prop}
/-- The first number from k on, of so many, at which something is not 0. -/
def fwd (f : Nat → Int) : Nat → Nat → Option Nat
  | _, 0 => none
  | k, m + 1 => if f k = 0 then fwd f (k + 1) m else some k
theorem fwd_skip {f : Nat → Int} {i n : Nat} (h : i < n) (h0 : f i = 0) : fwd f i (n - i) = fwd f (i + 1) (n - (i + 1)) := by
  obtain ⟨m, hm⟩ : ∃ m, n - i = m + 1 := ⟨n - i - 1, by omega⟩
  rw [hm, fwd, if_pos h0, show n - (i + 1) = m by omega]
theorem fwd_hit {f : Nat → Int} {i n : Nat} (h : i < n) (h0 : f i ≠ 0) : fwd f i (n - i) = some i := by
  obtain ⟨m, hm⟩ : ∃ m, n - i = m + 1 := ⟨n - i - 1, by omega⟩
  rw [hm, fwd, if_neg h0]
theorem fwd_some {f : Nat → Int} : ∀ {m k i : Nat}, fwd f k m = some i → k ≤ i ∧ i < k + m ∧ f i ≠ 0 ∧ ∀ j, k ≤ j → j < i → f j = 0 := by
  intro m
  induction m with
  | zero => intro k i h; cases h
  | succ m ih =>
    intro k i h
    rw [fwd] at h
    split at h
    · rename_i h0
      obtain ⟨h1, h2, h3, h4⟩ := ih h
      refine ⟨by omega, by omega, h3, fun j hj hji => ?_⟩
      by_cases hjk : j = k
      · rw [hjk]; exact h0
      · exact h4 j (by omega) hji
    · rename_i h0
      cases h
      exact ⟨Nat.le_refl _, by omega, h0, fun j hj hji => by omega⟩
theorem fwd_none {f : Nat → Int} : ∀ {m k : Nat}, fwd f k m = none → ∀ j, k ≤ j → j < k + m → f j = 0 := by
  intro m
  induction m with
  | zero => intro k h j h1 h2; omega
  | succ m ih =>
    intro k h j h1 h2
    rw [fwd] at h
    split at h
    · rename_i h0
      by_cases hjk : j = k
      · rw [hjk]; exact h0
      · exact ih h j (by omega) (by omega)
    · cases h
def smZ : Sm := ⟨0, 0, 0, 0, 0, 0, 0⟩
def atS (xs : List Sm) (i : Nat) : Sm := xs.getD i smZ
theorem atS_eq {xs : List Sm} {i : Nat} (h : i < xs.length) : atS xs i = xs[i] := by simp [atS, h]
def hitF (xs : List Sm) (id : Int) (i : Nat) : Int := if (atS xs i).id = id then 1 else 0
def findS (xs : List Sm) (id : Int) : Int := match fwd (hitF xs id) 0 xs.length with | some i => i | none => -1
theorem isIt_ok {x : Sm} {p : Nat} {id : Int} (hp : s.heap p = .row [.int .i64 id]) (hb : base ≤ p ∧ p < s.next) (hR : ∀ s', Mild s s' → R (.bool (decide (x.id = id))) s') : WC Tryd.prog base 76 [.agg x.c.toArray, .pointer (some ⟨p, 0, none⟩)] s R := by
  refine WC_open Tryd.func76 rfl ?_
  simp (disch := first | omega | ((simp only [nxBStreamFind]) <;> omega) | decide) only [↓stepPre, stepPost, ↓W_cond, ↓W_block, ↓reduceIte, Nat.reduceEqDiff, Nat.reduceLT, Nat.reduceLeDiff, ret0, stVar, isTup, Value.cells, Nat.le_refl, Nat.reduceAdd, Nat.reduceMul, Nat.reduceSub, env0, binV, intV, reduceCtorEq, pickV, nilCheckV, ptrV, unV, true_and, and_true, Nat.add_zero, Nat.zero_add, Rt, resultsV, allV, resV, Bool.not_true, Bool.not_false, calleeV, builtinV, eqV, fieldAddrV, ldVar, stN_own, stN_ownL, Int.fdiv_eq_ediv_of_nonneg, Int.reduceToNat, Int.reducePow, IntKind.bits, convV, ne_eq, not_false_eq_true, not_true_eq_false, Int.reduceNeg, Int.reduceAdd, Int.reduceSub, Int.reduceLT, Int.reduceLE, extractV, decide_true, decide_false, Int.reduceEq, mkFuncV, stBStreamFind, beq_self_eq_true, tyB0StreamFind, getL_take, glBStreamFind, hp, Tryd.results76]
  exact hR _ (.alloc _ _)
theorem indexIt_ok {v : Value} {xs : List Sm} {p : Nat} {id : Int} (hs : Sl base s 7 v (smL xs)) (hn : xs.length ≤ 2 ^ 62) (hp : s.heap p = .row [.int .i64 id]) (hb : base ≤ p ∧ p < s.next) (hR : ∀ s', Mild s s' → R (.int .i64 (findS xs id)) s') :
    WC Tryd.prog base 61 [v, .func (.func 76) #[] #[.pointer (some ⟨p, 0, none⟩)]] s R := by
  refine WC_open Tryd.func61 rfl ?_
  have hlen := hs.len (P := Tryd.prog) (ts := []) Ty.elem22 Ty.arr22
  rw [smL_len] at hlen
  simp (disch := first | omega | ((simp only [nxBStreamFind]) <;> omega) | decide) only [↓stepPre, stepPost, ↓W_cond, ↓W_block, ↓reduceIte, Nat.reduceEqDiff, Nat.reduceLT, Nat.reduceLeDiff, ret0, stVar, isTup, Value.cells, Nat.le_refl, Nat.reduceAdd, Nat.reduceMul, Nat.reduceSub, env0, binV, intV, reduceCtorEq, pickV, nilCheckV, ptrV, unV, true_and, and_true, Nat.add_zero, Nat.zero_add, Rt, resultsV, allV, resV, Bool.not_true, Bool.not_false, calleeV, builtinV, eqV, fieldAddrV, ldVar, stN_own, stN_ownL, Int.fdiv_eq_ediv_of_nonneg, Int.reduceToNat, Int.reducePow, IntKind.bits, convV, ne_eq, not_false_eq_true, not_true_eq_false, Int.reduceNeg, Int.reduceAdd, Int.reduceSub, Int.reduceLT, Int.reduceLE, extractV, decide_true, decide_false, Int.reduceEq, mkFuncV, stBStreamFind, beq_self_eq_true, tyB0StreamFind, hlen]
  refine W_loop_ind xs.length (fun i e s1 => Mild s s1 ∧ fwd (hitF xs id) 0 xs.length = fwd (hitF xs id) i (xs.length - i) ∧ e 0 = v ∧ e 1 = .func (.func 76) #[] #[.pointer (some ⟨p, 0, none⟩)] ∧ e 7 = .int .i64 (xs.length : Int) ∧ e 8 = .int .i64 (i : Int)) ?_ ⟨.refl _, rfl, rfl, rfl, rfl, rfl⟩
  rintro i e s1 hi ⟨m1, hf, h0, h1, h7, h8⟩
  have n1 := m1.next
  by_cases hil : i < xs.length
  rotate_left
  · have g1 : ¬ (i : Int) < (xs.length : Int) := by omega
    have : findS xs id = -1 := by
      unfold findS
      rw [hf, show xs.length - i = 0 by omega]; rfl
    simp (disch := first | omega | ((simp only [nxBStreamFind]) <;> omega) | decide) only [↓stepPre, stepPost, ↓W_cond, ↓W_block, ↓reduceIte, Nat.reduceEqDiff, Nat.reduceLT, Nat.reduceLeDiff, ret0, stVar, isTup, Value.cells, Nat.le_refl, Nat.reduceAdd, Nat.reduceMul, Nat.reduceSub, env0, binV, intV, reduceCtorEq, pickV, nilCheckV, ptrV, unV, true_and, and_true, Nat.add_zero, Nat.zero_add, Rt, resultsV, allV, resV, Bool.not_true, Bool.not_false, calleeV, builtinV, eqV, fieldAddrV, ldVar, stN_own, stN_ownL, Int.fdiv_eq_ediv_of_nonneg, Int.reduceToNat, Int.reducePow, IntKind.bits, convV, ne_eq, not_false_eq_true, not_true_eq_false, Int.reduceNeg, Int.reduceAdd, Int.reduceSub, Int.reduceLT, Int.reduceLE, extractV, decide_true, decide_false, Int.reduceEq, mkFuncV, stBStreamFind, beq_self_eq_true, tyB0StreamFind, h0, h1, h7, h8, g1, Tryd.results61]
    rw [← this]; exact hR _ m1
  have g1 : (i : Int) < (xs.length : Int) := by omega
  have v2 := hs.mild m1
  have hix := v2.index (P := Tryd.prog) (k := .i64) (i := (i : Int)) Ty.elem22 Ty.siz55 (by omega) (by rw [smL_len]; omega)
  rw [Int.toNat_natCast] at hix
  have hld := v2.loadA (smL_at hil) Ty.agg55 Ty.siz55
  simp (disch := first | omega | ((simp only [nxBStreamFind]) <;> omega) | decide) only [↓stepPre, stepPost, ↓W_cond, ↓W_block, ↓reduceIte, Nat.reduceEqDiff, Nat.reduceLT, Nat.reduceLeDiff, ret0, stVar, isTup, Value.cells, Nat.le_refl, Nat.reduceAdd, Nat.reduceMul, Nat.reduceSub, env0, binV, intV, reduceCtorEq, pickV, nilCheckV, ptrV, unV, true_and, and_true, Nat.add_zero, Nat.zero_add, Rt, resultsV, allV, resV, Bool.not_true, Bool.not_false, calleeV, builtinV, eqV, fieldAddrV, ldVar, stN_own, stN_ownL, Int.fdiv_eq_ediv_of_nonneg, Int.reduceToNat, Int.reducePow, IntKind.bits, convV, ne_eq, not_false_eq_true, not_true_eq_false, Int.reduceNeg, Int.reduceAdd, Int.reduceSub, Int.reduceLT, Int.reduceLE, extractV, decide_true, decide_false, Int.reduceEq, mkFuncV, stBStreamFind, beq_self_eq_true, tyB0StreamFind, getL_take, glBStreamFind, h0, h1, h7, h8, g1, hix, hld]
  refine isIt_ok ((m1.heap _ hb.2).trans hp) (by omega) fun s2 m2 => ?_
  by_cases hc : xs[i].id = id
  · have : findS xs id = i := by
      unfold findS
      rw [hf, fwd_hit hil (by simp [hitF, atS_eq hil, hc])]
    simp (disch := first | omega | ((simp only [nxBStreamFind]) <;> omega) | decide) only [↓stepPre, stepPost, ↓W_cond, ↓W_block, ↓reduceIte, Nat.reduceEqDiff, Nat.reduceLT, Nat.reduceLeDiff, ret0, stVar, isTup, Value.cells, Nat.le_refl, Nat.reduceAdd, Nat.reduceMul, Nat.reduceSub, env0, binV, intV, reduceCtorEq, pickV, nilCheckV, ptrV, unV, true_and, and_true, Nat.add_zero, Nat.zero_add, Rt, resultsV, allV, resV, Bool.not_true, Bool.not_false, calleeV, builtinV, eqV, fieldAddrV, ldVar, stN_own, stN_ownL, Int.fdiv_eq_ediv_of_nonneg, Int.reduceToNat, Int.reducePow, IntKind.bits, convV, ne_eq, not_false_eq_true, not_true_eq_false, Int.reduceNeg, Int.reduceAdd, Int.reduceSub, Int.reduceLT, Int.reduceLE, extractV, decide_true, decide_false, Int.reduceEq, mkFuncV, stBStreamFind, beq_self_eq_true, tyB0StreamFind, getL_take, glBStreamFind, h0, h1, h7, h8, hc, Tryd.results61]
    rw [← this]; exact hR _ (m1.trans m2)
  · simp (disch := first | omega | ((simp only [nxBStreamFind]) <;> omega) | decide) only [↓stepPre, stepPost, ↓W_cond, ↓W_block, ↓reduceIte, Nat.reduceEqDiff, Nat.reduceLT, Nat.reduceLeDiff, ret0, stVar, isTup, Value.cells, Nat.le_refl, Nat.reduceAdd, Nat.reduceMul, Nat.reduceSub, env0, binV, intV, reduceCtorEq, pickV, nilCheckV, ptrV, unV, true_and, and_true, Nat.add_zero, Nat.zero_add, Rt, resultsV, allV, resV, Bool.not_true, Bool.not_false, calleeV, builtinV, eqV, fieldAddrV, ldVar, stN_own, stN_ownL, Int.fdiv_eq_ediv_of_nonneg, Int.reduceToNat, Int.reducePow, IntKind.bits, convV, ne_eq, not_false_eq_true, not_true_eq_false, Int.reduceNeg, Int.reduceAdd, Int.reduceSub, Int.reduceLT, Int.reduceLE, extractV, decide_true, decide_false, Int.reduceEq, mkFuncV, stBStreamFind, beq_self_eq_true, tyB0StreamFind, getL_take, glBStreamFind, h0, h1, h7, h8, hc]
    exact ⟨hil, m1.trans m2, by rw [hf, fwd_skip hil (by simp [hitF, atS_eq hil, hc])], by simp⟩
theorem sfind_ok {v : Value} {xs : List Sm} {id : Int} (hs : Sl base s 7 v (smL xs)) (hn : xs.length ≤ 2 ^ 62) (hbn : base ≤ s.next) (hR : ∀ s', Mild s s' → R (.int .i64 (findS xs id)) s') : WC Tryd.prog base 57 [v, .int .i64 id] s R := by
  refine WC_open Tryd.func57 rfl ?_
  simp (disch := first | omega | ((simp only [nxBStreamFind]) <;> omega) | decide) only [↓stepPre, stepPost, ↓W_cond, ↓W_block, ↓reduceIte, Nat.reduceEqDiff, Nat.reduceLT, Nat.reduceLeDiff, ret0, stVar, isTup, Value.cells, Nat.le_refl, Nat.reduceAdd, Nat.reduceMul, Nat.reduceSub, env0, binV, intV, reduceCtorEq, pickV, nilCheckV, ptrV, unV, true_and, and_true, Nat.add_zero, Nat.zero_add, Rt, resultsV, allV, resV, Bool.not_true, Bool.not_false, calleeV, builtinV, eqV, fieldAddrV, ldVar, stN_own, stN_ownL, Int.fdiv_eq_ediv_of_nonneg, Int.reduceToNat, Int.reducePow, IntKind.bits, convV, ne_eq, not_false_eq_true, not_true_eq_false, Int.reduceNeg, Int.reduceAdd, Int.reduceSub, Int.reduceLT, Int.reduceLE, extractV, decide_true, decide_false, Int.reduceEq, mkFuncV, stBStreamFind, beq_self_eq_true, tyB0StreamFind]
  refine indexIt_ok (hs.mild (.alloc _ _)) hn (Ab.heap_alloc_new _ _) (by simp only [Ab.next_alloc]; omega) fun s' m' => ?_
  simp (disch := first | omega | ((simp only [nxBStreamFind]) <;> omega) | decide) only [↓stepPre, stepPost, ↓W_cond, ↓W_block, ↓reduceIte, Nat.reduceEqDiff, Nat.reduceLT, Nat.reduceLeDiff, ret0, stVar, isTup, Value.cells, Nat.le_refl, Nat.reduceAdd, Nat.reduceMul, Nat.reduceSub, env0, binV, intV, reduceCtorEq, pickV, nilCheckV, ptrV, unV, true_and, and_true, Nat.add_zero, Nat.zero_add, Rt, resultsV, allV, resV, Bool.not_true, Bool.not_false, calleeV, builtinV, eqV, fieldAddrV, ldVar, stN_own, stN_ownL, Int.fdiv_eq_ediv_of_nonneg, Int.reduceToNat, Int.reducePow, IntKind.bits, convV, ne_eq, not_false_eq_true, not_true_eq_false, Int.reduceNeg, Int.reduceAdd, Int.reduceSub, Int.reduceLT, Int.reduceLE, extractV, decide_true, decide_false, Int.reduceEq, mkFuncV, stBStreamFind, beq_self_eq_true, tyB0StreamFind, Tryd.results57]
  exact hR _ (Mild.trans (.alloc _ _) m')
end Go.Proofs.YthjpfllmecpliaaDoor
