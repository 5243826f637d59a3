/- Where a stream is, as contracts. -/
import Derived.Test.YtfdpegnbbphhhaaDoorTypes
import Derived.Test.YtfdpegnbbphhhaaDoorRow0
import Derived.Test.YtfdpegnbbphhhaaDoorAbC
import Derived.Test.YtfdpegnbbphhhaaDoorPure
import Derived.Test.YtfdpegnbbphhhaaDoorBoxes
import Derived.Test.YtfdpegnbbphhhaaDoorStreamList
set_option linter.all false
set_option maxRecDepth 20000
namespace Go.Proofs.YtfdpegnbbphhhaaDoor
open Go Go.Ab
variable {base : Nat} [Bok base] {s : St} {R : Value → St → Prop}
/-- The first number from k on, of so many, at which something is not 0. -/
def fwd (f : Nat → Int) : Nat → Nat → Option Nat
  | _, 0 => none
  | k, m + 1 => if f k = 0 then fwd f (k + 1) m else some k
theorem fwd_skip {f : Nat → Int} {i n : Nat} (h : i < n) (h0 : f i = 0) : fwd f i (n - i) = fwd f (i + 1) (n - (i + 1)) := by
  obtain ⟨m, hm⟩ : ∃ m, n - i = m + 1 := ⟨n - i - 1, by omega⟩
  rw [hm, fwd, if_pos h0, show n - (i + 1) = m by omega]
theorem fwd_hit {f : Nat → Int} {i n : Nat} (h : i < n) (h0 : f i ≠ 0) : fwd f i (n - i) = some i := by
  obtain ⟨m, hm⟩ : ∃ m, n - i = m + 1 := ⟨n - i - 1, by omega⟩
  rw [hm, fwd, if_neg h0]
theorem fwd_some {f : Nat → Int} : ∀ {m k i : Nat}, fwd f k m = some i → k ≤ i ∧ i < k + m ∧ f i ≠ 0 ∧ ∀ j, k ≤ j → j < i → f j = 0 := by
  intro m
  induction m with
  | zero => intro k i h; cases h
  | succ m ih =>
    intro k i h
    rw [fwd] at h
    split at h
    · rename_i h0
      obtain ⟨h1, h2, h3, h4⟩ := ih h
      refine ⟨by omega, by omega, h3, fun j hj hji => ?_⟩
      by_cases hjk : j = k
      · rw [hjk]; exact h0
      · exact h4 j (by omega) hji
    · rename_i h0
      cases h
      exact ⟨Nat.le_refl _, by omega, h0, fun j hj hji => by omega⟩
theorem fwd_none {f : Nat → Int} : ∀ {m k : Nat}, fwd f k m = none → ∀ j, k ≤ j → j < k + m → f j = 0 := by
  intro m
  induction m with
  | zero => intro k h j h1 h2; omega
  | succ m ih =>
    intro k h j h1 h2
    rw [fwd] at h
    split at h
    · rename_i h0
      by_cases hjk : j = k
      · rw [hjk]; exact h0
      · exact ih h j (by omega) (by omega)
    · cases h
def smZ : Sm := ⟨0, 0, 0, 0, 0, 0, 0⟩
def atS (xs : List Sm) (i : Nat) : Sm := xs.getD i smZ
theorem atS_eq {xs : List Sm} {i : Nat} (h : i < xs.length) : atS xs i = xs[i] := by simp [atS, h]
def hitF (xs : List Sm) (id : Int) (i : Nat) : Int := if (atS xs i).id = id then 1 else 0
def findS (xs : List Sm) (id : Int) : Int := match fwd (hitF xs id) 0 xs.length with | some i => i | none => -1
theorem findS_le {xs : List Sm} {i : Nat} (h : i < xs.length) : 0 ≤ findS xs (atS xs i).id ∧ findS xs (atS xs i).id ≤ i := by
  unfold findS
  split
  · rename_i k hk
    obtain ⟨h1, h2, h3, h4⟩ := fwd_some hk
    refine ⟨by omega, ?_⟩
    by_cases hc : k ≤ i
    · omega
    · have := h4 i (by omega) (by omega)
      simp [hitF] at this
  · rename_i hk
    have := fwd_none hk i (by omega) (by omega)
    simp [hitF] at this
theorem isIt_ok {x : Sm} {p : Nat} {id : Int} (hp : s.heap p = .row [.int .i64 id]) (hb : base ≤ p ∧ p < s.next) (hR : ∀ s', Mild s s' → R (.bool (decide (x.id = id))) s') : WC Tryd.prog base 50 [.agg x.c.toArray, .pointer (some ⟨p, 0, none⟩)] s R := by
  refine WC_open Tryd.func50 rfl ?_
  simp (disch := first | omega | ((simp only [Ab.next_alloc, Ab.next_upd, List.length_cons, List.length_nil, ne_eq, not_true_eq_false, not_false_eq_true]) <;> omega) | decide) only [↓stepPre, stepPost, ↓W_cond, ↓W_block, ↓reduceIte, Nat.reduceEqDiff, Nat.reduceLT, Nat.reduceLeDiff, List.size_toArray, List.length_cons, List.length_nil, ret0, stVar, isTup, Value.cells, List.set_cons_zero, List.set_cons_succ, Nat.le_refl, Nat.reduceAdd, Nat.reduceMul, Nat.reduceSub, env0, List.getD_cons_zero, List.getD_cons_succ, binV, intV, reduceCtorEq, List.getElem?_cons_succ, List.getElem?_cons_zero, pickV, nilCheckV, ptrV, unV, true_and, and_true, List.map_cons, List.map_nil, Nat.add_zero, Nat.zero_add, Option.isNone_none, Option.isNone_some, Rt, resultsV, allV, resV, Bool.not_true, Bool.not_false, calleeV, builtinV, Option.map_some, Option.map_none, List.cons_append, List.nil_append, List.append_nil, Array.toList_append, List.toList_toArray, eqV, fieldAddrV, ldVar, stN_own, stN_ownL, Int.cast_ofNat_Int, Int.fdiv_eq_ediv_of_nonneg, Int.reduceToNat, Nat.min_eq_left, Int.reducePow, IntKind.bits, convV, ne_eq, not_false_eq_true, not_true_eq_false, Int.reduceNeg, Int.reduceAdd, Int.reduceSub, Int.reduceLT, Int.reduceLE, Option.isSome_some, extractV, decide_true, decide_false, Int.reduceEq, List.getElem?_toArray, mkFuncV, List.map_toArray, beq_self_eq_true, Ty.t30, Tryd.underlying30, Ty.t22, Tryd.underlying22, Ty.t28, Tryd.underlying28, Ty.t3, Tryd.underlying3, Ty.t2, Tryd.underlying2, Ty.t4, Tryd.underlying4, Ty.t57, Tryd.underlying57, getL_take, List.drop_zero, List.drop_succ_cons, List.take_succ_cons, List.take_zero, List.take_nil, hp, Tryd.results50]
  exact hR _ (.alloc _ _)
theorem indexIt_ok {v : Value} {xs : List Sm} {p : Nat} {id : Int} (hs : Sl base s 7 v (smL xs)) (hn : xs.length ≤ 2 ^ 62) (hp : s.heap p = .row [.int .i64 id]) (hb : base ≤ p ∧ p < s.next) (hR : ∀ s', Mild s s' → R (.int .i64 (findS xs id)) s') :
    WC Tryd.prog base 49 [v, .func (.func 50) #[] #[.pointer (some ⟨p, 0, none⟩)]] s R := by
  refine WC_open Tryd.func49 rfl ?_
  have hlen := hs.len (P := Tryd.prog) (ts := []) Ty.elem22 Ty.arr22
  rw [smL_len] at hlen
  simp (disch := first | omega | ((simp only [Ab.next_alloc, Ab.next_upd, List.length_cons, List.length_nil, ne_eq, not_true_eq_false, not_false_eq_true]) <;> omega) | decide) only [↓stepPre, stepPost, ↓W_cond, ↓W_block, ↓reduceIte, Nat.reduceEqDiff, Nat.reduceLT, Nat.reduceLeDiff, List.size_toArray, List.length_cons, List.length_nil, ret0, stVar, isTup, Value.cells, List.set_cons_zero, List.set_cons_succ, Nat.le_refl, Nat.reduceAdd, Nat.reduceMul, Nat.reduceSub, env0, List.getD_cons_zero, List.getD_cons_succ, binV, intV, reduceCtorEq, List.getElem?_cons_succ, List.getElem?_cons_zero, pickV, nilCheckV, ptrV, unV, true_and, and_true, List.map_cons, List.map_nil, Nat.add_zero, Nat.zero_add, Option.isNone_none, Option.isNone_some, Rt, resultsV, allV, resV, Bool.not_true, Bool.not_false, calleeV, builtinV, Option.map_some, Option.map_none, List.cons_append, List.nil_append, List.append_nil, Array.toList_append, List.toList_toArray, eqV, fieldAddrV, ldVar, stN_own, stN_ownL, Int.cast_ofNat_Int, Int.fdiv_eq_ediv_of_nonneg, Int.reduceToNat, Nat.min_eq_left, Int.reducePow, IntKind.bits, convV, ne_eq, not_false_eq_true, not_true_eq_false, Int.reduceNeg, Int.reduceAdd, Int.reduceSub, Int.reduceLT, Int.reduceLE, Option.isSome_some, extractV, decide_true, decide_false, Int.reduceEq, List.getElem?_toArray, mkFuncV, List.map_toArray, beq_self_eq_true, Ty.t30, Tryd.underlying30, Ty.t22, Tryd.underlying22, Ty.t28, Tryd.underlying28, Ty.t3, Tryd.underlying3, Ty.t2, Tryd.underlying2, Ty.t4, Tryd.underlying4, Ty.t57, Tryd.underlying57, hlen]
  refine W_loop_ind xs.length (fun i e s1 => Mild s s1 ∧ fwd (hitF xs id) 0 xs.length = fwd (hitF xs id) i (xs.length - i) ∧ e 0 = v ∧ e 1 = .func (.func 50) #[] #[.pointer (some ⟨p, 0, none⟩)] ∧ e 7 = .int .i64 (xs.length : Int) ∧ e 8 = .int .i64 (i : Int)) ?_ ⟨.refl _, rfl, rfl, rfl, rfl, rfl⟩
  rintro i e s1 hi ⟨m1, hf, h0, h1, h7, h8⟩
  have n1 := m1.next
  by_cases hil : i < xs.length
  rotate_left
  · have g1 : ¬ (i : Int) < (xs.length : Int) := by omega
    have : findS xs id = -1 := by
      unfold findS
      rw [hf, show xs.length - i = 0 by omega]; rfl
    simp (disch := first | omega | ((simp only [Ab.next_alloc, Ab.next_upd, List.length_cons, List.length_nil, ne_eq, not_true_eq_false, not_false_eq_true]) <;> omega) | decide) only [↓stepPre, stepPost, ↓W_cond, ↓W_block, ↓reduceIte, Nat.reduceEqDiff, Nat.reduceLT, Nat.reduceLeDiff, List.size_toArray, List.length_cons, List.length_nil, ret0, stVar, isTup, Value.cells, List.set_cons_zero, List.set_cons_succ, Nat.le_refl, Nat.reduceAdd, Nat.reduceMul, Nat.reduceSub, env0, List.getD_cons_zero, List.getD_cons_succ, binV, intV, reduceCtorEq, List.getElem?_cons_succ, List.getElem?_cons_zero, pickV, nilCheckV, ptrV, unV, true_and, and_true, List.map_cons, List.map_nil, Nat.add_zero, Nat.zero_add, Option.isNone_none, Option.isNone_some, Rt, resultsV, allV, resV, Bool.not_true, Bool.not_false, calleeV, builtinV, Option.map_some, Option.map_none, List.cons_append, List.nil_append, List.append_nil, Array.toList_append, List.toList_toArray, eqV, fieldAddrV, ldVar, stN_own, stN_ownL, Int.cast_ofNat_Int, Int.fdiv_eq_ediv_of_nonneg, Int.reduceToNat, Nat.min_eq_left, Int.reducePow, IntKind.bits, convV, ne_eq, not_false_eq_true, not_true_eq_false, Int.reduceNeg, Int.reduceAdd, Int.reduceSub, Int.reduceLT, Int.reduceLE, Option.isSome_some, extractV, decide_true, decide_false, Int.reduceEq, List.getElem?_toArray, mkFuncV, List.map_toArray, beq_self_eq_true, Ty.t30, Tryd.underlying30, Ty.t22, Tryd.underlying22, Ty.t28, Tryd.underlying28, Ty.t3, Tryd.underlying3, Ty.t2, Tryd.underlying2, Ty.t4, Tryd.underlying4, Ty.t57, Tryd.underlying57, h0, h1, h7, h8, g1, Tryd.results49]
    rw [← this]; exact hR _ m1
  have g1 : (i : Int) < (xs.length : Int) := by omega
  have v2 := hs.mild m1
  have hix := v2.index (P := Tryd.prog) (k := .i64) (i := (i : Int)) Ty.elem22 Ty.siz30 (by omega) (by rw [smL_len]; omega)
  rw [Int.toNat_natCast] at hix
  have hld := v2.loadA (smL_at hil) Ty.agg30 Ty.siz30
  simp (disch := first | omega | ((simp only [Ab.next_alloc, Ab.next_upd, List.length_cons, List.length_nil, ne_eq, not_true_eq_false, not_false_eq_true]) <;> omega) | decide) only [↓stepPre, stepPost, ↓W_cond, ↓W_block, ↓reduceIte, Nat.reduceEqDiff, Nat.reduceLT, Nat.reduceLeDiff, List.size_toArray, List.length_cons, List.length_nil, ret0, stVar, isTup, Value.cells, List.set_cons_zero, List.set_cons_succ, Nat.le_refl, Nat.reduceAdd, Nat.reduceMul, Nat.reduceSub, env0, List.getD_cons_zero, List.getD_cons_succ, binV, intV, reduceCtorEq, List.getElem?_cons_succ, List.getElem?_cons_zero, pickV, nilCheckV, ptrV, unV, true_and, and_true, List.map_cons, List.map_nil, Nat.add_zero, Nat.zero_add, Option.isNone_none, Option.isNone_some, Rt, resultsV, allV, resV, Bool.not_true, Bool.not_false, calleeV, builtinV, Option.map_some, Option.map_none, List.cons_append, List.nil_append, List.append_nil, Array.toList_append, List.toList_toArray, eqV, fieldAddrV, ldVar, stN_own, stN_ownL, Int.cast_ofNat_Int, Int.fdiv_eq_ediv_of_nonneg, Int.reduceToNat, Nat.min_eq_left, Int.reducePow, IntKind.bits, convV, ne_eq, not_false_eq_true, not_true_eq_false, Int.reduceNeg, Int.reduceAdd, Int.reduceSub, Int.reduceLT, Int.reduceLE, Option.isSome_some, extractV, decide_true, decide_false, Int.reduceEq, List.getElem?_toArray, mkFuncV, List.map_toArray, beq_self_eq_true, Ty.t30, Tryd.underlying30, Ty.t22, Tryd.underlying22, Ty.t28, Tryd.underlying28, Ty.t3, Tryd.underlying3, Ty.t2, Tryd.underlying2, Ty.t4, Tryd.underlying4, Ty.t57, Tryd.underlying57, getL_take, List.drop_zero, List.drop_succ_cons, List.take_succ_cons, List.take_zero, List.take_nil, h0, h1, h7, h8, g1, hix, hld]
  refine isIt_ok ((m1.heap _ hb.2).trans hp) (by omega) fun s2 m2 => ?_
  by_cases hc : xs[i].id = id
  · have : findS xs id = i := by
      unfold findS
      rw [hf, fwd_hit hil (by simp [hitF, atS_eq hil, hc])]
    simp (disch := first | omega | ((simp only [Ab.next_alloc, Ab.next_upd, List.length_cons, List.length_nil, ne_eq, not_true_eq_false, not_false_eq_true]) <;> omega) | decide) only [↓stepPre, stepPost, ↓W_cond, ↓W_block, ↓reduceIte, Nat.reduceEqDiff, Nat.reduceLT, Nat.reduceLeDiff, List.size_toArray, List.length_cons, List.length_nil, ret0, stVar, isTup, Value.cells, List.set_cons_zero, List.set_cons_succ, Nat.le_refl, Nat.reduceAdd, Nat.reduceMul, Nat.reduceSub, env0, List.getD_cons_zero, List.getD_cons_succ, binV, intV, reduceCtorEq, List.getElem?_cons_succ, List.getElem?_cons_zero, pickV, nilCheckV, ptrV, unV, true_and, and_true, List.map_cons, List.map_nil, Nat.add_zero, Nat.zero_add, Option.isNone_none, Option.isNone_some, Rt, resultsV, allV, resV, Bool.not_true, Bool.not_false, calleeV, builtinV, Option.map_some, Option.map_none, List.cons_append, List.nil_append, List.append_nil, Array.toList_append, List.toList_toArray, eqV, fieldAddrV, ldVar, stN_own, stN_ownL, Int.cast_ofNat_Int, Int.fdiv_eq_ediv_of_nonneg, Int.reduceToNat, Nat.min_eq_left, Int.reducePow, IntKind.bits, convV, ne_eq, not_false_eq_true, not_true_eq_false, Int.reduceNeg, Int.reduceAdd, Int.reduceSub, Int.reduceLT, Int.reduceLE, Option.isSome_some, extractV, decide_true, decide_false, Int.reduceEq, List.getElem?_toArray, mkFuncV, List.map_toArray, beq_self_eq_true, Ty.t30, Tryd.underlying30, Ty.t22, Tryd.underlying22, Ty.t28, Tryd.underlying28, Ty.t3, Tryd.underlying3, Ty.t2, Tryd.underlying2, Ty.t4, Tryd.underlying4, Ty.t57, Tryd.underlying57, getL_take, List.drop_zero, List.drop_succ_cons, List.take_succ_cons, List.take_zero, List.take_nil, h0, h1, h7, h8, hc, Tryd.results49]
    rw [← this]; exact hR _ (m1.trans m2)
  · simp (disch := first | omega | ((simp only [Ab.next_alloc, Ab.next_upd, List.length_cons, List.length_nil, ne_eq, not_true_eq_false, not_false_eq_true]) <;> omega) | decide) only [↓stepPre, stepPost, ↓W_cond, ↓W_block, ↓reduceIte, Nat.reduceEqDiff, Nat.reduceLT, Nat.reduceLeDiff, List.size_toArray, List.length_cons, List.length_nil, ret0, stVar, isTup, Value.cells, List.set_cons_zero, List.set_cons_succ, Nat.le_refl, Nat.reduceAdd, Nat.reduceMul, Nat.reduceSub, env0, List.getD_cons_zero, List.getD_cons_succ, binV, intV, reduceCtorEq, List.getElem?_cons_succ, List.getElem?_cons_zero, pickV, nilCheckV, ptrV, unV, true_and, and_true, List.map_cons, List.map_nil, Nat.add_zero, Nat.zero_add, Option.isNone_none, Option.isNone_some, Rt, resultsV, allV, resV, Bool.not_true, Bool.not_false, calleeV, builtinV, Option.map_some, Option.map_none, List.cons_append, List.nil_append, List.append_nil, Array.toList_append, List.toList_toArray, eqV, fieldAddrV, ldVar, stN_own, stN_ownL, Int.cast_ofNat_Int, Int.fdiv_eq_ediv_of_nonneg, Int.reduceToNat, Nat.min_eq_left, Int.reducePow, IntKind.bits, convV, ne_eq, not_false_eq_true, not_true_eq_false, Int.reduceNeg, Int.reduceAdd, Int.reduceSub, Int.reduceLT, Int.reduceLE, Option.isSome_some, extractV, decide_true, decide_false, Int.reduceEq, List.getElem?_toArray, mkFuncV, List.map_toArray, beq_self_eq_true, Ty.t30, Tryd.underlying30, Ty.t22, Tryd.underlying22, Ty.t28, Tryd.underlying28, Ty.t3, Tryd.underlying3, Ty.t2, Tryd.underlying2, Ty.t4, Tryd.underlying4, Ty.t57, Tryd.underlying57, getL_take, List.drop_zero, List.drop_succ_cons, List.take_succ_cons, List.take_zero, List.take_nil, h0, h1, h7, h8, hc]
    exact ⟨hil, m1.trans m2, by rw [hf, fwd_skip hil (by simp [hitF, atS_eq hil, hc])], by simp⟩
theorem sfind_ok {v : Value} {xs : List Sm} {id : Int} (hs : Sl base s 7 v (smL xs)) (hn : xs.length ≤ 2 ^ 62) (hbn : base ≤ s.next) (hR : ∀ s', Mild s s' → R (.int .i64 (findS xs id)) s') : WC Tryd.prog base 42 [v, .int .i64 id] s R := by
  refine WC_open Tryd.func42 rfl ?_
  simp (disch := first | omega | ((simp only [Ab.next_alloc, Ab.next_upd, List.length_cons, List.length_nil, ne_eq, not_true_eq_false, not_false_eq_true]) <;> omega) | decide) only [↓stepPre, stepPost, ↓W_cond, ↓W_block, ↓reduceIte, Nat.reduceEqDiff, Nat.reduceLT, Nat.reduceLeDiff, List.size_toArray, List.length_cons, List.length_nil, ret0, stVar, isTup, Value.cells, List.set_cons_zero, List.set_cons_succ, Nat.le_refl, Nat.reduceAdd, Nat.reduceMul, Nat.reduceSub, env0, List.getD_cons_zero, List.getD_cons_succ, binV, intV, reduceCtorEq, List.getElem?_cons_succ, List.getElem?_cons_zero, pickV, nilCheckV, ptrV, unV, true_and, and_true, List.map_cons, List.map_nil, Nat.add_zero, Nat.zero_add, Option.isNone_none, Option.isNone_some, Rt, resultsV, allV, resV, Bool.not_true, Bool.not_false, calleeV, builtinV, Option.map_some, Option.map_none, List.cons_append, List.nil_append, List.append_nil, Array.toList_append, List.toList_toArray, eqV, fieldAddrV, ldVar, stN_own, stN_ownL, Int.cast_ofNat_Int, Int.fdiv_eq_ediv_of_nonneg, Int.reduceToNat, Nat.min_eq_left, Int.reducePow, IntKind.bits, convV, ne_eq, not_false_eq_true, not_true_eq_false, Int.reduceNeg, Int.reduceAdd, Int.reduceSub, Int.reduceLT, Int.reduceLE, Option.isSome_some, extractV, decide_true, decide_false, Int.reduceEq, List.getElem?_toArray, mkFuncV, List.map_toArray, beq_self_eq_true, Ty.t30, Tryd.underlying30, Ty.t22, Tryd.underlying22, Ty.t28, Tryd.underlying28, Ty.t3, Tryd.underlying3, Ty.t2, Tryd.underlying2, Ty.t4, Tryd.underlying4, Ty.t57, Tryd.underlying57]
  refine indexIt_ok (hs.mild (.alloc _ _)) hn (Ab.heap_alloc_new _ _) (by simp only [Ab.next_alloc]; omega) fun s' m' => ?_
  simp (disch := first | omega | ((simp only [Ab.next_alloc, Ab.next_upd, List.length_cons, List.length_nil, ne_eq, not_true_eq_false, not_false_eq_true]) <;> omega) | decide) only [↓stepPre, stepPost, ↓W_cond, ↓W_block, ↓reduceIte, Nat.reduceEqDiff, Nat.reduceLT, Nat.reduceLeDiff, List.size_toArray, List.length_cons, List.length_nil, ret0, stVar, isTup, Value.cells, List.set_cons_zero, List.set_cons_succ, Nat.le_refl, Nat.reduceAdd, Nat.reduceMul, Nat.reduceSub, env0, List.getD_cons_zero, List.getD_cons_succ, binV, intV, reduceCtorEq, List.getElem?_cons_succ, List.getElem?_cons_zero, pickV, nilCheckV, ptrV, unV, true_and, and_true, List.map_cons, List.map_nil, Nat.add_zero, Nat.zero_add, Option.isNone_none, Option.isNone_some, Rt, resultsV, allV, resV, Bool.not_true, Bool.not_false, calleeV, builtinV, Option.map_some, Option.map_none, List.cons_append, List.nil_append, List.append_nil, Array.toList_append, List.toList_toArray, eqV, fieldAddrV, ldVar, stN_own, stN_ownL, Int.cast_ofNat_Int, Int.fdiv_eq_ediv_of_nonneg, Int.reduceToNat, Nat.min_eq_left, Int.reducePow, IntKind.bits, convV, ne_eq, not_false_eq_true, not_true_eq_false, Int.reduceNeg, Int.reduceAdd, Int.reduceSub, Int.reduceLT, Int.reduceLE, Option.isSome_some, extractV, decide_true, decide_false, Int.reduceEq, List.getElem?_toArray, mkFuncV, List.map_toArray, beq_self_eq_true, Ty.t30, Tryd.underlying30, Ty.t22, Tryd.underlying22, Ty.t28, Tryd.underlying28, Ty.t3, Tryd.underlying3, Ty.t2, Tryd.underlying2, Ty.t4, Tryd.underlying4, Ty.t57, Tryd.underlying57, Tryd.results42]
  exact hR _ (Mild.trans (.alloc _ _) m')
theorem srfind_p {v : Value} {xs : List Sm} {id : Int} (hs : Sl base s 7 v (smL xs)) (hn : xs.length ≤ 2 ^ 62) (hR : R (.int .i64 (findS xs id)) s) : WC Tryd.prog base 33 [v, .int .i64 id] s R := by
  refine WC_open Tryd.func33 rfl ?_
  have hlen := hs.len (P := Tryd.prog) (ts := []) Ty.elem22 Ty.arr22
  rw [smL_len] at hlen
  simp (disch := first | omega | ((simp only [Ab.next_alloc, Ab.next_upd, List.length_cons, List.length_nil, ne_eq, not_true_eq_false, not_false_eq_true]) <;> omega) | decide) only [↓stepPre, stepPost, ↓W_cond, ↓W_block, ↓reduceIte, Nat.reduceEqDiff, Nat.reduceLT, Nat.reduceLeDiff, List.size_toArray, List.length_cons, List.length_nil, ret0, stVar, isTup, Value.cells, List.set_cons_zero, List.set_cons_succ, Nat.le_refl, Nat.reduceAdd, Nat.reduceMul, Nat.reduceSub, env0, List.getD_cons_zero, List.getD_cons_succ, binV, intV, reduceCtorEq, List.getElem?_cons_succ, List.getElem?_cons_zero, pickV, nilCheckV, ptrV, unV, true_and, and_true, List.map_cons, List.map_nil, Nat.add_zero, Nat.zero_add, Option.isNone_none, Option.isNone_some, Rt, resultsV, allV, resV, Bool.not_true, Bool.not_false, calleeV, builtinV, Option.map_some, Option.map_none, List.cons_append, List.nil_append, List.append_nil, Array.toList_append, List.toList_toArray, eqV, fieldAddrV, ldVar, stN_own, stN_ownL, Int.cast_ofNat_Int, Int.fdiv_eq_ediv_of_nonneg, Int.reduceToNat, Nat.min_eq_left, Int.reducePow, IntKind.bits, convV, ne_eq, not_false_eq_true, not_true_eq_false, Int.reduceNeg, Int.reduceAdd, Int.reduceSub, Int.reduceLT, Int.reduceLE, Option.isSome_some, extractV, decide_true, decide_false, Int.reduceEq, List.getElem?_toArray, mkFuncV, List.map_toArray, beq_self_eq_true, Ty.t30, Tryd.underlying30, Ty.t22, Tryd.underlying22, Ty.t28, Tryd.underlying28, Ty.t3, Tryd.underlying3, Ty.t2, Tryd.underlying2, Ty.t4, Tryd.underlying4, Ty.t57, Tryd.underlying57, hlen]
  refine W_loop_ind xs.length (fun i e s1 => s1 = s ∧ fwd (hitF xs id) 0 xs.length = fwd (hitF xs id) i (xs.length - i) ∧ e 0 = v ∧ e 1 = .int .i64 id ∧ e 5 = .int .i64 (i : Int)) ?_ ⟨rfl, rfl, rfl, rfl, rfl⟩
  rintro i e _ hi ⟨rfl, hf, h0, h1, h5⟩
  by_cases hil : i < xs.length
  rotate_left
  · have g1 : ¬ (i : Int) < (xs.length : Int) := by omega
    have : findS xs id = -1 := by
      unfold findS
      rw [hf, show xs.length - i = 0 by omega]; rfl
    simp (disch := first | omega | ((simp only [Ab.next_alloc, Ab.next_upd, List.length_cons, List.length_nil, ne_eq, not_true_eq_false, not_false_eq_true]) <;> omega) | decide) only [↓stepPre, stepPost, ↓W_cond, ↓W_block, ↓reduceIte, Nat.reduceEqDiff, Nat.reduceLT, Nat.reduceLeDiff, List.size_toArray, List.length_cons, List.length_nil, ret0, stVar, isTup, Value.cells, List.set_cons_zero, List.set_cons_succ, Nat.le_refl, Nat.reduceAdd, Nat.reduceMul, Nat.reduceSub, env0, List.getD_cons_zero, List.getD_cons_succ, binV, intV, reduceCtorEq, List.getElem?_cons_succ, List.getElem?_cons_zero, pickV, nilCheckV, ptrV, unV, true_and, and_true, List.map_cons, List.map_nil, Nat.add_zero, Nat.zero_add, Option.isNone_none, Option.isNone_some, Rt, resultsV, allV, resV, Bool.not_true, Bool.not_false, calleeV, builtinV, Option.map_some, Option.map_none, List.cons_append, List.nil_append, List.append_nil, Array.toList_append, List.toList_toArray, eqV, fieldAddrV, ldVar, stN_own, stN_ownL, Int.cast_ofNat_Int, Int.fdiv_eq_ediv_of_nonneg, Int.reduceToNat, Nat.min_eq_left, Int.reducePow, IntKind.bits, convV, ne_eq, not_false_eq_true, not_true_eq_false, Int.reduceNeg, Int.reduceAdd, Int.reduceSub, Int.reduceLT, Int.reduceLE, Option.isSome_some, extractV, decide_true, decide_false, Int.reduceEq, List.getElem?_toArray, mkFuncV, List.map_toArray, beq_self_eq_true, Ty.t30, Tryd.underlying30, Ty.t22, Tryd.underlying22, Ty.t28, Tryd.underlying28, Ty.t3, Tryd.underlying3, Ty.t2, Tryd.underlying2, Ty.t4, Tryd.underlying4, Ty.t57, Tryd.underlying57, h0, h1, h5, hlen, g1, Tryd.results33]
    rw [← this]; exact hR
  have g1 : (i : Int) < (xs.length : Int) := by omega
  obtain ⟨b, o, n', c', rfl⟩ := hs.conc (by intro h; have := congrArg List.length h; simp only [smL_len, List.length_nil] at this; omega)
  have hix := hs.index (P := Tryd.prog) (k := .i64) (i := (i : Int)) Ty.elem22 Ty.siz30 (by omega) (by rw [smL_len]; omega)
  rw [Int.toNat_natCast] at hix
  simp only [atP_conc] at hix
  have hld := hs.lds0 (smL_at hil) (x := .int .i64 xs[i].id) rfl
  by_cases hc : xs[i].id = id
  · have : findS xs id = i := by
      unfold findS
      rw [hf, fwd_hit hil (by simp [hitF, atS_eq hil, hc])]
    simp (disch := first | omega | ((simp only [Ab.next_alloc, Ab.next_upd, List.length_cons, List.length_nil, ne_eq, not_true_eq_false, not_false_eq_true]) <;> omega) | decide) only [↓stepPre, stepPost, ↓W_cond, ↓W_block, ↓reduceIte, Nat.reduceEqDiff, Nat.reduceLT, Nat.reduceLeDiff, List.size_toArray, List.length_cons, List.length_nil, ret0, stVar, isTup, Value.cells, List.set_cons_zero, List.set_cons_succ, Nat.le_refl, Nat.reduceAdd, Nat.reduceMul, Nat.reduceSub, env0, List.getD_cons_zero, List.getD_cons_succ, binV, intV, reduceCtorEq, List.getElem?_cons_succ, List.getElem?_cons_zero, pickV, nilCheckV, ptrV, unV, true_and, and_true, List.map_cons, List.map_nil, Nat.add_zero, Nat.zero_add, Option.isNone_none, Option.isNone_some, Rt, resultsV, allV, resV, Bool.not_true, Bool.not_false, calleeV, builtinV, Option.map_some, Option.map_none, List.cons_append, List.nil_append, List.append_nil, Array.toList_append, List.toList_toArray, eqV, fieldAddrV, ldVar, stN_own, stN_ownL, Int.cast_ofNat_Int, Int.fdiv_eq_ediv_of_nonneg, Int.reduceToNat, Nat.min_eq_left, Int.reducePow, IntKind.bits, convV, ne_eq, not_false_eq_true, not_true_eq_false, Int.reduceNeg, Int.reduceAdd, Int.reduceSub, Int.reduceLT, Int.reduceLE, Option.isSome_some, extractV, decide_true, decide_false, Int.reduceEq, List.getElem?_toArray, mkFuncV, List.map_toArray, beq_self_eq_true, Ty.t30, Tryd.underlying30, Ty.t22, Tryd.underlying22, Ty.t28, Tryd.underlying28, Ty.t3, Tryd.underlying3, Ty.t2, Tryd.underlying2, Ty.t4, Tryd.underlying4, Ty.t57, Tryd.underlying57, getL_take, List.drop_zero, List.drop_succ_cons, List.take_succ_cons, List.take_zero, List.take_nil, h0, h1, h5, hlen, g1, hix, hld, hc, Tryd.results33]
    rw [← this]; exact hR
  · simp (disch := first | omega | ((simp only [Ab.next_alloc, Ab.next_upd, List.length_cons, List.length_nil, ne_eq, not_true_eq_false, not_false_eq_true]) <;> omega) | decide) only [↓stepPre, stepPost, ↓W_cond, ↓W_block, ↓reduceIte, Nat.reduceEqDiff, Nat.reduceLT, Nat.reduceLeDiff, List.size_toArray, List.length_cons, List.length_nil, ret0, stVar, isTup, Value.cells, List.set_cons_zero, List.set_cons_succ, Nat.le_refl, Nat.reduceAdd, Nat.reduceMul, Nat.reduceSub, env0, List.getD_cons_zero, List.getD_cons_succ, binV, intV, reduceCtorEq, List.getElem?_cons_succ, List.getElem?_cons_zero, pickV, nilCheckV, ptrV, unV, true_and, and_true, List.map_cons, List.map_nil, Nat.add_zero, Nat.zero_add, Option.isNone_none, Option.isNone_some, Rt, resultsV, allV, resV, Bool.not_true, Bool.not_false, calleeV, builtinV, Option.map_some, Option.map_none, List.cons_append, List.nil_append, List.append_nil, Array.toList_append, List.toList_toArray, eqV, fieldAddrV, ldVar, stN_own, stN_ownL, Int.cast_ofNat_Int, Int.fdiv_eq_ediv_of_nonneg, Int.reduceToNat, Nat.min_eq_left, Int.reducePow, IntKind.bits, convV, ne_eq, not_false_eq_true, not_true_eq_false, Int.reduceNeg, Int.reduceAdd, Int.reduceSub, Int.reduceLT, Int.reduceLE, Option.isSome_some, extractV, decide_true, decide_false, Int.reduceEq, List.getElem?_toArray, mkFuncV, List.map_toArray, beq_self_eq_true, Ty.t30, Tryd.underlying30, Ty.t22, Tryd.underlying22, Ty.t28, Tryd.underlying28, Ty.t3, Tryd.underlying3, Ty.t2, Tryd.underlying2, Ty.t4, Tryd.underlying4, Ty.t57, Tryd.underlying57, getL_take, List.drop_zero, List.drop_succ_cons, List.take_succ_cons, List.take_zero, List.take_nil, h0, h1, h5, hlen, g1, hix, hld, hc]
    exact ⟨hil, by rw [hf, fwd_skip hil (by simp [hitF, atS_eq hil, hc])], by simp⟩
end Go.Proofs.YtfdpegnbbphhhaaDoor
