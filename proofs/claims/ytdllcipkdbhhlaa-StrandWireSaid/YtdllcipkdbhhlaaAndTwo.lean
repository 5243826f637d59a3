/- The package strand: And, as a contract. -/
import Derived.Test.YtdllcipkdbhhlaaAnd
set_option linter.unusedSimpArgs false
set_option linter.unusedVariables false
namespace Go.Proofs.Ytdllcipkdbhhlaa
open Go Go.Ab
variable {base : Nat} {s : St} {R : Value → St → Prop}
/-- What all have in common, at a place. -/
def acc : List (Value × List Nat) → Nat → Nat
  | [], _ => 1
  | p :: l, j => one (p.2.getD j 0) * acc l j
theorem acc_snoc (l : List (Value × List Nat)) (p : Value × List Nat) (j : Nat) : acc (l ++ [p]) j = acc l j * one (p.2.getD j 0) := by
  induction l with
  | nil => simp [acc]
  | cons q l ih => simp only [List.cons_append, acc, ih, Nat.mul_assoc]
theorem acc_le (l : List (Value × List Nat)) (j : Nat) : acc l j ≤ 1 := by
  induction l with
  | nil => exact Nat.le_refl _
  | cons q l ih =>
    simp only [acc]
    have := one_le (q.2.getD j 0)
    calc one (q.2.getD j 0) * acc l j ≤ 1 * 1 := Nat.mul_le_mul this ih
      _ = 1 := rfl
def anYs (ls : List (Value × List Nat)) (m k i : Nat) : List Nat := (List.range m).map fun j => acc (ls.take k) j * (if j < i then one ((ls.getD k (.bool false, [])).2.getD j 0) else 1)
theorem anYs_len (ls : List (Value × List Nat)) (m k i : Nat) : (anYs ls m k i).length = m := by simp [anYs]
theorem anYs_at {ls : List (Value × List Nat)} {m k i j : Nat} (h : j < m) : (anYs ls m k i)[j]? = some (acc (ls.take k) j * (if j < i then one ((ls.getD k (.bool false, [])).2.getD j 0) else 1)) := by simp [anYs, h]
theorem anYs_zero (ls : List (Value × List Nat)) (m : Nat) : anYs ls m 0 0 = List.replicate m 1 := by
  apply List.ext_getElem
  · simp [anYs]
  · intro j h1 h2; simp [anYs, acc]
theorem anYs_next {ls : List (Value × List Nat)} {m k : Nat} (h : k < ls.length) : anYs ls m k m = anYs ls m (k + 1) 0 := by
  apply List.ext_getElem
  · simp [anYs]
  · intro j h1 h2
    rw [anYs_len] at h1
    simp only [anYs, List.getElem_map, List.getElem_range, h1, if_true]
    rw [List.take_succ_eq_append_getElem h, acc_snoc]
    simp [h]
theorem anYs_succ {ls : List (Value × List Nat)} {m k i : Nat} (h : i < m) : (anYs ls m k i).set i (acc (ls.take k) i * one ((ls.getD k (.bool false, [])).2.getD i 0)) = anYs ls m k (i + 1) := by
  apply List.ext_getElem
  · simp [anYs]
  · intro j h1 h2
    rw [List.getElem_set]
    simp only [anYs, List.getElem_map, List.getElem_range]
    by_cases hj : i = j
    · subst hj; simp
    · rw [if_neg hj]
      by_cases hk : j < i
      · rw [if_pos hk, if_pos (by omega)]
      · rw [if_neg hk, if_neg (by omega)]
def andL (ls : List (Value × List Nat)) (m : Nat) : List Nat := (List.range m).map (acc ls)
theorem anYs_full (ls : List (Value × List Nat)) (m : Nat) : anYs ls m ls.length 0 = andL ls m := by
  apply List.ext_getElem
  · simp [anYs, andL]
  · intro j h1 h2; simp [anYs, andL]
theorem andBit {a b : Nat} (ha : a ≤ 1) (hb : b ≤ 1) : andI .u8 (a : Int) (b : Int) = ((a * b : Nat) : Int) := by
  rcases Nat.le_one_iff_eq_zero_or_eq_one.1 ha with rfl | rfl <;> rcases Nat.le_one_iff_eq_zero_or_eq_one.1 hb with rfl | rfl <;> decide
theorem and_ok {v : Value} {ls : List (Value × List Nat)} (hs : Sl base s 1 v (vL ls)) (hl : Strs base s ls) (h0 : ls ≠ []) (hn : ls.length ≤ 1000) (hlen : ∀ p ∈ ls, p.2.length ≤ 100000) (hbn : base ≤ s.next)
    (hR : ∀ s' b m, Mild s s' → s.next ≤ b → b < s'.next → (∃ p ∈ ls, p.2.length = m) → (∀ p ∈ ls, m ≤ p.2.length) → s'.heap b = .row (bC (andL ls m)) → R (.slice (some ⟨b, 0, none⟩) m m) s') :
    WC Try.prog base 19 [v] s R := by
  refine WC_open Try.func19 rfl ?_
  have hpos : 0 < ls.length := List.length_pos_iff.2 h0
  have kl := vL_len ls
  have hnz : ¬ ((ls.length : Nat) : Int) = 0 := by omega
  simp (disch := first | omega | ((simp only [Ab.next_alloc, Ab.next_upd, List.length_cons, List.length_nil, ne_eq, not_true_eq_false, not_false_eq_true]) <;> omega) | decide) only [↓stepPre, stepPost, ↓W_cond, ↓W_block, ↓reduceIte, Nat.reduceEqDiff, Nat.reduceLT, Nat.reduceLeDiff, List.size_toArray, List.length_cons, List.length_nil, ret0, stVar, isTup, Value.cells, List.set_cons_zero, List.set_cons_succ, Nat.le_refl, Nat.reduceAdd, Nat.reduceMul, Nat.reduceSub, env0, List.getD_cons_zero, List.getD_cons_succ, binV, intV, reduceCtorEq, List.getElem?_cons_succ, List.getElem?_cons_zero, pickV, nilCheckV, ptrV, unV, true_and, and_true, List.map_cons, List.map_nil, Nat.add_zero, Nat.zero_add, Option.isNone_none, Option.isNone_some, Rt, resultsV, allV, resV, Bool.not_true, Bool.not_false, calleeV, builtinV, Option.map_some, Option.map_none, List.cons_append, List.nil_append, List.append_nil, Array.toList_append, List.toList_toArray, eqV, fieldAddrV, ldVar, stN_own, stN_ownL, Int.cast_ofNat_Int, Int.fdiv_eq_ediv_of_nonneg, Int.reduceToNat, Nat.min_eq_left, Int.reducePow, IntKind.bits, convV, ne_eq, not_false_eq_true, not_true_eq_false, Int.reduceNeg, Int.reduceAdd, Int.reduceSub, Int.reduceLT, Int.reduceLE, Option.isSome_some, extractV, decide_true, decide_false, Int.reduceEq, List.getElem?_toArray, mkFuncV, List.map_toArray, beq_self_eq_true, Ty.t3, Try.underlying3, Ty.t4, Try.underlying4, Ty.t37, Try.underlying37, Ty.t22, Try.underlying22, Ty.t5, Try.underlying5, Ty.t23, Try.underlying23, Ty.t31, Try.underlying31, hs.len Ty.elem31 Ty.arr31, vL_len, hnz]
  refine minFunc_ok hs hl h0 hn fun p hp hmin => ?_
  have hpl := hlen p hp
  have hsp := hl p hp
  simp (disch := first | omega | ((simp only [Ab.next_alloc, Ab.next_upd, List.length_cons, List.length_nil, ne_eq, not_true_eq_false, not_false_eq_true]) <;> omega) | decide) only [↓stepPre, stepPost, ↓W_cond, ↓W_block, ↓reduceIte, Nat.reduceEqDiff, Nat.reduceLT, Nat.reduceLeDiff, List.size_toArray, List.length_cons, List.length_nil, ret0, stVar, isTup, Value.cells, List.set_cons_zero, List.set_cons_succ, Nat.le_refl, Nat.reduceAdd, Nat.reduceMul, Nat.reduceSub, env0, List.getD_cons_zero, List.getD_cons_succ, binV, intV, reduceCtorEq, List.getElem?_cons_succ, List.getElem?_cons_zero, pickV, nilCheckV, ptrV, unV, true_and, and_true, List.map_cons, List.map_nil, Nat.add_zero, Nat.zero_add, Option.isNone_none, Option.isNone_some, Rt, resultsV, allV, resV, Bool.not_true, Bool.not_false, calleeV, builtinV, Option.map_some, Option.map_none, List.cons_append, List.nil_append, List.append_nil, Array.toList_append, List.toList_toArray, eqV, fieldAddrV, ldVar, stN_own, stN_ownL, Int.cast_ofNat_Int, Int.fdiv_eq_ediv_of_nonneg, Int.reduceToNat, Nat.min_eq_left, Int.reducePow, IntKind.bits, convV, ne_eq, not_false_eq_true, not_true_eq_false, Int.reduceNeg, Int.reduceAdd, Int.reduceSub, Int.reduceLT, Int.reduceLE, Option.isSome_some, extractV, decide_true, decide_false, Int.reduceEq, List.getElem?_toArray, mkFuncV, List.map_toArray, beq_self_eq_true, Ty.t3, Try.underlying3, Ty.t4, Try.underlying4, Ty.t37, Try.underlying37, Ty.t22, Try.underlying22, Ty.t5, Try.underlying5, Ty.t23, Try.underlying23, Ty.t31, Try.underlying31, build1i Ty.elem23 Ty.siz5 Ty.zer5, hsp.len Ty.elem23 Ty.arr23, bL_len]
  generalize hm : p.2.length = m at hpl
  have hmq : ∀ q ∈ ls, m ≤ q.2.length := fun q hq => hm ▸ hmin q hq
  have hone : Sl base (s.alloc (.row [.int .u8 1])) 1 (.slice (some ⟨s.next, 0, none⟩) 1 1) (bL [1]) := newBytes hbn rfl rfl
  refine repeat_ok hone hpl (by simp only [Ab.next_alloc]; omega) fun s2 b hm2 hb1 hb2 hh => ?_
  have hn2 := hm2.next
  simp only [Ab.next_alloc] at hn2 hb1
  have hmA := (Mild.alloc s (.row [.int .u8 1])).trans hm2
  rw [← anYs_zero ls m] at hh
  have hlt : lenB Try.prog [23] [.slice (some ⟨b, 0, none⟩) m m] = some (.int .i64 (m : Int)) := by
    simp [lenB, Ty.arr23, Ty.elem23]
  simp (disch := first | omega | ((simp only [Ab.next_alloc, Ab.next_upd, List.length_cons, List.length_nil, ne_eq, not_true_eq_false, not_false_eq_true]) <;> omega) | decide) only [↓stepPre, stepPost, ↓W_cond, ↓W_block, ↓reduceIte, Nat.reduceEqDiff, Nat.reduceLT, Nat.reduceLeDiff, List.size_toArray, List.length_cons, List.length_nil, ret0, stVar, isTup, Value.cells, List.set_cons_zero, List.set_cons_succ, Nat.le_refl, Nat.reduceAdd, Nat.reduceMul, Nat.reduceSub, env0, List.getD_cons_zero, List.getD_cons_succ, binV, intV, reduceCtorEq, List.getElem?_cons_succ, List.getElem?_cons_zero, pickV, nilCheckV, ptrV, unV, true_and, and_true, List.map_cons, List.map_nil, Nat.add_zero, Nat.zero_add, Option.isNone_none, Option.isNone_some, Rt, resultsV, allV, resV, Bool.not_true, Bool.not_false, calleeV, builtinV, Option.map_some, Option.map_none, List.cons_append, List.nil_append, List.append_nil, Array.toList_append, List.toList_toArray, eqV, fieldAddrV, ldVar, stN_own, stN_ownL, Int.cast_ofNat_Int, Int.fdiv_eq_ediv_of_nonneg, Int.reduceToNat, Nat.min_eq_left, Int.reducePow, IntKind.bits, convV, ne_eq, not_false_eq_true, not_true_eq_false, Int.reduceNeg, Int.reduceAdd, Int.reduceSub, Int.reduceLT, Int.reduceLE, Option.isSome_some, extractV, decide_true, decide_false, Int.reduceEq, List.getElem?_toArray, mkFuncV, List.map_toArray, beq_self_eq_true, Ty.t3, Try.underlying3, Ty.t4, Try.underlying4, Ty.t37, Try.underlying37, Ty.t22, Try.underlying22, Ty.t5, Try.underlying5, Ty.t23, Try.underlying23, Ty.t31, Try.underlying31, hs.len Ty.elem31 Ty.arr31, vL_len]
  refine W_loop_ind ls.length (fun k e s1 => Mild s s1 ∧ s2.next < s1.next ∧ s1.heap s2.next = .row [.slice (some ⟨b, 0, none⟩) m m] ∧ s1.heap b = .row (bC (anYs ls m k 0)) ∧ e 4 = .pointer (some ⟨s2.next, 0, none⟩) ∧ e 18 = v ∧ e 19 = .int .i64 (ls.length : Int) ∧ e 20 = .int .i64 (k : Int)) ?_ ?_
  rotate_left
  · exact ⟨hmA.alloc', by simp only [Ab.next_alloc]; omega, Ab.heap_alloc_new _ _, by rw [Ab.heap_alloc_ne _ _ (by omega)]; exact hh, rfl, rfl, rfl, rfl⟩
  rintro k e s1 hk ⟨hm1, hn1, hbx, hob, h4, h18, h19, h20⟩
  have hs1 := hs.mild hm1
  simp (disch := first | omega | ((simp only [Ab.next_alloc, Ab.next_upd, List.length_cons, List.length_nil, ne_eq, not_true_eq_false, not_false_eq_true]) <;> omega) | decide) only [↓stepPre, stepPost, ↓W_cond, ↓W_block, ↓reduceIte, Nat.reduceEqDiff, Nat.reduceLT, Nat.reduceLeDiff, List.size_toArray, List.length_cons, List.length_nil, ret0, stVar, isTup, Value.cells, List.set_cons_zero, List.set_cons_succ, Nat.le_refl, Nat.reduceAdd, Nat.reduceMul, Nat.reduceSub, env0, List.getD_cons_zero, List.getD_cons_succ, binV, intV, reduceCtorEq, List.getElem?_cons_succ, List.getElem?_cons_zero, pickV, nilCheckV, ptrV, unV, true_and, and_true, List.map_cons, List.map_nil, Nat.add_zero, Nat.zero_add, Option.isNone_none, Option.isNone_some, Rt, resultsV, allV, resV, Bool.not_true, Bool.not_false, calleeV, builtinV, Option.map_some, Option.map_none, List.cons_append, List.nil_append, List.append_nil, Array.toList_append, List.toList_toArray, eqV, fieldAddrV, ldVar, stN_own, stN_ownL, Int.cast_ofNat_Int, Int.fdiv_eq_ediv_of_nonneg, Int.reduceToNat, Nat.min_eq_left, Int.reducePow, IntKind.bits, convV, ne_eq, not_false_eq_true, not_true_eq_false, Int.reduceNeg, Int.reduceAdd, Int.reduceSub, Int.reduceLT, Int.reduceLE, Option.isSome_some, extractV, decide_true, decide_false, Int.reduceEq, List.getElem?_toArray, mkFuncV, List.map_toArray, beq_self_eq_true, Ty.t3, Try.underlying3, Ty.t4, Try.underlying4, Ty.t37, Try.underlying37, Ty.t22, Try.underlying22, Ty.t5, Try.underlying5, Ty.t23, Try.underlying23, Ty.t31, Try.underlying31, h19, h20]
  refine Wif_dec (fun h => ?_) (fun h => ?_)
  · have hkl : k < ls.length := by omega
    have p1 := hs1.index (P := Try.prog) (k := .i64) (i := (k : Int)) Ty.elem31 Ty.siz23 (by omega) (by omega)
    rw [Int.toNat_natCast] at p1
    have p2 := hs1.load1 (P := Try.prog) (vL_at hkl) Ty.agg23 Ty.siz23
    have hw := (hl ls[k] (by simp)).mild hm1
    have hmk := hmq ls[k] (by simp)
    have hgk : ls.getD k (.bool false, []) = ls[k] := by simp [hkl]
    obtain ⟨wa, wn, wc, hwe⟩ := hw.shape
    rw [hwe] at hw p2
    obtain ⟨c1, c2⟩ := sl_cap hw
    rw [bL_len] at c1
    obtain ⟨w', q3, q4, q5, q6⟩ := hw.cut (P := Try.prog) (lo := none) (hi := some (.int .i64 (m : Int))) (mx := none) (l := 0) (h := m) (m := wc) Ty.elem23 Ty.siz5 (fun a len cap hv => by
      cases hv
      simp only [cutV, intOf?]
      rw [if_pos ⟨by omega, by omega, by omega, by omega⟩]; simp) (by omega) (by rw [bL_len]; omega) (by omega)
    have q4' : Sl base s1 1 w' (bL (ls[k].2.take m)) := by
      rw [List.drop_zero] at q4
      simpa [bL, List.map_take] using q4
    have hwlt : ∀ x, inB w' x → x < s.next := fun x hx => (hl ls[k] (by simp)).lt x (by rw [hwe]; exact q5 x hx)
    have hlm : (ls[k].2.take m).length = m := by rw [List.length_take]; omega
    simp (disch := first | omega | ((simp only [Ab.next_alloc, Ab.next_upd, List.length_cons, List.length_nil, ne_eq, not_true_eq_false, not_false_eq_true]) <;> omega) | decide) only [↓stepPre, stepPost, ↓W_cond, ↓W_block, ↓reduceIte, Nat.reduceEqDiff, Nat.reduceLT, Nat.reduceLeDiff, List.size_toArray, List.length_cons, List.length_nil, ret0, stVar, isTup, Value.cells, List.set_cons_zero, List.set_cons_succ, Nat.le_refl, Nat.reduceAdd, Nat.reduceMul, Nat.reduceSub, env0, List.getD_cons_zero, List.getD_cons_succ, binV, intV, reduceCtorEq, List.getElem?_cons_succ, List.getElem?_cons_zero, pickV, nilCheckV, ptrV, unV, true_and, and_true, List.map_cons, List.map_nil, Nat.add_zero, Nat.zero_add, Option.isNone_none, Option.isNone_some, Rt, resultsV, allV, resV, Bool.not_true, Bool.not_false, calleeV, builtinV, Option.map_some, Option.map_none, List.cons_append, List.nil_append, List.append_nil, Array.toList_append, List.toList_toArray, eqV, fieldAddrV, ldVar, stN_own, stN_ownL, Int.cast_ofNat_Int, Int.fdiv_eq_ediv_of_nonneg, Int.reduceToNat, Nat.min_eq_left, Int.reducePow, IntKind.bits, convV, ne_eq, not_false_eq_true, not_true_eq_false, Int.reduceNeg, Int.reduceAdd, Int.reduceSub, Int.reduceLT, Int.reduceLE, Option.isSome_some, extractV, decide_true, decide_false, Int.reduceEq, List.getElem?_toArray, mkFuncV, List.map_toArray, beq_self_eq_true, Ty.t3, Try.underlying3, Ty.t4, Try.underlying4, Ty.t37, Try.underlying37, Ty.t22, Try.underlying22, Ty.t5, Try.underlying5, Ty.t23, Try.underlying23, Ty.t31, Try.underlying31, h4, h18, h20, p1, p2, hbx, hlt, q3]
    refine places_ok q4' ?_
    simp (disch := first | omega | ((simp only [Ab.next_alloc, Ab.next_upd, List.length_cons, List.length_nil, ne_eq, not_true_eq_false, not_false_eq_true]) <;> omega) | decide) only [↓stepPre, stepPost, ↓W_cond, ↓W_block, ↓reduceIte, Nat.reduceEqDiff, Nat.reduceLT, Nat.reduceLeDiff, List.size_toArray, List.length_cons, List.length_nil, ret0, stVar, isTup, Value.cells, List.set_cons_zero, List.set_cons_succ, Nat.le_refl, Nat.reduceAdd, Nat.reduceMul, Nat.reduceSub, env0, List.getD_cons_zero, List.getD_cons_succ, binV, intV, reduceCtorEq, List.getElem?_cons_succ, List.getElem?_cons_zero, pickV, nilCheckV, ptrV, unV, true_and, and_true, List.map_cons, List.map_nil, Nat.add_zero, Nat.zero_add, Option.isNone_none, Option.isNone_some, Rt, resultsV, allV, resV, Bool.not_true, Bool.not_false, calleeV, builtinV, Option.map_some, Option.map_none, List.cons_append, List.nil_append, List.append_nil, Array.toList_append, List.toList_toArray, eqV, fieldAddrV, ldVar, stN_own, stN_ownL, Int.cast_ofNat_Int, Int.fdiv_eq_ediv_of_nonneg, Int.reduceToNat, Nat.min_eq_left, Int.reducePow, IntKind.bits, convV, ne_eq, not_false_eq_true, not_true_eq_false, Int.reduceNeg, Int.reduceAdd, Int.reduceSub, Int.reduceLT, Int.reduceLE, Option.isSome_some, extractV, decide_true, decide_false, Int.reduceEq, List.getElem?_toArray, mkFuncV, List.map_toArray, beq_self_eq_true, Ty.t3, Try.underlying3, Ty.t4, Try.underlying4, Ty.t37, Try.underlying37, Ty.t22, Try.underlying22, Ty.t5, Try.underlying5, Ty.t23, Try.underlying23, Ty.t31, Try.underlying31]
    refine places_range (pb := s1.next) (v := w') (xs := ls[k].2.take m) rfl rfl (by simp only [Ab.next_alloc]; omega) (by omega) (by omega)
      (fun i s3 => Mild s s3 ∧ s1.next + 1 < s3.next ∧ s3.heap s2.next = .row [.slice (some ⟨b, 0, none⟩) m m] ∧ s3.heap b = .row (bC (anYs ls m k i)) ∧ s3.heap s1.next = .row [w'] ∧ Sl base s3 1 w' (bL (ls[k].2.take m))) (fun i s3 h => ⟨h.2.2.2.2.1, h.2.2.2.2.2⟩) ?_ ?_ ?_
    · refine ⟨hm1.alloc'.alloc', by simp only [Ab.next_alloc]; omega, ?_, ?_, ?_, (q4'.mild (.alloc _ _)).mild (.alloc _ _)⟩
      · simp (disch := first | omega | ((simp only [Ab.next_alloc, Ab.next_upd, List.length_cons, List.length_nil, ne_eq, not_true_eq_false, not_false_eq_true]) <;> omega) | decide) only [↓stepPre, stepPost, ↓W_cond, ↓W_block, ↓reduceIte, Nat.reduceEqDiff, Nat.reduceLT, Nat.reduceLeDiff, List.size_toArray, List.length_cons, List.length_nil, ret0, stVar, isTup, Value.cells, List.set_cons_zero, List.set_cons_succ, Nat.le_refl, Nat.reduceAdd, Nat.reduceMul, Nat.reduceSub, env0, List.getD_cons_zero, List.getD_cons_succ, binV, intV, reduceCtorEq, List.getElem?_cons_succ, List.getElem?_cons_zero, pickV, nilCheckV, ptrV, unV, true_and, and_true, List.map_cons, List.map_nil, Nat.add_zero, Nat.zero_add, Option.isNone_none, Option.isNone_some, Rt, resultsV, allV, resV, Bool.not_true, Bool.not_false, calleeV, builtinV, Option.map_some, Option.map_none, List.cons_append, List.nil_append, List.append_nil, Array.toList_append, List.toList_toArray, eqV, fieldAddrV, ldVar, stN_own, stN_ownL, Int.cast_ofNat_Int, Int.fdiv_eq_ediv_of_nonneg, Int.reduceToNat, Nat.min_eq_left, Int.reducePow, IntKind.bits, convV, ne_eq, not_false_eq_true, not_true_eq_false, Int.reduceNeg, Int.reduceAdd, Int.reduceSub, Int.reduceLT, Int.reduceLE, Option.isSome_some, extractV, decide_true, decide_false, Int.reduceEq, List.getElem?_toArray, mkFuncV, List.map_toArray, beq_self_eq_true, hbx]
      · simp (disch := first | omega | ((simp only [Ab.next_alloc, Ab.next_upd, List.length_cons, List.length_nil, ne_eq, not_true_eq_false, not_false_eq_true]) <;> omega) | decide) only [↓stepPre, stepPost, ↓W_cond, ↓W_block, ↓reduceIte, Nat.reduceEqDiff, Nat.reduceLT, Nat.reduceLeDiff, List.size_toArray, List.length_cons, List.length_nil, ret0, stVar, isTup, Value.cells, List.set_cons_zero, List.set_cons_succ, Nat.le_refl, Nat.reduceAdd, Nat.reduceMul, Nat.reduceSub, env0, List.getD_cons_zero, List.getD_cons_succ, binV, intV, reduceCtorEq, List.getElem?_cons_succ, List.getElem?_cons_zero, pickV, nilCheckV, ptrV, unV, true_and, and_true, List.map_cons, List.map_nil, Nat.add_zero, Nat.zero_add, Option.isNone_none, Option.isNone_some, Rt, resultsV, allV, resV, Bool.not_true, Bool.not_false, calleeV, builtinV, Option.map_some, Option.map_none, List.cons_append, List.nil_append, List.append_nil, Array.toList_append, List.toList_toArray, eqV, fieldAddrV, ldVar, stN_own, stN_ownL, Int.cast_ofNat_Int, Int.fdiv_eq_ediv_of_nonneg, Int.reduceToNat, Nat.min_eq_left, Int.reducePow, IntKind.bits, convV, ne_eq, not_false_eq_true, not_true_eq_false, Int.reduceNeg, Int.reduceAdd, Int.reduceSub, Int.reduceLT, Int.reduceLE, Option.isSome_some, extractV, decide_true, decide_false, Int.reduceEq, List.getElem?_toArray, mkFuncV, List.map_toArray, beq_self_eq_true, hob]
      · simp (disch := first | omega | ((simp only [Ab.next_alloc, Ab.next_upd, List.length_cons, List.length_nil, ne_eq, not_true_eq_false, not_false_eq_true]) <;> omega) | decide) only [↓stepPre, stepPost, ↓W_cond, ↓W_block, ↓reduceIte, Nat.reduceEqDiff, Nat.reduceLT, Nat.reduceLeDiff, List.size_toArray, List.length_cons, List.length_nil, ret0, stVar, isTup, Value.cells, List.set_cons_zero, List.set_cons_succ, Nat.le_refl, Nat.reduceAdd, Nat.reduceMul, Nat.reduceSub, env0, List.getD_cons_zero, List.getD_cons_succ, binV, intV, reduceCtorEq, List.getElem?_cons_succ, List.getElem?_cons_zero, pickV, nilCheckV, ptrV, unV, true_and, and_true, List.map_cons, List.map_nil, Nat.add_zero, Nat.zero_add, Option.isNone_none, Option.isNone_some, Rt, resultsV, allV, resV, Bool.not_true, Bool.not_false, calleeV, builtinV, Option.map_some, Option.map_none, List.cons_append, List.nil_append, List.append_nil, Array.toList_append, List.toList_toArray, eqV, fieldAddrV, ldVar, stN_own, stN_ownL, Int.cast_ofNat_Int, Int.fdiv_eq_ediv_of_nonneg, Int.reduceToNat, Nat.min_eq_left, Int.reducePow, IntKind.bits, convV, ne_eq, not_false_eq_true, not_true_eq_false, Int.reduceNeg, Int.reduceAdd, Int.reduceSub, Int.reduceLT, Int.reduceLE, Option.isSome_some, extractV, decide_true, decide_false, Int.reduceEq, List.getElem?_toArray, mkFuncV, List.map_toArray, beq_self_eq_true]
    · rintro i s3 hi ⟨r1, r2, r3, r4, r5, r6⟩ hlp
      rw [hlm] at hi
      have hgx : (ls[k].2.take m).getD i 0 = ls[k].2.getD i 0 := by
        have h1 : i < ls[k].2.length := by omega
        simp [h1, hi]
      have hcl : (bC (anYs ls m k i)).length = m := by rw [bC_len, anYs_len]
      have hget : (bC (anYs ls m k i))[i]? = some (.int .u8 ((acc (ls.take k) i : Nat) : Int)) := by
        simp only [bC, List.getElem?_map, anYs_at hi, Option.map_some, Nat.lt_irrefl, if_false, Nat.mul_one]
      have hand := andBit (acc_le (ls.take k) i) (one_le (ls[k].2.getD i 0))
      have hset := anYs_succ (ls := ls) (k := k) hi
      rw [hgk] at hset
      simp (disch := first | omega | ((simp only [Ab.next_alloc, Ab.next_upd, List.length_cons, List.length_nil, ne_eq, not_true_eq_false, not_false_eq_true]) <;> omega) | decide) only [↓stepPre, stepPost, ↓W_cond, ↓W_block, ↓reduceIte, Nat.reduceEqDiff, Nat.reduceLT, Nat.reduceLeDiff, List.size_toArray, List.length_cons, List.length_nil, ret0, stVar, isTup, Value.cells, List.set_cons_zero, List.set_cons_succ, Nat.le_refl, Nat.reduceAdd, Nat.reduceMul, Nat.reduceSub, env0, List.getD_cons_zero, List.getD_cons_succ, binV, intV, reduceCtorEq, List.getElem?_cons_succ, List.getElem?_cons_zero, pickV, nilCheckV, ptrV, unV, true_and, and_true, List.map_cons, List.map_nil, Nat.add_zero, Nat.zero_add, Option.isNone_none, Option.isNone_some, Rt, resultsV, allV, resV, Bool.not_true, Bool.not_false, calleeV, builtinV, Option.map_some, Option.map_none, List.cons_append, List.nil_append, List.append_nil, Array.toList_append, List.toList_toArray, eqV, fieldAddrV, ldVar, stN_own, stN_ownL, Int.cast_ofNat_Int, Int.fdiv_eq_ediv_of_nonneg, Int.reduceToNat, Nat.min_eq_left, Int.reducePow, IntKind.bits, convV, ne_eq, not_false_eq_true, not_true_eq_false, Int.reduceNeg, Int.reduceAdd, Int.reduceSub, Int.reduceLT, Int.reduceLE, Option.isSome_some, extractV, decide_true, decide_false, Int.reduceEq, List.getElem?_toArray, mkFuncV, List.map_toArray, beq_self_eq_true, Ty.t3, Try.underlying3, Ty.t4, Try.underlying4, Ty.t37, Try.underlying37, Ty.t22, Try.underlying22, Ty.t5, Try.underlying5, Ty.t23, Try.underlying23, Ty.t31, Try.underlying31, putAll, List.zip_cons_cons, List.zip_nil_left, hlp, h4, r3, r4, idx_own hi, hget, hgx, hand, bC_set, hset]
      have hn0 := hmA.next
      refine ⟨hlp, ((r1.upd' (by omega)).upd' (by omega)).upd' (by omega), r2, r5, ?_⟩
      refine r6.ch (X := fun x => s.next ≤ x) (((Ch.upd' (.refl _ _) fun _ => ?_).upd' fun _ => ?_).upd' fun _ => ?_) fun x hx => by have := hwlt x hx; omega
      all_goals omega
    · rintro s3 ⟨r1, r2, r3, r4, r5, r6⟩
      rw [hlm, anYs_next hkl] at r4
      simp (disch := first | omega | ((simp only [Ab.next_alloc, Ab.next_upd, List.length_cons, List.length_nil, ne_eq, not_true_eq_false, not_false_eq_true]) <;> omega) | decide) only [↓stepPre, stepPost, ↓W_cond, ↓W_block, ↓reduceIte, Nat.reduceEqDiff, Nat.reduceLT, Nat.reduceLeDiff, List.size_toArray, List.length_cons, List.length_nil, ret0, stVar, isTup, Value.cells, List.set_cons_zero, List.set_cons_succ, Nat.le_refl, Nat.reduceAdd, Nat.reduceMul, Nat.reduceSub, env0, List.getD_cons_zero, List.getD_cons_succ, binV, intV, reduceCtorEq, List.getElem?_cons_succ, List.getElem?_cons_zero, pickV, nilCheckV, ptrV, unV, true_and, and_true, List.map_cons, List.map_nil, Nat.add_zero, Nat.zero_add, Option.isNone_none, Option.isNone_some, Rt, resultsV, allV, resV, Bool.not_true, Bool.not_false, calleeV, builtinV, Option.map_some, Option.map_none, List.cons_append, List.nil_append, List.append_nil, Array.toList_append, List.toList_toArray, eqV, fieldAddrV, ldVar, stN_own, stN_ownL, Int.cast_ofNat_Int, Int.fdiv_eq_ediv_of_nonneg, Int.reduceToNat, Nat.min_eq_left, Int.reducePow, IntKind.bits, convV, ne_eq, not_false_eq_true, not_true_eq_false, Int.reduceNeg, Int.reduceAdd, Int.reduceSub, Int.reduceLT, Int.reduceLE, Option.isSome_some, extractV, decide_true, decide_false, Int.reduceEq, List.getElem?_toArray, mkFuncV, List.map_toArray, beq_self_eq_true, Ty.t3, Try.underlying3, Ty.t4, Try.underlying4, Ty.t37, Try.underlying37, Ty.t22, Try.underlying22, Ty.t5, Try.underlying5, Ty.t23, Try.underlying23, Ty.t31, Try.underlying31, h4, h18, h19, h20]
      have hn0 := hmA.next
      have hn5 := hm1.next
      exact ⟨hkl, r1.upd' (by omega), by omega, r3, r4, rfl⟩
  · have : k = ls.length := by omega
    subst this
    rw [anYs_full] at hob
    simp (disch := first | omega | ((simp only [Ab.next_alloc, Ab.next_upd, List.length_cons, List.length_nil, ne_eq, not_true_eq_false, not_false_eq_true]) <;> omega) | decide) only [↓stepPre, stepPost, ↓W_cond, ↓W_block, ↓reduceIte, Nat.reduceEqDiff, Nat.reduceLT, Nat.reduceLeDiff, List.size_toArray, List.length_cons, List.length_nil, ret0, stVar, isTup, Value.cells, List.set_cons_zero, List.set_cons_succ, Nat.le_refl, Nat.reduceAdd, Nat.reduceMul, Nat.reduceSub, env0, List.getD_cons_zero, List.getD_cons_succ, binV, intV, reduceCtorEq, List.getElem?_cons_succ, List.getElem?_cons_zero, pickV, nilCheckV, ptrV, unV, true_and, and_true, List.map_cons, List.map_nil, Nat.add_zero, Nat.zero_add, Option.isNone_none, Option.isNone_some, Rt, resultsV, allV, resV, Bool.not_true, Bool.not_false, calleeV, builtinV, Option.map_some, Option.map_none, List.cons_append, List.nil_append, List.append_nil, Array.toList_append, List.toList_toArray, eqV, fieldAddrV, ldVar, stN_own, stN_ownL, Int.cast_ofNat_Int, Int.fdiv_eq_ediv_of_nonneg, Int.reduceToNat, Nat.min_eq_left, Int.reducePow, IntKind.bits, convV, ne_eq, not_false_eq_true, not_true_eq_false, Int.reduceNeg, Int.reduceAdd, Int.reduceSub, Int.reduceLT, Int.reduceLE, Option.isSome_some, extractV, decide_true, decide_false, Int.reduceEq, List.getElem?_toArray, mkFuncV, List.map_toArray, beq_self_eq_true, Ty.t3, Try.underlying3, Ty.t4, Try.underlying4, Ty.t37, Try.underlying37, Ty.t22, Try.underlying22, Ty.t5, Try.underlying5, Ty.t23, Try.underlying23, Ty.t31, Try.underlying31, h4, hbx, Try.results19]
    exact hR _ b m hm1 (by omega) (by omega) ⟨p, hp, hm⟩ hmq hob
end Go.Proofs.Ytdllcipkdbhhlaa
