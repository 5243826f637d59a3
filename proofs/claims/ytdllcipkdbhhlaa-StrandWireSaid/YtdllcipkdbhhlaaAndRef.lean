/- The document's And, as a contract. -/
import Derived.Test.YtdllcipkdbhhlaaTypes
import Derived.Test.YtdllcipkdbhhlaaRow0
import Derived.Test.YtdllcipkdbhhlaaAbC
import Derived.Test.YtdllcipkdbhhlaaBits
import Derived.Test.YtdllcipkdbhhlaaOwnOf
import Derived.Test.YtdllcipkdbhhlaaStrand
import Derived.Test.YtdllcipkdbhhlaaAndTwo
set_option linter.all false
set_option maxRecDepth 20000
namespace Go.Proofs.Ytdllcipkdbhhlaa
open Go Go.Ab
variable {base : Nat} {s : St} {R : Value → St → Prop}
theorem anYs_take (ls : List (Value × List Nat)) (m k : Nat) : anYs ls m k 0 = andL (ls.take k) m := by
  apply List.ext_getElem
  · simp [anYs, andL]
  · intro j h1 h2; simp [anYs, andL]
theorem andL_len (ls : List (Value × List Nat)) (m : Nat) : (andL ls m).length = m := by simp [andL]
theorem andL_cut (ls : List (Value × List Nat)) {m n : Nat} (h : n ≤ m) : (andL ls m).take n = andL ls n := by
  unfold andL
  rw [← List.map_take, List.take_range, Nat.min_eq_left h]
theorem andL_one (p : Value × List Nat) : andL [p] p.2.length = p.2.map one := by
  apply List.ext_getElem
  · simp [andL]
  · intro j h1 h2
    simp only [List.length_map] at h2
    simp [andL, acc, List.getD_eq_getElem?_getD, h2]
theorem rand_ok {v : Value} {ls : List (Value × List Nat)} (hs : Sl base s 1 v (vL ls)) (hl : Strs base s ls) (h0 : ls ≠ []) (hn : ls.length ≤ 1000) (hlen : ∀ p ∈ ls, p.2.length ≤ 100000) (hbn : base ≤ s.next)
    (hR : ∀ s' w m, Mild s s' → (∃ p ∈ ls, p.2.length = m) → (∀ p ∈ ls, m ≤ p.2.length) → Sl base s' 1 w (bL (andL ls m)) → R w s') :
    WC Try.prog base 20 [v] s R := by
  refine WC_open Try.func20 rfl ?_
  have hpos : 0 < ls.length := List.length_pos_iff.2 h0
  have hnz : ¬ ((ls.length : Nat) : Int) = 0 := by omega
  have kl := vL_len ls
  have p1 := hs.index (P := Try.prog) (k := .i64) (i := 0) Ty.elem31 Ty.siz23 (by omega) (by omega)
  have p1 : indexAddrV Try.prog 31 v (.int .i64 0) = some (atP v (0 * 1)) := p1
  have p2 := hs.load1 (P := Try.prog) (vL_at hpos) Ty.agg23 Ty.siz23
  have hlv := hs.len (P := Try.prog) (ts := []) Ty.elem31 Ty.arr31
  rw [kl] at hlv
  simp (disch := first | omega | ((simp only [Ab.next_alloc, Ab.next_upd, List.length_cons, List.length_nil, ne_eq, not_true_eq_false, not_false_eq_true]) <;> omega) | decide) only [↓stepPre, stepPost, ↓W_cond, ↓W_block, ↓reduceIte, Nat.reduceEqDiff, Nat.reduceLT, Nat.reduceLeDiff, List.size_toArray, List.length_cons, List.length_nil, ret0, stVar, isTup, Value.cells, List.set_cons_zero, List.set_cons_succ, Nat.le_refl, Nat.reduceAdd, Nat.reduceMul, Nat.reduceSub, env0, List.getD_cons_zero, List.getD_cons_succ, binV, intV, reduceCtorEq, List.getElem?_cons_succ, List.getElem?_cons_zero, pickV, nilCheckV, ptrV, unV, true_and, and_true, List.map_cons, List.map_nil, Nat.add_zero, Nat.zero_add, Option.isNone_none, Option.isNone_some, Rt, resultsV, allV, resV, Bool.not_true, Bool.not_false, calleeV, builtinV, Option.map_some, Option.map_none, List.cons_append, List.nil_append, List.append_nil, Array.toList_append, List.toList_toArray, eqV, fieldAddrV, ldVar, stN_own, stN_ownL, Int.cast_ofNat_Int, Int.fdiv_eq_ediv_of_nonneg, Int.reduceToNat, Nat.min_eq_left, Int.reducePow, IntKind.bits, convV, ne_eq, not_false_eq_true, not_true_eq_false, Int.reduceNeg, Int.reduceAdd, Int.reduceSub, Int.reduceLT, Int.reduceLE, Option.isSome_some, extractV, decide_true, decide_false, Int.reduceEq, List.getElem?_toArray, mkFuncV, List.map_toArray, beq_self_eq_true, Ty.t3, Try.underlying3, Ty.t4, Try.underlying4, Ty.t5, Try.underlying5, Ty.t23, Try.underlying23, Ty.t31, Try.underlying31, hlv, hnz, p1, p2]
  refine rclean_ok (hl _ (List.getElem_mem hpos)) (hlen _ (List.getElem_mem hpos)) hbn fun s1 w1 m1 l1 t1 b1 => ?_
  simp (disch := first | omega | ((simp only [Ab.next_alloc, Ab.next_upd, List.length_cons, List.length_nil, ne_eq, not_true_eq_false, not_false_eq_true]) <;> omega) | decide) only [↓stepPre, stepPost, ↓W_cond, ↓W_block, ↓reduceIte, Nat.reduceEqDiff, Nat.reduceLT, Nat.reduceLeDiff, List.size_toArray, List.length_cons, List.length_nil, ret0, stVar, isTup, Value.cells, List.set_cons_zero, List.set_cons_succ, Nat.le_refl, Nat.reduceAdd, Nat.reduceMul, Nat.reduceSub, env0, List.getD_cons_zero, List.getD_cons_succ, binV, intV, reduceCtorEq, List.getElem?_cons_succ, List.getElem?_cons_zero, pickV, nilCheckV, ptrV, unV, true_and, and_true, List.map_cons, List.map_nil, Nat.add_zero, Nat.zero_add, Option.isNone_none, Option.isNone_some, Rt, resultsV, allV, resV, Bool.not_true, Bool.not_false, calleeV, builtinV, Option.map_some, Option.map_none, List.cons_append, List.nil_append, List.append_nil, Array.toList_append, List.toList_toArray, eqV, fieldAddrV, ldVar, stN_own, stN_ownL, Int.cast_ofNat_Int, Int.fdiv_eq_ediv_of_nonneg, Int.reduceToNat, Nat.min_eq_left, Int.reducePow, IntKind.bits, convV, ne_eq, not_false_eq_true, not_true_eq_false, Int.reduceNeg, Int.reduceAdd, Int.reduceSub, Int.reduceLT, Int.reduceLE, Option.isSome_some, extractV, decide_true, decide_false, Int.reduceEq, List.getElem?_toArray, mkFuncV, List.map_toArray, beq_self_eq_true, Ty.t3, Try.underlying3, Ty.t4, Try.underlying4, Ty.t5, Try.underlying5, Ty.t23, Try.underlying23, Ty.t31, Try.underlying31]
  let I : Nat → Value → Nat → Env → St → Prop := fun k w m e s2 => e 0 = v ∧ e 3 = w ∧ e 4 = .int .i64 (k : Int) ∧ Mild s s2 ∧ (∃ p ∈ ls.take k, p.2.length = m) ∧ (∀ p ∈ ls.take k, m ≤ p.2.length) ∧ (∀ b, inB w b → s.next ≤ b) ∧ Sl base s2 1 w (bL (andL (ls.take k) m))
  refine W_loop_inv (ls.length - 1) (fun i e s2 => ∃ w m, I (i + 1) w m e s2) (fun x e s2 => x = .exit 0 ∧ ∃ w m, I ls.length w m e s2) ?_ ?_ ?_
  rotate_left
  · have ht : ls.take (0 + 1) = [ls[0]] := by
      rw [List.take_succ_eq_append_getElem hpos]; rfl
    refine ⟨w1, ls[0].2.length, rfl, rfl, rfl, m1, ⟨ls[0], by rw [ht]; simp, rfl⟩, fun p hp => ?_, b1, ?_⟩
    · rw [ht, List.mem_singleton] at hp; rw [hp]; exact Nat.le_refl _
    · rw [ht, andL_one]; exact l1
  · rintro x e s2 ⟨rfl, w, m, f0, f3, f4, M2, q1, q2, q3, q4⟩
    rw [List.take_length] at q1 q2 q4
    simp (disch := first | omega | ((simp only [Ab.next_alloc, Ab.next_upd, List.length_cons, List.length_nil, ne_eq, not_true_eq_false, not_false_eq_true]) <;> omega) | decide) only [↓stepPre, stepPost, ↓W_cond, ↓W_block, ↓reduceIte, Nat.reduceEqDiff, Nat.reduceLT, Nat.reduceLeDiff, List.size_toArray, List.length_cons, List.length_nil, ret0, stVar, isTup, Value.cells, List.set_cons_zero, List.set_cons_succ, Nat.le_refl, Nat.reduceAdd, Nat.reduceMul, Nat.reduceSub, env0, List.getD_cons_zero, List.getD_cons_succ, binV, intV, reduceCtorEq, List.getElem?_cons_succ, List.getElem?_cons_zero, pickV, nilCheckV, ptrV, unV, true_and, and_true, List.map_cons, List.map_nil, Nat.add_zero, Nat.zero_add, Option.isNone_none, Option.isNone_some, Rt, resultsV, allV, resV, Bool.not_true, Bool.not_false, calleeV, builtinV, Option.map_some, Option.map_none, List.cons_append, List.nil_append, List.append_nil, Array.toList_append, List.toList_toArray, eqV, fieldAddrV, ldVar, stN_own, stN_ownL, Int.cast_ofNat_Int, Int.fdiv_eq_ediv_of_nonneg, Int.reduceToNat, Nat.min_eq_left, Int.reducePow, IntKind.bits, convV, ne_eq, not_false_eq_true, not_true_eq_false, Int.reduceNeg, Int.reduceAdd, Int.reduceSub, Int.reduceLT, Int.reduceLE, Option.isSome_some, extractV, decide_true, decide_false, Int.reduceEq, List.getElem?_toArray, mkFuncV, List.map_toArray, beq_self_eq_true, Ty.t3, Try.underlying3, Ty.t4, Try.underlying4, Ty.t5, Try.underlying5, Ty.t23, Try.underlying23, Ty.t31, Try.underlying31, f3, Try.results20]
    exact hR _ _ m M2 q1 q2 q4
  rintro i e s2 hi ⟨w, m, f0, f3, f4, M2, q1, q2, q3, q4⟩
  have hlv2 := (hs.mild M2).len (P := Try.prog) (ts := []) Ty.elem31 Ty.arr31
  rw [kl] at hlv2
  generalize hk : i + 1 = k at *
  by_cases hkl : k < ls.length
  rotate_left
  · obtain rfl : k = ls.length := by omega
    have g1 : ¬ ((ls.length : Nat) : Int) < ((ls.length : Nat) : Int) := Int.lt_irrefl _
    simp (disch := first | omega | ((simp only [Ab.next_alloc, Ab.next_upd, List.length_cons, List.length_nil, ne_eq, not_true_eq_false, not_false_eq_true]) <;> omega) | decide) only [↓stepPre, stepPost, ↓W_cond, ↓W_block, ↓reduceIte, Nat.reduceEqDiff, Nat.reduceLT, Nat.reduceLeDiff, List.size_toArray, List.length_cons, List.length_nil, ret0, stVar, isTup, Value.cells, List.set_cons_zero, List.set_cons_succ, Nat.le_refl, Nat.reduceAdd, Nat.reduceMul, Nat.reduceSub, env0, List.getD_cons_zero, List.getD_cons_succ, binV, intV, reduceCtorEq, List.getElem?_cons_succ, List.getElem?_cons_zero, pickV, nilCheckV, ptrV, unV, true_and, and_true, List.map_cons, List.map_nil, Nat.add_zero, Nat.zero_add, Option.isNone_none, Option.isNone_some, Rt, resultsV, allV, resV, Bool.not_true, Bool.not_false, calleeV, builtinV, Option.map_some, Option.map_none, List.cons_append, List.nil_append, List.append_nil, Array.toList_append, List.toList_toArray, eqV, fieldAddrV, ldVar, stN_own, stN_ownL, Int.cast_ofNat_Int, Int.fdiv_eq_ediv_of_nonneg, Int.reduceToNat, Nat.min_eq_left, Int.reducePow, IntKind.bits, convV, ne_eq, not_false_eq_true, not_true_eq_false, Int.reduceNeg, Int.reduceAdd, Int.reduceSub, Int.reduceLT, Int.reduceLE, Option.isSome_some, extractV, decide_true, decide_false, Int.reduceEq, List.getElem?_toArray, mkFuncV, List.map_toArray, beq_self_eq_true, Ty.t3, Try.underlying3, Ty.t4, Try.underlying4, Ty.t5, Try.underlying5, Ty.t23, Try.underlying23, Ty.t31, Try.underlying31, f0, f3, f4, hlv2, g1]
    exact ⟨w, m, f0, f3, f4, M2, q1, q2, q3, q4⟩
  have g1 : (k : Int) < (ls.length : Int) := by omega
  have p3 := (hs.mild M2).index (P := Try.prog) (k := .i64) (i := (k : Int)) Ty.elem31 Ty.siz23 (by omega) (by omega)
  rw [Int.toNat_natCast] at p3
  have p4 := (hs.mild M2).load1 (P := Try.prog) (vL_at hkl) Ty.agg23 Ty.siz23
  have hlk := (hl _ (List.getElem_mem hkl)).mild M2
  have hgk : ls.getD k (.bool false, []) = ls[k] := by simp [List.getD_eq_getElem?_getD, hkl]
  have hlk1 := hlk.len (P := Try.prog) (ts := []) Ty.elem23 Ty.arr23
  rw [bL_len] at hlk1
  have hlw := q4.len (P := Try.prog) (ts := []) Ty.elem23 Ty.arr23
  rw [bL_len, andL_len] at hlw
  have htk : ls.take (k + 1) = ls.take k ++ [ls[k]] := List.take_succ_eq_append_getElem hkl
  have hlwm := andL_len (ls.take k) m
  have hbw : ∀ b, inB w b → base ≤ b := fun b h => by have := q3 b h; omega
  rw [W_seq]
  refine W_mid (fun e' s' => e' 0 = v ∧ e' 3 = w ∧ e' 4 = .int .i64 (k : Int) ∧ s' = s2) ?_ ?_
  · simp (disch := first | omega | ((simp only [Ab.next_alloc, Ab.next_upd, List.length_cons, List.length_nil, ne_eq, not_true_eq_false, not_false_eq_true]) <;> omega) | decide) only [↓stepPre, stepPost, ↓W_cond, ↓W_block, ↓reduceIte, Nat.reduceEqDiff, Nat.reduceLT, Nat.reduceLeDiff, List.size_toArray, List.length_cons, List.length_nil, ret0, stVar, isTup, Value.cells, List.set_cons_zero, List.set_cons_succ, Nat.le_refl, Nat.reduceAdd, Nat.reduceMul, Nat.reduceSub, env0, List.getD_cons_zero, List.getD_cons_succ, binV, intV, reduceCtorEq, List.getElem?_cons_succ, List.getElem?_cons_zero, pickV, nilCheckV, ptrV, unV, true_and, and_true, List.map_cons, List.map_nil, Nat.add_zero, Nat.zero_add, Option.isNone_none, Option.isNone_some, Rt, resultsV, allV, resV, Bool.not_true, Bool.not_false, calleeV, builtinV, Option.map_some, Option.map_none, List.cons_append, List.nil_append, List.append_nil, Array.toList_append, List.toList_toArray, eqV, fieldAddrV, ldVar, stN_own, stN_ownL, Int.cast_ofNat_Int, Int.fdiv_eq_ediv_of_nonneg, Int.reduceToNat, Nat.min_eq_left, Int.reducePow, IntKind.bits, convV, ne_eq, not_false_eq_true, not_true_eq_false, Int.reduceNeg, Int.reduceAdd, Int.reduceSub, Int.reduceLT, Int.reduceLE, Option.isSome_some, extractV, decide_true, decide_false, Int.reduceEq, List.getElem?_toArray, mkFuncV, List.map_toArray, beq_self_eq_true, Ty.t3, Try.underlying3, Ty.t4, Try.underlying4, Ty.t5, Try.underlying5, Ty.t23, Try.underlying23, Ty.t31, Try.underlying31, f0, f3, f4, hlv2, g1]
  clear f0 f3 f4 e
  rintro e s2' ⟨f0, f3, f4, rfl⟩
  rw [W_seq]
  refine W_mid (fun e' s' => ∃ w' m', e' 0 = v ∧ e' 3 = w' ∧ e' 4 = .int .i64 (k : Int) ∧ Mild s s' ∧ (∃ p ∈ ls.take (k + 1), p.2.length = m') ∧ (∀ p ∈ ls.take (k + 1), m' ≤ p.2.length) ∧ (∀ b, inB w' b → s.next ≤ b) ∧ Sl base s' 1 w' (bL (andL (ls.take (k + 1)) m'))) ?_ ?_
  rotate_left
  · rintro e' s' ⟨w', m', r0, r3, r4, r5⟩
    simp (disch := first | omega | ((simp only [Ab.next_alloc, Ab.next_upd, List.length_cons, List.length_nil, ne_eq, not_true_eq_false, not_false_eq_true]) <;> omega) | decide) only [↓stepPre, stepPost, ↓W_cond, ↓W_block, ↓reduceIte, Nat.reduceEqDiff, Nat.reduceLT, Nat.reduceLeDiff, List.size_toArray, List.length_cons, List.length_nil, ret0, stVar, isTup, Value.cells, List.set_cons_zero, List.set_cons_succ, Nat.le_refl, Nat.reduceAdd, Nat.reduceMul, Nat.reduceSub, env0, List.getD_cons_zero, List.getD_cons_succ, binV, intV, reduceCtorEq, List.getElem?_cons_succ, List.getElem?_cons_zero, pickV, nilCheckV, ptrV, unV, true_and, and_true, List.map_cons, List.map_nil, Nat.add_zero, Nat.zero_add, Option.isNone_none, Option.isNone_some, Rt, resultsV, allV, resV, Bool.not_true, Bool.not_false, calleeV, builtinV, Option.map_some, Option.map_none, List.cons_append, List.nil_append, List.append_nil, Array.toList_append, List.toList_toArray, eqV, fieldAddrV, ldVar, stN_own, stN_ownL, Int.cast_ofNat_Int, Int.fdiv_eq_ediv_of_nonneg, Int.reduceToNat, Nat.min_eq_left, Int.reducePow, IntKind.bits, convV, ne_eq, not_false_eq_true, not_true_eq_false, Int.reduceNeg, Int.reduceAdd, Int.reduceSub, Int.reduceLT, Int.reduceLE, Option.isSome_some, extractV, decide_true, decide_false, Int.reduceEq, List.getElem?_toArray, mkFuncV, List.map_toArray, beq_self_eq_true, Ty.t3, Try.underlying3, Ty.t4, Try.underlying4, Ty.t5, Try.underlying5, Ty.t23, Try.underlying23, Ty.t31, Try.underlying31, r4]
    exact ⟨by omega, w', m', r0, r3, by rw [Int.natCast_add]; rfl, r5⟩
  rw [W_block, W_seq]
  refine W_mid (fun e' s' => s' = s2' ∧ ∃ w' m', e' 0 = v ∧ e' 3 = w' ∧ e' 4 = .int .i64 (k : Int) ∧ (∃ p ∈ ls.take (k + 1), p.2.length = m') ∧ (∀ p ∈ ls.take (k + 1), m' ≤ p.2.length) ∧ (∀ b, inB w' b → s.next ≤ b) ∧ Sl base s' 1 w' (bL (andL (ls.take k) m'))) ?_ ?_
  · by_cases hlt : ls[k].2.length < m
    · have g2 : (ls[k].2.length : Int) < (m : Int) := by omega
      obtain ⟨wa, wn, wc, rfl⟩ := q4.shape
      obtain ⟨c1, c2⟩ := sl_cap q4
      rw [bL_len, hlwm] at c1
      obtain ⟨w', e1, e2, e3, -⟩ := q4.cut (P := Try.prog) (lo := none) (hi := some (.int .i64 (ls[k].2.length : Int))) (mx := none) (l := 0) (h := ls[k].2.length) (m := wc) Ty.elem23 Ty.siz5 (fun a len cap hv => by
        cases hv
        simp only [cutV, intOf?]
        rw [if_pos ⟨by omega, by omega, by omega, by omega⟩]; simp) (by omega) (by rw [bL_len, hlwm]; omega) (by omega)
      have e2' : Sl base s2' 1 w' (bL (andL (ls.take k) ls[k].2.length)) := by
        rw [List.drop_zero] at e2
        rw [← andL_cut (ls.take k) (show ls[k].2.length ≤ m by omega)]
        simpa [bL, List.map_take] using e2
      simp (disch := first | omega | ((simp only [Ab.next_alloc, Ab.next_upd, List.length_cons, List.length_nil, ne_eq, not_true_eq_false, not_false_eq_true]) <;> omega) | decide) only [↓stepPre, stepPost, ↓W_cond, ↓W_block, ↓reduceIte, Nat.reduceEqDiff, Nat.reduceLT, Nat.reduceLeDiff, List.size_toArray, List.length_cons, List.length_nil, ret0, stVar, isTup, Value.cells, List.set_cons_zero, List.set_cons_succ, Nat.le_refl, Nat.reduceAdd, Nat.reduceMul, Nat.reduceSub, env0, List.getD_cons_zero, List.getD_cons_succ, binV, intV, reduceCtorEq, List.getElem?_cons_succ, List.getElem?_cons_zero, pickV, nilCheckV, ptrV, unV, true_and, and_true, List.map_cons, List.map_nil, Nat.add_zero, Nat.zero_add, Option.isNone_none, Option.isNone_some, Rt, resultsV, allV, resV, Bool.not_true, Bool.not_false, calleeV, builtinV, Option.map_some, Option.map_none, List.cons_append, List.nil_append, List.append_nil, Array.toList_append, List.toList_toArray, eqV, fieldAddrV, ldVar, stN_own, stN_ownL, Int.cast_ofNat_Int, Int.fdiv_eq_ediv_of_nonneg, Int.reduceToNat, Nat.min_eq_left, Int.reducePow, IntKind.bits, convV, ne_eq, not_false_eq_true, not_true_eq_false, Int.reduceNeg, Int.reduceAdd, Int.reduceSub, Int.reduceLT, Int.reduceLE, Option.isSome_some, extractV, decide_true, decide_false, Int.reduceEq, List.getElem?_toArray, mkFuncV, List.map_toArray, beq_self_eq_true, Ty.t3, Try.underlying3, Ty.t4, Try.underlying4, Ty.t5, Try.underlying5, Ty.t23, Try.underlying23, Ty.t31, Try.underlying31, f0, f3, f4, p3, p4, hlk1, hlw, g2, e1]
      refine ⟨w', ls[k].2.length, rfl, ⟨ls[k], by rw [htk]; exact List.mem_append_right _ (List.mem_singleton.2 rfl), rfl⟩, fun p hp => ?_, fun b hb => q3 b (e3 b hb), e2'⟩
      rw [htk] at hp
      rcases List.mem_append.1 hp with hp | hp
      · have := q2 p hp; omega
      · rw [List.mem_singleton] at hp; rw [hp]; exact Nat.le_refl _
    · have g2 : ¬ (ls[k].2.length : Int) < (m : Int) := by omega
      simp (disch := first | omega | ((simp only [Ab.next_alloc, Ab.next_upd, List.length_cons, List.length_nil, ne_eq, not_true_eq_false, not_false_eq_true]) <;> omega) | decide) only [↓stepPre, stepPost, ↓W_cond, ↓W_block, ↓reduceIte, Nat.reduceEqDiff, Nat.reduceLT, Nat.reduceLeDiff, List.size_toArray, List.length_cons, List.length_nil, ret0, stVar, isTup, Value.cells, List.set_cons_zero, List.set_cons_succ, Nat.le_refl, Nat.reduceAdd, Nat.reduceMul, Nat.reduceSub, env0, List.getD_cons_zero, List.getD_cons_succ, binV, intV, reduceCtorEq, List.getElem?_cons_succ, List.getElem?_cons_zero, pickV, nilCheckV, ptrV, unV, true_and, and_true, List.map_cons, List.map_nil, Nat.add_zero, Nat.zero_add, Option.isNone_none, Option.isNone_some, Rt, resultsV, allV, resV, Bool.not_true, Bool.not_false, calleeV, builtinV, Option.map_some, Option.map_none, List.cons_append, List.nil_append, List.append_nil, Array.toList_append, List.toList_toArray, eqV, fieldAddrV, ldVar, stN_own, stN_ownL, Int.cast_ofNat_Int, Int.fdiv_eq_ediv_of_nonneg, Int.reduceToNat, Nat.min_eq_left, Int.reducePow, IntKind.bits, convV, ne_eq, not_false_eq_true, not_true_eq_false, Int.reduceNeg, Int.reduceAdd, Int.reduceSub, Int.reduceLT, Int.reduceLE, Option.isSome_some, extractV, decide_true, decide_false, Int.reduceEq, List.getElem?_toArray, mkFuncV, List.map_toArray, beq_self_eq_true, Ty.t3, Try.underlying3, Ty.t4, Try.underlying4, Ty.t5, Try.underlying5, Ty.t23, Try.underlying23, Ty.t31, Try.underlying31, f0, f3, f4, p3, p4, hlk1, hlw, g2]
      obtain ⟨p0, hp0, hp1⟩ := q1
      refine ⟨w, m, rfl, ⟨p0, by rw [htk]; exact List.mem_append_left _ hp0, hp1⟩, fun p hp => ?_, q3, q4⟩
      rw [htk] at hp
      rcases List.mem_append.1 hp with hp | hp
      · exact q2 p hp
      · rw [List.mem_singleton] at hp; rw [hp]; omega
  clear f0 f3 f4 e q1 q2 q3 q4 hlw hlwm hbw
  clear w m
  rintro e s2 ⟨rfl, w, m, f0, f3, f4, q1, q2, q3, q4⟩
  have hmk : m ≤ ls[k].2.length := q2 ls[k] (by rw [htk]; exact List.mem_append_right _ (List.mem_singleton.2 rfl))
  have hb1 := hlen ls[k] (List.getElem_mem hkl)
  simp (disch := first | omega | ((simp only [Ab.next_alloc, Ab.next_upd, List.length_cons, List.length_nil, ne_eq, not_true_eq_false, not_false_eq_true]) <;> omega) | decide) only [↓stepPre, stepPost, ↓W_cond, ↓W_block, ↓reduceIte, Nat.reduceEqDiff, Nat.reduceLT, Nat.reduceLeDiff, List.size_toArray, List.length_cons, List.length_nil, ret0, stVar, isTup, Value.cells, List.set_cons_zero, List.set_cons_succ, Nat.le_refl, Nat.reduceAdd, Nat.reduceMul, Nat.reduceSub, env0, List.getD_cons_zero, List.getD_cons_succ, binV, intV, reduceCtorEq, List.getElem?_cons_succ, List.getElem?_cons_zero, pickV, nilCheckV, ptrV, unV, true_and, and_true, List.map_cons, List.map_nil, Nat.add_zero, Nat.zero_add, Option.isNone_none, Option.isNone_some, Rt, resultsV, allV, resV, Bool.not_true, Bool.not_false, calleeV, builtinV, Option.map_some, Option.map_none, List.cons_append, List.nil_append, List.append_nil, Array.toList_append, List.toList_toArray, eqV, fieldAddrV, ldVar, stN_own, stN_ownL, Int.cast_ofNat_Int, Int.fdiv_eq_ediv_of_nonneg, Int.reduceToNat, Nat.min_eq_left, Int.reducePow, IntKind.bits, convV, ne_eq, not_false_eq_true, not_true_eq_false, Int.reduceNeg, Int.reduceAdd, Int.reduceSub, Int.reduceLT, Int.reduceLE, Option.isSome_some, extractV, decide_true, decide_false, Int.reduceEq, List.getElem?_toArray, mkFuncV, List.map_toArray, beq_self_eq_true, Ty.t3, Try.underlying3, Ty.t4, Try.underlying4, Ty.t5, Try.underlying5, Ty.t23, Try.underlying23, Ty.t31, Try.underlying31]
  refine W_loop_inv m (fun j e s3 => e 0 = v ∧ e 3 = w ∧ e 4 = .int .i64 (k : Int) ∧ e 5 = .int .i64 (j : Int) ∧ Mild s s3 ∧ Sl base s3 1 w (bL (anYs ls m k j))) (fun x e s3 => x = .exit 2 ∧ e 0 = v ∧ e 3 = w ∧ e 4 = .int .i64 (k : Int) ∧ Mild s s3 ∧ Sl base s3 1 w (bL (anYs ls m k m))) ?_ ?_ ?_
  rotate_left
  · exact ⟨f0, f3, f4, rfl, M2, by rw [anYs_take]; exact q4⟩
  · rintro x e s3 ⟨rfl, r0, r3, r4, r5, r6⟩
    rw [anYs_next hkl, anYs_take] at r6
    simp (disch := first | omega | ((simp only [Ab.next_alloc, Ab.next_upd, List.length_cons, List.length_nil, ne_eq, not_true_eq_false, not_false_eq_true]) <;> omega) | decide) only [↓stepPre, stepPost, ↓W_cond, ↓W_block, ↓reduceIte, Nat.reduceEqDiff, Nat.reduceLT, Nat.reduceLeDiff, List.size_toArray, List.length_cons, List.length_nil, ret0, stVar, isTup, Value.cells, List.set_cons_zero, List.set_cons_succ, Nat.le_refl, Nat.reduceAdd, Nat.reduceMul, Nat.reduceSub, env0, List.getD_cons_zero, List.getD_cons_succ, binV, intV, reduceCtorEq, List.getElem?_cons_succ, List.getElem?_cons_zero, pickV, nilCheckV, ptrV, unV, true_and, and_true, List.map_cons, List.map_nil, Nat.add_zero, Nat.zero_add, Option.isNone_none, Option.isNone_some, Rt, resultsV, allV, resV, Bool.not_true, Bool.not_false, calleeV, builtinV, Option.map_some, Option.map_none, List.cons_append, List.nil_append, List.append_nil, Array.toList_append, List.toList_toArray, eqV, fieldAddrV, ldVar, stN_own, stN_ownL, Int.cast_ofNat_Int, Int.fdiv_eq_ediv_of_nonneg, Int.reduceToNat, Nat.min_eq_left, Int.reducePow, IntKind.bits, convV, ne_eq, not_false_eq_true, not_true_eq_false, Int.reduceNeg, Int.reduceAdd, Int.reduceSub, Int.reduceLT, Int.reduceLE, Option.isSome_some, extractV, decide_true, decide_false, Int.reduceEq, List.getElem?_toArray, mkFuncV, List.map_toArray, beq_self_eq_true, Ty.t3, Try.underlying3, Ty.t4, Try.underlying4, Ty.t5, Try.underlying5, Ty.t23, Try.underlying23, Ty.t31, Try.underlying31]
    exact ⟨w, m, r0, r3, r4, r5, q1, q2, q3, r6⟩
  clear f0 f3 f4 e q4
  rintro j e s3 hj ⟨f0, f3, f4, f5, M3, q4⟩
  have hlw := q4.len (P := Try.prog) (ts := []) Ty.elem23 Ty.arr23
  rw [bL_len, anYs_len] at hlw
  by_cases hjm : j < m
  rotate_left
  · obtain rfl : j = m := by omega
    have g2 : ¬ ((j : Nat) : Int) < ((j : Nat) : Int) := Int.lt_irrefl _
    simp (disch := first | omega | ((simp only [Ab.next_alloc, Ab.next_upd, List.length_cons, List.length_nil, ne_eq, not_true_eq_false, not_false_eq_true]) <;> omega) | decide) only [↓stepPre, stepPost, ↓W_cond, ↓W_block, ↓reduceIte, Nat.reduceEqDiff, Nat.reduceLT, Nat.reduceLeDiff, List.size_toArray, List.length_cons, List.length_nil, ret0, stVar, isTup, Value.cells, List.set_cons_zero, List.set_cons_succ, Nat.le_refl, Nat.reduceAdd, Nat.reduceMul, Nat.reduceSub, env0, List.getD_cons_zero, List.getD_cons_succ, binV, intV, reduceCtorEq, List.getElem?_cons_succ, List.getElem?_cons_zero, pickV, nilCheckV, ptrV, unV, true_and, and_true, List.map_cons, List.map_nil, Nat.add_zero, Nat.zero_add, Option.isNone_none, Option.isNone_some, Rt, resultsV, allV, resV, Bool.not_true, Bool.not_false, calleeV, builtinV, Option.map_some, Option.map_none, List.cons_append, List.nil_append, List.append_nil, Array.toList_append, List.toList_toArray, eqV, fieldAddrV, ldVar, stN_own, stN_ownL, Int.cast_ofNat_Int, Int.fdiv_eq_ediv_of_nonneg, Int.reduceToNat, Nat.min_eq_left, Int.reducePow, IntKind.bits, convV, ne_eq, not_false_eq_true, not_true_eq_false, Int.reduceNeg, Int.reduceAdd, Int.reduceSub, Int.reduceLT, Int.reduceLE, Option.isSome_some, extractV, decide_true, decide_false, Int.reduceEq, List.getElem?_toArray, mkFuncV, List.map_toArray, beq_self_eq_true, Ty.t3, Try.underlying3, Ty.t4, Try.underlying4, Ty.t5, Try.underlying5, Ty.t23, Try.underlying23, Ty.t31, Try.underlying31, f0, f3, f4, f5, hlw, g2]
    exact ⟨M3, q4⟩
  have g2 : (j : Int) < (m : Int) := by omega
  have p5 := (hs.mild M3).index (P := Try.prog) (k := .i64) (i := (k : Int)) Ty.elem31 Ty.siz23 (by omega) (by omega)
  rw [Int.toNat_natCast] at p5
  have p6 := (hs.mild M3).load1 (P := Try.prog) (vL_at hkl) Ty.agg23 Ty.siz23
  have hlk3 := (hl _ (List.getElem_mem hkl)).mild M3
  have hjl : j < ls[k].2.length := by omega
  have p7 := hlk3.index (P := Try.prog) (k := .i64) (i := (j : Int)) Ty.elem23 Ty.siz5 (by omega) (by rw [bL_len]; omega)
  rw [Int.toNat_natCast] at p7
  have p8 := hlk3.load1 (bL_at hjl) Ty.agg5 Ty.siz5
  have hgx : ls[k].2.getD j 0 = ls[k].2[j] := by simp [List.getD_eq_getElem?_getD, hjl]
  have hset := anYs_succ (ls := ls) (k := k) hjm
  rw [hgk, hgx] at hset
  have hatj := anYs_at (ls := ls) (k := k) (i := j) hjm
  rw [if_neg (Nat.lt_irrefl _), Nat.mul_one] at hatj
  by_cases hz : ls[k].2[j] = 0
  · have p8' := p8
    rw [hz] at p8' hset
    have hz0 : one 0 = 0 := rfl
    rw [hz0, Nat.mul_zero] at hset
    have hil : j < (anYs ls m k j).length := by rw [anYs_len]; exact hjm
    obtain ⟨b, o, n, c, rfl⟩ := q4.conc (fun e => by have := congrArg List.length e; rw [bL_len, anYs_len] at this; simp at this; omega)
    have hbb : base ≤ b := by have := q3 b rfl; omega
    obtain ⟨s4, e1, e2, e3⟩ := set_byte (i := j) (y := 0) q4 hbb hil
    rw [hset] at e2
    have hix := q4.index (P := Try.prog) (k := .i64) (i := (j : Int)) Ty.elem23 Ty.siz5 (by omega) (by rw [bL_len, anYs_len]; omega)
    rw [Int.toNat_natCast, atP_conc] at hix
    have M4 : Mild s s4 := (Ch.after (Ch.of_mild M3 (fun b => s.next ≤ b)) e3 fun k hk he => by subst he; exact q3 _ rfl).mild fun k hk h => by omega
    have e1' : stN base s3 ⟨b, o + j * 1, none⟩ [.int .u8 0] = some s4 := e1
    have p8'' : loadV Try.prog base s3 5 (atP ls[k].1 (j * 1)) = some (.int .u8 0) := p8'
    simp (disch := first | omega | ((simp only [Ab.next_alloc, Ab.next_upd, List.length_cons, List.length_nil, ne_eq, not_true_eq_false, not_false_eq_true]) <;> omega) | decide) only [↓stepPre, stepPost, ↓W_cond, ↓W_block, ↓reduceIte, Nat.reduceEqDiff, Nat.reduceLT, Nat.reduceLeDiff, List.size_toArray, List.length_cons, List.length_nil, ret0, stVar, isTup, Value.cells, List.set_cons_zero, List.set_cons_succ, Nat.le_refl, Nat.reduceAdd, Nat.reduceMul, Nat.reduceSub, env0, List.getD_cons_zero, List.getD_cons_succ, binV, intV, reduceCtorEq, List.getElem?_cons_succ, List.getElem?_cons_zero, pickV, nilCheckV, ptrV, unV, true_and, and_true, List.map_cons, List.map_nil, Nat.add_zero, Nat.zero_add, Option.isNone_none, Option.isNone_some, Rt, resultsV, allV, resV, Bool.not_true, Bool.not_false, calleeV, builtinV, Option.map_some, Option.map_none, List.cons_append, List.nil_append, List.append_nil, Array.toList_append, List.toList_toArray, eqV, fieldAddrV, ldVar, Int.cast_ofNat_Int, Int.fdiv_eq_ediv_of_nonneg, Int.reduceToNat, Nat.min_eq_left, Int.reducePow, IntKind.bits, convV, ne_eq, not_false_eq_true, not_true_eq_false, Int.reduceNeg, Int.reduceAdd, Int.reduceSub, Int.reduceLT, Int.reduceLE, Option.isSome_some, extractV, decide_true, decide_false, Int.reduceEq, List.getElem?_toArray, mkFuncV, List.map_toArray, beq_self_eq_true, Ty.t3, Try.underlying3, Ty.t4, Try.underlying4, Ty.t5, Try.underlying5, Ty.t23, Try.underlying23, Ty.t31, Try.underlying31, f0, f3, f4, f5, hlw, g2, p5, p6, p7, p8'', hix, e1', eq_self]
    exact ⟨hjm, by simp, M4, e2⟩
  · have hzi : ¬ ((ls[k].2[j] : Nat) : Int) = 0 := by omega
    have ho : one ls[k].2[j] = 1 := if_neg hz
    rw [ho, Nat.mul_one] at hset
    have hsame : (anYs ls m k j).set j (acc (ls.take k) j) = anYs ls m k j := by
      apply List.ext_getElem?
      intro i
      rw [List.getElem?_set]
      split
      · rename_i h; subst h; rw [if_pos (by rw [anYs_len]; exact hjm), hatj]
      · rfl
    rw [hsame] at hset
    rw [hset] at q4
    simp (disch := first | omega | ((simp only [Ab.next_alloc, Ab.next_upd, List.length_cons, List.length_nil, ne_eq, not_true_eq_false, not_false_eq_true]) <;> omega) | decide) only [↓stepPre, stepPost, ↓W_cond, ↓W_block, ↓reduceIte, Nat.reduceEqDiff, Nat.reduceLT, Nat.reduceLeDiff, List.size_toArray, List.length_cons, List.length_nil, ret0, stVar, isTup, Value.cells, List.set_cons_zero, List.set_cons_succ, Nat.le_refl, Nat.reduceAdd, Nat.reduceMul, Nat.reduceSub, env0, List.getD_cons_zero, List.getD_cons_succ, binV, intV, reduceCtorEq, List.getElem?_cons_succ, List.getElem?_cons_zero, pickV, nilCheckV, ptrV, unV, true_and, and_true, List.map_cons, List.map_nil, Nat.add_zero, Nat.zero_add, Option.isNone_none, Option.isNone_some, Rt, resultsV, allV, resV, Bool.not_true, Bool.not_false, calleeV, builtinV, Option.map_some, Option.map_none, List.cons_append, List.nil_append, List.append_nil, Array.toList_append, List.toList_toArray, eqV, fieldAddrV, ldVar, stN_own, stN_ownL, Int.cast_ofNat_Int, Int.fdiv_eq_ediv_of_nonneg, Int.reduceToNat, Nat.min_eq_left, Int.reducePow, IntKind.bits, convV, ne_eq, not_false_eq_true, not_true_eq_false, Int.reduceNeg, Int.reduceAdd, Int.reduceSub, Int.reduceLT, Int.reduceLE, Option.isSome_some, extractV, decide_true, decide_false, Int.reduceEq, List.getElem?_toArray, mkFuncV, List.map_toArray, beq_self_eq_true, Ty.t3, Try.underlying3, Ty.t4, Try.underlying4, Ty.t5, Try.underlying5, Ty.t23, Try.underlying23, Ty.t31, Try.underlying31, f0, f3, f4, f5, hlw, g2, p5, p6, p7, p8, hzi]
    exact ⟨hjm, by simp, M3, q4⟩
end Go.Proofs.Ytdllcipkdbhhlaa
