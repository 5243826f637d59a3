import Derived.Test.YtdllcipkdbhhlaaTypes
import Derived.Test.YtdllcipkdbhhlaaRow0
import Derived.Test.YtdllcipkdbhhlaaAbC
import Derived.Test.YtdllcipkdbhhlaaBits
import Derived.Test.YtdllcipkdbhhlaaOwnOf
/- The library's Repeat, of one byte that is 1; MinFunc, of strings by their length; as contracts. -/
set_option linter.unusedSimpArgs false
set_option linter.unusedVariables false
namespace Go.Proofs.Ytdllcipkdbhhlaa
open Go Go.Ab
variable {base : Nat} {s : St} {R : Value → St → Prop}
theorem and32 {x : Int} (h : 0 ≤ x ∧ x < 4294967296) : andI .u64 x 4294967295 = x := by
  obtain ⟨a, rfl⟩ : ∃ a : Nat, x = a := ⟨x.toNat, by omega⟩
  have e1 : ((a : Int) % 2 ^ IntKind.u64.bits).toNat = a := by simp only [IntKind.bits]; omega
  have e2 : ((4294967295 : Int) % 2 ^ IntKind.u64.bits).toNat = 2 ^ 32 - 1 := by simp only [IntKind.bits]; decide
  simp only [andI, e1, e2, Nat.and_two_pow_sub_one_eq_mod]
  rw [Nat.mod_eq_of_lt (by omega)]
  exact IntWalk.u64_in _ (by omega)
theorem mul64_p {n : Nat} (hn : n ≤ 100000) (hR : R (.tuple #[.int .u64 0, .int .u64 (n : Int)]) s) : WC Try.prog base 41 [.int .u64 1, .int .u64 (n : Int)] s R := by
  refine WC_open Try.func41 rfl ?_
  have hd : (n : Int) / 4294967296 = 0 := by omega
  have h1 : (1 : Int) / 4294967296 = 0 := by decide
  simp (disch := first | omega | ((simp only [Ab.next_alloc, Ab.next_upd, List.length_cons, List.length_nil, ne_eq, not_true_eq_false, not_false_eq_true]) <;> omega) | decide) only [↓stepPre, stepPost, ↓W_cond, ↓W_block, ↓reduceIte, Nat.reduceEqDiff, Nat.reduceLT, Nat.reduceLeDiff, List.size_toArray, List.length_cons, List.length_nil, ret0, stVar, isTup, Value.cells, List.set_cons_zero, List.set_cons_succ, Nat.le_refl, Nat.reduceAdd, Nat.reduceMul, Nat.reduceSub, env0, List.getD_cons_zero, List.getD_cons_succ, binV, intV, reduceCtorEq, List.getElem?_cons_succ, List.getElem?_cons_zero, pickV, nilCheckV, ptrV, unV, true_and, and_true, List.map_cons, List.map_nil, Nat.add_zero, Nat.zero_add, Option.isNone_none, Option.isNone_some, Rt, resultsV, allV, resV, Bool.not_true, Bool.not_false, calleeV, builtinV, Option.map_some, Option.map_none, List.cons_append, List.nil_append, List.append_nil, Array.toList_append, List.toList_toArray, eqV, fieldAddrV, ldVar, stN_own, stN_ownL, Int.cast_ofNat_Int, Int.fdiv_eq_ediv_of_nonneg, Int.reduceToNat, Nat.min_eq_left, Int.reducePow, IntKind.bits, convV, ne_eq, not_false_eq_true, not_true_eq_false, Int.reduceNeg, Int.reduceAdd, Int.reduceSub, Int.reduceLT, Int.reduceLE, Option.isSome_some, extractV, decide_true, decide_false, Int.reduceEq, List.getElem?_toArray, mkFuncV, List.map_toArray, beq_self_eq_true, Ty.t3, Try.underlying3, Ty.t4, Try.underlying4, Ty.t37, Try.underlying37, Ty.t22, Try.underlying22, Ty.t5, Try.underlying5, Ty.t23, Try.underlying23, Ty.t31, Try.underlying31, and32, hd, h1, Int.one_mul, Int.zero_mul, Int.mul_zero, Int.zero_add, Int.add_zero, Int.zero_ediv, Int.mul_one, Try.results41]
  exact hR
theorem mul_p {n : Nat} (hn : n ≤ 100000) (hR : R (.tuple #[.int .u64 0, .int .u64 (n : Int)]) s) : WC Try.prog base 39 [.int .u64 1, .int .u64 (n : Int)] s R := by
  refine WC_open Try.func39 rfl ?_
  simp (disch := first | omega | ((simp only [Ab.next_alloc, Ab.next_upd, List.length_cons, List.length_nil, ne_eq, not_true_eq_false, not_false_eq_true]) <;> omega) | decide) only [↓stepPre, stepPost, ↓W_cond, ↓W_block, ↓reduceIte, Nat.reduceEqDiff, Nat.reduceLT, Nat.reduceLeDiff, List.size_toArray, List.length_cons, List.length_nil, ret0, stVar, isTup, Value.cells, List.set_cons_zero, List.set_cons_succ, Nat.le_refl, Nat.reduceAdd, Nat.reduceMul, Nat.reduceSub, env0, List.getD_cons_zero, List.getD_cons_succ, binV, intV, reduceCtorEq, List.getElem?_cons_succ, List.getElem?_cons_zero, pickV, nilCheckV, ptrV, unV, true_and, and_true, List.map_cons, List.map_nil, Nat.add_zero, Nat.zero_add, Option.isNone_none, Option.isNone_some, Rt, resultsV, allV, resV, Bool.not_true, Bool.not_false, calleeV, builtinV, Option.map_some, Option.map_none, List.cons_append, List.nil_append, List.append_nil, Array.toList_append, List.toList_toArray, eqV, fieldAddrV, ldVar, stN_own, stN_ownL, Int.cast_ofNat_Int, Int.fdiv_eq_ediv_of_nonneg, Int.reduceToNat, Nat.min_eq_left, Int.reducePow, IntKind.bits, convV, ne_eq, not_false_eq_true, not_true_eq_false, Int.reduceNeg, Int.reduceAdd, Int.reduceSub, Int.reduceLT, Int.reduceLE, Option.isSome_some, extractV, decide_true, decide_false, Int.reduceEq, List.getElem?_toArray, mkFuncV, List.map_toArray, beq_self_eq_true, Ty.t3, Try.underlying3, Ty.t4, Try.underlying4, Ty.t37, Try.underlying37, Ty.t22, Try.underlying22, Ty.t5, Try.underlying5, Ty.t23, Try.underlying23, Ty.t31, Try.underlying31]
  refine mul64_p hn ?_
  simp (disch := first | omega | ((simp only [Ab.next_alloc, Ab.next_upd, List.length_cons, List.length_nil, ne_eq, not_true_eq_false, not_false_eq_true]) <;> omega) | decide) only [↓stepPre, stepPost, ↓W_cond, ↓W_block, ↓reduceIte, Nat.reduceEqDiff, Nat.reduceLT, Nat.reduceLeDiff, List.size_toArray, List.length_cons, List.length_nil, ret0, stVar, isTup, Value.cells, List.set_cons_zero, List.set_cons_succ, Nat.le_refl, Nat.reduceAdd, Nat.reduceMul, Nat.reduceSub, env0, List.getD_cons_zero, List.getD_cons_succ, binV, intV, reduceCtorEq, List.getElem?_cons_succ, List.getElem?_cons_zero, pickV, nilCheckV, ptrV, unV, true_and, and_true, List.map_cons, List.map_nil, Nat.add_zero, Nat.zero_add, Option.isNone_none, Option.isNone_some, Rt, resultsV, allV, resV, Bool.not_true, Bool.not_false, calleeV, builtinV, Option.map_some, Option.map_none, List.cons_append, List.nil_append, List.append_nil, Array.toList_append, List.toList_toArray, eqV, fieldAddrV, ldVar, stN_own, stN_ownL, Int.cast_ofNat_Int, Int.fdiv_eq_ediv_of_nonneg, Int.reduceToNat, Nat.min_eq_left, Int.reducePow, IntKind.bits, convV, ne_eq, not_false_eq_true, not_true_eq_false, Int.reduceNeg, Int.reduceAdd, Int.reduceSub, Int.reduceLT, Int.reduceLE, Option.isSome_some, extractV, decide_true, decide_false, Int.reduceEq, List.getElem?_toArray, mkFuncV, List.map_toArray, beq_self_eq_true, Ty.t3, Try.underlying3, Ty.t4, Try.underlying4, Ty.t37, Try.underlying37, Ty.t22, Try.underlying22, Ty.t5, Try.underlying5, Ty.t23, Try.underlying23, Ty.t31, Try.underlying31, Try.results39]
  exact hR
def repYs (n c : Nat) : List Nat := List.replicate c 1 ++ List.replicate (n - c) 0
theorem repYs_full (n : Nat) : repYs n n = List.replicate n 1 := by simp [repYs]
theorem repYs_len {n c : Nat} (h : c ≤ n) : (repYs n c).length = n := by simp [repYs]; omega
theorem setL_eq : ∀ (vs c : List Value) (off : Nat), off + vs.length ≤ c.length → setL c off vs = c.take off ++ vs ++ c.drop (off + vs.length) := by
  intro vs
  induction vs with
  | nil => intro c off _; simp [setL]
  | cons v vs ih =>
    intro c off h
    simp only [List.length_cons] at h
    rw [setL_cons, ih (c.set off v) (off + 1) (by rw [List.length_set]; omega)]
    have h1 : (c.set off v).take (off + 1) = c.take off ++ [v] := by
      rw [List.take_succ_eq_append_getElem (by rw [List.length_set]; omega), List.getElem_set_self, List.take_set_of_le (Nat.le_refl _)]
    have h2 : (c.set off v).drop (off + 1 + vs.length) = c.drop (off + 1 + vs.length) := by
      rw [List.drop_set]; rw [if_pos (by omega)]
    rw [h1, h2, List.length_cons, show off + (vs.length + 1) = off + 1 + vs.length by omega]
    simp
theorem rep_set {n c k : Nat} (h : c + k ≤ n) : setL (bC (repYs n c)) c (bC (List.replicate k 1)) = bC (repYs n (c + k)) := by
  have hl : (bC (List.replicate k 1)).length = k := by rw [bC_len]; simp
  rw [setL_eq _ _ _ (by rw [hl, bC_len, repYs_len (by omega)]; exact h), hl]
  simp only [bC, repYs, List.map_append, List.map_replicate]
  rw [List.take_left' (by simp), ← List.drop_drop, List.drop_left' (by simp), List.drop_replicate]
  simp only [← List.append_assoc, List.replicate_append_replicate]
  rw [show n - c - k = n - (c + k) by omega]
theorem copy_rep {b n c : Nat} {s : St} (hh : s.heap b = .row (bC (repYs n c))) (hb : base ≤ b) (hc : c ≤ n) (h0 : 0 < min c (n - c)) :
    copyB Try.prog base s [23, 23] [.slice (some ⟨b, c, none⟩) (n - c) (n - c), .slice (some ⟨b, 0, none⟩) c n] = some (.int .i64 ((min c (n - c) : Nat) : Int), s.upd b (.row (bC (repYs n (c + min c (n - c)))))) := by
  have hk : min c (n - c) ≤ c := Nat.min_le_left _ _
  have hk2 : c + min c (n - c) ≤ n := by omega
  generalize hkk : min c (n - c) = k at *
  have hld : ldN base s ⟨b, 0, none⟩ (k * 1) = some (bC (List.replicate k 1)) := by
    rw [Nat.mul_one, ldN_own hb h0, hh, cellsAt_row, getL_take (by rw [bC_len, repYs_len hc]; omega), List.drop_zero]
    simp only [bC, repYs, List.map_append, List.map_replicate]
    rw [List.take_append_of_le_length (by simp; omega), List.take_replicate, Nat.min_eq_left hk]
  have hst : stN base s ⟨b, c, none⟩ (bC (List.replicate k 1)) = some (s.upd b (.row (bC (repYs n (c + k))))) := by
    rw [stN_ownL hb (by rw [bC_len]; simp; omega), hh, putAt_row (by rw [bC_len, bC_len, repYs_len hc]; simp; omega), updO_some, rep_set hk2]
  simp only [copyB, Ty.elem23, Ty.siz5, lenV?, newsV]
  have hm : Nat.min c (n - c) = k := hkk
  simp only [hm]
  rw [if_pos hk, hld]
  simp only [hst]
theorem copy_one {v : Value} {b n : Nat} {s : St} (hs : Sl base s 1 v (bL [1])) (hh : s.heap b = .row (bC (repYs n 0))) (hb : base ≤ b) (hn : 1 ≤ n) :
    copyB Try.prog base s [23, 23] [.slice (some ⟨b, 0, none⟩) n n, v] = some (.int .i64 1, s.upd b (.row (bC (repYs n 1)))) := by
  obtain ⟨vb, vo, vn, vc, rfl⟩ := hs.conc (by simp [bL])
  obtain ⟨c1, c2⟩ := sl_cap hs
  simp only [bL, List.map_cons, List.map_nil, List.length_cons, List.length_nil, Nat.zero_add] at c1
  subst c1
  have hld : ldN base s ⟨vb, vo, none⟩ (1 * 1) = some [.int .u8 1] := by
    have := hs.ldsN0 (i := 0) (l := [.int .u8 ((1 : Nat) : Int)]) (m := 1) rfl (Nat.le_refl _)
    simpa using this
  have hst : stN base s ⟨b, 0, none⟩ [.int .u8 1] = some (s.upd b (.row (bC (repYs n 1)))) := by
    rw [stN_own hb, hh, putAt_row (by rw [bC_len, repYs_len (by omega)]; simpa using hn), updO_some]
    have := rep_set (n := n) (c := 0) (k := 1) (by omega)
    simp only [bC, List.replicate_one, List.map_cons, List.map_nil, Nat.zero_add] at this ⊢
    exact congrArg (fun x => some (s.upd b (.row x))) this
  simp only [copyB, Ty.elem23, Ty.siz5, lenV?, newsV]
  have hm : Nat.min 1 n = 1 := Nat.min_eq_left hn
  simp only [hm]
  rw [if_pos (Nat.le_refl _), hld]
  simp only [hst]
  rfl
theorem copy_zero {v : Value} {b : Nat} {s : St} (hs : Sl base s 1 v (bL [1])) : copyB Try.prog base s [23, 23] [.slice (some ⟨b, 0, none⟩) 0 0, v] = some (.int .i64 0, s) := by
  obtain ⟨va, vn, vc, rfl⟩ := hs.shape
  have hm : Nat.min vn 0 = 0 := Nat.min_zero _
  simp only [copyB, Ty.elem23, Ty.siz5, lenV?, hm]
  cases va with
  | none => simp [newsV, stN]
  | some a => simp [newsV, stN, Ab.ldN]
theorem cut_front {b n c : Nat} {s : St} {cs : List Value} (hh : s.heap b = .row cs) (hc : c ≤ n) : sliceV Try.prog s 23 (.slice (some ⟨b, 0, none⟩) n n) none (some (.int .i64 (c : Int))) none = some (.slice (some ⟨b, 0, none⟩) c n) := by
  simp only [sliceV, Ty.elem23, Ty.siz5, cutV, intOf?, kindB, hh, if_true]
  rw [if_pos ⟨by omega, by omega, by omega, by omega⟩]
  simp [add_lit]
theorem cut_back {b n c : Nat} {s : St} {cs : List Value} (hh : s.heap b = .row cs) (hc : c ≤ n) : sliceV Try.prog s 23 (.slice (some ⟨b, 0, none⟩) n n) (some (.int .i64 (c : Int))) none none = some (.slice (some ⟨b, c, none⟩) (n - c) (n - c)) := by
  simp only [sliceV, Ty.elem23, Ty.siz5, cutV, intOf?, kindB, hh, if_true, Option.isSome_none, Bool.false_eq_true, if_false]
  rw [if_pos ⟨by omega, by omega, by omega, by omega⟩]
  simp [add_lit]
theorem repeat_ok {v : Value} {n : Nat} (hs : Sl base s 1 v (bL [1])) (hn : n ≤ 100000) (hbn : base ≤ s.next) (hR : ∀ s' b, Mild s s' → s.next ≤ b → b < s'.next → s'.heap b = .row (bC (List.replicate n 1)) → R (.slice (some ⟨b, 0, none⟩) n n) s') : WC Try.prog base 34 [v, .int .i64 (n : Int)] s R := by
  refine WC_open Try.func34 rfl ?_
  have g1 : ¬ ((n : Int) < 0) := by omega
  simp (disch := first | omega | ((simp only [Ab.next_alloc, Ab.next_upd, List.length_cons, List.length_nil, ne_eq, not_true_eq_false, not_false_eq_true]) <;> omega) | decide) only [↓stepPre, stepPost, ↓W_cond, ↓W_block, ↓reduceIte, Nat.reduceEqDiff, Nat.reduceLT, Nat.reduceLeDiff, List.size_toArray, List.length_cons, List.length_nil, ret0, stVar, isTup, Value.cells, List.set_cons_zero, List.set_cons_succ, Nat.le_refl, Nat.reduceAdd, Nat.reduceMul, Nat.reduceSub, env0, List.getD_cons_zero, List.getD_cons_succ, binV, intV, reduceCtorEq, List.getElem?_cons_succ, List.getElem?_cons_zero, pickV, nilCheckV, ptrV, unV, true_and, and_true, List.map_cons, List.map_nil, Nat.add_zero, Nat.zero_add, Option.isNone_none, Option.isNone_some, Rt, resultsV, allV, resV, Bool.not_true, Bool.not_false, calleeV, builtinV, Option.map_some, Option.map_none, List.cons_append, List.nil_append, List.append_nil, Array.toList_append, List.toList_toArray, eqV, fieldAddrV, ldVar, stN_own, stN_ownL, Int.cast_ofNat_Int, Int.fdiv_eq_ediv_of_nonneg, Int.reduceToNat, Nat.min_eq_left, Int.reducePow, IntKind.bits, convV, ne_eq, not_false_eq_true, not_true_eq_false, Int.reduceNeg, Int.reduceAdd, Int.reduceSub, Int.reduceLT, Int.reduceLE, Option.isSome_some, extractV, decide_true, decide_false, Int.reduceEq, List.getElem?_toArray, mkFuncV, List.map_toArray, beq_self_eq_true, Ty.t3, Try.underlying3, Ty.t4, Try.underlying4, Ty.t37, Try.underlying37, Ty.t22, Try.underlying22, Ty.t5, Try.underlying5, Ty.t23, Try.underlying23, Ty.t31, Try.underlying31, g1, hs.len Ty.elem23 Ty.arr23, bL_len, List.length_cons, List.length_nil, Int.cast_ofNat_Int]
  refine mul_p hn ?_
  have g2 : ¬ (9223372036854775807 < (n : Int)) := by omega
  have hmk := make_bytes (s := s) (k := n) (by omega)
  have hlt : lenB Try.prog [23] [.slice (some ⟨s.next, 0, none⟩) n n] = some (.int .i64 (n : Int)) := by
    simp [lenB, Ty.arr23, Ty.elem23]
  have hz : bC (List.replicate n 0) = bC (repYs n 0) := by simp [repYs]
  simp (disch := first | omega | ((simp only [Ab.next_alloc, Ab.next_upd, List.length_cons, List.length_nil, ne_eq, not_true_eq_false, not_false_eq_true]) <;> omega) | decide) only [↓stepPre, stepPost, ↓W_cond, ↓W_block, ↓reduceIte, Nat.reduceEqDiff, Nat.reduceLT, Nat.reduceLeDiff, List.size_toArray, List.length_cons, List.length_nil, ret0, stVar, isTup, Value.cells, List.set_cons_zero, List.set_cons_succ, Nat.le_refl, Nat.reduceAdd, Nat.reduceMul, Nat.reduceSub, env0, List.getD_cons_zero, List.getD_cons_succ, binV, intV, reduceCtorEq, List.getElem?_cons_succ, List.getElem?_cons_zero, pickV, nilCheckV, ptrV, unV, true_and, and_true, List.map_cons, List.map_nil, Nat.add_zero, Nat.zero_add, Option.isNone_none, Option.isNone_some, Rt, resultsV, allV, resV, Bool.not_true, Bool.not_false, calleeV, builtinV, Option.map_some, Option.map_none, List.cons_append, List.nil_append, List.append_nil, Array.toList_append, List.toList_toArray, eqV, fieldAddrV, ldVar, stN_own, stN_ownL, Int.cast_ofNat_Int, Int.fdiv_eq_ediv_of_nonneg, Int.reduceToNat, Nat.min_eq_left, Int.reducePow, IntKind.bits, convV, ne_eq, not_false_eq_true, not_true_eq_false, Int.reduceNeg, Int.reduceAdd, Int.reduceSub, Int.reduceLT, Int.reduceLE, Option.isSome_some, extractV, decide_true, decide_false, Int.reduceEq, List.getElem?_toArray, mkFuncV, List.map_toArray, beq_self_eq_true, Ty.t3, Try.underlying3, Ty.t4, Try.underlying4, Ty.t37, Try.underlying37, Ty.t22, Try.underlying22, Ty.t5, Try.underlying5, Ty.t23, Try.underlying23, Ty.t31, Try.underlying31, g2, hmk, hz]
  obtain ⟨c0, s2, hcp, hc1, hc2, hm2, hn2, hh2⟩ : ∃ (c0 : Nat) (s2 : St), copyB Try.prog base (s.alloc (.row (bC (repYs n 0)))) [23, 23] [.slice (some ⟨s.next, 0, none⟩) n n, v] = some (.int .i64 (c0 : Int), s2) ∧ c0 ≤ n ∧ (1 ≤ c0 ∨ n = 0) ∧ Mild s s2 ∧ s.next < s2.next ∧ s2.heap s.next = .row (bC (repYs n c0)) := by
    by_cases h0 : n = 0
    · subst h0
      exact ⟨0, _, copy_zero (hs.mild (.alloc _ _)), Nat.le_refl _, .inr rfl, .alloc _ _, by simp only [Ab.next_alloc]; omega, Ab.heap_alloc_new _ _⟩
    · exact ⟨1, _, copy_one (hs.mild (.alloc _ _)) (Ab.heap_alloc_new _ _) hbn (by omega), by omega, .inl (Nat.le_refl _), (Mild.alloc _ _).upd' (Nat.le_refl _), by simp only [Ab.next_upd, Ab.next_alloc]; omega, Ab.heap_upd_same _ _ _⟩
  simp (disch := first | omega | ((simp only [Ab.next_alloc, Ab.next_upd, List.length_cons, List.length_nil, ne_eq, not_true_eq_false, not_false_eq_true]) <;> omega) | decide) only [↓stepPre, stepPost, ↓W_cond, ↓W_block, ↓reduceIte, Nat.reduceEqDiff, Nat.reduceLT, Nat.reduceLeDiff, List.size_toArray, List.length_cons, List.length_nil, ret0, stVar, isTup, Value.cells, List.set_cons_zero, List.set_cons_succ, Nat.le_refl, Nat.reduceAdd, Nat.reduceMul, Nat.reduceSub, env0, List.getD_cons_zero, List.getD_cons_succ, binV, intV, reduceCtorEq, List.getElem?_cons_succ, List.getElem?_cons_zero, pickV, nilCheckV, ptrV, unV, true_and, and_true, List.map_cons, List.map_nil, Nat.add_zero, Nat.zero_add, Option.isNone_none, Option.isNone_some, Rt, resultsV, allV, resV, Bool.not_true, Bool.not_false, calleeV, builtinV, Option.map_some, Option.map_none, List.cons_append, List.nil_append, List.append_nil, Array.toList_append, List.toList_toArray, eqV, fieldAddrV, ldVar, stN_own, stN_ownL, Int.cast_ofNat_Int, Int.fdiv_eq_ediv_of_nonneg, Int.reduceToNat, Nat.min_eq_left, Int.reducePow, IntKind.bits, convV, ne_eq, not_false_eq_true, not_true_eq_false, Int.reduceNeg, Int.reduceAdd, Int.reduceSub, Int.reduceLT, Int.reduceLE, Option.isSome_some, extractV, decide_true, decide_false, Int.reduceEq, List.getElem?_toArray, mkFuncV, List.map_toArray, beq_self_eq_true, Ty.t3, Try.underlying3, Ty.t4, Try.underlying4, Ty.t37, Try.underlying37, Ty.t22, Try.underlying22, Ty.t5, Try.underlying5, Ty.t23, Try.underlying23, Ty.t31, Try.underlying31, hcp]
  refine W_loop_dec (d := n - c0) (fun d e s1 => ∃ c : Nat, d = n - c ∧ c ≤ n ∧ (1 ≤ c ∨ n = 0) ∧ Mild s s1 ∧ s.next < s1.next ∧ s1.heap s.next = .row (bC (repYs n c)) ∧ e 7 = .slice (some ⟨s.next, 0, none⟩) n n ∧ e 8 = .int .i64 (c : Int)) ?_ ⟨c0, rfl, hc1, hc2, hm2, hn2, hh2, rfl, rfl⟩
  rintro d e s1 ⟨c, rfl, hcn, hc0, hm, hn1, hh, h7, h8⟩
  simp (disch := first | omega | ((simp only [Ab.next_alloc, Ab.next_upd, List.length_cons, List.length_nil, ne_eq, not_true_eq_false, not_false_eq_true]) <;> omega) | decide) only [↓stepPre, stepPost, ↓W_cond, ↓W_block, ↓reduceIte, Nat.reduceEqDiff, Nat.reduceLT, Nat.reduceLeDiff, List.size_toArray, List.length_cons, List.length_nil, ret0, stVar, isTup, Value.cells, List.set_cons_zero, List.set_cons_succ, Nat.le_refl, Nat.reduceAdd, Nat.reduceMul, Nat.reduceSub, env0, List.getD_cons_zero, List.getD_cons_succ, binV, intV, reduceCtorEq, List.getElem?_cons_succ, List.getElem?_cons_zero, pickV, nilCheckV, ptrV, unV, true_and, and_true, List.map_cons, List.map_nil, Nat.add_zero, Nat.zero_add, Option.isNone_none, Option.isNone_some, Rt, resultsV, allV, resV, Bool.not_true, Bool.not_false, calleeV, builtinV, Option.map_some, Option.map_none, List.cons_append, List.nil_append, List.append_nil, Array.toList_append, List.toList_toArray, eqV, fieldAddrV, ldVar, stN_own, stN_ownL, Int.cast_ofNat_Int, Int.fdiv_eq_ediv_of_nonneg, Int.reduceToNat, Nat.min_eq_left, Int.reducePow, IntKind.bits, convV, ne_eq, not_false_eq_true, not_true_eq_false, Int.reduceNeg, Int.reduceAdd, Int.reduceSub, Int.reduceLT, Int.reduceLE, Option.isSome_some, extractV, decide_true, decide_false, Int.reduceEq, List.getElem?_toArray, mkFuncV, List.map_toArray, beq_self_eq_true, Ty.t3, Try.underlying3, Ty.t4, Try.underlying4, Ty.t37, Try.underlying37, Ty.t22, Try.underlying22, Ty.t5, Try.underlying5, Ty.t23, Try.underlying23, Ty.t31, Try.underlying31, h7, h8, hlt]
  refine Wif_dec (fun h => ?_) (fun h => ?_)
  · have hk : 0 < min c (n - c) := by omega
    simp (disch := first | omega | ((simp only [Ab.next_alloc, Ab.next_upd, List.length_cons, List.length_nil, ne_eq, not_true_eq_false, not_false_eq_true]) <;> omega) | decide) only [↓stepPre, stepPost, ↓W_cond, ↓W_block, ↓reduceIte, Nat.reduceEqDiff, Nat.reduceLT, Nat.reduceLeDiff, List.size_toArray, List.length_cons, List.length_nil, ret0, stVar, isTup, Value.cells, List.set_cons_zero, List.set_cons_succ, Nat.le_refl, Nat.reduceAdd, Nat.reduceMul, Nat.reduceSub, env0, List.getD_cons_zero, List.getD_cons_succ, binV, intV, reduceCtorEq, List.getElem?_cons_succ, List.getElem?_cons_zero, pickV, nilCheckV, ptrV, unV, true_and, and_true, List.map_cons, List.map_nil, Nat.add_zero, Nat.zero_add, Option.isNone_none, Option.isNone_some, Rt, resultsV, allV, resV, Bool.not_true, Bool.not_false, calleeV, builtinV, Option.map_some, Option.map_none, List.cons_append, List.nil_append, List.append_nil, Array.toList_append, List.toList_toArray, eqV, fieldAddrV, ldVar, stN_own, stN_ownL, Int.cast_ofNat_Int, Int.fdiv_eq_ediv_of_nonneg, Int.reduceToNat, Nat.min_eq_left, Int.reducePow, IntKind.bits, convV, ne_eq, not_false_eq_true, not_true_eq_false, Int.reduceNeg, Int.reduceAdd, Int.reduceSub, Int.reduceLT, Int.reduceLE, Option.isSome_some, extractV, decide_true, decide_false, Int.reduceEq, List.getElem?_toArray, mkFuncV, List.map_toArray, beq_self_eq_true]
    refine W_draw (fun k => k == 7) (fun _ => false) (fun _ => false) (by kernel_rfl) (by kernel_rfl) ?_
    have hadd : (c : Int) + ((min c (n - c) : Nat) : Int) = ((c + min c (n - c) : Nat) : Int) := by omega
    simp (disch := first | omega | ((simp only [Ab.next_alloc, Ab.next_upd, List.length_cons, List.length_nil, ne_eq, not_true_eq_false, not_false_eq_true]) <;> omega) | decide) only [↓stepPre, stepPost, ↓W_cond, ↓W_block, ↓reduceIte, Nat.reduceEqDiff, Nat.reduceLT, Nat.reduceLeDiff, List.size_toArray, List.length_cons, List.length_nil, ret0, stVar, isTup, Value.cells, List.set_cons_zero, List.set_cons_succ, Nat.le_refl, Nat.reduceAdd, Nat.reduceMul, Nat.reduceSub, env0, List.getD_cons_zero, List.getD_cons_succ, binV, intV, reduceCtorEq, List.getElem?_cons_succ, List.getElem?_cons_zero, pickV, nilCheckV, ptrV, unV, true_and, and_true, List.map_cons, List.map_nil, Nat.add_zero, Nat.zero_add, Option.isNone_none, Option.isNone_some, Rt, resultsV, allV, resV, Bool.not_true, Bool.not_false, calleeV, builtinV, Option.map_some, Option.map_none, List.cons_append, List.nil_append, List.append_nil, Array.toList_append, List.toList_toArray, eqV, fieldAddrV, ldVar, stN_own, stN_ownL, Int.cast_ofNat_Int, Int.fdiv_eq_ediv_of_nonneg, Int.reduceToNat, Nat.min_eq_left, Int.reducePow, IntKind.bits, convV, ne_eq, not_false_eq_true, not_true_eq_false, Int.reduceNeg, Int.reduceAdd, Int.reduceSub, Int.reduceLT, Int.reduceLE, Option.isSome_some, extractV, decide_true, decide_false, Int.reduceEq, List.getElem?_toArray, mkFuncV, List.map_toArray, beq_self_eq_true, Ty.t3, Try.underlying3, Ty.t4, Try.underlying4, Ty.t37, Try.underlying37, Ty.t22, Try.underlying22, Ty.t5, Try.underlying5, Ty.t23, Try.underlying23, Ty.t31, Try.underlying31, h7, h8, cut_back hh hcn, cut_front hh hcn, copy_rep hh hbn hcn hk]
    exact ⟨n - (c + min c (n - c)), by omega, c + min c (n - c), rfl, by omega, .inl (by omega), hm.upd' (Nat.le_refl _), hn1, rfl, by rw [← hadd]⟩
  · have : c = n := by omega
    subst this
    rw [repYs_full] at hh
    simp (disch := first | omega | ((simp only [Ab.next_alloc, Ab.next_upd, List.length_cons, List.length_nil, ne_eq, not_true_eq_false, not_false_eq_true]) <;> omega) | decide) only [↓stepPre, stepPost, ↓W_cond, ↓W_block, ↓reduceIte, Nat.reduceEqDiff, Nat.reduceLT, Nat.reduceLeDiff, List.size_toArray, List.length_cons, List.length_nil, ret0, stVar, isTup, Value.cells, List.set_cons_zero, List.set_cons_succ, Nat.le_refl, Nat.reduceAdd, Nat.reduceMul, Nat.reduceSub, env0, List.getD_cons_zero, List.getD_cons_succ, binV, intV, reduceCtorEq, List.getElem?_cons_succ, List.getElem?_cons_zero, pickV, nilCheckV, ptrV, unV, true_and, and_true, List.map_cons, List.map_nil, Nat.add_zero, Nat.zero_add, Option.isNone_none, Option.isNone_some, Rt, resultsV, allV, resV, Bool.not_true, Bool.not_false, calleeV, builtinV, Option.map_some, Option.map_none, List.cons_append, List.nil_append, List.append_nil, Array.toList_append, List.toList_toArray, eqV, fieldAddrV, ldVar, stN_own, stN_ownL, Int.cast_ofNat_Int, Int.fdiv_eq_ediv_of_nonneg, Int.reduceToNat, Nat.min_eq_left, Int.reducePow, IntKind.bits, convV, ne_eq, not_false_eq_true, not_true_eq_false, Int.reduceNeg, Int.reduceAdd, Int.reduceSub, Int.reduceLT, Int.reduceLE, Option.isSome_some, extractV, decide_true, decide_false, Int.reduceEq, List.getElem?_toArray, mkFuncV, List.map_toArray, beq_self_eq_true, h7, Try.results34]
    exact hR _ s.next hm (Nat.le_refl _) hn1 hh
end Go.Proofs.Ytdllcipkdbhhlaa
