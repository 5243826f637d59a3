import Derived.Test.YtdhmjnpaoacpfaaDoorTypes
import Derived.Test.YtdhmjnpaoacpfaaDoorRow0
import Derived.Test.YtdhmjnpaoacpfaaDoorAbC
import Derived.Test.YtdhmjnpaoacpfaaDoorBits
/- The document's bits and numbers (bellbuoyref02: Of, Number, one), as contracts. -/
set_option linter.all false
set_option maxRecDepth 20000
namespace Go.Proofs.YtdhmjnpaoacpfaaDoor
open Go Go.Ab
def stBRefTwo := And.intro @List.size_toArray.{0} (And.intro @List.length_cons.{0} (And.intro @List.length_nil.{0} (And.intro @List.set_cons_zero.{0} (And.intro @List.set_cons_succ.{0} (And.intro @List.getD_cons_zero.{0} (And.intro @List.getD_cons_succ.{0} (And.intro @List.getElem?_cons_succ.{0} (And.intro @List.getElem?_cons_zero.{0} (And.intro @List.map_cons.{0,0} (And.intro @List.map_nil.{0,0} (And.intro @Option.isNone_none.{0} (And.intro @Option.isNone_some.{0} (And.intro @Option.map_some.{0,0} (And.intro @Option.map_none.{0,0} (And.intro @List.cons_append.{0} (And.intro @List.nil_append.{0} (And.intro @List.append_nil.{0} (And.intro @Array.toList_append.{0} (And.intro @List.toList_toArray.{0} (And.intro @Int.cast_ofNat_Int (And.intro @Option.isSome_some.{0} (And.intro @List.getElem?_toArray.{0} (And.intro @List.map_toArray.{0,0} (@Nat.min_eq_left))))))))))))))))))))))))
variable {base : Nat} {s : St} {R : Value → St → Prop}
theorem one_p {b : Nat} (hR : R (.int .u8 (one b : Nat)) s) : WC Tryd.prog base 57 [.int .u8 (b : Int)] s R := by
  refine WC_open Tryd.func57 rfl ?_
  by_cases h : b = 0
  · subst h
    simp (disch := first | omega | ((simp only [Ab.next_alloc, Ab.next_upd, List.length_cons, List.length_nil, ne_eq, not_true_eq_false, not_false_eq_true]) <;> omega) | decide) only [↓stepPre, stepPost, ↓W_cond, ↓W_block, ↓reduceIte, Nat.reduceEqDiff, Nat.reduceLT, Nat.reduceLeDiff, ret0, stVar, isTup, Value.cells, Nat.le_refl, Nat.reduceAdd, Nat.reduceMul, Nat.reduceSub, env0, binV, intV, reduceCtorEq, pickV, nilCheckV, ptrV, unV, true_and, and_true, Nat.add_zero, Nat.zero_add, Rt, resultsV, allV, resV, Bool.not_true, Bool.not_false, calleeV, builtinV, eqV, fieldAddrV, ldVar, stN_own, stN_ownL, Int.fdiv_eq_ediv_of_nonneg, Int.reduceToNat, Int.reducePow, IntKind.bits, convV, ne_eq, not_false_eq_true, not_true_eq_false, Int.reduceNeg, Int.reduceAdd, Int.reduceSub, Int.reduceLT, Int.reduceLE, extractV, decide_true, decide_false, Int.reduceEq, mkFuncV, stBRefTwo, beq_self_eq_true, Ty.t3, Tryd.underlying3, Ty.t4, Tryd.underlying4, Ty.t60, Tryd.underlying60, Ty.t58, Tryd.underlying58, Ty.t5, Tryd.underlying5, Ty.t34, Tryd.underlying34, Int.cast_ofNat_Int, Tryd.results57]
    exact hR
  · have h' : ¬ ((b : Int) = 0) := by omega
    simp (disch := first | omega | ((simp only [Ab.next_alloc, Ab.next_upd, List.length_cons, List.length_nil, ne_eq, not_true_eq_false, not_false_eq_true]) <;> omega) | decide) only [↓stepPre, stepPost, ↓W_cond, ↓W_block, ↓reduceIte, Nat.reduceEqDiff, Nat.reduceLT, Nat.reduceLeDiff, ret0, stVar, isTup, Value.cells, Nat.le_refl, Nat.reduceAdd, Nat.reduceMul, Nat.reduceSub, env0, binV, intV, reduceCtorEq, pickV, nilCheckV, ptrV, unV, true_and, and_true, Nat.add_zero, Nat.zero_add, Rt, resultsV, allV, resV, Bool.not_true, Bool.not_false, calleeV, builtinV, eqV, fieldAddrV, ldVar, stN_own, stN_ownL, Int.fdiv_eq_ediv_of_nonneg, Int.reduceToNat, Int.reducePow, IntKind.bits, convV, ne_eq, not_false_eq_true, not_true_eq_false, Int.reduceNeg, Int.reduceAdd, Int.reduceSub, Int.reduceLT, Int.reduceLE, extractV, decide_true, decide_false, Int.reduceEq, mkFuncV, stBRefTwo, beq_self_eq_true, Ty.t3, Tryd.underlying3, Ty.t4, Tryd.underlying4, Ty.t60, Tryd.underlying60, Ty.t58, Tryd.underlying58, Ty.t5, Tryd.underlying5, Ty.t34, Tryd.underlying34, h', Tryd.results57]
    simpa [one, h] using hR
theorem bits_take_succ (n k t : Nat) (h : t < k) : (bitsOf n k).take (t + 1) = (bitsOf n k).take t ++ [n / 2 ^ (k - 1 - t) % 2] := by
  rw [List.take_succ_eq_append_getElem (by rw [bitsOf_len]; omega)]
  simp [bitsOf]
theorem of_ok {n k : Nat} (hn : n < 2 ^ 64) (hk : 1 ≤ k ∧ k ≤ 64) (hbn : base ≤ s.next) (hR : ∀ v' s', Mild s s' → Sl base s' 1 v' (bL (bitsOf n k)) → Tight base v' → (∀ b, inB v' b → s.next ≤ b) → R v' s') :
    WC Tryd.prog base 41 [.int .u64 (n : Int), .int .i64 (k : Int)] s R := by
  refine WC_open Tryd.func41 rfl ?_
  have g1 : ¬ ((k : Int) < 1) := by omega
  have g2 : ¬ (64 < (k : Int)) := by omega
  simp (disch := first | omega | ((simp only [Ab.next_alloc, Ab.next_upd, List.length_cons, List.length_nil, ne_eq, not_true_eq_false, not_false_eq_true]) <;> omega) | decide) only [↓stepPre, stepPost, ↓W_cond, ↓W_block, ↓reduceIte, Nat.reduceEqDiff, Nat.reduceLT, Nat.reduceLeDiff, ret0, stVar, isTup, Value.cells, Nat.le_refl, Nat.reduceAdd, Nat.reduceMul, Nat.reduceSub, env0, binV, intV, reduceCtorEq, pickV, nilCheckV, ptrV, unV, true_and, and_true, Nat.add_zero, Nat.zero_add, Rt, resultsV, allV, resV, Bool.not_true, Bool.not_false, calleeV, builtinV, eqV, fieldAddrV, ldVar, stN_own, stN_ownL, Int.fdiv_eq_ediv_of_nonneg, Int.reduceToNat, Int.reducePow, IntKind.bits, convV, ne_eq, not_false_eq_true, not_true_eq_false, Int.reduceNeg, Int.reduceAdd, Int.reduceSub, Int.reduceLT, Int.reduceLE, extractV, decide_true, decide_false, Int.reduceEq, mkFuncV, stBRefTwo, beq_self_eq_true, Ty.t3, Tryd.underlying3, Ty.t4, Tryd.underlying4, Ty.t60, Tryd.underlying60, Ty.t58, Tryd.underlying58, Ty.t5, Tryd.underlying5, Ty.t34, Tryd.underlying34, g1, g2]
  refine W_loop_ind k (fun t e s1 => Mild s s1 ∧ e 0 = .int .u64 (n : Int) ∧ e 6 = .int .i64 ((k : Int) - 1 - t) ∧ ∃ v, e 5 = v ∧ Sl base s1 1 v (bL ((bitsOf n k).take t)) ∧ Tight base v ∧ ∀ b, inB v b → s.next ≤ b) ?_ ?_
  rotate_left
  · exact ⟨.refl _, rfl, (show Value.int .i64 ((k : Int) - 1) = _ by simp), .slice none 0 0, rfl, .nil, trivial, fun b hb => hb.elim⟩
  rintro t e s1 ht ⟨hm, h0, h6, v, h5, hv, htg, hnw⟩
  have hn1 := hm.next
  simp (disch := first | omega | ((simp only [Ab.next_alloc, Ab.next_upd, List.length_cons, List.length_nil, ne_eq, not_true_eq_false, not_false_eq_true]) <;> omega) | decide) only [↓stepPre, stepPost, ↓W_cond, ↓W_block, ↓reduceIte, Nat.reduceEqDiff, Nat.reduceLT, Nat.reduceLeDiff, ret0, stVar, isTup, Value.cells, Nat.le_refl, Nat.reduceAdd, Nat.reduceMul, Nat.reduceSub, env0, binV, intV, reduceCtorEq, pickV, nilCheckV, ptrV, unV, true_and, and_true, Nat.add_zero, Nat.zero_add, Rt, resultsV, allV, resV, Bool.not_true, Bool.not_false, calleeV, builtinV, eqV, fieldAddrV, ldVar, stN_own, stN_ownL, Int.fdiv_eq_ediv_of_nonneg, Int.reduceToNat, Int.reducePow, IntKind.bits, convV, ne_eq, not_false_eq_true, not_true_eq_false, Int.reduceNeg, Int.reduceAdd, Int.reduceSub, Int.reduceLT, Int.reduceLE, extractV, decide_true, decide_false, Int.reduceEq, mkFuncV, stBRefTwo, beq_self_eq_true, Ty.t3, Tryd.underlying3, Ty.t4, Tryd.underlying4, Ty.t60, Tryd.underlying60, Ty.t58, Tryd.underlying58, Ty.t5, Tryd.underlying5, Ty.t34, Tryd.underlying34, h6]
  refine Wif_dec (fun h => ?_) (fun h => ?_)
  · have htk : t < k := by omega
    have hi : (k : Int) - 1 - t = ((k - 1 - t : Nat) : Int) := by omega
    rw [hi] at h6
    have hx : n / 2 ^ (k - 1 - t) < 2 ^ 64 := Nat.lt_of_le_of_lt (Nat.div_le_self _ _) hn
    have hsub : ((k - 1 - t : Nat) : Int) - 1 = (k : Int) - 1 - ((t + 1 : Nat) : Int) := by omega
    have gn : Sl base (s1.alloc (.row [.int .u8 ((n / 2 ^ (k - 1 - t) % 2 : Nat) : Int)])) 1 (.slice (some ⟨s1.next, 0, none⟩) 1 1) (bL [n / 2 ^ (k - 1 - t) % 2]) := newBytes (by omega) (by simp [bL]) rfl
    obtain ⟨v', s', e1, e2, e3, e4, e5⟩ := app_new (hv.mild (Mild.alloc _ _)) htg (by simp only [Ab.next_alloc]; omega) gn (by rw [List.length_take, bitsOf_len]; simp; omega)
    have hn4 := e4.next
    simp only [Ab.next_alloc] at hn4
    obtain ⟨a', n', c', rfl⟩ := e2.shape
    simp (disch := first | omega | ((simp only [Ab.next_alloc, Ab.next_upd, List.length_cons, List.length_nil, ne_eq, not_true_eq_false, not_false_eq_true]) <;> omega) | decide) only [↓stepPre, stepPost, ↓W_cond, ↓W_block, ↓reduceIte, Nat.reduceEqDiff, Nat.reduceLT, Nat.reduceLeDiff, ret0, stVar, isTup, Value.cells, Nat.le_refl, Nat.reduceAdd, Nat.reduceMul, Nat.reduceSub, env0, binV, intV, reduceCtorEq, pickV, nilCheckV, ptrV, unV, true_and, and_true, Nat.add_zero, Nat.zero_add, Rt, resultsV, allV, resV, Bool.not_true, Bool.not_false, calleeV, builtinV, eqV, fieldAddrV, ldVar, stN_own, stN_ownL, Int.fdiv_eq_ediv_of_nonneg, Int.reduceToNat, Int.reducePow, IntKind.bits, convV, ne_eq, not_false_eq_true, not_true_eq_false, Int.reduceNeg, Int.reduceAdd, Int.reduceSub, Int.reduceLT, Int.reduceLE, extractV, decide_true, decide_false, Int.reduceEq, mkFuncV, stBRefTwo, beq_self_eq_true, Ty.t3, Tryd.underlying3, Ty.t4, Tryd.underlying4, Ty.t60, Tryd.underlying60, Ty.t58, Tryd.underlying58, Ty.t5, Tryd.underlying5, Ty.t34, Tryd.underlying34, h0, h5, h6, hi, Int.toNat_natCast, fdivN, edivN, and1N hx, build1i Ty.elem34 Ty.siz5 Ty.zer5, e1]
    refine ⟨by omega, htk, ?_, ?_, _, rfl, ?_, e3, fun b hb => ?_⟩
    · exact (Ch.after (Ch.of_mild (hm.alloc' (o := .row [.int .u8 ((n / 2 ^ (k - 1 - t) % 2 : Nat) : Int)])) (fun b => s.next ≤ b)) e4 fun b hb hi => hnw b hi).mild fun b hb h => by omega
    · rw [hsub]
    · rw [bits_take_succ n k t htk]; exact e2
    · rcases e5 b hb with h | h
      · simp only [Ab.next_alloc] at h; omega
      · exact hnw b h
  · have htk : t = k := by omega
    subst htk
    simp (disch := first | omega | ((simp only [Ab.next_alloc, Ab.next_upd, List.length_cons, List.length_nil, ne_eq, not_true_eq_false, not_false_eq_true]) <;> omega) | decide) only [↓stepPre, stepPost, ↓W_cond, ↓W_block, ↓reduceIte, Nat.reduceEqDiff, Nat.reduceLT, Nat.reduceLeDiff, ret0, stVar, isTup, Value.cells, Nat.le_refl, Nat.reduceAdd, Nat.reduceMul, Nat.reduceSub, env0, binV, intV, reduceCtorEq, pickV, nilCheckV, ptrV, unV, true_and, and_true, Nat.add_zero, Nat.zero_add, Rt, resultsV, allV, resV, Bool.not_true, Bool.not_false, calleeV, builtinV, eqV, fieldAddrV, ldVar, stN_own, stN_ownL, Int.fdiv_eq_ediv_of_nonneg, Int.reduceToNat, Int.reducePow, IntKind.bits, convV, ne_eq, not_false_eq_true, not_true_eq_false, Int.reduceNeg, Int.reduceAdd, Int.reduceSub, Int.reduceLT, Int.reduceLE, extractV, decide_true, decide_false, Int.reduceEq, mkFuncV, stBRefTwo, beq_self_eq_true, Ty.t3, Tryd.underlying3, Ty.t4, Tryd.underlying4, Ty.t60, Tryd.underlying60, Ty.t58, Tryd.underlying58, Ty.t5, Tryd.underlying5, Ty.t34, Tryd.underlying34, h5, Tryd.results41]
    rw [List.take_of_length_le (by rw [bitsOf_len]; omega)] at hv
    exact hR _ _ hm hv htg hnw
end Go.Proofs.YtdhmjnpaoacpfaaDoor
