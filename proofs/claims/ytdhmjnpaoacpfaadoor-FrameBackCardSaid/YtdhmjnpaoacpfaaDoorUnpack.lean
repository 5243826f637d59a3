import Derived.Test.YtdhmjnpaoacpfaaDoorTypes
import Derived.Test.YtdhmjnpaoacpfaaDoorRow0
import Derived.Test.YtdhmjnpaoacpfaaDoorAbC
import Derived.Test.YtdhmjnpaoacpfaaDoorBits
import Derived.Test.YtdhmjnpaoacpfaaDoorOwnOf
import Derived.Test.YtdhmjnpaoacpfaaDoorFlip
import Derived.Test.YtdhmjnpaoacpfaaDoorPack
/- The package strand: Unpack, as a contract; and what was packed, unpacked. -/
set_option linter.all false
set_option maxRecDepth 20000
namespace Go.Proofs.YtdhmjnpaoacpfaaDoor
open Go Go.Ab
def stBUnpack := And.intro @List.size_toArray.{0} (And.intro @List.length_cons.{0} (And.intro @List.length_nil.{0} (And.intro @List.set_cons_zero.{0} (And.intro @List.set_cons_succ.{0} (And.intro @List.getD_cons_zero.{0} (And.intro @List.getD_cons_succ.{0} (And.intro @List.getElem?_cons_succ.{0} (And.intro @List.getElem?_cons_zero.{0} (And.intro @List.map_cons.{0,0} (And.intro @List.map_nil.{0,0} (And.intro @Option.isNone_none.{0} (And.intro @Option.isNone_some.{0} (And.intro @Option.map_some.{0,0} (And.intro @Option.map_none.{0,0} (And.intro @List.cons_append.{0} (And.intro @List.nil_append.{0} (And.intro @List.append_nil.{0} (And.intro @Array.toList_append.{0} (And.intro @List.toList_toArray.{0} (And.intro @Int.cast_ofNat_Int (And.intro @Option.isSome_some.{0} (And.intro @List.getElem?_toArray.{0} (And.intro @List.map_toArray.{0,0} (@Nat.min_eq_left))))))))))))))))))))))))
variable {base : Nat} {s : St} {R : Value → St → Prop}
def unpackL (ys : List Nat) (n : Nat) : List Nat := (List.range n).map fun i => ys.getD (i / 8) 0 / 2 ^ (7 - i % 8) % 2
theorem unpackL_len (ys : List Nat) (n : Nat) : (unpackL ys n).length = n := by simp [unpackL]
theorem unpackL_take (ys : List Nat) (n m : Nat) (h : n ≤ m) : (unpackL ys m).take n = unpackL ys n := by
  simp [unpackL, ← List.map_take, List.take_range, Nat.min_eq_left h]
theorem unpackL_succ (ys : List Nat) (i : Nat) : unpackL ys (8 * (i + 1)) = unpackL ys (8 * i) ++ bitsOf (ys.getD i 0) 8 := by
  apply List.ext_getElem
  · simp [unpackL, bitsOf]; omega
  · intro p h1 h2
    rw [unpackL_len] at h1
    by_cases hp : p < 8 * i
    · rw [List.getElem_append_left (by rw [unpackL_len]; exact hp)]
      simp [unpackL]
    · rw [List.getElem_append_right (by rw [unpackL_len]; omega)]
      simp only [unpackL, bitsOf, List.getElem_map, List.getElem_range, List.length_map, List.length_range]
      rw [show p / 8 = i by omega, show 7 - p % 8 = 8 - 1 - (p - 8 * i) by omega]
theorem unpack_ok {v : Value} {ys : List Nat} {n : Nat} (hs : Sl base s 1 v (bL ys)) (hlen : ys.length ≤ 10000) (hn : n ≤ 8 * ys.length) (hy : ∀ y ∈ ys, y < 256) (hbn : base ≤ s.next) (hR : ∀ s' v', Mild s s' → Sl base s' 1 v' (bL (unpackL ys n)) → R v' s') : WC Tryd.prog base 38 [v, .int .i64 (n : Int)] s R := by
  refine WC_open Tryd.func38 rfl ?_
  have g1 : ¬ ((n : Int) < 0) := by omega
  have g2 : ¬ (8 * (ys.length : Int) < (n : Int)) := by omega
  simp (disch := first | omega | ((simp only [Ab.next_alloc, Ab.next_upd, List.length_cons, List.length_nil, ne_eq, not_true_eq_false, not_false_eq_true]) <;> omega) | decide) only [↓stepPre, stepPost, ↓W_cond, ↓W_block, ↓reduceIte, Nat.reduceEqDiff, Nat.reduceLT, Nat.reduceLeDiff, ret0, stVar, isTup, Value.cells, Nat.le_refl, Nat.reduceAdd, Nat.reduceMul, Nat.reduceSub, env0, binV, intV, reduceCtorEq, pickV, nilCheckV, ptrV, unV, true_and, and_true, Nat.add_zero, Nat.zero_add, Rt, resultsV, allV, resV, Bool.not_true, Bool.not_false, calleeV, builtinV, eqV, fieldAddrV, ldVar, stN_own, stN_ownL, Int.fdiv_eq_ediv_of_nonneg, Int.reduceToNat, Int.reducePow, IntKind.bits, convV, ne_eq, not_false_eq_true, not_true_eq_false, Int.reduceNeg, Int.reduceAdd, Int.reduceSub, Int.reduceLT, Int.reduceLE, extractV, decide_true, decide_false, Int.reduceEq, mkFuncV, stBUnpack, beq_self_eq_true, Ty.t3, Tryd.underlying3, Ty.t4, Tryd.underlying4, Ty.t60, Tryd.underlying60, Ty.t58, Tryd.underlying58, Ty.t5, Tryd.underlying5, Ty.t34, Tryd.underlying34, g1, g2, hs.len Ty.elem34 Ty.arr34, bL_len]
  refine W_loop_ind ys.length (fun i e s1 => Mild s s1 ∧ e 1 = .int .i64 (n : Int) ∧ e 17 = v ∧ e 18 = .int .i64 ys.length ∧ e 19 = .int .i64 (i : Int) ∧ ∃ w, e 5 = w ∧ Sl base s1 1 w (bL (unpackL ys (8 * i))) ∧ Tight base w ∧ ∀ b, inB w b → s.next ≤ b) ?_ ?_
  rotate_left
  · exact ⟨.refl _, rfl, rfl, rfl, rfl, .slice none 0 0, rfl, .nil, trivial, fun b hb => hb.elim⟩
  rintro i e s1 hi ⟨hm, h1, h17, h18, h19, w, h5, hw, htg, hnw⟩
  have hn1 := hm.next
  have hs1 := hs.mild hm
  simp (disch := first | omega | ((simp only [Ab.next_alloc, Ab.next_upd, List.length_cons, List.length_nil, ne_eq, not_true_eq_false, not_false_eq_true]) <;> omega) | decide) only [↓stepPre, stepPost, ↓W_cond, ↓W_block, ↓reduceIte, Nat.reduceEqDiff, Nat.reduceLT, Nat.reduceLeDiff, ret0, stVar, isTup, Value.cells, Nat.le_refl, Nat.reduceAdd, Nat.reduceMul, Nat.reduceSub, env0, binV, intV, reduceCtorEq, pickV, nilCheckV, ptrV, unV, true_and, and_true, Nat.add_zero, Nat.zero_add, Rt, resultsV, allV, resV, Bool.not_true, Bool.not_false, calleeV, builtinV, eqV, fieldAddrV, ldVar, stN_own, stN_ownL, Int.fdiv_eq_ediv_of_nonneg, Int.reduceToNat, Int.reducePow, IntKind.bits, convV, ne_eq, not_false_eq_true, not_true_eq_false, Int.reduceNeg, Int.reduceAdd, Int.reduceSub, Int.reduceLT, Int.reduceLE, extractV, decide_true, decide_false, Int.reduceEq, mkFuncV, stBUnpack, beq_self_eq_true, Ty.t3, Tryd.underlying3, Ty.t4, Tryd.underlying4, Ty.t60, Tryd.underlying60, Ty.t58, Tryd.underlying58, Ty.t5, Tryd.underlying5, Ty.t34, Tryd.underlying34, h18, h19]
  refine Wif_dec (fun h => ?_) (fun h => ?_)
  · have hil : i < ys.length := by omega
    have k1 := bL_len ys
    have hyi := hy ys[i] (by simp)
    simp (disch := first | omega | ((simp only [Ab.next_alloc, Ab.next_upd, List.length_cons, List.length_nil, ne_eq, not_true_eq_false, not_false_eq_true]) <;> omega) | decide) only [↓stepPre, stepPost, ↓W_cond, ↓W_block, ↓reduceIte, Nat.reduceEqDiff, Nat.reduceLT, Nat.reduceLeDiff, ret0, stVar, isTup, Value.cells, Nat.le_refl, Nat.reduceAdd, Nat.reduceMul, Nat.reduceSub, env0, binV, intV, reduceCtorEq, pickV, nilCheckV, ptrV, unV, true_and, and_true, Nat.add_zero, Nat.zero_add, Rt, resultsV, allV, resV, Bool.not_true, Bool.not_false, calleeV, builtinV, eqV, fieldAddrV, ldVar, stN_own, stN_ownL, Int.fdiv_eq_ediv_of_nonneg, Int.reduceToNat, Int.reducePow, IntKind.bits, convV, ne_eq, not_false_eq_true, not_true_eq_false, Int.reduceNeg, Int.reduceAdd, Int.reduceSub, Int.reduceLT, Int.reduceLE, extractV, decide_true, decide_false, Int.reduceEq, mkFuncV, stBUnpack, beq_self_eq_true, Ty.t3, Tryd.underlying3, Ty.t4, Tryd.underlying4, Ty.t60, Tryd.underlying60, Ty.t58, Tryd.underlying58, Ty.t5, Tryd.underlying5, Ty.t34, Tryd.underlying34, h5, h17, h18, h19, hs1.index Ty.elem34 Ty.siz5, Int.toNat_natCast, hs1.load1 (bL_at hil) Ty.agg5 Ty.siz5]
    refine own_of_ok (n := ys[i]) (k := 8) (by omega) (by omega) (by omega) fun v2 s2 hm2 hv2 _ _ => ?_
    have hn2 := hm2.next
    obtain ⟨v', s', e1, e2, e3, e4, e5⟩ := app_big (hw.mild hm2) htg (by omega) hv2 (by rw [unpackL_len, bitsOf_len]; omega)
    have hn4 := e4.next
    simp (disch := first | omega | ((simp only [Ab.next_alloc, Ab.next_upd, List.length_cons, List.length_nil, ne_eq, not_true_eq_false, not_false_eq_true]) <;> omega) | decide) only [↓stepPre, stepPost, ↓W_cond, ↓W_block, ↓reduceIte, Nat.reduceEqDiff, Nat.reduceLT, Nat.reduceLeDiff, ret0, stVar, isTup, Value.cells, Nat.le_refl, Nat.reduceAdd, Nat.reduceMul, Nat.reduceSub, env0, binV, intV, reduceCtorEq, pickV, nilCheckV, ptrV, unV, true_and, and_true, Nat.add_zero, Nat.zero_add, Rt, resultsV, allV, resV, Bool.not_true, Bool.not_false, calleeV, builtinV, eqV, fieldAddrV, ldVar, stN_own, stN_ownL, Int.fdiv_eq_ediv_of_nonneg, Int.reduceToNat, Int.reducePow, IntKind.bits, convV, ne_eq, not_false_eq_true, not_true_eq_false, Int.reduceNeg, Int.reduceAdd, Int.reduceSub, Int.reduceLT, Int.reduceLE, extractV, decide_true, decide_false, Int.reduceEq, mkFuncV, stBUnpack, beq_self_eq_true, Ty.t3, Tryd.underlying3, Ty.t4, Tryd.underlying4, Ty.t60, Tryd.underlying60, Ty.t58, Tryd.underlying58, Ty.t5, Tryd.underlying5, Ty.t34, Tryd.underlying34, h5, h17, h18, h19, e1]
    refine ⟨hil, (Ch.after (Ch.of_mild (hm.trans hm2) (fun b => s.next ≤ b)) e4 fun b hb hi => hnw b hi).mild fun b hb h => by omega, h1, rfl, v', rfl, ?_, e3, fun b hb => ?_⟩
    · rw [unpackL_succ, show ys.getD i 0 = ys[i] by simp [hil]]; exact e2
    · rcases e5 b hb with h | h
      · omega
      · exact hnw b h
  · have : i = ys.length := by omega
    subst this
    obtain ⟨wa, wn, wc, rfl⟩ := hw.shape
    obtain ⟨c1, c2⟩ := sl_cap hw
    rw [bL_len, unpackL_len] at c1
    obtain ⟨v', q3, q4, q5, q6⟩ := hw.cut (P := Tryd.prog) (lo := none) (hi := some (.int .i64 (n : Int))) (mx := some (.int .i64 (n : Int))) (l := 0) (h := n) (m := n) Ty.elem34 Ty.siz5 (fun a len cap hv => by
      cases hv
      simp only [cutV, intOf?]
      rw [if_pos ⟨by omega, by omega, by omega, by omega⟩]; simp) (by omega) (by rw [bL_len, unpackL_len]; omega) (by omega)
    simp (disch := first | omega | ((simp only [Ab.next_alloc, Ab.next_upd, List.length_cons, List.length_nil, ne_eq, not_true_eq_false, not_false_eq_true]) <;> omega) | decide) only [↓stepPre, stepPost, ↓W_cond, ↓W_block, ↓reduceIte, Nat.reduceEqDiff, Nat.reduceLT, Nat.reduceLeDiff, ret0, stVar, isTup, Value.cells, Nat.le_refl, Nat.reduceAdd, Nat.reduceMul, Nat.reduceSub, env0, binV, intV, reduceCtorEq, pickV, nilCheckV, ptrV, unV, true_and, and_true, Nat.add_zero, Nat.zero_add, Rt, resultsV, allV, resV, Bool.not_true, Bool.not_false, calleeV, builtinV, eqV, fieldAddrV, ldVar, stN_own, stN_ownL, Int.fdiv_eq_ediv_of_nonneg, Int.reduceToNat, Int.reducePow, IntKind.bits, convV, ne_eq, not_false_eq_true, not_true_eq_false, Int.reduceNeg, Int.reduceAdd, Int.reduceSub, Int.reduceLT, Int.reduceLE, extractV, decide_true, decide_false, Int.reduceEq, mkFuncV, stBUnpack, beq_self_eq_true, Ty.t3, Tryd.underlying3, Ty.t4, Tryd.underlying4, Ty.t60, Tryd.underlying60, Ty.t58, Tryd.underlying58, Ty.t5, Tryd.underlying5, Ty.t34, Tryd.underlying34, h1, h5, q3, Tryd.results38]
    refine hR _ v' hm ?_
    rw [List.drop_zero] at q4
    have : (bL (unpackL ys (8 * ys.length))).take n = bL (unpackL ys n) := by
      rw [← unpackL_take ys n _ hn]; simp [bL, List.map_take]
    rw [this] at q4; exact q4
end Go.Proofs.YtdhmjnpaoacpfaaDoor
