import Derived.Test.YtghigcdpinogaaaTypes
import Derived.Test.YtghigcdpinogaaaRow0
import Derived.Test.YtghigcdpinogaaaAbC
import Derived.Test.YtghigcdpinogaaaPure
import Derived.Test.YtghigcdpinogaaaBoxes
import Derived.Test.YtghigcdpinogaaaInbox
import Derived.Test.YtghigcdpinogaaaCtrl
/- A controller's oldest frame is read. -/
set_option linter.all false
set_option maxRecDepth 20000
namespace Go.Proofs.Ytghigcdpinogaaa
open Go Go.Ab
def tyB0CtrlRead := And.intro @Ty.t76 (And.intro @Try.underlying76 (And.intro @Ty.t23 (And.intro @Try.underlying23 (And.intro @Ty.t87 (And.intro @Try.underlying87 (And.intro @Ty.t115 (And.intro @Try.underlying115 (And.intro @Ty.t71 (And.intro @Try.underlying71 (And.intro @Ty.t3 (And.intro @Try.underlying3 (And.intro @Ty.t4 @Try.underlying4))))))))))))
variable {base : Nat} [Bok base] {s : St} {R : Value → St → Prop}
variable {c p q : Nat} {cs : CS} {X Y Z : Nat → Prop}
theorem cread_ok (h : CtrlO base s c p q cs X Y Z) (hW : cs.W.length ≤ 100)
    (hR1 : cs.W = [] → ∀ s', Mild s s' → R (.tuple #[.agg #[.bool false, .int .u32 0, .bool false, .int .i64 0, .int .u8 0, .int .u8 0, .int .u8 0, .int .u8 0, .int .u8 0, .int .u8 0, .int .u8 0, .int .u8 0, .int .i64 0, .int .i64 0], .bool false]) s')
    (hR2 : ∀ x L', cs.W = x :: L' → ∀ s', Ch s s' Y → CtrlO base s' c p q { cs with W := L' } X Y Z → R (.tuple #[.agg x.toArray, .bool true]) s') :
    WC Try.prog base 39 [.pointer (some ⟨c, 0, none⟩)] s R := by
  refine WC_open Try.func39 rfl ?_
  have hc := h.z c h.zc
  have hbn := h.hbn
  obtain ⟨vn, vf, k1, -⟩ := h.st
  have hm := Mild.alloc s (.row [.bool false, .int .u32 0, .bool false, .int .i64 0, .int .u8 0, .int .u8 0, .int .u8 0, .int .u8 0, .int .u8 0, .int .u8 0, .int .u8 0, .int .u8 0, .int .i64 0, .int .i64 0])
  have h1 := h.mild hm
  have hx14 : ∀ x ∈ cs.W, x.length = 14 := by
    obtain ⟨vf, vw, -, -, g2, -⟩ := h.i.ex
    generalize cs.W = L at g2
    cases g2 with
    | nil => simp
    | mk _ _ h3 => exact h3
  simp (disch := first | omega | ((simp only [Ab.next_alloc, Ab.next_upd, List.length_cons, List.length_nil, ne_eq, not_true_eq_false, not_false_eq_true]) <;> omega) | decide) only [↓stepPre, stepPost, ↓W_cond, ↓W_block, ↓reduceIte, Nat.reduceEqDiff, Nat.reduceLT, Nat.reduceLeDiff, List.size_toArray, List.length_cons, List.length_nil, ret0, stVar, isTup, Value.cells, List.set_cons_zero, List.set_cons_succ, Nat.le_refl, Nat.reduceAdd, Nat.reduceMul, Nat.reduceSub, env0, List.getD_cons_zero, List.getD_cons_succ, binV, intV, reduceCtorEq, List.getElem?_cons_succ, List.getElem?_cons_zero, pickV, nilCheckV, ptrV, unV, true_and, and_true, List.map_cons, List.map_nil, Nat.add_zero, Nat.zero_add, Option.isNone_none, Option.isNone_some, Rt, resultsV, allV, resV, Bool.not_true, Bool.not_false, calleeV, builtinV, Option.map_some, Option.map_none, List.cons_append, List.nil_append, List.append_nil, Array.toList_append, List.toList_toArray, eqV, fieldAddrV, ldVar, stN_own, stN_ownL, Int.cast_ofNat_Int, Int.fdiv_eq_ediv_of_nonneg, Int.reduceToNat, Nat.min_eq_left, Int.reducePow, IntKind.bits, convV, ne_eq, not_false_eq_true, not_true_eq_false, Int.reduceNeg, Int.reduceAdd, Int.reduceSub, Int.reduceLT, Int.reduceLE, Option.isSome_some, extractV, decide_true, decide_false, Int.reduceEq, List.getElem?_toArray, mkFuncV, List.map_toArray, beq_self_eq_true, tyB0CtrlRead, getL_take, List.drop_zero, List.drop_succ_cons, List.take_succ_cons, List.take_zero, List.take_nil, k1, Option.isNone_some]
  refine pop_ok h1.i hW h1.hbn (fun hw s2 m2 => ?_) fun x L' hw s2 c2 i2 => ?_
  · have n2 := m2.next
    have g0 := m2.heap s.next (by simp only [Ab.next_alloc]; omega)
    rw [Ab.heap_alloc_new] at g0
    simp only [Ab.next_alloc] at n2
    simp (disch := first | omega | ((simp only [Ab.next_alloc, Ab.next_upd, List.length_cons, List.length_nil, ne_eq, not_true_eq_false, not_false_eq_true]) <;> omega) | decide) only [↓stepPre, stepPost, ↓W_cond, ↓W_block, ↓reduceIte, Nat.reduceEqDiff, Nat.reduceLT, Nat.reduceLeDiff, List.size_toArray, List.length_cons, List.length_nil, ret0, stVar, isTup, Value.cells, List.set_cons_zero, List.set_cons_succ, Nat.le_refl, Nat.reduceAdd, Nat.reduceMul, Nat.reduceSub, env0, List.getD_cons_zero, List.getD_cons_succ, binV, intV, reduceCtorEq, List.getElem?_cons_succ, List.getElem?_cons_zero, pickV, nilCheckV, ptrV, unV, true_and, and_true, List.map_cons, List.map_nil, Nat.add_zero, Nat.zero_add, Option.isNone_none, Option.isNone_some, Rt, resultsV, allV, resV, Bool.not_true, Bool.not_false, calleeV, builtinV, Option.map_some, Option.map_none, List.cons_append, List.nil_append, List.append_nil, Array.toList_append, List.toList_toArray, eqV, fieldAddrV, ldVar, stN_own, stN_ownL, Int.cast_ofNat_Int, Int.fdiv_eq_ediv_of_nonneg, Int.reduceToNat, Nat.min_eq_left, Int.reducePow, IntKind.bits, convV, ne_eq, not_false_eq_true, not_true_eq_false, Int.reduceNeg, Int.reduceAdd, Int.reduceSub, Int.reduceLT, Int.reduceLE, Option.isSome_some, extractV, decide_true, decide_false, Int.reduceEq, List.getElem?_toArray, mkFuncV, List.map_toArray, beq_self_eq_true, tyB0CtrlRead, getL_take, List.drop_zero, List.drop_succ_cons, List.take_succ_cons, List.take_zero, List.take_nil, g0, Try.results39]
    exact hR1 hw _ (Mild.upd' (hm.trans m2) (Nat.le_refl _))
  · have n2 := c2.next
    have hy : ¬ Y s.next := fun hy => by have := (h.i.low _ hy).2; omega
    have g0 := c2.heap s.next (by simp only [Ab.next_alloc]; omega) hy
    rw [Ab.heap_alloc_new] at g0
    simp only [Ab.next_alloc] at n2
    have hx := hx14 x (by rw [hw]; simp)
    have C2 := h1.inb c2 (fun b hb => .inl hb) i2
    have hxt : List.take 14 x = x := List.take_of_length_le (by omega)
    simp (disch := first | omega | ((simp only [Ab.next_alloc, Ab.next_upd, List.length_cons, List.length_nil, ne_eq, not_true_eq_false, not_false_eq_true]) <;> omega) | decide) only [↓stepPre, stepPost, ↓W_cond, ↓W_block, ↓reduceIte, Nat.reduceEqDiff, Nat.reduceLT, Nat.reduceLeDiff, List.size_toArray, List.length_cons, List.length_nil, ret0, stVar, isTup, Value.cells, List.set_cons_zero, List.set_cons_succ, Nat.le_refl, Nat.reduceAdd, Nat.reduceMul, Nat.reduceSub, env0, List.getD_cons_zero, List.getD_cons_succ, binV, intV, reduceCtorEq, List.getElem?_cons_succ, List.getElem?_cons_zero, pickV, nilCheckV, ptrV, unV, true_and, and_true, List.map_cons, List.map_nil, Nat.add_zero, Nat.zero_add, Option.isNone_none, Option.isNone_some, Rt, resultsV, allV, resV, Bool.not_true, Bool.not_false, calleeV, builtinV, Option.map_some, Option.map_none, List.cons_append, List.nil_append, List.append_nil, Array.toList_append, List.toList_toArray, eqV, fieldAddrV, ldVar, stN_own, stN_ownL, Int.cast_ofNat_Int, Int.fdiv_eq_ediv_of_nonneg, Int.reduceToNat, Nat.min_eq_left, Int.reducePow, IntKind.bits, convV, ne_eq, not_false_eq_true, not_true_eq_false, Int.reduceNeg, Int.reduceAdd, Int.reduceSub, Int.reduceLT, Int.reduceLE, Option.isSome_some, extractV, decide_true, decide_false, Int.reduceEq, List.getElem?_toArray, mkFuncV, List.map_toArray, beq_self_eq_true, tyB0CtrlRead, getL_take, List.drop_zero, List.drop_succ_cons, List.take_succ_cons, List.take_zero, List.take_nil, g0, hx, hxt, Try.results39]
    refine hR2 x L' hw _ (Ch.upd' ((Ch.of_mild hm Y).after c2 fun b _ h => h) fun h => by omega) (C2.ch (V := fun b => b = s.next) (Ch.upd' (.refl _ _) fun _ => rfl) fun b hb => ?_)
    subst hb
    exact ⟨fun h' => by have := (h.o.low _ h').2; omega, hy, fun h' => by have := (h.z _ h').2; omega, by omega⟩
end Go.Proofs.Ytghigcdpinogaaa
