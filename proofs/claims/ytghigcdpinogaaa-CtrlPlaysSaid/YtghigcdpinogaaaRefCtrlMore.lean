/- The document's controller (bellbuoyref15): what it is asked, and told. -/
import Derived.Test.YtghigcdpinogaaaTypes
import Derived.Test.YtghigcdpinogaaaRow0
import Derived.Test.YtghigcdpinogaaaAbC
import Derived.Test.YtghigcdpinogaaaBits
import Derived.Test.YtghigcdpinogaaaPure
import Derived.Test.YtghigcdpinogaaaBoxes
import Derived.Test.YtghigcdpinogaaaRefBoxes
import Derived.Test.YtghigcdpinogaaaCtrl
import Derived.Test.YtghigcdpinogaaaCtrlMore
import Derived.Test.YtghigcdpinogaaaRefCtrl
set_option linter.all false
set_option maxRecDepth 20000
namespace Go.Proofs.Ytghigcdpinogaaa
open Go Go.Ab
def stBRefCtrlMore := And.intro @List.size_toArray.{0} (And.intro @List.length_cons.{0} (And.intro @List.length_nil.{0} (And.intro @List.set_cons_zero.{0} (And.intro @List.set_cons_succ.{0} (And.intro @List.getD_cons_zero.{0} (And.intro @List.getD_cons_succ.{0} (And.intro @List.getElem?_cons_succ.{0} (And.intro @List.getElem?_cons_zero.{0} (And.intro @List.map_cons.{0,0} (And.intro @List.map_nil.{0,0} (And.intro @Option.isNone_none.{0} (And.intro @Option.isNone_some.{0} (And.intro @Option.map_some.{0,0} (And.intro @Option.map_none.{0,0} (And.intro @List.cons_append.{0} (And.intro @List.nil_append.{0} (And.intro @List.append_nil.{0} (And.intro @Array.toList_append.{0} (And.intro @List.toList_toArray.{0} (And.intro @Int.cast_ofNat_Int (And.intro @Option.isSome_some.{0} (And.intro @List.getElem?_toArray.{0} (And.intro @List.map_toArray.{0,0} (@Nat.min_eq_left))))))))))))))))))))))))
def glBRefCtrlMore := And.intro @List.drop_zero.{0} (And.intro @List.drop_succ_cons.{0} (And.intro @List.take_succ_cons.{0} (And.intro @List.take_zero.{0} (@List.take_nil.{0}))))
def tyB1RefCtrlMore := And.intro @Ty.t100 (And.intro @Try.underlying100 (And.intro @Ty.t60 (And.intro @Try.underlying60 (And.intro @Ty.t51 (And.intro @Try.underlying51 (And.intro @Ty.t45 (And.intro @Try.underlying45 (And.intro @Ty.t49 (And.intro @Try.underlying49 (And.intro @Ty.t38 (And.intro @Try.underlying38 (And.intro @Ty.t37 (And.intro @Try.underlying37 (And.intro @Ty.t35 (And.intro @Try.underlying35 (And.intro @Ty.t47 (And.intro @Try.underlying47 (And.intro @Ty.t34 (And.intro @Try.underlying34 (And.intro @Ty.t93 (And.intro @Try.underlying93 (And.intro @Ty.t96 (And.intro @Try.underlying96 (And.intro @Ty.t105 (And.intro @Try.underlying105 (And.intro @Ty.t87 (And.intro @Try.underlying87 (And.intro @Ty.t103 (And.intro @Try.underlying103 (And.intro @Ty.t59 (And.intro @Try.underlying59 (And.intro @Ty.t32 (And.intro @Try.underlying32 (And.intro @Ty.t29 (And.intro @Try.underlying29 (And.intro @Ty.t3 (And.intro @Try.underlying3 (And.intro @Ty.t2 (And.intro @Try.underlying2 (And.intro @Ty.t4 (And.intro @Try.underlying4 (And.intro @Ty.t27 (And.intro @Try.underlying27 (And.intro @Ty.t5 (And.intro @Try.underlying5 (And.intro @Ty.t30 (And.intro @Try.underlying30 (And.intro @Ty.t24 @Try.underlying24))))))))))))))))))))))))))))))))))))))))))))))))
variable {base : Nat} [Bok base] {s : St} {R : Value → St → Prop}
variable {c r q : Nat} {cs : CS} {X Y Z : Nat → Prop} {k : Int} {a : Bool}
def atN : Option (Int × Bool) → Int
  | none => -1
  | some (k, _) => k
def abN : Option (Int × Bool) → Bool
  | none => false
  | some (_, a) => a
/-- What is being sent is there. -/
def CS.fil (cs : CS) : Prop := ∀ k a, cs.now = some (k, a) → (atO cs.L k).isSome = true
theorem atO_nn {L : Bx} {k : Int} (h : (atO L k).isSome = true) : 0 ≤ k := by
  refine Decidable.byContradiction fun hc => ?_
  rw [atO_big (.inl (by omega))] at h; cases h
theorem rfind_ok {t : Int} (h : RB base s r cs.L X) (hR : R (.int .i64 (findT cs.L t)) s) : WC Try.prog base 63 [.pointer (some ⟨r, 0, none⟩), .int .i64 t] s R := by
  obtain ⟨bP, bH, Lp, h1, h2⟩ := h.ex
  exact rfind_p h1 hR
theorem find_at {L : Bx} {t : Int} (h : ¬ findT L t < 0) : (atO L (findT L t)).isSome = true := by
  rcases fidx_cases (tagAt L t) L.length with ⟨i, h1, h2, h3, h4⟩ | ⟨h1, h2⟩
  · rw [findT, h4, atO_nat]
    simp only [tagAt] at h2
    cases ho : L.getD i none with
    | none => rw [ho] at h2; cases h2
    | some p => rfl
  · rw [findT, h2] at h; omega
theorem rcabort_ok {t : Int} (h : RC base s c r q cs (atN cs.now) (abN cs.now) X Y Z) (hf : cs.fil) (hfl : cs.fates.length ≤ 100000) (hR : ∀ s' Z', Ch s s' (fun b => X b ∨ Z b) → (∀ b, Z' b → Z b ∨ s.next ≤ b) → RC base s' c r q (cs.abort t) (atN (cs.abort t).now) (abN (cs.abort t).now) X Y Z' → R (.int .i64 (if findT cs.L t < 0 then 7 else 0)) s') :
    WC Try.prog base 38 [.pointer (some ⟨c, 0, none⟩), .int .i64 t] s R := by
  refine WC_open Try.func38 rfl ?_
  have hc := h.z c h.zc
  obtain ⟨vf, k1, k3, k4, k5⟩ := h.st
  simp (disch := first | omega | ((simp only [Ab.next_alloc, Ab.next_upd, List.length_cons, List.length_nil, ne_eq, not_true_eq_false, not_false_eq_true]) <;> omega) | decide) only [↓stepPre, stepPost, ↓W_cond, ↓W_block, ↓reduceIte, Nat.reduceEqDiff, Nat.reduceLT, Nat.reduceLeDiff, ret0, stVar, isTup, Value.cells, Nat.le_refl, Nat.reduceAdd, Nat.reduceMul, Nat.reduceSub, env0, binV, intV, reduceCtorEq, pickV, nilCheckV, ptrV, unV, true_and, and_true, Nat.add_zero, Nat.zero_add, Rt, resultsV, allV, resV, Bool.not_true, Bool.not_false, calleeV, builtinV, eqV, fieldAddrV, ldVar, stN_own, stN_ownL, Int.fdiv_eq_ediv_of_nonneg, Int.reduceToNat, Int.reducePow, IntKind.bits, convV, ne_eq, not_false_eq_true, not_true_eq_false, Int.reduceNeg, Int.reduceAdd, Int.reduceSub, Int.reduceLT, Int.reduceLE, extractV, decide_true, decide_false, Int.reduceEq, mkFuncV, stBRefCtrlMore, beq_self_eq_true, tyB1RefCtrlMore, getL_take, glBRefCtrlMore, k1, Option.isNone_some]
  refine rfind_ok h.o ?_
  by_cases hf0 : findT cs.L t < 0
  · have e : cs.abort t = cs := by simp only [CS.abort, hf0, if_true]
    have key := hR s Z (.refl _ _) (fun b hb => .inl hb) (by rw [e]; exact h)
    simp only [hf0, if_true] at key
    simp (disch := first | omega | ((simp only [Ab.next_alloc, Ab.next_upd, List.length_cons, List.length_nil, ne_eq, not_true_eq_false, not_false_eq_true]) <;> omega) | decide) only [↓stepPre, stepPost, ↓W_cond, ↓W_block, ↓reduceIte, Nat.reduceEqDiff, Nat.reduceLT, Nat.reduceLeDiff, ret0, stVar, isTup, Value.cells, Nat.le_refl, Nat.reduceAdd, Nat.reduceMul, Nat.reduceSub, env0, binV, intV, reduceCtorEq, pickV, nilCheckV, ptrV, unV, true_and, and_true, Nat.add_zero, Nat.zero_add, Rt, resultsV, allV, resV, Bool.not_true, Bool.not_false, calleeV, builtinV, eqV, fieldAddrV, ldVar, stN_own, stN_ownL, Int.fdiv_eq_ediv_of_nonneg, Int.reduceToNat, Int.reducePow, IntKind.bits, convV, ne_eq, not_false_eq_true, not_true_eq_false, Int.reduceNeg, Int.reduceAdd, Int.reduceSub, Int.reduceLT, Int.reduceLE, extractV, decide_true, decide_false, Int.reduceEq, mkFuncV, stBRefCtrlMore, beq_self_eq_true, tyB1RefCtrlMore, getL_take, glBRefCtrlMore, hf0, Try.results38]
    exact key
  simp only [hf0, if_false] at hR
  have hat := find_at hf0
  have hnn := atO_nn hat
  by_cases hk : findT cs.L t = atN cs.now
  · obtain ⟨k', a', hno⟩ : ∃ k' a', cs.now = some (k', a') := by
      match hno : cs.now with
      | none => rw [hno] at hk; simp only [atN] at hk; omega
      | some (k', a') => exact ⟨k', a', rfl⟩
    have hk' : k' = findT cs.L t := by rw [hk, hno]; rfl
    have e : cs.abort t = { cs with now := some (k', true) } := by simp only [CS.abort, hf0, if_false, hno, hk', if_true]
    have key := hR _ Z (Ch.upd' (.refl _ _) fun _ => .inr h.zc) (fun b hb => .inl hb) (by
      rw [e]; exact h.row (n' := some (k', true)) (k' := k') (a' := true) (l' := cs.last) (m' := cs.mark) (t' := cs.time) k3 k4 k5)
    rw [hno] at k1 hk
    simp only [atN, abN] at k1 hk
    have hf1 : ¬ k' < 0 := by omega
    simp (disch := first | omega | ((simp only [Ab.next_alloc, Ab.next_upd, List.length_cons, List.length_nil, ne_eq, not_true_eq_false, not_false_eq_true]) <;> omega) | decide) only [↓stepPre, stepPost, ↓W_cond, ↓W_block, ↓reduceIte, Nat.reduceEqDiff, Nat.reduceLT, Nat.reduceLeDiff, ret0, stVar, isTup, Value.cells, Nat.le_refl, Nat.reduceAdd, Nat.reduceMul, Nat.reduceSub, env0, binV, intV, reduceCtorEq, pickV, nilCheckV, ptrV, unV, true_and, and_true, Nat.add_zero, Nat.zero_add, Rt, resultsV, allV, resV, Bool.not_true, Bool.not_false, calleeV, builtinV, eqV, fieldAddrV, ldVar, stN_own, stN_ownL, Int.fdiv_eq_ediv_of_nonneg, Int.reduceToNat, Int.reducePow, IntKind.bits, convV, ne_eq, not_false_eq_true, not_true_eq_false, Int.reduceNeg, Int.reduceAdd, Int.reduceSub, Int.reduceLT, Int.reduceLE, extractV, decide_true, decide_false, Int.reduceEq, mkFuncV, stBRefCtrlMore, beq_self_eq_true, tyB1RefCtrlMore, getL_take, glBRefCtrlMore, hf0, hf1, k1, hk, eq_self, Option.isNone_some, Try.results38]
    exact key
  · have e : cs.abort t = cs.out (findT cs.L t) 2 := by
      simp only [CS.abort, hf0, if_false]
      split
      · rename_i k' a' hno
        rw [hno] at hk
        simp only [atN] at hk
        rw [if_neg (fun h => hk h.symm)]
      · rfl
    simp (disch := first | omega | ((simp only [Ab.next_alloc, Ab.next_upd, List.length_cons, List.length_nil, ne_eq, not_true_eq_false, not_false_eq_true]) <;> omega) | decide) only [↓stepPre, stepPost, ↓W_cond, ↓W_block, ↓reduceIte, Nat.reduceEqDiff, Nat.reduceLT, Nat.reduceLeDiff, ret0, stVar, isTup, Value.cells, Nat.le_refl, Nat.reduceAdd, Nat.reduceMul, Nat.reduceSub, env0, binV, intV, reduceCtorEq, pickV, nilCheckV, ptrV, unV, true_and, and_true, Nat.add_zero, Nat.zero_add, Rt, resultsV, allV, resV, Bool.not_true, Bool.not_false, calleeV, builtinV, eqV, fieldAddrV, ldVar, stN_own, stN_ownL, Int.fdiv_eq_ediv_of_nonneg, Int.reduceToNat, Int.reducePow, IntKind.bits, convV, ne_eq, not_false_eq_true, not_true_eq_false, Int.reduceNeg, Int.reduceAdd, Int.reduceSub, Int.reduceLT, Int.reduceLE, extractV, decide_true, decide_false, Int.reduceEq, mkFuncV, stBRefCtrlMore, beq_self_eq_true, tyB1RefCtrlMore, getL_take, glBRefCtrlMore, hf0, k1, hk, Option.isNone_some]
    refine rout_ok h hfl hat fun s2 Z2 c2 z2 h2 => ?_
    simp (disch := first | omega | ((simp only [Ab.next_alloc, Ab.next_upd, List.length_cons, List.length_nil, ne_eq, not_true_eq_false, not_false_eq_true]) <;> omega) | decide) only [↓stepPre, stepPost, ↓W_cond, ↓W_block, ↓reduceIte, Nat.reduceEqDiff, Nat.reduceLT, Nat.reduceLeDiff, ret0, stVar, isTup, Value.cells, Nat.le_refl, Nat.reduceAdd, Nat.reduceMul, Nat.reduceSub, env0, binV, intV, reduceCtorEq, pickV, nilCheckV, ptrV, unV, true_and, and_true, Nat.add_zero, Nat.zero_add, Rt, resultsV, allV, resV, Bool.not_true, Bool.not_false, calleeV, builtinV, eqV, fieldAddrV, ldVar, stN_own, stN_ownL, Int.fdiv_eq_ediv_of_nonneg, Int.reduceToNat, Int.reducePow, IntKind.bits, convV, ne_eq, not_false_eq_true, not_true_eq_false, Int.reduceNeg, Int.reduceAdd, Int.reduceSub, Int.reduceLT, Int.reduceLE, extractV, decide_true, decide_false, Int.reduceEq, mkFuncV, stBRefCtrlMore, beq_self_eq_true, tyB1RefCtrlMore, Try.results38]
    exact hR s2 Z2 c2 z2 (by rw [e, out_now]; exact h2)
theorem rcread_ok (h : RC base s c r q cs k a X Y Z) (hW : cs.W.length ≤ 100)
    (hR1 : cs.W = [] → ∀ s', Mild s s' → R (.tuple #[.agg #[.bool false, .int .u32 0, .bool false, .int .i64 0, .int .u8 0, .int .u8 0, .int .u8 0, .int .u8 0, .int .u8 0, .int .u8 0, .int .u8 0, .int .u8 0, .int .i64 0, .int .i64 0], .bool false]) s')
    (hR2 : ∀ x L', cs.W = x :: L' → ∀ s', Ch s s' Y → RC base s' c r q { cs with W := L' } k a X Y Z → R (.tuple #[.agg x.toArray, .bool true]) s') :
    WC Try.prog base 40 [.pointer (some ⟨c, 0, none⟩)] s R := by
  refine WC_open Try.func40 rfl ?_
  have hc := h.z c h.zc
  have hbn := h.hbn
  obtain ⟨vf, k1, -⟩ := h.st
  have hm := Mild.alloc s (.row [.bool false, .int .u32 0, .bool false, .int .i64 0, .int .u8 0, .int .u8 0, .int .u8 0, .int .u8 0, .int .u8 0, .int .u8 0, .int .u8 0, .int .u8 0, .int .i64 0, .int .i64 0])
  have h1 := h.mild hm
  have hx14 : ∀ x ∈ cs.W, x.length = 14 := by
    obtain ⟨vf, vw, -, -, g2, -⟩ := h.i.ex
    generalize cs.W = L at g2
    cases g2 with
    | nil => simp
    | mk _ _ h3 => exact h3
  simp (disch := first | omega | ((simp only [Ab.next_alloc, Ab.next_upd, List.length_cons, List.length_nil, ne_eq, not_true_eq_false, not_false_eq_true]) <;> omega) | decide) only [↓stepPre, stepPost, ↓W_cond, ↓W_block, ↓reduceIte, Nat.reduceEqDiff, Nat.reduceLT, Nat.reduceLeDiff, ret0, stVar, isTup, Value.cells, Nat.le_refl, Nat.reduceAdd, Nat.reduceMul, Nat.reduceSub, env0, binV, intV, reduceCtorEq, pickV, nilCheckV, ptrV, unV, true_and, and_true, Nat.add_zero, Nat.zero_add, Rt, resultsV, allV, resV, Bool.not_true, Bool.not_false, calleeV, builtinV, eqV, fieldAddrV, ldVar, stN_own, stN_ownL, Int.fdiv_eq_ediv_of_nonneg, Int.reduceToNat, Int.reducePow, IntKind.bits, convV, ne_eq, not_false_eq_true, not_true_eq_false, Int.reduceNeg, Int.reduceAdd, Int.reduceSub, Int.reduceLT, Int.reduceLE, extractV, decide_true, decide_false, Int.reduceEq, mkFuncV, stBRefCtrlMore, beq_self_eq_true, tyB1RefCtrlMore, getL_take, glBRefCtrlMore, k1, Option.isNone_some]
  refine rpop_ok h1.i hW h1.hbn (fun hw s2 m2 => ?_) fun x L' hw s2 c2 i2 => ?_
  · have n2 := m2.next
    have g0 := m2.heap s.next (by simp only [Ab.next_alloc]; omega)
    rw [Ab.heap_alloc_new] at g0
    simp only [Ab.next_alloc] at n2
    simp (disch := first | omega | ((simp only [Ab.next_alloc, Ab.next_upd, List.length_cons, List.length_nil, ne_eq, not_true_eq_false, not_false_eq_true]) <;> omega) | decide) only [↓stepPre, stepPost, ↓W_cond, ↓W_block, ↓reduceIte, Nat.reduceEqDiff, Nat.reduceLT, Nat.reduceLeDiff, ret0, stVar, isTup, Value.cells, Nat.le_refl, Nat.reduceAdd, Nat.reduceMul, Nat.reduceSub, env0, binV, intV, reduceCtorEq, pickV, nilCheckV, ptrV, unV, true_and, and_true, Nat.add_zero, Nat.zero_add, Rt, resultsV, allV, resV, Bool.not_true, Bool.not_false, calleeV, builtinV, eqV, fieldAddrV, ldVar, stN_own, stN_ownL, Int.fdiv_eq_ediv_of_nonneg, Int.reduceToNat, Int.reducePow, IntKind.bits, convV, ne_eq, not_false_eq_true, not_true_eq_false, Int.reduceNeg, Int.reduceAdd, Int.reduceSub, Int.reduceLT, Int.reduceLE, extractV, decide_true, decide_false, Int.reduceEq, mkFuncV, stBRefCtrlMore, beq_self_eq_true, tyB1RefCtrlMore, getL_take, glBRefCtrlMore, g0, Try.results40]
    exact hR1 hw _ (Mild.upd' (hm.trans m2) (Nat.le_refl _))
  · have n2 := c2.next
    have hy : ¬ Y s.next := fun hy => by have := (h.i.low _ hy).2; omega
    have g0 := c2.heap s.next (by simp only [Ab.next_alloc]; omega) hy
    rw [Ab.heap_alloc_new] at g0
    simp only [Ab.next_alloc] at n2
    have hx := hx14 x (by rw [hw]; simp)
    have C2 := h1.inb c2 (fun b hb => .inl hb) i2
    have hxt : List.take 14 x = x := List.take_of_length_le (by omega)
    simp (disch := first | omega | ((simp only [Ab.next_alloc, Ab.next_upd, List.length_cons, List.length_nil, ne_eq, not_true_eq_false, not_false_eq_true]) <;> omega) | decide) only [↓stepPre, stepPost, ↓W_cond, ↓W_block, ↓reduceIte, Nat.reduceEqDiff, Nat.reduceLT, Nat.reduceLeDiff, ret0, stVar, isTup, Value.cells, Nat.le_refl, Nat.reduceAdd, Nat.reduceMul, Nat.reduceSub, env0, binV, intV, reduceCtorEq, pickV, nilCheckV, ptrV, unV, true_and, and_true, Nat.add_zero, Nat.zero_add, Rt, resultsV, allV, resV, Bool.not_true, Bool.not_false, calleeV, builtinV, eqV, fieldAddrV, ldVar, stN_own, stN_ownL, Int.fdiv_eq_ediv_of_nonneg, Int.reduceToNat, Int.reducePow, IntKind.bits, convV, ne_eq, not_false_eq_true, not_true_eq_false, Int.reduceNeg, Int.reduceAdd, Int.reduceSub, Int.reduceLT, Int.reduceLE, extractV, decide_true, decide_false, Int.reduceEq, mkFuncV, stBRefCtrlMore, beq_self_eq_true, tyB1RefCtrlMore, getL_take, glBRefCtrlMore, g0, hx, hxt, Try.results40]
    refine hR2 x L' hw _ (Ch.upd' ((Ch.of_mild hm Y).after c2 fun b _ h => h) fun h => by omega) (C2.ch (V := fun b => b = s.next) (Ch.upd' (.refl _ _) fun _ => rfl) fun b hb => ?_)
    subst hb
    exact ⟨fun h' => by have := (h.o.low _ h').2; omega, hy, fun h' => by have := (h.z _ h').2; omega, by omega⟩
/-- A post's frame, and whether there is one. -/
def frV' (o : Option Po) : Value := .agg ((o.getD Po.zero).c.take 12).toArray
theorem rcwant_ok (h : RC base s c r q cs (atN cs.now) a X Y Z) (hf : cs.fil) (hR : ∀ s', Mild s s' → R (.tuple #[frV' (atO cs.L cs.at_), .bool (atO cs.L cs.at_).isSome]) s') : WC Try.prog base 42 [.pointer (some ⟨c, 0, none⟩)] s R := by
  refine WC_open Try.func42 rfl ?_
  have hc := h.z c h.zc
  have hbn := h.hbn
  obtain ⟨vf, k1, -⟩ := h.st
  have hm0 := Mild.alloc s (.row (Po.zero.c.take 12))
  have h1 := h.mild hm0
  have fin : ∀ i, i = cs.at_ → ∀ (K : Value → St → Prop), (∀ s2, Mild (s.alloc (.row (Po.zero.c.take 12))) s2 → K (.tuple #[poV (atO cs.L cs.at_), .bool (atO cs.L cs.at_).isSome]) s2) → WC Try.prog base 70 [.pointer (some ⟨r, 0, none⟩), .int .i64 i] (s.alloc (.row (Po.zero.c.take 12))) K := fun i hi K hK => by
    rw [hi]; exact rcget_ok h1.o hK
  have hend : ∀ s2, Mild (s.alloc (.row (Po.zero.c.take 12))) s2 → s2.heap s.next = .row (Po.zero.c.take 12) ∧ s.next + 1 ≤ s2.next := fun s2 m2 => ⟨(m2.heap _ (by simp only [Ab.next_alloc]; omega)).trans (Ab.heap_alloc_new _ _), by have := m2.next; simp only [Ab.next_alloc] at this; omega⟩
  simp only [Po.c, List.take_succ_cons, List.take_zero] at fin hend h1 hm0
  match hno : cs.now with
  | none =>
    rw [hno] at k1
    simp only [atN] at k1
    have hat : cs.at_ = bestI cs.L := by simp only [CS.at_, hno]
    simp (disch := first | omega | ((simp only [Ab.next_alloc, Ab.next_upd, List.length_cons, List.length_nil, ne_eq, not_true_eq_false, not_false_eq_true]) <;> omega) | decide) only [↓stepPre, stepPost, ↓W_cond, ↓W_block, ↓reduceIte, Nat.reduceEqDiff, Nat.reduceLT, Nat.reduceLeDiff, ret0, stVar, isTup, Value.cells, Nat.le_refl, Nat.reduceAdd, Nat.reduceMul, Nat.reduceSub, env0, binV, intV, reduceCtorEq, pickV, nilCheckV, ptrV, unV, true_and, and_true, Nat.add_zero, Nat.zero_add, Rt, resultsV, allV, resV, Bool.not_true, Bool.not_false, calleeV, builtinV, eqV, fieldAddrV, ldVar, stN_own, stN_ownL, Int.fdiv_eq_ediv_of_nonneg, Int.reduceToNat, Int.reducePow, IntKind.bits, convV, ne_eq, not_false_eq_true, not_true_eq_false, Int.reduceNeg, Int.reduceAdd, Int.reduceSub, Int.reduceLT, Int.reduceLE, extractV, decide_true, decide_false, Int.reduceEq, mkFuncV, stBRefCtrlMore, beq_self_eq_true, tyB1RefCtrlMore, getL_take, glBRefCtrlMore, k1, Option.isNone_some]
    refine rcbest_p h1.o ?_
    simp (disch := first | omega | ((simp only [Ab.next_alloc, Ab.next_upd, List.length_cons, List.length_nil, ne_eq, not_true_eq_false, not_false_eq_true]) <;> omega) | decide) only [↓stepPre, stepPost, ↓W_cond, ↓W_block, ↓reduceIte, Nat.reduceEqDiff, Nat.reduceLT, Nat.reduceLeDiff, ret0, stVar, isTup, Value.cells, Nat.le_refl, Nat.reduceAdd, Nat.reduceMul, Nat.reduceSub, env0, binV, intV, reduceCtorEq, pickV, nilCheckV, ptrV, unV, true_and, and_true, Nat.add_zero, Nat.zero_add, Rt, resultsV, allV, resV, Bool.not_true, Bool.not_false, calleeV, builtinV, eqV, fieldAddrV, ldVar, stN_own, stN_ownL, Int.fdiv_eq_ediv_of_nonneg, Int.reduceToNat, Int.reducePow, IntKind.bits, convV, ne_eq, not_false_eq_true, not_true_eq_false, Int.reduceNeg, Int.reduceAdd, Int.reduceSub, Int.reduceLT, Int.reduceLE, extractV, decide_true, decide_false, Int.reduceEq, mkFuncV, stBRefCtrlMore, beq_self_eq_true, tyB1RefCtrlMore, getL_take, glBRefCtrlMore, k1, Option.isNone_some]
    refine fin _ hat.symm _ fun s2 m2 => ?_
    obtain ⟨g0, n2⟩ := hend s2 m2
    generalize hpo : atO cs.L cs.at_ = o at hR ⊢
    have key := hR _ (Mild.upd' ((hm0.trans m2).alloc' (o := .row (o.getD Po.zero).c)) (Nat.le_refl s.next) (o := .row ((o.getD Po.zero).c.take 12)))
    simp only [Po.c, List.take_succ_cons, List.take_zero, frV'] at key
    simp (disch := first | omega | ((simp only [Ab.next_alloc, Ab.next_upd, List.length_cons, List.length_nil, ne_eq, not_true_eq_false, not_false_eq_true]) <;> omega) | decide) only [↓stepPre, stepPost, ↓W_cond, ↓W_block, ↓reduceIte, Nat.reduceEqDiff, Nat.reduceLT, Nat.reduceLeDiff, ret0, stVar, isTup, Value.cells, Nat.le_refl, Nat.reduceAdd, Nat.reduceMul, Nat.reduceSub, env0, binV, intV, reduceCtorEq, pickV, nilCheckV, ptrV, unV, true_and, and_true, Nat.add_zero, Nat.zero_add, Rt, resultsV, allV, resV, Bool.not_true, Bool.not_false, calleeV, builtinV, eqV, fieldAddrV, ldVar, stN_own, stN_ownL, Int.fdiv_eq_ediv_of_nonneg, Int.reduceToNat, Int.reducePow, IntKind.bits, convV, ne_eq, not_false_eq_true, not_true_eq_false, Int.reduceNeg, Int.reduceAdd, Int.reduceSub, Int.reduceLT, Int.reduceLE, extractV, decide_true, decide_false, Int.reduceEq, mkFuncV, stBRefCtrlMore, beq_self_eq_true, tyB1RefCtrlMore, getL_take, glBRefCtrlMore, poV, g0, Try.results42]
    exact key
  | some (k', a') =>
    have hk0 := atO_nn (hf k' a' hno)
    rw [hno] at k1
    simp only [atN] at k1
    have hat : cs.at_ = k' := by simp only [CS.at_, hno]
    have hk1 : ¬ k' < 0 := by omega
    simp (disch := first | omega | ((simp only [Ab.next_alloc, Ab.next_upd, List.length_cons, List.length_nil, ne_eq, not_true_eq_false, not_false_eq_true]) <;> omega) | decide) only [↓stepPre, stepPost, ↓W_cond, ↓W_block, ↓reduceIte, Nat.reduceEqDiff, Nat.reduceLT, Nat.reduceLeDiff, ret0, stVar, isTup, Value.cells, Nat.le_refl, Nat.reduceAdd, Nat.reduceMul, Nat.reduceSub, env0, binV, intV, reduceCtorEq, pickV, nilCheckV, ptrV, unV, true_and, and_true, Nat.add_zero, Nat.zero_add, Rt, resultsV, allV, resV, Bool.not_true, Bool.not_false, calleeV, builtinV, eqV, fieldAddrV, ldVar, stN_own, stN_ownL, Int.fdiv_eq_ediv_of_nonneg, Int.reduceToNat, Int.reducePow, IntKind.bits, convV, ne_eq, not_false_eq_true, not_true_eq_false, Int.reduceNeg, Int.reduceAdd, Int.reduceSub, Int.reduceLT, Int.reduceLE, extractV, decide_true, decide_false, Int.reduceEq, mkFuncV, stBRefCtrlMore, beq_self_eq_true, tyB1RefCtrlMore, getL_take, glBRefCtrlMore, k1, hk1, Option.isNone_some]
    refine fin _ hat.symm _ fun s2 m2 => ?_
    obtain ⟨g0, n2⟩ := hend s2 m2
    generalize hpo : atO cs.L cs.at_ = o at hR ⊢
    have key := hR _ (Mild.upd' ((hm0.trans m2).alloc' (o := .row (o.getD Po.zero).c)) (Nat.le_refl s.next) (o := .row ((o.getD Po.zero).c.take 12)))
    simp only [Po.c, List.take_succ_cons, List.take_zero, frV'] at key
    simp (disch := first | omega | ((simp only [Ab.next_alloc, Ab.next_upd, List.length_cons, List.length_nil, ne_eq, not_true_eq_false, not_false_eq_true]) <;> omega) | decide) only [↓stepPre, stepPost, ↓W_cond, ↓W_block, ↓reduceIte, Nat.reduceEqDiff, Nat.reduceLT, Nat.reduceLeDiff, ret0, stVar, isTup, Value.cells, Nat.le_refl, Nat.reduceAdd, Nat.reduceMul, Nat.reduceSub, env0, binV, intV, reduceCtorEq, pickV, nilCheckV, ptrV, unV, true_and, and_true, Nat.add_zero, Nat.zero_add, Rt, resultsV, allV, resV, Bool.not_true, Bool.not_false, calleeV, builtinV, eqV, fieldAddrV, ldVar, stN_own, stN_ownL, Int.fdiv_eq_ediv_of_nonneg, Int.reduceToNat, Int.reducePow, IntKind.bits, convV, ne_eq, not_false_eq_true, not_true_eq_false, Int.reduceNeg, Int.reduceAdd, Int.reduceSub, Int.reduceLT, Int.reduceLE, extractV, decide_true, decide_false, Int.reduceEq, mkFuncV, stBRefCtrlMore, beq_self_eq_true, tyB1RefCtrlMore, getL_take, glBRefCtrlMore, poV, g0, Try.results42]
    exact key
theorem rcbusy_ok (h : RC base s c r q cs (atN cs.now) a X Y Z) (hf : cs.fil) (hR : ∀ s', Mild s s' → R (.tuple #[.int .i64 (match cs.now with | some (k, _) => ((atO cs.L k).getD Po.zero).t | none => 0), .bool cs.now.isSome]) s') : WC Try.prog base 43 [.pointer (some ⟨c, 0, none⟩)] s R := by
  refine WC_open Try.func43 rfl ?_
  have hc := h.z c h.zc
  have hbn := h.hbn
  obtain ⟨vf, k1, -⟩ := h.st
  match hno : cs.now with
  | none =>
    rw [hno] at k1 hR
    simp only [atN] at k1
    have key := hR s (.refl _)
    simp (disch := first | omega | ((simp only [Ab.next_alloc, Ab.next_upd, List.length_cons, List.length_nil, ne_eq, not_true_eq_false, not_false_eq_true]) <;> omega) | decide) only [↓stepPre, stepPost, ↓W_cond, ↓W_block, ↓reduceIte, Nat.reduceEqDiff, Nat.reduceLT, Nat.reduceLeDiff, ret0, stVar, isTup, Value.cells, Nat.le_refl, Nat.reduceAdd, Nat.reduceMul, Nat.reduceSub, env0, binV, intV, reduceCtorEq, pickV, nilCheckV, ptrV, unV, true_and, and_true, Nat.add_zero, Nat.zero_add, Rt, resultsV, allV, resV, Bool.not_true, Bool.not_false, calleeV, builtinV, eqV, fieldAddrV, ldVar, stN_own, stN_ownL, Int.fdiv_eq_ediv_of_nonneg, Int.reduceToNat, Int.reducePow, IntKind.bits, convV, ne_eq, not_false_eq_true, not_true_eq_false, Int.reduceNeg, Int.reduceAdd, Int.reduceSub, Int.reduceLT, Int.reduceLE, extractV, decide_true, decide_false, Int.reduceEq, mkFuncV, stBRefCtrlMore, beq_self_eq_true, tyB1RefCtrlMore, getL_take, glBRefCtrlMore, k1, Option.isNone_some, Try.results43]
    exact key
  | some (k', a') =>
    have hk0 := atO_nn (hf k' a' hno)
    rw [hno] at k1 hR
    simp only [atN] at k1
    have hk1 : ¬ k' < 0 := by omega
    simp (disch := first | omega | ((simp only [Ab.next_alloc, Ab.next_upd, List.length_cons, List.length_nil, ne_eq, not_true_eq_false, not_false_eq_true]) <;> omega) | decide) only [↓stepPre, stepPost, ↓W_cond, ↓W_block, ↓reduceIte, Nat.reduceEqDiff, Nat.reduceLT, Nat.reduceLeDiff, ret0, stVar, isTup, Value.cells, Nat.le_refl, Nat.reduceAdd, Nat.reduceMul, Nat.reduceSub, env0, binV, intV, reduceCtorEq, pickV, nilCheckV, ptrV, unV, true_and, and_true, Nat.add_zero, Nat.zero_add, Rt, resultsV, allV, resV, Bool.not_true, Bool.not_false, calleeV, builtinV, eqV, fieldAddrV, ldVar, stN_own, stN_ownL, Int.fdiv_eq_ediv_of_nonneg, Int.reduceToNat, Int.reducePow, IntKind.bits, convV, ne_eq, not_false_eq_true, not_true_eq_false, Int.reduceNeg, Int.reduceAdd, Int.reduceSub, Int.reduceLT, Int.reduceLE, extractV, decide_true, decide_false, Int.reduceEq, mkFuncV, stBRefCtrlMore, beq_self_eq_true, tyB1RefCtrlMore, getL_take, glBRefCtrlMore, k1, hk1, Option.isNone_some]
    refine W_draw (fun k => k == 13) (fun _ => false) (fun _ => false) (by kernel_rfl) (by kernel_rfl) ?_
    simp (disch := first | omega | ((simp only [Ab.next_alloc, Ab.next_upd, List.length_cons, List.length_nil, ne_eq, not_true_eq_false, not_false_eq_true]) <;> omega) | decide) only [↓stepPre, stepPost, ↓W_cond, ↓W_block, ↓reduceIte, Nat.reduceEqDiff, Nat.reduceLT, Nat.reduceLeDiff, ret0, stVar, isTup, Value.cells, Nat.le_refl, Nat.reduceAdd, Nat.reduceMul, Nat.reduceSub, env0, binV, intV, reduceCtorEq, pickV, nilCheckV, ptrV, unV, true_and, and_true, Nat.add_zero, Nat.zero_add, Rt, resultsV, allV, resV, Bool.not_true, Bool.not_false, calleeV, builtinV, eqV, fieldAddrV, ldVar, stN_own, stN_ownL, Int.fdiv_eq_ediv_of_nonneg, Int.reduceToNat, Int.reducePow, IntKind.bits, convV, ne_eq, not_false_eq_true, not_true_eq_false, Int.reduceNeg, Int.reduceAdd, Int.reduceSub, Int.reduceLT, Int.reduceLE, extractV, decide_true, decide_false, Int.reduceEq, mkFuncV, stBRefCtrlMore, beq_self_eq_true, tyB1RefCtrlMore, getL_take, glBRefCtrlMore, k1, hk1, Option.isNone_some]
    refine rcget_ok h.o fun s1 m1 => ?_
    have n1 := m1.next
    obtain ⟨po, hpo⟩ : ∃ po, (atO cs.L k').getD Po.zero = po := ⟨_, rfl⟩
    simp only [hpo] at hR
    have key := hR _ (m1.alloc' (o := .row po.c))
    simp (disch := first | omega | ((simp only [Ab.next_alloc, Ab.next_upd, List.length_cons, List.length_nil, ne_eq, not_true_eq_false, not_false_eq_true]) <;> omega) | decide) only [↓stepPre, stepPost, ↓W_cond, ↓W_block, ↓reduceIte, Nat.reduceEqDiff, Nat.reduceLT, Nat.reduceLeDiff, ret0, stVar, isTup, Value.cells, Nat.le_refl, Nat.reduceAdd, Nat.reduceMul, Nat.reduceSub, env0, binV, intV, reduceCtorEq, pickV, nilCheckV, ptrV, unV, true_and, and_true, Nat.add_zero, Nat.zero_add, Rt, resultsV, allV, resV, Bool.not_true, Bool.not_false, calleeV, builtinV, eqV, fieldAddrV, ldVar, stN_own, stN_ownL, Int.fdiv_eq_ediv_of_nonneg, Int.reduceToNat, Int.reducePow, IntKind.bits, convV, ne_eq, not_false_eq_true, not_true_eq_false, Int.reduceNeg, Int.reduceAdd, Int.reduceSub, Int.reduceLT, Int.reduceLE, extractV, decide_true, decide_false, Int.reduceEq, mkFuncV, stBRefCtrlMore, beq_self_eq_true, tyB1RefCtrlMore, getL_take, glBRefCtrlMore, poV, hpo, Try.results43]
    exact ⟨Dok_mild m1, Dok_next (by decide) (Nat.le_refl _), key⟩
theorem rcfates_ok (h : RC base s c r q cs k a X Y Z) (hR : ∀ s' v, Ch s s' Z → Sl base s' 3 v cs.fates → (∀ b, inB v b → Z b) → (∃ Z', (∀ b, Z' b → Z b ∧ ¬ inB v b) ∧ RC base s' c r q { cs with fates := [] } k a X Y Z') → R v s') :
    WC Try.prog base 19 [.pointer (some ⟨c, 0, none⟩)] s R := by
  refine WC_open Try.func19 rfl ?_
  have hc := h.z c h.zc
  have hbn := h.hbn
  obtain ⟨vf, k1, k3, k4, k5⟩ := h.st
  have hup : Ch s (s.upd c (.row [.pointer (some ⟨r, 0, none⟩), .pointer (some ⟨q, 0, none⟩), .int .i64 k, .bool a, .int .i64 cs.last, .int .i64 cs.mark, .int .i64 cs.time, .slice none 0 0])) (fun b => b = c) := Ch.upd' (.refl _ _) fun _ => rfl
  have key := hR _ vf (hup.mono fun b _ hb => by rw [hb]; exact h.zc) (k3.ch hup fun b hb he => (k5 b hb).2 he) (fun b hb => (k5 b hb).1)
    ⟨fun b => Z b ∧ ¬ inB vf b, fun b hb => hb, h.self (n' := cs.now) (k' := k) (a' := a) (l' := cs.last) (m' := cs.mark) (t' := cs.time) (f' := []) (hup.mono fun b _ hb => by rw [hb]; exact h.zc) (fun b hb => ⟨.inl hb.1, by simp only [Ab.next_upd]; exact (h.z b hb.1).2⟩) ⟨h.zc, fun hi => (k5 c hi).2 rfl⟩
      ⟨.slice none 0 0, Ab.heap_upd_same _ _ _, .nil, trivial, fun b hb => hb.elim⟩⟩
  obtain ⟨a4, l4, c4, rfl⟩ := k3.shape
  simp (disch := first | omega | ((simp only [Ab.next_alloc, Ab.next_upd, List.length_cons, List.length_nil, ne_eq, not_true_eq_false, not_false_eq_true]) <;> omega) | decide) only [↓stepPre, stepPost, ↓W_cond, ↓W_block, ↓reduceIte, Nat.reduceEqDiff, Nat.reduceLT, Nat.reduceLeDiff, ret0, stVar, isTup, Value.cells, Nat.le_refl, Nat.reduceAdd, Nat.reduceMul, Nat.reduceSub, env0, binV, intV, reduceCtorEq, pickV, nilCheckV, ptrV, unV, true_and, and_true, Nat.add_zero, Nat.zero_add, Rt, resultsV, allV, resV, Bool.not_true, Bool.not_false, calleeV, builtinV, eqV, fieldAddrV, ldVar, stN_own, stN_ownL, Int.fdiv_eq_ediv_of_nonneg, Int.reduceToNat, Int.reducePow, IntKind.bits, convV, ne_eq, not_false_eq_true, not_true_eq_false, Int.reduceNeg, Int.reduceAdd, Int.reduceSub, Int.reduceLT, Int.reduceLE, extractV, decide_true, decide_false, Int.reduceEq, mkFuncV, stBRefCtrlMore, beq_self_eq_true, tyB1RefCtrlMore, getL_take, glBRefCtrlMore, k1, Option.isNone_some, Try.results19]
  exact key
theorem rcroom_p (h : RB base s r cs.L X) (hR : R (.int .i64 (cs.L.length : Nat)) s) : WC Try.prog base 72 [.pointer (some ⟨r, 0, none⟩)] s R := by
  obtain ⟨bP, bH, Lp, h1, h2⟩ := h.ex
  have hlow := h1.low
  have k1 := h1.k1
  refine WC_open Try.func72 rfl ?_
  simp (disch := first | omega | ((simp only [Ab.next_alloc, Ab.next_upd, List.length_cons, List.length_nil, ne_eq, not_true_eq_false, not_false_eq_true]) <;> omega) | decide) only [↓stepPre, stepPost, ↓W_cond, ↓W_block, ↓reduceIte, Nat.reduceEqDiff, Nat.reduceLT, Nat.reduceLeDiff, ret0, stVar, isTup, Value.cells, Nat.le_refl, Nat.reduceAdd, Nat.reduceMul, Nat.reduceSub, env0, binV, intV, reduceCtorEq, pickV, nilCheckV, ptrV, unV, true_and, and_true, Nat.add_zero, Nat.zero_add, Rt, resultsV, allV, resV, Bool.not_true, Bool.not_false, calleeV, builtinV, eqV, fieldAddrV, ldVar, stN_own, stN_ownL, Int.fdiv_eq_ediv_of_nonneg, Int.reduceToNat, Int.reducePow, IntKind.bits, convV, ne_eq, not_false_eq_true, not_true_eq_false, Int.reduceNeg, Int.reduceAdd, Int.reduceSub, Int.reduceLT, Int.reduceLE, extractV, decide_true, decide_false, Int.reduceEq, mkFuncV, stBRefCtrlMore, beq_self_eq_true, tyB1RefCtrlMore, Ty.t129, Try.underlying129, Ty.t132, Try.underlying132, Ty.t93, Try.underlying93, getL_take, glBRefCtrlMore, k1, lenB, Option.isNone_some, Try.results72]
  exact hR
theorem rctags_ok (h : RC base s c r q cs k a X Y Z) (hR : ∀ s' v, Mild s s' → Sl base s' 1 v (iL (tagsOf cs.L)) → R v s') : WC Try.prog base 45 [.pointer (some ⟨c, 0, none⟩)] s R := by
  refine WC_open Try.func45 rfl ?_
  have hc := h.z c h.zc
  have hbn := h.hbn
  have hroom := h.o.room
  simp (disch := first | omega | ((simp only [Ab.next_alloc, Ab.next_upd, List.length_cons, List.length_nil, ne_eq, not_true_eq_false, not_false_eq_true]) <;> omega) | decide) only [↓stepPre, stepPost, ↓W_cond, ↓W_block, ↓reduceIte, Nat.reduceEqDiff, Nat.reduceLT, Nat.reduceLeDiff, ret0, stVar, isTup, Value.cells, Nat.le_refl, Nat.reduceAdd, Nat.reduceMul, Nat.reduceSub, env0, binV, intV, reduceCtorEq, pickV, nilCheckV, ptrV, unV, true_and, and_true, Nat.add_zero, Nat.zero_add, Rt, resultsV, allV, resV, Bool.not_true, Bool.not_false, calleeV, builtinV, eqV, fieldAddrV, ldVar, stN_own, stN_ownL, Int.fdiv_eq_ediv_of_nonneg, Int.reduceToNat, Int.reducePow, IntKind.bits, convV, ne_eq, not_false_eq_true, not_true_eq_false, Int.reduceNeg, Int.reduceAdd, Int.reduceSub, Int.reduceLT, Int.reduceLE, extractV, decide_true, decide_false, Int.reduceEq, mkFuncV, stBRefCtrlMore, beq_self_eq_true, tyB1RefCtrlMore, getL_take, glBRefCtrlMore]
  refine W_loop_ind cs.L.length (fun i e s1 => Mild s s1 ∧ e 0 = .pointer (some ⟨c, 0, none⟩) ∧ e 4 = .int .i64 i ∧ ∃ v, e 3 = v ∧ Sl base s1 1 v (iL (tagsOf (cs.L.take i))) ∧ Tight base v ∧ ∀ b, inB v b → s.next ≤ b) ?_ ⟨.refl _, rfl, rfl, _, rfl, .nil, trivial, fun b hb => hb.elim⟩
  rintro i e s1 hi ⟨m1, h0, h4, v, h3, hv, ht, hnw⟩
  have n1 := m1.next
  have h1 := h.mild m1
  obtain ⟨vf', k1', -⟩ := h1.st
  have hc1 := h1.z c h1.zc
  by_cases hil : i < cs.L.length
  rotate_left
  · have g1 : ¬ (i : Int) < (cs.L.length : Int) := by omega
    rw [List.take_of_length_le (by omega)] at hv
    simp (disch := first | omega | ((simp only [Ab.next_alloc, Ab.next_upd, List.length_cons, List.length_nil, ne_eq, not_true_eq_false, not_false_eq_true]) <;> omega) | decide) only [↓stepPre, stepPost, ↓W_cond, ↓W_block, ↓reduceIte, Nat.reduceEqDiff, Nat.reduceLT, Nat.reduceLeDiff, ret0, stVar, isTup, Value.cells, Nat.le_refl, Nat.reduceAdd, Nat.reduceMul, Nat.reduceSub, env0, binV, intV, reduceCtorEq, pickV, nilCheckV, ptrV, unV, true_and, and_true, Nat.add_zero, Nat.zero_add, Rt, resultsV, allV, resV, Bool.not_true, Bool.not_false, calleeV, builtinV, eqV, fieldAddrV, ldVar, stN_own, stN_ownL, Int.fdiv_eq_ediv_of_nonneg, Int.reduceToNat, Int.reducePow, IntKind.bits, convV, ne_eq, not_false_eq_true, not_true_eq_false, Int.reduceNeg, Int.reduceAdd, Int.reduceSub, Int.reduceLT, Int.reduceLE, extractV, decide_true, decide_false, Int.reduceEq, mkFuncV, stBRefCtrlMore, beq_self_eq_true, tyB1RefCtrlMore, getL_take, glBRefCtrlMore, h0, h3, h4, k1', Option.isNone_some]
    refine rcroom_p h1.o ?_
    simp (disch := first | omega | ((simp only [Ab.next_alloc, Ab.next_upd, List.length_cons, List.length_nil, ne_eq, not_true_eq_false, not_false_eq_true]) <;> omega) | decide) only [↓stepPre, stepPost, ↓W_cond, ↓W_block, ↓reduceIte, Nat.reduceEqDiff, Nat.reduceLT, Nat.reduceLeDiff, ret0, stVar, isTup, Value.cells, Nat.le_refl, Nat.reduceAdd, Nat.reduceMul, Nat.reduceSub, env0, binV, intV, reduceCtorEq, pickV, nilCheckV, ptrV, unV, true_and, and_true, Nat.add_zero, Nat.zero_add, Rt, resultsV, allV, resV, Bool.not_true, Bool.not_false, calleeV, builtinV, eqV, fieldAddrV, ldVar, stN_own, stN_ownL, Int.fdiv_eq_ediv_of_nonneg, Int.reduceToNat, Int.reducePow, IntKind.bits, convV, ne_eq, not_false_eq_true, not_true_eq_false, Int.reduceNeg, Int.reduceAdd, Int.reduceSub, Int.reduceLT, Int.reduceLE, extractV, decide_true, decide_false, Int.reduceEq, mkFuncV, stBRefCtrlMore, beq_self_eq_true, tyB1RefCtrlMore, getL_take, glBRefCtrlMore, h0, h3, h4, g1, Try.results45]
    exact hR _ _ m1 hv
  have g1 : (i : Int) < (cs.L.length : Int) := by omega
  simp (disch := first | omega | ((simp only [Ab.next_alloc, Ab.next_upd, List.length_cons, List.length_nil, ne_eq, not_true_eq_false, not_false_eq_true]) <;> omega) | decide) only [↓stepPre, stepPost, ↓W_cond, ↓W_block, ↓reduceIte, Nat.reduceEqDiff, Nat.reduceLT, Nat.reduceLeDiff, ret0, stVar, isTup, Value.cells, Nat.le_refl, Nat.reduceAdd, Nat.reduceMul, Nat.reduceSub, env0, binV, intV, reduceCtorEq, pickV, nilCheckV, ptrV, unV, true_and, and_true, Nat.add_zero, Nat.zero_add, Rt, resultsV, allV, resV, Bool.not_true, Bool.not_false, calleeV, builtinV, eqV, fieldAddrV, ldVar, stN_own, stN_ownL, Int.fdiv_eq_ediv_of_nonneg, Int.reduceToNat, Int.reducePow, IntKind.bits, convV, ne_eq, not_false_eq_true, not_true_eq_false, Int.reduceNeg, Int.reduceAdd, Int.reduceSub, Int.reduceLT, Int.reduceLE, extractV, decide_true, decide_false, Int.reduceEq, mkFuncV, stBRefCtrlMore, beq_self_eq_true, tyB1RefCtrlMore, getL_take, glBRefCtrlMore, h0, h3, h4, k1', Option.isNone_some]
  refine rcroom_p h1.o ?_
  simp (disch := first | omega | ((simp only [Ab.next_alloc, Ab.next_upd, List.length_cons, List.length_nil, ne_eq, not_true_eq_false, not_false_eq_true]) <;> omega) | decide) only [↓stepPre, stepPost, ↓W_cond, ↓W_block, ↓reduceIte, Nat.reduceEqDiff, Nat.reduceLT, Nat.reduceLeDiff, ret0, stVar, isTup, Value.cells, Nat.le_refl, Nat.reduceAdd, Nat.reduceMul, Nat.reduceSub, env0, binV, intV, reduceCtorEq, pickV, nilCheckV, ptrV, unV, true_and, and_true, Nat.add_zero, Nat.zero_add, Rt, resultsV, allV, resV, Bool.not_true, Bool.not_false, calleeV, builtinV, eqV, fieldAddrV, ldVar, stN_own, stN_ownL, Int.fdiv_eq_ediv_of_nonneg, Int.reduceToNat, Int.reducePow, IntKind.bits, convV, ne_eq, not_false_eq_true, not_true_eq_false, Int.reduceNeg, Int.reduceAdd, Int.reduceSub, Int.reduceLT, Int.reduceLE, extractV, decide_true, decide_false, Int.reduceEq, mkFuncV, stBRefCtrlMore, beq_self_eq_true, tyB1RefCtrlMore, getL_take, glBRefCtrlMore, h0, h3, h4, g1, k1', Option.isNone_some]
  refine rcget_ok h1.o fun s2 m2 => ?_
  have n2 := m2.next
  have hs := tags_snoc hil
  rw [atO_nat]
  cases ho : cs.L.getD i none with
  | none =>
    rw [ho] at hs
    simp (disch := first | omega | ((simp only [Ab.next_alloc, Ab.next_upd, List.length_cons, List.length_nil, ne_eq, not_true_eq_false, not_false_eq_true]) <;> omega) | decide) only [↓stepPre, stepPost, ↓W_cond, ↓W_block, ↓reduceIte, Nat.reduceEqDiff, Nat.reduceLT, Nat.reduceLeDiff, ret0, stVar, isTup, Value.cells, Nat.le_refl, Nat.reduceAdd, Nat.reduceMul, Nat.reduceSub, env0, binV, intV, reduceCtorEq, pickV, nilCheckV, ptrV, unV, true_and, and_true, Nat.add_zero, Nat.zero_add, Rt, resultsV, allV, resV, Bool.not_true, Bool.not_false, calleeV, builtinV, eqV, fieldAddrV, ldVar, stN_own, stN_ownL, Int.fdiv_eq_ediv_of_nonneg, Int.reduceToNat, Int.reducePow, IntKind.bits, convV, ne_eq, not_false_eq_true, not_true_eq_false, Int.reduceNeg, Int.reduceAdd, Int.reduceSub, Int.reduceLT, Int.reduceLE, extractV, decide_true, decide_false, Int.reduceEq, mkFuncV, stBRefCtrlMore, beq_self_eq_true, tyB1RefCtrlMore, getL_take, glBRefCtrlMore, h0, h3, h4, poV, Option.getD_none, Option.isSome_none]
    refine ⟨hil, (m1.trans m2).alloc', rfl, v, rfl, ?_, ht, hnw⟩
    rw [hs, List.append_nil]; exact (hv.mild m2).mild (.alloc _ _)
  | some po =>
    rw [ho] at hs
    have hm2 := m2.trans (Mild.alloc s2 (.row po.c))
    have hm3 := hm2.trans (Mild.alloc (s2.alloc (.row po.c)) (.row [.int .i64 po.t]))
    have hx : Sl base ((s2.alloc (.row po.c)).alloc (.row [.int .i64 po.t])) 1 (.slice (some ⟨(s2.alloc (.row po.c)).next, 0, none⟩) 1 1) (iL [po.t]) := .newRow (Ab.heap_alloc_new _ _) rfl rfl (by simp [iL]) (by simp only [Ab.next_alloc]; omega) (by simp only [Ab.next_alloc]; omega)
    have hle := tags_len (cs.L.take i)
    obtain ⟨v', s', e1, e2, e3, e4, e5⟩ := app_int (hv.mild hm3) ht (by simp only [Ab.next_alloc]; omega) hx (by simp at hle ⊢; omega)
    obtain ⟨a4, l4, c4, rfl⟩ := e2.shape
    simp only [Ab.next_alloc, Po.c] at e1
    have n4 := e4.next
    simp only [Ab.next_alloc] at n4
    simp (disch := first | omega | ((simp only [Ab.next_alloc, Ab.next_upd, List.length_cons, List.length_nil, ne_eq, not_true_eq_false, not_false_eq_true]) <;> omega) | decide) only [↓stepPre, stepPost, ↓W_cond, ↓W_block, ↓reduceIte, Nat.reduceEqDiff, Nat.reduceLT, Nat.reduceLeDiff, ret0, stVar, isTup, Value.cells, Nat.le_refl, Nat.reduceAdd, Nat.reduceMul, Nat.reduceSub, env0, binV, intV, reduceCtorEq, pickV, nilCheckV, ptrV, unV, true_and, and_true, Nat.add_zero, Nat.zero_add, Rt, resultsV, allV, resV, Bool.not_true, Bool.not_false, calleeV, builtinV, eqV, fieldAddrV, ldVar, stN_own, stN_ownL, Int.fdiv_eq_ediv_of_nonneg, Int.reduceToNat, Int.reducePow, IntKind.bits, convV, ne_eq, not_false_eq_true, not_true_eq_false, Int.reduceNeg, Int.reduceAdd, Int.reduceSub, Int.reduceLT, Int.reduceLE, extractV, decide_true, decide_false, Int.reduceEq, mkFuncV, stBRefCtrlMore, beq_self_eq_true, tyB1RefCtrlMore, getL_take, glBRefCtrlMore, h0, h3, h4, poV, Option.getD_some, build1i Ty.elem47 Ty.siz3 Ty.zer3, e1]
    refine ⟨hil, ?_, rfl, _, rfl, by rw [hs]; exact e2, e3, fun b hb => ?_⟩
    · refine ⟨by omega, fun b hb => ?_⟩
      rw [e4.heap b (by simp only [Ab.next_alloc]; omega) fun hi => by have := hnw b hi; omega]
      exact (m1.trans hm3).heap b hb
    · rcases e5 b hb with h | h
      · simp only [Ab.next_alloc] at h; omega
      · exact hnw b h
end Go.Proofs.Ytghigcdpinogaaa
