/- The document's controller (bellbuoyref15) is told what a bit brought. -/
import Derived.Test.YtghigcdpinogaaaRefCtrlMore
set_option linter.all false
set_option maxRecDepth 20000
namespace Go.Proofs.Ytghigcdpinogaaa
open Go Go.Ab
def stBRefTook := And.intro @List.size_toArray.{0} (And.intro @List.length_cons.{0} (And.intro @List.length_nil.{0} (And.intro @List.set_cons_zero.{0} (And.intro @List.set_cons_succ.{0} (And.intro @List.getD_cons_zero.{0} (And.intro @List.getD_cons_succ.{0} (And.intro @List.getElem?_cons_succ.{0} (And.intro @List.getElem?_cons_zero.{0} (And.intro @List.map_cons.{0,0} (And.intro @List.map_nil.{0,0} (And.intro @Option.isNone_none.{0} (And.intro @Option.isNone_some.{0} (And.intro @Option.map_some.{0,0} (And.intro @Option.map_none.{0,0} (And.intro @List.cons_append.{0} (And.intro @List.nil_append.{0} (And.intro @List.append_nil.{0} (And.intro @Array.toList_append.{0} (And.intro @List.toList_toArray.{0} (And.intro @Int.cast_ofNat_Int (And.intro @Option.isSome_some.{0} (And.intro @List.getElem?_toArray.{0} (And.intro @List.map_toArray.{0,0} (@Nat.min_eq_left))))))))))))))))))))))))
def glBRefTook := And.intro @List.drop_zero.{0} (And.intro @List.drop_succ_cons.{0} (And.intro @List.take_succ_cons.{0} (And.intro @List.take_zero.{0} (@List.take_nil.{0}))))
def tyB0RefTook := And.intro @Ty.t100 (And.intro @Try.underlying100 (And.intro @Ty.t60 (And.intro @Try.underlying60 (And.intro @Ty.t51 (And.intro @Try.underlying51 (And.intro @Ty.t45 (And.intro @Try.underlying45 (And.intro @Ty.t49 (And.intro @Try.underlying49 (And.intro @Ty.t38 (And.intro @Try.underlying38 (And.intro @Ty.t37 (And.intro @Try.underlying37 (And.intro @Ty.t35 (And.intro @Try.underlying35 (And.intro @Ty.t47 (And.intro @Try.underlying47 (And.intro @Ty.t34 (And.intro @Try.underlying34 (And.intro @Ty.t93 (And.intro @Try.underlying93 (And.intro @Ty.t96 (And.intro @Try.underlying96 (And.intro @Ty.t105 (And.intro @Try.underlying105 (And.intro @Ty.t87 (And.intro @Try.underlying87 (And.intro @Ty.t103 (And.intro @Try.underlying103 (And.intro @Ty.t59 (And.intro @Try.underlying59 (And.intro @Ty.t32 (And.intro @Try.underlying32 (And.intro @Ty.t29 (And.intro @Try.underlying29 (And.intro @Ty.t3 (And.intro @Try.underlying3 (And.intro @Ty.t2 (And.intro @Try.underlying2 (And.intro @Ty.t4 (And.intro @Try.underlying4 (And.intro @Ty.t27 (And.intro @Try.underlying27 (And.intro @Ty.t5 (And.intro @Try.underlying5 (And.intro @Ty.t30 (And.intro @Try.underlying30 (And.intro @Ty.t24 @Try.underlying24))))))))))))))))))))))))))))))))))))))))))))))))
variable {base : Nat} [Bok base] {s : St} {R : Value → St → Prop}
variable {c r q : Nat} {cs : CS} {X Y Z : Nat → Prop} {k : Int} {a : Bool}
theorem best_fil {L : Bx} (hg : ∀ p, some p ∈ L → p.good) (h : 0 ≤ bestI L) : (atO L (bestI L)).isSome = true := by
  rcases bestAt_I hg with ⟨h1, -⟩ | ⟨m, h1, h2, h3, -⟩
  · omega
  · rw [h2, atO_nat]; exact h3
theorem best_neg {L : Bx} (hg : ∀ p, some p ∈ L → p.good) (h : ¬ 0 ≤ bestI L) : bestI L = -1 := by
  rcases bestAt_I hg with ⟨h1, -⟩ | ⟨m, h1, h2, h3, -⟩
  · exact h1
  · omega
theorem fil_none {cs : CS} (h : cs.now = none) : cs.fil := fun k a hk => by rw [h] at hk; cases hk
theorem fil_tk2 {b : Bool} (hg : ∀ p, some p ∈ cs.L → p.good) (h : cs.fil) : (cs.tk2 b).fil := by
  unfold CS.tk2
  split
  · rename_i hc
    intro k a hk
    simp only [Option.some.injEq, Prod.mk.injEq] at hk
    obtain ⟨rfl, rfl⟩ := hk
    simp only [Bool.and_eq_true, decide_eq_true_eq] at hc
    exact best_fil hg hc.2
  · exact h
theorem fil_tk3 {b : Bool} (h : cs.fil) : (cs.tk3 b).fil := by
  unfold CS.tk3
  split
  · split
    · exact fil_none (done_now _ _ _)
    · exact h
  · exact h
theorem fil_tk4 {b : Bool} (h : cs.fil) : (cs.tk4 b).fil := by
  unfold CS.tk4
  split
  · split
    · exact fil_none (done_now _ _ _)
    · exact h
  · exact h
structure RTk (base : Nat) (s : St) (c r q : Nat) (X Y Z : Nat → Prop) (cells : List Value) (s' : St) (cs : CS) (k : Int) (a : Bool) (Z' : Nat → Prop) : Prop where
  ch : Ch s s' (fun b => X b ∨ Y b ∨ Z b)
  zs : ∀ b, Z' b → (Z b ∨ s.next ≤ b) ∧ b ≠ s.next
  h : RC base s' c r q cs k a X Y Z'
  lt : s.next < s'.next
  hb : s'.heap s.next = .row cells
  xy : ∀ b, X b ∨ Y b → b < s.next
theorem RTk.step {cells : List Value} {s1 s2 : St} {cs1 cs2 : CS} {k1 k2 : Int} {a1 a2 : Bool} {Z1 Z2 : Nat → Prop} (h : RTk base s c r q X Y Z cells s1 cs1 k1 a1 Z1) (hc : Ch s1 s2 (fun b => X b ∨ Z1 b)) (hz : ∀ b, Z2 b → Z1 b ∨ s1.next ≤ b) (h2 : RC base s2 c r q cs2 k2 a2 X Y Z2) : RTk base s c r q X Y Z cells s2 cs2 k2 a2 Z2 := by
  have hn := hc.next
  have hlt := h.lt
  refine ⟨⟨by have := h.ch.next; omega, fun b hb hx => ?_⟩, fun b hb => ?_, h2, by omega, ?_, h.xy⟩
  · rw [hc.heap b (by omega) fun hv => ?_, h.ch.heap b hb hx]
    rcases hv with hv | hv
    · exact hx (.inl hv)
    · rcases (h.zs b hv).1 with h1 | h1
      · exact hx (.inr (.inr h1))
      · omega
  · rcases hz b hb with h1 | h1
    · exact h.zs b h1
    · omega
  · rw [hc.heap _ hlt fun hv => ?_]; exact h.hb
    rcases hv with hv | hv
    · have := h.xy _ (.inl hv); omega
    · exact (h.zs _ hv).2 rfl
theorem rctook_ok {hp : Hp} {ph t : Int} (h : RC base s c r q cs (atN cs.now) (abN cs.now) X Y Z) (hfil : cs.fil) (hr : hp.r.length = 10) (hn : 0 ≤ hp.n ∧ hp.n < 2 ^ 32) (hF : ∀ l ∈ cs.F, FOk l) (hFn : cs.F.length ≤ 100) (hW : cs.W.length ≤ 100) (hWr : (cs.W.length : Int) ≤ cs.room) (hfl : cs.fates.length ≤ 10000)
    (hR : ∀ s' Y' Z', Ch s s' (fun b => X b ∨ Y b ∨ Z b) → (∀ b, Y' b → Y b ∨ s.next ≤ b) → (∀ b, Z' b → Z b ∨ s.next ≤ b) → RC base s' c r q (cs.took hp ph t) (atN (cs.took hp ph t).now) (abN (cs.took hp ph t).now) X Y' Z' → R (.tuple #[]) s') :
    WC Try.prog base 41 [.pointer (some ⟨c, 0, none⟩), .agg hp.cells.toArray, .int .i64 ph, .int .i64 t] s R := by
  refine WC_open Try.func41 rfl ?_
  have hc := h.z c h.zc
  have hbn := h.hbn
  have hm := Mild.alloc s (.row hp.cells)
  have h1 := h.mild hm
  have T1 : RTk base s c r q X Y Z hp.cells (s.alloc (.row hp.cells)) cs (atN cs.now) (abN cs.now) Z := ⟨.of_mild hm _, fun b hb => ⟨.inl hb, by have := (h.z b hb).2; omega⟩, h1, by simp only [Ab.next_alloc]; omega, Ab.heap_alloc_new _ _, fun b hb => hb.elim (fun hx => (h.o.low b hx).2) fun hy => (h.i.low b hy).2⟩
  let J : CS → Env → St → Prop := fun cs' e' s' => e' 0 = .pointer (some ⟨c, 0, none⟩) ∧ e' 2 = .int .i64 ph ∧ e' 3 = .int .i64 t ∧ e' 5 = .pointer (some ⟨s.next, 0, none⟩) ∧ ∃ Z', RTk base s c r q X Y Z hp.cells s' cs' (atN cs'.now) (abN cs'.now) Z'
  rw [W_seq]
  refine W_mid (J cs) ?_ ?_
  · simp (disch := first | omega | ((simp only [Ab.next_alloc, Ab.next_upd, List.length_cons, List.length_nil, ne_eq, not_true_eq_false, not_false_eq_true]) <;> omega) | decide) only [↓stepPre, stepPost, ↓W_cond, ↓W_block, ↓reduceIte, Nat.reduceEqDiff, Nat.reduceLT, Nat.reduceLeDiff, ret0, stVar, isTup, Value.cells, Nat.le_refl, Nat.reduceAdd, Nat.reduceMul, Nat.reduceSub, env0, binV, intV, reduceCtorEq, pickV, nilCheckV, ptrV, unV, true_and, and_true, Nat.add_zero, Nat.zero_add, Rt, resultsV, allV, resV, Bool.not_true, Bool.not_false, calleeV, builtinV, eqV, fieldAddrV, ldVar, stN_own, stN_ownL, Int.fdiv_eq_ediv_of_nonneg, Int.reduceToNat, Int.reducePow, IntKind.bits, convV, ne_eq, not_false_eq_true, not_true_eq_false, Int.reduceNeg, Int.reduceAdd, Int.reduceSub, Int.reduceLT, Int.reduceLE, extractV, decide_true, decide_false, Int.reduceEq, mkFuncV, stBRefTook, beq_self_eq_true, tyB0RefTook, getL_take, glBRefTook]
    exact ⟨rfl, rfl, rfl, rfl, Z, T1⟩
  rintro e' s' hJ
  rw [W_seq]
  refine W_mid (J cs) ?_ ?_
  · obtain ⟨h0, h2, h3, h5, Z', T⟩ := hJ
    simp (disch := first | omega | ((simp only [Ab.next_alloc, Ab.next_upd, List.length_cons, List.length_nil, ne_eq, not_true_eq_false, not_false_eq_true]) <;> omega) | decide) only [↓stepPre, stepPost, ↓W_cond, ↓W_block, ↓reduceIte, Nat.reduceEqDiff, Nat.reduceLT, Nat.reduceLeDiff, ret0, stVar, isTup, Value.cells, Nat.le_refl, Nat.reduceAdd, Nat.reduceMul, Nat.reduceSub, env0, binV, intV, reduceCtorEq, pickV, nilCheckV, ptrV, unV, true_and, and_true, Nat.add_zero, Nat.zero_add, Rt, resultsV, allV, resV, Bool.not_true, Bool.not_false, calleeV, builtinV, eqV, fieldAddrV, ldVar, stN_own, stN_ownL, Int.fdiv_eq_ediv_of_nonneg, Int.reduceToNat, Int.reducePow, IntKind.bits, convV, ne_eq, not_false_eq_true, not_true_eq_false, Int.reduceNeg, Int.reduceAdd, Int.reduceSub, Int.reduceLT, Int.reduceLE, extractV, decide_true, decide_false, Int.reduceEq, mkFuncV, stBRefTook, beq_self_eq_true, tyB0RefTook, getL_take, glBRefTook, h0, Option.isNone_some]
    exact ⟨h0, h2, h3, h5, Z', T⟩
  clear hJ e' s'
  rintro e' s' hJ
  rw [W_seq]
  refine W_mid (J { cs with time := t }) ?_ ?_
  · obtain ⟨h0, h2, h3, h5, Z', T⟩ := hJ
    obtain ⟨vf, k1, k3, k4, k5⟩ := T.h.st
    have hcc := T.h.z c T.h.zc
    obtain ⟨a4, l4, c4, rfl⟩ := k3.shape
    simp (disch := first | omega | ((simp only [Ab.next_alloc, Ab.next_upd, List.length_cons, List.length_nil, ne_eq, not_true_eq_false, not_false_eq_true]) <;> omega) | decide) only [↓stepPre, stepPost, ↓W_cond, ↓W_block, ↓reduceIte, Nat.reduceEqDiff, Nat.reduceLT, Nat.reduceLeDiff, ret0, stVar, isTup, Value.cells, Nat.le_refl, Nat.reduceAdd, Nat.reduceMul, Nat.reduceSub, env0, binV, intV, reduceCtorEq, pickV, nilCheckV, ptrV, unV, true_and, and_true, Nat.add_zero, Nat.zero_add, Rt, resultsV, allV, resV, Bool.not_true, Bool.not_false, calleeV, builtinV, eqV, fieldAddrV, ldVar, stN_own, stN_ownL, Int.fdiv_eq_ediv_of_nonneg, Int.reduceToNat, Int.reducePow, IntKind.bits, convV, ne_eq, not_false_eq_true, not_true_eq_false, Int.reduceNeg, Int.reduceAdd, Int.reduceSub, Int.reduceLT, Int.reduceLE, extractV, decide_true, decide_false, Int.reduceEq, mkFuncV, stBRefTook, beq_self_eq_true, tyB0RefTook, getL_take, glBRefTook, h0, h3, k1]
    exact ⟨h0, h2, h3, h5, Z', T.step (Ch.upd' (.refl _ _) fun _ => .inr T.h.zc) (fun b hb => .inl hb) (T.h.row (n' := cs.now) k3 k4 k5)⟩
  clear hJ e' s'
  rintro e' s' hJ
  rw [W_seq]
  refine W_mid (J { cs with time := t, mark := if wireB ph && !wireB cs.last then t else cs.mark }) ?_ ?_
  · obtain ⟨h0, h2, h3, h5, Z', T⟩ := hJ
    obtain ⟨vf, k1, k3, k4, k5⟩ := T.h.st
    have hcc := T.h.z c T.h.zc
    obtain ⟨a4, l4, c4, rfl⟩ := k3.shape
    simp (disch := first | omega | ((simp only [Ab.next_alloc, Ab.next_upd, List.length_cons, List.length_nil, ne_eq, not_true_eq_false, not_false_eq_true]) <;> omega) | decide) only [↓stepPre, stepPost, ↓W_cond, ↓W_block, ↓reduceIte, Nat.reduceEqDiff, Nat.reduceLT, Nat.reduceLeDiff, ret0, stVar, isTup, Value.cells, Nat.le_refl, Nat.reduceAdd, Nat.reduceMul, Nat.reduceSub, env0, binV, intV, reduceCtorEq, pickV, nilCheckV, ptrV, unV, true_and, and_true, Nat.add_zero, Nat.zero_add, Rt, resultsV, allV, resV, Bool.not_true, Bool.not_false, calleeV, builtinV, eqV, fieldAddrV, ldVar, stN_own, stN_ownL, Int.fdiv_eq_ediv_of_nonneg, Int.reduceToNat, Int.reducePow, IntKind.bits, convV, ne_eq, not_false_eq_true, not_true_eq_false, Int.reduceNeg, Int.reduceAdd, Int.reduceSub, Int.reduceLT, Int.reduceLE, extractV, decide_true, decide_false, Int.reduceEq, mkFuncV, stBRefTook, beq_self_eq_true, tyB0RefTook, getL_take, glBRefTook, h0, h2]
    refine rcbusy_p ?_
    cases hph : wireB ph
    · simp (disch := first | omega | ((simp only [Ab.next_alloc, Ab.next_upd, List.length_cons, List.length_nil, ne_eq, not_true_eq_false, not_false_eq_true]) <;> omega) | decide) only [↓stepPre, stepPost, ↓W_cond, ↓W_block, ↓reduceIte, Nat.reduceEqDiff, Nat.reduceLT, Nat.reduceLeDiff, ret0, stVar, isTup, Value.cells, Nat.le_refl, Nat.reduceAdd, Nat.reduceMul, Nat.reduceSub, env0, binV, intV, reduceCtorEq, pickV, nilCheckV, ptrV, unV, true_and, and_true, Nat.add_zero, Nat.zero_add, Rt, resultsV, allV, resV, Bool.not_true, Bool.not_false, calleeV, builtinV, eqV, fieldAddrV, ldVar, stN_own, stN_ownL, Int.fdiv_eq_ediv_of_nonneg, Int.reduceToNat, Int.reducePow, IntKind.bits, convV, ne_eq, not_false_eq_true, not_true_eq_false, Int.reduceNeg, Int.reduceAdd, Int.reduceSub, Int.reduceLT, Int.reduceLE, extractV, decide_true, decide_false, Int.reduceEq, mkFuncV, stBRefTook, beq_self_eq_true, tyB0RefTook, getL_take, glBRefTook, h0, h2, k1]
      exact ⟨h0, h2, h3, h5, Z', by simpa [hph] using T⟩
    · simp (disch := first | omega | ((simp only [Ab.next_alloc, Ab.next_upd, List.length_cons, List.length_nil, ne_eq, not_true_eq_false, not_false_eq_true]) <;> omega) | decide) only [↓stepPre, stepPost, ↓W_cond, ↓W_block, ↓reduceIte, Nat.reduceEqDiff, Nat.reduceLT, Nat.reduceLeDiff, ret0, stVar, isTup, Value.cells, Nat.le_refl, Nat.reduceAdd, Nat.reduceMul, Nat.reduceSub, env0, binV, intV, reduceCtorEq, pickV, nilCheckV, ptrV, unV, true_and, and_true, Nat.add_zero, Nat.zero_add, Rt, resultsV, allV, resV, Bool.not_true, Bool.not_false, calleeV, builtinV, eqV, fieldAddrV, ldVar, stN_own, stN_ownL, Int.fdiv_eq_ediv_of_nonneg, Int.reduceToNat, Int.reducePow, IntKind.bits, convV, ne_eq, not_false_eq_true, not_true_eq_false, Int.reduceNeg, Int.reduceAdd, Int.reduceSub, Int.reduceLT, Int.reduceLE, extractV, decide_true, decide_false, Int.reduceEq, mkFuncV, stBRefTook, beq_self_eq_true, tyB0RefTook, getL_take, glBRefTook, h0, h2, k1]
      refine rcbusy_p ?_
      cases hl : wireB cs.last
      · simp (disch := first | omega | ((simp only [Ab.next_alloc, Ab.next_upd, List.length_cons, List.length_nil, ne_eq, not_true_eq_false, not_false_eq_true]) <;> omega) | decide) only [↓stepPre, stepPost, ↓W_cond, ↓W_block, ↓reduceIte, Nat.reduceEqDiff, Nat.reduceLT, Nat.reduceLeDiff, ret0, stVar, isTup, Value.cells, Nat.le_refl, Nat.reduceAdd, Nat.reduceMul, Nat.reduceSub, env0, binV, intV, reduceCtorEq, pickV, nilCheckV, ptrV, unV, true_and, and_true, Nat.add_zero, Nat.zero_add, Rt, resultsV, allV, resV, Bool.not_true, Bool.not_false, calleeV, builtinV, eqV, fieldAddrV, ldVar, stN_own, stN_ownL, Int.fdiv_eq_ediv_of_nonneg, Int.reduceToNat, Int.reducePow, IntKind.bits, convV, ne_eq, not_false_eq_true, not_true_eq_false, Int.reduceNeg, Int.reduceAdd, Int.reduceSub, Int.reduceLT, Int.reduceLE, extractV, decide_true, decide_false, Int.reduceEq, mkFuncV, stBRefTook, beq_self_eq_true, tyB0RefTook, getL_take, glBRefTook, h0, h2, h3, k1]
        exact ⟨h0, h2, h3, h5, Z', by
          have := T.step (Ch.upd' (.refl _ _) fun _ => .inr T.h.zc) (fun b hb => .inl hb) (T.h.row (n' := cs.now) (k' := atN cs.now) (a' := abN cs.now) (m' := t) (l' := cs.last) (t' := t) k3 k4 k5)
          simpa [hph, hl] using this⟩
      · simp (disch := first | omega | ((simp only [Ab.next_alloc, Ab.next_upd, List.length_cons, List.length_nil, ne_eq, not_true_eq_false, not_false_eq_true]) <;> omega) | decide) only [↓stepPre, stepPost, ↓W_cond, ↓W_block, ↓reduceIte, Nat.reduceEqDiff, Nat.reduceLT, Nat.reduceLeDiff, ret0, stVar, isTup, Value.cells, Nat.le_refl, Nat.reduceAdd, Nat.reduceMul, Nat.reduceSub, env0, binV, intV, reduceCtorEq, pickV, nilCheckV, ptrV, unV, true_and, and_true, Nat.add_zero, Nat.zero_add, Rt, resultsV, allV, resV, Bool.not_true, Bool.not_false, calleeV, builtinV, eqV, fieldAddrV, ldVar, stN_own, stN_ownL, Int.fdiv_eq_ediv_of_nonneg, Int.reduceToNat, Int.reducePow, IntKind.bits, convV, ne_eq, not_false_eq_true, not_true_eq_false, Int.reduceNeg, Int.reduceAdd, Int.reduceSub, Int.reduceLT, Int.reduceLE, extractV, decide_true, decide_false, Int.reduceEq, mkFuncV, stBRefTook, beq_self_eq_true, tyB0RefTook, getL_take, glBRefTook, h0, h2, k1]
        exact ⟨h0, h2, h3, h5, Z', by simpa [hph, hl] using T⟩
  clear hJ e' s'
  rintro e' s' hJ
  rw [W_seq]
  refine W_mid (J (cs.tk1 ph t)) ?_ ?_
  · obtain ⟨h0, h2, h3, h5, Z', T⟩ := hJ
    obtain ⟨vf, k1, k3, k4, k5⟩ := T.h.st
    have hcc := T.h.z c T.h.zc
    obtain ⟨a4, l4, c4, rfl⟩ := k3.shape
    simp (disch := first | omega | ((simp only [Ab.next_alloc, Ab.next_upd, List.length_cons, List.length_nil, ne_eq, not_true_eq_false, not_false_eq_true]) <;> omega) | decide) only [↓stepPre, stepPost, ↓W_cond, ↓W_block, ↓reduceIte, Nat.reduceEqDiff, Nat.reduceLT, Nat.reduceLeDiff, ret0, stVar, isTup, Value.cells, Nat.le_refl, Nat.reduceAdd, Nat.reduceMul, Nat.reduceSub, env0, binV, intV, reduceCtorEq, pickV, nilCheckV, ptrV, unV, true_and, and_true, Nat.add_zero, Nat.zero_add, Rt, resultsV, allV, resV, Bool.not_true, Bool.not_false, calleeV, builtinV, eqV, fieldAddrV, ldVar, stN_own, stN_ownL, Int.fdiv_eq_ediv_of_nonneg, Int.reduceToNat, Int.reducePow, IntKind.bits, convV, ne_eq, not_false_eq_true, not_true_eq_false, Int.reduceNeg, Int.reduceAdd, Int.reduceSub, Int.reduceLT, Int.reduceLE, extractV, decide_true, decide_false, Int.reduceEq, mkFuncV, stBRefTook, beq_self_eq_true, tyB0RefTook, getL_take, glBRefTook, h0, h2, k1]
    exact ⟨h0, h2, h3, h5, Z', T.step (Ch.upd' (.refl _ _) fun _ => .inr T.h.zc) (fun b hb => .inl hb) (T.h.row (n' := cs.now) k3 k4 k5)⟩
  clear hJ e' s'
  rintro e' s' hJ
  have hL1 : (cs.tk1 ph t).L = cs.L := rfl
  have hf1 : (cs.tk1 ph t).fates = cs.fates := rfl
  have hfil1 : (cs.tk1 ph t).fil := hfil
  have hin1 : (cs.tk1 ph t).room = cs.room ∧ (cs.tk1 ph t).F = cs.F ∧ (cs.tk1 ph t).W = cs.W := ⟨rfl, rfl, rfl⟩
  generalize hcs1 : cs.tk1 ph t = cs1 at *
  have hg1 : ∀ p, some p ∈ cs1.L → p.good := by rw [hL1]; exact h.o.good
  rw [W_seq]
  refine W_mid (J (cs1.tk2 hp.began)) ?_ ?_
  · obtain ⟨h0, h2, h3, h5, Z', T⟩ := hJ
    obtain ⟨vf, k1, k3, k4, k5⟩ := T.h.st
    have hcc := T.h.z c T.h.zc
    have hb2 := T.hb
    have hlt2 := T.lt
    obtain ⟨a4, l4, c4, rfl⟩ := k3.shape
    simp only [Hp.cells] at hb2
    cases hb : hp.began
    · rw [hb] at hb2
      have : cs1.tk2 false = cs1 := by simp [CS.tk2]
      simp (disch := first | omega | ((simp only [Ab.next_alloc, Ab.next_upd, List.length_cons, List.length_nil, ne_eq, not_true_eq_false, not_false_eq_true]) <;> omega) | decide) only [↓stepPre, stepPost, ↓W_cond, ↓W_block, ↓reduceIte, Nat.reduceEqDiff, Nat.reduceLT, Nat.reduceLeDiff, ret0, stVar, isTup, Value.cells, Nat.le_refl, Nat.reduceAdd, Nat.reduceMul, Nat.reduceSub, env0, binV, intV, reduceCtorEq, pickV, nilCheckV, ptrV, unV, true_and, and_true, Nat.add_zero, Nat.zero_add, Rt, resultsV, allV, resV, Bool.not_true, Bool.not_false, calleeV, builtinV, eqV, fieldAddrV, ldVar, stN_own, stN_ownL, Int.fdiv_eq_ediv_of_nonneg, Int.reduceToNat, Int.reducePow, IntKind.bits, convV, ne_eq, not_false_eq_true, not_true_eq_false, Int.reduceNeg, Int.reduceAdd, Int.reduceSub, Int.reduceLT, Int.reduceLE, extractV, decide_true, decide_false, Int.reduceEq, mkFuncV, stBRefTook, beq_self_eq_true, tyB0RefTook, getL_take, glBRefTook, h0, h5, k1, hb2]
      exact ⟨h0, h2, h3, h5, Z', by rw [this]; exact T⟩
    · rw [hb] at hb2
      match hno : cs1.now with
      | some (k', a') =>
        have hk0 := atO_nn (hfil1 k' a' hno)
        have hk1 : ¬ k' < 0 := by omega
        have : cs1.tk2 true = cs1 := by simp [CS.tk2, hno]
        rw [hno] at k1
        simp only [atN] at k1
        simp (disch := first | omega | ((simp only [Ab.next_alloc, Ab.next_upd, List.length_cons, List.length_nil, ne_eq, not_true_eq_false, not_false_eq_true]) <;> omega) | decide) only [↓stepPre, stepPost, ↓W_cond, ↓W_block, ↓reduceIte, Nat.reduceEqDiff, Nat.reduceLT, Nat.reduceLeDiff, ret0, stVar, isTup, Value.cells, Nat.le_refl, Nat.reduceAdd, Nat.reduceMul, Nat.reduceSub, env0, binV, intV, reduceCtorEq, pickV, nilCheckV, ptrV, unV, true_and, and_true, Nat.add_zero, Nat.zero_add, Rt, resultsV, allV, resV, Bool.not_true, Bool.not_false, calleeV, builtinV, eqV, fieldAddrV, ldVar, stN_own, stN_ownL, Int.fdiv_eq_ediv_of_nonneg, Int.reduceToNat, Int.reducePow, IntKind.bits, convV, ne_eq, not_false_eq_true, not_true_eq_false, Int.reduceNeg, Int.reduceAdd, Int.reduceSub, Int.reduceLT, Int.reduceLE, extractV, decide_true, decide_false, Int.reduceEq, mkFuncV, stBRefTook, beq_self_eq_true, tyB0RefTook, getL_take, glBRefTook, h0, h5, k1, hb2, hk1]
        exact ⟨h0, h2, h3, h5, Z', by rw [this]; exact T⟩
      | none =>
        rw [hno] at k1
        simp only [atN] at k1
        simp (disch := first | omega | ((simp only [Ab.next_alloc, Ab.next_upd, List.length_cons, List.length_nil, ne_eq, not_true_eq_false, not_false_eq_true]) <;> omega) | decide) only [↓stepPre, stepPost, ↓W_cond, ↓W_block, ↓reduceIte, Nat.reduceEqDiff, Nat.reduceLT, Nat.reduceLeDiff, ret0, stVar, isTup, Value.cells, Nat.le_refl, Nat.reduceAdd, Nat.reduceMul, Nat.reduceSub, env0, binV, intV, reduceCtorEq, pickV, nilCheckV, ptrV, unV, true_and, and_true, Nat.add_zero, Nat.zero_add, Rt, resultsV, allV, resV, Bool.not_true, Bool.not_false, calleeV, builtinV, eqV, fieldAddrV, ldVar, stN_own, stN_ownL, Int.fdiv_eq_ediv_of_nonneg, Int.reduceToNat, Int.reducePow, IntKind.bits, convV, ne_eq, not_false_eq_true, not_true_eq_false, Int.reduceNeg, Int.reduceAdd, Int.reduceSub, Int.reduceLT, Int.reduceLE, extractV, decide_true, decide_false, Int.reduceEq, mkFuncV, stBRefTook, beq_self_eq_true, tyB0RefTook, getL_take, glBRefTook, h0, h5, k1, hb2]
        refine rcbest_p T.h.o ?_
        simp (disch := first | omega | ((simp only [Ab.next_alloc, Ab.next_upd, List.length_cons, List.length_nil, ne_eq, not_true_eq_false, not_false_eq_true]) <;> omega) | decide) only [↓stepPre, stepPost, ↓W_cond, ↓W_block, ↓reduceIte, Nat.reduceEqDiff, Nat.reduceLT, Nat.reduceLeDiff, ret0, stVar, isTup, Value.cells, Nat.le_refl, Nat.reduceAdd, Nat.reduceMul, Nat.reduceSub, env0, binV, intV, reduceCtorEq, pickV, nilCheckV, ptrV, unV, true_and, and_true, Nat.add_zero, Nat.zero_add, Rt, resultsV, allV, resV, Bool.not_true, Bool.not_false, calleeV, builtinV, eqV, fieldAddrV, ldVar, stN_own, stN_ownL, Int.fdiv_eq_ediv_of_nonneg, Int.reduceToNat, Int.reducePow, IntKind.bits, convV, ne_eq, not_false_eq_true, not_true_eq_false, Int.reduceNeg, Int.reduceAdd, Int.reduceSub, Int.reduceLT, Int.reduceLE, extractV, decide_true, decide_false, Int.reduceEq, mkFuncV, stBRefTook, beq_self_eq_true, tyB0RefTook, getL_take, glBRefTook, h0, h5, k1, hb2, Ab.heap_upd_same]
        refine ⟨h0, h2, h3, h5, Z', ?_⟩
        by_cases hbi : 0 ≤ bestI cs1.L
        · have : cs1.tk2 true = { cs1 with now := some (bestI cs1.L, false) } := by simp [CS.tk2, hno, hbi]
          rw [this]
          exact T.step (Ch.upd' (.refl _ _) fun _ => .inr T.h.zc) (fun b hb => .inl hb) (T.h.row (n' := some (bestI cs1.L, false)) k3 k4 k5)
        · have : cs1.tk2 true = cs1 := by simp [CS.tk2, hbi]
          rw [this, hno]
          rw [best_neg hg1 hbi]
          exact T.step (Ch.upd' (.refl _ _) fun _ => .inr T.h.zc) (fun b hb => .inl hb) (T.h.row (n' := cs1.now) k3 k4 k5)
  clear hJ e' s'
  rintro e' s' hJ
  have hf2 : (cs1.tk2 hp.began).fates = cs.fates := by unfold CS.tk2; split <;> exact hf1
  have hfil2 := fil_tk2 (b := hp.began) hg1 hfil1
  have hin2 : (cs1.tk2 hp.began).room = cs.room ∧ (cs1.tk2 hp.began).F = cs.F ∧ (cs1.tk2 hp.began).W = cs.W := by
    unfold CS.tk2; split <;> exact hin1
  generalize hcs2 : cs1.tk2 hp.began = cs2 at *
  rw [W_seq]
  refine W_mid (J (cs2.tk3 hp.sent)) ?_ ?_
  · obtain ⟨h0, h2, h3, h5, Z', T⟩ := hJ
    obtain ⟨vf, k1, k3, k4, k5⟩ := T.h.st
    have hcc := T.h.z c T.h.zc
    have hb2 := T.hb
    have hlt2 := T.lt
    simp only [Hp.cells] at hb2
    cases hsn : hp.sent
    · rw [hsn] at hb2
      have : cs2.tk3 false = cs2 := by unfold CS.tk3; split <;> simp
      simp (disch := first | omega | ((simp only [Ab.next_alloc, Ab.next_upd, List.length_cons, List.length_nil, ne_eq, not_true_eq_false, not_false_eq_true]) <;> omega) | decide) only [↓stepPre, stepPost, ↓W_cond, ↓W_block, ↓reduceIte, Nat.reduceEqDiff, Nat.reduceLT, Nat.reduceLeDiff, ret0, stVar, isTup, Value.cells, Nat.le_refl, Nat.reduceAdd, Nat.reduceMul, Nat.reduceSub, env0, binV, intV, reduceCtorEq, pickV, nilCheckV, ptrV, unV, true_and, and_true, Nat.add_zero, Nat.zero_add, Rt, resultsV, allV, resV, Bool.not_true, Bool.not_false, calleeV, builtinV, eqV, fieldAddrV, ldVar, stN_own, stN_ownL, Int.fdiv_eq_ediv_of_nonneg, Int.reduceToNat, Int.reducePow, IntKind.bits, convV, ne_eq, not_false_eq_true, not_true_eq_false, Int.reduceNeg, Int.reduceAdd, Int.reduceSub, Int.reduceLT, Int.reduceLE, extractV, decide_true, decide_false, Int.reduceEq, mkFuncV, stBRefTook, beq_self_eq_true, tyB0RefTook, getL_take, glBRefTook, h0, h5, k1, hb2]
      exact ⟨h0, h2, h3, h5, Z', by rw [this]; exact T⟩
    rw [hsn] at hb2
    match hno : cs2.now with
    | none =>
      rw [hno] at k1
      simp only [atN] at k1
      have : cs2.tk3 true = cs2 := by simp [CS.tk3, hno]
      simp (disch := first | omega | ((simp only [Ab.next_alloc, Ab.next_upd, List.length_cons, List.length_nil, ne_eq, not_true_eq_false, not_false_eq_true]) <;> omega) | decide) only [↓stepPre, stepPost, ↓W_cond, ↓W_block, ↓reduceIte, Nat.reduceEqDiff, Nat.reduceLT, Nat.reduceLeDiff, ret0, stVar, isTup, Value.cells, Nat.le_refl, Nat.reduceAdd, Nat.reduceMul, Nat.reduceSub, env0, binV, intV, reduceCtorEq, pickV, nilCheckV, ptrV, unV, true_and, and_true, Nat.add_zero, Nat.zero_add, Rt, resultsV, allV, resV, Bool.not_true, Bool.not_false, calleeV, builtinV, eqV, fieldAddrV, ldVar, stN_own, stN_ownL, Int.fdiv_eq_ediv_of_nonneg, Int.reduceToNat, Int.reducePow, IntKind.bits, convV, ne_eq, not_false_eq_true, not_true_eq_false, Int.reduceNeg, Int.reduceAdd, Int.reduceSub, Int.reduceLT, Int.reduceLE, extractV, decide_true, decide_false, Int.reduceEq, mkFuncV, stBRefTook, beq_self_eq_true, tyB0RefTook, getL_take, glBRefTook, h0, h5, k1, hb2]
      exact ⟨h0, h2, h3, h5, Z', by rw [this]; exact T⟩
    | some (k', a') =>
      have hk0 := atO_nn (hfil2 k' a' hno)
      rw [hno] at k1
      simp only [atN] at k1
      have : cs2.tk3 true = cs2.done k' 1 := by simp [CS.tk3, hno]
      simp (disch := first | omega | ((simp only [Ab.next_alloc, Ab.next_upd, List.length_cons, List.length_nil, ne_eq, not_true_eq_false, not_false_eq_true]) <;> omega) | decide) only [↓stepPre, stepPost, ↓W_cond, ↓W_block, ↓reduceIte, Nat.reduceEqDiff, Nat.reduceLT, Nat.reduceLeDiff, ret0, stVar, isTup, Value.cells, Nat.le_refl, Nat.reduceAdd, Nat.reduceMul, Nat.reduceSub, env0, binV, intV, reduceCtorEq, pickV, nilCheckV, ptrV, unV, true_and, and_true, Nat.add_zero, Nat.zero_add, Rt, resultsV, allV, resV, Bool.not_true, Bool.not_false, calleeV, builtinV, eqV, fieldAddrV, ldVar, stN_own, stN_ownL, Int.fdiv_eq_ediv_of_nonneg, Int.reduceToNat, Int.reducePow, IntKind.bits, convV, ne_eq, not_false_eq_true, not_true_eq_false, Int.reduceNeg, Int.reduceAdd, Int.reduceSub, Int.reduceLT, Int.reduceLE, extractV, decide_true, decide_false, Int.reduceEq, mkFuncV, stBRefTook, beq_self_eq_true, tyB0RefTook, getL_take, glBRefTook, h0, h5, k1, hb2, hk0]
      refine rout_ok T.h (by rw [hf2]; omega) (hfil2 k' a' hno) fun s2 Z2 c2 z2 h2' => ?_
      simp (disch := first | omega | ((simp only [Ab.next_alloc, Ab.next_upd, List.length_cons, List.length_nil, ne_eq, not_true_eq_false, not_false_eq_true]) <;> omega) | decide) only [↓stepPre, stepPost, ↓W_cond, ↓W_block, ↓reduceIte, Nat.reduceEqDiff, Nat.reduceLT, Nat.reduceLeDiff, ret0, stVar, isTup, Value.cells, Nat.le_refl, Nat.reduceAdd, Nat.reduceMul, Nat.reduceSub, env0, binV, intV, reduceCtorEq, pickV, nilCheckV, ptrV, unV, true_and, and_true, Nat.add_zero, Nat.zero_add, Rt, resultsV, allV, resV, Bool.not_true, Bool.not_false, calleeV, builtinV, eqV, fieldAddrV, ldVar, stN_own, stN_ownL, Int.fdiv_eq_ediv_of_nonneg, Int.reduceToNat, Int.reducePow, IntKind.bits, convV, ne_eq, not_false_eq_true, not_true_eq_false, Int.reduceNeg, Int.reduceAdd, Int.reduceSub, Int.reduceLT, Int.reduceLE, extractV, decide_true, decide_false, Int.reduceEq, mkFuncV, stBRefTook, beq_self_eq_true, tyB0RefTook, getL_take, glBRefTook, h0, h5]
      have T2 := T.step c2 z2 h2'
      refine rends_ok h2' fun s3 c3 h3' => ?_
      simp (disch := first | omega | ((simp only [Ab.next_alloc, Ab.next_upd, List.length_cons, List.length_nil, ne_eq, not_true_eq_false, not_false_eq_true]) <;> omega) | decide) only [↓stepPre, stepPost, ↓W_cond, ↓W_block, ↓reduceIte, Nat.reduceEqDiff, Nat.reduceLT, Nat.reduceLeDiff, ret0, stVar, isTup, Value.cells, Nat.le_refl, Nat.reduceAdd, Nat.reduceMul, Nat.reduceSub, env0, binV, intV, reduceCtorEq, pickV, nilCheckV, ptrV, unV, true_and, and_true, Nat.add_zero, Nat.zero_add, Rt, resultsV, allV, resV, Bool.not_true, Bool.not_false, calleeV, builtinV, eqV, fieldAddrV, ldVar, stN_own, stN_ownL, Int.fdiv_eq_ediv_of_nonneg, Int.reduceToNat, Int.reducePow, IntKind.bits, convV, ne_eq, not_false_eq_true, not_true_eq_false, Int.reduceNeg, Int.reduceAdd, Int.reduceSub, Int.reduceLT, Int.reduceLE, extractV, decide_true, decide_false, Int.reduceEq, mkFuncV, stBRefTook, beq_self_eq_true, tyB0RefTook, getL_take, glBRefTook, h0, h5]
      refine ⟨h0, h2, h3, h5, Z2, ?_⟩
      rw [this]
      have e3 : cs2.done k' 1 = { cs2.out k' 1 with now := none } := by simp [CS.done]
      rw [e3]
      exact T2.step (c3.mono fun b _ hb => .inr hb) (fun b hb => .inl hb) h3'
  clear hJ e' s'
  rintro e' s' hJ
  have hf3 : (cs2.tk3 hp.sent).fates.length ≤ cs.fates.length + 1 := by
    unfold CS.tk3; split
    · split
      · have := done_len cs2 ‹_› 1; rw [hf2] at this; exact this
      · rw [hf2]; omega
    · rw [hf2]; omega
  have hfil3 := fil_tk3 (b := hp.sent) hfil2
  have hin3 : (cs2.tk3 hp.sent).room = cs.room ∧ (cs2.tk3 hp.sent).F = cs.F ∧ (cs2.tk3 hp.sent).W = cs.W := by
    unfold CS.tk3; split
    · split
      · have := done_in cs2 ‹_› 1; rw [this.1, this.2.1, this.2.2.1]; exact hin2
      · exact hin2
    · exact hin2
  generalize hcs3 : cs2.tk3 hp.sent = cs3 at *
  rw [W_seq]
  refine W_mid (J (cs3.tk4 (hp.lost || wrongB hp.bad))) ?_ ?_
  · obtain ⟨h0, h2, h3, h5, Z', T⟩ := hJ
    obtain ⟨vf, k1, k3, k4, k5⟩ := T.h.st
    have hcc := T.h.z c T.h.zc
    have hb2 := T.hb
    have hlt2 := T.lt
    simp only [Hp.cells] at hb2
    cases hlo : hp.lost
    · rw [hlo] at hb2
      have h4f : cs3.tk4 false = cs3 := by unfold CS.tk4; split <;> simp
      by_cases h0b : hp.bad = 0
      · have hw : (false || wrongB hp.bad) = false := by simp [wrongB, h0b]
        rw [hw]
        rw [h0b] at hb2
        simp (disch := first | omega | ((simp only [Ab.next_alloc, Ab.next_upd, List.length_cons, List.length_nil, ne_eq, not_true_eq_false, not_false_eq_true]) <;> omega) | decide) only [↓stepPre, stepPost, ↓W_cond, ↓W_block, ↓reduceIte, Nat.reduceEqDiff, Nat.reduceLT, Nat.reduceLeDiff, ret0, stVar, isTup, Value.cells, Nat.le_refl, Nat.reduceAdd, Nat.reduceMul, Nat.reduceSub, env0, binV, intV, reduceCtorEq, pickV, nilCheckV, ptrV, unV, true_and, and_true, Nat.add_zero, Nat.zero_add, Rt, resultsV, allV, resV, Bool.not_true, Bool.not_false, calleeV, builtinV, eqV, fieldAddrV, ldVar, stN_own, stN_ownL, Int.fdiv_eq_ediv_of_nonneg, Int.reduceToNat, Int.reducePow, IntKind.bits, convV, ne_eq, not_false_eq_true, not_true_eq_false, Int.reduceNeg, Int.reduceAdd, Int.reduceSub, Int.reduceLT, Int.reduceLE, extractV, decide_true, decide_false, Int.reduceEq, mkFuncV, stBRefTook, beq_self_eq_true, tyB0RefTook, getL_take, glBRefTook, h0, h5, hb2]
        exact ⟨h0, h2, h3, h5, Z', by rw [h4f]; exact T⟩
      by_cases h6b : hp.bad = 6
      · have hw : (false || wrongB hp.bad) = false := by simp [wrongB, h6b]
        rw [hw]
        rw [h6b] at hb2
        simp (disch := first | omega | ((simp only [Ab.next_alloc, Ab.next_upd, List.length_cons, List.length_nil, ne_eq, not_true_eq_false, not_false_eq_true]) <;> omega) | decide) only [↓stepPre, stepPost, ↓W_cond, ↓W_block, ↓reduceIte, Nat.reduceEqDiff, Nat.reduceLT, Nat.reduceLeDiff, ret0, stVar, isTup, Value.cells, Nat.le_refl, Nat.reduceAdd, Nat.reduceMul, Nat.reduceSub, env0, binV, intV, reduceCtorEq, pickV, nilCheckV, ptrV, unV, true_and, and_true, Nat.add_zero, Nat.zero_add, Rt, resultsV, allV, resV, Bool.not_true, Bool.not_false, calleeV, builtinV, eqV, fieldAddrV, ldVar, stN_own, stN_ownL, Int.fdiv_eq_ediv_of_nonneg, Int.reduceToNat, Int.reducePow, IntKind.bits, convV, ne_eq, not_false_eq_true, not_true_eq_false, Int.reduceNeg, Int.reduceAdd, Int.reduceSub, Int.reduceLT, Int.reduceLE, extractV, decide_true, decide_false, Int.reduceEq, mkFuncV, stBRefTook, beq_self_eq_true, tyB0RefTook, getL_take, glBRefTook, h0, h5, hb2]
        exact ⟨h0, h2, h3, h5, Z', by rw [h4f]; exact T⟩
      have hw : (false || wrongB hp.bad) = true := by simp [wrongB, h0b, h6b]
      rw [hw]
      match hno : cs3.now with
      | none =>
        rw [hno] at k1
        simp only [atN] at k1
        have : cs3.tk4 true = cs3 := by simp [CS.tk4, hno]
        simp (disch := first | omega | ((simp only [Ab.next_alloc, Ab.next_upd, List.length_cons, List.length_nil, ne_eq, not_true_eq_false, not_false_eq_true]) <;> omega) | decide) only [↓stepPre, stepPost, ↓W_cond, ↓W_block, ↓reduceIte, Nat.reduceEqDiff, Nat.reduceLT, Nat.reduceLeDiff, ret0, stVar, isTup, Value.cells, Nat.le_refl, Nat.reduceAdd, Nat.reduceMul, Nat.reduceSub, env0, binV, intV, reduceCtorEq, pickV, nilCheckV, ptrV, unV, true_and, and_true, Nat.add_zero, Nat.zero_add, Rt, resultsV, allV, resV, Bool.not_true, Bool.not_false, calleeV, builtinV, eqV, fieldAddrV, ldVar, stN_own, stN_ownL, Int.fdiv_eq_ediv_of_nonneg, Int.reduceToNat, Int.reducePow, IntKind.bits, convV, ne_eq, not_false_eq_true, not_true_eq_false, Int.reduceNeg, Int.reduceAdd, Int.reduceSub, Int.reduceLT, Int.reduceLE, extractV, decide_true, decide_false, Int.reduceEq, mkFuncV, stBRefTook, beq_self_eq_true, tyB0RefTook, getL_take, glBRefTook, h0, h5, k1, hb2, h0b, h6b]
        exact ⟨h0, h2, h3, h5, Z', by rw [this]; exact T⟩
      | some (k', a') =>
        have hk0 := atO_nn (hfil3 k' a' hno)
        rw [hno] at k1
        simp only [atN] at k1
        have : cs3.tk4 true = cs3.done k' (cs3.failed a') := by simp [CS.tk4, hno]
        simp (disch := first | omega | ((simp only [Ab.next_alloc, Ab.next_upd, List.length_cons, List.length_nil, ne_eq, not_true_eq_false, not_false_eq_true]) <;> omega) | decide) only [↓stepPre, stepPost, ↓W_cond, ↓W_block, ↓reduceIte, Nat.reduceEqDiff, Nat.reduceLT, Nat.reduceLeDiff, ret0, stVar, isTup, Value.cells, Nat.le_refl, Nat.reduceAdd, Nat.reduceMul, Nat.reduceSub, env0, binV, intV, reduceCtorEq, pickV, nilCheckV, ptrV, unV, true_and, and_true, Nat.add_zero, Nat.zero_add, Rt, resultsV, allV, resV, Bool.not_true, Bool.not_false, calleeV, builtinV, eqV, fieldAddrV, ldVar, stN_own, stN_ownL, Int.fdiv_eq_ediv_of_nonneg, Int.reduceToNat, Int.reducePow, IntKind.bits, convV, ne_eq, not_false_eq_true, not_true_eq_false, Int.reduceNeg, Int.reduceAdd, Int.reduceSub, Int.reduceLT, Int.reduceLE, extractV, decide_true, decide_false, Int.reduceEq, mkFuncV, stBRefTook, beq_self_eq_true, tyB0RefTook, getL_take, glBRefTook, h0, h5, k1, hb2, hk0, h0b, h6b]
        refine W_draw (fun k => k == 13) (fun _ => false) (fun _ => false) (by kernel_rfl) (by kernel_rfl) ?_
        simp (disch := first | omega | ((simp only [Ab.next_alloc, Ab.next_upd, List.length_cons, List.length_nil, ne_eq, not_true_eq_false, not_false_eq_true]) <;> omega) | decide) only [↓stepPre, stepPost, ↓W_cond, ↓W_block, ↓reduceIte, Nat.reduceEqDiff, Nat.reduceLT, Nat.reduceLeDiff, ret0, stVar, isTup, Value.cells, Nat.le_refl, Nat.reduceAdd, Nat.reduceMul, Nat.reduceSub, env0, binV, intV, reduceCtorEq, pickV, nilCheckV, ptrV, unV, true_and, and_true, Nat.add_zero, Nat.zero_add, Rt, resultsV, allV, resV, Bool.not_true, Bool.not_false, calleeV, builtinV, eqV, fieldAddrV, ldVar, stN_own, stN_ownL, Int.fdiv_eq_ediv_of_nonneg, Int.reduceToNat, Int.reducePow, IntKind.bits, convV, ne_eq, not_false_eq_true, not_true_eq_false, Int.reduceNeg, Int.reduceAdd, Int.reduceSub, Int.reduceLT, Int.reduceLE, extractV, decide_true, decide_false, Int.reduceEq, mkFuncV, stBRefTook, beq_self_eq_true, tyB0RefTook, getL_take, glBRefTook, h0, k1]
        refine rcget_ok T.h.o fun s1 m1 => ?_
        have n1 := m1.next
        obtain ⟨po, hpo⟩ : ∃ po, (atO cs3.L k').getD Po.zero = po := ⟨_, rfl⟩
        have hat : cs3.at_ = k' := by simp only [CS.at_, hno]
        have T2 := T.step (Ch.of_mild (m1.alloc' (o := .row po.c)) _) (fun b hb => .inl hb) (T.h.mild (m1.alloc' (o := .row po.c)))
        obtain ⟨vf2, j1, j3, j4, j5⟩ := T2.h.st
        have hcc2 := T2.h.z c T2.h.zc
        rw [hno] at j1
        simp only [atN] at j1
        rw [Ab.heap_alloc_ne _ _ (by omega)] at j1
        simp (disch := first | omega | ((simp only [Ab.next_alloc, Ab.next_upd, List.length_cons, List.length_nil, ne_eq, not_true_eq_false, not_false_eq_true]) <;> omega) | decide) only [↓stepPre, stepPost, ↓W_cond, ↓W_block, ↓reduceIte, Nat.reduceEqDiff, Nat.reduceLT, Nat.reduceLeDiff, ret0, stVar, isTup, Value.cells, Nat.le_refl, Nat.reduceAdd, Nat.reduceMul, Nat.reduceSub, env0, binV, intV, reduceCtorEq, pickV, nilCheckV, ptrV, unV, true_and, and_true, Nat.add_zero, Nat.zero_add, Rt, resultsV, allV, resV, Bool.not_true, Bool.not_false, calleeV, builtinV, eqV, fieldAddrV, ldVar, stN_own, stN_ownL, Int.fdiv_eq_ediv_of_nonneg, Int.reduceToNat, Int.reducePow, IntKind.bits, convV, ne_eq, not_false_eq_true, not_true_eq_false, Int.reduceNeg, Int.reduceAdd, Int.reduceSub, Int.reduceLT, Int.reduceLE, extractV, decide_true, decide_false, Int.reduceEq, mkFuncV, stBRefTook, beq_self_eq_true, tyB0RefTook, getL_take, glBRefTook, poV, hpo]
        refine ⟨Dok_mild m1, Dok_next (by decide) (Nat.le_refl _), ?_⟩
        cases ha : a'
        · rw [ha] at j1
          simp only [abN] at j1
          cases ho : po.o
          · have hfa : cs3.failed false = 0 := by simp [CS.failed, hat, hpo, ho]
            have e3 : cs3.done k' (cs3.failed false) = { cs3 with now := none } := by simp [CS.done, hfa]
            simp only [Po.c, ho] at T2
            simp (disch := first | omega | ((simp only [Ab.next_alloc, Ab.next_upd, List.length_cons, List.length_nil, ne_eq, not_true_eq_false, not_false_eq_true]) <;> omega) | decide) only [↓stepPre, stepPost, ↓W_cond, ↓W_block, ↓reduceIte, Nat.reduceEqDiff, Nat.reduceLT, Nat.reduceLeDiff, ret0, stVar, isTup, Value.cells, Nat.le_refl, Nat.reduceAdd, Nat.reduceMul, Nat.reduceSub, env0, binV, intV, reduceCtorEq, pickV, nilCheckV, ptrV, unV, true_and, and_true, Nat.add_zero, Nat.zero_add, Rt, resultsV, allV, resV, Bool.not_true, Bool.not_false, calleeV, builtinV, eqV, fieldAddrV, ldVar, stN_own, stN_ownL, Int.fdiv_eq_ediv_of_nonneg, Int.reduceToNat, Int.reducePow, IntKind.bits, convV, ne_eq, not_false_eq_true, not_true_eq_false, Int.reduceNeg, Int.reduceAdd, Int.reduceSub, Int.reduceLT, Int.reduceLE, extractV, decide_true, decide_false, Int.reduceEq, mkFuncV, stBRefTook, beq_self_eq_true, tyB0RefTook, getL_take, glBRefTook, h0, h5, j1, ho]
            refine rends_ok T2.h fun s3 c3 h3' => ?_
            simp (disch := first | omega | ((simp only [Ab.next_alloc, Ab.next_upd, List.length_cons, List.length_nil, ne_eq, not_true_eq_false, not_false_eq_true]) <;> omega) | decide) only [↓stepPre, stepPost, ↓W_cond, ↓W_block, ↓reduceIte, Nat.reduceEqDiff, Nat.reduceLT, Nat.reduceLeDiff, ret0, stVar, isTup, Value.cells, Nat.le_refl, Nat.reduceAdd, Nat.reduceMul, Nat.reduceSub, env0, binV, intV, reduceCtorEq, pickV, nilCheckV, ptrV, unV, true_and, and_true, Nat.add_zero, Nat.zero_add, Rt, resultsV, allV, resV, Bool.not_true, Bool.not_false, calleeV, builtinV, eqV, fieldAddrV, ldVar, stN_own, stN_ownL, Int.fdiv_eq_ediv_of_nonneg, Int.reduceToNat, Int.reducePow, IntKind.bits, convV, ne_eq, not_false_eq_true, not_true_eq_false, Int.reduceNeg, Int.reduceAdd, Int.reduceSub, Int.reduceLT, Int.reduceLE, extractV, decide_true, decide_false, Int.reduceEq, mkFuncV, stBRefTook, beq_self_eq_true, tyB0RefTook, getL_take, glBRefTook, h0, h5]
            rw [ha] at this
            exact ⟨h0, h2, h3, h5, Z', by rw [this, e3]; exact T2.step (c3.mono fun b _ hb => .inr hb) (fun b hb => .inl hb) h3'⟩
          · have hfa : cs3.failed false = 3 := by simp [CS.failed, hat, hpo, ho]
            have e3 : cs3.done k' (cs3.failed false) = { cs3.out k' 3 with now := none } := by simp [CS.done, hfa]
            simp only [Po.c, ho] at T2
            simp (disch := first | omega | ((simp only [Ab.next_alloc, Ab.next_upd, List.length_cons, List.length_nil, ne_eq, not_true_eq_false, not_false_eq_true]) <;> omega) | decide) only [↓stepPre, stepPost, ↓W_cond, ↓W_block, ↓reduceIte, Nat.reduceEqDiff, Nat.reduceLT, Nat.reduceLeDiff, ret0, stVar, isTup, Value.cells, Nat.le_refl, Nat.reduceAdd, Nat.reduceMul, Nat.reduceSub, env0, binV, intV, reduceCtorEq, pickV, nilCheckV, ptrV, unV, true_and, and_true, Nat.add_zero, Nat.zero_add, Rt, resultsV, allV, resV, Bool.not_true, Bool.not_false, calleeV, builtinV, eqV, fieldAddrV, ldVar, stN_own, stN_ownL, Int.fdiv_eq_ediv_of_nonneg, Int.reduceToNat, Int.reducePow, IntKind.bits, convV, ne_eq, not_false_eq_true, not_true_eq_false, Int.reduceNeg, Int.reduceAdd, Int.reduceSub, Int.reduceLT, Int.reduceLE, extractV, decide_true, decide_false, Int.reduceEq, mkFuncV, stBRefTook, beq_self_eq_true, tyB0RefTook, getL_take, glBRefTook, h0, h5, j1, ho]
            refine rout_ok T2.h (by omega) (hfil3 k' a' hno) fun s2 Z2 c2 z2 h2' => ?_
            have T3 := T2.step c2 z2 h2'
            simp (disch := first | omega | ((simp only [Ab.next_alloc, Ab.next_upd, List.length_cons, List.length_nil, ne_eq, not_true_eq_false, not_false_eq_true]) <;> omega) | decide) only [↓stepPre, stepPost, ↓W_cond, ↓W_block, ↓reduceIte, Nat.reduceEqDiff, Nat.reduceLT, Nat.reduceLeDiff, ret0, stVar, isTup, Value.cells, Nat.le_refl, Nat.reduceAdd, Nat.reduceMul, Nat.reduceSub, env0, binV, intV, reduceCtorEq, pickV, nilCheckV, ptrV, unV, true_and, and_true, Nat.add_zero, Nat.zero_add, Rt, resultsV, allV, resV, Bool.not_true, Bool.not_false, calleeV, builtinV, eqV, fieldAddrV, ldVar, stN_own, stN_ownL, Int.fdiv_eq_ediv_of_nonneg, Int.reduceToNat, Int.reducePow, IntKind.bits, convV, ne_eq, not_false_eq_true, not_true_eq_false, Int.reduceNeg, Int.reduceAdd, Int.reduceSub, Int.reduceLT, Int.reduceLE, extractV, decide_true, decide_false, Int.reduceEq, mkFuncV, stBRefTook, beq_self_eq_true, tyB0RefTook, getL_take, glBRefTook, h0, h5]
            refine rends_ok h2' fun s3 c3 h3' => ?_
            simp (disch := first | omega | ((simp only [Ab.next_alloc, Ab.next_upd, List.length_cons, List.length_nil, ne_eq, not_true_eq_false, not_false_eq_true]) <;> omega) | decide) only [↓stepPre, stepPost, ↓W_cond, ↓W_block, ↓reduceIte, Nat.reduceEqDiff, Nat.reduceLT, Nat.reduceLeDiff, ret0, stVar, isTup, Value.cells, Nat.le_refl, Nat.reduceAdd, Nat.reduceMul, Nat.reduceSub, env0, binV, intV, reduceCtorEq, pickV, nilCheckV, ptrV, unV, true_and, and_true, Nat.add_zero, Nat.zero_add, Rt, resultsV, allV, resV, Bool.not_true, Bool.not_false, calleeV, builtinV, eqV, fieldAddrV, ldVar, stN_own, stN_ownL, Int.fdiv_eq_ediv_of_nonneg, Int.reduceToNat, Int.reducePow, IntKind.bits, convV, ne_eq, not_false_eq_true, not_true_eq_false, Int.reduceNeg, Int.reduceAdd, Int.reduceSub, Int.reduceLT, Int.reduceLE, extractV, decide_true, decide_false, Int.reduceEq, mkFuncV, stBRefTook, beq_self_eq_true, tyB0RefTook, getL_take, glBRefTook, h0, h5]
            rw [ha] at this
            exact ⟨h0, h2, h3, h5, Z2, by rw [this, e3]; exact T3.step (c3.mono fun b _ hb => .inr hb) (fun b hb => .inl hb) h3'⟩
        · rw [ha] at j1
          simp only [abN] at j1
          have hfa : cs3.failed true = 2 := by simp [CS.failed]
          have e3 : cs3.done k' (cs3.failed true) = { cs3.out k' 2 with now := none } := by simp [CS.done, hfa]
          simp (disch := first | omega | ((simp only [Ab.next_alloc, Ab.next_upd, List.length_cons, List.length_nil, ne_eq, not_true_eq_false, not_false_eq_true]) <;> omega) | decide) only [↓stepPre, stepPost, ↓W_cond, ↓W_block, ↓reduceIte, Nat.reduceEqDiff, Nat.reduceLT, Nat.reduceLeDiff, ret0, stVar, isTup, Value.cells, Nat.le_refl, Nat.reduceAdd, Nat.reduceMul, Nat.reduceSub, env0, binV, intV, reduceCtorEq, pickV, nilCheckV, ptrV, unV, true_and, and_true, Nat.add_zero, Nat.zero_add, Rt, resultsV, allV, resV, Bool.not_true, Bool.not_false, calleeV, builtinV, eqV, fieldAddrV, ldVar, stN_own, stN_ownL, Int.fdiv_eq_ediv_of_nonneg, Int.reduceToNat, Int.reducePow, IntKind.bits, convV, ne_eq, not_false_eq_true, not_true_eq_false, Int.reduceNeg, Int.reduceAdd, Int.reduceSub, Int.reduceLT, Int.reduceLE, extractV, decide_true, decide_false, Int.reduceEq, mkFuncV, stBRefTook, beq_self_eq_true, tyB0RefTook, getL_take, glBRefTook, h0, h5, j1]
          refine rout_ok T2.h (by omega) (hfil3 k' a' hno) fun s2 Z2 c2 z2 h2' => ?_
          have T3 := T2.step c2 z2 h2'
          simp (disch := first | omega | ((simp only [Ab.next_alloc, Ab.next_upd, List.length_cons, List.length_nil, ne_eq, not_true_eq_false, not_false_eq_true]) <;> omega) | decide) only [↓stepPre, stepPost, ↓W_cond, ↓W_block, ↓reduceIte, Nat.reduceEqDiff, Nat.reduceLT, Nat.reduceLeDiff, ret0, stVar, isTup, Value.cells, Nat.le_refl, Nat.reduceAdd, Nat.reduceMul, Nat.reduceSub, env0, binV, intV, reduceCtorEq, pickV, nilCheckV, ptrV, unV, true_and, and_true, Nat.add_zero, Nat.zero_add, Rt, resultsV, allV, resV, Bool.not_true, Bool.not_false, calleeV, builtinV, eqV, fieldAddrV, ldVar, stN_own, stN_ownL, Int.fdiv_eq_ediv_of_nonneg, Int.reduceToNat, Int.reducePow, IntKind.bits, convV, ne_eq, not_false_eq_true, not_true_eq_false, Int.reduceNeg, Int.reduceAdd, Int.reduceSub, Int.reduceLT, Int.reduceLE, extractV, decide_true, decide_false, Int.reduceEq, mkFuncV, stBRefTook, beq_self_eq_true, tyB0RefTook, getL_take, glBRefTook, h0, h5]
          refine rends_ok h2' fun s3 c3 h3' => ?_
          simp (disch := first | omega | ((simp only [Ab.next_alloc, Ab.next_upd, List.length_cons, List.length_nil, ne_eq, not_true_eq_false, not_false_eq_true]) <;> omega) | decide) only [↓stepPre, stepPost, ↓W_cond, ↓W_block, ↓reduceIte, Nat.reduceEqDiff, Nat.reduceLT, Nat.reduceLeDiff, ret0, stVar, isTup, Value.cells, Nat.le_refl, Nat.reduceAdd, Nat.reduceMul, Nat.reduceSub, env0, binV, intV, reduceCtorEq, pickV, nilCheckV, ptrV, unV, true_and, and_true, Nat.add_zero, Nat.zero_add, Rt, resultsV, allV, resV, Bool.not_true, Bool.not_false, calleeV, builtinV, eqV, fieldAddrV, ldVar, stN_own, stN_ownL, Int.fdiv_eq_ediv_of_nonneg, Int.reduceToNat, Int.reducePow, IntKind.bits, convV, ne_eq, not_false_eq_true, not_true_eq_false, Int.reduceNeg, Int.reduceAdd, Int.reduceSub, Int.reduceLT, Int.reduceLE, extractV, decide_true, decide_false, Int.reduceEq, mkFuncV, stBRefTook, beq_self_eq_true, tyB0RefTook, getL_take, glBRefTook, h0, h5]
          rw [ha] at this
          exact ⟨h0, h2, h3, h5, Z2, by rw [this, e3]; exact T3.step (c3.mono fun b _ hb => .inr hb) (fun b hb => .inl hb) h3'⟩
    · rw [hlo] at hb2
      have hw : (true || wrongB hp.bad) = true := rfl
      rw [hw]
      match hno : cs3.now with
      | none =>
        rw [hno] at k1
        simp only [atN] at k1
        have : cs3.tk4 true = cs3 := by simp [CS.tk4, hno]
        simp (disch := first | omega | ((simp only [Ab.next_alloc, Ab.next_upd, List.length_cons, List.length_nil, ne_eq, not_true_eq_false, not_false_eq_true]) <;> omega) | decide) only [↓stepPre, stepPost, ↓W_cond, ↓W_block, ↓reduceIte, Nat.reduceEqDiff, Nat.reduceLT, Nat.reduceLeDiff, ret0, stVar, isTup, Value.cells, Nat.le_refl, Nat.reduceAdd, Nat.reduceMul, Nat.reduceSub, env0, binV, intV, reduceCtorEq, pickV, nilCheckV, ptrV, unV, true_and, and_true, Nat.add_zero, Nat.zero_add, Rt, resultsV, allV, resV, Bool.not_true, Bool.not_false, calleeV, builtinV, eqV, fieldAddrV, ldVar, stN_own, stN_ownL, Int.fdiv_eq_ediv_of_nonneg, Int.reduceToNat, Int.reducePow, IntKind.bits, convV, ne_eq, not_false_eq_true, not_true_eq_false, Int.reduceNeg, Int.reduceAdd, Int.reduceSub, Int.reduceLT, Int.reduceLE, extractV, decide_true, decide_false, Int.reduceEq, mkFuncV, stBRefTook, beq_self_eq_true, tyB0RefTook, getL_take, glBRefTook, h0, h5, k1, hb2]
        exact ⟨h0, h2, h3, h5, Z', by rw [this]; exact T⟩
      | some (k', a') =>
        have hk0 := atO_nn (hfil3 k' a' hno)
        rw [hno] at k1
        simp only [atN] at k1
        have : cs3.tk4 true = cs3.done k' (cs3.failed a') := by simp [CS.tk4, hno]
        simp (disch := first | omega | ((simp only [Ab.next_alloc, Ab.next_upd, List.length_cons, List.length_nil, ne_eq, not_true_eq_false, not_false_eq_true]) <;> omega) | decide) only [↓stepPre, stepPost, ↓W_cond, ↓W_block, ↓reduceIte, Nat.reduceEqDiff, Nat.reduceLT, Nat.reduceLeDiff, ret0, stVar, isTup, Value.cells, Nat.le_refl, Nat.reduceAdd, Nat.reduceMul, Nat.reduceSub, env0, binV, intV, reduceCtorEq, pickV, nilCheckV, ptrV, unV, true_and, and_true, Nat.add_zero, Nat.zero_add, Rt, resultsV, allV, resV, Bool.not_true, Bool.not_false, calleeV, builtinV, eqV, fieldAddrV, ldVar, stN_own, stN_ownL, Int.fdiv_eq_ediv_of_nonneg, Int.reduceToNat, Int.reducePow, IntKind.bits, convV, ne_eq, not_false_eq_true, not_true_eq_false, Int.reduceNeg, Int.reduceAdd, Int.reduceSub, Int.reduceLT, Int.reduceLE, extractV, decide_true, decide_false, Int.reduceEq, mkFuncV, stBRefTook, beq_self_eq_true, tyB0RefTook, getL_take, glBRefTook, h0, h5, k1, hb2, hk0]
        refine W_draw (fun k => k == 13) (fun _ => false) (fun _ => false) (by kernel_rfl) (by kernel_rfl) ?_
        simp (disch := first | omega | ((simp only [Ab.next_alloc, Ab.next_upd, List.length_cons, List.length_nil, ne_eq, not_true_eq_false, not_false_eq_true]) <;> omega) | decide) only [↓stepPre, stepPost, ↓W_cond, ↓W_block, ↓reduceIte, Nat.reduceEqDiff, Nat.reduceLT, Nat.reduceLeDiff, ret0, stVar, isTup, Value.cells, Nat.le_refl, Nat.reduceAdd, Nat.reduceMul, Nat.reduceSub, env0, binV, intV, reduceCtorEq, pickV, nilCheckV, ptrV, unV, true_and, and_true, Nat.add_zero, Nat.zero_add, Rt, resultsV, allV, resV, Bool.not_true, Bool.not_false, calleeV, builtinV, eqV, fieldAddrV, ldVar, stN_own, stN_ownL, Int.fdiv_eq_ediv_of_nonneg, Int.reduceToNat, Int.reducePow, IntKind.bits, convV, ne_eq, not_false_eq_true, not_true_eq_false, Int.reduceNeg, Int.reduceAdd, Int.reduceSub, Int.reduceLT, Int.reduceLE, extractV, decide_true, decide_false, Int.reduceEq, mkFuncV, stBRefTook, beq_self_eq_true, tyB0RefTook, getL_take, glBRefTook, h0, k1]
        refine rcget_ok T.h.o fun s1 m1 => ?_
        have n1 := m1.next
        obtain ⟨po, hpo⟩ : ∃ po, (atO cs3.L k').getD Po.zero = po := ⟨_, rfl⟩
        have hat : cs3.at_ = k' := by simp only [CS.at_, hno]
        have T2 := T.step (Ch.of_mild (m1.alloc' (o := .row po.c)) _) (fun b hb => .inl hb) (T.h.mild (m1.alloc' (o := .row po.c)))
        obtain ⟨vf2, j1, j3, j4, j5⟩ := T2.h.st
        have hcc2 := T2.h.z c T2.h.zc
        rw [hno] at j1
        simp only [atN] at j1
        rw [Ab.heap_alloc_ne _ _ (by omega)] at j1
        simp (disch := first | omega | ((simp only [Ab.next_alloc, Ab.next_upd, List.length_cons, List.length_nil, ne_eq, not_true_eq_false, not_false_eq_true]) <;> omega) | decide) only [↓stepPre, stepPost, ↓W_cond, ↓W_block, ↓reduceIte, Nat.reduceEqDiff, Nat.reduceLT, Nat.reduceLeDiff, ret0, stVar, isTup, Value.cells, Nat.le_refl, Nat.reduceAdd, Nat.reduceMul, Nat.reduceSub, env0, binV, intV, reduceCtorEq, pickV, nilCheckV, ptrV, unV, true_and, and_true, Nat.add_zero, Nat.zero_add, Rt, resultsV, allV, resV, Bool.not_true, Bool.not_false, calleeV, builtinV, eqV, fieldAddrV, ldVar, stN_own, stN_ownL, Int.fdiv_eq_ediv_of_nonneg, Int.reduceToNat, Int.reducePow, IntKind.bits, convV, ne_eq, not_false_eq_true, not_true_eq_false, Int.reduceNeg, Int.reduceAdd, Int.reduceSub, Int.reduceLT, Int.reduceLE, extractV, decide_true, decide_false, Int.reduceEq, mkFuncV, stBRefTook, beq_self_eq_true, tyB0RefTook, getL_take, glBRefTook, poV, hpo]
        refine ⟨Dok_mild m1, Dok_next (by decide) (Nat.le_refl _), ?_⟩
        cases ha : a'
        · rw [ha] at j1
          simp only [abN] at j1
          cases ho : po.o
          · have hfa : cs3.failed false = 0 := by simp [CS.failed, hat, hpo, ho]
            have e3 : cs3.done k' (cs3.failed false) = { cs3 with now := none } := by simp [CS.done, hfa]
            simp only [Po.c, ho] at T2
            simp (disch := first | omega | ((simp only [Ab.next_alloc, Ab.next_upd, List.length_cons, List.length_nil, ne_eq, not_true_eq_false, not_false_eq_true]) <;> omega) | decide) only [↓stepPre, stepPost, ↓W_cond, ↓W_block, ↓reduceIte, Nat.reduceEqDiff, Nat.reduceLT, Nat.reduceLeDiff, ret0, stVar, isTup, Value.cells, Nat.le_refl, Nat.reduceAdd, Nat.reduceMul, Nat.reduceSub, env0, binV, intV, reduceCtorEq, pickV, nilCheckV, ptrV, unV, true_and, and_true, Nat.add_zero, Nat.zero_add, Rt, resultsV, allV, resV, Bool.not_true, Bool.not_false, calleeV, builtinV, eqV, fieldAddrV, ldVar, stN_own, stN_ownL, Int.fdiv_eq_ediv_of_nonneg, Int.reduceToNat, Int.reducePow, IntKind.bits, convV, ne_eq, not_false_eq_true, not_true_eq_false, Int.reduceNeg, Int.reduceAdd, Int.reduceSub, Int.reduceLT, Int.reduceLE, extractV, decide_true, decide_false, Int.reduceEq, mkFuncV, stBRefTook, beq_self_eq_true, tyB0RefTook, getL_take, glBRefTook, h0, h5, j1, ho]
            refine rends_ok T2.h fun s3 c3 h3' => ?_
            simp (disch := first | omega | ((simp only [Ab.next_alloc, Ab.next_upd, List.length_cons, List.length_nil, ne_eq, not_true_eq_false, not_false_eq_true]) <;> omega) | decide) only [↓stepPre, stepPost, ↓W_cond, ↓W_block, ↓reduceIte, Nat.reduceEqDiff, Nat.reduceLT, Nat.reduceLeDiff, ret0, stVar, isTup, Value.cells, Nat.le_refl, Nat.reduceAdd, Nat.reduceMul, Nat.reduceSub, env0, binV, intV, reduceCtorEq, pickV, nilCheckV, ptrV, unV, true_and, and_true, Nat.add_zero, Nat.zero_add, Rt, resultsV, allV, resV, Bool.not_true, Bool.not_false, calleeV, builtinV, eqV, fieldAddrV, ldVar, stN_own, stN_ownL, Int.fdiv_eq_ediv_of_nonneg, Int.reduceToNat, Int.reducePow, IntKind.bits, convV, ne_eq, not_false_eq_true, not_true_eq_false, Int.reduceNeg, Int.reduceAdd, Int.reduceSub, Int.reduceLT, Int.reduceLE, extractV, decide_true, decide_false, Int.reduceEq, mkFuncV, stBRefTook, beq_self_eq_true, tyB0RefTook, getL_take, glBRefTook, h0, h5]
            rw [ha] at this
            exact ⟨h0, h2, h3, h5, Z', by rw [this, e3]; exact T2.step (c3.mono fun b _ hb => .inr hb) (fun b hb => .inl hb) h3'⟩
          · have hfa : cs3.failed false = 3 := by simp [CS.failed, hat, hpo, ho]
            have e3 : cs3.done k' (cs3.failed false) = { cs3.out k' 3 with now := none } := by simp [CS.done, hfa]
            simp only [Po.c, ho] at T2
            simp (disch := first | omega | ((simp only [Ab.next_alloc, Ab.next_upd, List.length_cons, List.length_nil, ne_eq, not_true_eq_false, not_false_eq_true]) <;> omega) | decide) only [↓stepPre, stepPost, ↓W_cond, ↓W_block, ↓reduceIte, Nat.reduceEqDiff, Nat.reduceLT, Nat.reduceLeDiff, ret0, stVar, isTup, Value.cells, Nat.le_refl, Nat.reduceAdd, Nat.reduceMul, Nat.reduceSub, env0, binV, intV, reduceCtorEq, pickV, nilCheckV, ptrV, unV, true_and, and_true, Nat.add_zero, Nat.zero_add, Rt, resultsV, allV, resV, Bool.not_true, Bool.not_false, calleeV, builtinV, eqV, fieldAddrV, ldVar, stN_own, stN_ownL, Int.fdiv_eq_ediv_of_nonneg, Int.reduceToNat, Int.reducePow, IntKind.bits, convV, ne_eq, not_false_eq_true, not_true_eq_false, Int.reduceNeg, Int.reduceAdd, Int.reduceSub, Int.reduceLT, Int.reduceLE, extractV, decide_true, decide_false, Int.reduceEq, mkFuncV, stBRefTook, beq_self_eq_true, tyB0RefTook, getL_take, glBRefTook, h0, h5, j1, ho]
            refine rout_ok T2.h (by omega) (hfil3 k' a' hno) fun s2 Z2 c2 z2 h2' => ?_
            have T3 := T2.step c2 z2 h2'
            simp (disch := first | omega | ((simp only [Ab.next_alloc, Ab.next_upd, List.length_cons, List.length_nil, ne_eq, not_true_eq_false, not_false_eq_true]) <;> omega) | decide) only [↓stepPre, stepPost, ↓W_cond, ↓W_block, ↓reduceIte, Nat.reduceEqDiff, Nat.reduceLT, Nat.reduceLeDiff, ret0, stVar, isTup, Value.cells, Nat.le_refl, Nat.reduceAdd, Nat.reduceMul, Nat.reduceSub, env0, binV, intV, reduceCtorEq, pickV, nilCheckV, ptrV, unV, true_and, and_true, Nat.add_zero, Nat.zero_add, Rt, resultsV, allV, resV, Bool.not_true, Bool.not_false, calleeV, builtinV, eqV, fieldAddrV, ldVar, stN_own, stN_ownL, Int.fdiv_eq_ediv_of_nonneg, Int.reduceToNat, Int.reducePow, IntKind.bits, convV, ne_eq, not_false_eq_true, not_true_eq_false, Int.reduceNeg, Int.reduceAdd, Int.reduceSub, Int.reduceLT, Int.reduceLE, extractV, decide_true, decide_false, Int.reduceEq, mkFuncV, stBRefTook, beq_self_eq_true, tyB0RefTook, getL_take, glBRefTook, h0, h5]
            refine rends_ok h2' fun s3 c3 h3' => ?_
            simp (disch := first | omega | ((simp only [Ab.next_alloc, Ab.next_upd, List.length_cons, List.length_nil, ne_eq, not_true_eq_false, not_false_eq_true]) <;> omega) | decide) only [↓stepPre, stepPost, ↓W_cond, ↓W_block, ↓reduceIte, Nat.reduceEqDiff, Nat.reduceLT, Nat.reduceLeDiff, ret0, stVar, isTup, Value.cells, Nat.le_refl, Nat.reduceAdd, Nat.reduceMul, Nat.reduceSub, env0, binV, intV, reduceCtorEq, pickV, nilCheckV, ptrV, unV, true_and, and_true, Nat.add_zero, Nat.zero_add, Rt, resultsV, allV, resV, Bool.not_true, Bool.not_false, calleeV, builtinV, eqV, fieldAddrV, ldVar, stN_own, stN_ownL, Int.fdiv_eq_ediv_of_nonneg, Int.reduceToNat, Int.reducePow, IntKind.bits, convV, ne_eq, not_false_eq_true, not_true_eq_false, Int.reduceNeg, Int.reduceAdd, Int.reduceSub, Int.reduceLT, Int.reduceLE, extractV, decide_true, decide_false, Int.reduceEq, mkFuncV, stBRefTook, beq_self_eq_true, tyB0RefTook, getL_take, glBRefTook, h0, h5]
            rw [ha] at this
            exact ⟨h0, h2, h3, h5, Z2, by rw [this, e3]; exact T3.step (c3.mono fun b _ hb => .inr hb) (fun b hb => .inl hb) h3'⟩
        · rw [ha] at j1
          simp only [abN] at j1
          have hfa : cs3.failed true = 2 := by simp [CS.failed]
          have e3 : cs3.done k' (cs3.failed true) = { cs3.out k' 2 with now := none } := by simp [CS.done, hfa]
          simp (disch := first | omega | ((simp only [Ab.next_alloc, Ab.next_upd, List.length_cons, List.length_nil, ne_eq, not_true_eq_false, not_false_eq_true]) <;> omega) | decide) only [↓stepPre, stepPost, ↓W_cond, ↓W_block, ↓reduceIte, Nat.reduceEqDiff, Nat.reduceLT, Nat.reduceLeDiff, ret0, stVar, isTup, Value.cells, Nat.le_refl, Nat.reduceAdd, Nat.reduceMul, Nat.reduceSub, env0, binV, intV, reduceCtorEq, pickV, nilCheckV, ptrV, unV, true_and, and_true, Nat.add_zero, Nat.zero_add, Rt, resultsV, allV, resV, Bool.not_true, Bool.not_false, calleeV, builtinV, eqV, fieldAddrV, ldVar, stN_own, stN_ownL, Int.fdiv_eq_ediv_of_nonneg, Int.reduceToNat, Int.reducePow, IntKind.bits, convV, ne_eq, not_false_eq_true, not_true_eq_false, Int.reduceNeg, Int.reduceAdd, Int.reduceSub, Int.reduceLT, Int.reduceLE, extractV, decide_true, decide_false, Int.reduceEq, mkFuncV, stBRefTook, beq_self_eq_true, tyB0RefTook, getL_take, glBRefTook, h0, h5, j1]
          refine rout_ok T2.h (by omega) (hfil3 k' a' hno) fun s2 Z2 c2 z2 h2' => ?_
          have T3 := T2.step c2 z2 h2'
          simp (disch := first | omega | ((simp only [Ab.next_alloc, Ab.next_upd, List.length_cons, List.length_nil, ne_eq, not_true_eq_false, not_false_eq_true]) <;> omega) | decide) only [↓stepPre, stepPost, ↓W_cond, ↓W_block, ↓reduceIte, Nat.reduceEqDiff, Nat.reduceLT, Nat.reduceLeDiff, ret0, stVar, isTup, Value.cells, Nat.le_refl, Nat.reduceAdd, Nat.reduceMul, Nat.reduceSub, env0, binV, intV, reduceCtorEq, pickV, nilCheckV, ptrV, unV, true_and, and_true, Nat.add_zero, Nat.zero_add, Rt, resultsV, allV, resV, Bool.not_true, Bool.not_false, calleeV, builtinV, eqV, fieldAddrV, ldVar, stN_own, stN_ownL, Int.fdiv_eq_ediv_of_nonneg, Int.reduceToNat, Int.reducePow, IntKind.bits, convV, ne_eq, not_false_eq_true, not_true_eq_false, Int.reduceNeg, Int.reduceAdd, Int.reduceSub, Int.reduceLT, Int.reduceLE, extractV, decide_true, decide_false, Int.reduceEq, mkFuncV, stBRefTook, beq_self_eq_true, tyB0RefTook, getL_take, glBRefTook, h0, h5]
          refine rends_ok h2' fun s3 c3 h3' => ?_
          simp (disch := first | omega | ((simp only [Ab.next_alloc, Ab.next_upd, List.length_cons, List.length_nil, ne_eq, not_true_eq_false, not_false_eq_true]) <;> omega) | decide) only [↓stepPre, stepPost, ↓W_cond, ↓W_block, ↓reduceIte, Nat.reduceEqDiff, Nat.reduceLT, Nat.reduceLeDiff, ret0, stVar, isTup, Value.cells, Nat.le_refl, Nat.reduceAdd, Nat.reduceMul, Nat.reduceSub, env0, binV, intV, reduceCtorEq, pickV, nilCheckV, ptrV, unV, true_and, and_true, Nat.add_zero, Nat.zero_add, Rt, resultsV, allV, resV, Bool.not_true, Bool.not_false, calleeV, builtinV, eqV, fieldAddrV, ldVar, stN_own, stN_ownL, Int.fdiv_eq_ediv_of_nonneg, Int.reduceToNat, Int.reducePow, IntKind.bits, convV, ne_eq, not_false_eq_true, not_true_eq_false, Int.reduceNeg, Int.reduceAdd, Int.reduceSub, Int.reduceLT, Int.reduceLE, extractV, decide_true, decide_false, Int.reduceEq, mkFuncV, stBRefTook, beq_self_eq_true, tyB0RefTook, getL_take, glBRefTook, h0, h5]
          rw [ha] at this
          exact ⟨h0, h2, h3, h5, Z2, by rw [this, e3]; exact T3.step (c3.mono fun b _ hb => .inr hb) (fun b hb => .inl hb) h3'⟩
  clear hJ e' s'
  rintro e' s' ⟨h0, h2, h3, h5, Z', T⟩
  have hin4 : (cs3.tk4 (hp.lost || wrongB hp.bad)).room = cs.room ∧ (cs3.tk4 (hp.lost || wrongB hp.bad)).F = cs.F ∧ (cs3.tk4 (hp.lost || wrongB hp.bad)).W = cs.W := by
    unfold CS.tk4; split
    · split
      · have := done_in cs3 ‹_› (cs3.failed ‹_›); rw [this.1, this.2.1, this.2.2.1]; exact hin3
      · exact hin3
    · exact hin3
  have hfin : cs.took hp ph t = (cs3.tk4 (hp.lost || wrongB hp.bad)).tk5 hp t := by
    simp only [CS.took, hcs1, hcs2, hcs3]
  generalize cs3.tk4 (hp.lost || wrongB hp.bad) = cs4 at *
  obtain ⟨vf, k1, k3, k4, k5⟩ := T.h.st
  have hcc := T.h.z c T.h.zc
  have hbn4 := T.h.hbn
  have hb2 := T.hb
  have hlt2 := T.lt
  obtain ⟨r0, r1, r2, r3, r4, r5, r6, r7, r8, r9, hre⟩ : ∃ r0 r1 r2 r3 r4 r5 r6 r7 r8 r9, hp.r = [r0, r1, r2, r3, r4, r5, r6, r7, r8, r9] := by
    match hp.r, hr with
    | [r0, r1, r2, r3, r4, r5, r6, r7, r8, r9], _ => exact ⟨_, _, _, _, _, _, _, _, _, _, rfl⟩
  simp only [Hp.cells, hre] at hb2
  have hzs : ∀ b, Z' b → Z b ∨ s.next ≤ b := fun b hb => (T.zs b hb).1
  cases hgot : hp.got
  · rw [hgot] at hb2
    have : cs4.tk5 hp t = cs4 := by simp [CS.tk5, hgot]
    have key := hR s' Y Z' T.ch (fun b hb => .inl hb) hzs (by rw [hfin, this]; exact T.h)
    simp (disch := first | omega | ((simp only [Ab.next_alloc, Ab.next_upd, List.length_cons, List.length_nil, ne_eq, not_true_eq_false, not_false_eq_true]) <;> omega) | decide) only [↓stepPre, stepPost, ↓W_cond, ↓W_block, ↓reduceIte, Nat.reduceEqDiff, Nat.reduceLT, Nat.reduceLeDiff, ret0, stVar, isTup, Value.cells, Nat.le_refl, Nat.reduceAdd, Nat.reduceMul, Nat.reduceSub, env0, binV, intV, reduceCtorEq, pickV, nilCheckV, ptrV, unV, true_and, and_true, Nat.add_zero, Nat.zero_add, Rt, resultsV, allV, resV, Bool.not_true, Bool.not_false, calleeV, builtinV, eqV, fieldAddrV, ldVar, stN_own, stN_ownL, Int.fdiv_eq_ediv_of_nonneg, Int.reduceToNat, Int.reducePow, IntKind.bits, convV, ne_eq, not_false_eq_true, not_true_eq_false, Int.reduceNeg, Int.reduceAdd, Int.reduceSub, Int.reduceLT, Int.reduceLE, extractV, decide_true, decide_false, Int.reduceEq, mkFuncV, stBRefTook, beq_self_eq_true, tyB0RefTook, getL_take, glBRefTook, h5, hb2, Try.results41]
    exact key
  · rw [hgot] at hb2
    simp (disch := first | omega | ((simp only [Ab.next_alloc, Ab.next_upd, List.length_cons, List.length_nil, ne_eq, not_true_eq_false, not_false_eq_true]) <;> omega) | decide) only [↓stepPre, stepPost, ↓W_cond, ↓W_block, ↓reduceIte, Nat.reduceEqDiff, Nat.reduceLT, Nat.reduceLeDiff, ret0, stVar, isTup, Value.cells, Nat.le_refl, Nat.reduceAdd, Nat.reduceMul, Nat.reduceSub, env0, binV, intV, reduceCtorEq, pickV, nilCheckV, ptrV, unV, true_and, and_true, Nat.add_zero, Nat.zero_add, Rt, resultsV, allV, resV, Bool.not_true, Bool.not_false, calleeV, builtinV, eqV, fieldAddrV, ldVar, stN_own, stN_ownL, Int.fdiv_eq_ediv_of_nonneg, Int.reduceToNat, Int.reducePow, IntKind.bits, convV, ne_eq, not_false_eq_true, not_true_eq_false, Int.reduceNeg, Int.reduceAdd, Int.reduceSub, Int.reduceLT, Int.reduceLE, extractV, decide_true, decide_false, Int.reduceEq, mkFuncV, stBRefTook, beq_self_eq_true, tyB0RefTook, getL_take, glBRefTook, h5, hb2]
    refine W_draw (fun k => k == 12) (fun _ => false) (fun _ => false) (by kernel_rfl) (by kernel_rfl) ?_
    simp (disch := first | omega | ((simp only [Ab.next_alloc, Ab.next_upd, List.length_cons, List.length_nil, ne_eq, not_true_eq_false, not_false_eq_true]) <;> omega) | decide) only [↓stepPre, stepPost, ↓W_cond, ↓W_block, ↓reduceIte, Nat.reduceEqDiff, Nat.reduceLT, Nat.reduceLeDiff, ret0, stVar, isTup, Value.cells, Nat.le_refl, Nat.reduceAdd, Nat.reduceMul, Nat.reduceSub, env0, binV, intV, reduceCtorEq, pickV, nilCheckV, ptrV, unV, true_and, and_true, Nat.add_zero, Nat.zero_add, Rt, resultsV, allV, resV, Bool.not_true, Bool.not_false, calleeV, builtinV, eqV, fieldAddrV, ldVar, stN_own, stN_ownL, Int.fdiv_eq_ediv_of_nonneg, Int.reduceToNat, Int.reducePow, IntKind.bits, convV, ne_eq, not_false_eq_true, not_true_eq_false, Int.reduceNeg, Int.reduceAdd, Int.reduceSub, Int.reduceLT, Int.reduceLE, extractV, decide_true, decide_false, Int.reduceEq, mkFuncV, stBRefTook, beq_self_eq_true, tyB0RefTook, getL_take, glBRefTook, h0, h3, h5, hb2, k1, buildV, fillL]
    refine roffer_ok (e := hp.e) (n := hp.n) (c := [r0, r1, r2, r3, r4, r5, r6, r7, r8, r9, .int .i64 cs4.mark, .int .i64 t]) T.h.i (by rw [hin4.2.1]; exact hF) (by rw [hin4.2.1]; exact hFn) (by rw [hin4.2.2]; exact hW) hbn4 rfl (by rw [hin4.2.2, hin4.1]; exact hWr) hn fun s5 Y5 c5 y5 o5 => ?_
    have : cs4.tk5 hp t = { cs4 with W := offL cs4.room cs4.F cs4.W hp.e hp.n (.bool hp.e :: .int .u32 hp.n :: [r0, r1, r2, r3, r4, r5, r6, r7, r8, r9, .int .i64 cs4.mark, .int .i64 t]), over := offO cs4.room cs4.F cs4.W hp.e hp.n cs4.over } := by
      simp [CS.tk5, hgot, hre]
    have n5 := c5.next
    have hn' := T.ch.next
    have key := hR s5 Y5 Z' ⟨by omega, fun b hb hx => by
      rw [c5.heap b (by omega) fun hy => hx (.inr (.inl hy)), T.ch.heap b hb hx]⟩ (fun b hb => (y5 b hb).imp id fun h => by omega) hzs (by rw [hfin, this]; exact T.h.inb c5 y5 o5)
    simp (disch := first | omega | ((simp only [Ab.next_alloc, Ab.next_upd, List.length_cons, List.length_nil, ne_eq, not_true_eq_false, not_false_eq_true]) <;> omega) | decide) only [↓stepPre, stepPost, ↓W_cond, ↓W_block, ↓reduceIte, Nat.reduceEqDiff, Nat.reduceLT, Nat.reduceLeDiff, ret0, stVar, isTup, Value.cells, Nat.le_refl, Nat.reduceAdd, Nat.reduceMul, Nat.reduceSub, env0, binV, intV, reduceCtorEq, pickV, nilCheckV, ptrV, unV, true_and, and_true, Nat.add_zero, Nat.zero_add, Rt, resultsV, allV, resV, Bool.not_true, Bool.not_false, calleeV, builtinV, eqV, fieldAddrV, ldVar, stN_own, stN_ownL, Int.fdiv_eq_ediv_of_nonneg, Int.reduceToNat, Int.reducePow, IntKind.bits, convV, ne_eq, not_false_eq_true, not_true_eq_false, Int.reduceNeg, Int.reduceAdd, Int.reduceSub, Int.reduceLT, Int.reduceLE, extractV, decide_true, decide_false, Int.reduceEq, mkFuncV, stBRefTook, beq_self_eq_true, tyB0RefTook, getL_take, glBRefTook, Try.results41]
    exact ⟨Dok_next (by decide) n5, key⟩
end Go.Proofs.Ytghigcdpinogaaa
