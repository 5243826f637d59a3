import Derived.Test.YtghigcdpinogaaaTypes
import Derived.Test.YtghigcdpinogaaaRow0
import Derived.Test.YtghigcdpinogaaaAbC
import Derived.Test.YtghigcdpinogaaaPure
import Derived.Test.YtghigcdpinogaaaBoxes
import Derived.Test.YtghigcdpinogaaaCtrl
/- The package ctrl, as contracts: what it is asked, and what is taken away. -/
set_option linter.all false
set_option maxRecDepth 20000
namespace Go.Proofs.Ytghigcdpinogaaa
open Go Go.Ab
def stBCtrlMore := And.intro @List.size_toArray.{0} (And.intro @List.length_cons.{0} (And.intro @List.length_nil.{0} (And.intro @List.set_cons_zero.{0} (And.intro @List.set_cons_succ.{0} (And.intro @List.getD_cons_zero.{0} (And.intro @List.getD_cons_succ.{0} (And.intro @List.getElem?_cons_succ.{0} (And.intro @List.getElem?_cons_zero.{0} (And.intro @List.map_cons.{0,0} (And.intro @List.map_nil.{0,0} (And.intro @Option.isNone_none.{0} (And.intro @Option.isNone_some.{0} (And.intro @Option.map_some.{0,0} (And.intro @Option.map_none.{0,0} (And.intro @List.cons_append.{0} (And.intro @List.nil_append.{0} (And.intro @List.append_nil.{0} (And.intro @Array.toList_append.{0} (And.intro @List.toList_toArray.{0} (And.intro @Int.cast_ofNat_Int (And.intro @Option.isSome_some.{0} (And.intro @List.getElem?_toArray.{0} (And.intro @List.map_toArray.{0,0} (@Nat.min_eq_left))))))))))))))))))))))))
def glBCtrlMore := And.intro @List.drop_zero.{0} (And.intro @List.drop_succ_cons.{0} (And.intro @List.take_succ_cons.{0} (And.intro @List.take_zero.{0} (@List.take_nil.{0}))))
def tyB0CtrlMore := And.intro @Ty.t76 (And.intro @Try.underlying76 (And.intro @Ty.t23 (And.intro @Try.underlying23 (And.intro @Ty.t79 (And.intro @Try.underlying79 (And.intro @Ty.t74 (And.intro @Try.underlying74 (And.intro @Ty.t51 (And.intro @Try.underlying51 (And.intro @Ty.t45 (And.intro @Try.underlying45 (And.intro @Ty.t49 (And.intro @Try.underlying49 (And.intro @Ty.t38 (And.intro @Try.underlying38 (And.intro @Ty.t37 (And.intro @Try.underlying37 (And.intro @Ty.t35 (And.intro @Try.underlying35 (And.intro @Ty.t47 (And.intro @Try.underlying47 (And.intro @Ty.t34 (And.intro @Try.underlying34 (And.intro @Ty.t107 (And.intro @Try.underlying107 (And.intro @Ty.t68 (And.intro @Try.underlying68 (And.intro @Ty.t71 (And.intro @Try.underlying71 (And.intro @Ty.t87 (And.intro @Try.underlying87 (And.intro @Ty.t103 (And.intro @Try.underlying103 (And.intro @Ty.t59 (And.intro @Try.underlying59 (And.intro @Ty.t32 (And.intro @Try.underlying32 (And.intro @Ty.t29 (And.intro @Try.underlying29 (And.intro @Ty.t3 (And.intro @Try.underlying3 (And.intro @Ty.t2 (And.intro @Try.underlying2 (And.intro @Ty.t4 (And.intro @Try.underlying4 (And.intro @Ty.t27 (And.intro @Try.underlying27 (And.intro @Ty.t5 (And.intro @Try.underlying5 (And.intro @Ty.t30 (And.intro @Try.underlying30 (And.intro @Ty.t24 @Try.underlying24))))))))))))))))))))))))))))))))))))))))))))))))))))
variable {base : Nat} [Bok base] {s : St} {R : Value → St → Prop}
variable {c p q : Nat} {cs : CS} {X Y Z : Nat → Prop}
def iL (ts : List Int) : List (List Value) := ts.map fun t => [.int .i64 t]
theorem iL_len (ts : List Int) : (iL ts).length = ts.length := by simp [iL]
theorem app_int {x : Value} {xs ys : List Int} {v : Value} (hv : Sl base s 1 v (iL xs)) (ht : Tight base v) (hbn : base ≤ s.next) (hx : Sl base s 1 x (iL ys)) (hl : xs.length + ys.length ≤ 1000000) :
    ∃ v' s', appendB Try.prog base s [47, 47] [v, x] = some (v', s') ∧ Sl base s' 1 v' (iL (xs ++ ys)) ∧ Tight base v' ∧ Ch s s' (inB v) ∧ (∀ b, inB v' b → s.next ≤ b ∨ inB v b) := by
  obtain ⟨v', s', e1, e2, e3, e4, e5, e6⟩ := appB_ok (P := Try.prog) hv ht hbn Ty.elem47 Ty.int47 Ty.und47 Ty.siz3 (by decide) Ty.zer3 rfl Ty.byt3 hx (by rw [iL_len, iL_len]; omega)
  refine ⟨v', s', e1, by rw [iL, List.map_append]; exact e2, e3, e4, fun b hb => ?_⟩
  by_cases hy : iL ys = []
  · obtain ⟨rfl, rfl⟩ := e6 hy; exact .inr hb
  · exact .inl (e5 hy b hb)
def tagsOf (L : Bx) : List Int := L.filterMap fun o => o.map Po.t
theorem tags_snoc {L : Bx} {i : Nat} (h : i < L.length) : tagsOf (L.take (i + 1)) = tagsOf (L.take i) ++ (match L.getD i none with | some p => [p.t] | none => []) := by
  have hgd : L.getD i none = L[i] := by simp [h]
  rw [List.take_succ_eq_append_getElem h, tagsOf, List.filterMap_append, hgd]
  cases L[i] <;> simp [tagsOf]
theorem tags_len (L : Bx) : (tagsOf L).length ≤ L.length := List.length_filterMap_le _ _
theorem tags_ok (h : CtrlO base s c p q cs X Y Z) (hR : ∀ s' v, Mild s s' → Sl base s' 1 v (iL (tagsOf cs.L)) → R v s') : WC Try.prog base 11 [.pointer (some ⟨c, 0, none⟩)] s R := by
  refine WC_open Try.func11 rfl ?_
  have hc := h.z c h.zc
  have hbn := h.hbn
  obtain ⟨vn, vf, k1, -⟩ := h.st
  have hroom := h.o.room
  simp (disch := first | omega | ((simp only [Ab.next_alloc, Ab.next_upd, List.length_cons, List.length_nil, ne_eq, not_true_eq_false, not_false_eq_true]) <;> omega) | decide) only [↓stepPre, stepPost, ↓W_cond, ↓W_block, ↓reduceIte, Nat.reduceEqDiff, Nat.reduceLT, Nat.reduceLeDiff, ret0, stVar, isTup, Value.cells, Nat.le_refl, Nat.reduceAdd, Nat.reduceMul, Nat.reduceSub, env0, binV, intV, reduceCtorEq, pickV, nilCheckV, ptrV, unV, true_and, and_true, Nat.add_zero, Nat.zero_add, Rt, resultsV, allV, resV, Bool.not_true, Bool.not_false, calleeV, builtinV, eqV, fieldAddrV, ldVar, stN_own, stN_ownL, Int.fdiv_eq_ediv_of_nonneg, Int.reduceToNat, Int.reducePow, IntKind.bits, convV, ne_eq, not_false_eq_true, not_true_eq_false, Int.reduceNeg, Int.reduceAdd, Int.reduceSub, Int.reduceLT, Int.reduceLE, extractV, decide_true, decide_false, Int.reduceEq, mkFuncV, stBCtrlMore, beq_self_eq_true, tyB0CtrlMore, getL_take, glBCtrlMore, k1, Option.isNone_some]
  refine room_p h.o ?_
  simp (disch := first | omega | ((simp only [Ab.next_alloc, Ab.next_upd, List.length_cons, List.length_nil, ne_eq, not_true_eq_false, not_false_eq_true]) <;> omega) | decide) only [↓stepPre, stepPost, ↓W_cond, ↓W_block, ↓reduceIte, Nat.reduceEqDiff, Nat.reduceLT, Nat.reduceLeDiff, ret0, stVar, isTup, Value.cells, Nat.le_refl, Nat.reduceAdd, Nat.reduceMul, Nat.reduceSub, env0, binV, intV, reduceCtorEq, pickV, nilCheckV, ptrV, unV, true_and, and_true, Nat.add_zero, Nat.zero_add, Rt, resultsV, allV, resV, Bool.not_true, Bool.not_false, calleeV, builtinV, eqV, fieldAddrV, ldVar, stN_own, stN_ownL, Int.fdiv_eq_ediv_of_nonneg, Int.reduceToNat, Int.reducePow, IntKind.bits, convV, ne_eq, not_false_eq_true, not_true_eq_false, Int.reduceNeg, Int.reduceAdd, Int.reduceSub, Int.reduceLT, Int.reduceLE, extractV, decide_true, decide_false, Int.reduceEq, mkFuncV, stBCtrlMore, beq_self_eq_true, tyB0CtrlMore, getL_take, glBCtrlMore]
  refine W_loop_ind cs.L.length (fun i e s1 => Mild s s1 ∧ e 0 = .pointer (some ⟨c, 0, none⟩) ∧ e 13 = .int .i64 (cs.L.length : Nat) ∧ e 14 = .int .i64 i ∧ ∃ v, e 3 = v ∧ Sl base s1 1 v (iL (tagsOf (cs.L.take i))) ∧ Tight base v ∧ ∀ b, inB v b → s.next ≤ b) ?_ ⟨.refl _, rfl, rfl, rfl, _, rfl, .nil, trivial, fun b hb => hb.elim⟩
  rintro i e s1 hi ⟨m1, h0, h13, h14, v, h3, hv, ht, hnw⟩
  have n1 := m1.next
  have h1 := h.mild m1
  by_cases hil : i < cs.L.length
  rotate_left
  · have g1 : ¬ (i : Int) < (cs.L.length : Int) := by omega
    rw [List.take_of_length_le (by omega)] at hv
    simp (disch := first | omega | ((simp only [Ab.next_alloc, Ab.next_upd, List.length_cons, List.length_nil, ne_eq, not_true_eq_false, not_false_eq_true]) <;> omega) | decide) only [↓stepPre, stepPost, ↓W_cond, ↓W_block, ↓reduceIte, Nat.reduceEqDiff, Nat.reduceLT, Nat.reduceLeDiff, ret0, stVar, isTup, Value.cells, Nat.le_refl, Nat.reduceAdd, Nat.reduceMul, Nat.reduceSub, env0, binV, intV, reduceCtorEq, pickV, nilCheckV, ptrV, unV, true_and, and_true, Nat.add_zero, Nat.zero_add, Rt, resultsV, allV, resV, Bool.not_true, Bool.not_false, calleeV, builtinV, eqV, fieldAddrV, ldVar, stN_own, stN_ownL, Int.fdiv_eq_ediv_of_nonneg, Int.reduceToNat, Int.reducePow, IntKind.bits, convV, ne_eq, not_false_eq_true, not_true_eq_false, Int.reduceNeg, Int.reduceAdd, Int.reduceSub, Int.reduceLT, Int.reduceLE, extractV, decide_true, decide_false, Int.reduceEq, mkFuncV, stBCtrlMore, beq_self_eq_true, tyB0CtrlMore, getL_take, glBCtrlMore, h3, h13, h14, g1, Try.results11]
    exact hR _ _ m1 hv
  have g1 : (i : Int) < (cs.L.length : Int) := by omega
  obtain ⟨vn', vf', k1', -⟩ := h1.st
  have hc1 := h1.z c h1.zc
  simp (disch := first | omega | ((simp only [Ab.next_alloc, Ab.next_upd, List.length_cons, List.length_nil, ne_eq, not_true_eq_false, not_false_eq_true]) <;> omega) | decide) only [↓stepPre, stepPost, ↓W_cond, ↓W_block, ↓reduceIte, Nat.reduceEqDiff, Nat.reduceLT, Nat.reduceLeDiff, ret0, stVar, isTup, Value.cells, Nat.le_refl, Nat.reduceAdd, Nat.reduceMul, Nat.reduceSub, env0, binV, intV, reduceCtorEq, pickV, nilCheckV, ptrV, unV, true_and, and_true, Nat.add_zero, Nat.zero_add, Rt, resultsV, allV, resV, Bool.not_true, Bool.not_false, calleeV, builtinV, eqV, fieldAddrV, ldVar, stN_own, stN_ownL, Int.fdiv_eq_ediv_of_nonneg, Int.reduceToNat, Int.reducePow, IntKind.bits, convV, ne_eq, not_false_eq_true, not_true_eq_false, Int.reduceNeg, Int.reduceAdd, Int.reduceSub, Int.reduceLT, Int.reduceLE, extractV, decide_true, decide_false, Int.reduceEq, mkFuncV, stBCtrlMore, beq_self_eq_true, tyB0CtrlMore, getL_take, glBCtrlMore, h0, h13, h14, g1, k1']
  refine get_ok h1.o h1.hbn fun s2 m2 => ?_
  have n2 := m2.next
  have hs := tags_snoc hil
  rw [atO_nat]
  cases ho : cs.L.getD i none with
  | none =>
    rw [ho] at hs
    simp (disch := first | omega | ((simp only [Ab.next_alloc, Ab.next_upd, List.length_cons, List.length_nil, ne_eq, not_true_eq_false, not_false_eq_true]) <;> omega) | decide) only [↓stepPre, stepPost, ↓W_cond, ↓W_block, ↓reduceIte, Nat.reduceEqDiff, Nat.reduceLT, Nat.reduceLeDiff, ret0, stVar, isTup, Value.cells, Nat.le_refl, Nat.reduceAdd, Nat.reduceMul, Nat.reduceSub, env0, binV, intV, reduceCtorEq, pickV, nilCheckV, ptrV, unV, true_and, and_true, Nat.add_zero, Nat.zero_add, Rt, resultsV, allV, resV, Bool.not_true, Bool.not_false, calleeV, builtinV, eqV, fieldAddrV, ldVar, stN_own, stN_ownL, Int.fdiv_eq_ediv_of_nonneg, Int.reduceToNat, Int.reducePow, IntKind.bits, convV, ne_eq, not_false_eq_true, not_true_eq_false, Int.reduceNeg, Int.reduceAdd, Int.reduceSub, Int.reduceLT, Int.reduceLE, extractV, decide_true, decide_false, Int.reduceEq, mkFuncV, stBCtrlMore, beq_self_eq_true, tyB0CtrlMore, getL_take, glBCtrlMore, h0, h3, h13, h14, poV, Option.getD_none, Option.isSome_none]
    refine ⟨hil, (m1.trans m2).alloc', rfl, v, rfl, ?_, ht, hnw⟩
    rw [hs, List.append_nil]; exact (hv.mild m2).mild (.alloc _ _)
  | some po =>
    rw [ho] at hs
    have hm2 := m2.trans (Mild.alloc s2 (.row po.c))
    have hm3 := hm2.trans (Mild.alloc (s2.alloc (.row po.c)) (.row [.int .i64 po.t]))
    have hx : Sl base ((s2.alloc (.row po.c)).alloc (.row [.int .i64 po.t])) 1 (.slice (some ⟨(s2.alloc (.row po.c)).next, 0, none⟩) 1 1) (iL [po.t]) := .newRow (Ab.heap_alloc_new _ _) rfl rfl (by simp [iL]) (by simp only [Ab.next_alloc]; omega) (by simp only [Ab.next_alloc]; omega)
    have hle := tags_len (cs.L.take i)
    obtain ⟨v', s', e1, e2, e3, e4, e5⟩ := app_int (hv.mild hm3) ht (by simp only [Ab.next_alloc]; omega) hx (by simp at hle ⊢; omega)
    obtain ⟨a4, l4, c4, rfl⟩ := e2.shape
    simp only [Ab.next_alloc, Po.c] at e1
    have n4 := e4.next
    simp only [Ab.next_alloc] at n4
    simp (disch := first | omega | ((simp only [Ab.next_alloc, Ab.next_upd, List.length_cons, List.length_nil, ne_eq, not_true_eq_false, not_false_eq_true]) <;> omega) | decide) only [↓stepPre, stepPost, ↓W_cond, ↓W_block, ↓reduceIte, Nat.reduceEqDiff, Nat.reduceLT, Nat.reduceLeDiff, ret0, stVar, isTup, Value.cells, Nat.le_refl, Nat.reduceAdd, Nat.reduceMul, Nat.reduceSub, env0, binV, intV, reduceCtorEq, pickV, nilCheckV, ptrV, unV, true_and, and_true, Nat.add_zero, Nat.zero_add, Rt, resultsV, allV, resV, Bool.not_true, Bool.not_false, calleeV, builtinV, eqV, fieldAddrV, ldVar, stN_own, stN_ownL, Int.fdiv_eq_ediv_of_nonneg, Int.reduceToNat, Int.reducePow, IntKind.bits, convV, ne_eq, not_false_eq_true, not_true_eq_false, Int.reduceNeg, Int.reduceAdd, Int.reduceSub, Int.reduceLT, Int.reduceLE, extractV, decide_true, decide_false, Int.reduceEq, mkFuncV, stBCtrlMore, beq_self_eq_true, tyB0CtrlMore, getL_take, glBCtrlMore, h0, h3, h13, h14, poV, Option.getD_some, build1i Ty.elem47 Ty.siz3 Ty.zer3, e1]
    refine ⟨hil, ?_, rfl, _, rfl, by rw [hs]; exact e2, e3, fun b hb => ?_⟩
    · refine ⟨by omega, fun b hb => ?_⟩
      rw [e4.heap b (by simp only [Ab.next_alloc]; omega) fun hi => by have := hnw b hi; omega]
      exact (m1.trans hm3).heap b hb
    · rcases e5 b hb with h | h
      · simp only [Ab.next_alloc] at h; omega
      · exact hnw b h
theorem busy_ok (h : CtrlO base s c p q cs X Y Z) (hR : ∀ s', Mild s s' → R (.tuple #[.int .i64 (match cs.now with | some (k, _) => ((atO cs.L k).getD Po.zero).t | none => 0), .bool cs.now.isSome]) s') : WC Try.prog base 14 [.pointer (some ⟨c, 0, none⟩)] s R := by
  refine WC_open Try.func14 rfl ?_
  have hc := h.z c h.zc
  have hbn := h.hbn
  obtain ⟨vn, vf, k1, k2, -⟩ := h.st
  match hno : cs.now with
  | none =>
    rw [hno] at k2 hR
    have hv : vn = .pointer none := k2
    subst hv
    have key := hR s (.refl _)
    simp (disch := first | omega | ((simp only [Ab.next_alloc, Ab.next_upd, List.length_cons, List.length_nil, ne_eq, not_true_eq_false, not_false_eq_true]) <;> omega) | decide) only [↓stepPre, stepPost, ↓W_cond, ↓W_block, ↓reduceIte, Nat.reduceEqDiff, Nat.reduceLT, Nat.reduceLeDiff, ret0, stVar, isTup, Value.cells, Nat.le_refl, Nat.reduceAdd, Nat.reduceMul, Nat.reduceSub, env0, binV, intV, reduceCtorEq, pickV, nilCheckV, ptrV, unV, true_and, and_true, Nat.add_zero, Nat.zero_add, Rt, resultsV, allV, resV, Bool.not_true, Bool.not_false, calleeV, builtinV, eqV, fieldAddrV, ldVar, stN_own, stN_ownL, Int.fdiv_eq_ediv_of_nonneg, Int.reduceToNat, Int.reducePow, IntKind.bits, convV, ne_eq, not_false_eq_true, not_true_eq_false, Int.reduceNeg, Int.reduceAdd, Int.reduceSub, Int.reduceLT, Int.reduceLE, extractV, decide_true, decide_false, Int.reduceEq, mkFuncV, stBCtrlMore, beq_self_eq_true, tyB0CtrlMore, getL_take, glBCtrlMore, k1, Option.isNone_some, Option.isNone_none, Try.results14]
    exact key
  | some (k, a) =>
    rw [hno] at k2 hR
    obtain ⟨w, rfl, w1, w2, w3, w4⟩ := k2
    simp (disch := first | omega | ((simp only [Ab.next_alloc, Ab.next_upd, List.length_cons, List.length_nil, ne_eq, not_true_eq_false, not_false_eq_true]) <;> omega) | decide) only [↓stepPre, stepPost, ↓W_cond, ↓W_block, ↓reduceIte, Nat.reduceEqDiff, Nat.reduceLT, Nat.reduceLeDiff, ret0, stVar, isTup, Value.cells, Nat.le_refl, Nat.reduceAdd, Nat.reduceMul, Nat.reduceSub, env0, binV, intV, reduceCtorEq, pickV, nilCheckV, ptrV, unV, true_and, and_true, Nat.add_zero, Nat.zero_add, Rt, resultsV, allV, resV, Bool.not_true, Bool.not_false, calleeV, builtinV, eqV, fieldAddrV, ldVar, stN_own, stN_ownL, Int.fdiv_eq_ediv_of_nonneg, Int.reduceToNat, Int.reducePow, IntKind.bits, convV, ne_eq, not_false_eq_true, not_true_eq_false, Int.reduceNeg, Int.reduceAdd, Int.reduceSub, Int.reduceLT, Int.reduceLE, extractV, decide_true, decide_false, Int.reduceEq, mkFuncV, stBCtrlMore, beq_self_eq_true, tyB0CtrlMore, getL_take, glBCtrlMore, k1, Option.isNone_some, Option.isNone_none]
    refine cpost_ok h fun s1 m1 => ?_
    have n1 := m1.next
    have hat : cs.at_ = k := by simp only [CS.at_, hno]
    have key := hR _ (m1.alloc' (o := .row ((atO cs.L k).getD Po.zero).c))
    rw [hat]
    simp (disch := first | omega | ((simp only [Ab.next_alloc, Ab.next_upd, List.length_cons, List.length_nil, ne_eq, not_true_eq_false, not_false_eq_true]) <;> omega) | decide) only [↓stepPre, stepPost, ↓W_cond, ↓W_block, ↓reduceIte, Nat.reduceEqDiff, Nat.reduceLT, Nat.reduceLeDiff, ret0, stVar, isTup, Value.cells, Nat.le_refl, Nat.reduceAdd, Nat.reduceMul, Nat.reduceSub, env0, binV, intV, reduceCtorEq, pickV, nilCheckV, ptrV, unV, true_and, and_true, Nat.add_zero, Nat.zero_add, Rt, resultsV, allV, resV, Bool.not_true, Bool.not_false, calleeV, builtinV, eqV, fieldAddrV, ldVar, stN_own, stN_ownL, Int.fdiv_eq_ediv_of_nonneg, Int.reduceToNat, Int.reducePow, IntKind.bits, convV, ne_eq, not_false_eq_true, not_true_eq_false, Int.reduceNeg, Int.reduceAdd, Int.reduceSub, Int.reduceLT, Int.reduceLE, extractV, decide_true, decide_false, Int.reduceEq, mkFuncV, stBCtrlMore, beq_self_eq_true, tyB0CtrlMore, getL_take, glBCtrlMore, poV, Try.results14]
    exact key
def CS.abort (cs : CS) (t : Int) : CS := if findT cs.L t < 0 then cs else match cs.now with
  | some (k, a) => if k = findT cs.L t then { cs with now := some (k, true) } else cs.out (findT cs.L t) 2
  | none => cs.out (findT cs.L t) 2
theorem abort_ok {t : Int} (h : CtrlO base s c p q cs X Y Z) (hfl : cs.fates.length ≤ 100000) (hR : ∀ s' Z', Ch s s' (fun b => X b ∨ Z b) → (∀ b, Z' b → Z b ∨ s.next ≤ b) → CtrlO base s' c p q (cs.abort t) X Y Z' → R (.int .i64 (if findT cs.L t < 0 then 7 else 0)) s') :
    WC Try.prog base 8 [.pointer (some ⟨c, 0, none⟩), .int .i64 t] s R := by
  refine WC_open Try.func8 rfl ?_
  have hc := h.z c h.zc
  obtain ⟨vn, vf, k1, -⟩ := h.st
  simp (disch := first | omega | ((simp only [Ab.next_alloc, Ab.next_upd, List.length_cons, List.length_nil, ne_eq, not_true_eq_false, not_false_eq_true]) <;> omega) | decide) only [↓stepPre, stepPost, ↓W_cond, ↓W_block, ↓reduceIte, Nat.reduceEqDiff, Nat.reduceLT, Nat.reduceLeDiff, ret0, stVar, isTup, Value.cells, Nat.le_refl, Nat.reduceAdd, Nat.reduceMul, Nat.reduceSub, env0, binV, intV, reduceCtorEq, pickV, nilCheckV, ptrV, unV, true_and, and_true, Nat.add_zero, Nat.zero_add, Rt, resultsV, allV, resV, Bool.not_true, Bool.not_false, calleeV, builtinV, eqV, fieldAddrV, ldVar, stN_own, stN_ownL, Int.fdiv_eq_ediv_of_nonneg, Int.reduceToNat, Int.reducePow, IntKind.bits, convV, ne_eq, not_false_eq_true, not_true_eq_false, Int.reduceNeg, Int.reduceAdd, Int.reduceSub, Int.reduceLT, Int.reduceLE, extractV, decide_true, decide_false, Int.reduceEq, mkFuncV, stBCtrlMore, beq_self_eq_true, tyB0CtrlMore, getL_take, glBCtrlMore, k1, Option.isNone_some]
  refine find_ok h.o h.hbn fun s1 m1 => ?_
  have n1 := m1.next
  have h1 := h.mild m1
  clear k1
  obtain ⟨vn, vf, k1, k2, k3, k4, k5⟩ := h1.st
  have hc1 := h1.z c h1.zc
  by_cases hf : findT cs.L t < 0
  · have key := hR s1 Z (.of_mild m1 _) (fun b hb => .inl hb) (by simp only [CS.abort, hf, if_true]; exact h1)
    simp only [hf, if_true] at key
    simp (disch := first | omega | ((simp only [Ab.next_alloc, Ab.next_upd, List.length_cons, List.length_nil, ne_eq, not_true_eq_false, not_false_eq_true]) <;> omega) | decide) only [↓stepPre, stepPost, ↓W_cond, ↓W_block, ↓reduceIte, Nat.reduceEqDiff, Nat.reduceLT, Nat.reduceLeDiff, ret0, stVar, isTup, Value.cells, Nat.le_refl, Nat.reduceAdd, Nat.reduceMul, Nat.reduceSub, env0, binV, intV, reduceCtorEq, pickV, nilCheckV, ptrV, unV, true_and, and_true, Nat.add_zero, Nat.zero_add, Rt, resultsV, allV, resV, Bool.not_true, Bool.not_false, calleeV, builtinV, eqV, fieldAddrV, ldVar, stN_own, stN_ownL, Int.fdiv_eq_ediv_of_nonneg, Int.reduceToNat, Int.reducePow, IntKind.bits, convV, ne_eq, not_false_eq_true, not_true_eq_false, Int.reduceNeg, Int.reduceAdd, Int.reduceSub, Int.reduceLT, Int.reduceLE, extractV, decide_true, decide_false, Int.reduceEq, mkFuncV, stBCtrlMore, beq_self_eq_true, tyB0CtrlMore, getL_take, glBCtrlMore, hf, Try.results8]
    exact key
  simp only [hf, if_false] at hR
  have go : cs.abort t = cs.out (findT cs.L t) 2 → ∀ (K : Value → St → Prop), (∀ s2, R (.int .i64 0) s2 → K (.tuple #[]) s2) → WC Try.prog base 24 [.pointer (some ⟨c, 0, none⟩), .int .i64 (findT cs.L t), .int .i64 2] s1 K := fun he K hK =>
    out_ok h1 hfl fun s2 Z2 c2 z2 h2 => hK s2 (hR s2 Z2 ⟨by have := c2.next; omega, fun b hb hx => by rw [c2.heap b (by omega) hx, m1.heap b hb]⟩ (fun b hb => (z2 b hb).imp id fun h => by omega) (by rw [he]; exact h2))
  match hno : cs.now with
  | none =>
    rw [hno] at k2
    have hv : vn = .pointer none := k2
    subst hv
    simp (disch := first | omega | ((simp only [Ab.next_alloc, Ab.next_upd, List.length_cons, List.length_nil, ne_eq, not_true_eq_false, not_false_eq_true]) <;> omega) | decide) only [↓stepPre, stepPost, ↓W_cond, ↓W_block, ↓reduceIte, Nat.reduceEqDiff, Nat.reduceLT, Nat.reduceLeDiff, ret0, stVar, isTup, Value.cells, Nat.le_refl, Nat.reduceAdd, Nat.reduceMul, Nat.reduceSub, env0, binV, intV, reduceCtorEq, pickV, nilCheckV, ptrV, unV, true_and, and_true, Nat.add_zero, Nat.zero_add, Rt, resultsV, allV, resV, Bool.not_true, Bool.not_false, calleeV, builtinV, eqV, fieldAddrV, ldVar, stN_own, stN_ownL, Int.fdiv_eq_ediv_of_nonneg, Int.reduceToNat, Int.reducePow, IntKind.bits, convV, ne_eq, not_false_eq_true, not_true_eq_false, Int.reduceNeg, Int.reduceAdd, Int.reduceSub, Int.reduceLT, Int.reduceLE, extractV, decide_true, decide_false, Int.reduceEq, mkFuncV, stBCtrlMore, beq_self_eq_true, tyB0CtrlMore, getL_take, glBCtrlMore, hf, k1, Option.isNone_some, Option.isNone_none]
    refine go (by simp only [CS.abort, hf, if_false, hno]) _ fun s2 h2 => ?_
    simp (disch := first | omega | ((simp only [Ab.next_alloc, Ab.next_upd, List.length_cons, List.length_nil, ne_eq, not_true_eq_false, not_false_eq_true]) <;> omega) | decide) only [↓stepPre, stepPost, ↓W_cond, ↓W_block, ↓reduceIte, Nat.reduceEqDiff, Nat.reduceLT, Nat.reduceLeDiff, ret0, stVar, isTup, Value.cells, Nat.le_refl, Nat.reduceAdd, Nat.reduceMul, Nat.reduceSub, env0, binV, intV, reduceCtorEq, pickV, nilCheckV, ptrV, unV, true_and, and_true, Nat.add_zero, Nat.zero_add, Rt, resultsV, allV, resV, Bool.not_true, Bool.not_false, calleeV, builtinV, eqV, fieldAddrV, ldVar, stN_own, stN_ownL, Int.fdiv_eq_ediv_of_nonneg, Int.reduceToNat, Int.reducePow, IntKind.bits, convV, ne_eq, not_false_eq_true, not_true_eq_false, Int.reduceNeg, Int.reduceAdd, Int.reduceSub, Int.reduceLT, Int.reduceLE, extractV, decide_true, decide_false, Int.reduceEq, mkFuncV, stBCtrlMore, beq_self_eq_true, tyB0CtrlMore, Try.results8]
    exact h2
  | some (k, a) =>
    rw [hno] at k2
    obtain ⟨w, rfl, w1, w2, w3, w4⟩ := k2
    have hw := h1.z w w1
    by_cases hk : k = findT cs.L t
    · have key := hR (s1.upd w (.row [.int .i64 k, .bool true])) Z (Ch.upd' (.of_mild m1 _) fun _ => .inr w1) (fun b hb => .inl hb) (by
        have e : cs.abort t = { cs with now := some (k, true) } := by simp only [CS.abort, hf, if_false, hno, hk, if_true]
        rw [e]
        exact h1.self (now' := some (k, true)) (l' := cs.last) (m' := cs.mark) (t' := cs.time) (f' := cs.fates) (Ch.upd' (.refl _ _) fun _ => w1) (fun b hb => ⟨.inl hb, by simp only [Ab.next_upd]; exact (h1.z b hb).2⟩) h1.zc
          ⟨_, vf, by rw [Ab.heap_upd_ne _ _ (Ne.symm w2)]; exact k1, ⟨w, rfl, w1, w2, w3, Ab.heap_upd_same _ _ _⟩, k3.ch (X := fun b => b = w) (Ch.upd' (.refl _ _) fun _ => rfl) fun b hb he => w3 (by rw [← he]; exact hb), k4, k5⟩)
      simp (disch := first | omega | ((simp only [Ab.next_alloc, Ab.next_upd, List.length_cons, List.length_nil, ne_eq, not_true_eq_false, not_false_eq_true]) <;> omega) | decide) only [↓stepPre, stepPost, ↓W_cond, ↓W_block, ↓reduceIte, Nat.reduceEqDiff, Nat.reduceLT, Nat.reduceLeDiff, ret0, stVar, isTup, Value.cells, Nat.le_refl, Nat.reduceAdd, Nat.reduceMul, Nat.reduceSub, env0, binV, intV, reduceCtorEq, pickV, nilCheckV, ptrV, unV, true_and, and_true, Nat.add_zero, Nat.zero_add, Rt, resultsV, allV, resV, Bool.not_true, Bool.not_false, calleeV, builtinV, eqV, fieldAddrV, ldVar, stN_own, stN_ownL, Int.fdiv_eq_ediv_of_nonneg, Int.reduceToNat, Int.reducePow, IntKind.bits, convV, ne_eq, not_false_eq_true, not_true_eq_false, Int.reduceNeg, Int.reduceAdd, Int.reduceSub, Int.reduceLT, Int.reduceLE, extractV, decide_true, decide_false, Int.reduceEq, mkFuncV, stBCtrlMore, beq_self_eq_true, tyB0CtrlMore, getL_take, glBCtrlMore, hf, k1, w4, hk, eq_self, Option.isNone_some, Option.isNone_none, Try.results8]
      rw [hk] at key
      exact key
    · simp (disch := first | omega | ((simp only [Ab.next_alloc, Ab.next_upd, List.length_cons, List.length_nil, ne_eq, not_true_eq_false, not_false_eq_true]) <;> omega) | decide) only [↓stepPre, stepPost, ↓W_cond, ↓W_block, ↓reduceIte, Nat.reduceEqDiff, Nat.reduceLT, Nat.reduceLeDiff, ret0, stVar, isTup, Value.cells, Nat.le_refl, Nat.reduceAdd, Nat.reduceMul, Nat.reduceSub, env0, binV, intV, reduceCtorEq, pickV, nilCheckV, ptrV, unV, true_and, and_true, Nat.add_zero, Nat.zero_add, Rt, resultsV, allV, resV, Bool.not_true, Bool.not_false, calleeV, builtinV, eqV, fieldAddrV, ldVar, stN_own, stN_ownL, Int.fdiv_eq_ediv_of_nonneg, Int.reduceToNat, Int.reducePow, IntKind.bits, convV, ne_eq, not_false_eq_true, not_true_eq_false, Int.reduceNeg, Int.reduceAdd, Int.reduceSub, Int.reduceLT, Int.reduceLE, extractV, decide_true, decide_false, Int.reduceEq, mkFuncV, stBCtrlMore, beq_self_eq_true, tyB0CtrlMore, getL_take, glBCtrlMore, hf, k1, w4, hk, Option.isNone_some, Option.isNone_none]
      refine go (by simp only [CS.abort, hf, if_false, hno, hk]) _ fun s2 h2 => ?_
      simp (disch := first | omega | ((simp only [Ab.next_alloc, Ab.next_upd, List.length_cons, List.length_nil, ne_eq, not_true_eq_false, not_false_eq_true]) <;> omega) | decide) only [↓stepPre, stepPost, ↓W_cond, ↓W_block, ↓reduceIte, Nat.reduceEqDiff, Nat.reduceLT, Nat.reduceLeDiff, ret0, stVar, isTup, Value.cells, Nat.le_refl, Nat.reduceAdd, Nat.reduceMul, Nat.reduceSub, env0, binV, intV, reduceCtorEq, pickV, nilCheckV, ptrV, unV, true_and, and_true, Nat.add_zero, Nat.zero_add, Rt, resultsV, allV, resV, Bool.not_true, Bool.not_false, calleeV, builtinV, eqV, fieldAddrV, ldVar, stN_own, stN_ownL, Int.fdiv_eq_ediv_of_nonneg, Int.reduceToNat, Int.reducePow, IntKind.bits, convV, ne_eq, not_false_eq_true, not_true_eq_false, Int.reduceNeg, Int.reduceAdd, Int.reduceSub, Int.reduceLT, Int.reduceLE, extractV, decide_true, decide_false, Int.reduceEq, mkFuncV, stBCtrlMore, beq_self_eq_true, tyB0CtrlMore, Try.results8]
      exact h2
end Go.Proofs.Ytghigcdpinogaaa
