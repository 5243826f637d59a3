import Derived.Test.YtghigcdpinogaaaTypes
import Derived.Test.YtghigcdpinogaaaRow0
import Derived.Test.YtghigcdpinogaaaAbC
import Derived.Test.YtghigcdpinogaaaBits
import Derived.Test.YtghigcdpinogaaaPure
/- The package inbox, as contracts. -/
set_option linter.all false
set_option maxRecDepth 20000
namespace Go.Proofs.Ytghigcdpinogaaa
open Go Go.Ab
def stBInbox := And.intro @List.size_toArray.{0} (And.intro @List.length_cons.{0} (And.intro @List.length_nil.{0} (And.intro @List.set_cons_zero.{0} (And.intro @List.set_cons_succ.{0} (And.intro @List.getD_cons_zero.{0} (And.intro @List.getD_cons_succ.{0} (And.intro @List.getElem?_cons_succ.{0} (And.intro @List.getElem?_cons_zero.{0} (And.intro @List.map_cons.{0,0} (And.intro @List.map_nil.{0,0} (And.intro @Option.isNone_none.{0} (And.intro @Option.isNone_some.{0} (And.intro @Option.map_some.{0,0} (And.intro @Option.map_none.{0,0} (And.intro @List.cons_append.{0} (And.intro @List.nil_append.{0} (And.intro @List.append_nil.{0} (And.intro @Array.toList_append.{0} (And.intro @List.toList_toArray.{0} (And.intro @Int.cast_ofNat_Int (And.intro @Option.isSome_some.{0} (And.intro @List.getElem?_toArray.{0} (And.intro @List.map_toArray.{0,0} (@Nat.min_eq_left))))))))))))))))))))))))
def tyB1Inbox := And.intro @Ty.t71 (And.intro @Try.underlying71 (And.intro @Ty.t115 (And.intro @Try.underlying115 (And.intro @Ty.t59 (And.intro @Try.underlying59 (And.intro @Ty.t3 @Try.underlying3))))))
def tyB11Inbox := And.intro @Ty.t3 (And.intro @Try.underlying3 (And.intro @Ty.t59 @Try.underlying59))
variable {base : Nat} [Bok base] {s : St} {R : Value → St → Prop}
theorem ilen_ok {p : Nat} {c0 c1 c2 c3 : Value} {L : List (List Value)} (h : s.heap p = .row [c0, c1, c2, c3]) (hb : base ≤ p) (hs : Sl base s 14 c2 L) (hR : R (.int .i64 L.length) s) : WC Try.prog base 60 [.pointer (some ⟨p, 0, none⟩)] s R := by
  refine WC_open Try.func60 rfl ?_
  simp (disch := first | omega | ((simp only [Ab.next_alloc, Ab.next_upd, List.length_cons, List.length_nil, ne_eq, not_true_eq_false, not_false_eq_true]) <;> omega) | decide) only [↓stepPre, stepPost, ↓W_cond, ↓W_block, ↓reduceIte, Nat.reduceEqDiff, Nat.reduceLT, Nat.reduceLeDiff, ret0, stVar, isTup, Value.cells, Nat.le_refl, Nat.reduceAdd, Nat.reduceMul, Nat.reduceSub, env0, binV, intV, reduceCtorEq, pickV, nilCheckV, ptrV, unV, true_and, and_true, Nat.add_zero, Nat.zero_add, Rt, resultsV, allV, resV, Bool.not_true, Bool.not_false, calleeV, builtinV, eqV, fieldAddrV, ldVar, stN_own, stN_ownL, Int.fdiv_eq_ediv_of_nonneg, Int.reduceToNat, Int.reducePow, IntKind.bits, convV, ne_eq, not_false_eq_true, not_true_eq_false, Int.reduceNeg, Int.reduceAdd, Int.reduceSub, Int.reduceLT, Int.reduceLE, extractV, decide_true, decide_false, Int.reduceEq, mkFuncV, stBInbox, beq_self_eq_true, Try.results60, eqV, Try.underlying71, fieldAddrV, Ty.t115, Try.underlying115, Ty.t103, Try.underlying103, loadV_ptr, ldVar, ld1R h hb, hs.len Ty.elem103 Ty.arr103]
  exact hR
theorem iover_ok {p : Nat} {c0 c1 c2 : Value} {o : Bool} (h : s.heap p = .row [c0, c1, c2, .bool o]) (hb : base ≤ p) (hR : R (.bool o) s) : WC Try.prog base 61 [.pointer (some ⟨p, 0, none⟩)] s R := by
  refine WC_open Try.func61 rfl ?_
  simp (disch := first | omega | ((simp only [Ab.next_alloc, Ab.next_upd, List.length_cons, List.length_nil, ne_eq, not_true_eq_false, not_false_eq_true]) <;> omega) | decide) only [↓stepPre, stepPost, ↓W_cond, ↓W_block, ↓reduceIte, Nat.reduceEqDiff, Nat.reduceLT, Nat.reduceLeDiff, ret0, stVar, isTup, Value.cells, Nat.le_refl, Nat.reduceAdd, Nat.reduceMul, Nat.reduceSub, env0, binV, intV, reduceCtorEq, pickV, nilCheckV, ptrV, unV, true_and, and_true, Nat.add_zero, Nat.zero_add, Rt, resultsV, allV, resV, Bool.not_true, Bool.not_false, calleeV, builtinV, eqV, fieldAddrV, ldVar, stN_own, stN_ownL, Int.fdiv_eq_ediv_of_nonneg, Int.reduceToNat, Int.reducePow, IntKind.bits, convV, ne_eq, not_false_eq_true, not_true_eq_false, Int.reduceNeg, Int.reduceAdd, Int.reduceSub, Int.reduceLT, Int.reduceLE, extractV, decide_true, decide_false, Int.reduceEq, mkFuncV, stBInbox, beq_self_eq_true, Try.results61, eqV, Try.underlying71, fieldAddrV, Ty.t115, Try.underlying115, Ty.t4, Try.underlying4, loadV_ptr, ldVar, ld1R h hb]
  exact hR
/-! ### Filters -/
def hit (e : Bool) (n : Int) : List Value → Bool
  | [.bool x, .int _ m, .int _ k] => x == e && decide (andI .u32 n m = andI .u32 k m)
  | _ => false
def FOk (l : List Value) : Prop := ∃ (e : Bool) (m k : Int), l = [.bool e, .int .u32 m, .int .u32 k] ∧ 0 ≤ m ∧ m < 2 ^ 32 ∧ 0 ≤ k ∧ k < 2 ^ 32
theorem through_ok {pf : Nat} {e : Bool} {n : Int} {r l : List Value} (h : s.heap pf = .row (.bool e :: .int .u32 n :: r)) (hb : base ≤ pf) (hpf : pf < s.next) (hbn : base ≤ s.next) (hl : FOk l) (hR : ∀ s', Mild s s' → R (.bool (hit e n l)) s') :
    WC Try.prog base 79 [.agg l.toArray, .pointer (some ⟨pf, 0, none⟩)] s R := by
  obtain ⟨x, m, k, rfl, _⟩ := hl
  refine WC_open Try.func79 rfl ?_
  cases x <;> cases e
  all_goals simp (disch := first | omega | ((simp only [Ab.next_alloc, Ab.next_upd, List.length_cons, List.length_nil, ne_eq, not_true_eq_false, not_false_eq_true]) <;> omega) | decide) only [↓stepPre, stepPost, ↓W_cond, ↓W_block, ↓reduceIte, Nat.reduceEqDiff, Nat.reduceLT, Nat.reduceLeDiff, ret0, stVar, isTup, Value.cells, Nat.le_refl, Nat.reduceAdd, Nat.reduceMul, Nat.reduceSub, env0, binV, intV, reduceCtorEq, pickV, nilCheckV, ptrV, unV, true_and, and_true, Nat.add_zero, Nat.zero_add, Rt, resultsV, allV, resV, Bool.not_true, Bool.not_false, calleeV, builtinV, eqV, fieldAddrV, ldVar, stN_own, stN_ownL, Int.fdiv_eq_ediv_of_nonneg, Int.reduceToNat, Int.reducePow, IntKind.bits, convV, ne_eq, not_false_eq_true, not_true_eq_false, Int.reduceNeg, Int.reduceAdd, Int.reduceSub, Int.reduceLT, Int.reduceLE, extractV, decide_true, decide_false, Int.reduceEq, mkFuncV, stBInbox, beq_self_eq_true, Try.results79, Ty.t32, Try.underlying32, Ty.t29, Try.underlying29, Ty.t113, Try.underlying113, Ty.t4, Try.underlying4, Ty.t27, Try.underlying27, h]
  all_goals simp only [hit, beq_self_eq_true, beq_tf, beq_ft, Bool.true_and, Bool.false_and] at hR
  all_goals exact hR _ (.alloc _ _)
theorem fIndexFunc_ok {v : Value} {g : FuncId} {ca : Array Value} {L : List (List Value)} {q : List Value → Bool} (hs : Sl base s 3 v L) (hn : L.length ≤ 100)
    (hcl : ∀ s1, Mild s s1 → ∀ l ∈ L, ∀ R' : Value → St → Prop, (∀ s2, Mild s1 s2 → R' (.bool (q l)) s2) → WC Try.prog base g (.agg l.toArray :: ca.toList) s1 R')
    (hR : ∀ s' (r : Int), Mild s s' → (decide (0 ≤ r) = L.any q) → R (.int .i64 r) s') :
    WC Try.prog base 87 [v, .func (.func g) #[] ca] s R := by
  refine WC_open Try.func87 rfl ?_
  simp (disch := first | omega | ((simp only [Ab.next_alloc, Ab.next_upd, List.length_cons, List.length_nil, ne_eq, not_true_eq_false, not_false_eq_true]) <;> omega) | decide) only [↓stepPre, stepPost, ↓W_cond, ↓W_block, ↓reduceIte, Nat.reduceEqDiff, Nat.reduceLT, Nat.reduceLeDiff, ret0, stVar, isTup, Value.cells, Nat.le_refl, Nat.reduceAdd, Nat.reduceMul, Nat.reduceSub, env0, binV, intV, reduceCtorEq, pickV, nilCheckV, ptrV, unV, true_and, and_true, Nat.add_zero, Nat.zero_add, Rt, resultsV, allV, resV, Bool.not_true, Bool.not_false, calleeV, builtinV, eqV, fieldAddrV, ldVar, stN_own, stN_ownL, Int.fdiv_eq_ediv_of_nonneg, Int.reduceToNat, Int.reducePow, IntKind.bits, convV, ne_eq, not_false_eq_true, not_true_eq_false, Int.reduceNeg, Int.reduceAdd, Int.reduceSub, Int.reduceLT, Int.reduceLE, extractV, decide_true, decide_false, Int.reduceEq, mkFuncV, stBInbox, beq_self_eq_true, hs.len Ty.elem59 Ty.arr59, tyB11Inbox, Ty.t113, Try.underlying113]
  refine W_loop_ind L.length (fun i e s1 => Mild s s1 ∧ e 0 = v ∧ e 1 = .func (.func g) #[] ca ∧ e 7 = .int .i64 L.length ∧ e 8 = .int .i64 i ∧ ∀ l ∈ L.take i, q l = false) ?_ ⟨.refl _, rfl, rfl, rfl, rfl, by simp⟩
  rintro i e s1 hi ⟨hm, h0, h1, h7, h8, hq⟩
  simp (disch := first | omega | ((simp only [Ab.next_alloc, Ab.next_upd, List.length_cons, List.length_nil, ne_eq, not_true_eq_false, not_false_eq_true]) <;> omega) | decide) only [↓stepPre, stepPost, ↓W_cond, ↓W_block, ↓reduceIte, Nat.reduceEqDiff, Nat.reduceLT, Nat.reduceLeDiff, ret0, stVar, isTup, Value.cells, Nat.le_refl, Nat.reduceAdd, Nat.reduceMul, Nat.reduceSub, env0, binV, intV, reduceCtorEq, pickV, nilCheckV, ptrV, unV, true_and, and_true, Nat.add_zero, Nat.zero_add, Rt, resultsV, allV, resV, Bool.not_true, Bool.not_false, calleeV, builtinV, eqV, fieldAddrV, ldVar, stN_own, stN_ownL, Int.fdiv_eq_ediv_of_nonneg, Int.reduceToNat, Int.reducePow, IntKind.bits, convV, ne_eq, not_false_eq_true, not_true_eq_false, Int.reduceNeg, Int.reduceAdd, Int.reduceSub, Int.reduceLT, Int.reduceLE, extractV, decide_true, decide_false, Int.reduceEq, mkFuncV, stBInbox, beq_self_eq_true, h0, h1, h7, h8]
  refine Wif_dec (fun hlt => ?_) (fun hge => ?_)
  · have hl : L[i]? = some L[i] := by simp
    simp (disch := first | omega | ((simp only [Ab.next_alloc, Ab.next_upd, List.length_cons, List.length_nil, ne_eq, not_true_eq_false, not_false_eq_true]) <;> omega) | decide) only [↓stepPre, stepPost, ↓W_cond, ↓W_block, ↓reduceIte, Nat.reduceEqDiff, Nat.reduceLT, Nat.reduceLeDiff, ret0, stVar, isTup, Value.cells, Nat.le_refl, Nat.reduceAdd, Nat.reduceMul, Nat.reduceSub, env0, binV, intV, reduceCtorEq, pickV, nilCheckV, ptrV, unV, true_and, and_true, Nat.add_zero, Nat.zero_add, Rt, resultsV, allV, resV, Bool.not_true, Bool.not_false, calleeV, builtinV, eqV, fieldAddrV, ldVar, stN_own, stN_ownL, Int.fdiv_eq_ediv_of_nonneg, Int.reduceToNat, Int.reducePow, IntKind.bits, convV, ne_eq, not_false_eq_true, not_true_eq_false, Int.reduceNeg, Int.reduceAdd, Int.reduceSub, Int.reduceLT, Int.reduceLE, extractV, decide_true, decide_false, Int.reduceEq, mkFuncV, stBInbox, beq_self_eq_true, h0, h1, h7, h8, (hs.mild hm).index Ty.elem59 Ty.siz113, Int.toNat_natCast, (hs.mild hm).loadA hl Ty.agg113 Ty.siz113]
    refine hcl s1 hm L[i] (by simp) _ fun s2 hm2 => ?_
    cases hqi : q L[i] with
    | true =>
      simp (disch := first | omega | ((simp only [Ab.next_alloc, Ab.next_upd, List.length_cons, List.length_nil, ne_eq, not_true_eq_false, not_false_eq_true]) <;> omega) | decide) only [↓stepPre, stepPost, ↓W_cond, ↓W_block, ↓reduceIte, Nat.reduceEqDiff, Nat.reduceLT, Nat.reduceLeDiff, ret0, stVar, isTup, Value.cells, Nat.le_refl, Nat.reduceAdd, Nat.reduceMul, Nat.reduceSub, env0, binV, intV, reduceCtorEq, pickV, nilCheckV, ptrV, unV, true_and, and_true, Nat.add_zero, Nat.zero_add, Rt, resultsV, allV, resV, Bool.not_true, Bool.not_false, calleeV, builtinV, eqV, fieldAddrV, ldVar, stN_own, stN_ownL, Int.fdiv_eq_ediv_of_nonneg, Int.reduceToNat, Int.reducePow, IntKind.bits, convV, ne_eq, not_false_eq_true, not_true_eq_false, Int.reduceNeg, Int.reduceAdd, Int.reduceSub, Int.reduceLT, Int.reduceLE, extractV, decide_true, decide_false, Int.reduceEq, mkFuncV, stBInbox, beq_self_eq_true, h0, h1, h7, h8, Try.results87]
      refine hR _ _ (hm.trans hm2) ?_
      rw [show L.any q = true from List.any_eq_true.2 ⟨L[i], by simp, hqi⟩]
      simp
    | false =>
      simp (disch := first | omega | ((simp only [Ab.next_alloc, Ab.next_upd, List.length_cons, List.length_nil, ne_eq, not_true_eq_false, not_false_eq_true]) <;> omega) | decide) only [↓stepPre, stepPost, ↓W_cond, ↓W_block, ↓reduceIte, Nat.reduceEqDiff, Nat.reduceLT, Nat.reduceLeDiff, ret0, stVar, isTup, Value.cells, Nat.le_refl, Nat.reduceAdd, Nat.reduceMul, Nat.reduceSub, env0, binV, intV, reduceCtorEq, pickV, nilCheckV, ptrV, unV, true_and, and_true, Nat.add_zero, Nat.zero_add, Rt, resultsV, allV, resV, Bool.not_true, Bool.not_false, calleeV, builtinV, eqV, fieldAddrV, ldVar, stN_own, stN_ownL, Int.fdiv_eq_ediv_of_nonneg, Int.reduceToNat, Int.reducePow, IntKind.bits, convV, ne_eq, not_false_eq_true, not_true_eq_false, Int.reduceNeg, Int.reduceAdd, Int.reduceSub, Int.reduceLT, Int.reduceLE, extractV, decide_true, decide_false, Int.reduceEq, mkFuncV, stBInbox, beq_self_eq_true, h0, h1, h7, h8]
      refine ⟨by omega, hm.trans hm2, rfl, fun l hl => ?_⟩
      rw [List.take_succ_eq_append_getElem (by omega)] at hl
      rcases List.mem_append.1 hl with hl | hl
      · exact hq l hl
      · simp at hl; rw [hl]; exact hqi
  · simp (disch := first | omega | ((simp only [Ab.next_alloc, Ab.next_upd, List.length_cons, List.length_nil, ne_eq, not_true_eq_false, not_false_eq_true]) <;> omega) | decide) only [↓stepPre, stepPost, ↓W_cond, ↓W_block, ↓reduceIte, Nat.reduceEqDiff, Nat.reduceLT, Nat.reduceLeDiff, ret0, stVar, isTup, Value.cells, Nat.le_refl, Nat.reduceAdd, Nat.reduceMul, Nat.reduceSub, env0, binV, intV, reduceCtorEq, pickV, nilCheckV, ptrV, unV, true_and, and_true, Nat.add_zero, Nat.zero_add, Rt, resultsV, allV, resV, Bool.not_true, Bool.not_false, calleeV, builtinV, eqV, fieldAddrV, ldVar, stN_own, stN_ownL, Int.fdiv_eq_ediv_of_nonneg, Int.reduceToNat, Int.reducePow, IntKind.bits, convV, ne_eq, not_false_eq_true, not_true_eq_false, Int.reduceNeg, Int.reduceAdd, Int.reduceSub, Int.reduceLT, Int.reduceLE, extractV, decide_true, decide_false, Int.reduceEq, mkFuncV, stBInbox, beq_self_eq_true, h0, h1, h7, h8, Try.results87]
    refine hR _ _ hm ?_
    have : L.any q = false := by
      rw [List.take_of_length_le (by omega)] at hq
      simpa using hq
    rw [this]; simp
theorem fContainsFunc_ok {v : Value} {g : FuncId} {ca : Array Value} {L : List (List Value)} {q : List Value → Bool} (hs : Sl base s 3 v L) (hn : L.length ≤ 100)
    (hcl : ∀ s1, Mild s s1 → ∀ l ∈ L, ∀ R' : Value → St → Prop, (∀ s2, Mild s1 s2 → R' (.bool (q l)) s2) → WC Try.prog base g (.agg l.toArray :: ca.toList) s1 R')
    (hR : ∀ s', Mild s s' → R (.bool (L.any q)) s') :
    WC Try.prog base 80 [v, .func (.func g) #[] ca] s R := by
  refine WC_open Try.func80 rfl ?_
  simp (disch := first | omega | ((simp only [Ab.next_alloc, Ab.next_upd, List.length_cons, List.length_nil, ne_eq, not_true_eq_false, not_false_eq_true]) <;> omega) | decide) only [↓stepPre, stepPost, ↓W_cond, ↓W_block, ↓reduceIte, Nat.reduceEqDiff, Nat.reduceLT, Nat.reduceLeDiff, ret0, stVar, isTup, Value.cells, Nat.le_refl, Nat.reduceAdd, Nat.reduceMul, Nat.reduceSub, env0, binV, intV, reduceCtorEq, pickV, nilCheckV, ptrV, unV, true_and, and_true, Nat.add_zero, Nat.zero_add, Rt, resultsV, allV, resV, Bool.not_true, Bool.not_false, calleeV, builtinV, eqV, fieldAddrV, ldVar, stN_own, stN_ownL, Int.fdiv_eq_ediv_of_nonneg, Int.reduceToNat, Int.reducePow, IntKind.bits, convV, ne_eq, not_false_eq_true, not_true_eq_false, Int.reduceNeg, Int.reduceAdd, Int.reduceSub, Int.reduceLT, Int.reduceLE, extractV, decide_true, decide_false, Int.reduceEq, mkFuncV, stBInbox, beq_self_eq_true]
  refine fIndexFunc_ok hs hn hcl fun s1 r hm hr => ?_
  simp (disch := first | omega | ((simp only [Ab.next_alloc, Ab.next_upd, List.length_cons, List.length_nil, ne_eq, not_true_eq_false, not_false_eq_true]) <;> omega) | decide) only [↓stepPre, stepPost, ↓W_cond, ↓W_block, ↓reduceIte, Nat.reduceEqDiff, Nat.reduceLT, Nat.reduceLeDiff, ret0, stVar, isTup, Value.cells, Nat.le_refl, Nat.reduceAdd, Nat.reduceMul, Nat.reduceSub, env0, binV, intV, reduceCtorEq, pickV, nilCheckV, ptrV, unV, true_and, and_true, Nat.add_zero, Nat.zero_add, Rt, resultsV, allV, resV, Bool.not_true, Bool.not_false, calleeV, builtinV, eqV, fieldAddrV, ldVar, stN_own, stN_ownL, Int.fdiv_eq_ediv_of_nonneg, Int.reduceToNat, Int.reducePow, IntKind.bits, convV, ne_eq, not_false_eq_true, not_true_eq_false, Int.reduceNeg, Int.reduceAdd, Int.reduceSub, Int.reduceLT, Int.reduceLE, extractV, decide_true, decide_false, Int.reduceEq, mkFuncV, stBInbox, beq_self_eq_true, Try.results80]
  rw [hr]; exact hR _ hm

/-! ### The own inbox -/
/-- What an own inbox is: where it is, how much room, filters, what waits, and whether one was lost; X: its own blocks. -/
structure OwnI (base : Nat) (s : St) (p : Nat) (room : Int) (F L : List (List Value)) (o : Bool) (X : Nat → Prop) : Prop where
  ex : ∃ vf vw, s.heap p = .row [.int .i64 room, vf, vw, .bool o] ∧ Sl base s 3 vf F ∧ Sl base s 14 vw L ∧ Tight base vw ∧ (∀ b, inB vf b → b ≠ p ∧ ¬ inB vw b) ∧ (∀ b, inB vw b → b ≠ p ∧ X b) ∧ (∀ b, inB vf b → base ≤ b → X b)
  hb : base ≤ p
  hp : p < s.next
  hX : X p
  low : ∀ b, X b → base ≤ b ∧ b < s.next
def lets (F : List (List Value)) (e : Bool) (n : Int) : Bool := F.isEmpty || F.any (hit e n)
theorem lets_ok {p : Nat} {room : Int} {F L : List (List Value)} {o : Bool} {X : Nat → Prop} {e : Bool} {n : Int} {r : List Value} (h : OwnI base s p room F L o X) (hF : ∀ l ∈ F, FOk l) (hFn : F.length ≤ 100) (hbn : base ≤ s.next)
    (hR : ∀ s', Mild s s' → R (.bool (lets F e n)) s') : WC Try.prog base 59 [.pointer (some ⟨p, 0, none⟩), .agg (.bool e :: .int .u32 n :: r).toArray] s R := by
  obtain ⟨vf, vw, h0, h1, h2, -⟩ := h.ex
  have hb := h.hb
  have hp := h.hp
  refine WC_open Try.func59 rfl ?_
  have hf := h1.mild (Mild.alloc s (.row (.bool e :: .int .u32 n :: r)))
  simp (disch := first | omega | ((simp only [Ab.next_alloc, Ab.next_upd, List.length_cons, List.length_nil, ne_eq, not_true_eq_false, not_false_eq_true]) <;> omega) | decide) only [↓stepPre, stepPost, ↓W_cond, ↓W_block, ↓reduceIte, Nat.reduceEqDiff, Nat.reduceLT, Nat.reduceLeDiff, ret0, stVar, isTup, Value.cells, Nat.le_refl, Nat.reduceAdd, Nat.reduceMul, Nat.reduceSub, env0, binV, intV, reduceCtorEq, pickV, nilCheckV, ptrV, unV, true_and, and_true, Nat.add_zero, Nat.zero_add, Rt, resultsV, allV, resV, Bool.not_true, Bool.not_false, calleeV, builtinV, eqV, fieldAddrV, ldVar, stN_own, stN_ownL, Int.fdiv_eq_ediv_of_nonneg, Int.reduceToNat, Int.reducePow, IntKind.bits, convV, ne_eq, not_false_eq_true, not_true_eq_false, Int.reduceNeg, Int.reduceAdd, Int.reduceSub, Int.reduceLT, Int.reduceLE, extractV, decide_true, decide_false, Int.reduceEq, mkFuncV, stBInbox, beq_self_eq_true, Try.results59, tyB1Inbox, h0, hf.len Ty.elem59 Ty.arr59]
  refine Gif_dec (fun h => ?_) (fun h => ?_)
  · simp (disch := first | omega | ((simp only [Ab.next_alloc, Ab.next_upd, List.length_cons, List.length_nil, ne_eq, not_true_eq_false, not_false_eq_true]) <;> omega) | decide) only [↓stepPre, stepPost, ↓W_cond, ↓W_block, ↓reduceIte, Nat.reduceEqDiff, Nat.reduceLT, Nat.reduceLeDiff, ret0, stVar, isTup, Value.cells, Nat.le_refl, Nat.reduceAdd, Nat.reduceMul, Nat.reduceSub, env0, binV, intV, reduceCtorEq, pickV, nilCheckV, ptrV, unV, true_and, and_true, Nat.add_zero, Nat.zero_add, Rt, resultsV, allV, resV, Bool.not_true, Bool.not_false, calleeV, builtinV, eqV, fieldAddrV, ldVar, stN_own, stN_ownL, Int.fdiv_eq_ediv_of_nonneg, Int.reduceToNat, Int.reducePow, IntKind.bits, convV, ne_eq, not_false_eq_true, not_true_eq_false, Int.reduceNeg, Int.reduceAdd, Int.reduceSub, Int.reduceLT, Int.reduceLE, extractV, decide_true, decide_false, Int.reduceEq, mkFuncV, stBInbox, beq_self_eq_true, h, tyB1Inbox, h0]
    refine fContainsFunc_ok (q := hit e n) hf hFn (fun s1 hm l hl R' hR' => ?_) fun s1 hm => ?_
    · refine through_ok (e := e) (n := n) (r := r) (by rw [hm.heap _ (by simp only [Ab.next_alloc]; omega), Ab.heap_alloc_new]) hbn (by have := hm.next; simp only [Ab.next_alloc] at this; omega) (by have := hm.next; simp only [Ab.next_alloc] at this; omega) (hF l hl) hR'
    · simp (disch := first | omega | ((simp only [Ab.next_alloc, Ab.next_upd, List.length_cons, List.length_nil, ne_eq, not_true_eq_false, not_false_eq_true]) <;> omega) | decide) only [↓stepPre, stepPost, ↓W_cond, ↓W_block, ↓reduceIte, Nat.reduceEqDiff, Nat.reduceLT, Nat.reduceLeDiff, ret0, stVar, isTup, Value.cells, Nat.le_refl, Nat.reduceAdd, Nat.reduceMul, Nat.reduceSub, env0, binV, intV, reduceCtorEq, pickV, nilCheckV, ptrV, unV, true_and, and_true, Nat.add_zero, Nat.zero_add, Rt, resultsV, allV, resV, Bool.not_true, Bool.not_false, calleeV, builtinV, eqV, fieldAddrV, ldVar, stN_own, stN_ownL, Int.fdiv_eq_ediv_of_nonneg, Int.reduceToNat, Int.reducePow, IntKind.bits, convV, ne_eq, not_false_eq_true, not_true_eq_false, Int.reduceNeg, Int.reduceAdd, Int.reduceSub, Int.reduceLT, Int.reduceLE, extractV, decide_true, decide_false, Int.reduceEq, mkFuncV, stBInbox, beq_self_eq_true, h, Try.results59]
      have h2 : F ≠ [] := fun e => by subst e; simp at h
      have h3 : F.any (hit e n) = lets F e n := by simp [lets, h2]
      rw [h3]
      exact hR s1 ((Mild.alloc _ _).trans hm)
  · simp (disch := first | omega | ((simp only [Ab.next_alloc, Ab.next_upd, List.length_cons, List.length_nil, ne_eq, not_true_eq_false, not_false_eq_true]) <;> omega) | decide) only [↓stepPre, stepPost, ↓W_cond, ↓W_block, ↓reduceIte, Nat.reduceEqDiff, Nat.reduceLT, Nat.reduceLeDiff, ret0, stVar, isTup, Value.cells, Nat.le_refl, Nat.reduceAdd, Nat.reduceMul, Nat.reduceSub, env0, binV, intV, reduceCtorEq, pickV, nilCheckV, ptrV, unV, true_and, and_true, Nat.add_zero, Nat.zero_add, Rt, resultsV, allV, resV, Bool.not_true, Bool.not_false, calleeV, builtinV, eqV, fieldAddrV, ldVar, stN_own, stN_ownL, Int.fdiv_eq_ediv_of_nonneg, Int.reduceToNat, Int.reducePow, IntKind.bits, convV, ne_eq, not_false_eq_true, not_true_eq_false, Int.reduceNeg, Int.reduceAdd, Int.reduceSub, Int.reduceLT, Int.reduceLE, extractV, decide_true, decide_false, Int.reduceEq, mkFuncV, stBInbox, beq_self_eq_true, h, Try.results59]
    have h2 : F = [] := by simpa using h
    have h3 : true = lets F e n := by simp [lets, h2]
    rw [h3]
    exact hR _ (Mild.alloc _ _)
theorem fClone_ok {v : Value} {L : List (List Value)} (hs : Sl base s 3 v L) (hn : L.length ≤ 100) (hbn : base ≤ s.next)
    (hR : ∀ v' s', Mild s s' → Sl base s' 3 v' L → (∀ b, inB v' b → s.next ≤ b) → (∀ b, inB v' b → b < s'.next) → R v' s') :
    WC Try.prog base 46 [v] s R := by
  refine WC_open Try.func46 rfl ?_
  have hs' := hs
  cases hs with
  | nil =>
    simp (disch := first | omega | ((simp only [Ab.next_alloc, Ab.next_upd, List.length_cons, List.length_nil, ne_eq, not_true_eq_false, not_false_eq_true]) <;> omega) | decide) only [↓stepPre, stepPost, ↓W_cond, ↓W_block, ↓reduceIte, Nat.reduceEqDiff, Nat.reduceLT, Nat.reduceLeDiff, ret0, stVar, isTup, Value.cells, Nat.le_refl, Nat.reduceAdd, Nat.reduceMul, Nat.reduceSub, env0, binV, intV, reduceCtorEq, pickV, nilCheckV, ptrV, unV, true_and, and_true, Nat.add_zero, Nat.zero_add, Rt, resultsV, allV, resV, Bool.not_true, Bool.not_false, calleeV, builtinV, eqV, fieldAddrV, ldVar, stN_own, stN_ownL, Int.fdiv_eq_ediv_of_nonneg, Int.reduceToNat, Int.reducePow, IntKind.bits, convV, ne_eq, not_false_eq_true, not_true_eq_false, Int.reduceNeg, Int.reduceAdd, Int.reduceSub, Int.reduceLT, Int.reduceLE, extractV, decide_true, decide_false, Int.reduceEq, mkFuncV, stBInbox, beq_self_eq_true, Ty.t59, Try.underlying59, Option.isNone_none, Try.results46]
    exact hR _ _ (.refl _) hs' (fun b hb => hb.elim) (fun b hb => hb.elim)
  | mk h1 h2 h3 h4 h5 h6 =>
    simp (disch := first | omega | ((simp only [Ab.next_alloc, Ab.next_upd, List.length_cons, List.length_nil, ne_eq, not_true_eq_false, not_false_eq_true]) <;> omega) | decide) only [↓stepPre, stepPost, ↓W_cond, ↓W_block, ↓reduceIte, Nat.reduceEqDiff, Nat.reduceLT, Nat.reduceLeDiff, ret0, stVar, isTup, Value.cells, Nat.le_refl, Nat.reduceAdd, Nat.reduceMul, Nat.reduceSub, env0, binV, intV, reduceCtorEq, pickV, nilCheckV, ptrV, unV, true_and, and_true, Nat.add_zero, Nat.zero_add, Rt, resultsV, allV, resV, Bool.not_true, Bool.not_false, calleeV, builtinV, eqV, fieldAddrV, ldVar, stN_own, stN_ownL, Int.fdiv_eq_ediv_of_nonneg, Int.reduceToNat, Int.reducePow, IntKind.bits, convV, ne_eq, not_false_eq_true, not_true_eq_false, Int.reduceNeg, Int.reduceAdd, Int.reduceSub, Int.reduceLT, Int.reduceLE, extractV, decide_true, decide_false, Int.reduceEq, mkFuncV, stBInbox, beq_self_eq_true, Ty.t59, Try.underlying59, Ty.t113, Try.underlying113, buildSliceV, repL, fillL, List.replicate, List.flatten_nil]
    have hnew : Sl base (s.alloc (.row [])) 3 (.slice (some ⟨s.next, 0, none⟩) 0 0) [] := .newRow (Ab.heap_alloc_new _ _) rfl rfl (by simp) hbn (by simp only [Ab.next_alloc]; omega)
    obtain ⟨v', s', e1, e2, e3, e4, e5, e6⟩ := appB_ok hnew ⟨rfl, hbn⟩ (by simp only [Ab.next_alloc]; omega) Ty.elem59 Ty.int59 Ty.und59 Ty.siz113 (by decide) Ty.zer113 rfl Ty.byt113 (hs'.mild (.alloc _ _)) (by simp; omega)
    rw [List.nil_append] at e2
    have hm : Mild s s' := (Ch.after (.of_mild (.alloc s (.row [])) (fun b => s.next ≤ b)) e4 (fun b hb h => by simp only [inB] at h; omega)).mild (fun b hb h => by omega)
    refine ⟨by decide, ?_⟩
    simp (disch := first | omega | ((simp only [Ab.next_alloc, Ab.next_upd, List.length_cons, List.length_nil, ne_eq, not_true_eq_false, not_false_eq_true]) <;> omega) | decide) only [↓stepPre, stepPost, ↓W_cond, ↓W_block, ↓reduceIte, Nat.reduceEqDiff, Nat.reduceLT, Nat.reduceLeDiff, ret0, stVar, isTup, Value.cells, Nat.le_refl, Nat.reduceAdd, Nat.reduceMul, Nat.reduceSub, env0, binV, intV, reduceCtorEq, pickV, nilCheckV, ptrV, unV, true_and, and_true, Nat.add_zero, Nat.zero_add, Rt, resultsV, allV, resV, Bool.not_true, Bool.not_false, calleeV, builtinV, eqV, fieldAddrV, ldVar, stN_own, stN_ownL, Int.fdiv_eq_ediv_of_nonneg, Int.reduceToNat, Int.reducePow, IntKind.bits, convV, ne_eq, not_false_eq_true, not_true_eq_false, Int.reduceNeg, Int.reduceAdd, Int.reduceSub, Int.reduceLT, Int.reduceLE, extractV, decide_true, decide_false, Int.reduceEq, mkFuncV, stBInbox, beq_self_eq_true, e1, Try.results46]
    refine hR v' s' hm e2 (fun b hb => ?_) e2.lt
    by_cases hL : L = []
    · obtain ⟨rfl, -⟩ := e6 hL
      simp only [inB] at hb; omega
    · have := e5 hL b hb; simp only [Ab.next_alloc] at this; omega
theorem inew_ok {room : Int} {v : Value} {L : List (List Value)} (hs : Sl base s 3 v L) (hbn : base ≤ s.next)
    (hR1 : (room < 1 ∨ 16 < room) → R (.tuple #[.pointer none, .int .i64 1]) s)
    (hR2 : ¬ (room < 1 ∨ 16 < room) → 8 < L.length → R (.tuple #[.pointer none, .int .i64 11]) s)
    (hR3 : ¬ (room < 1 ∨ 16 < room) → ¬ 8 < L.length → ∀ p s', Mild s s' → OwnI base s' p room L [] false (fun b => s.next ≤ b ∧ b < s'.next) → R (.tuple #[.pointer (some ⟨p, 0, none⟩), .int .i64 0]) s') :
    WC Try.prog base 21 [.int .i64 room, v] s R := by
  refine WC_open Try.func21 rfl ?_
  simp (disch := first | omega | ((simp only [Ab.next_alloc, Ab.next_upd, List.length_cons, List.length_nil, ne_eq, not_true_eq_false, not_false_eq_true]) <;> omega) | decide) only [↓stepPre, stepPost, ↓W_cond, ↓W_block, ↓reduceIte, Nat.reduceEqDiff, Nat.reduceLT, Nat.reduceLeDiff, ret0, stVar, isTup, Value.cells, Nat.le_refl, Nat.reduceAdd, Nat.reduceMul, Nat.reduceSub, env0, binV, intV, reduceCtorEq, pickV, nilCheckV, ptrV, unV, true_and, and_true, Nat.add_zero, Nat.zero_add, Rt, resultsV, allV, resV, Bool.not_true, Bool.not_false, calleeV, builtinV, eqV, fieldAddrV, ldVar, stN_own, stN_ownL, Int.fdiv_eq_ediv_of_nonneg, Int.reduceToNat, Int.reducePow, IntKind.bits, convV, ne_eq, not_false_eq_true, not_true_eq_false, Int.reduceNeg, Int.reduceAdd, Int.reduceSub, Int.reduceLT, Int.reduceLE, extractV, decide_true, decide_false, Int.reduceEq, mkFuncV, stBInbox, beq_self_eq_true, tyB11Inbox]
  have key : (room < 1 ∨ 16 < room) → R (.tuple #[.pointer none, .int .i64 1]) s := hR1
  refine Gif_dec (fun h => ?_) (fun h => ?_)
  · simp (disch := first | omega | ((simp only [Ab.next_alloc, Ab.next_upd, List.length_cons, List.length_nil, ne_eq, not_true_eq_false, not_false_eq_true]) <;> omega) | decide) only [↓stepPre, stepPost, ↓W_cond, ↓W_block, ↓reduceIte, Nat.reduceEqDiff, Nat.reduceLT, Nat.reduceLeDiff, ret0, stVar, isTup, Value.cells, Nat.le_refl, Nat.reduceAdd, Nat.reduceMul, Nat.reduceSub, env0, binV, intV, reduceCtorEq, pickV, nilCheckV, ptrV, unV, true_and, and_true, Nat.add_zero, Nat.zero_add, Rt, resultsV, allV, resV, Bool.not_true, Bool.not_false, calleeV, builtinV, eqV, fieldAddrV, ldVar, stN_own, stN_ownL, Int.fdiv_eq_ediv_of_nonneg, Int.reduceToNat, Int.reducePow, IntKind.bits, convV, ne_eq, not_false_eq_true, not_true_eq_false, Int.reduceNeg, Int.reduceAdd, Int.reduceSub, Int.reduceLT, Int.reduceLE, extractV, decide_true, decide_false, Int.reduceEq, mkFuncV, stBInbox, beq_self_eq_true, h, tyB11Inbox]
    have h1 : ¬ room < 1 := by simpa using h
    refine Wif_dec (fun h2 => ?_) (fun h2 => ?_)
    · simp (disch := first | omega | ((simp only [Ab.next_alloc, Ab.next_upd, List.length_cons, List.length_nil, ne_eq, not_true_eq_false, not_false_eq_true]) <;> omega) | decide) only [↓stepPre, stepPost, ↓W_cond, ↓W_block, ↓reduceIte, Nat.reduceEqDiff, Nat.reduceLT, Nat.reduceLeDiff, ret0, stVar, isTup, Value.cells, Nat.le_refl, Nat.reduceAdd, Nat.reduceMul, Nat.reduceSub, env0, binV, intV, reduceCtorEq, pickV, nilCheckV, ptrV, unV, true_and, and_true, Nat.add_zero, Nat.zero_add, Rt, resultsV, allV, resV, Bool.not_true, Bool.not_false, calleeV, builtinV, eqV, fieldAddrV, ldVar, stN_own, stN_ownL, Int.fdiv_eq_ediv_of_nonneg, Int.reduceToNat, Int.reducePow, IntKind.bits, convV, ne_eq, not_false_eq_true, not_true_eq_false, Int.reduceNeg, Int.reduceAdd, Int.reduceSub, Int.reduceLT, Int.reduceLE, extractV, decide_true, decide_false, Int.reduceEq, mkFuncV, stBInbox, beq_self_eq_true, Try.results21]
      exact hR1 (.inr h2)
    · simp (disch := first | omega | ((simp only [Ab.next_alloc, Ab.next_upd, List.length_cons, List.length_nil, ne_eq, not_true_eq_false, not_false_eq_true]) <;> omega) | decide) only [↓stepPre, stepPost, ↓W_cond, ↓W_block, ↓reduceIte, Nat.reduceEqDiff, Nat.reduceLT, Nat.reduceLeDiff, ret0, stVar, isTup, Value.cells, Nat.le_refl, Nat.reduceAdd, Nat.reduceMul, Nat.reduceSub, env0, binV, intV, reduceCtorEq, pickV, nilCheckV, ptrV, unV, true_and, and_true, Nat.add_zero, Nat.zero_add, Rt, resultsV, allV, resV, Bool.not_true, Bool.not_false, calleeV, builtinV, eqV, fieldAddrV, ldVar, stN_own, stN_ownL, Int.fdiv_eq_ediv_of_nonneg, Int.reduceToNat, Int.reducePow, IntKind.bits, convV, ne_eq, not_false_eq_true, not_true_eq_false, Int.reduceNeg, Int.reduceAdd, Int.reduceSub, Int.reduceLT, Int.reduceLE, extractV, decide_true, decide_false, Int.reduceEq, mkFuncV, stBInbox, beq_self_eq_true, tyB11Inbox, hs.len Ty.elem59 Ty.arr59]
      refine Wif_dec (fun h3 => ?_) (fun h3 => ?_)
      · simp (disch := first | omega | ((simp only [Ab.next_alloc, Ab.next_upd, List.length_cons, List.length_nil, ne_eq, not_true_eq_false, not_false_eq_true]) <;> omega) | decide) only [↓stepPre, stepPost, ↓W_cond, ↓W_block, ↓reduceIte, Nat.reduceEqDiff, Nat.reduceLT, Nat.reduceLeDiff, ret0, stVar, isTup, Value.cells, Nat.le_refl, Nat.reduceAdd, Nat.reduceMul, Nat.reduceSub, env0, binV, intV, reduceCtorEq, pickV, nilCheckV, ptrV, unV, true_and, and_true, Nat.add_zero, Nat.zero_add, Rt, resultsV, allV, resV, Bool.not_true, Bool.not_false, calleeV, builtinV, eqV, fieldAddrV, ldVar, stN_own, stN_ownL, Int.fdiv_eq_ediv_of_nonneg, Int.reduceToNat, Int.reducePow, IntKind.bits, convV, ne_eq, not_false_eq_true, not_true_eq_false, Int.reduceNeg, Int.reduceAdd, Int.reduceSub, Int.reduceLT, Int.reduceLE, extractV, decide_true, decide_false, Int.reduceEq, mkFuncV, stBInbox, beq_self_eq_true, Try.results21]
        exact hR2 (by omega) (by omega)
      · simp (disch := first | omega | ((simp only [Ab.next_alloc, Ab.next_upd, List.length_cons, List.length_nil, ne_eq, not_true_eq_false, not_false_eq_true]) <;> omega) | decide) only [↓stepPre, stepPost, ↓W_cond, ↓W_block, ↓reduceIte, Nat.reduceEqDiff, Nat.reduceLT, Nat.reduceLeDiff, ret0, stVar, isTup, Value.cells, Nat.le_refl, Nat.reduceAdd, Nat.reduceMul, Nat.reduceSub, env0, binV, intV, reduceCtorEq, pickV, nilCheckV, ptrV, unV, true_and, and_true, Nat.add_zero, Nat.zero_add, Rt, resultsV, allV, resV, Bool.not_true, Bool.not_false, calleeV, builtinV, eqV, fieldAddrV, ldVar, stN_own, stN_ownL, Int.fdiv_eq_ediv_of_nonneg, Int.reduceToNat, Int.reducePow, IntKind.bits, convV, ne_eq, not_false_eq_true, not_true_eq_false, Int.reduceNeg, Int.reduceAdd, Int.reduceSub, Int.reduceLT, Int.reduceLE, extractV, decide_true, decide_false, Int.reduceEq, mkFuncV, stBInbox, beq_self_eq_true, tyB11Inbox]
        refine fClone_ok hs (by omega) hbn fun v' s' hm hv hb1 hb2 => ?_
        obtain ⟨a', n', c', rfl⟩ := hv.shape
        simp (disch := first | omega | ((simp only [Ab.next_alloc, Ab.next_upd, List.length_cons, List.length_nil, ne_eq, not_true_eq_false, not_false_eq_true]) <;> omega) | decide) only [↓stepPre, stepPost, ↓W_cond, ↓W_block, ↓reduceIte, Nat.reduceEqDiff, Nat.reduceLT, Nat.reduceLeDiff, ret0, stVar, isTup, Value.cells, Nat.le_refl, Nat.reduceAdd, Nat.reduceMul, Nat.reduceSub, env0, binV, intV, reduceCtorEq, pickV, nilCheckV, ptrV, unV, true_and, and_true, Nat.add_zero, Nat.zero_add, Rt, resultsV, allV, resV, Bool.not_true, Bool.not_false, calleeV, builtinV, eqV, fieldAddrV, ldVar, stN_own, stN_ownL, Int.fdiv_eq_ediv_of_nonneg, Int.reduceToNat, Int.reducePow, IntKind.bits, convV, ne_eq, not_false_eq_true, not_true_eq_false, Int.reduceNeg, Int.reduceAdd, Int.reduceSub, Int.reduceLT, Int.reduceLE, extractV, decide_true, decide_false, Int.reduceEq, mkFuncV, stBInbox, beq_self_eq_true, Ty.t115, Try.underlying115, buildV, fillL, Try.results21]
        have hn := hm.next
        refine hR3 (by omega) (by omega) _ _ (hm.trans (.alloc _ _)) ⟨⟨_, _, Ab.heap_alloc_new _ _, hv.mild (.alloc _ _), .nil, trivial, fun b hb => ⟨?_, id⟩, fun b hb => hb.elim, fun b hb h => ⟨hb1 b hb, ?_⟩⟩, ?_, ?_, ⟨hn, ?_⟩, fun b hb => ⟨by omega, hb.2⟩⟩
        all_goals try simp only [Ab.next_alloc]
        all_goals first | omega | (have := hb2 b hb; omega)
  · simp (disch := first | omega | ((simp only [Ab.next_alloc, Ab.next_upd, List.length_cons, List.length_nil, ne_eq, not_true_eq_false, not_false_eq_true]) <;> omega) | decide) only [↓stepPre, stepPost, ↓W_cond, ↓W_block, ↓reduceIte, Nat.reduceEqDiff, Nat.reduceLT, Nat.reduceLeDiff, ret0, stVar, isTup, Value.cells, Nat.le_refl, Nat.reduceAdd, Nat.reduceMul, Nat.reduceSub, env0, binV, intV, reduceCtorEq, pickV, nilCheckV, ptrV, unV, true_and, and_true, Nat.add_zero, Nat.zero_add, Rt, resultsV, allV, resV, Bool.not_true, Bool.not_false, calleeV, builtinV, eqV, fieldAddrV, ldVar, stN_own, stN_ownL, Int.fdiv_eq_ediv_of_nonneg, Int.reduceToNat, Int.reducePow, IntKind.bits, convV, ne_eq, not_false_eq_true, not_true_eq_false, Int.reduceNeg, Int.reduceAdd, Int.reduceSub, Int.reduceLT, Int.reduceLE, extractV, decide_true, decide_false, Int.reduceEq, mkFuncV, stBInbox, beq_self_eq_true, h, Try.results21]
    exact hR1 (.inl (by simpa using h))
def offB (room : Int) (F L : List (List Value)) (e : Bool) (n : Int) : Bool := lets F e n && decide ((L.length : Int) < room)
def offL (room : Int) (F L : List (List Value)) (e : Bool) (n : Int) (c : List Value) : List (List Value) := if offB room F L e n then L ++ [c] else L
def offO (room : Int) (F L : List (List Value)) (e : Bool) (n : Int) (o : Bool) : Bool := o || (lets F e n && !offB room F L e n)
theorem OwnI.mild {p : Nat} {room : Int} {F L : List (List Value)} {o : Bool} {X : Nat → Prop} {s s' : St} (h : OwnI base s p room F L o X) (hm : Mild s s') : OwnI base s' p room F L o X := by
  obtain ⟨⟨vf, vw, h0, h1, h2, h3, h4, h5, h6⟩, hb, hp, hX, low⟩ := h
  exact ⟨⟨vf, vw, by rw [hm.heap _ hp]; exact h0, h1.mild hm, h2.mild hm, h3, h4, h5, h6⟩, hb, Nat.lt_of_lt_of_le hp hm.next, hX, fun b hb => ⟨(low b hb).1, Nat.lt_of_lt_of_le (low b hb).2 hm.next⟩⟩
/-- What others do leaves it as it is. -/
theorem OwnI.ch {p : Nat} {room : Int} {F L : List (List Value)} {o : Bool} {X Y : Nat → Prop} {s s' : St} (h : OwnI base s p room F L o X) (hc : Ch s s' Y) (hd : ∀ b, Y b → base ≤ b ∧ ¬ X b) : OwnI base s' p room F L o X := by
  obtain ⟨⟨vf, vw, h0, h1, h2, h3, h4, h5, h6⟩, hb, hp, hX, low⟩ := h
  exact ⟨⟨vf, vw, by rw [hc.heap _ hp fun hy => (hd _ hy).2 hX]; exact h0, h1.ch hc fun b hb hy => (hd b hy).2 (h6 b hb (hd b hy).1), h2.ch hc fun b hb hy => (hd b hy).2 (h5 b hb).2, h3, h4, h5, h6⟩, hb, Nat.lt_of_lt_of_le hp hc.next, hX,
    fun b hb => ⟨(low b hb).1, Nat.lt_of_lt_of_le (low b hb).2 hc.next⟩⟩
theorem offer_ok {p : Nat} {room : Int} {F L : List (List Value)} {o : Bool} {X : Nat → Prop} {e : Bool} {n : Int} {c : List Value} (h : OwnI base s p room F L o X) (hF : ∀ l ∈ F, FOk l) (hFn : F.length ≤ 100) (hLn : L.length ≤ 100) (hbn : base ≤ s.next)
    (hc : c.length = 12)
    (hR : ∀ s' X', Ch s s' X → (∀ b, X' b → X b ∨ s.next ≤ b) → OwnI base s' p room F (offL room F L e n (.bool e :: .int .u32 n :: c)) (offO room F L e n o) X' → R (.bool (offB room F L e n)) s') :
    WC Try.prog base 29 [.pointer (some ⟨p, 0, none⟩), .agg (.bool e :: .int .u32 n :: c).toArray] s R := by
  refine WC_open Try.func29 rfl ?_
  have hb := h.hb
  have hp := h.hp
  have hlen : (Value.bool e :: Value.int IntKind.u32 n :: c).length = 14 := by simp [hc]
  simp (disch := first | omega | ((simp only [Ab.next_alloc, Ab.next_upd, List.length_cons, List.length_nil, ne_eq, not_true_eq_false, not_false_eq_true]) <;> omega) | decide) only [↓stepPre, stepPost, ↓W_cond, ↓W_block, ↓reduceIte, Nat.reduceEqDiff, Nat.reduceLT, Nat.reduceLeDiff, ret0, stVar, isTup, Value.cells, Nat.le_refl, Nat.reduceAdd, Nat.reduceMul, Nat.reduceSub, env0, binV, intV, reduceCtorEq, pickV, nilCheckV, ptrV, unV, true_and, and_true, Nat.add_zero, Nat.zero_add, Rt, resultsV, allV, resV, Bool.not_true, Bool.not_false, calleeV, builtinV, eqV, fieldAddrV, ldVar, stN_own, stN_ownL, Int.fdiv_eq_ediv_of_nonneg, Int.reduceToNat, Int.reducePow, IntKind.bits, convV, ne_eq, not_false_eq_true, not_true_eq_false, Int.reduceNeg, Int.reduceAdd, Int.reduceSub, Int.reduceLT, Int.reduceLE, extractV, decide_true, decide_false, Int.reduceEq, mkFuncV, stBInbox, beq_self_eq_true, Ty.t3, Try.underlying3, Ty.t87, Try.underlying87, Ty.t32, Try.underlying32, getL_take, List.drop_zero, List.take_succ_cons]
  have ho := h.mild (Mild.alloc s (.row (.bool e :: .int .u32 n :: c)))
  refine lets_ok ho hF hFn (by simp only [Ab.next_alloc]; omega) fun s1 hm1 => ?_
  have hl : s1.heap s.next = .row (.bool e :: .int .u32 n :: c) := by rw [hm1.heap _ (by simp only [Ab.next_alloc]; omega), Ab.heap_alloc_new]
  have hm := (Mild.alloc s (.row (.bool e :: .int .u32 n :: c))).trans hm1
  have hn1 := hm1.next
  simp only [Ab.next_alloc] at hn1
  have h1 := h.mild hm
  cases hlet : lets F e n with
  | false =>
    simp (disch := first | omega | ((simp only [Ab.next_alloc, Ab.next_upd, List.length_cons, List.length_nil, ne_eq, not_true_eq_false, not_false_eq_true]) <;> omega) | decide) only [↓stepPre, stepPost, ↓W_cond, ↓W_block, ↓reduceIte, Nat.reduceEqDiff, Nat.reduceLT, Nat.reduceLeDiff, ret0, stVar, isTup, Value.cells, Nat.le_refl, Nat.reduceAdd, Nat.reduceMul, Nat.reduceSub, env0, binV, intV, reduceCtorEq, pickV, nilCheckV, ptrV, unV, true_and, and_true, Nat.add_zero, Nat.zero_add, Rt, resultsV, allV, resV, Bool.not_true, Bool.not_false, calleeV, builtinV, eqV, fieldAddrV, ldVar, stN_own, stN_ownL, Int.fdiv_eq_ediv_of_nonneg, Int.reduceToNat, Int.reducePow, IntKind.bits, convV, ne_eq, not_false_eq_true, not_true_eq_false, Int.reduceNeg, Int.reduceAdd, Int.reduceSub, Int.reduceLT, Int.reduceLE, extractV, decide_true, decide_false, Int.reduceEq, mkFuncV, stBInbox, beq_self_eq_true, Try.results29]
    have : false = offB room F L e n := by simp [offB, hlet]
    rw [this]
    refine hR _ _ (.of_mild hm _) (fun b hb => .inl hb) ?_
    simp only [offL, offO, ← this, hlet, Bool.false_and, Bool.or_false, Bool.false_eq_true, if_false]
    exact h1
  | true =>
    simp (disch := first | omega | ((simp only [Ab.next_alloc, Ab.next_upd, List.length_cons, List.length_nil, ne_eq, not_true_eq_false, not_false_eq_true]) <;> omega) | decide) only [↓stepPre, stepPost, ↓W_cond, ↓W_block, ↓reduceIte, Nat.reduceEqDiff, Nat.reduceLT, Nat.reduceLeDiff, ret0, stVar, isTup, Value.cells, Nat.le_refl, Nat.reduceAdd, Nat.reduceMul, Nat.reduceSub, env0, binV, intV, reduceCtorEq, pickV, nilCheckV, ptrV, unV, true_and, and_true, Nat.add_zero, Nat.zero_add, Rt, resultsV, allV, resV, Bool.not_true, Bool.not_false, calleeV, builtinV, eqV, fieldAddrV, ldVar, stN_own, stN_ownL, Int.fdiv_eq_ediv_of_nonneg, Int.reduceToNat, Int.reducePow, IntKind.bits, convV, ne_eq, not_false_eq_true, not_true_eq_false, Int.reduceNeg, Int.reduceAdd, Int.reduceSub, Int.reduceLT, Int.reduceLE, extractV, decide_true, decide_false, Int.reduceEq, mkFuncV, stBInbox, beq_self_eq_true]
    refine W_draw (fun _ => false) (fun _ => false) (fun _ => false) (by kernel_rfl) (by kernel_rfl) ?_
    obtain ⟨vf, vw, g0, g1, g2, g3, g4, g5, g6⟩ := h1.ex
    simp (disch := first | omega | ((simp only [Ab.next_alloc, Ab.next_upd, List.length_cons, List.length_nil, ne_eq, not_true_eq_false, not_false_eq_true]) <;> omega) | decide) only [↓stepPre, stepPost, ↓W_cond, ↓W_block, ↓reduceIte, Nat.reduceEqDiff, Nat.reduceLT, Nat.reduceLeDiff, ret0, stVar, isTup, Value.cells, Nat.le_refl, Nat.reduceAdd, Nat.reduceMul, Nat.reduceSub, env0, binV, intV, reduceCtorEq, pickV, nilCheckV, ptrV, unV, true_and, and_true, Nat.add_zero, Nat.zero_add, Rt, resultsV, allV, resV, Bool.not_true, Bool.not_false, calleeV, builtinV, eqV, fieldAddrV, ldVar, stN_own, stN_ownL, Int.fdiv_eq_ediv_of_nonneg, Int.reduceToNat, Int.reducePow, IntKind.bits, convV, ne_eq, not_false_eq_true, not_true_eq_false, Int.reduceNeg, Int.reduceAdd, Int.reduceSub, Int.reduceLT, Int.reduceLE, extractV, decide_true, decide_false, Int.reduceEq, mkFuncV, stBInbox, beq_self_eq_true]
    refine ilen_ok g0 hb g2 ?_
    simp (disch := first | omega | ((simp only [Ab.next_alloc, Ab.next_upd, List.length_cons, List.length_nil, ne_eq, not_true_eq_false, not_false_eq_true]) <;> omega) | decide) only [↓stepPre, stepPost, ↓W_cond, ↓W_block, ↓reduceIte, Nat.reduceEqDiff, Nat.reduceLT, Nat.reduceLeDiff, ret0, stVar, isTup, Value.cells, Nat.le_refl, Nat.reduceAdd, Nat.reduceMul, Nat.reduceSub, env0, binV, intV, reduceCtorEq, pickV, nilCheckV, ptrV, unV, true_and, and_true, Nat.add_zero, Nat.zero_add, Rt, resultsV, allV, resV, Bool.not_true, Bool.not_false, calleeV, builtinV, eqV, fieldAddrV, ldVar, stN_own, stN_ownL, Int.fdiv_eq_ediv_of_nonneg, Int.reduceToNat, Int.reducePow, IntKind.bits, convV, ne_eq, not_false_eq_true, not_true_eq_false, Int.reduceNeg, Int.reduceAdd, Int.reduceSub, Int.reduceLT, Int.reduceLE, extractV, decide_true, decide_false, Int.reduceEq, mkFuncV, stBInbox, beq_self_eq_true, Ty.t3, Try.underlying3, Ty.t115, Try.underlying115, g0]
    refine Wif_dec (fun h3 => ?_) (fun h3 => ?_)
    · have hoff : false = offB room F L e n := by simp [offB]; omega
      simp (disch := first | omega | ((simp only [Ab.next_alloc, Ab.next_upd, List.length_cons, List.length_nil, ne_eq, not_true_eq_false, not_false_eq_true]) <;> omega) | decide) only [↓stepPre, stepPost, ↓W_cond, ↓W_block, ↓reduceIte, Nat.reduceEqDiff, Nat.reduceLT, Nat.reduceLeDiff, ret0, stVar, isTup, Value.cells, Nat.le_refl, Nat.reduceAdd, Nat.reduceMul, Nat.reduceSub, env0, binV, intV, reduceCtorEq, pickV, nilCheckV, ptrV, unV, true_and, and_true, Nat.add_zero, Nat.zero_add, Rt, resultsV, allV, resV, Bool.not_true, Bool.not_false, calleeV, builtinV, eqV, fieldAddrV, ldVar, stN_own, stN_ownL, Int.fdiv_eq_ediv_of_nonneg, Int.reduceToNat, Int.reducePow, IntKind.bits, convV, ne_eq, not_false_eq_true, not_true_eq_false, Int.reduceNeg, Int.reduceAdd, Int.reduceSub, Int.reduceLT, Int.reduceLE, extractV, decide_true, decide_false, Int.reduceEq, mkFuncV, stBInbox, beq_self_eq_true, Ty.t4, Try.underlying4, Ty.t115, Try.underlying115, g0, Try.results29]
      rw [hoff]
      refine hR _ _ (Ch.upd' (.of_mild hm _) fun _ => h.hX) (fun b hb => .inl hb) ?_
      simp only [offL, offO, ← hoff, hlet, Bool.false_eq_true, if_false, Bool.not_false, Bool.and_true, Bool.or_true]
      have hch : Ch s1 (s1.upd p (.row [.int .i64 room, vf, vw, .bool true])) (fun b => b = p) := Ch.upd' (.refl _ _) fun _ => rfl
      exact ⟨⟨vf, vw, Ab.heap_upd_same _ _ _, g1.ch hch fun b hb => (g4 b hb).1, g2.ch hch fun b hb => (g5 b hb).1, g3, g4, g5, g6⟩, hb, h1.hp, h.hX, h1.low⟩
    · have hoff : true = offB room F L e n := by simp [offB, hlet]; omega
      simp (disch := first | omega | ((simp only [Ab.next_alloc, Ab.next_upd, List.length_cons, List.length_nil, ne_eq, not_true_eq_false, not_false_eq_true]) <;> omega) | decide) only [↓stepPre, stepPost, ↓W_cond, ↓W_block, ↓reduceIte, Nat.reduceEqDiff, Nat.reduceLT, Nat.reduceLeDiff, ret0, stVar, isTup, Value.cells, Nat.le_refl, Nat.reduceAdd, Nat.reduceMul, Nat.reduceSub, env0, binV, intV, reduceCtorEq, pickV, nilCheckV, ptrV, unV, true_and, and_true, Nat.add_zero, Nat.zero_add, Rt, resultsV, allV, resV, Bool.not_true, Bool.not_false, calleeV, builtinV, eqV, fieldAddrV, ldVar, stN_own, stN_ownL, Int.fdiv_eq_ediv_of_nonneg, Int.reduceToNat, Int.reducePow, IntKind.bits, convV, ne_eq, not_false_eq_true, not_true_eq_false, Int.reduceNeg, Int.reduceAdd, Int.reduceSub, Int.reduceLT, Int.reduceLE, extractV, decide_true, decide_false, Int.reduceEq, mkFuncV, stBInbox, beq_self_eq_true]
      refine W_draw (fun k => k == 7 || k == 10) (fun _ => false) (fun _ => false) (by kernel_rfl) (by kernel_rfl) ?_
      have gn : Sl base (s1.alloc (.row (.bool e :: .int .u32 n :: c))) 14 (.slice (some ⟨s1.next, 0, none⟩) 1 1) [.bool e :: .int .u32 n :: c] :=
        .newRow (Ab.heap_alloc_new _ _) (by simp) rfl (by simp [hc]) (by omega) (by simp only [Ab.next_alloc]; omega)
      obtain ⟨v', s', e1, e2, e3, e4, e5, -⟩ := appB_ok (g2.mild (.alloc _ (.row (.bool e :: .int .u32 n :: c)))) g3 (by simp only [Ab.next_alloc]; omega) Ty.elem103 Ty.int103 Ty.und103 Ty.siz87 (by decide) Ty.zer87 rfl Ty.byt87 gn (by simp; omega)
      have hn4 := e4.next
      simp only [Ab.next_alloc] at hn4
      have hne : s1.next ≠ p := by omega
      have hnw : ¬ inB vw p := fun hi => (g5 p hi).1 rfl
      have hp' : s'.heap p = .row [.int .i64 room, vf, vw, .bool o] := by rw [e4.heap p (by simp only [Ab.next_alloc]; omega) hnw, Ab.heap_alloc_ne _ _ (by omega), g0]
      obtain ⟨a', n', c', rfl⟩ := e2.shape
      simp (disch := first | omega | ((simp only [Ab.next_alloc, Ab.next_upd, List.length_cons, List.length_nil, ne_eq, not_true_eq_false, not_false_eq_true]) <;> omega) | decide) only [↓stepPre, stepPost, ↓W_cond, ↓W_block, ↓reduceIte, Nat.reduceEqDiff, Nat.reduceLT, Nat.reduceLeDiff, ret0, stVar, isTup, Value.cells, Nat.le_refl, Nat.reduceAdd, Nat.reduceMul, Nat.reduceSub, env0, binV, intV, reduceCtorEq, pickV, nilCheckV, ptrV, unV, true_and, and_true, Nat.add_zero, Nat.zero_add, Rt, resultsV, allV, resV, Bool.not_true, Bool.not_false, calleeV, builtinV, eqV, fieldAddrV, ldVar, stN_own, stN_ownL, Int.fdiv_eq_ediv_of_nonneg, Int.reduceToNat, Int.reducePow, IntKind.bits, convV, ne_eq, not_false_eq_true, not_true_eq_false, Int.reduceNeg, Int.reduceAdd, Int.reduceSub, Int.reduceLT, Int.reduceLE, extractV, decide_true, decide_false, Int.reduceEq, mkFuncV, stBInbox, beq_self_eq_true, Ty.t115, Try.underlying115, Ty.t87, Try.underlying87, Ty.t103, Try.underlying103, g0, hl, build1 (l := .bool e :: .int .u32 n :: c) Ty.elem103 Ty.siz87 Ty.zer87 hlen rfl, e1, hp', Try.results29]
      refine ⟨Dok_next (by decide) (by simp only [Ab.next_alloc]; omega), ?_⟩
      rw [hoff]
      have hc4 : Ch s s' X := Ch.after (Ch.of_mild (hm.alloc' (o := .row (.bool e :: .int .u32 n :: c))) X) e4 fun b hb hi => (g5 b hi).2
      have hc5 : Ch s' (s'.upd p (.row [.int .i64 room, vf, .slice a' n' c', .bool o])) (fun b => b = p) := Ch.upd' (.refl _ _) fun _ => rfl
      have hnew : ∀ b, inB (.slice a' n' c') b → s1.next + 1 ≤ b := fun b hb => by have := e5 (by simp) b hb; simpa only [Ab.next_alloc] using this
      refine hR _ (fun b => X b ∨ (s.next ≤ b ∧ b < s'.next)) (Ch.upd' hc4 fun _ => h.hX) (fun b hb => hb.imp id fun x => x.1) ?_
      simp only [offL, offO, ← hoff, hlet, if_true, Bool.not_true, Bool.and_false, Bool.or_false]
      refine ⟨⟨vf, _, Ab.heap_upd_same _ _ _, ?_, e2.ch hc5 fun b hb he => ?_, e3, fun b hb => ⟨(g4 b hb).1, fun hi => ?_⟩, fun b hb => ⟨fun he => ?_, .inr ⟨?_, e2.lt b hb⟩⟩, fun b hb h => .inl (g6 b hb h)⟩, hb, by simp only [Ab.next_upd]; omega, .inl h.hX, fun b hb => ?_⟩
      · exact ((g1.mild (Mild.alloc _ (.row (.bool e :: .int .u32 n :: c)))).ch e4 fun b hb hi => (g4 b hb).2 hi).ch hc5 fun b hb he => (g4 b hb).1 he
      · have := hnew b hb; omega
      · have := hnew b hi; have := g1.lt b hb; omega
      · have := hnew b hb; omega
      · have := hnew b hb; omega
      · rcases hb with hb | hb
        · have := h.low b hb; exact ⟨this.1, by simp only [Ab.next_upd]; omega⟩
        · exact ⟨by omega, by simp only [Ab.next_upd]; omega⟩
theorem pop_ok {p : Nat} {room : Int} {F L : List (List Value)} {o : Bool} {X : Nat → Prop} (h : OwnI base s p room F L o X) (hLn : L.length ≤ 100) (hbn : base ≤ s.next)
    (hR1 : L = [] → ∀ s', Mild s s' → R (.tuple #[.agg #[.bool false, .int .u32 0, .bool false, .int .i64 0, .int .u8 0, .int .u8 0, .int .u8 0, .int .u8 0, .int .u8 0, .int .u8 0, .int .u8 0, .int .u8 0, .int .i64 0, .int .i64 0], .bool false]) s')
    (hR2 : ∀ x L', L = x :: L' → ∀ s', Ch s s' X → OwnI base s' p room F L' o X → R (.tuple #[.agg x.toArray, .bool true]) s') :
    WC Try.prog base 65 [.pointer (some ⟨p, 0, none⟩)] s R := by
  refine WC_open Try.func65 rfl ?_
  have hb := h.hb
  have hp := h.hp
  simp (disch := first | omega | ((simp only [Ab.next_alloc, Ab.next_upd, List.length_cons, List.length_nil, ne_eq, not_true_eq_false, not_false_eq_true]) <;> omega) | decide) only [↓stepPre, stepPost, ↓W_cond, ↓W_block, ↓reduceIte, Nat.reduceEqDiff, Nat.reduceLT, Nat.reduceLeDiff, ret0, stVar, isTup, Value.cells, Nat.le_refl, Nat.reduceAdd, Nat.reduceMul, Nat.reduceSub, env0, binV, intV, reduceCtorEq, pickV, nilCheckV, ptrV, unV, true_and, and_true, Nat.add_zero, Nat.zero_add, Rt, resultsV, allV, resV, Bool.not_true, Bool.not_false, calleeV, builtinV, eqV, fieldAddrV, ldVar, stN_own, stN_ownL, Int.fdiv_eq_ediv_of_nonneg, Int.reduceToNat, Int.reducePow, IntKind.bits, convV, ne_eq, not_false_eq_true, not_true_eq_false, Int.reduceNeg, Int.reduceAdd, Int.reduceSub, Int.reduceLT, Int.reduceLE, extractV, decide_true, decide_false, Int.reduceEq, mkFuncV, stBInbox, beq_self_eq_true, Ty.t87, Try.underlying87]
  obtain ⟨vf, vw, g0, g1, g2, g3, g4, g5, g6⟩ := (h.mild (Mild.alloc s (.row [.bool false, .int .u32 0, .bool false, .int .i64 0, .int .u8 0, .int .u8 0, .int .u8 0, .int .u8 0, .int .u8 0, .int .u8 0, .int .u8 0, .int .u8 0, .int .i64 0, .int .i64 0]))).ex
  refine ilen_ok g0 hb g2 ?_
  simp (disch := first | omega | ((simp only [Ab.next_alloc, Ab.next_upd, List.length_cons, List.length_nil, ne_eq, not_true_eq_false, not_false_eq_true]) <;> omega) | decide) only [↓stepPre, stepPost, ↓W_cond, ↓W_block, ↓reduceIte, Nat.reduceEqDiff, Nat.reduceLT, Nat.reduceLeDiff, ret0, stVar, isTup, Value.cells, Nat.le_refl, Nat.reduceAdd, Nat.reduceMul, Nat.reduceSub, env0, binV, intV, reduceCtorEq, pickV, nilCheckV, ptrV, unV, true_and, and_true, Nat.add_zero, Nat.zero_add, Rt, resultsV, allV, resV, Bool.not_true, Bool.not_false, calleeV, builtinV, eqV, fieldAddrV, ldVar, stN_own, stN_ownL, Int.fdiv_eq_ediv_of_nonneg, Int.reduceToNat, Int.reducePow, IntKind.bits, convV, ne_eq, not_false_eq_true, not_true_eq_false, Int.reduceNeg, Int.reduceAdd, Int.reduceSub, Int.reduceLT, Int.reduceLE, extractV, decide_true, decide_false, Int.reduceEq, mkFuncV, stBInbox, beq_self_eq_true, Ty.t3, Try.underlying3]
  refine Wif_dec (fun h0 => ?_) (fun h0 => ?_)
  · simp (disch := first | omega | ((simp only [Ab.next_alloc, Ab.next_upd, List.length_cons, List.length_nil, ne_eq, not_true_eq_false, not_false_eq_true]) <;> omega) | decide) only [↓stepPre, stepPost, ↓W_cond, ↓W_block, ↓reduceIte, Nat.reduceEqDiff, Nat.reduceLT, Nat.reduceLeDiff, ret0, stVar, isTup, Value.cells, Nat.le_refl, Nat.reduceAdd, Nat.reduceMul, Nat.reduceSub, env0, binV, intV, reduceCtorEq, pickV, nilCheckV, ptrV, unV, true_and, and_true, Nat.add_zero, Nat.zero_add, Rt, resultsV, allV, resV, Bool.not_true, Bool.not_false, calleeV, builtinV, eqV, fieldAddrV, ldVar, stN_own, stN_ownL, Int.fdiv_eq_ediv_of_nonneg, Int.reduceToNat, Int.reducePow, IntKind.bits, convV, ne_eq, not_false_eq_true, not_true_eq_false, Int.reduceNeg, Int.reduceAdd, Int.reduceSub, Int.reduceLT, Int.reduceLE, extractV, decide_true, decide_false, Int.reduceEq, mkFuncV, stBInbox, beq_self_eq_true, Ty.t87, Try.underlying87, buildV, fillL, Try.results65]
    exact hR1 (List.eq_nil_of_length_eq_zero (by omega)) _ (.alloc _ _)
  · obtain ⟨x, L', rfl⟩ : ∃ x L', L = x :: L' := by
      cases L with
      | nil => simp at h0
      | cons x L' => exact ⟨x, L', rfl⟩
    have hx : x.length = 14 := by
      cases g2 with
      | mk _ _ h3 => exact h3 x (by simp)
    have q1 := g2.index (k := .i64) (i := 0) Ty.elem103 Ty.siz87 (by omega) (by simp)
    have q2 := g2.loadA (i := 0) rfl Ty.agg87 Ty.siz87
    have g1' := g1.mild (Mild.alloc _ (.row x))
    have g2' := g2.mild (Mild.alloc _ (.row x))
    obtain ⟨v', q3, q4, q5, q6⟩ := g2'.cut (lo := some (.int .i64 1)) (hi := some (.int .i64 ((L'.length + 1 : Nat) : Int))) (mx := some (.int .i64 ((L'.length + 1 : Nat) : Int))) (l := 1) (h := L'.length + 1) (m := L'.length + 1) Ty.elem103 Ty.siz87 (fun a len cap hv => by
      subst hv
      cases g2 with
      | mk h1 h2 =>
        simp only [List.length_cons] at h1
        simp only [cutV, intOf?]
        rw [if_pos ⟨by omega, by omega, by omega, by omega⟩]; simp) (by omega) (by simp) (by omega)
    simp only [Int.toNat_zero, Nat.zero_mul] at q1 q2
    simp only [List.length_cons] at h0
    obtain ⟨a', n', c', rfl⟩ := q4.shape
    have hne : p ≠ s.next := by omega
    simp only [Ab.heap_alloc_ne _ _ hne] at g0
    simp (disch := first | omega | ((simp only [Ab.next_alloc, Ab.next_upd, List.length_cons, List.length_nil, ne_eq, not_true_eq_false, not_false_eq_true]) <;> omega) | decide) only [↓stepPre, stepPost, ↓W_cond, ↓W_block, ↓reduceIte, Nat.reduceEqDiff, Nat.reduceLT, Nat.reduceLeDiff, ret0, stVar, isTup, Value.cells, Nat.le_refl, Nat.reduceAdd, Nat.reduceMul, Nat.reduceSub, env0, binV, intV, reduceCtorEq, pickV, nilCheckV, ptrV, unV, true_and, and_true, Nat.add_zero, Nat.zero_add, Rt, resultsV, allV, resV, Bool.not_true, Bool.not_false, calleeV, builtinV, eqV, fieldAddrV, ldVar, stN_own, stN_ownL, Int.fdiv_eq_ediv_of_nonneg, Int.reduceToNat, Int.reducePow, IntKind.bits, convV, ne_eq, not_false_eq_true, not_true_eq_false, Int.reduceNeg, Int.reduceAdd, Int.reduceSub, Int.reduceLT, Int.reduceLE, extractV, decide_true, decide_false, Int.reduceEq, mkFuncV, stBInbox, beq_self_eq_true, Ty.t115, Try.underlying115, Ty.t103, Try.underlying103, Ty.t87, Try.underlying87, g0, q1, q2, q3, hx, Try.results65]
    have hwb : ∀ b, inB vw b → b < s.next ∧ base ≤ b := fun b hb => ⟨(h.low b (g5 b hb).2).2, (h.low b (g5 b hb).2).1⟩
    have hfb : ∀ b, inB vf b → b ≠ s.next := fun b hb he => by
      have := g6 b hb (by omega)
      have := (h.low b this).2; omega
    refine hR2 x L' rfl _ ?_ ?_
    · exact Ch.upd' (Ch.upd' ((Ch.refl _ _).alloc'.alloc') fun _ => h.hX) fun hlt => by omega
    · refine ⟨⟨vf, _, by rw [Ab.heap_upd_ne _ _ hne, Ab.heap_upd_same], ?_, ?_, q6 rfl fun b hb => (hwb b hb).2, fun b hb => ⟨(g4 b hb).1, fun hi => (g4 b hb).2 (q5 b hi)⟩, fun b hb => g5 b (q5 b hb), g6⟩, hb, by simp only [Ab.next_upd, Ab.next_alloc]; omega, h.hX, fun b hb => ?_⟩
      · exact (g1'.ch (X := fun b => b = p) (Ch.upd' (.refl _ _) fun _ => rfl) fun b hb he => (g4 b hb).1 he).ch (X := fun b => b = s.next) (Ch.upd' (.refl _ _) fun _ => rfl) fun b hb he => hfb b hb he
      · have q4' : Sl base ((s.alloc (.row [.bool false, .int .u32 0, .bool false, .int .i64 0, .int .u8 0, .int .u8 0, .int .u8 0, .int .u8 0, .int .u8 0, .int .u8 0, .int .u8 0, .int .u8 0, .int .i64 0, .int .i64 0])).alloc (.row x)) 14 (.slice a' n' c') L' := by simpa using q4
        exact (q4'.ch (X := fun b => b = p) (Ch.upd' (.refl _ _) fun _ => rfl) fun b hb he => (g5 b (q5 b hb)).1 he).ch (X := fun b => b = s.next) (Ch.upd' (.refl _ _) fun _ => rfl) fun b hb he => by have := (hwb b (q5 b hb)).1; omega
      · have := h.low b hb; exact ⟨this.1, by simp only [Ab.next_upd, Ab.next_alloc]; omega⟩
end Go.Proofs.Ytghigcdpinogaaa
