import Derived.Test.YtghigcdpinogaaaTypes
import Derived.Test.YtghigcdpinogaaaRow0
import Derived.Test.YtghigcdpinogaaaAbC
import Derived.Test.YtghigcdpinogaaaPure
import Derived.Test.YtghigcdpinogaaaInbox
/- The document's inbox (bellbuoyref14), as contracts. -/
set_option linter.all false
set_option maxRecDepth 20000
namespace Go.Proofs.Ytghigcdpinogaaa
open Go Go.Ab
def stBRefInbox := And.intro @List.size_toArray.{0} (And.intro @List.length_cons.{0} (And.intro @List.length_nil.{0} (And.intro @List.set_cons_zero.{0} (And.intro @List.set_cons_succ.{0} (And.intro @List.getD_cons_zero.{0} (And.intro @List.getD_cons_succ.{0} (And.intro @List.getElem?_cons_succ.{0} (And.intro @List.getElem?_cons_zero.{0} (And.intro @List.map_cons.{0,0} (And.intro @List.map_nil.{0,0} (And.intro @Option.isNone_none.{0} (And.intro @Option.isNone_some.{0} (And.intro @Option.map_some.{0,0} (And.intro @Option.map_none.{0,0} (And.intro @List.cons_append.{0} (And.intro @List.nil_append.{0} (And.intro @List.append_nil.{0} (And.intro @Array.toList_append.{0} (And.intro @List.toList_toArray.{0} (And.intro @Int.cast_ofNat_Int (And.intro @Option.isSome_some.{0} (And.intro @List.getElem?_toArray.{0} (And.intro @List.map_toArray.{0,0} (@Nat.min_eq_left))))))))))))))))))))))))
def tyB7RefInbox := And.intro @Ty.t105 (And.intro @Try.underlying105 (And.intro @Ty.t59 @Try.underlying59))
def tyB9RefInbox := And.intro @Ty.t3 (And.intro @Try.underlying3 (And.intro @Ty.t59 @Try.underlying59))
variable {base : Nat} [Bok base] {s : St} {R : Value → St → Prop}
theorem u32_nat {x : Int} (h : 0 ≤ x ∧ x < 2 ^ 32) : ∃ a : Nat, x = a ∧ a < 2 ^ 32 := ⟨x.toNat, by omega, by omega⟩
theorem hit_ref {e x : Bool} {n m k : Int} (hn : 0 ≤ n ∧ n < 2 ^ 32) (hm : 0 ≤ m ∧ m < 2 ^ 32) (hk : 0 ≤ k ∧ k < 2 ^ 32) : decide (andI .u32 m (xorI .u32 k n) = 0) = decide (andI .u32 n m = andI .u32 k m) := by
  obtain ⟨n, rfl, hn2⟩ := u32_nat hn
  obtain ⟨m, rfl, hm2⟩ := u32_nat hm
  obtain ⟨k, rfl, hk2⟩ := u32_nat hk
  have ha : ∀ a b : Nat, a < 2 ^ 32 → b < 2 ^ 32 → andI .u32 a b = ((a &&& b : Nat) : Int) := fun a b ha hb => by
    have := Nat.and_lt_two_pow a hb
    have e1 : ((a : Int) % 2 ^ IntKind.u32.bits).toNat = a := by simp only [IntKind.bits]; omega
    have e2 : ((b : Int) % 2 ^ IntKind.u32.bits).toNat = b := by simp only [IntKind.bits]; omega
    simp only [andI, e1, e2]
    exact IntWalk.u32_in _ (by omega)
  have hx : xorI .u32 k n = ((k ^^^ n : Nat) : Int) := by
    have := Nat.xor_lt_two_pow hk2 hn2
    have e1 : ((k : Int) % 2 ^ IntKind.u32.bits).toNat = k := by simp only [IntKind.bits]; omega
    have e2 : ((n : Int) % 2 ^ IntKind.u32.bits).toNat = n := by simp only [IntKind.bits]; omega
    simp only [xorI, e1, e2]
    exact IntWalk.u32_in _ (by omega)
  rw [hx, ha _ _ hm2 (Nat.xor_lt_two_pow hk2 hn2), ha _ _ hn2 hm2, ha _ _ hk2 hm2]
  rw [decide_eq_decide]
  constructor
  · intro h
    have h : m &&& (k ^^^ n) = 0 := by omega
    have : n &&& m = k &&& m := by
      apply Nat.eq_of_testBit_eq
      intro i
      have hi : (m &&& (k ^^^ n)).testBit i = false := by rw [h]; simp
      simp only [Nat.testBit_and, Nat.testBit_xor] at hi ⊢
      revert hi
      cases m.testBit i <;> cases k.testBit i <;> cases n.testBit i <;> simp
    rw [this]
  · intro h
    have h : n &&& m = k &&& m := by omega
    have : m &&& (k ^^^ n) = 0 := by
      apply Nat.eq_of_testBit_eq
      intro i
      have hi : (n &&& m).testBit i = (k &&& m).testBit i := by rw [h]
      simp only [Nat.testBit_and, Nat.testBit_xor, Nat.zero_testBit] at hi ⊢
      revert hi
      cases m.testBit i <;> cases k.testBit i <;> cases n.testBit i <;> simp
    omega
theorem rnew_ok {room : Int} {v : Value} {L : List (List Value)} (hs : Sl base s 3 v L) (hbn : base ≤ s.next)
    (hR1 : (room < 1 ∨ 16 < room) → R (.tuple #[.pointer none, .int .i64 1]) s)
    (hR2 : ¬ (room < 1 ∨ 16 < room) → 8 < L.length → R (.tuple #[.pointer none, .int .i64 11]) s)
    (hR3 : ¬ (room < 1 ∨ 16 < room) → ¬ 8 < L.length → ∀ p s', Mild s s' → OwnI base s' p room L [] false (fun b => s.next ≤ b ∧ b < s'.next) → R (.tuple #[.pointer (some ⟨p, 0, none⟩), .int .i64 0]) s') :
    WC Try.prog base 36 [.int .i64 room, v] s R := by
  refine WC_open Try.func36 rfl ?_
  simp (disch := first | omega | ((simp only [Ab.next_alloc, Ab.next_upd, List.length_cons, List.length_nil, ne_eq, not_true_eq_false, not_false_eq_true]) <;> omega) | decide) only [↓stepPre, stepPost, ↓W_cond, ↓W_block, ↓reduceIte, Nat.reduceEqDiff, Nat.reduceLT, Nat.reduceLeDiff, ret0, stVar, isTup, Value.cells, Nat.le_refl, Nat.reduceAdd, Nat.reduceMul, Nat.reduceSub, env0, binV, intV, reduceCtorEq, pickV, nilCheckV, ptrV, unV, true_and, and_true, Nat.add_zero, Nat.zero_add, Rt, resultsV, allV, resV, Bool.not_true, Bool.not_false, calleeV, builtinV, eqV, fieldAddrV, ldVar, stN_own, stN_ownL, Int.fdiv_eq_ediv_of_nonneg, Int.reduceToNat, Int.reducePow, IntKind.bits, convV, ne_eq, not_false_eq_true, not_true_eq_false, Int.reduceNeg, Int.reduceAdd, Int.reduceSub, Int.reduceLT, Int.reduceLE, extractV, decide_true, decide_false, Int.reduceEq, mkFuncV, stBRefInbox, beq_self_eq_true, tyB9RefInbox]
  refine Gif_dec (fun h => ?_) (fun h => ?_)
  · simp (disch := first | omega | ((simp only [Ab.next_alloc, Ab.next_upd, List.length_cons, List.length_nil, ne_eq, not_true_eq_false, not_false_eq_true]) <;> omega) | decide) only [↓stepPre, stepPost, ↓W_cond, ↓W_block, ↓reduceIte, Nat.reduceEqDiff, Nat.reduceLT, Nat.reduceLeDiff, ret0, stVar, isTup, Value.cells, Nat.le_refl, Nat.reduceAdd, Nat.reduceMul, Nat.reduceSub, env0, binV, intV, reduceCtorEq, pickV, nilCheckV, ptrV, unV, true_and, and_true, Nat.add_zero, Nat.zero_add, Rt, resultsV, allV, resV, Bool.not_true, Bool.not_false, calleeV, builtinV, eqV, fieldAddrV, ldVar, stN_own, stN_ownL, Int.fdiv_eq_ediv_of_nonneg, Int.reduceToNat, Int.reducePow, IntKind.bits, convV, ne_eq, not_false_eq_true, not_true_eq_false, Int.reduceNeg, Int.reduceAdd, Int.reduceSub, Int.reduceLT, Int.reduceLE, extractV, decide_true, decide_false, Int.reduceEq, mkFuncV, stBRefInbox, beq_self_eq_true, h, tyB9RefInbox]
    have h1 : ¬ room < 1 := by simpa using h
    refine Wif_dec (fun h2 => ?_) (fun h2 => ?_)
    · simp (disch := first | omega | ((simp only [Ab.next_alloc, Ab.next_upd, List.length_cons, List.length_nil, ne_eq, not_true_eq_false, not_false_eq_true]) <;> omega) | decide) only [↓stepPre, stepPost, ↓W_cond, ↓W_block, ↓reduceIte, Nat.reduceEqDiff, Nat.reduceLT, Nat.reduceLeDiff, ret0, stVar, isTup, Value.cells, Nat.le_refl, Nat.reduceAdd, Nat.reduceMul, Nat.reduceSub, env0, binV, intV, reduceCtorEq, pickV, nilCheckV, ptrV, unV, true_and, and_true, Nat.add_zero, Nat.zero_add, Rt, resultsV, allV, resV, Bool.not_true, Bool.not_false, calleeV, builtinV, eqV, fieldAddrV, ldVar, stN_own, stN_ownL, Int.fdiv_eq_ediv_of_nonneg, Int.reduceToNat, Int.reducePow, IntKind.bits, convV, ne_eq, not_false_eq_true, not_true_eq_false, Int.reduceNeg, Int.reduceAdd, Int.reduceSub, Int.reduceLT, Int.reduceLE, extractV, decide_true, decide_false, Int.reduceEq, mkFuncV, stBRefInbox, beq_self_eq_true, Try.results36]
      exact hR1 (.inr h2)
    · simp (disch := first | omega | ((simp only [Ab.next_alloc, Ab.next_upd, List.length_cons, List.length_nil, ne_eq, not_true_eq_false, not_false_eq_true]) <;> omega) | decide) only [↓stepPre, stepPost, ↓W_cond, ↓W_block, ↓reduceIte, Nat.reduceEqDiff, Nat.reduceLT, Nat.reduceLeDiff, ret0, stVar, isTup, Value.cells, Nat.le_refl, Nat.reduceAdd, Nat.reduceMul, Nat.reduceSub, env0, binV, intV, reduceCtorEq, pickV, nilCheckV, ptrV, unV, true_and, and_true, Nat.add_zero, Nat.zero_add, Rt, resultsV, allV, resV, Bool.not_true, Bool.not_false, calleeV, builtinV, eqV, fieldAddrV, ldVar, stN_own, stN_ownL, Int.fdiv_eq_ediv_of_nonneg, Int.reduceToNat, Int.reducePow, IntKind.bits, convV, ne_eq, not_false_eq_true, not_true_eq_false, Int.reduceNeg, Int.reduceAdd, Int.reduceSub, Int.reduceLT, Int.reduceLE, extractV, decide_true, decide_false, Int.reduceEq, mkFuncV, stBRefInbox, beq_self_eq_true, tyB9RefInbox, hs.len Ty.elem59 Ty.arr59]
      refine Wif_dec (fun h3 => ?_) (fun h3 => ?_)
      · simp (disch := first | omega | ((simp only [Ab.next_alloc, Ab.next_upd, List.length_cons, List.length_nil, ne_eq, not_true_eq_false, not_false_eq_true]) <;> omega) | decide) only [↓stepPre, stepPost, ↓W_cond, ↓W_block, ↓reduceIte, Nat.reduceEqDiff, Nat.reduceLT, Nat.reduceLeDiff, ret0, stVar, isTup, Value.cells, Nat.le_refl, Nat.reduceAdd, Nat.reduceMul, Nat.reduceSub, env0, binV, intV, reduceCtorEq, pickV, nilCheckV, ptrV, unV, true_and, and_true, Nat.add_zero, Nat.zero_add, Rt, resultsV, allV, resV, Bool.not_true, Bool.not_false, calleeV, builtinV, eqV, fieldAddrV, ldVar, stN_own, stN_ownL, Int.fdiv_eq_ediv_of_nonneg, Int.reduceToNat, Int.reducePow, IntKind.bits, convV, ne_eq, not_false_eq_true, not_true_eq_false, Int.reduceNeg, Int.reduceAdd, Int.reduceSub, Int.reduceLT, Int.reduceLE, extractV, decide_true, decide_false, Int.reduceEq, mkFuncV, stBRefInbox, beq_self_eq_true, Try.results36]
        exact hR2 (by omega) (by omega)
      · obtain ⟨v', s', e1, e2, e3, e4, e5, e6⟩ := appB_ok (P := Try.prog) (base := base) (s := s.alloc (.row [.int .i64 room, .slice none 0 0, .slice none 0 0, .bool false])) (v := .slice none 0 0) (L := []) .nil trivial (by simp only [Ab.next_alloc]; omega) Ty.elem59 Ty.int59 Ty.und59 Ty.siz113 (by decide) Ty.zer113 rfl Ty.byt113 (hs.mild (.alloc _ _)) (by simp; omega)
        rw [List.nil_append] at e2
        have hn' := e4.next
        simp only [Ab.next_alloc] at hn'
        have hm : Mild (s.alloc (.row [.int .i64 room, .slice none 0 0, .slice none 0 0, .bool false])) s' := e4.mild fun b hb h => h
        have hp : s'.heap s.next = .row [.int .i64 room, .slice none 0 0, .slice none 0 0, .bool false] := by rw [hm.heap _ (by simp only [Ab.next_alloc]; omega), Ab.heap_alloc_new]
        obtain ⟨a', n', c', rfl⟩ := e2.shape
        simp (disch := first | omega | ((simp only [Ab.next_alloc, Ab.next_upd, List.length_cons, List.length_nil, ne_eq, not_true_eq_false, not_false_eq_true]) <;> omega) | decide) only [↓stepPre, stepPost, ↓W_cond, ↓W_block, ↓reduceIte, Nat.reduceEqDiff, Nat.reduceLT, Nat.reduceLeDiff, ret0, stVar, isTup, Value.cells, Nat.le_refl, Nat.reduceAdd, Nat.reduceMul, Nat.reduceSub, env0, binV, intV, reduceCtorEq, pickV, nilCheckV, ptrV, unV, true_and, and_true, Nat.add_zero, Nat.zero_add, Rt, resultsV, allV, resV, Bool.not_true, Bool.not_false, calleeV, builtinV, eqV, fieldAddrV, ldVar, stN_own, stN_ownL, Int.fdiv_eq_ediv_of_nonneg, Int.reduceToNat, Int.reducePow, IntKind.bits, convV, ne_eq, not_false_eq_true, not_true_eq_false, Int.reduceNeg, Int.reduceAdd, Int.reduceSub, Int.reduceLT, Int.reduceLE, extractV, decide_true, decide_false, Int.reduceEq, mkFuncV, stBRefInbox, beq_self_eq_true, tyB7RefInbox, buildV, fillL, e1, hp, Try.results36]
        have hnew : ∀ b, inB (.slice a' n' c') b → s.next + 1 ≤ b := fun b hb => by
          by_cases hL : L = []
          · obtain ⟨h1, -⟩ := e6 hL
            cases h1; exact hb.elim
          · have := e5 hL b hb; simp only [Ab.next_alloc] at this; omega
        refine hR3 (by omega) (by omega) _ _ (((Mild.alloc _ _).trans hm).upd' (by omega)) ⟨⟨_, _, Ab.heap_upd_same _ _ _, e2.ch (X := fun b => b = s.next) (Ch.upd' (.refl _ _) fun _ => rfl) fun b hb he => ?_, .nil, trivial, fun b hb => ⟨?_, id⟩, fun b hb => hb.elim, fun b hb h => ⟨?_, ?_⟩⟩, ?_, ?_, ⟨?_, ?_⟩, fun b hb => ⟨by omega, hb.2⟩⟩
        all_goals try simp only [Ab.next_alloc, Ab.next_upd]
        all_goals first | omega | (have := hnew b hb; have := e2.lt b hb; omega)
  · simp (disch := first | omega | ((simp only [Ab.next_alloc, Ab.next_upd, List.length_cons, List.length_nil, ne_eq, not_true_eq_false, not_false_eq_true]) <;> omega) | decide) only [↓stepPre, stepPost, ↓W_cond, ↓W_block, ↓reduceIte, Nat.reduceEqDiff, Nat.reduceLT, Nat.reduceLeDiff, ret0, stVar, isTup, Value.cells, Nat.le_refl, Nat.reduceAdd, Nat.reduceMul, Nat.reduceSub, env0, binV, intV, reduceCtorEq, pickV, nilCheckV, ptrV, unV, true_and, and_true, Nat.add_zero, Nat.zero_add, Rt, resultsV, allV, resV, Bool.not_true, Bool.not_false, calleeV, builtinV, eqV, fieldAddrV, ldVar, stN_own, stN_ownL, Int.fdiv_eq_ediv_of_nonneg, Int.reduceToNat, Int.reducePow, IntKind.bits, convV, ne_eq, not_false_eq_true, not_true_eq_false, Int.reduceNeg, Int.reduceAdd, Int.reduceSub, Int.reduceLT, Int.reduceLE, extractV, decide_true, decide_false, Int.reduceEq, mkFuncV, stBRefInbox, beq_self_eq_true, h, Try.results36]
    exact hR1 (.inl (by simpa using h))
theorem rlets_ok {p : Nat} {room : Int} {F L : List (List Value)} {o : Bool} {X : Nat → Prop} {e : Bool} {n : Int} {r : List Value} (h : OwnI base s p room F L o X) (hF : ∀ l ∈ F, FOk l) (hFn : F.length ≤ 100) (hbn : base ≤ s.next) (hn : 0 ≤ n ∧ n < 2 ^ 32)
    (hR : ∀ s', Mild s s' → R (.bool (lets F e n)) s') : WC Try.prog base 84 [.pointer (some ⟨p, 0, none⟩), .agg (.bool e :: .int .u32 n :: r).toArray] s R := by
  have hb := h.hb
  have hp := h.hp
  refine WC_open Try.func84 rfl ?_
  simp (disch := first | omega | ((simp only [Ab.next_alloc, Ab.next_upd, List.length_cons, List.length_nil, ne_eq, not_true_eq_false, not_false_eq_true]) <;> omega) | decide) only [↓stepPre, stepPost, ↓W_cond, ↓W_block, ↓reduceIte, Nat.reduceEqDiff, Nat.reduceLT, Nat.reduceLeDiff, ret0, stVar, isTup, Value.cells, Nat.le_refl, Nat.reduceAdd, Nat.reduceMul, Nat.reduceSub, env0, binV, intV, reduceCtorEq, pickV, nilCheckV, ptrV, unV, true_and, and_true, Nat.add_zero, Nat.zero_add, Rt, resultsV, allV, resV, Bool.not_true, Bool.not_false, calleeV, builtinV, eqV, fieldAddrV, ldVar, stN_own, stN_ownL, Int.fdiv_eq_ediv_of_nonneg, Int.reduceToNat, Int.reducePow, IntKind.bits, convV, ne_eq, not_false_eq_true, not_true_eq_false, Int.reduceNeg, Int.reduceAdd, Int.reduceSub, Int.reduceLT, Int.reduceLE, extractV, decide_true, decide_false, Int.reduceEq, mkFuncV, stBRefInbox, beq_self_eq_true, Ty.t96, Try.underlying96]
  refine W_loop_ind F.length (fun i e1 s1 => Mild (s.alloc (.row (.bool e :: .int .u32 n :: r))) s1 ∧ e1 0 = .pointer (some ⟨p, 0, none⟩) ∧ e1 3 = .pointer (some ⟨s.next, 0, none⟩) ∧ e1 5 = .int .i64 i ∧ ∀ l ∈ F.take i, hit e n l = false) ?_ ⟨.refl _, rfl, rfl, rfl, by simp⟩
  rintro i e1 s1 hi ⟨hm, h0, h3, h5, hq⟩
  have hm0 := (Mild.alloc s (.row (.bool e :: .int .u32 n :: r))).trans hm
  obtain ⟨vf, vw, g0, g1, g2, -⟩ := (h.mild hm0).ex
  have hfr : s1.heap s.next = .row (.bool e :: .int .u32 n :: r) := by rw [hm.heap _ (by simp only [Ab.next_alloc]; omega), Ab.heap_alloc_new]
  have hn1 := hm.next
  simp only [Ab.next_alloc] at hn1
  simp (disch := first | omega | ((simp only [Ab.next_alloc, Ab.next_upd, List.length_cons, List.length_nil, ne_eq, not_true_eq_false, not_false_eq_true]) <;> omega) | decide) only [↓stepPre, stepPost, ↓W_cond, ↓W_block, ↓reduceIte, Nat.reduceEqDiff, Nat.reduceLT, Nat.reduceLeDiff, ret0, stVar, isTup, Value.cells, Nat.le_refl, Nat.reduceAdd, Nat.reduceMul, Nat.reduceSub, env0, binV, intV, reduceCtorEq, pickV, nilCheckV, ptrV, unV, true_and, and_true, Nat.add_zero, Nat.zero_add, Rt, resultsV, allV, resV, Bool.not_true, Bool.not_false, calleeV, builtinV, eqV, fieldAddrV, ldVar, stN_own, stN_ownL, Int.fdiv_eq_ediv_of_nonneg, Int.reduceToNat, Int.reducePow, IntKind.bits, convV, ne_eq, not_false_eq_true, not_true_eq_false, Int.reduceNeg, Int.reduceAdd, Int.reduceSub, Int.reduceLT, Int.reduceLE, extractV, decide_true, decide_false, Int.reduceEq, mkFuncV, stBRefInbox, beq_self_eq_true, h0, h3, h5, tyB7RefInbox, g0, g1.len Ty.elem59 Ty.arr59]
  refine Wif_dec (fun hlt => ?_) (fun hge => ?_)
  · have hil : i < F.length := by omega
    have hx : F[i]? = some F[i] := by simp
    obtain ⟨xe, m, k, hxe, hm1, hm2, hk1, hk2⟩ := hF F[i] (by simp)
    have q := g1.loadA hx Ty.agg113 Ty.siz113
    have hhit : hit e n F[i] = (xe == e && decide (andI .u32 m (xorI .u32 k n) = 0)) := by rw [hxe, hit_ref (e := e) (x := xe) hn ⟨hm1, hm2⟩ ⟨hk1, hk2⟩]; rfl
    rw [hxe] at q
    have hend : hit e n F[i] = false → ∀ l ∈ F.take (i + 1), hit e n l = false := fun hqi l hl => by
      rw [List.take_succ_eq_append_getElem (by omega)] at hl
      rcases List.mem_append.1 hl with hl | hl
      · exact hq l hl
      · simp at hl; rw [hl]; exact hqi
    have hany : hit e n F[i] = true → true = lets F e n := fun hqi => by
      have : F.any (hit e n) = true := List.any_eq_true.2 ⟨F[i], by simp, hqi⟩
      simp [lets, this]
    simp (disch := first | omega | ((simp only [Ab.next_alloc, Ab.next_upd, List.length_cons, List.length_nil, ne_eq, not_true_eq_false, not_false_eq_true]) <;> omega) | decide) only [↓stepPre, stepPost, ↓W_cond, ↓W_block, ↓reduceIte, Nat.reduceEqDiff, Nat.reduceLT, Nat.reduceLeDiff, ret0, stVar, isTup, Value.cells, Nat.le_refl, Nat.reduceAdd, Nat.reduceMul, Nat.reduceSub, env0, binV, intV, reduceCtorEq, pickV, nilCheckV, ptrV, unV, true_and, and_true, Nat.add_zero, Nat.zero_add, Rt, resultsV, allV, resV, Bool.not_true, Bool.not_false, calleeV, builtinV, eqV, fieldAddrV, ldVar, stN_own, stN_ownL, Int.fdiv_eq_ediv_of_nonneg, Int.reduceToNat, Int.reducePow, IntKind.bits, convV, ne_eq, not_false_eq_true, not_true_eq_false, Int.reduceNeg, Int.reduceAdd, Int.reduceSub, Int.reduceLT, Int.reduceLE, extractV, decide_true, decide_false, Int.reduceEq, mkFuncV, stBRefInbox, beq_self_eq_true, h0, h3, h5, tyB7RefInbox, Ty.t113, Try.underlying113, g0, g1.index Ty.elem59 Ty.siz113, Int.toNat_natCast, q]
    cases xe <;> cases e
    all_goals simp (disch := first | omega | ((simp only [Ab.next_alloc, Ab.next_upd, List.length_cons, List.length_nil, ne_eq, not_true_eq_false, not_false_eq_true]) <;> omega) | decide) only [↓stepPre, stepPost, ↓W_cond, ↓W_block, ↓reduceIte, Nat.reduceEqDiff, Nat.reduceLT, Nat.reduceLeDiff, ret0, stVar, isTup, Value.cells, Nat.le_refl, Nat.reduceAdd, Nat.reduceMul, Nat.reduceSub, env0, binV, intV, reduceCtorEq, pickV, nilCheckV, ptrV, unV, true_and, and_true, Nat.add_zero, Nat.zero_add, Rt, resultsV, allV, resV, Bool.not_true, Bool.not_false, calleeV, builtinV, eqV, fieldAddrV, ldVar, stN_own, stN_ownL, Int.fdiv_eq_ediv_of_nonneg, Int.reduceToNat, Int.reducePow, IntKind.bits, convV, ne_eq, not_false_eq_true, not_true_eq_false, Int.reduceNeg, Int.reduceAdd, Int.reduceSub, Int.reduceLT, Int.reduceLE, extractV, decide_true, decide_false, Int.reduceEq, mkFuncV, stBRefInbox, beq_self_eq_true, h0, h3, h5, hfr, Ty.t32, Try.underlying32, Ty.t29, Try.underlying29, Ty.t113, Try.underlying113, Ty.t4, Try.underlying4, Ty.t27, Try.underlying27]
    all_goals simp only [beq_self_eq_true, beq_tf, beq_ft, Bool.true_and, Bool.false_and] at hhit
    case false.true => exact ⟨hil, hm.alloc', rfl, hend hhit⟩
    case true.false => exact ⟨hil, hm.alloc', rfl, hend hhit⟩
    all_goals
      refine Wif_dec (fun hz => ?_) (fun hz => ?_)
      · simp (disch := first | omega | ((simp only [Ab.next_alloc, Ab.next_upd, List.length_cons, List.length_nil, ne_eq, not_true_eq_false, not_false_eq_true]) <;> omega) | decide) only [↓stepPre, stepPost, ↓W_cond, ↓W_block, ↓reduceIte, Nat.reduceEqDiff, Nat.reduceLT, Nat.reduceLeDiff, ret0, stVar, isTup, Value.cells, Nat.le_refl, Nat.reduceAdd, Nat.reduceMul, Nat.reduceSub, env0, binV, intV, reduceCtorEq, pickV, nilCheckV, ptrV, unV, true_and, and_true, Nat.add_zero, Nat.zero_add, Rt, resultsV, allV, resV, Bool.not_true, Bool.not_false, calleeV, builtinV, eqV, fieldAddrV, ldVar, stN_own, stN_ownL, Int.fdiv_eq_ediv_of_nonneg, Int.reduceToNat, Int.reducePow, IntKind.bits, convV, ne_eq, not_false_eq_true, not_true_eq_false, Int.reduceNeg, Int.reduceAdd, Int.reduceSub, Int.reduceLT, Int.reduceLE, extractV, decide_true, decide_false, Int.reduceEq, mkFuncV, stBRefInbox, beq_self_eq_true, h0, h3, h5, Try.results84]
        rw [hany (by rw [hhit]; simp [hz])]
        exact hR _ hm0.alloc'
      · simp (disch := first | omega | ((simp only [Ab.next_alloc, Ab.next_upd, List.length_cons, List.length_nil, ne_eq, not_true_eq_false, not_false_eq_true]) <;> omega) | decide) only [↓stepPre, stepPost, ↓W_cond, ↓W_block, ↓reduceIte, Nat.reduceEqDiff, Nat.reduceLT, Nat.reduceLeDiff, ret0, stVar, isTup, Value.cells, Nat.le_refl, Nat.reduceAdd, Nat.reduceMul, Nat.reduceSub, env0, binV, intV, reduceCtorEq, pickV, nilCheckV, ptrV, unV, true_and, and_true, Nat.add_zero, Nat.zero_add, Rt, resultsV, allV, resV, Bool.not_true, Bool.not_false, calleeV, builtinV, eqV, fieldAddrV, ldVar, stN_own, stN_ownL, Int.fdiv_eq_ediv_of_nonneg, Int.reduceToNat, Int.reducePow, IntKind.bits, convV, ne_eq, not_false_eq_true, not_true_eq_false, Int.reduceNeg, Int.reduceAdd, Int.reduceSub, Int.reduceLT, Int.reduceLE, extractV, decide_true, decide_false, Int.reduceEq, mkFuncV, stBRefInbox, beq_self_eq_true, h0, h3, h5]
        exact ⟨hil, hm.alloc', rfl, hend (by rw [hhit]; simp [hz])⟩
  · simp (disch := first | omega | ((simp only [Ab.next_alloc, Ab.next_upd, List.length_cons, List.length_nil, ne_eq, not_true_eq_false, not_false_eq_true]) <;> omega) | decide) only [↓stepPre, stepPost, ↓W_cond, ↓W_block, ↓reduceIte, Nat.reduceEqDiff, Nat.reduceLT, Nat.reduceLeDiff, ret0, stVar, isTup, Value.cells, Nat.le_refl, Nat.reduceAdd, Nat.reduceMul, Nat.reduceSub, env0, binV, intV, reduceCtorEq, pickV, nilCheckV, ptrV, unV, true_and, and_true, Nat.add_zero, Nat.zero_add, Rt, resultsV, allV, resV, Bool.not_true, Bool.not_false, calleeV, builtinV, eqV, fieldAddrV, ldVar, stN_own, stN_ownL, Int.fdiv_eq_ediv_of_nonneg, Int.reduceToNat, Int.reducePow, IntKind.bits, convV, ne_eq, not_false_eq_true, not_true_eq_false, Int.reduceNeg, Int.reduceAdd, Int.reduceSub, Int.reduceLT, Int.reduceLE, extractV, decide_true, decide_false, Int.reduceEq, mkFuncV, stBRefInbox, beq_self_eq_true, h0, h3, h5, tyB7RefInbox, g0, g1.len Ty.elem59 Ty.arr59, Try.results84]
    have hno : F.any (hit e n) = false := by
      rw [List.take_of_length_le (by omega)] at hq
      simpa using hq
    have : decide ((F.length : Int) = 0) = lets F e n := by
      simp only [lets, hno, Bool.or_false]
      cases F <;> simp
      omega
    rw [this]
    exact hR _ hm0
theorem roffer_ok {p : Nat} {room : Int} {F L : List (List Value)} {o : Bool} {X : Nat → Prop} {e : Bool} {n : Int} {c : List Value} (h : OwnI base s p room F L o X) (hF : ∀ l ∈ F, FOk l) (hFn : F.length ≤ 100) (hLn : L.length ≤ 100) (hbn : base ≤ s.next)
    (hc : c.length = 12) (hroom : (L.length : Int) ≤ room) (hnn : 0 ≤ n ∧ n < 2 ^ 32)
    (hR : ∀ s' X', Ch s s' X → (∀ b, X' b → X b ∨ s.next ≤ b) → OwnI base s' p room F (offL room F L e n (.bool e :: .int .u32 n :: c)) (offO room F L e n o) X' → R (.bool (offB room F L e n)) s') :
    WC Try.prog base 71 [.pointer (some ⟨p, 0, none⟩), .agg (.bool e :: .int .u32 n :: c).toArray] s R := by
  refine WC_open Try.func71 rfl ?_
  have hb := h.hb
  have hp := h.hp
  have hlen : (Value.bool e :: Value.int IntKind.u32 n :: c).length = 14 := by simp [hc]
  simp (disch := first | omega | ((simp only [Ab.next_alloc, Ab.next_upd, List.length_cons, List.length_nil, ne_eq, not_true_eq_false, not_false_eq_true]) <;> omega) | decide) only [↓stepPre, stepPost, ↓W_cond, ↓W_block, ↓reduceIte, Nat.reduceEqDiff, Nat.reduceLT, Nat.reduceLeDiff, ret0, stVar, isTup, Value.cells, Nat.le_refl, Nat.reduceAdd, Nat.reduceMul, Nat.reduceSub, env0, binV, intV, reduceCtorEq, pickV, nilCheckV, ptrV, unV, true_and, and_true, Nat.add_zero, Nat.zero_add, Rt, resultsV, allV, resV, Bool.not_true, Bool.not_false, calleeV, builtinV, eqV, fieldAddrV, ldVar, stN_own, stN_ownL, Int.fdiv_eq_ediv_of_nonneg, Int.reduceToNat, Int.reducePow, IntKind.bits, convV, ne_eq, not_false_eq_true, not_true_eq_false, Int.reduceNeg, Int.reduceAdd, Int.reduceSub, Int.reduceLT, Int.reduceLE, extractV, decide_true, decide_false, Int.reduceEq, mkFuncV, stBRefInbox, beq_self_eq_true, Ty.t3, Try.underlying3, Ty.t87, Try.underlying87, Ty.t32, Try.underlying32, getL_take, List.drop_zero, List.take_succ_cons]
  have ho := h.mild (Mild.alloc s (.row (.bool e :: .int .u32 n :: c)))
  refine rlets_ok ho hF hFn (by simp only [Ab.next_alloc]; omega) hnn fun s1 hm1 => ?_
  have hl : s1.heap s.next = .row (.bool e :: .int .u32 n :: c) := by rw [hm1.heap _ (by simp only [Ab.next_alloc]; omega), Ab.heap_alloc_new]
  have hm := (Mild.alloc s (.row (.bool e :: .int .u32 n :: c))).trans hm1
  have hn1 := hm1.next
  simp only [Ab.next_alloc] at hn1
  have h1 := h.mild hm
  cases hlet : lets F e n with
  | false =>
    simp (disch := first | omega | ((simp only [Ab.next_alloc, Ab.next_upd, List.length_cons, List.length_nil, ne_eq, not_true_eq_false, not_false_eq_true]) <;> omega) | decide) only [↓stepPre, stepPost, ↓W_cond, ↓W_block, ↓reduceIte, Nat.reduceEqDiff, Nat.reduceLT, Nat.reduceLeDiff, ret0, stVar, isTup, Value.cells, Nat.le_refl, Nat.reduceAdd, Nat.reduceMul, Nat.reduceSub, env0, binV, intV, reduceCtorEq, pickV, nilCheckV, ptrV, unV, true_and, and_true, Nat.add_zero, Nat.zero_add, Rt, resultsV, allV, resV, Bool.not_true, Bool.not_false, calleeV, builtinV, eqV, fieldAddrV, ldVar, stN_own, stN_ownL, Int.fdiv_eq_ediv_of_nonneg, Int.reduceToNat, Int.reducePow, IntKind.bits, convV, ne_eq, not_false_eq_true, not_true_eq_false, Int.reduceNeg, Int.reduceAdd, Int.reduceSub, Int.reduceLT, Int.reduceLE, extractV, decide_true, decide_false, Int.reduceEq, mkFuncV, stBRefInbox, beq_self_eq_true, Try.results71]
    have : false = offB room F L e n := by simp [offB, hlet]
    rw [this]
    refine hR _ _ (.of_mild hm _) (fun b hb => .inl hb) ?_
    simp only [offL, offO, ← this, hlet, Bool.false_and, Bool.or_false, Bool.false_eq_true, if_false]
    exact h1
  | true =>
    simp (disch := first | omega | ((simp only [Ab.next_alloc, Ab.next_upd, List.length_cons, List.length_nil, ne_eq, not_true_eq_false, not_false_eq_true]) <;> omega) | decide) only [↓stepPre, stepPost, ↓W_cond, ↓W_block, ↓reduceIte, Nat.reduceEqDiff, Nat.reduceLT, Nat.reduceLeDiff, ret0, stVar, isTup, Value.cells, Nat.le_refl, Nat.reduceAdd, Nat.reduceMul, Nat.reduceSub, env0, binV, intV, reduceCtorEq, pickV, nilCheckV, ptrV, unV, true_and, and_true, Nat.add_zero, Nat.zero_add, Rt, resultsV, allV, resV, Bool.not_true, Bool.not_false, calleeV, builtinV, eqV, fieldAddrV, ldVar, stN_own, stN_ownL, Int.fdiv_eq_ediv_of_nonneg, Int.reduceToNat, Int.reducePow, IntKind.bits, convV, ne_eq, not_false_eq_true, not_true_eq_false, Int.reduceNeg, Int.reduceAdd, Int.reduceSub, Int.reduceLT, Int.reduceLE, extractV, decide_true, decide_false, Int.reduceEq, mkFuncV, stBRefInbox, beq_self_eq_true]
    refine W_draw (fun _ => false) (fun _ => false) (fun _ => false) (by kernel_rfl) (by kernel_rfl) ?_
    obtain ⟨vf, vw, g0, g1, g2, g3, g4, g5, g6⟩ := h1.ex
    simp (disch := first | omega | ((simp only [Ab.next_alloc, Ab.next_upd, List.length_cons, List.length_nil, ne_eq, not_true_eq_false, not_false_eq_true]) <;> omega) | decide) only [↓stepPre, stepPost, ↓W_cond, ↓W_block, ↓reduceIte, Nat.reduceEqDiff, Nat.reduceLT, Nat.reduceLeDiff, ret0, stVar, isTup, Value.cells, Nat.le_refl, Nat.reduceAdd, Nat.reduceMul, Nat.reduceSub, env0, binV, intV, reduceCtorEq, pickV, nilCheckV, ptrV, unV, true_and, and_true, Nat.add_zero, Nat.zero_add, Rt, resultsV, allV, resV, Bool.not_true, Bool.not_false, calleeV, builtinV, eqV, fieldAddrV, ldVar, stN_own, stN_ownL, Int.fdiv_eq_ediv_of_nonneg, Int.reduceToNat, Int.reducePow, IntKind.bits, convV, ne_eq, not_false_eq_true, not_true_eq_false, Int.reduceNeg, Int.reduceAdd, Int.reduceSub, Int.reduceLT, Int.reduceLE, extractV, decide_true, decide_false, Int.reduceEq, mkFuncV, stBRefInbox, beq_self_eq_true, Ty.t3, Try.underlying3, Ty.t105, Try.underlying105, Ty.t103, Try.underlying103, g0, g2.len Ty.elem103 Ty.arr103]
    refine Wif_dec (fun h3 => ?_) (fun h3 => ?_)
    · have hoff : false = offB room F L e n := by simp [offB]; omega
      simp (disch := first | omega | ((simp only [Ab.next_alloc, Ab.next_upd, List.length_cons, List.length_nil, ne_eq, not_true_eq_false, not_false_eq_true]) <;> omega) | decide) only [↓stepPre, stepPost, ↓W_cond, ↓W_block, ↓reduceIte, Nat.reduceEqDiff, Nat.reduceLT, Nat.reduceLeDiff, ret0, stVar, isTup, Value.cells, Nat.le_refl, Nat.reduceAdd, Nat.reduceMul, Nat.reduceSub, env0, binV, intV, reduceCtorEq, pickV, nilCheckV, ptrV, unV, true_and, and_true, Nat.add_zero, Nat.zero_add, Rt, resultsV, allV, resV, Bool.not_true, Bool.not_false, calleeV, builtinV, eqV, fieldAddrV, ldVar, stN_own, stN_ownL, Int.fdiv_eq_ediv_of_nonneg, Int.reduceToNat, Int.reducePow, IntKind.bits, convV, ne_eq, not_false_eq_true, not_true_eq_false, Int.reduceNeg, Int.reduceAdd, Int.reduceSub, Int.reduceLT, Int.reduceLE, extractV, decide_true, decide_false, Int.reduceEq, mkFuncV, stBRefInbox, beq_self_eq_true, Ty.t4, Try.underlying4, Ty.t105, Try.underlying105, g0, Try.results71]
      rw [hoff]
      refine hR _ _ (Ch.upd' (.of_mild hm _) fun _ => h.hX) (fun b hb => .inl hb) ?_
      simp only [offL, offO, ← hoff, hlet, Bool.false_eq_true, if_false, Bool.not_false, Bool.and_true, Bool.or_true]
      have hch : Ch s1 (s1.upd p (.row [.int .i64 room, vf, vw, .bool true])) (fun b => b = p) := Ch.upd' (.refl _ _) fun _ => rfl
      exact ⟨⟨vf, vw, Ab.heap_upd_same _ _ _, g1.ch hch fun b hb => (g4 b hb).1, g2.ch hch fun b hb => (g5 b hb).1, g3, g4, g5, g6⟩, hb, h1.hp, h.hX, h1.low⟩
    · have hoff : true = offB room F L e n := by simp [offB, hlet]; omega
      simp (disch := first | omega | ((simp only [Ab.next_alloc, Ab.next_upd, List.length_cons, List.length_nil, ne_eq, not_true_eq_false, not_false_eq_true]) <;> omega) | decide) only [↓stepPre, stepPost, ↓W_cond, ↓W_block, ↓reduceIte, Nat.reduceEqDiff, Nat.reduceLT, Nat.reduceLeDiff, ret0, stVar, isTup, Value.cells, Nat.le_refl, Nat.reduceAdd, Nat.reduceMul, Nat.reduceSub, env0, binV, intV, reduceCtorEq, pickV, nilCheckV, ptrV, unV, true_and, and_true, Nat.add_zero, Nat.zero_add, Rt, resultsV, allV, resV, Bool.not_true, Bool.not_false, calleeV, builtinV, eqV, fieldAddrV, ldVar, stN_own, stN_ownL, Int.fdiv_eq_ediv_of_nonneg, Int.reduceToNat, Int.reducePow, IntKind.bits, convV, ne_eq, not_false_eq_true, not_true_eq_false, Int.reduceNeg, Int.reduceAdd, Int.reduceSub, Int.reduceLT, Int.reduceLE, extractV, decide_true, decide_false, Int.reduceEq, mkFuncV, stBRefInbox, beq_self_eq_true]
      refine W_draw (fun k => k == 7 || k == 10) (fun _ => false) (fun _ => false) (by kernel_rfl) (by kernel_rfl) ?_
      have gn : Sl base (s1.alloc (.row (.bool e :: .int .u32 n :: c))) 14 (.slice (some ⟨s1.next, 0, none⟩) 1 1) [.bool e :: .int .u32 n :: c] :=
        .newRow (Ab.heap_alloc_new _ _) (by simp) rfl (by simp [hc]) (by omega) (by simp only [Ab.next_alloc]; omega)
      obtain ⟨v', s', e1, e2, e3, e4, e5, -⟩ := appB_ok (g2.mild (.alloc _ (.row (.bool e :: .int .u32 n :: c)))) g3 (by simp only [Ab.next_alloc]; omega) Ty.elem103 Ty.int103 Ty.und103 Ty.siz87 (by decide) Ty.zer87 rfl Ty.byt87 gn (by simp; omega)
      have hn4 := e4.next
      simp only [Ab.next_alloc] at hn4
      have hne : s1.next ≠ p := by omega
      have hnw : ¬ inB vw p := fun hi => (g5 p hi).1 rfl
      have hp' : s'.heap p = .row [.int .i64 room, vf, vw, .bool o] := by rw [e4.heap p (by simp only [Ab.next_alloc]; omega) hnw, Ab.heap_alloc_ne _ _ (by omega), g0]
      obtain ⟨a', n', c', rfl⟩ := e2.shape
      simp (disch := first | omega | ((simp only [Ab.next_alloc, Ab.next_upd, List.length_cons, List.length_nil, ne_eq, not_true_eq_false, not_false_eq_true]) <;> omega) | decide) only [↓stepPre, stepPost, ↓W_cond, ↓W_block, ↓reduceIte, Nat.reduceEqDiff, Nat.reduceLT, Nat.reduceLeDiff, ret0, stVar, isTup, Value.cells, Nat.le_refl, Nat.reduceAdd, Nat.reduceMul, Nat.reduceSub, env0, binV, intV, reduceCtorEq, pickV, nilCheckV, ptrV, unV, true_and, and_true, Nat.add_zero, Nat.zero_add, Rt, resultsV, allV, resV, Bool.not_true, Bool.not_false, calleeV, builtinV, eqV, fieldAddrV, ldVar, stN_own, stN_ownL, Int.fdiv_eq_ediv_of_nonneg, Int.reduceToNat, Int.reducePow, IntKind.bits, convV, ne_eq, not_false_eq_true, not_true_eq_false, Int.reduceNeg, Int.reduceAdd, Int.reduceSub, Int.reduceLT, Int.reduceLE, extractV, decide_true, decide_false, Int.reduceEq, mkFuncV, stBRefInbox, beq_self_eq_true, Ty.t105, Try.underlying105, Ty.t87, Try.underlying87, Ty.t103, Try.underlying103, g0, hl, build1 (l := .bool e :: .int .u32 n :: c) Ty.elem103 Ty.siz87 Ty.zer87 hlen rfl, e1, hp', Try.results71]
      refine ⟨Dok_next (by decide) (by simp only [Ab.next_alloc]; omega), ?_⟩
      rw [hoff]
      have hc4 : Ch s s' X := Ch.after (Ch.of_mild (hm.alloc' (o := .row (.bool e :: .int .u32 n :: c))) X) e4 fun b hb hi => (g5 b hi).2
      have hc5 : Ch s' (s'.upd p (.row [.int .i64 room, vf, .slice a' n' c', .bool o])) (fun b => b = p) := Ch.upd' (.refl _ _) fun _ => rfl
      have hnew : ∀ b, inB (.slice a' n' c') b → s1.next + 1 ≤ b := fun b hb => by have := e5 (by simp) b hb; simpa only [Ab.next_alloc] using this
      refine hR _ (fun b => X b ∨ (s.next ≤ b ∧ b < s'.next)) (Ch.upd' hc4 fun _ => h.hX) (fun b hb => hb.imp id fun x => x.1) ?_
      simp only [offL, offO, ← hoff, hlet, if_true, Bool.not_true, Bool.and_false, Bool.or_false]
      refine ⟨⟨vf, _, Ab.heap_upd_same _ _ _, ?_, e2.ch hc5 fun b hb he => ?_, e3, fun b hb => ⟨(g4 b hb).1, fun hi => ?_⟩, fun b hb => ⟨fun he => ?_, .inr ⟨?_, e2.lt b hb⟩⟩, fun b hb h => .inl (g6 b hb h)⟩, hb, by simp only [Ab.next_upd]; omega, .inl h.hX, fun b hb => ?_⟩
      · exact ((g1.mild (Mild.alloc _ (.row (.bool e :: .int .u32 n :: c)))).ch e4 fun b hb hi => (g4 b hb).2 hi).ch hc5 fun b hb he => (g4 b hb).1 he
      · have := hnew b hb; omega
      · have := hnew b hi; have := g1.lt b hb; omega
      · have := hnew b hb; omega
      · have := hnew b hb; omega
      · rcases hb with hb | hb
        · have := h.low b hb; exact ⟨this.1, by simp only [Ab.next_upd]; omega⟩
        · exact ⟨by omega, by simp only [Ab.next_upd]; omega⟩
theorem rpop_ok {p : Nat} {room : Int} {F L : List (List Value)} {o : Bool} {X : Nat → Prop} (h : OwnI base s p room F L o X) (hLn : L.length ≤ 100) (hbn : base ≤ s.next)
    (hR1 : L = [] → ∀ s', Mild s s' → R (.tuple #[.agg #[.bool false, .int .u32 0, .bool false, .int .i64 0, .int .u8 0, .int .u8 0, .int .u8 0, .int .u8 0, .int .u8 0, .int .u8 0, .int .u8 0, .int .u8 0, .int .i64 0, .int .i64 0], .bool false]) s')
    (hR2 : ∀ x L', L = x :: L' → ∀ s', Ch s s' X → OwnI base s' p room F L' o X → R (.tuple #[.agg x.toArray, .bool true]) s') :
    WC Try.prog base 66 [.pointer (some ⟨p, 0, none⟩)] s R := by
  refine WC_open Try.func66 rfl ?_
  have hb := h.hb
  have hp := h.hp
  simp (disch := first | omega | ((simp only [Ab.next_alloc, Ab.next_upd, List.length_cons, List.length_nil, ne_eq, not_true_eq_false, not_false_eq_true]) <;> omega) | decide) only [↓stepPre, stepPost, ↓W_cond, ↓W_block, ↓reduceIte, Nat.reduceEqDiff, Nat.reduceLT, Nat.reduceLeDiff, ret0, stVar, isTup, Value.cells, Nat.le_refl, Nat.reduceAdd, Nat.reduceMul, Nat.reduceSub, env0, binV, intV, reduceCtorEq, pickV, nilCheckV, ptrV, unV, true_and, and_true, Nat.add_zero, Nat.zero_add, Rt, resultsV, allV, resV, Bool.not_true, Bool.not_false, calleeV, builtinV, eqV, fieldAddrV, ldVar, stN_own, stN_ownL, Int.fdiv_eq_ediv_of_nonneg, Int.reduceToNat, Int.reducePow, IntKind.bits, convV, ne_eq, not_false_eq_true, not_true_eq_false, Int.reduceNeg, Int.reduceAdd, Int.reduceSub, Int.reduceLT, Int.reduceLE, extractV, decide_true, decide_false, Int.reduceEq, mkFuncV, stBRefInbox, beq_self_eq_true, Ty.t87, Try.underlying87]
  obtain ⟨vf, vw, g0, g1, g2, g3, g4, g5, g6⟩ := (h.mild (Mild.alloc s (.row [.bool false, .int .u32 0, .bool false, .int .i64 0, .int .u8 0, .int .u8 0, .int .u8 0, .int .u8 0, .int .u8 0, .int .u8 0, .int .u8 0, .int .u8 0, .int .i64 0, .int .i64 0]))).ex
  have hne : p ≠ s.next := by omega
  rw [Ab.heap_alloc_ne _ _ hne] at g0
  simp (disch := first | omega | ((simp only [Ab.next_alloc, Ab.next_upd, List.length_cons, List.length_nil, ne_eq, not_true_eq_false, not_false_eq_true]) <;> omega) | decide) only [↓stepPre, stepPost, ↓W_cond, ↓W_block, ↓reduceIte, Nat.reduceEqDiff, Nat.reduceLT, Nat.reduceLeDiff, ret0, stVar, isTup, Value.cells, Nat.le_refl, Nat.reduceAdd, Nat.reduceMul, Nat.reduceSub, env0, binV, intV, reduceCtorEq, pickV, nilCheckV, ptrV, unV, true_and, and_true, Nat.add_zero, Nat.zero_add, Rt, resultsV, allV, resV, Bool.not_true, Bool.not_false, calleeV, builtinV, eqV, fieldAddrV, ldVar, stN_own, stN_ownL, Int.fdiv_eq_ediv_of_nonneg, Int.reduceToNat, Int.reducePow, IntKind.bits, convV, ne_eq, not_false_eq_true, not_true_eq_false, Int.reduceNeg, Int.reduceAdd, Int.reduceSub, Int.reduceLT, Int.reduceLE, extractV, decide_true, decide_false, Int.reduceEq, mkFuncV, stBRefInbox, beq_self_eq_true, Ty.t3, Try.underlying3, Ty.t96, Try.underlying96, Ty.t105, Try.underlying105, Ty.t103, Try.underlying103, g0, g2.len Ty.elem103 Ty.arr103]
  refine Wif_dec (fun h0 => ?_) (fun h0 => ?_)
  · simp (disch := first | omega | ((simp only [Ab.next_alloc, Ab.next_upd, List.length_cons, List.length_nil, ne_eq, not_true_eq_false, not_false_eq_true]) <;> omega) | decide) only [↓stepPre, stepPost, ↓W_cond, ↓W_block, ↓reduceIte, Nat.reduceEqDiff, Nat.reduceLT, Nat.reduceLeDiff, ret0, stVar, isTup, Value.cells, Nat.le_refl, Nat.reduceAdd, Nat.reduceMul, Nat.reduceSub, env0, binV, intV, reduceCtorEq, pickV, nilCheckV, ptrV, unV, true_and, and_true, Nat.add_zero, Nat.zero_add, Rt, resultsV, allV, resV, Bool.not_true, Bool.not_false, calleeV, builtinV, eqV, fieldAddrV, ldVar, stN_own, stN_ownL, Int.fdiv_eq_ediv_of_nonneg, Int.reduceToNat, Int.reducePow, IntKind.bits, convV, ne_eq, not_false_eq_true, not_true_eq_false, Int.reduceNeg, Int.reduceAdd, Int.reduceSub, Int.reduceLT, Int.reduceLE, extractV, decide_true, decide_false, Int.reduceEq, mkFuncV, stBRefInbox, beq_self_eq_true, Ty.t87, Try.underlying87, buildV, fillL, Try.results66]
    exact hR1 (List.eq_nil_of_length_eq_zero (by omega)) _ (.alloc _ _)
  · obtain ⟨x, L', rfl⟩ : ∃ x L', L = x :: L' := by
      cases L with
      | nil => simp at h0
      | cons x L' => exact ⟨x, L', rfl⟩
    have hx : x.length = 14 := by
      cases g2 with
      | mk _ _ h3 => exact h3 x (by simp)
    have q1 := g2.index (k := .i64) (i := 0) Ty.elem103 Ty.siz87 (by omega) (by simp)
    have q2 := g2.loadA (i := 0) rfl Ty.agg87 Ty.siz87
    have g1' := g1.mild (Mild.alloc _ (.row x))
    have g2' := g2.mild (Mild.alloc _ (.row x))
    obtain ⟨v', q3, q4, q5, q6⟩ := g2'.cut (lo := some (.int .i64 1)) (hi := none) (mx := none) (l := 1) (h := L'.length + 1) (m := L'.length + 1) Ty.elem103 Ty.siz87 (fun a len cap hv => by
      subst hv
      cases g2 with
      | mk h1 h2 =>
        simp only [List.length_cons] at h1
        have ht := g3
        simp only [Tight] at ht
        simp only [cutV, intOf?]
        simp only [Option.isSome_none, Bool.false_eq_true, if_false]
        rw [if_pos ⟨by omega, by omega, by omega, by omega⟩]; simp; omega) (by omega) (by simp) (by omega)
    simp only [Int.toNat_zero, Nat.zero_mul] at q1 q2
    simp only [List.length_cons] at h0
    obtain ⟨a', n', c', rfl⟩ := q4.shape
    simp (disch := first | omega | ((simp only [Ab.next_alloc, Ab.next_upd, List.length_cons, List.length_nil, ne_eq, not_true_eq_false, not_false_eq_true]) <;> omega) | decide) only [↓stepPre, stepPost, ↓W_cond, ↓W_block, ↓reduceIte, Nat.reduceEqDiff, Nat.reduceLT, Nat.reduceLeDiff, ret0, stVar, isTup, Value.cells, Nat.le_refl, Nat.reduceAdd, Nat.reduceMul, Nat.reduceSub, env0, binV, intV, reduceCtorEq, pickV, nilCheckV, ptrV, unV, true_and, and_true, Nat.add_zero, Nat.zero_add, Rt, resultsV, allV, resV, Bool.not_true, Bool.not_false, calleeV, builtinV, eqV, fieldAddrV, ldVar, stN_own, stN_ownL, Int.fdiv_eq_ediv_of_nonneg, Int.reduceToNat, Int.reducePow, IntKind.bits, convV, ne_eq, not_false_eq_true, not_true_eq_false, Int.reduceNeg, Int.reduceAdd, Int.reduceSub, Int.reduceLT, Int.reduceLE, extractV, decide_true, decide_false, Int.reduceEq, mkFuncV, stBRefInbox, beq_self_eq_true, Ty.t105, Try.underlying105, Ty.t103, Try.underlying103, Ty.t87, Try.underlying87, g0, q1, q2, q3, hx, Try.results66]
    have hwb : ∀ b, inB vw b → b < s.next ∧ base ≤ b := fun b hb => ⟨(h.low b (g5 b hb).2).2, (h.low b (g5 b hb).2).1⟩
    have hfb : ∀ b, inB vf b → b ≠ s.next := fun b hb he => by
      have := g6 b hb (by omega)
      have := (h.low b this).2; omega
    refine hR2 x L' rfl _ ?_ ?_
    · exact Ch.upd' (Ch.upd' ((Ch.refl _ _).alloc'.alloc') fun _ => h.hX) fun hlt => by omega
    · refine ⟨⟨vf, _, by rw [Ab.heap_upd_ne _ _ hne, Ab.heap_upd_same], ?_, ?_, q6 rfl fun b hb => (hwb b hb).2, fun b hb => ⟨(g4 b hb).1, fun hi => (g4 b hb).2 (q5 b hi)⟩, fun b hb => g5 b (q5 b hb), g6⟩, hb, by simp only [Ab.next_upd, Ab.next_alloc]; omega, h.hX, fun b hb => ?_⟩
      · exact (g1'.ch (X := fun b => b = p) (Ch.upd' (.refl _ _) fun _ => rfl) fun b hb he => (g4 b hb).1 he).ch (X := fun b => b = s.next) (Ch.upd' (.refl _ _) fun _ => rfl) fun b hb he => hfb b hb he
      · have q4' : Sl base ((s.alloc (.row [.bool false, .int .u32 0, .bool false, .int .i64 0, .int .u8 0, .int .u8 0, .int .u8 0, .int .u8 0, .int .u8 0, .int .u8 0, .int .u8 0, .int .u8 0, .int .i64 0, .int .i64 0])).alloc (.row x)) 14 (.slice a' n' c') L' := by simpa using q4
        exact (q4'.ch (X := fun b => b = p) (Ch.upd' (.refl _ _) fun _ => rfl) fun b hb he => (g5 b (q5 b hb)).1 he).ch (X := fun b => b = s.next) (Ch.upd' (.refl _ _) fun _ => rfl) fun b hb he => by have := (hwb b (q5 b hb)).1; omega
      · have := h.low b hb; exact ⟨this.1, by simp only [Ab.next_upd, Ab.next_alloc]; omega⟩
end Go.Proofs.Ytghigcdpinogaaa
