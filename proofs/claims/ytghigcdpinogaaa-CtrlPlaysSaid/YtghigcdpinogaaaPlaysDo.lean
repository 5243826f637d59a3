/- An act, done to both controllers. -/
import Derived.Test.YtghigcdpinogaaaTypes
import Derived.Test.YtghigcdpinogaaaRow0
import Derived.Test.YtghigcdpinogaaaAbC
import Derived.Test.YtghigcdpinogaaaAsks
import Derived.Test.YtghigcdpinogaaaPure
import Derived.Test.YtghigcdpinogaaaBoxes
import Derived.Test.YtghigcdpinogaaaCtrl
import Derived.Test.YtghigcdpinogaaaCtrlMore
import Derived.Test.YtghigcdpinogaaaCtrlRead
import Derived.Test.YtghigcdpinogaaaPlaysLaw
set_option linter.all false
set_option maxRecDepth 20000
namespace Go.Proofs.Ytghigcdpinogaaa
open Go Go.Ab
def stBPlaysDo := And.intro @List.size_toArray.{0} (And.intro @List.length_cons.{0} (And.intro @List.length_nil.{0} (And.intro @List.set_cons_zero.{0} (And.intro @List.set_cons_succ.{0} (And.intro @List.getD_cons_zero.{0} (And.intro @List.getD_cons_succ.{0} (And.intro @List.getElem?_cons_succ.{0} (And.intro @List.getElem?_cons_zero.{0} (And.intro @List.map_cons.{0,0} (And.intro @List.map_nil.{0,0} (And.intro @Option.isNone_none.{0} (And.intro @Option.isNone_some.{0} (And.intro @Option.map_some.{0,0} (And.intro @Option.map_none.{0,0} (And.intro @List.cons_append.{0} (And.intro @List.nil_append.{0} (And.intro @List.append_nil.{0} (And.intro @Array.toList_append.{0} (And.intro @List.toList_toArray.{0} (And.intro @Int.cast_ofNat_Int (And.intro @Option.isSome_some.{0} (And.intro @List.getElem?_toArray.{0} (And.intro @List.map_toArray.{0,0} (@Nat.min_eq_left))))))))))))))))))))))))
def glBPlaysDo := And.intro @List.drop_zero.{0} (And.intro @List.drop_succ_cons.{0} (And.intro @List.take_succ_cons.{0} (And.intro @List.take_zero.{0} (@List.take_nil.{0}))))
def tyB0PlaysDo := And.intro @Ty.t64 (And.intro @Try.underlying64 (And.intro @Ty.t40 (And.intro @Try.underlying40 (And.intro @Ty.t22 (And.intro @Try.underlying22 (And.intro @Ty.t76 (And.intro @Try.underlying76 (And.intro @Ty.t23 (And.intro @Try.underlying23 (And.intro @Ty.t100 (And.intro @Try.underlying100 (And.intro @Ty.t60 (And.intro @Try.underlying60 (And.intro @Ty.t105 (And.intro @Try.underlying105 (And.intro @Ty.t96 (And.intro @Try.underlying96 (And.intro @Ty.t51 (And.intro @Try.underlying51 (And.intro @Ty.t45 (And.intro @Try.underlying45 (And.intro @Ty.t49 (And.intro @Try.underlying49 (And.intro @Ty.t38 (And.intro @Try.underlying38 (And.intro @Ty.t37 (And.intro @Try.underlying37 (And.intro @Ty.t35 (And.intro @Try.underlying35 (And.intro @Ty.t47 (And.intro @Try.underlying47 (And.intro @Ty.t34 (And.intro @Try.underlying34 (And.intro @Ty.t87 (And.intro @Try.underlying87 (And.intro @Ty.t32 (And.intro @Try.underlying32 (And.intro @Ty.t29 (And.intro @Try.underlying29 (And.intro @Ty.t3 (And.intro @Try.underlying3 (And.intro @Ty.t2 (And.intro @Try.underlying2 (And.intro @Ty.t4 (And.intro @Try.underlying4 (And.intro @Ty.t27 (And.intro @Try.underlying27 (And.intro @Ty.t5 (And.intro @Try.underlying5 (And.intro @Ty.t30 (And.intro @Try.underlying30 (And.intro @Ty.t24 @Try.underlying24))))))))))))))))))))))))))))))))))))))))))))))))))))
variable {base : Nat} [Bok base] {s : St} {R : Value → St → Prop}
structure PB (base : Nat) (s : St) (v1 : Value) (Ls : List (List Value)) (B : Nat) (c p q c' r q' : Nat) (cs cs' : CS) (U V : Nat → Prop) : Prop where
  o : ∃ X Y Z, CtrlO base s c p q cs X Y Z ∧ ∀ b, U b ↔ (X b ∨ Y b ∨ Z b)
  r : ∃ X Y Z, RC base s c' r q' cs' (atN cs'.now) (abN cs'.now) X Y Z ∧ ∀ b, V b ↔ (X b ∨ Y b ∨ Z b)
  d : ∀ b, U b → ¬ V b
  dB : ¬ U B ∧ ¬ V B
  hB : base ≤ B ∧ B < s.next
  hx : s.heap B = .row [.pointer (some ⟨c, 0, none⟩), .pointer (some ⟨c', 0, none⟩)]
  l : Sl base s 34 v1 Ls
  hold : ∀ b, inB v1 b → b < base
  hbn : base ≤ s.next
variable {v1 : Value} {Ls : List (List Value)} {B c p q c' r q' : Nat} {cs cs' : CS} {U V : Nat → Prop} {i : Nat}
theorem PB.lowU (h : PB base s v1 Ls B c p q c' r q' cs cs' U V) : ∀ b, U b → base ≤ b ∧ b < s.next := by
  obtain ⟨X, Y, Z, C, hu⟩ := h.o
  intro b hb
  rcases (hu b).1 hb with h | h | h
  · exact C.o.low b h
  · exact C.i.low b h
  · exact C.z b h
theorem PB.lowV (h : PB base s v1 Ls B c p q c' r q' cs cs' U V) : ∀ b, V b → base ≤ b ∧ b < s.next := by
  obtain ⟨X, Y, Z, C, hu⟩ := h.r
  intro b hb
  rcases (hu b).1 hb with h | h | h
  · exact C.o.low b h
  · exact C.i.low b h
  · exact C.z b h
theorem PB.own {s' : St} {cs2 : CS} {X Y Z : Nat → Prop} (h : PB base s v1 Ls B c p q c' r q' cs cs' U V) (hc : Ch s s' U) (C : CtrlO base s' c p q cs2 X Y Z) (hu : ∀ b, X b ∨ Y b ∨ Z b → U b ∨ s.next ≤ b) :
    PB base s' v1 Ls B c p q c' r q' cs2 cs' (fun b => X b ∨ Y b ∨ Z b) V := by
  have hn := hc.next
  have hV := h.lowV
  have hU := h.lowU
  have hB := h.hB
  have hbn := h.hbn
  obtain ⟨X', Y', Z', C', hv⟩ := h.r
  refine ⟨⟨X, Y, Z, C, fun b => Iff.rfl⟩, ⟨X', Y', Z', C'.ch hc fun b hb => ⟨fun hx => h.d b hb ((hv b).2 (.inl hx)), fun hx => h.d b hb ((hv b).2 (.inr (.inl hx))), fun hx => h.d b hb ((hv b).2 (.inr (.inr hx))), (hU b hb).1⟩, hv⟩, fun b hb hv' => ?_, ⟨fun hb => ?_, h.dB.2⟩, by omega, ?_, h.l.ch hc fun b hb hu' => ?_, h.hold, by omega⟩
  · rcases hu b hb with h1 | h1
    · exact h.d b h1 hv'
    · have := (hV b hv').2; omega
  · rcases hu B hb with h1 | h1
    · exact h.dB.1 h1
    · omega
  · rw [hc.heap B hB.2 h.dB.1]; exact h.hx
  · have := h.hold b hb; have := (hU b hu').1; omega
theorem PB.ref {s' : St} {cs2 : CS} {X Y Z : Nat → Prop} (h : PB base s v1 Ls B c p q c' r q' cs cs' U V) (hc : Ch s s' V) (C : RC base s' c' r q' cs2 (atN cs2.now) (abN cs2.now) X Y Z) (hu : ∀ b, X b ∨ Y b ∨ Z b → V b ∨ s.next ≤ b) :
    PB base s' v1 Ls B c p q c' r q' cs cs2 U (fun b => X b ∨ Y b ∨ Z b) := by
  have hn := hc.next
  have hV := h.lowV
  have hU := h.lowU
  have hB := h.hB
  have hbn := h.hbn
  obtain ⟨X', Y', Z', C', hv⟩ := h.o
  refine ⟨⟨X', Y', Z', C'.ch hc fun b hb => ⟨fun hx => h.d b ((hv b).2 (.inl hx)) hb, fun hx => h.d b ((hv b).2 (.inr (.inl hx))) hb, fun hx => h.d b ((hv b).2 (.inr (.inr hx))) hb, (hV b hb).1⟩, hv⟩, ⟨X, Y, Z, C, fun b => Iff.rfl⟩, fun b hb hv' => ?_, ⟨h.dB.1, fun hb => ?_⟩, by omega, ?_, h.l.ch hc fun b hb hu' => ?_, h.hold, by omega⟩
  · rcases hu b hv' with h1 | h1
    · exact h.d b hb h1
    · have := (hU b hb).2; omega
  · rcases hu B hb with h1 | h1
    · exact h.dB.2 h1
    · omega
  · rw [hc.heap B hB.2 h.dB.2]; exact h.hx
  · have := h.hold b hb; have := (hV b hu').1; omega
theorem PB.mild {s' : St} (h : PB base s v1 Ls B c p q c' r q' cs cs' U V) (hm : Mild s s') : PB base s' v1 Ls B c p q c' r q' cs cs' U V := by
  have hn := hm.next
  have hbn := h.hbn
  have hB := h.hB
  obtain ⟨X, Y, Z, C, hu⟩ := h.o
  obtain ⟨X', Y', Z', C', hv⟩ := h.r
  exact ⟨⟨X, Y, Z, C.mild hm, hu⟩, ⟨X', Y', Z', C'.mild hm, hv⟩, h.d, h.dB, by omega, by rw [hm.heap B hB.2]; exact h.hx, h.l.mild hm, h.hold, by omega⟩
theorem do_ok {k : Int} {po : Po} {z1 z2 z3 z4 he rr : Bool} {bd hn ll x0 x1 x2 x3 x4 x5 x6 x7 ph t : Int} (h : PB base s v1 Ls B c p q c' r q' cs cs U V) (g : CG cs i) (hi : i ≤ 80) (hpn : po.n < 2 ^ 32) (hhn : 0 ≤ hn ∧ hn < 2 ^ 32)
    (hR : ∀ s' U' V' cs', s.next ≤ s'.next → CG cs' (i + 1) → PB base s' v1 Ls B c p q c' r q' cs' cs' U' V' → R (.bool true) s') :
    WC Try.prog base 16 [.agg #[.pointer (some ⟨c, 0, none⟩), .pointer (some ⟨c', 0, none⟩)], .agg #[.int .i64 k, .bool po.e, .int .u32 (po.n : Int), .bool po.r, .int .i64 po.l, .int .u8 (po.d0 : Int), .int .u8 (po.d1 : Int), .int .u8 (po.d2 : Int), .int .u8 (po.d3 : Int), .int .u8 (po.d4 : Int), .int .u8 (po.d5 : Int), .int .u8 (po.d6 : Int), .int .u8 (po.d7 : Int), .bool po.o, .int .i64 po.t, .bool z1, .bool z2, .bool z3, .bool z4, .int .i64 bd, .bool he, .int .u32 hn, .bool rr, .int .i64 ll, .int .u8 x0, .int .u8 x1, .int .u8 x2, .int .u8 x3, .int .u8 x4, .int .u8 x5, .int .u8 x6, .int .u8 x7, .int .i64 ph, .int .i64 t]] s R := by
  refine WC_open Try.func16 rfl ?_
  have hbn := h.hbn
  have hB := h.hB
  have hU := h.lowU
  have hV := h.lowV
  have hgL : ∀ p, some p ∈ cs.L → p.good := by
    obtain ⟨X, Y, Z, C, -⟩ := h.o
    exact C.o.good
  have hfl := g.fl
  have hWr := g.Wr
  have hrm := g.rm
  have hFn := g.Fn
  have M0 := Mild.alloc s (.row [.pointer (some ⟨c, 0, none⟩), .pointer (some ⟨c', 0, none⟩)])
  have M1 := fun l => M0.trans (Mild.alloc (s.alloc (.row [.pointer (some ⟨c, 0, none⟩), .pointer (some ⟨c', 0, none⟩)])) (.row l))
  have h1 := fun l => h.mild (M1 l)
  have keep : ∀ (l : List Value) (s2 : St) (Q : Nat → Prop), Ch ((s.alloc (.row [.pointer (some ⟨c, 0, none⟩), .pointer (some ⟨c', 0, none⟩)])).alloc (.row l)) s2 Q → (∀ b, Q b → b < s.next) → s2.heap s.next = .row [.pointer (some ⟨c, 0, none⟩), .pointer (some ⟨c', 0, none⟩)] ∧ s2.heap (s.next + 1) = .row l ∧ s.next + 2 ≤ s2.next := fun l s2 Q hc hq => by
    have n2 := hc.next
    simp only [Ab.next_alloc] at n2
    refine ⟨?_, ?_, by omega⟩
    · rw [hc.heap _ (by simp only [Ab.next_alloc]; omega) fun hb => by have := hq _ hb; omega, Ab.heap_alloc_ne _ _ (by simp only [Ab.next_alloc]; omega), Ab.heap_alloc_new]
    · rw [hc.heap _ (by simp only [Ab.next_alloc]; omega) fun hb => by have := hq _ hb; omega]
      exact Ab.heap_alloc_new _ _
  by_cases hk : k = 0
  · subst hk
    simp (disch := first | omega | ((simp only [Ab.next_alloc, Ab.next_upd, List.length_cons, List.length_nil, ne_eq, not_true_eq_false, not_false_eq_true]) <;> omega) | decide) only [↓stepPre, stepPost, ↓W_cond, ↓W_block, ↓reduceIte, Nat.reduceEqDiff, Nat.reduceLT, Nat.reduceLeDiff, ret0, stVar, isTup, Value.cells, Nat.le_refl, Nat.reduceAdd, Nat.reduceMul, Nat.reduceSub, env0, binV, intV, reduceCtorEq, pickV, nilCheckV, ptrV, unV, true_and, and_true, Nat.add_zero, Nat.zero_add, Rt, resultsV, allV, resV, Bool.not_true, Bool.not_false, calleeV, builtinV, eqV, fieldAddrV, ldVar, stN_own, stN_ownL, Int.fdiv_eq_ediv_of_nonneg, Int.reduceToNat, Int.reducePow, IntKind.bits, convV, ne_eq, not_false_eq_true, not_true_eq_false, Int.reduceNeg, Int.reduceAdd, Int.reduceSub, Int.reduceLT, Int.reduceLE, extractV, decide_true, decide_false, Int.reduceEq, mkFuncV, stBPlaysDo, beq_self_eq_true, tyB0PlaysDo, getL_take, glBPlaysDo, eq_self]
    obtain ⟨X, Y, Z, C, hu⟩ := (h1 _).o
    refine submit_ok (po := po) C hpn fun s2 X2 c2 x2 C2 => ?_
    have h2 := (h1 _).own (c2.mono fun b _ hb => (hu b).2 (.inl hb)) C2 fun b hb => by
      rcases hb with hb | hb | hb
      · exact (x2 b hb).imp (fun hb => (hu b).2 (.inl hb)) id
      · exact .inl ((hu b).2 (.inr (.inl hb)))
      · exact .inl ((hu b).2 (.inr (.inr hb)))
    obtain ⟨g1, g2, g3⟩ := keep _ _ _ c2 fun b hb => (hU b ((hu b).2 (.inl hb))).2
    simp (disch := first | omega | ((simp only [Ab.next_alloc, Ab.next_upd, List.length_cons, List.length_nil, ne_eq, not_true_eq_false, not_false_eq_true]) <;> omega) | decide) only [↓stepPre, stepPost, ↓W_cond, ↓W_block, ↓reduceIte, Nat.reduceEqDiff, Nat.reduceLT, Nat.reduceLeDiff, ret0, stVar, isTup, Value.cells, Nat.le_refl, Nat.reduceAdd, Nat.reduceMul, Nat.reduceSub, env0, binV, intV, reduceCtorEq, pickV, nilCheckV, ptrV, unV, true_and, and_true, Nat.add_zero, Nat.zero_add, Rt, resultsV, allV, resV, Bool.not_true, Bool.not_false, calleeV, builtinV, eqV, fieldAddrV, ldVar, stN_own, stN_ownL, Int.fdiv_eq_ediv_of_nonneg, Int.reduceToNat, Int.reducePow, IntKind.bits, convV, ne_eq, not_false_eq_true, not_true_eq_false, Int.reduceNeg, Int.reduceAdd, Int.reduceSub, Int.reduceLT, Int.reduceLE, extractV, decide_true, decide_false, Int.reduceEq, mkFuncV, stBPlaysDo, beq_self_eq_true, tyB0PlaysDo, getL_take, glBPlaysDo, g1, g2]
    obtain ⟨X', Y', Z', C', hv⟩ := h2.r
    refine rcsubmit_ok (po := po) C' hpn fun s3 c3 C3 => ?_
    have h3 := h2.ref (c3.mono fun b _ hb => (hv b).2 (.inl hb)) C3 fun b hb => .inl ((hv b).2 hb)
    simp (disch := first | omega | ((simp only [Ab.next_alloc, Ab.next_upd, List.length_cons, List.length_nil, ne_eq, not_true_eq_false, not_false_eq_true]) <;> omega) | decide) only [↓stepPre, stepPost, ↓W_cond, ↓W_block, ↓reduceIte, Nat.reduceEqDiff, Nat.reduceLT, Nat.reduceLeDiff, ret0, stVar, isTup, Value.cells, Nat.le_refl, Nat.reduceAdd, Nat.reduceMul, Nat.reduceSub, env0, binV, intV, reduceCtorEq, pickV, nilCheckV, ptrV, unV, true_and, and_true, Nat.add_zero, Nat.zero_add, Rt, resultsV, allV, resV, Bool.not_true, Bool.not_false, calleeV, builtinV, eqV, fieldAddrV, ldVar, stN_own, stN_ownL, Int.fdiv_eq_ediv_of_nonneg, Int.reduceToNat, Int.reducePow, IntKind.bits, convV, ne_eq, not_false_eq_true, not_true_eq_false, Int.reduceNeg, Int.reduceAdd, Int.reduceSub, Int.reduceLT, Int.reduceLE, extractV, decide_true, decide_false, Int.reduceEq, mkFuncV, stBPlaysDo, beq_self_eq_true, tyB0PlaysDo, getL_take, glBPlaysDo, eq_self, Try.results16]
    have n3 := c3.next
    exact hR _ _ _ _ (by omega) g.put h3
  by_cases hk1 : k = 1
  · subst hk1
    simp (disch := first | omega | ((simp only [Ab.next_alloc, Ab.next_upd, List.length_cons, List.length_nil, ne_eq, not_true_eq_false, not_false_eq_true]) <;> omega) | decide) only [↓stepPre, stepPost, ↓W_cond, ↓W_block, ↓reduceIte, Nat.reduceEqDiff, Nat.reduceLT, Nat.reduceLeDiff, ret0, stVar, isTup, Value.cells, Nat.le_refl, Nat.reduceAdd, Nat.reduceMul, Nat.reduceSub, env0, binV, intV, reduceCtorEq, pickV, nilCheckV, ptrV, unV, true_and, and_true, Nat.add_zero, Nat.zero_add, Rt, resultsV, allV, resV, Bool.not_true, Bool.not_false, calleeV, builtinV, eqV, fieldAddrV, ldVar, stN_own, stN_ownL, Int.fdiv_eq_ediv_of_nonneg, Int.reduceToNat, Int.reducePow, IntKind.bits, convV, ne_eq, not_false_eq_true, not_true_eq_false, Int.reduceNeg, Int.reduceAdd, Int.reduceSub, Int.reduceLT, Int.reduceLE, extractV, decide_true, decide_false, Int.reduceEq, mkFuncV, stBPlaysDo, beq_self_eq_true, tyB0PlaysDo, getL_take, glBPlaysDo, eq_self]
    refine W_draw (fun k => k == 5 || k == 11) (fun j => j == 7 || j == 10) (fun b => decide (b = s.next ∨ b = s.next + 1)) (by kernel_rfl) (by kernel_rfl) ?_
    simp (disch := first | omega | ((simp only [Ab.next_alloc, Ab.next_upd, List.length_cons, List.length_nil, ne_eq, not_true_eq_false, not_false_eq_true]) <;> omega) | decide) only [↓stepPre, stepPost, ↓W_cond, ↓W_block, ↓reduceIte, Nat.reduceEqDiff, Nat.reduceLT, Nat.reduceLeDiff, ret0, stVar, isTup, Value.cells, Nat.le_refl, Nat.reduceAdd, Nat.reduceMul, Nat.reduceSub, env0, binV, intV, reduceCtorEq, pickV, nilCheckV, ptrV, unV, true_and, and_true, Nat.add_zero, Nat.zero_add, Rt, resultsV, allV, resV, Bool.not_true, Bool.not_false, calleeV, builtinV, eqV, fieldAddrV, ldVar, stN_own, stN_ownL, Int.fdiv_eq_ediv_of_nonneg, Int.reduceToNat, Int.reducePow, IntKind.bits, convV, ne_eq, not_false_eq_true, not_true_eq_false, Int.reduceNeg, Int.reduceAdd, Int.reduceSub, Int.reduceLT, Int.reduceLE, extractV, decide_true, decide_false, Int.reduceEq, mkFuncV, stBPlaysDo, beq_self_eq_true, tyB0PlaysDo, getL_take, glBPlaysDo, eq_self, Lok_at, Nat.reduceBEq, Bool.or_self, Bool.or_true, Bool.true_or, Bool.or_false, Bool.false_or, Bool.false_eq_true, false_implies, or_true, true_or, decide_true, true_and]
    obtain ⟨X, Y, Z, C, hu⟩ := (h1 _).o
    refine abort_ok (t := po.t) C (by omega) fun s2 Z2 c2 zz2 C2 => ?_
    have h2 := (h1 _).own (c2.mono fun b _ hb => (hu b).2 (hb.elim .inl fun h => .inr (.inr h))) C2 fun b hb => by
      rcases hb with hb | hb | hb
      · exact .inl ((hu b).2 (.inl hb))
      · exact .inl ((hu b).2 (.inr (.inl hb)))
      · exact (zz2 b hb).imp (fun hb => (hu b).2 (.inr (.inr hb))) id
    obtain ⟨g1, g2, g3⟩ := keep _ _ _ c2 fun b hb => (hU b ((hu b).2 (hb.elim .inl fun h => .inr (.inr h)))).2
    refine ⟨.inr ⟨rfl, c2.next, fun b hb _ => ?_⟩, ?_⟩
    · rcases of_decide_eq_true hb with rfl | rfl
      · rw [g1, Ab.heap_alloc_ne _ _ (by simp only [Ab.next_alloc]; omega), Ab.heap_alloc_new]
      · rw [g2]; exact (Ab.heap_alloc_new _ _).symm
    simp (disch := first | omega | ((simp only [Ab.next_alloc, Ab.next_upd, List.length_cons, List.length_nil, ne_eq, not_true_eq_false, not_false_eq_true]) <;> omega) | decide) only [↓stepPre, stepPost, ↓W_cond, ↓W_block, ↓reduceIte, Nat.reduceEqDiff, Nat.reduceLT, Nat.reduceLeDiff, ret0, stVar, isTup, Value.cells, Nat.le_refl, Nat.reduceAdd, Nat.reduceMul, Nat.reduceSub, env0, binV, intV, reduceCtorEq, pickV, nilCheckV, ptrV, unV, true_and, and_true, Nat.add_zero, Nat.zero_add, Rt, resultsV, allV, resV, Bool.not_true, Bool.not_false, calleeV, builtinV, eqV, fieldAddrV, ldVar, stN_own, stN_ownL, Int.fdiv_eq_ediv_of_nonneg, Int.reduceToNat, Int.reducePow, IntKind.bits, convV, ne_eq, not_false_eq_true, not_true_eq_false, Int.reduceNeg, Int.reduceAdd, Int.reduceSub, Int.reduceLT, Int.reduceLE, extractV, decide_true, decide_false, Int.reduceEq, mkFuncV, stBPlaysDo, beq_self_eq_true, tyB0PlaysDo, getL_take, glBPlaysDo, g1, g2, Lok_at, Nat.reduceBEq, Bool.or_self, Bool.or_true, Bool.true_or, Bool.or_false, Bool.false_or, Bool.false_eq_true, false_implies, or_true, true_or, decide_true, true_and]
    refine ⟨fun _ => by omega, fun _ => by omega, ?_⟩
    obtain ⟨X', Y', Z', C', hv⟩ := h2.r
    refine rcabort_ok (t := po.t) C' g.fil (by omega) fun s3 Z3 c3 zz3 C3 => ?_
    have h3 := h2.ref (c3.mono fun b _ hb => (hv b).2 (hb.elim .inl fun h => .inr (.inr h))) C3 fun b hb => by
      rcases hb with hb | hb | hb
      · exact .inl ((hv b).2 (.inl hb))
      · exact .inl ((hv b).2 (.inr (.inl hb)))
      · exact (zz3 b hb).imp (fun hb => (hv b).2 (.inr (.inr hb))) id
    refine ⟨.inr ⟨rfl, c3.next, fun b hb hlt => ?_⟩, ?_⟩
    · refine c3.heap b ?_ fun hb' => ?_
      · rcases of_decide_eq_true hb with rfl | rfl <;> omega
      · have h4 := hV b ((hv b).2 (hb'.elim .inl fun h => .inr (.inr h)))
        rcases of_decide_eq_true hb with rfl | rfl <;> omega
    simp (disch := first | omega | ((simp only [Ab.next_alloc, Ab.next_upd, List.length_cons, List.length_nil, ne_eq, not_true_eq_false, not_false_eq_true]) <;> omega) | decide) only [↓stepPre, stepPost, ↓W_cond, ↓W_block, ↓reduceIte, Nat.reduceEqDiff, Nat.reduceLT, Nat.reduceLeDiff, ret0, stVar, isTup, Value.cells, Nat.le_refl, Nat.reduceAdd, Nat.reduceMul, Nat.reduceSub, env0, binV, intV, reduceCtorEq, pickV, nilCheckV, ptrV, unV, true_and, and_true, Nat.add_zero, Nat.zero_add, Rt, resultsV, allV, resV, Bool.not_true, Bool.not_false, calleeV, builtinV, eqV, fieldAddrV, ldVar, stN_own, stN_ownL, Int.fdiv_eq_ediv_of_nonneg, Int.reduceToNat, Int.reducePow, IntKind.bits, convV, ne_eq, not_false_eq_true, not_true_eq_false, Int.reduceNeg, Int.reduceAdd, Int.reduceSub, Int.reduceLT, Int.reduceLE, extractV, decide_true, decide_false, Int.reduceEq, mkFuncV, stBPlaysDo, beq_self_eq_true, tyB0PlaysDo, getL_take, glBPlaysDo, eq_self, Try.results16]
    have n3 := c3.next
    exact hR _ _ _ _ (by omega) g.abort h3
  by_cases hk2 : k = 2
  · subst hk2
    simp (disch := first | omega | ((simp only [Ab.next_alloc, Ab.next_upd, List.length_cons, List.length_nil, ne_eq, not_true_eq_false, not_false_eq_true]) <;> omega) | decide) only [↓stepPre, stepPost, ↓W_cond, ↓W_block, ↓reduceIte, Nat.reduceEqDiff, Nat.reduceLT, Nat.reduceLeDiff, ret0, stVar, isTup, Value.cells, Nat.le_refl, Nat.reduceAdd, Nat.reduceMul, Nat.reduceSub, env0, binV, intV, reduceCtorEq, pickV, nilCheckV, ptrV, unV, true_and, and_true, Nat.add_zero, Nat.zero_add, Rt, resultsV, allV, resV, Bool.not_true, Bool.not_false, calleeV, builtinV, eqV, fieldAddrV, ldVar, stN_own, stN_ownL, Int.fdiv_eq_ediv_of_nonneg, Int.reduceToNat, Int.reducePow, IntKind.bits, convV, ne_eq, not_false_eq_true, not_true_eq_false, Int.reduceNeg, Int.reduceAdd, Int.reduceSub, Int.reduceLT, Int.reduceLE, extractV, decide_true, decide_false, Int.reduceEq, mkFuncV, stBPlaysDo, beq_self_eq_true, tyB0PlaysDo, getL_take, glBPlaysDo, eq_self]
    obtain ⟨X, Y, Z, C, hu⟩ := (h1 _).o
    refine cread_ok C (by omega) (fun hw s2 m2 => ?_) fun x L' hw s2 c2 C2 => ?_
    · obtain ⟨g1, g2, g3⟩ := keep _ _ _ (Ch.of_mild m2 (fun _ => False)) fun b hb => hb.elim
      simp (disch := first | omega | ((simp only [Ab.next_alloc, Ab.next_upd, List.length_cons, List.length_nil, ne_eq, not_true_eq_false, not_false_eq_true]) <;> omega) | decide) only [↓stepPre, stepPost, ↓W_cond, ↓W_block, ↓reduceIte, Nat.reduceEqDiff, Nat.reduceLT, Nat.reduceLeDiff, ret0, stVar, isTup, Value.cells, Nat.le_refl, Nat.reduceAdd, Nat.reduceMul, Nat.reduceSub, env0, binV, intV, reduceCtorEq, pickV, nilCheckV, ptrV, unV, true_and, and_true, Nat.add_zero, Nat.zero_add, Rt, resultsV, allV, resV, Bool.not_true, Bool.not_false, calleeV, builtinV, eqV, fieldAddrV, ldVar, stN_own, stN_ownL, Int.fdiv_eq_ediv_of_nonneg, Int.reduceToNat, Int.reducePow, IntKind.bits, convV, ne_eq, not_false_eq_true, not_true_eq_false, Int.reduceNeg, Int.reduceAdd, Int.reduceSub, Int.reduceLT, Int.reduceLE, extractV, decide_true, decide_false, Int.reduceEq, mkFuncV, stBPlaysDo, beq_self_eq_true, tyB0PlaysDo, getL_take, glBPlaysDo, g1, g2]
      have h2 := ((h1 _).mild m2).mild (Mild.alloc s2 (.row [.bool false, .int .u32 0, .bool false, .int .i64 0, .int .u8 0, .int .u8 0, .int .u8 0, .int .u8 0, .int .u8 0, .int .u8 0, .int .u8 0, .int .u8 0, .int .i64 0, .int .i64 0]))
      obtain ⟨X', Y', Z', C', hv⟩ := h2.r
      refine rcread_ok C' (by omega) (fun hw s3 m3 => ?_) fun x L' hw' s3 c3 C3 => absurd (hw.symm.trans hw') (by simp)
      have n3 := m3.next
      simp only [Ab.next_alloc] at n3
      have q3 : s3.heap s2.next = .row [.bool false, .int .u32 0, .bool false, .int .i64 0, .int .u8 0, .int .u8 0, .int .u8 0, .int .u8 0, .int .u8 0, .int .u8 0, .int .u8 0, .int .u8 0, .int .i64 0, .int .i64 0] := by rw [m3.heap _ (by simp only [Ab.next_alloc]; omega), Ab.heap_alloc_new]
      have hne : s2.next ≠ s3.next := by omega
      have key := hR (s3.alloc (.row [.bool false, .int .u32 0, .bool false, .int .i64 0, .int .u8 0, .int .u8 0, .int .u8 0, .int .u8 0, .int .u8 0, .int .u8 0, .int .u8 0, .int .u8 0, .int .i64 0, .int .i64 0])) _ _ _ (by simp only [Ab.next_alloc]; omega) g.pop (by
        have e : { cs with W := cs.W.tail } = cs := by rw [hw]; simp only [List.tail_nil]; rw [← hw]
        rw [e]; exact (h2.mild m3).mild (Mild.alloc s3 (.row [.bool false, .int .u32 0, .bool false, .int .i64 0, .int .u8 0, .int .u8 0, .int .u8 0, .int .u8 0, .int .u8 0, .int .u8 0, .int .u8 0, .int .u8 0, .int .i64 0, .int .i64 0])))
      simp (disch := first | omega | ((simp only [Ab.next_alloc, Ab.next_upd, List.length_cons, List.length_nil, ne_eq, not_true_eq_false, not_false_eq_true]) <;> omega) | decide) only [↓stepPre, stepPost, ↓W_cond, ↓W_block, ↓reduceIte, Nat.reduceEqDiff, Nat.reduceLT, Nat.reduceLeDiff, ret0, stVar, isTup, Value.cells, Nat.le_refl, Nat.reduceAdd, Nat.reduceMul, Nat.reduceSub, env0, binV, intV, reduceCtorEq, pickV, nilCheckV, ptrV, unV, true_and, and_true, Nat.add_zero, Nat.zero_add, Rt, resultsV, allV, resV, Bool.not_true, Bool.not_false, calleeV, builtinV, eqV, fieldAddrV, ldVar, stN_own, stN_ownL, Int.fdiv_eq_ediv_of_nonneg, Int.reduceToNat, Int.reducePow, IntKind.bits, convV, ne_eq, not_false_eq_true, not_true_eq_false, Int.reduceNeg, Int.reduceAdd, Int.reduceSub, Int.reduceLT, Int.reduceLE, extractV, decide_true, decide_false, Int.reduceEq, mkFuncV, stBPlaysDo, beq_self_eq_true, tyB0PlaysDo, getL_take, glBPlaysDo, q3, fitsAll, Kd.fits, eqCells, eqCell, Bool.and_self, and_self, eq_self, Try.results16]
      exact key
    · obtain ⟨g1, g2, g3⟩ := keep _ _ _ c2 fun b hb => (hU b ((hu b).2 (.inr (.inl hb)))).2
      have hfx : fitsAll kdS x = true := g.W x (by rw [hw]; simp)
      have hx14 : x.length = 14 := by
        have : ∀ {ks : List Kd} {l : List Value}, fitsAll ks l = true → l.length = ks.length := by
          intro ks
          induction ks with
          | nil => intro l h; cases l <;> first | rfl | cases h
          | cons k ks ih => intro l h; cases l with
            | nil => cases h
            | cons v l => simp only [fitsAll, Bool.and_eq_true] at h; simp [ih h.2]
        simpa using this hfx
      have h2 := ((h1 _).own (c2.mono fun b _ hb => (hu b).2 (.inr (.inl hb))) C2 fun b hb => .inl ((hu b).2 hb)).mild (Mild.alloc s2 (.row x))
      simp (disch := first | omega | ((simp only [Ab.next_alloc, Ab.next_upd, List.length_cons, List.length_nil, ne_eq, not_true_eq_false, not_false_eq_true]) <;> omega) | decide) only [↓stepPre, stepPost, ↓W_cond, ↓W_block, ↓reduceIte, Nat.reduceEqDiff, Nat.reduceLT, Nat.reduceLeDiff, ret0, stVar, isTup, Value.cells, Nat.le_refl, Nat.reduceAdd, Nat.reduceMul, Nat.reduceSub, env0, binV, intV, reduceCtorEq, pickV, nilCheckV, ptrV, unV, true_and, and_true, Nat.add_zero, Nat.zero_add, Rt, resultsV, allV, resV, Bool.not_true, Bool.not_false, calleeV, builtinV, eqV, fieldAddrV, ldVar, stN_own, stN_ownL, Int.fdiv_eq_ediv_of_nonneg, Int.reduceToNat, Int.reducePow, IntKind.bits, convV, ne_eq, not_false_eq_true, not_true_eq_false, Int.reduceNeg, Int.reduceAdd, Int.reduceSub, Int.reduceLT, Int.reduceLE, extractV, decide_true, decide_false, Int.reduceEq, mkFuncV, stBPlaysDo, beq_self_eq_true, tyB0PlaysDo, getL_take, glBPlaysDo, g1, g2, hx14]
      obtain ⟨X', Y', Z', C', hv⟩ := h2.r
      refine rcread_ok C' (by omega) (fun hw' => absurd (hw.symm.trans hw') (by simp)) fun x2 L2 hw2 s3 c3 C3 => ?_
      obtain ⟨rfl, rfl⟩ : x = x2 ∧ L' = L2 := by rw [hw] at hw2; simpa using hw2
      have n3 := c3.next
      simp only [Ab.next_alloc] at n3
      have q3 : s3.heap s2.next = .row x := by rw [c3.heap _ (by simp only [Ab.next_alloc]; omega) fun hy => by have := (hV _ ((hv _).2 (.inr (.inl hy)))).2; omega, Ab.heap_alloc_new]
      have hne : s2.next ≠ s3.next := by omega
      have h3 := (h2.ref (c3.mono fun b _ hb => (hv b).2 (.inr (.inl hb))) C3 fun b hb => .inl ((hv b).2 hb)).mild (Mild.alloc s3 (.row x))
      have key := hR (s3.alloc (.row x)) _ _ _ (by simp only [Ab.next_alloc]; omega) g.pop (by
        have e : { cs with W := cs.W.tail } = { cs with W := L' } := by rw [hw]; rfl
        rw [e]; exact h3)
      have hxt : List.take 14 x = x := List.take_of_length_le (by omega)
      simp (disch := first | omega | ((simp only [Ab.next_alloc, Ab.next_upd, List.length_cons, List.length_nil, ne_eq, not_true_eq_false, not_false_eq_true]) <;> omega) | decide) only [↓stepPre, stepPost, ↓W_cond, ↓W_block, ↓reduceIte, Nat.reduceEqDiff, Nat.reduceLT, Nat.reduceLeDiff, ret0, stVar, isTup, Value.cells, Nat.le_refl, Nat.reduceAdd, Nat.reduceMul, Nat.reduceSub, env0, binV, intV, reduceCtorEq, pickV, nilCheckV, ptrV, unV, true_and, and_true, Nat.add_zero, Nat.zero_add, Rt, resultsV, allV, resV, Bool.not_true, Bool.not_false, calleeV, builtinV, eqV, fieldAddrV, ldVar, stN_own, stN_ownL, Int.fdiv_eq_ediv_of_nonneg, Int.reduceToNat, Int.reducePow, IntKind.bits, convV, ne_eq, not_false_eq_true, not_true_eq_false, Int.reduceNeg, Int.reduceAdd, Int.reduceSub, Int.reduceLT, Int.reduceLE, extractV, decide_true, decide_false, Int.reduceEq, mkFuncV, stBPlaysDo, beq_self_eq_true, tyB0PlaysDo, getL_take, glBPlaysDo, q3, hx14, hxt, hfx, eqCells_refl hfx, Bool.and_self, and_self, eq_self, Try.results16]
      exact key
  by_cases hk3 : k = 3
  · subst hk3
    simp (disch := first | omega | ((simp only [Ab.next_alloc, Ab.next_upd, List.length_cons, List.length_nil, ne_eq, not_true_eq_false, not_false_eq_true]) <;> omega) | decide) only [↓stepPre, stepPost, ↓W_cond, ↓W_block, ↓reduceIte, Nat.reduceEqDiff, Nat.reduceLT, Nat.reduceLeDiff, ret0, stVar, isTup, Value.cells, Nat.le_refl, Nat.reduceAdd, Nat.reduceMul, Nat.reduceSub, env0, binV, intV, reduceCtorEq, pickV, nilCheckV, ptrV, unV, true_and, and_true, Nat.add_zero, Nat.zero_add, Rt, resultsV, allV, resV, Bool.not_true, Bool.not_false, calleeV, builtinV, eqV, fieldAddrV, ldVar, stN_own, stN_ownL, Int.fdiv_eq_ediv_of_nonneg, Int.reduceToNat, Int.reducePow, IntKind.bits, convV, ne_eq, not_false_eq_true, not_true_eq_false, Int.reduceNeg, Int.reduceAdd, Int.reduceSub, Int.reduceLT, Int.reduceLE, extractV, decide_true, decide_false, Int.reduceEq, mkFuncV, stBPlaysDo, beq_self_eq_true, tyB0PlaysDo, getL_take, glBPlaysDo, eq_self]
    refine W_draw (fun k => k == 2 || k == 5) (fun j => j == 4) (fun b => decide (b = s.next)) (by kernel_rfl) (by kernel_rfl) ?_
    simp (disch := first | omega | ((simp only [Ab.next_alloc, Ab.next_upd, List.length_cons, List.length_nil, ne_eq, not_true_eq_false, not_false_eq_true]) <;> omega) | decide) only [↓stepPre, stepPost, ↓W_cond, ↓W_block, ↓reduceIte, Nat.reduceEqDiff, Nat.reduceLT, Nat.reduceLeDiff, ret0, stVar, isTup, Value.cells, Nat.le_refl, Nat.reduceAdd, Nat.reduceMul, Nat.reduceSub, env0, binV, intV, reduceCtorEq, pickV, nilCheckV, ptrV, unV, true_and, and_true, Nat.add_zero, Nat.zero_add, Rt, resultsV, allV, resV, Bool.not_true, Bool.not_false, calleeV, builtinV, eqV, fieldAddrV, ldVar, stN_own, stN_ownL, Int.fdiv_eq_ediv_of_nonneg, Int.reduceToNat, Int.reducePow, IntKind.bits, convV, ne_eq, not_false_eq_true, not_true_eq_false, Int.reduceNeg, Int.reduceAdd, Int.reduceSub, Int.reduceLT, Int.reduceLE, extractV, decide_true, decide_false, Int.reduceEq, mkFuncV, stBPlaysDo, beq_self_eq_true, tyB0PlaysDo, getL_take, glBPlaysDo, eq_self, Lok_at, Nat.reduceBEq, Bool.or_self, Bool.or_true, Bool.true_or, Bool.or_false, Bool.false_or, Bool.false_eq_true, false_implies, or_true, true_or, decide_true, true_and]
    obtain ⟨X, Y, Z, C, hu⟩ := (h1 _).o
    refine fates_ok C fun s2 v2 c2 l2 i2 hh => ?_
    obtain ⟨Z2, zz2, C2⟩ := hh
    have h2 := (h1 _).own (c2.mono fun b _ hb => (hu b).2 (.inr (.inr hb))) C2 fun b hb => by
      rcases hb with hb | hb | hb
      · exact .inl ((hu b).2 (.inl hb))
      · exact .inl ((hu b).2 (.inr (.inl hb)))
      · exact .inl ((hu b).2 (.inr (.inr (zz2 b hb).1)))
    obtain ⟨g1, g2, g3⟩ := keep _ _ _ c2 fun b hb => (hU b ((hu b).2 (.inr (.inr hb)))).2
    refine ⟨.inr ⟨rfl, c2.next, fun b hb _ => ?_⟩, ?_⟩
    · obtain rfl := of_decide_eq_true hb
      rw [g1, Ab.heap_alloc_ne _ _ (by simp only [Ab.next_alloc]; omega), Ab.heap_alloc_new]
    simp (disch := first | omega | ((simp only [Ab.next_alloc, Ab.next_upd, List.length_cons, List.length_nil, ne_eq, not_true_eq_false, not_false_eq_true]) <;> omega) | decide) only [↓stepPre, stepPost, ↓W_cond, ↓W_block, ↓reduceIte, Nat.reduceEqDiff, Nat.reduceLT, Nat.reduceLeDiff, ret0, stVar, isTup, Value.cells, Nat.le_refl, Nat.reduceAdd, Nat.reduceMul, Nat.reduceSub, env0, binV, intV, reduceCtorEq, pickV, nilCheckV, ptrV, unV, true_and, and_true, Nat.add_zero, Nat.zero_add, Rt, resultsV, allV, resV, Bool.not_true, Bool.not_false, calleeV, builtinV, eqV, fieldAddrV, ldVar, stN_own, stN_ownL, Int.fdiv_eq_ediv_of_nonneg, Int.reduceToNat, Int.reducePow, IntKind.bits, convV, ne_eq, not_false_eq_true, not_true_eq_false, Int.reduceNeg, Int.reduceAdd, Int.reduceSub, Int.reduceLT, Int.reduceLE, extractV, decide_true, decide_false, Int.reduceEq, mkFuncV, stBPlaysDo, beq_self_eq_true, tyB0PlaysDo, getL_take, glBPlaysDo, g1, g2, Lok_at, Nat.reduceBEq, Bool.or_self, Bool.or_true, Bool.true_or, Bool.or_false, Bool.false_or, Bool.false_eq_true, false_implies, or_true, true_or, decide_true, true_and]
    refine ⟨fun _ => by omega, ?_⟩
    obtain ⟨X', Y', Z', C', hv⟩ := h2.r
    refine rcfates_ok C' fun s3 v3 c3 l3 i3 hh => ?_
    obtain ⟨Z3, zz3, C3⟩ := hh
    have h3 := h2.ref (c3.mono fun b _ hb => (hv b).2 (.inr (.inr hb))) C3 fun b hb => by
      rcases hb with hb | hb | hb
      · exact .inl ((hv b).2 (.inl hb))
      · exact .inl ((hv b).2 (.inr (.inl hb)))
      · exact .inl ((hv b).2 (.inr (.inr (zz3 b hb).1)))
    refine ⟨.inr ⟨rfl, c3.next, fun b hb hlt => ?_⟩, ?_⟩
    · obtain rfl := of_decide_eq_true hb
      refine c3.heap _ (by omega) fun hb' => ?_
      have h4 := hV _ ((hv _).2 (.inr (.inr hb')))
      omega
    have l2' := l2.ch c3 fun b hb hz => h.d b ((hu b).2 (.inr (.inr (i2 b hb)))) ((hv b).2 (.inr (.inr hz)))
    simp (disch := first | omega | ((simp only [Ab.next_alloc, Ab.next_upd, List.length_cons, List.length_nil, ne_eq, not_true_eq_false, not_false_eq_true]) <;> omega) | decide) only [↓stepPre, stepPost, ↓W_cond, ↓W_block, ↓reduceIte, Nat.reduceEqDiff, Nat.reduceLT, Nat.reduceLeDiff, ret0, stVar, isTup, Value.cells, Nat.le_refl, Nat.reduceAdd, Nat.reduceMul, Nat.reduceSub, env0, binV, intV, reduceCtorEq, pickV, nilCheckV, ptrV, unV, true_and, and_true, Nat.add_zero, Nat.zero_add, Rt, resultsV, allV, resV, Bool.not_true, Bool.not_false, calleeV, builtinV, eqV, fieldAddrV, ldVar, stN_own, stN_ownL, Int.fdiv_eq_ediv_of_nonneg, Int.reduceToNat, Int.reducePow, IntKind.bits, convV, ne_eq, not_false_eq_true, not_true_eq_false, Int.reduceNeg, Int.reduceAdd, Int.reduceSub, Int.reduceLT, Int.reduceLE, extractV, decide_true, decide_false, Int.reduceEq, mkFuncV, stBPlaysDo, beq_self_eq_true, tyB0PlaysDo, getL_take, glBPlaysDo]
    refine sameO_ok l2' l3 (by omega) g.okf ?_
    simp (disch := first | omega | ((simp only [Ab.next_alloc, Ab.next_upd, List.length_cons, List.length_nil, ne_eq, not_true_eq_false, not_false_eq_true]) <;> omega) | decide) only [↓stepPre, stepPost, ↓W_cond, ↓W_block, ↓reduceIte, Nat.reduceEqDiff, Nat.reduceLT, Nat.reduceLeDiff, ret0, stVar, isTup, Value.cells, Nat.le_refl, Nat.reduceAdd, Nat.reduceMul, Nat.reduceSub, env0, binV, intV, reduceCtorEq, pickV, nilCheckV, ptrV, unV, true_and, and_true, Nat.add_zero, Nat.zero_add, Rt, resultsV, allV, resV, Bool.not_true, Bool.not_false, calleeV, builtinV, eqV, fieldAddrV, ldVar, stN_own, stN_ownL, Int.fdiv_eq_ediv_of_nonneg, Int.reduceToNat, Int.reducePow, IntKind.bits, convV, ne_eq, not_false_eq_true, not_true_eq_false, Int.reduceNeg, Int.reduceAdd, Int.reduceSub, Int.reduceLT, Int.reduceLE, extractV, decide_true, decide_false, Int.reduceEq, mkFuncV, stBPlaysDo, beq_self_eq_true, tyB0PlaysDo, getL_take, glBPlaysDo, eq_self, Dok_same, Try.results16]
    have n3 := c3.next
    exact hR _ _ _ _ (by omega) g.fates h3
  simp (disch := first | omega | ((simp only [Ab.next_alloc, Ab.next_upd, List.length_cons, List.length_nil, ne_eq, not_true_eq_false, not_false_eq_true]) <;> omega) | decide) only [↓stepPre, stepPost, ↓W_cond, ↓W_block, ↓reduceIte, Nat.reduceEqDiff, Nat.reduceLT, Nat.reduceLeDiff, ret0, stVar, isTup, Value.cells, Nat.le_refl, Nat.reduceAdd, Nat.reduceMul, Nat.reduceSub, env0, binV, intV, reduceCtorEq, pickV, nilCheckV, ptrV, unV, true_and, and_true, Nat.add_zero, Nat.zero_add, Rt, resultsV, allV, resV, Bool.not_true, Bool.not_false, calleeV, builtinV, eqV, fieldAddrV, ldVar, stN_own, stN_ownL, Int.fdiv_eq_ediv_of_nonneg, Int.reduceToNat, Int.reducePow, IntKind.bits, convV, ne_eq, not_false_eq_true, not_true_eq_false, Int.reduceNeg, Int.reduceAdd, Int.reduceSub, Int.reduceLT, Int.reduceLE, extractV, decide_true, decide_false, Int.reduceEq, mkFuncV, stBPlaysDo, beq_self_eq_true, tyB0PlaysDo, getL_take, glBPlaysDo, hk, hk1, hk2, hk3]
  obtain ⟨X, Y, Z, C, hu⟩ := (h1 _).o
  refine took_ok (hp := ⟨z1, z2, z3, z4, bd, he, hn, [.bool rr, .int .i64 ll, .int .u8 x0, .int .u8 x1, .int .u8 x2, .int .u8 x3, .int .u8 x4, .int .u8 x5, .int .u8 x6, .int .u8 x7]⟩) (ph := ph) (t := t) C rfl g.F (by omega) (by omega) (by omega) fun s2 Y2 Z2 c2 yy2 zz2 C2 => ?_
  have h2 := (h1 _).own (c2.mono fun b _ hb => (hu b).2 hb) C2 fun b hb => by
    rcases hb with hb | hb | hb
    · exact .inl ((hu b).2 (.inl hb))
    · exact (yy2 b hb).imp (fun hb => (hu b).2 (.inr (.inl hb))) id
    · exact (zz2 b hb).imp (fun hb => (hu b).2 (.inr (.inr hb))) id
  obtain ⟨g1, g2, g3⟩ := keep _ _ _ c2 fun b hb => (hU b ((hu b).2 hb)).2
  simp (disch := first | omega | ((simp only [Ab.next_alloc, Ab.next_upd, List.length_cons, List.length_nil, ne_eq, not_true_eq_false, not_false_eq_true]) <;> omega) | decide) only [↓stepPre, stepPost, ↓W_cond, ↓W_block, ↓reduceIte, Nat.reduceEqDiff, Nat.reduceLT, Nat.reduceLeDiff, ret0, stVar, isTup, Value.cells, Nat.le_refl, Nat.reduceAdd, Nat.reduceMul, Nat.reduceSub, env0, binV, intV, reduceCtorEq, pickV, nilCheckV, ptrV, unV, true_and, and_true, Nat.add_zero, Nat.zero_add, Rt, resultsV, allV, resV, Bool.not_true, Bool.not_false, calleeV, builtinV, eqV, fieldAddrV, ldVar, stN_own, stN_ownL, Int.fdiv_eq_ediv_of_nonneg, Int.reduceToNat, Int.reducePow, IntKind.bits, convV, ne_eq, not_false_eq_true, not_true_eq_false, Int.reduceNeg, Int.reduceAdd, Int.reduceSub, Int.reduceLT, Int.reduceLE, extractV, decide_true, decide_false, Int.reduceEq, mkFuncV, stBPlaysDo, beq_self_eq_true, tyB0PlaysDo, getL_take, glBPlaysDo, g1, g2]
  obtain ⟨X', Y', Z', C', hv⟩ := h2.r
  refine rctook_ok (hp := ⟨z1, z2, z3, z4, bd, he, hn, [.bool rr, .int .i64 ll, .int .u8 x0, .int .u8 x1, .int .u8 x2, .int .u8 x3, .int .u8 x4, .int .u8 x5, .int .u8 x6, .int .u8 x7]⟩) (ph := ph) (t := t) C' g.fil rfl hhn g.F (by omega) (by omega) g.Wr (by omega) fun s3 Y3 Z3 c3 yy3 zz3 C3 => ?_
  have h3 := h2.ref (c3.mono fun b _ hb => (hv b).2 hb) C3 fun b hb => by
    rcases hb with hb | hb | hb
    · exact .inl ((hv b).2 (.inl hb))
    · exact (yy3 b hb).imp (fun hb => (hv b).2 (.inr (.inl hb))) id
    · exact (zz3 b hb).imp (fun hb => (hv b).2 (.inr (.inr hb))) id
  simp (disch := first | omega | ((simp only [Ab.next_alloc, Ab.next_upd, List.length_cons, List.length_nil, ne_eq, not_true_eq_false, not_false_eq_true]) <;> omega) | decide) only [↓stepPre, stepPost, ↓W_cond, ↓W_block, ↓reduceIte, Nat.reduceEqDiff, Nat.reduceLT, Nat.reduceLeDiff, ret0, stVar, isTup, Value.cells, Nat.le_refl, Nat.reduceAdd, Nat.reduceMul, Nat.reduceSub, env0, binV, intV, reduceCtorEq, pickV, nilCheckV, ptrV, unV, true_and, and_true, Nat.add_zero, Nat.zero_add, Rt, resultsV, allV, resV, Bool.not_true, Bool.not_false, calleeV, builtinV, eqV, fieldAddrV, ldVar, stN_own, stN_ownL, Int.fdiv_eq_ediv_of_nonneg, Int.reduceToNat, Int.reducePow, IntKind.bits, convV, ne_eq, not_false_eq_true, not_true_eq_false, Int.reduceNeg, Int.reduceAdd, Int.reduceSub, Int.reduceLT, Int.reduceLE, extractV, decide_true, decide_false, Int.reduceEq, mkFuncV, stBPlaysDo, beq_self_eq_true, tyB0PlaysDo, getL_take, glBPlaysDo, Try.results16]
  have n3 := c3.next
  exact hR _ _ _ _ (by omega) (g.took hgL) h3
end Go.Proofs.Ytghigcdpinogaaa
