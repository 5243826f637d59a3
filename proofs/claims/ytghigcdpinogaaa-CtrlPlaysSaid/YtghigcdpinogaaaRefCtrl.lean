/- The document's controller (bellbuoyref15), as contracts. -/
import Derived.Test.YtghigcdpinogaaaTypes
import Derived.Test.YtghigcdpinogaaaRow0
import Derived.Test.YtghigcdpinogaaaAbC
import Derived.Test.YtghigcdpinogaaaPure
import Derived.Test.YtghigcdpinogaaaBoxes
import Derived.Test.YtghigcdpinogaaaRefBoxes
import Derived.Test.YtghigcdpinogaaaInbox
import Derived.Test.YtghigcdpinogaaaCtrl
import Derived.Test.YtghigcdpinogaaaRefInbox
set_option linter.all false
set_option maxRecDepth 20000
namespace Go.Proofs.Ytghigcdpinogaaa
open Go Go.Ab
def stBRefCtrl := And.intro @List.size_toArray.{0} (And.intro @List.length_cons.{0} (And.intro @List.length_nil.{0} (And.intro @List.set_cons_zero.{0} (And.intro @List.set_cons_succ.{0} (And.intro @List.getD_cons_zero.{0} (And.intro @List.getD_cons_succ.{0} (And.intro @List.getElem?_cons_succ.{0} (And.intro @List.getElem?_cons_zero.{0} (And.intro @List.map_cons.{0,0} (And.intro @List.map_nil.{0,0} (And.intro @Option.isNone_none.{0} (And.intro @Option.isNone_some.{0} (And.intro @Option.map_some.{0,0} (And.intro @Option.map_none.{0,0} (And.intro @List.cons_append.{0} (And.intro @List.nil_append.{0} (And.intro @List.append_nil.{0} (And.intro @Array.toList_append.{0} (And.intro @List.toList_toArray.{0} (And.intro @Int.cast_ofNat_Int (And.intro @Option.isSome_some.{0} (And.intro @List.getElem?_toArray.{0} (And.intro @List.map_toArray.{0,0} (@Nat.min_eq_left))))))))))))))))))))))))
def glBRefCtrl := And.intro @List.drop_zero.{0} (And.intro @List.drop_succ_cons.{0} (And.intro @List.take_succ_cons.{0} (And.intro @List.take_zero.{0} (@List.take_nil.{0}))))
def tyB0RefCtrl := And.intro @Ty.t100 (And.intro @Try.underlying100 (And.intro @Ty.t60 (And.intro @Try.underlying60 (And.intro @Ty.t51 (And.intro @Try.underlying51 (And.intro @Ty.t45 (And.intro @Try.underlying45 (And.intro @Ty.t49 (And.intro @Try.underlying49 (And.intro @Ty.t38 (And.intro @Try.underlying38 (And.intro @Ty.t37 (And.intro @Try.underlying37 (And.intro @Ty.t35 (And.intro @Try.underlying35 (And.intro @Ty.t47 (And.intro @Try.underlying47 (And.intro @Ty.t34 (And.intro @Try.underlying34 (And.intro @Ty.t93 (And.intro @Try.underlying93 (And.intro @Ty.t96 (And.intro @Try.underlying96 (And.intro @Ty.t105 (And.intro @Try.underlying105 (And.intro @Ty.t87 (And.intro @Try.underlying87 (And.intro @Ty.t103 (And.intro @Try.underlying103 (And.intro @Ty.t59 (And.intro @Try.underlying59 (And.intro @Ty.t32 (And.intro @Try.underlying32 (And.intro @Ty.t29 (And.intro @Try.underlying29 (And.intro @Ty.t3 (And.intro @Try.underlying3 (And.intro @Ty.t2 (And.intro @Try.underlying2 (And.intro @Ty.t4 (And.intro @Try.underlying4 (And.intro @Ty.t27 (And.intro @Try.underlying27 (And.intro @Ty.t5 (And.intro @Try.underlying5 (And.intro @Ty.t30 (And.intro @Try.underlying30 (And.intro @Ty.t24 @Try.underlying24))))))))))))))))))))))))))))))))))))))))))))))))
variable {base : Nat} [Bok base] {s : St} {R : Value → St → Prop}
variable {c r q : Nat} {cs : CS} {X Y Z : Nat → Prop} {k : Int} {a : Bool}
/-- The document's mailboxes, with the blocks they have. -/
structure RB (base : Nat) (s : St) (r : Nat) (L : Bx) (X : Nat → Prop) : Prop where
  ex : ∃ bP bH Lp, RefB base s r L bP bH Lp ∧ ∀ b, X b ↔ b = r ∨ b = bP ∨ b = bH
theorem RB.ch {L : Bx} {V : Nat → Prop} {s' : St} (h : RB base s r L X) (hc : Ch s s' V) (hd : ∀ b, V b → ¬ X b) : RB base s' r L X := by
  obtain ⟨bP, bH, Lp, h1, h2⟩ := h.ex
  exact ⟨bP, bH, Lp, h1.ch hc fun b hb => ⟨fun e => hd b hb ((h2 b).2 (.inl e)), fun e => hd b hb ((h2 b).2 (.inr (.inl e))), fun e => hd b hb ((h2 b).2 (.inr (.inr e)))⟩, h2⟩
theorem RB.mild {L : Bx} {s' : St} (h : RB base s r L X) (hm : Mild s s') : RB base s' r L X := h.ch (Ch.of_mild hm (fun _ => False)) fun _ h => h.elim
theorem RB.low {L : Bx} (h : RB base s r L X) : ∀ b, X b → base ≤ b ∧ b < s.next := by
  obtain ⟨bP, bH, Lp, h1, h2⟩ := h.ex
  have h3 := h1.low
  have h4 := h1.lt
  intro b hb
  rcases (h2 b).1 hb with e | e | e <;> subst e <;> omega
theorem RB.good {L : Bx} (h : RB base s r L X) : ∀ p, some p ∈ L → p.good := by
  obtain ⟨bP, bH, Lp, h1, h2⟩ := h.ex
  exact h1.good
theorem RB.room {L : Bx} (h : RB base s r L X) : L.length ≤ 8 := by
  obtain ⟨bP, bH, Lp, h1, h2⟩ := h.ex
  exact h1.room.2
theorem RB.nx {L : Bx} (h : RB base s r L X) : base ≤ s.next := by
  obtain ⟨bP, bH, Lp, h1, h2⟩ := h.ex
  have h3 := h1.low
  have h4 := h1.lt
  omega
/-- What the document's controller holds; k, a: which mailbox is being sent, and whether that is to be taken away. -/
structure RC (base : Nat) (s : St) (c r q : Nat) (cs : CS) (k : Int) (a : Bool) (X Y Z : Nat → Prop) : Prop where
  o : RB base s r cs.L X
  i : OwnI base s q cs.room cs.F cs.W cs.over Y
  dxy : ∀ b, X b → ¬ Y b
  dxz : ∀ b, X b → ¬ Z b
  dyz : ∀ b, Y b → ¬ Z b
  z : ∀ b, Z b → base ≤ b ∧ b < s.next
  zc : Z c
  hbn : base ≤ s.next
  st : ∃ vf, s.heap c = .row [.pointer (some ⟨r, 0, none⟩), .pointer (some ⟨q, 0, none⟩), .int .i64 k, .bool a, .int .i64 cs.last, .int .i64 cs.mark, .int .i64 cs.time, vf] ∧ Sl base s 3 vf cs.fates ∧ Tight base vf ∧ ∀ b, inB vf b → Z b ∧ b ≠ c
theorem RC.rest {V : Nat → Prop} {s' : St} (h : RC base s c r q cs k a X Y Z) (hc : Ch s s' V) (hd : ∀ b, V b → ¬ Z b) :
    ∃ vf, s'.heap c = .row [.pointer (some ⟨r, 0, none⟩), .pointer (some ⟨q, 0, none⟩), .int .i64 k, .bool a, .int .i64 cs.last, .int .i64 cs.mark, .int .i64 cs.time, vf] ∧ Sl base s' 3 vf cs.fates ∧ Tight base vf ∧ ∀ b, inB vf b → Z b ∧ b ≠ c := by
  obtain ⟨vf, h1, h3, h4, h5⟩ := h.st
  exact ⟨vf, by rw [hc.heap _ (h.z c h.zc).2 fun hv => hd c hv h.zc]; exact h1, h3.ch hc fun b hb hv => hd b hv (h5 b hb).1, h4, h5⟩
theorem RC.box {L' : Bx} {s' : St} (h : RC base s c r q cs k a X Y Z) (hc : Ch s s' X) (ho : RB base s' r L' X) : RC base s' c r q { cs with L := L' } k a X Y Z := by
  have hn := hc.next
  have hbn := h.hbn
  exact ⟨ho, h.i.ch hc fun b hb => ⟨(h.o.low b hb).1, h.dxy b hb⟩, h.dxy, h.dxz, h.dyz, fun b hb => by have := h.z b hb; omega, h.zc, by omega, h.rest hc h.dxz⟩
theorem RC.inb {W' : List (List Value)} {o' : Bool} {Y' : Nat → Prop} {s' : St} (h : RC base s c r q cs k a X Y Z) (hc : Ch s s' Y) (hx : ∀ b, Y' b → Y b ∨ s.next ≤ b) (ho : OwnI base s' q cs.room cs.F W' o' Y') : RC base s' c r q { cs with W := W', over := o' } k a X Y' Z := by
  have hn := hc.next
  have hbn := h.hbn
  refine ⟨h.o.ch hc fun b hy hx => h.dxy b hx hy, ho, fun b hb hy => ?_, h.dxz, fun b hb hz => ?_, fun b hb => ?_, h.zc, by omega, h.rest hc h.dyz⟩
  · rcases hx b hy with h1 | h1
    · exact h.dxy b hb h1
    · have := (h.o.low b hb).2; omega
  · rcases hx b hb with h1 | h1
    · exact h.dyz b h1 hz
    · have := (h.z b hz).2; omega
  · have := h.z b hb; omega
theorem RC.self {n' : Option (Int × Bool)} {k' : Int} {a' : Bool} {l' m' t' : Int} {f' : List (List Value)} {Z' : Nat → Prop} {s' : St} (h : RC base s c r q cs k a X Y Z) (hc : Ch s s' Z) (hx : ∀ b, Z' b → (Z b ∨ s.next ≤ b) ∧ b < s'.next) (zc : Z' c)
    (st : ∃ vf, s'.heap c = .row [.pointer (some ⟨r, 0, none⟩), .pointer (some ⟨q, 0, none⟩), .int .i64 k', .bool a', .int .i64 l', .int .i64 m', .int .i64 t', vf] ∧ Sl base s' 3 vf f' ∧ Tight base vf ∧ ∀ b, inB vf b → Z' b ∧ b ≠ c) :
    RC base s' c r q { cs with now := n', last := l', mark := m', time := t', fates := f' } k' a' X Y Z' := by
  have hn := hc.next
  have hbn := h.hbn
  refine ⟨h.o.ch hc fun b hz hx => h.dxz b hx hz, h.i.ch hc fun b hz => ⟨(h.z b hz).1, fun hy => h.dyz b hy hz⟩, h.dxy, fun b hb hz => ?_, fun b hb hz => ?_, fun b hb => ?_, zc, by omega, st⟩
  · rcases (hx b hz).1 with h1 | h1
    · exact h.dxz b hb h1
    · have := (h.o.low b hb).2; omega
  · rcases (hx b hz).1 with h1 | h1
    · exact h.dyz b hb h1
    · have := (h.i.low b hb).2; omega
  · have h2 := hx b hb
    rcases h2.1 with h1 | h1
    · have := h.z b h1; omega
    · omega
theorem RC.mild {s' : St} (h : RC base s c r q cs k a X Y Z) (hm : Mild s s') : RC base s' c r q cs k a X Y Z := h.box (.of_mild hm _) (h.o.mild hm)
theorem RC.ch {V : Nat → Prop} {s' : St} (h : RC base s c r q cs k a X Y Z) (hc : Ch s s' V) (hd : ∀ b, V b → ¬ X b ∧ ¬ Y b ∧ ¬ Z b ∧ base ≤ b) : RC base s' c r q cs k a X Y Z := by
  have hn := hc.next
  have hbn := h.hbn
  exact ⟨h.o.ch hc fun b hv => (hd b hv).1, h.i.ch hc fun b hv => ⟨(hd b hv).2.2.2, (hd b hv).2.1⟩, h.dxy, h.dxz, h.dyz, fun b hb => by have := h.z b hb; omega, h.zc, by omega, h.rest hc fun b hv => (hd b hv).2.2.1⟩
/-- The controller's row is written; the fates stay. -/
theorem RC.row {vf : Value} {n' : Option (Int × Bool)} {k' : Int} {a' : Bool} {l' m' t' : Int} (h : RC base s c r q cs k a X Y Z) (k3 : Sl base s 3 vf cs.fates) (k4 : Tight base vf) (k5 : ∀ b, inB vf b → Z b ∧ b ≠ c) :
    RC base (s.upd c (.row [.pointer (some ⟨r, 0, none⟩), .pointer (some ⟨q, 0, none⟩), .int .i64 k', .bool a', .int .i64 l', .int .i64 m', .int .i64 t', vf])) c r q { cs with now := n', last := l', mark := m', time := t' } k' a' X Y Z :=
  h.self (n' := n') (f' := cs.fates) (Ch.upd' (.refl _ _) fun _ => h.zc) (fun b hb => ⟨.inl hb, by simp only [Ab.next_upd]; exact (h.z b hb).2⟩) h.zc
    ⟨vf, Ab.heap_upd_same _ _ _, k3.ch (X := fun b => b = c) (Ch.upd' (.refl _ _) fun _ => rfl) fun b hb he => (k5 b hb).2 he, k4, k5⟩
/-- What is sent now is not looked at. -/
theorem RC.any {n' : Option (Int × Bool)} (h : RC base s c r q cs k a X Y Z) : RC base s c r q { cs with now := n' } k a X Y Z := ⟨h.o, h.i, h.dxy, h.dxz, h.dyz, h.z, h.zc, h.hbn, h.st⟩
theorem rcget_ok {i : Int} (h : RB base s r cs.L X) (hR : ∀ s', Mild s s' → R (.tuple #[poV (atO cs.L i), .bool (atO cs.L i).isSome]) s') : WC Try.prog base 70 [.pointer (some ⟨r, 0, none⟩), .int .i64 i] s R := by
  obtain ⟨bP, bH, Lp, h1, h2⟩ := h.ex
  exact rget_ok h1 h.nx hR
theorem rcbest_p (h : RB base s r cs.L X) (hR : R (.int .i64 (bestI cs.L)) s) : WC Try.prog base 68 [.pointer (some ⟨r, 0, none⟩)] s R := by
  obtain ⟨bP, bH, Lp, h1, h2⟩ := h.ex
  refine rbest_p h1 fun a ha => ?_
  obtain rfl := ha.unique (bestAt_I h.good)
  exact hR
theorem rcsubmit_ok {po : Po} (h : RC base s c r q cs k a X Y Z) (hn : po.n < 2 ^ 32) (hR : ∀ s', Ch s s' X → RC base s' c r q { cs with L := putL cs.L po } k a X Y Z → R (.tuple #[.int .i64 (putI cs.L po), .int .i64 (putE cs.L po)]) s') :
    WC Try.prog base 37 [.pointer (some ⟨c, 0, none⟩), .agg po.c.toArray] s R := by
  refine WC_open Try.func37 rfl ?_
  have hc := h.z c h.zc
  have hbn := h.hbn
  obtain ⟨vf, k1, -⟩ := h.st
  have hm := Mild.alloc s (.row po.c)
  have h1 := h.mild hm
  simp (disch := first | omega | ((simp only [Ab.next_alloc, Ab.next_upd, List.length_cons, List.length_nil, ne_eq, not_true_eq_false, not_false_eq_true]) <;> omega) | decide) only [↓stepPre, stepPost, ↓W_cond, ↓W_block, ↓reduceIte, Nat.reduceEqDiff, Nat.reduceLT, Nat.reduceLeDiff, ret0, stVar, isTup, Value.cells, Nat.le_refl, Nat.reduceAdd, Nat.reduceMul, Nat.reduceSub, env0, binV, intV, reduceCtorEq, pickV, nilCheckV, ptrV, unV, true_and, and_true, Nat.add_zero, Nat.zero_add, Rt, resultsV, allV, resV, Bool.not_true, Bool.not_false, calleeV, builtinV, eqV, fieldAddrV, ldVar, stN_own, stN_ownL, Int.fdiv_eq_ediv_of_nonneg, Int.reduceToNat, Int.reducePow, IntKind.bits, convV, ne_eq, not_false_eq_true, not_true_eq_false, Int.reduceNeg, Int.reduceAdd, Int.reduceSub, Int.reduceLT, Int.reduceLE, extractV, decide_true, decide_false, Int.reduceEq, mkFuncV, stBRefCtrl, beq_self_eq_true, tyB0RefCtrl, getL_take, glBRefCtrl, Option.isNone_some]
  refine W_draw (fun k => k == 5) (fun _ => false) (fun _ => false) (by kernel_rfl) (by kernel_rfl) ?_
  simp (disch := first | omega | ((simp only [Ab.next_alloc, Ab.next_upd, List.length_cons, List.length_nil, ne_eq, not_true_eq_false, not_false_eq_true]) <;> omega) | decide) only [↓stepPre, stepPost, ↓W_cond, ↓W_block, ↓reduceIte, Nat.reduceEqDiff, Nat.reduceLT, Nat.reduceLeDiff, ret0, stVar, isTup, Value.cells, Nat.le_refl, Nat.reduceAdd, Nat.reduceMul, Nat.reduceSub, env0, binV, intV, reduceCtorEq, pickV, nilCheckV, ptrV, unV, true_and, and_true, Nat.add_zero, Nat.zero_add, Rt, resultsV, allV, resV, Bool.not_true, Bool.not_false, calleeV, builtinV, eqV, fieldAddrV, ldVar, stN_own, stN_ownL, Int.fdiv_eq_ediv_of_nonneg, Int.reduceToNat, Int.reducePow, IntKind.bits, convV, ne_eq, not_false_eq_true, not_true_eq_false, Int.reduceNeg, Int.reduceAdd, Int.reduceSub, Int.reduceLT, Int.reduceLE, extractV, decide_true, decide_false, Int.reduceEq, mkFuncV, stBRefCtrl, beq_self_eq_true, tyB0RefCtrl, getL_take, glBRefCtrl, k1, Option.isNone_some]
  obtain ⟨bP, bH, Lp, h2, h3⟩ := h1.o.ex
  refine rput_ok (po := po) h2 hn h1.hbn fun s2 Lp2 c2 o2 => ?_
  have n2 := c2.next
  simp (disch := first | omega | ((simp only [Ab.next_alloc, Ab.next_upd, List.length_cons, List.length_nil, ne_eq, not_true_eq_false, not_false_eq_true]) <;> omega) | decide) only [↓stepPre, stepPost, ↓W_cond, ↓W_block, ↓reduceIte, Nat.reduceEqDiff, Nat.reduceLT, Nat.reduceLeDiff, ret0, stVar, isTup, Value.cells, Nat.le_refl, Nat.reduceAdd, Nat.reduceMul, Nat.reduceSub, env0, binV, intV, reduceCtorEq, pickV, nilCheckV, ptrV, unV, true_and, and_true, Nat.add_zero, Nat.zero_add, Rt, resultsV, allV, resV, Bool.not_true, Bool.not_false, calleeV, builtinV, eqV, fieldAddrV, ldVar, stN_own, stN_ownL, Int.fdiv_eq_ediv_of_nonneg, Int.reduceToNat, Int.reducePow, IntKind.bits, convV, ne_eq, not_false_eq_true, not_true_eq_false, Int.reduceNeg, Int.reduceAdd, Int.reduceSub, Int.reduceLT, Int.reduceLE, extractV, decide_true, decide_false, Int.reduceEq, mkFuncV, stBRefCtrl, beq_self_eq_true, tyB0RefCtrl, getL_take, glBRefCtrl, Try.results37]
  refine ⟨Dok_next (by decide) n2, ?_⟩
  simp only [Ab.next_alloc] at n2
  have c3 : Ch (s.alloc (.row po.c)) s2 X := c2.mono fun b _ hb => (h3 b).2 (.inr hb)
  exact hR _ (Ch.mono (Ch.trans (Ch.of_mild hm X) c3) fun b _ hb => hb.elim id id) (h1.box c3 ⟨bP, bH, Lp2, o2, h3⟩)
theorem rends_ok (h : RC base s c r q cs k a X Y Z) (hR : ∀ s', Ch s s' Z → RC base s' c r q { cs with now := none } (-1) false X Y Z → R (.tuple #[]) s') :
    WC Try.prog base 69 [.pointer (some ⟨c, 0, none⟩)] s R := by
  refine WC_open Try.func69 rfl ?_
  have hc := h.z c h.zc
  obtain ⟨vf, k1, k3, k4, k5⟩ := h.st
  have key := hR _ (Ch.upd' (.refl _ _) fun _ => h.zc) (h.row (n' := none) (k' := -1) (a' := false) (l' := cs.last) (m' := cs.mark) (t' := cs.time) k3 k4 k5)
  simp (disch := first | omega | ((simp only [Ab.next_alloc, Ab.next_upd, List.length_cons, List.length_nil, ne_eq, not_true_eq_false, not_false_eq_true]) <;> omega) | decide) only [↓stepPre, stepPost, ↓W_cond, ↓W_block, ↓reduceIte, Nat.reduceEqDiff, Nat.reduceLT, Nat.reduceLeDiff, ret0, stVar, isTup, Value.cells, Nat.le_refl, Nat.reduceAdd, Nat.reduceMul, Nat.reduceSub, env0, binV, intV, reduceCtorEq, pickV, nilCheckV, ptrV, unV, true_and, and_true, Nat.add_zero, Nat.zero_add, Rt, resultsV, allV, resV, Bool.not_true, Bool.not_false, calleeV, builtinV, eqV, fieldAddrV, ldVar, stN_own, stN_ownL, Int.fdiv_eq_ediv_of_nonneg, Int.reduceToNat, Int.reducePow, IntKind.bits, convV, ne_eq, not_false_eq_true, not_true_eq_false, Int.reduceNeg, Int.reduceAdd, Int.reduceSub, Int.reduceLT, Int.reduceLE, extractV, decide_true, decide_false, Int.reduceEq, mkFuncV, stBRefCtrl, beq_self_eq_true, tyB0RefCtrl, getL_take, glBRefCtrl, k1, Ab.heap_upd_same, Try.results69]
  exact key
theorem rcbusy_p {x : Int} (hR : R (.bool (wireB x)) s) : WC Try.prog base 67 [.int .i64 x] s R := by
  refine WC_open Try.func67 rfl ?_
  by_cases h2 : x = 2
  · simp (disch := first | omega | ((simp only [Ab.next_alloc, Ab.next_upd, List.length_cons, List.length_nil, ne_eq, not_true_eq_false, not_false_eq_true]) <;> omega) | decide) only [↓stepPre, stepPost, ↓W_cond, ↓W_block, ↓reduceIte, Nat.reduceEqDiff, Nat.reduceLT, Nat.reduceLeDiff, ret0, stVar, isTup, Value.cells, Nat.le_refl, Nat.reduceAdd, Nat.reduceMul, Nat.reduceSub, env0, binV, intV, reduceCtorEq, pickV, nilCheckV, ptrV, unV, true_and, and_true, Nat.add_zero, Nat.zero_add, Rt, resultsV, allV, resV, Bool.not_true, Bool.not_false, calleeV, builtinV, eqV, fieldAddrV, ldVar, stN_own, stN_ownL, Int.fdiv_eq_ediv_of_nonneg, Int.reduceToNat, Int.reducePow, IntKind.bits, convV, ne_eq, not_false_eq_true, not_true_eq_false, Int.reduceNeg, Int.reduceAdd, Int.reduceSub, Int.reduceLT, Int.reduceLE, extractV, decide_true, decide_false, Int.reduceEq, mkFuncV, stBRefCtrl, beq_self_eq_true, tyB0RefCtrl, h2, eq_self, Try.results67]
    simpa [wireB, h2] using hR
  · by_cases h3 : x = 3
    · simp (disch := first | omega | ((simp only [Ab.next_alloc, Ab.next_upd, List.length_cons, List.length_nil, ne_eq, not_true_eq_false, not_false_eq_true]) <;> omega) | decide) only [↓stepPre, stepPost, ↓W_cond, ↓W_block, ↓reduceIte, Nat.reduceEqDiff, Nat.reduceLT, Nat.reduceLeDiff, ret0, stVar, isTup, Value.cells, Nat.le_refl, Nat.reduceAdd, Nat.reduceMul, Nat.reduceSub, env0, binV, intV, reduceCtorEq, pickV, nilCheckV, ptrV, unV, true_and, and_true, Nat.add_zero, Nat.zero_add, Rt, resultsV, allV, resV, Bool.not_true, Bool.not_false, calleeV, builtinV, eqV, fieldAddrV, ldVar, stN_own, stN_ownL, Int.fdiv_eq_ediv_of_nonneg, Int.reduceToNat, Int.reducePow, IntKind.bits, convV, ne_eq, not_false_eq_true, not_true_eq_false, Int.reduceNeg, Int.reduceAdd, Int.reduceSub, Int.reduceLT, Int.reduceLE, extractV, decide_true, decide_false, Int.reduceEq, mkFuncV, stBRefCtrl, beq_self_eq_true, tyB0RefCtrl, h2, h3, eq_self, Try.results67]
      simpa [wireB, h2, h3] using hR
    · simp (disch := first | omega | ((simp only [Ab.next_alloc, Ab.next_upd, List.length_cons, List.length_nil, ne_eq, not_true_eq_false, not_false_eq_true]) <;> omega) | decide) only [↓stepPre, stepPost, ↓W_cond, ↓W_block, ↓reduceIte, Nat.reduceEqDiff, Nat.reduceLT, Nat.reduceLeDiff, ret0, stVar, isTup, Value.cells, Nat.le_refl, Nat.reduceAdd, Nat.reduceMul, Nat.reduceSub, env0, binV, intV, reduceCtorEq, pickV, nilCheckV, ptrV, unV, true_and, and_true, Nat.add_zero, Nat.zero_add, Rt, resultsV, allV, resV, Bool.not_true, Bool.not_false, calleeV, builtinV, eqV, fieldAddrV, ldVar, stN_own, stN_ownL, Int.fdiv_eq_ediv_of_nonneg, Int.reduceToNat, Int.reducePow, IntKind.bits, convV, ne_eq, not_false_eq_true, not_true_eq_false, Int.reduceNeg, Int.reduceAdd, Int.reduceSub, Int.reduceLT, Int.reduceLE, extractV, decide_true, decide_false, Int.reduceEq, mkFuncV, stBRefCtrl, beq_self_eq_true, tyB0RefCtrl, h2, h3, Try.results67]
      simpa [wireB, h2, h3] using hR
theorem rout_ok {f : Int} {i : Int} (h : RC base s c r q cs k a X Y Z) (hfl : cs.fates.length ≤ 100000) (hat : (atO cs.L i).isSome = true) (hR : ∀ s' Z', Ch s s' (fun b => X b ∨ Z b) → (∀ b, Z' b → Z b ∨ s.next ≤ b) → RC base s' c r q (cs.out i f) k a X Y Z' → R (.tuple #[]) s') :
    WC Try.prog base 64 [.pointer (some ⟨c, 0, none⟩), .int .i64 i, .int .i64 f] s R := by
  refine WC_open Try.func64 rfl ?_
  have hc := h.z c h.zc
  have hbn := h.hbn
  obtain ⟨po, ha⟩ := Option.isSome_iff_exists.1 hat
  obtain ⟨vf0, k1, -⟩ := h.st
  simp (disch := first | omega | ((simp only [Ab.next_alloc, Ab.next_upd, List.length_cons, List.length_nil, ne_eq, not_true_eq_false, not_false_eq_true]) <;> omega) | decide) only [↓stepPre, stepPost, ↓W_cond, ↓W_block, ↓reduceIte, Nat.reduceEqDiff, Nat.reduceLT, Nat.reduceLeDiff, ret0, stVar, isTup, Value.cells, Nat.le_refl, Nat.reduceAdd, Nat.reduceMul, Nat.reduceSub, env0, binV, intV, reduceCtorEq, pickV, nilCheckV, ptrV, unV, true_and, and_true, Nat.add_zero, Nat.zero_add, Rt, resultsV, allV, resV, Bool.not_true, Bool.not_false, calleeV, builtinV, eqV, fieldAddrV, ldVar, stN_own, stN_ownL, Int.fdiv_eq_ediv_of_nonneg, Int.reduceToNat, Int.reducePow, IntKind.bits, convV, ne_eq, not_false_eq_true, not_true_eq_false, Int.reduceNeg, Int.reduceAdd, Int.reduceSub, Int.reduceLT, Int.reduceLE, extractV, decide_true, decide_false, Int.reduceEq, mkFuncV, stBRefCtrl, beq_self_eq_true, tyB0RefCtrl, getL_take, glBRefCtrl, k1]
  obtain ⟨bP, bH, Lp, g2, g3⟩ := h.o.ex
  refine rtake_ok g2 h.hbn fun s1 Lp1 c1 o1 => ?_
  have n1 := c1.next
  have c1' : Ch s s1 X := c1.mono fun b _ hb => (g3 b).2 (.inr hb)
  have h1 := h.box c1' ⟨bP, bH, Lp1, o1, g3⟩
  clear k1
  have h2 := h1.mild (Mild.alloc s1 (.row po.c))
  have hc1 : Ch s (s1.alloc (.row po.c)) (fun b => X b ∨ Z b) := (c1'.mono fun b _ hb => .inl hb).alloc'
  have hE := takeE_some ha
  rw [ha]
  obtain ⟨vf, k1, k3, k4, k5⟩ := h2.st
  have hlt := (h2.z c h2.zc).2
  simp only [Ab.next_alloc] at hlt
  rw [Ab.heap_alloc_ne _ _ (by have := (h1.z c h1.zc).2; omega)] at k1
  simp (disch := first | omega | ((simp only [Ab.next_alloc, Ab.next_upd, List.length_cons, List.length_nil, ne_eq, not_true_eq_false, not_false_eq_true]) <;> omega) | decide) only [↓stepPre, stepPost, ↓W_cond, ↓W_block, ↓reduceIte, Nat.reduceEqDiff, Nat.reduceLT, Nat.reduceLeDiff, ret0, stVar, isTup, Value.cells, Nat.le_refl, Nat.reduceAdd, Nat.reduceMul, Nat.reduceSub, env0, binV, intV, reduceCtorEq, pickV, nilCheckV, ptrV, unV, true_and, and_true, Nat.add_zero, Nat.zero_add, Rt, resultsV, allV, resV, Bool.not_true, Bool.not_false, calleeV, builtinV, eqV, fieldAddrV, ldVar, stN_own, stN_ownL, Int.fdiv_eq_ediv_of_nonneg, Int.reduceToNat, Int.reducePow, IntKind.bits, convV, ne_eq, not_false_eq_true, not_true_eq_false, Int.reduceNeg, Int.reduceAdd, Int.reduceSub, Int.reduceLT, Int.reduceLE, extractV, decide_true, decide_false, Int.reduceEq, mkFuncV, stBRefCtrl, beq_self_eq_true, tyB0RefCtrl, getL_take, glBRefCtrl, poV, hE, Option.getD_some]
  refine W_draw (fun k => k == 14 || k == 17) (fun _ => false) (fun _ => false) (by kernel_rfl) (by kernel_rfl) ?_
  have hnb := h1.hbn
  have hbs : ∀ s : St, buildSliceV Try.prog s 45 1 [(0, .agg #[.int .i64 po.t, .int .i64 f, .int .i64 cs.time])] = some (.slice (some ⟨s.next, 0, none⟩) 1 1, s.alloc (.row [.int .i64 po.t, .int .i64 f, .int .i64 cs.time])) := fun s =>
    build1 (l := [.int .i64 po.t, .int .i64 f, .int .i64 cs.time]) Ty.elem45 Ty.siz51 Ty.zer51 rfl rfl (by omega) (by omega)
  have h3 := h2.mild (Mild.alloc (s1.alloc (.row po.c)) (.row [.int .i64 po.t, .int .i64 f, .int .i64 cs.time]))
  have hx3 : Sl base ((s1.alloc (.row po.c)).alloc (.row [.int .i64 po.t, .int .i64 f, .int .i64 cs.time])) 3 (.slice (some ⟨(s1.alloc (.row po.c)).next, 0, none⟩) 1 1) [[.int .i64 po.t, .int .i64 f, .int .i64 cs.time]] :=
    .newRow (Ab.heap_alloc_new _ _) rfl rfl (by simp) (by simp only [Ab.next_alloc]; omega) (by simp only [Ab.next_alloc]; omega)
  obtain ⟨v4, s4, e1, e2, e3, e4, e5, e6⟩ := appB_ok (P := Try.prog) (t := 45) (t' := 45) (k3.mild (Mild.alloc _ (.row [.int .i64 po.t, .int .i64 f, .int .i64 cs.time]))) k4 (by simp only [Ab.next_alloc]; omega) Ty.elem45 Ty.int45 Ty.und45 Ty.siz51 (by decide) Ty.zer51 rfl Ty.byt51 hx3 (by simp only [List.length_cons, List.length_nil]; omega)
  have n4 := e4.next
  simp only [Ab.next_alloc] at n4
  obtain ⟨a4, l4, c4, rfl⟩ := e2.shape
  have kc : s4.heap c = _ := (e4.heap c (by simp only [Ab.next_alloc]; omega) fun hi => (k5 c hi).2 rfl).trans ((Ab.heap_alloc_ne _ _ (by simp only [Ab.next_alloc]; omega)).trans ((Ab.heap_alloc_ne _ _ (by omega)).trans k1))
  simp only [Ab.next_alloc, Po.c] at e1
  simp (disch := first | omega | ((simp only [Ab.next_alloc, Ab.next_upd, List.length_cons, List.length_nil, ne_eq, not_true_eq_false, not_false_eq_true]) <;> omega) | decide) only [↓stepPre, stepPost, ↓W_cond, ↓W_block, ↓reduceIte, Nat.reduceEqDiff, Nat.reduceLT, Nat.reduceLeDiff, ret0, stVar, isTup, Value.cells, Nat.le_refl, Nat.reduceAdd, Nat.reduceMul, Nat.reduceSub, env0, binV, intV, reduceCtorEq, pickV, nilCheckV, ptrV, unV, true_and, and_true, Nat.add_zero, Nat.zero_add, Rt, resultsV, allV, resV, Bool.not_true, Bool.not_false, calleeV, builtinV, eqV, fieldAddrV, ldVar, stN_own, stN_ownL, Int.fdiv_eq_ediv_of_nonneg, Int.reduceToNat, Int.reducePow, IntKind.bits, convV, ne_eq, not_false_eq_true, not_true_eq_false, Int.reduceNeg, Int.reduceAdd, Int.reduceSub, Int.reduceLT, Int.reduceLE, extractV, decide_true, decide_false, Int.reduceEq, mkFuncV, stBRefCtrl, beq_self_eq_true, tyB0RefCtrl, getL_take, glBRefCtrl, k1, hbs, e1, buildV, fillL]
  have hZ0 : ∀ b, Z b → b < s1.next := fun b hb => (h1.z b hb).2
  have hch : Ch (s1.alloc (.row po.c)) (s4.upd c (.row [.pointer (some ⟨r, 0, none⟩), .pointer (some ⟨q, 0, none⟩), .int .i64 k, .bool a, .int .i64 cs.last, .int .i64 cs.mark, .int .i64 cs.time, .slice a4 l4 c4])) Z :=
    Ch.upd' ((Ch.trans (Ch.of_mild (Mild.alloc _ _) Z) (e4.mono (Y := Z) fun b _ hb => (k5 b hb).1)).mono fun b _ hb => hb.elim id id) fun _ => h2.zc
  have hnew : ∀ b, inB (.slice a4 l4 c4) b → s1.next + 1 ≤ b ∧ b < s4.next := fun b hb => by
    have := e5 (by simp) b hb
    simp only [Ab.next_alloc] at this
    exact ⟨by omega, e2.lt b hb⟩
  have h5 := h2.self (n' := cs.now) (k' := k) (a' := a) (l' := cs.last) (m' := cs.mark) (t' := cs.time) (f' := cs.fates ++ [[.int .i64 po.t, .int .i64 f, .int .i64 cs.time]]) (Z' := fun b => Z b ∨ (s1.next + 1 ≤ b ∧ b < s4.next)) hch
    (fun b hb => ⟨hb.imp id fun h => by simp only [Ab.next_alloc]; exact h.1, by simp only [Ab.next_upd]; exact hb.elim (fun h => by have := hZ0 b h; omega) fun h => h.2⟩) (.inl h2.zc)
    ⟨.slice a4 l4 c4, Ab.heap_upd_same _ _ _,
     e2.ch (X := fun b => b = c) (Ch.upd' (.refl _ _) fun _ => rfl) fun b hb he => by have := hnew b hb; have := hZ0 c h1.zc; omega, e3, fun b hb => ⟨.inr (hnew b hb), by have := hnew b hb; have := hZ0 c h1.zc; omega⟩⟩
  have hcs : cs.out i f = { cs with L := takeL cs.L i, fates := cs.fates ++ [[.int .i64 po.t, .int .i64 f, .int .i64 cs.time]] } := by simp only [CS.out, ha]
  have key := hR _ (fun b => Z b ∨ (s1.next + 1 ≤ b ∧ b < s4.next)) ((Ch.trans hc1 hch).mono fun b _ hb => hb.elim id .inr) (fun b hb => hb.imp id fun h => by omega) (by rw [hcs]; exact h5)
  simp (disch := first | omega | ((simp only [Ab.next_alloc, Ab.next_upd, List.length_cons, List.length_nil, ne_eq, not_true_eq_false, not_false_eq_true]) <;> omega) | decide) only [↓stepPre, stepPost, ↓W_cond, ↓W_block, ↓reduceIte, Nat.reduceEqDiff, Nat.reduceLT, Nat.reduceLeDiff, ret0, stVar, isTup, Value.cells, Nat.le_refl, Nat.reduceAdd, Nat.reduceMul, Nat.reduceSub, env0, binV, intV, reduceCtorEq, pickV, nilCheckV, ptrV, unV, true_and, and_true, Nat.add_zero, Nat.zero_add, Rt, resultsV, allV, resV, Bool.not_true, Bool.not_false, calleeV, builtinV, eqV, fieldAddrV, ldVar, stN_own, stN_ownL, Int.fdiv_eq_ediv_of_nonneg, Int.reduceToNat, Int.reducePow, IntKind.bits, convV, ne_eq, not_false_eq_true, not_true_eq_false, Int.reduceNeg, Int.reduceAdd, Int.reduceSub, Int.reduceLT, Int.reduceLE, extractV, decide_true, decide_false, Int.reduceEq, mkFuncV, stBRefCtrl, beq_self_eq_true, tyB0RefCtrl, getL_take, glBRefCtrl, kc, hbs, e1, buildV, fillL, Try.results64]
  refine ⟨Dok_next (by decide) (by simp only [Ab.next_alloc]; omega), key⟩
end Go.Proofs.Ytghigcdpinogaaa
