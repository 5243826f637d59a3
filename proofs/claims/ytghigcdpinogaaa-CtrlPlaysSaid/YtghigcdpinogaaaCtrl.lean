import Derived.Test.YtghigcdpinogaaaTypes
import Derived.Test.YtghigcdpinogaaaRow0
import Derived.Test.YtghigcdpinogaaaAbC
import Derived.Test.YtghigcdpinogaaaBits
import Derived.Test.YtghigcdpinogaaaPure
import Derived.Test.YtghigcdpinogaaaFive
import Derived.Test.YtghigcdpinogaaaBoxes
import Derived.Test.YtghigcdpinogaaaInbox
/- The package ctrl, as contracts: what a controller is, and its smaller functions. -/
set_option linter.all false
set_option maxRecDepth 20000
namespace Go.Proofs.Ytghigcdpinogaaa
open Go Go.Ab
def stBCtrl := And.intro @List.size_toArray.{0} (And.intro @List.length_cons.{0} (And.intro @List.length_nil.{0} (And.intro @List.set_cons_zero.{0} (And.intro @List.set_cons_succ.{0} (And.intro @List.getD_cons_zero.{0} (And.intro @List.getD_cons_succ.{0} (And.intro @List.getElem?_cons_succ.{0} (And.intro @List.getElem?_cons_zero.{0} (And.intro @List.map_cons.{0,0} (And.intro @List.map_nil.{0,0} (And.intro @Option.isNone_none.{0} (And.intro @Option.isNone_some.{0} (And.intro @Option.map_some.{0,0} (And.intro @Option.map_none.{0,0} (And.intro @List.cons_append.{0} (And.intro @List.nil_append.{0} (And.intro @List.append_nil.{0} (And.intro @Array.toList_append.{0} (And.intro @List.toList_toArray.{0} (And.intro @Int.cast_ofNat_Int (And.intro @Option.isSome_some.{0} (And.intro @List.getElem?_toArray.{0} (And.intro @List.map_toArray.{0,0} (@Nat.min_eq_left))))))))))))))))))))))))
def glBCtrl := And.intro @List.drop_zero.{0} (And.intro @List.drop_succ_cons.{0} (And.intro @List.take_succ_cons.{0} (And.intro @List.take_zero.{0} (@List.take_nil.{0}))))
def tyB0Ctrl := And.intro @Ty.t76 (And.intro @Try.underlying76 (And.intro @Ty.t23 (And.intro @Try.underlying23 (And.intro @Ty.t79 (And.intro @Try.underlying79 (And.intro @Ty.t74 (And.intro @Try.underlying74 (And.intro @Ty.t51 (And.intro @Try.underlying51 (And.intro @Ty.t45 (And.intro @Try.underlying45 (And.intro @Ty.t49 (And.intro @Try.underlying49 (And.intro @Ty.t38 (And.intro @Try.underlying38 (And.intro @Ty.t37 (And.intro @Try.underlying37 (And.intro @Ty.t35 (And.intro @Try.underlying35 (And.intro @Ty.t47 (And.intro @Try.underlying47 (And.intro @Ty.t34 (And.intro @Try.underlying34 (And.intro @Ty.t107 (And.intro @Try.underlying107 (And.intro @Ty.t68 (And.intro @Try.underlying68 (And.intro @Ty.t71 (And.intro @Try.underlying71 (And.intro @Ty.t87 (And.intro @Try.underlying87 (And.intro @Ty.t103 (And.intro @Try.underlying103 (And.intro @Ty.t59 (And.intro @Try.underlying59 (And.intro @Ty.t32 (And.intro @Try.underlying32 (And.intro @Ty.t29 (And.intro @Try.underlying29 (And.intro @Ty.t3 (And.intro @Try.underlying3 (And.intro @Ty.t2 (And.intro @Try.underlying2 (And.intro @Ty.t4 (And.intro @Try.underlying4 (And.intro @Ty.t27 (And.intro @Try.underlying27 (And.intro @Ty.t5 (And.intro @Try.underlying5 (And.intro @Ty.t30 (And.intro @Try.underlying30 (And.intro @Ty.t24 @Try.underlying24))))))))))))))))))))))))))))))))))))))))))))))))))))
variable {base : Nat} [Bok base] {s : St} {R : Value → St → Prop}
theorem bestAt_I {L : Bx} (hg : ∀ p, some p ∈ L → p.good) : BestAt L L.length (bestI L) := by
  unfold bestI
  split
  · rename_i h; exact .inl ⟨rfl, h⟩
  · rename_i h
    have hx : ∃ i, i < L.length ∧ (L.getD i none).isSome = true := by
      refine Decidable.byContradiction fun hc => h fun j hj => ?_
      cases ho : L.getD j none with
      | none => rfl
      | some p => exact absurd ⟨j, hj, by rw [ho]; rfl⟩ hc
    obtain ⟨i, i1, i2, i3⟩ := best_ex L L.length hx hg
    rcases fidx_cases (fun i => (L.getD i none).isSome && decide (∀ j, j < L.length → keyAt L i ≤ keyAt L j)) L.length with ⟨k, k1, k2, k3, k4⟩ | ⟨k1, -⟩
    · rw [k4]
      simp only [Bool.and_eq_true, decide_eq_true_eq] at k2
      refine .inr ⟨k, k1, rfl, k2.1, k2.2, fun j hj => ?_⟩
      have h3 := k3 j hj
      rw [Bool.and_eq_false_iff] at h3
      have h4 := k2.2 j (by omega)
      rcases h3 with h3 | h3
      · have hn : L.getD j none = none := by
          cases ho : L.getD j none with
          | none => rfl
          | some p => rw [ho] at h3; cases h3
        have e1 : keyAt L j = 4294967296 := by unfold keyAt; rw [hn]; rfl
        have e2 : keyAt L k < 4294967296 := by
          obtain ⟨p, hp⟩ := Option.isSome_iff_exists.1 k2.1
          unfold keyAt; rw [hp]; exact keyN_lt p.e p.n p.r
        omega
      · have h5 : ¬ ∀ m, m < L.length → keyAt L j ≤ keyAt L m := of_decide_eq_false h3
        refine Decidable.byContradiction fun hc => h5 fun m hm => ?_
        have := k2.2 m hm
        omega
    · have := k1 i i1
      simp only [Bool.and_eq_false_iff, decide_eq_false_iff_not] at this
      rcases this with h | h
      · rw [i2] at h; cases h
      · exact absurd i3 h
/-- What a controller holds. -/
structure CS where
  L : Bx
  room : Int
  F : List (List Value)
  W : List (List Value)
  over : Bool
  now : Option (Int × Bool)
  last : Int
  mark : Int
  time : Int
  fates : List (List Value)
def NowO (s : St) (c : Nat) (Z : Nat → Prop) (vf vn : Value) : Option (Int × Bool) → Prop
  | none => vn = .pointer none
  | some (k, a) => ∃ w, vn = .pointer (some ⟨w, 0, none⟩) ∧ Z w ∧ w ≠ c ∧ ¬ inB vf w ∧ s.heap w = .row [.int .i64 k, .bool a]
structure CtrlO (base : Nat) (s : St) (c p q : Nat) (cs : CS) (X Y Z : Nat → Prop) : Prop where
  o : OwnB base s p cs.L X
  i : OwnI base s q cs.room cs.F cs.W cs.over Y
  dxy : ∀ b, X b → ¬ Y b
  dxz : ∀ b, X b → ¬ Z b
  dyz : ∀ b, Y b → ¬ Z b
  z : ∀ b, Z b → base ≤ b ∧ b < s.next
  zc : Z c
  hbn : base ≤ s.next
  st : ∃ vn vf, s.heap c = .row [.pointer (some ⟨p, 0, none⟩), .pointer (some ⟨q, 0, none⟩), vn, .int .i64 cs.last, .int .i64 cs.mark, .int .i64 cs.time, vf] ∧ NowO s c Z vf vn cs.now ∧ Sl base s 3 vf cs.fates ∧ Tight base vf ∧ ∀ b, inB vf b → Z b ∧ b ≠ c
variable {c p q : Nat} {cs : CS} {X Y Z : Nat → Prop}
theorem NowO.ch {vf vn : Value} {now : Option (Int × Bool)} {V : Nat → Prop} {s s' : St} (h : NowO s c Z vf vn now) (hc : Ch s s' V) (hz : ∀ b, Z b → b < s.next) (hd : ∀ b, V b → ¬ Z b ∨ b = c ∨ inB vf b) : NowO s' c Z vf vn now := by
  match now, h with
  | none, h => exact h
  | some (k, a), ⟨w, h1, h2, h3, h4, h5⟩ =>
    refine ⟨w, h1, h2, h3, h4, ?_⟩
    rw [hc.heap _ (hz w h2) fun hv => ?_]; exact h5
    rcases hd w hv with h | h | h
    · exact h h2
    · exact h3 h
    · exact h4 h
/-- What changes outside the controller's own blocks leaves these alone. -/
theorem CtrlO.rest {V : Nat → Prop} {s' : St} (h : CtrlO base s c p q cs X Y Z) (hc : Ch s s' V) (hd : ∀ b, V b → ¬ Z b) :
    ∃ vn vf, s'.heap c = .row [.pointer (some ⟨p, 0, none⟩), .pointer (some ⟨q, 0, none⟩), vn, .int .i64 cs.last, .int .i64 cs.mark, .int .i64 cs.time, vf] ∧ NowO s' c Z vf vn cs.now ∧ Sl base s' 3 vf cs.fates ∧ Tight base vf ∧ ∀ b, inB vf b → Z b ∧ b ≠ c := by
  obtain ⟨vn, vf, h1, h2, h3, h4, h5⟩ := h.st
  exact ⟨vn, vf, by rw [hc.heap _ (h.z c h.zc).2 fun hv => hd c hv h.zc]; exact h1, h2.ch hc (fun b hb => (h.z b hb).2) fun b hv => .inl (hd b hv), h3.ch hc fun b hb hv => hd b hv (h5 b hb).1, h4, h5⟩
theorem CtrlO.box {L' : Bx} {X' : Nat → Prop} {s' : St} (h : CtrlO base s c p q cs X Y Z) (hc : Ch s s' X) (hx : ∀ b, X' b → X b ∨ s.next ≤ b) (ho : OwnB base s' p L' X') : CtrlO base s' c p q { cs with L := L' } X' Y Z := by
  have hn := hc.next
  have hbn := h.hbn
  refine ⟨ho, h.i.ch hc fun b hb => ⟨(h.o.low b hb).1, h.dxy b hb⟩, fun b hb hy => ?_, fun b hb hz => ?_, h.dyz, fun b hb => ?_, h.zc, by omega, h.rest hc h.dxz⟩
  · rcases hx b hb with h1 | h1
    · exact h.dxy b h1 hy
    · have := (h.i.low b hy).2; omega
  · rcases hx b hb with h1 | h1
    · exact h.dxz b h1 hz
    · have := (h.z b hz).2; omega
  · have := h.z b hb; omega
theorem CtrlO.inb {W' : List (List Value)} {o' : Bool} {Y' : Nat → Prop} {s' : St} (h : CtrlO base s c p q cs X Y Z) (hc : Ch s s' Y) (hx : ∀ b, Y' b → Y b ∨ s.next ≤ b) (ho : OwnI base s' q cs.room cs.F W' o' Y') : CtrlO base s' c p q { cs with W := W', over := o' } X Y' Z := by
  have hn := hc.next
  have hbn := h.hbn
  refine ⟨h.o.ch hc fun b hy hx => h.dxy b hx hy, ho, fun b hb hy => ?_, h.dxz, fun b hb hz => ?_, fun b hb => ?_, h.zc, by omega, h.rest hc h.dyz⟩
  · rcases hx b hy with h1 | h1
    · exact h.dxy b hb h1
    · have := (h.o.low b hb).2; omega
  · rcases hx b hb with h1 | h1
    · exact h.dyz b h1 hz
    · have := (h.z b hz).2; omega
  · have := h.z b hb; omega
/-- The controller's own blocks are changed. -/
theorem CtrlO.self {now' : Option (Int × Bool)} {l' m' t' : Int} {f' : List (List Value)} {Z' : Nat → Prop} {s' : St} (h : CtrlO base s c p q cs X Y Z) (hc : Ch s s' Z) (hx : ∀ b, Z' b → (Z b ∨ s.next ≤ b) ∧ b < s'.next) (zc : Z' c)
    (st : ∃ vn vf, s'.heap c = .row [.pointer (some ⟨p, 0, none⟩), .pointer (some ⟨q, 0, none⟩), vn, .int .i64 l', .int .i64 m', .int .i64 t', vf] ∧ NowO s' c Z' vf vn now' ∧ Sl base s' 3 vf f' ∧ Tight base vf ∧ ∀ b, inB vf b → Z' b ∧ b ≠ c) :
    CtrlO base s' c p q { cs with now := now', last := l', mark := m', time := t', fates := f' } X Y Z' := by
  have hn := hc.next
  have hbn := h.hbn
  refine ⟨h.o.ch hc fun b hz hx => h.dxz b hx hz, h.i.ch hc fun b hz => ⟨(h.z b hz).1, fun hy => h.dyz b hy hz⟩, h.dxy, fun b hb hz => ?_, fun b hb hz => ?_, fun b hb => ?_, zc, by omega, st⟩
  · rcases (hx b hz).1 with h1 | h1
    · exact h.dxz b hb h1
    · have := (h.o.low b hb).2; omega
  · rcases (hx b hz).1 with h1 | h1
    · exact h.dyz b hb h1
    · have := (h.i.low b hb).2; omega
  · have h2 := hx b hb
    rcases h2.1 with h1 | h1
    · have := h.z b h1; omega
    · omega
theorem CtrlO.mild {s' : St} (h : CtrlO base s c p q cs X Y Z) (hm : Mild s s') : CtrlO base s' c p q cs X Y Z := h.box (.of_mild hm _) (fun b hb => .inl hb) (h.o.mild hm)
theorem CtrlO.ch {V : Nat → Prop} {s' : St} (h : CtrlO base s c p q cs X Y Z) (hc : Ch s s' V) (hd : ∀ b, V b → ¬ X b ∧ ¬ Y b ∧ ¬ Z b ∧ base ≤ b) : CtrlO base s' c p q cs X Y Z := by
  have hn := hc.next
  have hbn := h.hbn
  exact ⟨h.o.ch hc fun b hv => (hd b hv).1, h.i.ch hc fun b hv => ⟨(hd b hv).2.2.2, (hd b hv).2.1⟩, h.dxy, h.dxz, h.dyz, fun b hb => by have := h.z b hb; omega, h.zc, by omega, h.rest hc fun b hv => (hd b hv).2.2.1⟩
/-- The one that is sent now, or the best one. -/
def CS.at_ (cs : CS) : Int := match cs.now with | some (k, _) => k | none => bestI cs.L
theorem cpost_ok (h : CtrlO base s c p q cs X Y Z) (hR : ∀ s', Mild s s' → R (.tuple #[poV (atO cs.L cs.at_), .bool (atO cs.L cs.at_).isSome]) s') : WC Try.prog base 34 [.pointer (some ⟨c, 0, none⟩)] s R := by
  refine WC_open Try.func34 rfl ?_
  have hc := h.z c h.zc
  have hbn := h.hbn
  obtain ⟨vn, vf, k1, k2, k3, k4, k5⟩ := h.st
  have h1 := h.mild (Mild.alloc s (.row Po.zero.c))
  cases hno : cs.now with
  | none =>
    rw [hno] at k2
    have hv : vn = .pointer none := k2
    subst hv
    have hat : cs.at_ = bestI cs.L := by simp only [CS.at_, hno]
    simp (disch := first | omega | ((simp only [Ab.next_alloc, Ab.next_upd, List.length_cons, List.length_nil, ne_eq, not_true_eq_false, not_false_eq_true]) <;> omega) | decide) only [↓stepPre, stepPost, ↓W_cond, ↓W_block, ↓reduceIte, Nat.reduceEqDiff, Nat.reduceLT, Nat.reduceLeDiff, ret0, stVar, isTup, Value.cells, Nat.le_refl, Nat.reduceAdd, Nat.reduceMul, Nat.reduceSub, env0, binV, intV, reduceCtorEq, pickV, nilCheckV, ptrV, unV, true_and, and_true, Nat.add_zero, Nat.zero_add, Rt, resultsV, allV, resV, Bool.not_true, Bool.not_false, calleeV, builtinV, eqV, fieldAddrV, ldVar, stN_own, stN_ownL, Int.fdiv_eq_ediv_of_nonneg, Int.reduceToNat, Int.reducePow, IntKind.bits, convV, ne_eq, not_false_eq_true, not_true_eq_false, Int.reduceNeg, Int.reduceAdd, Int.reduceSub, Int.reduceLT, Int.reduceLE, extractV, decide_true, decide_false, Int.reduceEq, mkFuncV, stBCtrl, beq_self_eq_true, tyB0Ctrl, getL_take, glBCtrl, k1, Option.isNone_some, Option.isNone_none]
    refine W_draw (fun k => k == 12) (fun _ => false) (fun _ => false) (by kernel_rfl) (by kernel_rfl) ?_
    simp (disch := first | omega | ((simp only [Ab.next_alloc, Ab.next_upd, List.length_cons, List.length_nil, ne_eq, not_true_eq_false, not_false_eq_true]) <;> omega) | decide) only [↓stepPre, stepPost, ↓W_cond, ↓W_block, ↓reduceIte, Nat.reduceEqDiff, Nat.reduceLT, Nat.reduceLeDiff, ret0, stVar, isTup, Value.cells, Nat.le_refl, Nat.reduceAdd, Nat.reduceMul, Nat.reduceSub, env0, binV, intV, reduceCtorEq, pickV, nilCheckV, ptrV, unV, true_and, and_true, Nat.add_zero, Nat.zero_add, Rt, resultsV, allV, resV, Bool.not_true, Bool.not_false, calleeV, builtinV, eqV, fieldAddrV, ldVar, stN_own, stN_ownL, Int.fdiv_eq_ediv_of_nonneg, Int.reduceToNat, Int.reducePow, IntKind.bits, convV, ne_eq, not_false_eq_true, not_true_eq_false, Int.reduceNeg, Int.reduceAdd, Int.reduceSub, Int.reduceLT, Int.reduceLE, extractV, decide_true, decide_false, Int.reduceEq, mkFuncV, stBCtrl, beq_self_eq_true, tyB0Ctrl, getL_take, glBCtrl, k1, Option.isNone_some, Option.isNone_none]
    refine best_ok h1.o h1.hbn fun s1 a m1 ha => ?_
    obtain rfl := ha.unique (bestAt_I h.o.good)
    have n1 := m1.next
    simp only [Ab.next_alloc] at n1
    have h2 := h1.mild m1
    simp (disch := first | omega | ((simp only [Ab.next_alloc, Ab.next_upd, List.length_cons, List.length_nil, ne_eq, not_true_eq_false, not_false_eq_true]) <;> omega) | decide) only [↓stepPre, stepPost, ↓W_cond, ↓W_block, ↓reduceIte, Nat.reduceEqDiff, Nat.reduceLT, Nat.reduceLeDiff, ret0, stVar, isTup, Value.cells, Nat.le_refl, Nat.reduceAdd, Nat.reduceMul, Nat.reduceSub, env0, binV, intV, reduceCtorEq, pickV, nilCheckV, ptrV, unV, true_and, and_true, Nat.add_zero, Nat.zero_add, Rt, resultsV, allV, resV, Bool.not_true, Bool.not_false, calleeV, builtinV, eqV, fieldAddrV, ldVar, stN_own, stN_ownL, Int.fdiv_eq_ediv_of_nonneg, Int.reduceToNat, Int.reducePow, IntKind.bits, convV, ne_eq, not_false_eq_true, not_true_eq_false, Int.reduceNeg, Int.reduceAdd, Int.reduceSub, Int.reduceLT, Int.reduceLE, extractV, decide_true, decide_false, Int.reduceEq, mkFuncV, stBCtrl, beq_self_eq_true, tyB0Ctrl, getL_take, glBCtrl]
    refine ⟨Dok_mild m1, ?_⟩
    refine get_ok h2.o h2.hbn fun s2 m2 => ?_
    have n2 := m2.next
    have hz : s2.heap s.next = .row Po.zero.c := (m2.heap _ (by omega)).trans ((m1.heap _ (by simp only [Ab.next_alloc]; omega)).trans (Ab.heap_alloc_new _ _))
    have hm : Mild s (s2.upd s.next (.row ((atO cs.L (bestI cs.L)).getD Po.zero).c)) := Mild.upd' (((Mild.alloc _ _).trans m1).trans m2) (by omega)
    have key := hR _ hm
    rw [hat] at key
    simp only [Po.c] at hz
    simp (disch := first | omega | ((simp only [Ab.next_alloc, Ab.next_upd, List.length_cons, List.length_nil, ne_eq, not_true_eq_false, not_false_eq_true]) <;> omega) | decide) only [↓stepPre, stepPost, ↓W_cond, ↓W_block, ↓reduceIte, Nat.reduceEqDiff, Nat.reduceLT, Nat.reduceLeDiff, ret0, stVar, isTup, Value.cells, Nat.le_refl, Nat.reduceAdd, Nat.reduceMul, Nat.reduceSub, env0, binV, intV, reduceCtorEq, pickV, nilCheckV, ptrV, unV, true_and, and_true, Nat.add_zero, Nat.zero_add, Rt, resultsV, allV, resV, Bool.not_true, Bool.not_false, calleeV, builtinV, eqV, fieldAddrV, ldVar, stN_own, stN_ownL, Int.fdiv_eq_ediv_of_nonneg, Int.reduceToNat, Int.reducePow, IntKind.bits, convV, ne_eq, not_false_eq_true, not_true_eq_false, Int.reduceNeg, Int.reduceAdd, Int.reduceSub, Int.reduceLT, Int.reduceLE, extractV, decide_true, decide_false, Int.reduceEq, mkFuncV, stBCtrl, beq_self_eq_true, tyB0Ctrl, getL_take, glBCtrl, poV, hz, Try.results34]
    exact ⟨Dok_mild m2, key⟩
  | some ka =>
    obtain ⟨k, a⟩ := ka
    rw [hno] at k2
    obtain ⟨w, rfl, w1, w2, w3, w4⟩ := k2
    have hw := h.z w w1
    have hat : cs.at_ = k := by simp only [CS.at_, hno]
    simp (disch := first | omega | ((simp only [Ab.next_alloc, Ab.next_upd, List.length_cons, List.length_nil, ne_eq, not_true_eq_false, not_false_eq_true]) <;> omega) | decide) only [↓stepPre, stepPost, ↓W_cond, ↓W_block, ↓reduceIte, Nat.reduceEqDiff, Nat.reduceLT, Nat.reduceLeDiff, ret0, stVar, isTup, Value.cells, Nat.le_refl, Nat.reduceAdd, Nat.reduceMul, Nat.reduceSub, env0, binV, intV, reduceCtorEq, pickV, nilCheckV, ptrV, unV, true_and, and_true, Nat.add_zero, Nat.zero_add, Rt, resultsV, allV, resV, Bool.not_true, Bool.not_false, calleeV, builtinV, eqV, fieldAddrV, ldVar, stN_own, stN_ownL, Int.fdiv_eq_ediv_of_nonneg, Int.reduceToNat, Int.reducePow, IntKind.bits, convV, ne_eq, not_false_eq_true, not_true_eq_false, Int.reduceNeg, Int.reduceAdd, Int.reduceSub, Int.reduceLT, Int.reduceLE, extractV, decide_true, decide_false, Int.reduceEq, mkFuncV, stBCtrl, beq_self_eq_true, tyB0Ctrl, getL_take, glBCtrl, k1, Option.isNone_some, Option.isNone_none]
    refine W_draw (fun k => k == 14) (fun _ => false) (fun _ => false) (by kernel_rfl) (by kernel_rfl) ?_
    simp (disch := first | omega | ((simp only [Ab.next_alloc, Ab.next_upd, List.length_cons, List.length_nil, ne_eq, not_true_eq_false, not_false_eq_true]) <;> omega) | decide) only [↓stepPre, stepPost, ↓W_cond, ↓W_block, ↓reduceIte, Nat.reduceEqDiff, Nat.reduceLT, Nat.reduceLeDiff, ret0, stVar, isTup, Value.cells, Nat.le_refl, Nat.reduceAdd, Nat.reduceMul, Nat.reduceSub, env0, binV, intV, reduceCtorEq, pickV, nilCheckV, ptrV, unV, true_and, and_true, Nat.add_zero, Nat.zero_add, Rt, resultsV, allV, resV, Bool.not_true, Bool.not_false, calleeV, builtinV, eqV, fieldAddrV, ldVar, stN_own, stN_ownL, Int.fdiv_eq_ediv_of_nonneg, Int.reduceToNat, Int.reducePow, IntKind.bits, convV, ne_eq, not_false_eq_true, not_true_eq_false, Int.reduceNeg, Int.reduceAdd, Int.reduceSub, Int.reduceLT, Int.reduceLE, extractV, decide_true, decide_false, Int.reduceEq, mkFuncV, stBCtrl, beq_self_eq_true, tyB0Ctrl, getL_take, glBCtrl, k1, w4, Option.isNone_some, Option.isNone_none]
    refine get_ok h1.o h1.hbn fun s2 m2 => ?_
    have n2 := m2.next
    simp only [Ab.next_alloc] at n2
    have hz : s2.heap s.next = .row Po.zero.c := (m2.heap _ (by simp only [Ab.next_alloc]; omega)).trans (Ab.heap_alloc_new _ _)
    have hm : Mild s (s2.upd s.next (.row ((atO cs.L k).getD Po.zero).c)) := Mild.upd' ((Mild.alloc _ _).trans m2) (by omega)
    have key := hR _ hm
    rw [hat] at key
    simp only [Po.c] at hz
    simp (disch := first | omega | ((simp only [Ab.next_alloc, Ab.next_upd, List.length_cons, List.length_nil, ne_eq, not_true_eq_false, not_false_eq_true]) <;> omega) | decide) only [↓stepPre, stepPost, ↓W_cond, ↓W_block, ↓reduceIte, Nat.reduceEqDiff, Nat.reduceLT, Nat.reduceLeDiff, ret0, stVar, isTup, Value.cells, Nat.le_refl, Nat.reduceAdd, Nat.reduceMul, Nat.reduceSub, env0, binV, intV, reduceCtorEq, pickV, nilCheckV, ptrV, unV, true_and, and_true, Nat.add_zero, Nat.zero_add, Rt, resultsV, allV, resV, Bool.not_true, Bool.not_false, calleeV, builtinV, eqV, fieldAddrV, ldVar, stN_own, stN_ownL, Int.fdiv_eq_ediv_of_nonneg, Int.reduceToNat, Int.reducePow, IntKind.bits, convV, ne_eq, not_false_eq_true, not_true_eq_false, Int.reduceNeg, Int.reduceAdd, Int.reduceSub, Int.reduceLT, Int.reduceLE, extractV, decide_true, decide_false, Int.reduceEq, mkFuncV, stBCtrl, beq_self_eq_true, tyB0Ctrl, getL_take, glBCtrl, poV, hz, Try.results34]
    exact ⟨Dok_mild m2, key⟩
theorem submit_ok {po : Po} (h : CtrlO base s c p q cs X Y Z) (hn : po.n < 2 ^ 32) (hR : ∀ s' X', Ch s s' X → (∀ b, X' b → X b ∨ s.next ≤ b) → CtrlO base s' c p q { cs with L := putL cs.L po } X' Y Z → R (.tuple #[.int .i64 (putI cs.L po), .int .i64 (putE cs.L po)]) s') :
    WC Try.prog base 7 [.pointer (some ⟨c, 0, none⟩), .agg po.c.toArray] s R := by
  refine WC_open Try.func7 rfl ?_
  have hc := h.z c h.zc
  have hbn := h.hbn
  obtain ⟨vn, vf, k1, -⟩ := h.st
  have hm := Mild.alloc s (.row po.c)
  have h1 := h.mild hm
  simp (disch := first | omega | ((simp only [Ab.next_alloc, Ab.next_upd, List.length_cons, List.length_nil, ne_eq, not_true_eq_false, not_false_eq_true]) <;> omega) | decide) only [↓stepPre, stepPost, ↓W_cond, ↓W_block, ↓reduceIte, Nat.reduceEqDiff, Nat.reduceLT, Nat.reduceLeDiff, ret0, stVar, isTup, Value.cells, Nat.le_refl, Nat.reduceAdd, Nat.reduceMul, Nat.reduceSub, env0, binV, intV, reduceCtorEq, pickV, nilCheckV, ptrV, unV, true_and, and_true, Nat.add_zero, Nat.zero_add, Rt, resultsV, allV, resV, Bool.not_true, Bool.not_false, calleeV, builtinV, eqV, fieldAddrV, ldVar, stN_own, stN_ownL, Int.fdiv_eq_ediv_of_nonneg, Int.reduceToNat, Int.reducePow, IntKind.bits, convV, ne_eq, not_false_eq_true, not_true_eq_false, Int.reduceNeg, Int.reduceAdd, Int.reduceSub, Int.reduceLT, Int.reduceLE, extractV, decide_true, decide_false, Int.reduceEq, mkFuncV, stBCtrl, beq_self_eq_true, tyB0Ctrl, getL_take, glBCtrl, Option.isNone_some]
  refine W_draw (fun k => k == 5) (fun _ => false) (fun _ => false) (by kernel_rfl) (by kernel_rfl) ?_
  simp (disch := first | omega | ((simp only [Ab.next_alloc, Ab.next_upd, List.length_cons, List.length_nil, ne_eq, not_true_eq_false, not_false_eq_true]) <;> omega) | decide) only [↓stepPre, stepPost, ↓W_cond, ↓W_block, ↓reduceIte, Nat.reduceEqDiff, Nat.reduceLT, Nat.reduceLeDiff, ret0, stVar, isTup, Value.cells, Nat.le_refl, Nat.reduceAdd, Nat.reduceMul, Nat.reduceSub, env0, binV, intV, reduceCtorEq, pickV, nilCheckV, ptrV, unV, true_and, and_true, Nat.add_zero, Nat.zero_add, Rt, resultsV, allV, resV, Bool.not_true, Bool.not_false, calleeV, builtinV, eqV, fieldAddrV, ldVar, stN_own, stN_ownL, Int.fdiv_eq_ediv_of_nonneg, Int.reduceToNat, Int.reducePow, IntKind.bits, convV, ne_eq, not_false_eq_true, not_true_eq_false, Int.reduceNeg, Int.reduceAdd, Int.reduceSub, Int.reduceLT, Int.reduceLE, extractV, decide_true, decide_false, Int.reduceEq, mkFuncV, stBCtrl, beq_self_eq_true, tyB0Ctrl, getL_take, glBCtrl, k1, Option.isNone_some]
  refine put_ok (po := po) h1.o hn h1.hbn fun s2 X2 c2 x2 o2 => ?_
  have n2 := c2.next
  simp (disch := first | omega | ((simp only [Ab.next_alloc, Ab.next_upd, List.length_cons, List.length_nil, ne_eq, not_true_eq_false, not_false_eq_true]) <;> omega) | decide) only [↓stepPre, stepPost, ↓W_cond, ↓W_block, ↓reduceIte, Nat.reduceEqDiff, Nat.reduceLT, Nat.reduceLeDiff, ret0, stVar, isTup, Value.cells, Nat.le_refl, Nat.reduceAdd, Nat.reduceMul, Nat.reduceSub, env0, binV, intV, reduceCtorEq, pickV, nilCheckV, ptrV, unV, true_and, and_true, Nat.add_zero, Nat.zero_add, Rt, resultsV, allV, resV, Bool.not_true, Bool.not_false, calleeV, builtinV, eqV, fieldAddrV, ldVar, stN_own, stN_ownL, Int.fdiv_eq_ediv_of_nonneg, Int.reduceToNat, Int.reducePow, IntKind.bits, convV, ne_eq, not_false_eq_true, not_true_eq_false, Int.reduceNeg, Int.reduceAdd, Int.reduceSub, Int.reduceLT, Int.reduceLE, extractV, decide_true, decide_false, Int.reduceEq, mkFuncV, stBCtrl, beq_self_eq_true, tyB0Ctrl, getL_take, glBCtrl, Try.results7]
  refine ⟨Dok_next (by decide) n2, ?_⟩
  simp only [Ab.next_alloc] at n2
  refine hR _ X2 (Ch.mono (Ch.trans (Ch.of_mild hm X) c2) fun b _ hb => hb.elim id id) (fun b hb => (x2 b hb).imp id fun h => by simp only [Ab.next_alloc] at h; omega) (h1.box c2 x2 o2)
/-- A post is taken out, with its fate. -/
def CS.out (cs : CS) (k f : Int) : CS := match atO cs.L k with
  | some po => { cs with L := takeL cs.L k, fates := cs.fates ++ [[.int .i64 po.t, .int .i64 f, .int .i64 cs.time]] }
  | none => cs
theorem takeE_some {L : Bx} {k : Int} {po : Po} (h : atO L k = some po) : takeE L k = 0 := by
  have h0 : ¬ (k < 0 ∨ L.length ≤ k) := fun hc => by rw [atO_big hc] at h; cases h
  simp only [takeE, h0, if_false, h]; rfl
theorem takeE_none {L : Bx} {k : Int} (h : atO L k = none) : takeE L k ≠ 0 := by
  unfold takeE; rw [h]; split <;> simp
theorem takeL_none {L : Bx} {k : Int} (h : atO L k = none) : takeL L k = L := by simp [takeL, h]
theorem out_ok {k f : Int} (h : CtrlO base s c p q cs X Y Z) (hfl : cs.fates.length ≤ 100000) (hR : ∀ s' Z', Ch s s' (fun b => X b ∨ Z b) → (∀ b, Z' b → Z b ∨ s.next ≤ b) → CtrlO base s' c p q (cs.out k f) X Y Z' → R (.tuple #[]) s') :
    WC Try.prog base 24 [.pointer (some ⟨c, 0, none⟩), .int .i64 k, .int .i64 f] s R := by
  refine WC_open Try.func24 rfl ?_
  have hc := h.z c h.zc
  have hbn := h.hbn
  obtain ⟨vn0, vf0, k1, -⟩ := h.st
  simp (disch := first | omega | ((simp only [Ab.next_alloc, Ab.next_upd, List.length_cons, List.length_nil, ne_eq, not_true_eq_false, not_false_eq_true]) <;> omega) | decide) only [↓stepPre, stepPost, ↓W_cond, ↓W_block, ↓reduceIte, Nat.reduceEqDiff, Nat.reduceLT, Nat.reduceLeDiff, ret0, stVar, isTup, Value.cells, Nat.le_refl, Nat.reduceAdd, Nat.reduceMul, Nat.reduceSub, env0, binV, intV, reduceCtorEq, pickV, nilCheckV, ptrV, unV, true_and, and_true, Nat.add_zero, Nat.zero_add, Rt, resultsV, allV, resV, Bool.not_true, Bool.not_false, calleeV, builtinV, eqV, fieldAddrV, ldVar, stN_own, stN_ownL, Int.fdiv_eq_ediv_of_nonneg, Int.reduceToNat, Int.reducePow, IntKind.bits, convV, ne_eq, not_false_eq_true, not_true_eq_false, Int.reduceNeg, Int.reduceAdd, Int.reduceSub, Int.reduceLT, Int.reduceLE, extractV, decide_true, decide_false, Int.reduceEq, mkFuncV, stBCtrl, beq_self_eq_true, tyB0Ctrl, getL_take, glBCtrl, k1]
  refine take_ok h.o h.hbn fun s1 c1 o1 => ?_
  have n1 := c1.next
  have h1 := h.box (c1.mono fun b _ (hb : b = p) => by rw [hb]; exact h.o.hX) (fun b hb => .inl hb) o1
  clear k1
  have h2 := h1.mild (Mild.alloc s1 (.row (((atO cs.L k).getD Po.zero).c)))
  have hc1 : Ch s (s1.alloc (.row (((atO cs.L k).getD Po.zero).c))) (fun b => X b ∨ Z b) := (c1.mono fun b _ (hb : b = p) => .inl (by rw [hb]; exact h.o.hX)).alloc'
  cases ha : atO cs.L k with
  | none =>
    have hE := takeE_none ha
    have hcs : cs.out k f = cs := by simp only [CS.out, ha]
    rw [ha] at hc1 h2
    rw [takeL_none ha] at h2
    have key := hR _ Z hc1 (fun b hb => .inl hb) (by rw [hcs]; exact h2)
    simp (disch := first | omega | ((simp only [Ab.next_alloc, Ab.next_upd, List.length_cons, List.length_nil, ne_eq, not_true_eq_false, not_false_eq_true]) <;> omega) | decide) only [↓stepPre, stepPost, ↓W_cond, ↓W_block, ↓reduceIte, Nat.reduceEqDiff, Nat.reduceLT, Nat.reduceLeDiff, ret0, stVar, isTup, Value.cells, Nat.le_refl, Nat.reduceAdd, Nat.reduceMul, Nat.reduceSub, env0, binV, intV, reduceCtorEq, pickV, nilCheckV, ptrV, unV, true_and, and_true, Nat.add_zero, Nat.zero_add, Rt, resultsV, allV, resV, Bool.not_true, Bool.not_false, calleeV, builtinV, eqV, fieldAddrV, ldVar, stN_own, stN_ownL, Int.fdiv_eq_ediv_of_nonneg, Int.reduceToNat, Int.reducePow, IntKind.bits, convV, ne_eq, not_false_eq_true, not_true_eq_false, Int.reduceNeg, Int.reduceAdd, Int.reduceSub, Int.reduceLT, Int.reduceLE, extractV, decide_true, decide_false, Int.reduceEq, mkFuncV, stBCtrl, beq_self_eq_true, tyB0Ctrl, getL_take, glBCtrl, poV, hE, Try.results24]
    exact key
  | some po =>
    have hE := takeE_some ha
    rw [ha] at hc1 h2
    simp only [Option.getD_some] at hc1 h2
    obtain ⟨vn, vf, k1, k2, k3, k4, k5⟩ := h2.st
    have hlt := (h2.z c h2.zc).2
    simp only [Ab.next_alloc] at hlt
    rw [Ab.heap_alloc_ne _ _ (by have := (h1.z c h1.zc).2; omega)] at k1
    simp (disch := first | omega | ((simp only [Ab.next_alloc, Ab.next_upd, List.length_cons, List.length_nil, ne_eq, not_true_eq_false, not_false_eq_true]) <;> omega) | decide) only [↓stepPre, stepPost, ↓W_cond, ↓W_block, ↓reduceIte, Nat.reduceEqDiff, Nat.reduceLT, Nat.reduceLeDiff, ret0, stVar, isTup, Value.cells, Nat.le_refl, Nat.reduceAdd, Nat.reduceMul, Nat.reduceSub, env0, binV, intV, reduceCtorEq, pickV, nilCheckV, ptrV, unV, true_and, and_true, Nat.add_zero, Nat.zero_add, Rt, resultsV, allV, resV, Bool.not_true, Bool.not_false, calleeV, builtinV, eqV, fieldAddrV, ldVar, stN_own, stN_ownL, Int.fdiv_eq_ediv_of_nonneg, Int.reduceToNat, Int.reducePow, IntKind.bits, convV, ne_eq, not_false_eq_true, not_true_eq_false, Int.reduceNeg, Int.reduceAdd, Int.reduceSub, Int.reduceLT, Int.reduceLE, extractV, decide_true, decide_false, Int.reduceEq, mkFuncV, stBCtrl, beq_self_eq_true, tyB0Ctrl, getL_take, glBCtrl, poV, hE, Option.getD_some]
    refine W_draw (fun k => k == 14 || k == 17) (fun _ => false) (fun _ => false) (by kernel_rfl) (by kernel_rfl) ?_
    have hnb := h1.hbn
    have hbs : ∀ s : St, buildSliceV Try.prog s 45 1 [(0, .agg #[.int .i64 po.t, .int .i64 f, .int .i64 cs.time])] = some (.slice (some ⟨s.next, 0, none⟩) 1 1, s.alloc (.row [.int .i64 po.t, .int .i64 f, .int .i64 cs.time])) := fun s =>
      build1 (l := [.int .i64 po.t, .int .i64 f, .int .i64 cs.time]) Ty.elem45 Ty.siz51 Ty.zer51 rfl rfl (by omega) (by omega)
    have h3 := h2.mild (Mild.alloc (s1.alloc (.row po.c)) (.row [.int .i64 po.t, .int .i64 f, .int .i64 cs.time]))
    have hx3 : Sl base ((s1.alloc (.row po.c)).alloc (.row [.int .i64 po.t, .int .i64 f, .int .i64 cs.time])) 3 (.slice (some ⟨(s1.alloc (.row po.c)).next, 0, none⟩) 1 1) [[.int .i64 po.t, .int .i64 f, .int .i64 cs.time]] :=
      .newRow (Ab.heap_alloc_new _ _) rfl rfl (by simp) (by simp only [Ab.next_alloc]; omega) (by simp only [Ab.next_alloc]; omega)
    obtain ⟨v4, s4, e1, e2, e3, e4, e5, e6⟩ := appB_ok (P := Try.prog) (t := 45) (t' := 45) (k3.mild (Mild.alloc _ (.row [.int .i64 po.t, .int .i64 f, .int .i64 cs.time]))) k4 (by simp only [Ab.next_alloc]; omega) Ty.elem45 Ty.int45 Ty.und45 Ty.siz51 (by decide) Ty.zer51 rfl Ty.byt51 hx3 (by simp only [List.length_cons, List.length_nil]; omega)
    have n4 := e4.next
    simp only [Ab.next_alloc] at n4
    obtain ⟨a4, l4, c4, rfl⟩ := e2.shape
    have kc : s4.heap c = _ := (e4.heap c (by simp only [Ab.next_alloc]; omega) fun hi => (k5 c hi).2 rfl).trans ((Ab.heap_alloc_ne _ _ (by simp only [Ab.next_alloc]; omega)).trans ((Ab.heap_alloc_ne _ _ (by omega)).trans k1))
    simp only [Ab.next_alloc, Po.c] at e1
    simp (disch := first | omega | ((simp only [Ab.next_alloc, Ab.next_upd, List.length_cons, List.length_nil, ne_eq, not_true_eq_false, not_false_eq_true]) <;> omega) | decide) only [↓stepPre, stepPost, ↓W_cond, ↓W_block, ↓reduceIte, Nat.reduceEqDiff, Nat.reduceLT, Nat.reduceLeDiff, ret0, stVar, isTup, Value.cells, Nat.le_refl, Nat.reduceAdd, Nat.reduceMul, Nat.reduceSub, env0, binV, intV, reduceCtorEq, pickV, nilCheckV, ptrV, unV, true_and, and_true, Nat.add_zero, Nat.zero_add, Rt, resultsV, allV, resV, Bool.not_true, Bool.not_false, calleeV, builtinV, eqV, fieldAddrV, ldVar, stN_own, stN_ownL, Int.fdiv_eq_ediv_of_nonneg, Int.reduceToNat, Int.reducePow, IntKind.bits, convV, ne_eq, not_false_eq_true, not_true_eq_false, Int.reduceNeg, Int.reduceAdd, Int.reduceSub, Int.reduceLT, Int.reduceLE, extractV, decide_true, decide_false, Int.reduceEq, mkFuncV, stBCtrl, beq_self_eq_true, tyB0Ctrl, getL_take, glBCtrl, k1, hbs, e1, buildV, fillL]
    have hZ0 : ∀ b, Z b → b < s1.next := fun b hb => (h1.z b hb).2
    have hch : Ch (s1.alloc (.row po.c)) (s4.upd c (.row [.pointer (some ⟨p, 0, none⟩), .pointer (some ⟨q, 0, none⟩), vn, .int .i64 cs.last, .int .i64 cs.mark, .int .i64 cs.time, .slice a4 l4 c4])) Z :=
      Ch.upd' ((Ch.trans (Ch.of_mild (Mild.alloc _ _) Z) (e4.mono (Y := Z) fun b _ hb => (k5 b hb).1)).mono fun b _ hb => hb.elim id id) fun _ => h2.zc
    have hnew : ∀ b, inB (.slice a4 l4 c4) b → s1.next + 1 ≤ b ∧ b < s4.next := fun b hb => by
      have := e5 (by simp) b hb
      simp only [Ab.next_alloc] at this
      exact ⟨by omega, e2.lt b hb⟩
    have h5 := h2.self (now' := cs.now) (l' := cs.last) (m' := cs.mark) (t' := cs.time) (f' := cs.fates ++ [[.int .i64 po.t, .int .i64 f, .int .i64 cs.time]]) (Z' := fun b => Z b ∨ (s1.next + 1 ≤ b ∧ b < s4.next)) hch
      (fun b hb => ⟨hb.imp id fun h => by simp only [Ab.next_alloc]; exact h.1, by simp only [Ab.next_upd]; exact hb.elim (fun h => by have := hZ0 b h; omega) fun h => h.2⟩) (.inl h2.zc)
      ⟨vn, .slice a4 l4 c4, Ab.heap_upd_same _ _ _, by
        match hno : cs.now, k2 with
        | none, k2 => exact k2
        | some (k', a), ⟨w, w1, w2, w3, w4, w5⟩ =>
          refine ⟨w, w1, .inl w2, w3, fun hi => by have := hnew w hi; have := hZ0 w w2; omega, ?_⟩
          rw [Ab.heap_upd_ne _ _ w3, e4.heap w (by have := hZ0 w w2; simp only [Ab.next_alloc]; omega) w4, Ab.heap_alloc_ne _ _ (by have := hZ0 w w2; simp only [Ab.next_alloc]; omega)]; exact w5,
       e2.ch (X := fun b => b = c) (Ch.upd' (.refl _ _) fun _ => rfl) fun b hb he => by have := hnew b hb; have := hZ0 c h1.zc; omega, e3, fun b hb => ⟨.inr (hnew b hb), by have := hnew b hb; have := hZ0 c h1.zc; omega⟩⟩
    have hcs : cs.out k f = { cs with L := takeL cs.L k, fates := cs.fates ++ [[.int .i64 po.t, .int .i64 f, .int .i64 cs.time]] } := by simp only [CS.out, ha]
    have key := hR _ (fun b => Z b ∨ (s1.next + 1 ≤ b ∧ b < s4.next)) ((Ch.trans hc1 hch).mono fun b _ hb => hb.elim id .inr) (fun b hb => hb.imp id fun h => by omega) (by rw [hcs]; exact h5)
    simp (disch := first | omega | ((simp only [Ab.next_alloc, Ab.next_upd, List.length_cons, List.length_nil, ne_eq, not_true_eq_false, not_false_eq_true]) <;> omega) | decide) only [↓stepPre, stepPost, ↓W_cond, ↓W_block, ↓reduceIte, Nat.reduceEqDiff, Nat.reduceLT, Nat.reduceLeDiff, ret0, stVar, isTup, Value.cells, Nat.le_refl, Nat.reduceAdd, Nat.reduceMul, Nat.reduceSub, env0, binV, intV, reduceCtorEq, pickV, nilCheckV, ptrV, unV, true_and, and_true, Nat.add_zero, Nat.zero_add, Rt, resultsV, allV, resV, Bool.not_true, Bool.not_false, calleeV, builtinV, eqV, fieldAddrV, ldVar, stN_own, stN_ownL, Int.fdiv_eq_ediv_of_nonneg, Int.reduceToNat, Int.reducePow, IntKind.bits, convV, ne_eq, not_false_eq_true, not_true_eq_false, Int.reduceNeg, Int.reduceAdd, Int.reduceSub, Int.reduceLT, Int.reduceLE, extractV, decide_true, decide_false, Int.reduceEq, mkFuncV, stBCtrl, beq_self_eq_true, tyB0Ctrl, getL_take, glBCtrl, kc, hbs, e1, buildV, fillL, Try.results24]
    refine ⟨Dok_next (by decide) (by simp only [Ab.next_alloc]; omega), key⟩
theorem NowO.upd {vf vn : Value} {now : Option (Int × Bool)} {r : AObj} (h : NowO s c Z vf vn now) : NowO (s.upd c r) c Z vf vn now := by
  match now, h with
  | none, h => exact h
  | some (k, a), ⟨w, h1, h2, h3, h4, h5⟩ => exact ⟨w, h1, h2, h3, h4, by rw [Ab.heap_upd_ne _ _ h3]; exact h5⟩
/-- The controller's row is written; what is being sent, and the fates, stay. -/
theorem CtrlO.row {vn vf : Value} {l' m' t' : Int} (h : CtrlO base s c p q cs X Y Z) (k2 : NowO s c Z vf vn cs.now) (k3 : Sl base s 3 vf cs.fates) (k4 : Tight base vf) (k5 : ∀ b, inB vf b → Z b ∧ b ≠ c) :
    CtrlO base (s.upd c (.row [.pointer (some ⟨p, 0, none⟩), .pointer (some ⟨q, 0, none⟩), vn, .int .i64 l', .int .i64 m', .int .i64 t', vf])) c p q { cs with last := l', mark := m', time := t' } X Y Z :=
  h.self (now' := cs.now) (f' := cs.fates) (Ch.upd' (.refl _ _) fun _ => h.zc) (fun b hb => ⟨.inl hb, by simp only [Ab.next_upd]; exact (h.z b hb).2⟩) h.zc
    ⟨vn, vf, Ab.heap_upd_same _ _ _, k2.upd, k3.ch (X := fun b => b = c) (Ch.upd' (.refl _ _) fun _ => rfl) fun b hb he => (k5 b hb).2 he, k4, k5⟩
/-- What is being sent is given up. -/
theorem CtrlO.free {vf : Value} (h : CtrlO base s c p q cs X Y Z) (k3 : Sl base s 3 vf cs.fates) (k4 : Tight base vf) (k5 : ∀ b, inB vf b → Z b ∧ b ≠ c) :
    CtrlO base (s.upd c (.row [.pointer (some ⟨p, 0, none⟩), .pointer (some ⟨q, 0, none⟩), .pointer none, .int .i64 cs.last, .int .i64 cs.mark, .int .i64 cs.time, vf])) c p q { cs with now := none } X Y Z :=
  h.self (now' := none) (l' := cs.last) (m' := cs.mark) (t' := cs.time) (f' := cs.fates) (Ch.upd' (.refl _ _) fun _ => h.zc) (fun b hb => ⟨.inl hb, by simp only [Ab.next_upd]; exact (h.z b hb).2⟩) h.zc
    ⟨.pointer none, vf, Ab.heap_upd_same _ _ _, rfl, k3.ch (X := fun b => b = c) (Ch.upd' (.refl _ _) fun _ => rfl) fun b hb he => (k5 b hb).2 he, k4, k5⟩
def CS.done (cs : CS) (k f : Int) : CS := if f = 0 then { cs with now := none } else { cs.out k f with now := none }
theorem out_now (cs : CS) (k f : Int) : (cs.out k f).now = cs.now := by unfold CS.out; split <;> rfl
theorem done_ok {k f : Int} {a : Bool} (h : CtrlO base s c p q cs X Y Z) (hno : cs.now = some (k, a)) (hfl : cs.fates.length ≤ 100000) (hR : ∀ s' Z', Ch s s' (fun b => X b ∨ Z b) → (∀ b, Z' b → Z b ∨ s.next ≤ b) → CtrlO base s' c p q (cs.done k f) X Y Z' → R (.tuple #[]) s') :
    WC Try.prog base 27 [.pointer (some ⟨c, 0, none⟩), .int .i64 f] s R := by
  refine WC_open Try.func27 rfl ?_
  have hc := h.z c h.zc
  obtain ⟨vn, vf, k1, k2, k3, k4, k5⟩ := h.st
  rw [hno] at k2
  obtain ⟨w, rfl, w1, w2, w3, w4⟩ := k2
  have hw := h.z w w1
  by_cases hf : f = 0
  · have key := hR _ Z (Ch.upd' (.refl _ _) fun _ => .inr h.zc) (fun b hb => .inl hb) (by simp only [CS.done, hf, if_true]; exact h.free k3 k4 k5)
    simp (disch := first | omega | ((simp only [Ab.next_alloc, Ab.next_upd, List.length_cons, List.length_nil, ne_eq, not_true_eq_false, not_false_eq_true]) <;> omega) | decide) only [↓stepPre, stepPost, ↓W_cond, ↓W_block, ↓reduceIte, Nat.reduceEqDiff, Nat.reduceLT, Nat.reduceLeDiff, ret0, stVar, isTup, Value.cells, Nat.le_refl, Nat.reduceAdd, Nat.reduceMul, Nat.reduceSub, env0, binV, intV, reduceCtorEq, pickV, nilCheckV, ptrV, unV, true_and, and_true, Nat.add_zero, Nat.zero_add, Rt, resultsV, allV, resV, Bool.not_true, Bool.not_false, calleeV, builtinV, eqV, fieldAddrV, ldVar, stN_own, stN_ownL, Int.fdiv_eq_ediv_of_nonneg, Int.reduceToNat, Int.reducePow, IntKind.bits, convV, ne_eq, not_false_eq_true, not_true_eq_false, Int.reduceNeg, Int.reduceAdd, Int.reduceSub, Int.reduceLT, Int.reduceLE, extractV, decide_true, decide_false, Int.reduceEq, mkFuncV, stBCtrl, beq_self_eq_true, tyB0Ctrl, getL_take, glBCtrl, hf, k1, Try.results27]
    exact key
  · simp (disch := first | omega | ((simp only [Ab.next_alloc, Ab.next_upd, List.length_cons, List.length_nil, ne_eq, not_true_eq_false, not_false_eq_true]) <;> omega) | decide) only [↓stepPre, stepPost, ↓W_cond, ↓W_block, ↓reduceIte, Nat.reduceEqDiff, Nat.reduceLT, Nat.reduceLeDiff, ret0, stVar, isTup, Value.cells, Nat.le_refl, Nat.reduceAdd, Nat.reduceMul, Nat.reduceSub, env0, binV, intV, reduceCtorEq, pickV, nilCheckV, ptrV, unV, true_and, and_true, Nat.add_zero, Nat.zero_add, Rt, resultsV, allV, resV, Bool.not_true, Bool.not_false, calleeV, builtinV, eqV, fieldAddrV, ldVar, stN_own, stN_ownL, Int.fdiv_eq_ediv_of_nonneg, Int.reduceToNat, Int.reducePow, IntKind.bits, convV, ne_eq, not_false_eq_true, not_true_eq_false, Int.reduceNeg, Int.reduceAdd, Int.reduceSub, Int.reduceLT, Int.reduceLE, extractV, decide_true, decide_false, Int.reduceEq, mkFuncV, stBCtrl, beq_self_eq_true, tyB0Ctrl, getL_take, glBCtrl, hf, k1, w4]
    refine out_ok h hfl fun s2 Z2 c2 z2 h2 => ?_
    obtain ⟨vn2, vf2, k1', k2', k3', k4', k5'⟩ := h2.st
    have hc2 := h2.z c h2.zc
    have key := hR _ Z2 (Ch.upd' c2 fun _ => .inr h.zc) z2 (by simp only [CS.done, hf, if_false]; exact h2.free k3' k4' k5')
    simp (disch := first | omega | ((simp only [Ab.next_alloc, Ab.next_upd, List.length_cons, List.length_nil, ne_eq, not_true_eq_false, not_false_eq_true]) <;> omega) | decide) only [↓stepPre, stepPost, ↓W_cond, ↓W_block, ↓reduceIte, Nat.reduceEqDiff, Nat.reduceLT, Nat.reduceLeDiff, ret0, stVar, isTup, Value.cells, Nat.le_refl, Nat.reduceAdd, Nat.reduceMul, Nat.reduceSub, env0, binV, intV, reduceCtorEq, pickV, nilCheckV, ptrV, unV, true_and, and_true, Nat.add_zero, Nat.zero_add, Rt, resultsV, allV, resV, Bool.not_true, Bool.not_false, calleeV, builtinV, eqV, fieldAddrV, ldVar, stN_own, stN_ownL, Int.fdiv_eq_ediv_of_nonneg, Int.reduceToNat, Int.reducePow, IntKind.bits, convV, ne_eq, not_false_eq_true, not_true_eq_false, Int.reduceNeg, Int.reduceAdd, Int.reduceSub, Int.reduceLT, Int.reduceLE, extractV, decide_true, decide_false, Int.reduceEq, mkFuncV, stBCtrl, beq_self_eq_true, tyB0Ctrl, getL_take, glBCtrl, hf, k1', Try.results27]
    exact key
def CS.failed (cs : CS) (a : Bool) : Int := if a then 2 else if ((atO cs.L cs.at_).getD Po.zero).o then 3 else 0
theorem failed_ok {k : Int} {a : Bool} (h : CtrlO base s c p q cs X Y Z) (hno : cs.now = some (k, a)) (hR : ∀ s', Mild s s' → R (.int .i64 (cs.failed a)) s') :
    WC Try.prog base 28 [.pointer (some ⟨c, 0, none⟩)] s R := by
  refine WC_open Try.func28 rfl ?_
  simp (disch := first | omega | ((simp only [Ab.next_alloc, Ab.next_upd, List.length_cons, List.length_nil, ne_eq, not_true_eq_false, not_false_eq_true]) <;> omega) | decide) only [↓stepPre, stepPost, ↓W_cond, ↓W_block, ↓reduceIte, Nat.reduceEqDiff, Nat.reduceLT, Nat.reduceLeDiff, ret0, stVar, isTup, Value.cells, Nat.le_refl, Nat.reduceAdd, Nat.reduceMul, Nat.reduceSub, env0, binV, intV, reduceCtorEq, pickV, nilCheckV, ptrV, unV, true_and, and_true, Nat.add_zero, Nat.zero_add, Rt, resultsV, allV, resV, Bool.not_true, Bool.not_false, calleeV, builtinV, eqV, fieldAddrV, ldVar, stN_own, stN_ownL, Int.fdiv_eq_ediv_of_nonneg, Int.reduceToNat, Int.reducePow, IntKind.bits, convV, ne_eq, not_false_eq_true, not_true_eq_false, Int.reduceNeg, Int.reduceAdd, Int.reduceSub, Int.reduceLT, Int.reduceLE, extractV, decide_true, decide_false, Int.reduceEq, mkFuncV, stBCtrl, beq_self_eq_true, tyB0Ctrl, getL_take, glBCtrl]
  refine cpost_ok h fun s1 m1 => ?_
  have h1 := h.mild m1
  have hc := h1.z c h1.zc
  obtain ⟨vn, vf, k1, k2, k3, k4, k5⟩ := h1.st
  rw [hno] at k2
  obtain ⟨w, rfl, w1, w2, w3, w4⟩ := k2
  have hw := h1.z w w1
  have key := hR _ (m1.alloc' (o := .row ((atO cs.L cs.at_).getD Po.zero).c))
  simp only [CS.failed] at key
  generalize hpo : (atO cs.L cs.at_).getD Po.zero = po at key
  cases a
  · cases ho : po.o
    · rw [ho] at key
      simp (disch := first | omega | ((simp only [Ab.next_alloc, Ab.next_upd, List.length_cons, List.length_nil, ne_eq, not_true_eq_false, not_false_eq_true]) <;> omega) | decide) only [↓stepPre, stepPost, ↓W_cond, ↓W_block, ↓reduceIte, Nat.reduceEqDiff, Nat.reduceLT, Nat.reduceLeDiff, ret0, stVar, isTup, Value.cells, Nat.le_refl, Nat.reduceAdd, Nat.reduceMul, Nat.reduceSub, env0, binV, intV, reduceCtorEq, pickV, nilCheckV, ptrV, unV, true_and, and_true, Nat.add_zero, Nat.zero_add, Rt, resultsV, allV, resV, Bool.not_true, Bool.not_false, calleeV, builtinV, eqV, fieldAddrV, ldVar, stN_own, stN_ownL, Int.fdiv_eq_ediv_of_nonneg, Int.reduceToNat, Int.reducePow, IntKind.bits, convV, ne_eq, not_false_eq_true, not_true_eq_false, Int.reduceNeg, Int.reduceAdd, Int.reduceSub, Int.reduceLT, Int.reduceLE, extractV, decide_true, decide_false, Int.reduceEq, mkFuncV, stBCtrl, beq_self_eq_true, tyB0Ctrl, getL_take, glBCtrl, poV, hpo, ho, k1, w4, Try.results28]
      simpa [Po.c, ho] using key
    · rw [ho] at key
      simp (disch := first | omega | ((simp only [Ab.next_alloc, Ab.next_upd, List.length_cons, List.length_nil, ne_eq, not_true_eq_false, not_false_eq_true]) <;> omega) | decide) only [↓stepPre, stepPost, ↓W_cond, ↓W_block, ↓reduceIte, Nat.reduceEqDiff, Nat.reduceLT, Nat.reduceLeDiff, ret0, stVar, isTup, Value.cells, Nat.le_refl, Nat.reduceAdd, Nat.reduceMul, Nat.reduceSub, env0, binV, intV, reduceCtorEq, pickV, nilCheckV, ptrV, unV, true_and, and_true, Nat.add_zero, Nat.zero_add, Rt, resultsV, allV, resV, Bool.not_true, Bool.not_false, calleeV, builtinV, eqV, fieldAddrV, ldVar, stN_own, stN_ownL, Int.fdiv_eq_ediv_of_nonneg, Int.reduceToNat, Int.reducePow, IntKind.bits, convV, ne_eq, not_false_eq_true, not_true_eq_false, Int.reduceNeg, Int.reduceAdd, Int.reduceSub, Int.reduceLT, Int.reduceLE, extractV, decide_true, decide_false, Int.reduceEq, mkFuncV, stBCtrl, beq_self_eq_true, tyB0Ctrl, getL_take, glBCtrl, poV, hpo, ho, k1, w4, Try.results28]
      simpa [Po.c, ho] using key
  · simp (disch := first | omega | ((simp only [Ab.next_alloc, Ab.next_upd, List.length_cons, List.length_nil, ne_eq, not_true_eq_false, not_false_eq_true]) <;> omega) | decide) only [↓stepPre, stepPost, ↓W_cond, ↓W_block, ↓reduceIte, Nat.reduceEqDiff, Nat.reduceLT, Nat.reduceLeDiff, ret0, stVar, isTup, Value.cells, Nat.le_refl, Nat.reduceAdd, Nat.reduceMul, Nat.reduceSub, env0, binV, intV, reduceCtorEq, pickV, nilCheckV, ptrV, unV, true_and, and_true, Nat.add_zero, Nat.zero_add, Rt, resultsV, allV, resV, Bool.not_true, Bool.not_false, calleeV, builtinV, eqV, fieldAddrV, ldVar, stN_own, stN_ownL, Int.fdiv_eq_ediv_of_nonneg, Int.reduceToNat, Int.reducePow, IntKind.bits, convV, ne_eq, not_false_eq_true, not_true_eq_false, Int.reduceNeg, Int.reduceAdd, Int.reduceSub, Int.reduceLT, Int.reduceLE, extractV, decide_true, decide_false, Int.reduceEq, mkFuncV, stBCtrl, beq_self_eq_true, tyB0Ctrl, getL_take, glBCtrl, poV, hpo, k1, w4, Try.results28]
    exact key
theorem onwire_p {x : Int} (hR : R (.bool (decide (x = 2 ∨ x = 3))) s) : WC Try.prog base 25 [.int .i64 x] s R := by
  refine WC_open Try.func25 rfl ?_
  by_cases h2 : x = 2
  · simp (disch := first | omega | ((simp only [Ab.next_alloc, Ab.next_upd, List.length_cons, List.length_nil, ne_eq, not_true_eq_false, not_false_eq_true]) <;> omega) | decide) only [↓stepPre, stepPost, ↓W_cond, ↓W_block, ↓reduceIte, Nat.reduceEqDiff, Nat.reduceLT, Nat.reduceLeDiff, ret0, stVar, isTup, Value.cells, Nat.le_refl, Nat.reduceAdd, Nat.reduceMul, Nat.reduceSub, env0, binV, intV, reduceCtorEq, pickV, nilCheckV, ptrV, unV, true_and, and_true, Nat.add_zero, Nat.zero_add, Rt, resultsV, allV, resV, Bool.not_true, Bool.not_false, calleeV, builtinV, eqV, fieldAddrV, ldVar, stN_own, stN_ownL, Int.fdiv_eq_ediv_of_nonneg, Int.reduceToNat, Int.reducePow, IntKind.bits, convV, ne_eq, not_false_eq_true, not_true_eq_false, Int.reduceNeg, Int.reduceAdd, Int.reduceSub, Int.reduceLT, Int.reduceLE, extractV, decide_true, decide_false, Int.reduceEq, mkFuncV, stBCtrl, beq_self_eq_true, tyB0Ctrl, h2, eq_self, Try.results25]
    simpa [h2] using hR
  · by_cases h3 : x = 3
    · simp (disch := first | omega | ((simp only [Ab.next_alloc, Ab.next_upd, List.length_cons, List.length_nil, ne_eq, not_true_eq_false, not_false_eq_true]) <;> omega) | decide) only [↓stepPre, stepPost, ↓W_cond, ↓W_block, ↓reduceIte, Nat.reduceEqDiff, Nat.reduceLT, Nat.reduceLeDiff, ret0, stVar, isTup, Value.cells, Nat.le_refl, Nat.reduceAdd, Nat.reduceMul, Nat.reduceSub, env0, binV, intV, reduceCtorEq, pickV, nilCheckV, ptrV, unV, true_and, and_true, Nat.add_zero, Nat.zero_add, Rt, resultsV, allV, resV, Bool.not_true, Bool.not_false, calleeV, builtinV, eqV, fieldAddrV, ldVar, stN_own, stN_ownL, Int.fdiv_eq_ediv_of_nonneg, Int.reduceToNat, Int.reducePow, IntKind.bits, convV, ne_eq, not_false_eq_true, not_true_eq_false, Int.reduceNeg, Int.reduceAdd, Int.reduceSub, Int.reduceLT, Int.reduceLE, extractV, decide_true, decide_false, Int.reduceEq, mkFuncV, stBCtrl, beq_self_eq_true, tyB0Ctrl, h2, h3, eq_self, Try.results25]
      simpa [h2, h3] using hR
    · simp (disch := first | omega | ((simp only [Ab.next_alloc, Ab.next_upd, List.length_cons, List.length_nil, ne_eq, not_true_eq_false, not_false_eq_true]) <;> omega) | decide) only [↓stepPre, stepPost, ↓W_cond, ↓W_block, ↓reduceIte, Nat.reduceEqDiff, Nat.reduceLT, Nat.reduceLeDiff, ret0, stVar, isTup, Value.cells, Nat.le_refl, Nat.reduceAdd, Nat.reduceMul, Nat.reduceSub, env0, binV, intV, reduceCtorEq, pickV, nilCheckV, ptrV, unV, true_and, and_true, Nat.add_zero, Nat.zero_add, Rt, resultsV, allV, resV, Bool.not_true, Bool.not_false, calleeV, builtinV, eqV, fieldAddrV, ldVar, stN_own, stN_ownL, Int.fdiv_eq_ediv_of_nonneg, Int.reduceToNat, Int.reducePow, IntKind.bits, convV, ne_eq, not_false_eq_true, not_true_eq_false, Int.reduceNeg, Int.reduceAdd, Int.reduceSub, Int.reduceLT, Int.reduceLE, extractV, decide_true, decide_false, Int.reduceEq, mkFuncV, stBCtrl, beq_self_eq_true, tyB0Ctrl, h2, h3, Try.results25]
      simpa [h2, h3] using hR
theorem fates_ok (h : CtrlO base s c p q cs X Y Z) (hR : ∀ s' v, Ch s s' Z → Sl base s' 3 v cs.fates → (∀ b, inB v b → Z b) → (∃ Z', (∀ b, Z' b → Z b ∧ ¬ inB v b) ∧ CtrlO base s' c p q { cs with fates := [] } X Y Z') → R v s') :
    WC Try.prog base 10 [.pointer (some ⟨c, 0, none⟩)] s R := by
  refine WC_open Try.func10 rfl ?_
  have hc := h.z c h.zc
  obtain ⟨vn, vf, k1, k2, k3, k4, k5⟩ := h.st
  have hup : Ch s (s.upd c (.row [.pointer (some ⟨p, 0, none⟩), .pointer (some ⟨q, 0, none⟩), vn, .int .i64 cs.last, .int .i64 cs.mark, .int .i64 cs.time, .slice none 0 0])) (fun b => b = c) := Ch.upd' (.refl _ _) fun _ => rfl
  have key := hR _ vf (hup.mono fun b _ hb => by rw [hb]; exact h.zc) (k3.ch hup fun b hb he => (k5 b hb).2 he) (fun b hb => (k5 b hb).1)
    ⟨fun b => Z b ∧ ¬ inB vf b, fun b hb => hb, h.self (now' := cs.now) (l' := cs.last) (m' := cs.mark) (t' := cs.time) (f' := []) (hup.mono fun b _ hb => by rw [hb]; exact h.zc) (fun b hb => ⟨.inl hb.1, by simp only [Ab.next_upd]; exact (h.z b hb.1).2⟩) ⟨h.zc, fun hi => (k5 c hi).2 rfl⟩
      ⟨vn, .slice none 0 0, Ab.heap_upd_same _ _ _, by
        match hno : cs.now, k2 with
        | none, k2 => exact k2
        | some (k', a), ⟨w, w1, w2, w3, w4, w5⟩ => exact ⟨w, w1, ⟨w2, w4⟩, w3, fun hi => hi.elim, by rw [Ab.heap_upd_ne _ _ w3]; exact w5⟩,
       .nil, trivial, fun b hb => hb.elim⟩⟩
  obtain ⟨a4, l4, c4, rfl⟩ := k3.shape
  simp (disch := first | omega | ((simp only [Ab.next_alloc, Ab.next_upd, List.length_cons, List.length_nil, ne_eq, not_true_eq_false, not_false_eq_true]) <;> omega) | decide) only [↓stepPre, stepPost, ↓W_cond, ↓W_block, ↓reduceIte, Nat.reduceEqDiff, Nat.reduceLT, Nat.reduceLeDiff, ret0, stVar, isTup, Value.cells, Nat.le_refl, Nat.reduceAdd, Nat.reduceMul, Nat.reduceSub, env0, binV, intV, reduceCtorEq, pickV, nilCheckV, ptrV, unV, true_and, and_true, Nat.add_zero, Nat.zero_add, Rt, resultsV, allV, resV, Bool.not_true, Bool.not_false, calleeV, builtinV, eqV, fieldAddrV, ldVar, stN_own, stN_ownL, Int.fdiv_eq_ediv_of_nonneg, Int.reduceToNat, Int.reducePow, IntKind.bits, convV, ne_eq, not_false_eq_true, not_true_eq_false, Int.reduceNeg, Int.reduceAdd, Int.reduceSub, Int.reduceLT, Int.reduceLE, extractV, decide_true, decide_false, Int.reduceEq, mkFuncV, stBCtrl, beq_self_eq_true, tyB0Ctrl, getL_take, glBCtrl, k1, Option.isNone_some, Try.results10]
  exact key
/-! ### What a bit brought -/
def wrongB (bad : Int) : Bool := decide (bad ≠ 0 ∧ bad ≠ 6)
def wireB (x : Int) : Bool := decide (x = 2 ∨ x = 3)
/-- What a bit brings: it began, lost, was sent, got; what was wrong; and the frame that was got. -/
structure Hp where
  began : Bool
  lost : Bool
  sent : Bool
  got : Bool
  bad : Int
  e : Bool
  n : Int
  r : List Value
abbrev Hp.cells (h : Hp) : List Value := .bool h.began :: .bool h.lost :: .bool h.sent :: .bool h.got :: .int .i64 h.bad :: .bool h.e :: .int .u32 h.n :: h.r
def CS.tk1 (cs : CS) (ph t : Int) : CS := { cs with last := ph, mark := if wireB ph && !wireB cs.last then t else cs.mark, time := t }
def CS.tk2 (cs : CS) (began : Bool) : CS := if began && cs.now.isNone && decide (0 ≤ bestI cs.L) then { cs with now := some (bestI cs.L, false) } else cs
def CS.tk3 (cs : CS) (sent : Bool) : CS := match cs.now with | some (k, _) => if sent then cs.done k 1 else cs | none => cs
def CS.tk4 (cs : CS) (bad : Bool) : CS := match cs.now with | some (k, a) => if bad then cs.done k (cs.failed a) else cs | none => cs
def CS.tk5 (cs : CS) (h : Hp) (t : Int) : CS := if h.got then { cs with W := offL cs.room cs.F cs.W h.e h.n (.bool h.e :: .int .u32 h.n :: (h.r ++ [.int .i64 cs.mark, .int .i64 t])), over := offO cs.room cs.F cs.W h.e h.n cs.over } else cs
def CS.took (cs : CS) (h : Hp) (ph t : Int) : CS := ((((cs.tk1 ph t).tk2 h.began).tk3 h.sent).tk4 (h.lost || wrongB h.bad)).tk5 h t
theorem began_ok {k : Int} (h : CtrlO base s c p q cs X Y Z) (hno : cs.now = none) {vf : Value} (k3 : Sl base s 3 vf cs.fates) (k4 : Tight base vf) (k5 : ∀ b, inB vf b → Z b ∧ b ≠ c) :
    CtrlO base ((s.alloc (.row [.int .i64 k, .bool false])).upd c (.row [.pointer (some ⟨p, 0, none⟩), .pointer (some ⟨q, 0, none⟩), .pointer (some ⟨s.next, 0, none⟩), .int .i64 cs.last, .int .i64 cs.mark, .int .i64 cs.time, vf])) c p q { cs with now := some (k, false) } X Y (fun b => Z b ∨ b = s.next) := by
  have hc := h.z c h.zc
  refine h.self (now' := some (k, false)) (l' := cs.last) (m' := cs.mark) (t' := cs.time) (f' := cs.fates) (Ch.upd' (.of_mild (Mild.alloc _ _) _) fun _ => h.zc) (fun b hb => ⟨hb.imp id fun e => by omega, by simp only [Ab.next_upd, Ab.next_alloc]; exact hb.elim (fun hz => by have := (h.z b hz).2; omega) fun e => by omega⟩) (.inl h.zc)
    ⟨_, vf, Ab.heap_upd_same _ _ _, ⟨s.next, rfl, .inr rfl, by omega, fun hi => by have := (h.z _ (k5 _ hi).1).2; omega, by rw [Ab.heap_upd_ne _ _ (by omega), Ab.heap_alloc_new]⟩, ?_, k4, fun b hb => ⟨.inl (k5 b hb).1, (k5 b hb).2⟩⟩
  exact (k3.mild (Mild.alloc _ _)).ch (X := fun b => b = c) (Ch.upd' (.refl _ _) fun _ => rfl) fun b hb he => (k5 b hb).2 he
structure TkSt (base : Nat) (s : St) (c p q : Nat) (X Y Z : Nat → Prop) (cells : List Value) (s' : St) (cs : CS) (Z' : Nat → Prop) : Prop where
  ch : Ch s s' (fun b => X b ∨ Y b ∨ Z b)
  zs : ∀ b, Z' b → (Z b ∨ s.next ≤ b) ∧ b ≠ s.next
  h : CtrlO base s' c p q cs X Y Z'
  lt : s.next < s'.next
  hb : s'.heap s.next = .row cells
  xy : ∀ b, X b ∨ Y b → b < s.next
theorem TkSt.step {cells : List Value} {s1 s2 : St} {cs1 cs2 : CS} {Z1 Z2 : Nat → Prop} (h : TkSt base s c p q X Y Z cells s1 cs1 Z1) (hc : Ch s1 s2 (fun b => X b ∨ Z1 b)) (hz : ∀ b, Z2 b → Z1 b ∨ s1.next ≤ b) (h2 : CtrlO base s2 c p q cs2 X Y Z2) : TkSt base s c p q X Y Z cells s2 cs2 Z2 := by
  have hn := hc.next
  have hlt := h.lt
  refine ⟨⟨by have := h.ch.next; omega, fun b hb hx => ?_⟩, fun b hb => ?_, h2, by omega, ?_, h.xy⟩
  · rw [hc.heap b (by omega) fun hv => ?_, h.ch.heap b hb hx]
    rcases hv with hv | hv
    · exact hx (.inl hv)
    · rcases (h.zs b hv).1 with h1 | h1
      · exact hx (.inr (.inr h1))
      · omega
  · rcases hz b hb with h1 | h1
    · exact h.zs b h1
    · omega
  · rw [hc.heap _ hlt fun hv => ?_]; exact h.hb
    rcases hv with hv | hv
    · have := h.xy _ (.inl hv); omega
    · exact (h.zs _ hv).2 rfl
theorem out_len (cs : CS) (k f : Int) : (cs.out k f).fates.length ≤ cs.fates.length + 1 := by
  unfold CS.out; split <;> simp
theorem done_len (cs : CS) (k f : Int) : (cs.done k f).fates.length ≤ cs.fates.length + 1 := by
  unfold CS.done; split
  · simp
  · exact out_len cs k f
theorem done_now (cs : CS) (k f : Int) : (cs.done k f).now = none := by unfold CS.done; split <;> rfl
theorem out_in (cs : CS) (k f : Int) : (cs.out k f).room = cs.room ∧ (cs.out k f).F = cs.F ∧ (cs.out k f).W = cs.W ∧ (cs.out k f).over = cs.over ∧ (cs.out k f).mark = cs.mark ∧ (cs.out k f).last = cs.last ∧ (cs.out k f).time = cs.time := by
  unfold CS.out; split <;> exact ⟨rfl, rfl, rfl, rfl, rfl, rfl, rfl⟩
theorem done_in (cs : CS) (k f : Int) : (cs.done k f).room = cs.room ∧ (cs.done k f).F = cs.F ∧ (cs.done k f).W = cs.W ∧ (cs.done k f).over = cs.over ∧ (cs.done k f).mark = cs.mark ∧ (cs.done k f).last = cs.last ∧ (cs.done k f).time = cs.time := by
  unfold CS.done; split
  · exact ⟨rfl, rfl, rfl, rfl, rfl, rfl, rfl⟩
  · exact out_in cs k f
theorem took_ok {hp : Hp} {ph t : Int} (h : CtrlO base s c p q cs X Y Z) (hr : hp.r.length = 10) (hF : ∀ l ∈ cs.F, FOk l) (hFn : cs.F.length ≤ 100) (hW : cs.W.length ≤ 100) (hfl : cs.fates.length ≤ 10000)
    (hR : ∀ s' Y' Z', Ch s s' (fun b => X b ∨ Y b ∨ Z b) → (∀ b, Y' b → Y b ∨ s.next ≤ b) → (∀ b, Z' b → Z b ∨ s.next ≤ b) → CtrlO base s' c p q (cs.took hp ph t) X Y' Z' → R (.tuple #[]) s') :
    WC Try.prog base 9 [.pointer (some ⟨c, 0, none⟩), .agg hp.cells.toArray, .int .i64 ph, .int .i64 t] s R := by
  refine WC_open Try.func9 rfl ?_
  have hc := h.z c h.zc
  have hbn := h.hbn
  have hm := Mild.alloc s (.row hp.cells)
  have h1 := h.mild hm
  have T1 : TkSt base s c p q X Y Z hp.cells (s.alloc (.row hp.cells)) cs Z := ⟨.of_mild hm _, fun b hb => ⟨.inl hb, by have := (h.z b hb).2; omega⟩, h1, by simp only [Ab.next_alloc]; omega, Ab.heap_alloc_new _ _, fun b hb => hb.elim (fun hx => (h.o.low b hx).2) fun hy => (h.i.low b hy).2⟩
  let J : CS → Env → St → Prop := fun cs' e' s' => e' 0 = .pointer (some ⟨c, 0, none⟩) ∧ e' 2 = .int .i64 ph ∧ e' 3 = .int .i64 t ∧ e' 5 = .pointer (some ⟨s.next, 0, none⟩) ∧ ∃ Z', TkSt base s c p q X Y Z hp.cells s' cs' Z'
  rw [W_seq]
  refine W_mid (J cs) ?_ ?_
  · simp (disch := first | omega | ((simp only [Ab.next_alloc, Ab.next_upd, List.length_cons, List.length_nil, ne_eq, not_true_eq_false, not_false_eq_true]) <;> omega) | decide) only [↓stepPre, stepPost, ↓W_cond, ↓W_block, ↓reduceIte, Nat.reduceEqDiff, Nat.reduceLT, Nat.reduceLeDiff, ret0, stVar, isTup, Value.cells, Nat.le_refl, Nat.reduceAdd, Nat.reduceMul, Nat.reduceSub, env0, binV, intV, reduceCtorEq, pickV, nilCheckV, ptrV, unV, true_and, and_true, Nat.add_zero, Nat.zero_add, Rt, resultsV, allV, resV, Bool.not_true, Bool.not_false, calleeV, builtinV, eqV, fieldAddrV, ldVar, stN_own, stN_ownL, Int.fdiv_eq_ediv_of_nonneg, Int.reduceToNat, Int.reducePow, IntKind.bits, convV, ne_eq, not_false_eq_true, not_true_eq_false, Int.reduceNeg, Int.reduceAdd, Int.reduceSub, Int.reduceLT, Int.reduceLE, extractV, decide_true, decide_false, Int.reduceEq, mkFuncV, stBCtrl, beq_self_eq_true, tyB0Ctrl, getL_take, glBCtrl]
    exact ⟨rfl, rfl, rfl, rfl, Z, T1⟩
  rintro e' s' hJ
  rw [W_seq]
  refine W_mid (J cs) ?_ ?_
  · obtain ⟨h0, h2, h3, h5, Z', T⟩ := hJ
    simp (disch := first | omega | ((simp only [Ab.next_alloc, Ab.next_upd, List.length_cons, List.length_nil, ne_eq, not_true_eq_false, not_false_eq_true]) <;> omega) | decide) only [↓stepPre, stepPost, ↓W_cond, ↓W_block, ↓reduceIte, Nat.reduceEqDiff, Nat.reduceLT, Nat.reduceLeDiff, ret0, stVar, isTup, Value.cells, Nat.le_refl, Nat.reduceAdd, Nat.reduceMul, Nat.reduceSub, env0, binV, intV, reduceCtorEq, pickV, nilCheckV, ptrV, unV, true_and, and_true, Nat.add_zero, Nat.zero_add, Rt, resultsV, allV, resV, Bool.not_true, Bool.not_false, calleeV, builtinV, eqV, fieldAddrV, ldVar, stN_own, stN_ownL, Int.fdiv_eq_ediv_of_nonneg, Int.reduceToNat, Int.reducePow, IntKind.bits, convV, ne_eq, not_false_eq_true, not_true_eq_false, Int.reduceNeg, Int.reduceAdd, Int.reduceSub, Int.reduceLT, Int.reduceLE, extractV, decide_true, decide_false, Int.reduceEq, mkFuncV, stBCtrl, beq_self_eq_true, tyB0Ctrl, getL_take, glBCtrl, h0, Option.isNone_some]
    exact ⟨h0, h2, h3, h5, Z', T⟩
  clear hJ e' s'
  rintro e' s' hJ
  rw [W_seq]
  refine W_mid (J { cs with time := t }) ?_ ?_
  · obtain ⟨h0, h2, h3, h5, Z', T⟩ := hJ
    obtain ⟨vn, vf, k1, k2, k3, k4, k5⟩ := T.h.st
    have hcc := T.h.z c T.h.zc
    obtain ⟨a4, l4, c4, rfl⟩ := k3.shape
    simp (disch := first | omega | ((simp only [Ab.next_alloc, Ab.next_upd, List.length_cons, List.length_nil, ne_eq, not_true_eq_false, not_false_eq_true]) <;> omega) | decide) only [↓stepPre, stepPost, ↓W_cond, ↓W_block, ↓reduceIte, Nat.reduceEqDiff, Nat.reduceLT, Nat.reduceLeDiff, ret0, stVar, isTup, Value.cells, Nat.le_refl, Nat.reduceAdd, Nat.reduceMul, Nat.reduceSub, env0, binV, intV, reduceCtorEq, pickV, nilCheckV, ptrV, unV, true_and, and_true, Nat.add_zero, Nat.zero_add, Rt, resultsV, allV, resV, Bool.not_true, Bool.not_false, calleeV, builtinV, eqV, fieldAddrV, ldVar, stN_own, stN_ownL, Int.fdiv_eq_ediv_of_nonneg, Int.reduceToNat, Int.reducePow, IntKind.bits, convV, ne_eq, not_false_eq_true, not_true_eq_false, Int.reduceNeg, Int.reduceAdd, Int.reduceSub, Int.reduceLT, Int.reduceLE, extractV, decide_true, decide_false, Int.reduceEq, mkFuncV, stBCtrl, beq_self_eq_true, tyB0Ctrl, getL_take, glBCtrl, h0, h3, k1]
    exact ⟨h0, h2, h3, h5, Z', T.step (Ch.upd' (.refl _ _) fun _ => .inr T.h.zc) (fun b hb => .inl hb) (T.h.row k2 k3 k4 k5)⟩
  clear hJ e' s'
  rintro e' s' hJ
  rw [W_seq]
  refine W_mid (J { cs with time := t, mark := if wireB ph && !wireB cs.last then t else cs.mark }) ?_ ?_
  · obtain ⟨h0, h2, h3, h5, Z', T⟩ := hJ
    obtain ⟨vn, vf, k1, k2, k3, k4, k5⟩ := T.h.st
    have hcc := T.h.z c T.h.zc
    obtain ⟨a4, l4, c4, rfl⟩ := k3.shape
    simp (disch := first | omega | ((simp only [Ab.next_alloc, Ab.next_upd, List.length_cons, List.length_nil, ne_eq, not_true_eq_false, not_false_eq_true]) <;> omega) | decide) only [↓stepPre, stepPost, ↓W_cond, ↓W_block, ↓reduceIte, Nat.reduceEqDiff, Nat.reduceLT, Nat.reduceLeDiff, ret0, stVar, isTup, Value.cells, Nat.le_refl, Nat.reduceAdd, Nat.reduceMul, Nat.reduceSub, env0, binV, intV, reduceCtorEq, pickV, nilCheckV, ptrV, unV, true_and, and_true, Nat.add_zero, Nat.zero_add, Rt, resultsV, allV, resV, Bool.not_true, Bool.not_false, calleeV, builtinV, eqV, fieldAddrV, ldVar, stN_own, stN_ownL, Int.fdiv_eq_ediv_of_nonneg, Int.reduceToNat, Int.reducePow, IntKind.bits, convV, ne_eq, not_false_eq_true, not_true_eq_false, Int.reduceNeg, Int.reduceAdd, Int.reduceSub, Int.reduceLT, Int.reduceLE, extractV, decide_true, decide_false, Int.reduceEq, mkFuncV, stBCtrl, beq_self_eq_true, tyB0Ctrl, getL_take, glBCtrl, h0, h2]
    refine onwire_p ?_
    by_cases hph : ph = 2 ∨ ph = 3
    · simp (disch := first | omega | ((simp only [Ab.next_alloc, Ab.next_upd, List.length_cons, List.length_nil, ne_eq, not_true_eq_false, not_false_eq_true]) <;> omega) | decide) only [↓stepPre, stepPost, ↓W_cond, ↓W_block, ↓reduceIte, Nat.reduceEqDiff, Nat.reduceLT, Nat.reduceLeDiff, ret0, stVar, isTup, Value.cells, Nat.le_refl, Nat.reduceAdd, Nat.reduceMul, Nat.reduceSub, env0, binV, intV, reduceCtorEq, pickV, nilCheckV, ptrV, unV, true_and, and_true, Nat.add_zero, Nat.zero_add, Rt, resultsV, allV, resV, Bool.not_true, Bool.not_false, calleeV, builtinV, eqV, fieldAddrV, ldVar, stN_own, stN_ownL, Int.fdiv_eq_ediv_of_nonneg, Int.reduceToNat, Int.reducePow, IntKind.bits, convV, ne_eq, not_false_eq_true, not_true_eq_false, Int.reduceNeg, Int.reduceAdd, Int.reduceSub, Int.reduceLT, Int.reduceLE, extractV, decide_true, decide_false, Int.reduceEq, mkFuncV, stBCtrl, beq_self_eq_true, tyB0Ctrl, getL_take, glBCtrl, h0, h2, hph, k1]
      refine onwire_p ?_
      by_cases hl : cs.last = 2 ∨ cs.last = 3
      · simp (disch := first | omega | ((simp only [Ab.next_alloc, Ab.next_upd, List.length_cons, List.length_nil, ne_eq, not_true_eq_false, not_false_eq_true]) <;> omega) | decide) only [↓stepPre, stepPost, ↓W_cond, ↓W_block, ↓reduceIte, Nat.reduceEqDiff, Nat.reduceLT, Nat.reduceLeDiff, ret0, stVar, isTup, Value.cells, Nat.le_refl, Nat.reduceAdd, Nat.reduceMul, Nat.reduceSub, env0, binV, intV, reduceCtorEq, pickV, nilCheckV, ptrV, unV, true_and, and_true, Nat.add_zero, Nat.zero_add, Rt, resultsV, allV, resV, Bool.not_true, Bool.not_false, calleeV, builtinV, eqV, fieldAddrV, ldVar, stN_own, stN_ownL, Int.fdiv_eq_ediv_of_nonneg, Int.reduceToNat, Int.reducePow, IntKind.bits, convV, ne_eq, not_false_eq_true, not_true_eq_false, Int.reduceNeg, Int.reduceAdd, Int.reduceSub, Int.reduceLT, Int.reduceLE, extractV, decide_true, decide_false, Int.reduceEq, mkFuncV, stBCtrl, beq_self_eq_true, tyB0Ctrl, getL_take, glBCtrl, h0, h2, hph, hl, k1]
        exact ⟨h0, h2, h3, h5, Z', by simpa [wireB, hph, hl] using T⟩
      · simp (disch := first | omega | ((simp only [Ab.next_alloc, Ab.next_upd, List.length_cons, List.length_nil, ne_eq, not_true_eq_false, not_false_eq_true]) <;> omega) | decide) only [↓stepPre, stepPost, ↓W_cond, ↓W_block, ↓reduceIte, Nat.reduceEqDiff, Nat.reduceLT, Nat.reduceLeDiff, ret0, stVar, isTup, Value.cells, Nat.le_refl, Nat.reduceAdd, Nat.reduceMul, Nat.reduceSub, env0, binV, intV, reduceCtorEq, pickV, nilCheckV, ptrV, unV, true_and, and_true, Nat.add_zero, Nat.zero_add, Rt, resultsV, allV, resV, Bool.not_true, Bool.not_false, calleeV, builtinV, eqV, fieldAddrV, ldVar, stN_own, stN_ownL, Int.fdiv_eq_ediv_of_nonneg, Int.reduceToNat, Int.reducePow, IntKind.bits, convV, ne_eq, not_false_eq_true, not_true_eq_false, Int.reduceNeg, Int.reduceAdd, Int.reduceSub, Int.reduceLT, Int.reduceLE, extractV, decide_true, decide_false, Int.reduceEq, mkFuncV, stBCtrl, beq_self_eq_true, tyB0Ctrl, getL_take, glBCtrl, h0, h2, h3, hph, hl, k1]
        exact ⟨h0, h2, h3, h5, Z', by
          have := T.step (Ch.upd' (.refl _ _) fun _ => .inr T.h.zc) (fun b hb => .inl hb) (T.h.row (m' := t) (l' := cs.last) (t' := t) k2 k3 k4 k5)
          simpa [wireB, hph, hl] using this⟩
    · simp (disch := first | omega | ((simp only [Ab.next_alloc, Ab.next_upd, List.length_cons, List.length_nil, ne_eq, not_true_eq_false, not_false_eq_true]) <;> omega) | decide) only [↓stepPre, stepPost, ↓W_cond, ↓W_block, ↓reduceIte, Nat.reduceEqDiff, Nat.reduceLT, Nat.reduceLeDiff, ret0, stVar, isTup, Value.cells, Nat.le_refl, Nat.reduceAdd, Nat.reduceMul, Nat.reduceSub, env0, binV, intV, reduceCtorEq, pickV, nilCheckV, ptrV, unV, true_and, and_true, Nat.add_zero, Nat.zero_add, Rt, resultsV, allV, resV, Bool.not_true, Bool.not_false, calleeV, builtinV, eqV, fieldAddrV, ldVar, stN_own, stN_ownL, Int.fdiv_eq_ediv_of_nonneg, Int.reduceToNat, Int.reducePow, IntKind.bits, convV, ne_eq, not_false_eq_true, not_true_eq_false, Int.reduceNeg, Int.reduceAdd, Int.reduceSub, Int.reduceLT, Int.reduceLE, extractV, decide_true, decide_false, Int.reduceEq, mkFuncV, stBCtrl, beq_self_eq_true, tyB0Ctrl, getL_take, glBCtrl, h0, h2, hph, k1]
      exact ⟨h0, h2, h3, h5, Z', by simpa [wireB, hph] using T⟩
  clear hJ e' s'
  rintro e' s' hJ
  rw [W_seq]
  refine W_mid (J (cs.tk1 ph t)) ?_ ?_
  · obtain ⟨h0, h2, h3, h5, Z', T⟩ := hJ
    obtain ⟨vn, vf, k1, k2, k3, k4, k5⟩ := T.h.st
    have hcc := T.h.z c T.h.zc
    obtain ⟨a4, l4, c4, rfl⟩ := k3.shape
    simp (disch := first | omega | ((simp only [Ab.next_alloc, Ab.next_upd, List.length_cons, List.length_nil, ne_eq, not_true_eq_false, not_false_eq_true]) <;> omega) | decide) only [↓stepPre, stepPost, ↓W_cond, ↓W_block, ↓reduceIte, Nat.reduceEqDiff, Nat.reduceLT, Nat.reduceLeDiff, ret0, stVar, isTup, Value.cells, Nat.le_refl, Nat.reduceAdd, Nat.reduceMul, Nat.reduceSub, env0, binV, intV, reduceCtorEq, pickV, nilCheckV, ptrV, unV, true_and, and_true, Nat.add_zero, Nat.zero_add, Rt, resultsV, allV, resV, Bool.not_true, Bool.not_false, calleeV, builtinV, eqV, fieldAddrV, ldVar, stN_own, stN_ownL, Int.fdiv_eq_ediv_of_nonneg, Int.reduceToNat, Int.reducePow, IntKind.bits, convV, ne_eq, not_false_eq_true, not_true_eq_false, Int.reduceNeg, Int.reduceAdd, Int.reduceSub, Int.reduceLT, Int.reduceLE, extractV, decide_true, decide_false, Int.reduceEq, mkFuncV, stBCtrl, beq_self_eq_true, tyB0Ctrl, getL_take, glBCtrl, h0, h2, k1]
    exact ⟨h0, h2, h3, h5, Z', T.step (Ch.upd' (.refl _ _) fun _ => .inr T.h.zc) (fun b hb => .inl hb) (T.h.row k2 k3 k4 k5)⟩
  clear hJ e' s'
  rintro e' s' hJ
  have hL1 : (cs.tk1 ph t).L = cs.L := rfl
  have hf1 : (cs.tk1 ph t).fates = cs.fates := rfl
  generalize hcs1 : cs.tk1 ph t = cs1 at *
  rw [W_seq]
  refine W_mid (J (cs1.tk2 hp.began)) ?_ ?_
  · obtain ⟨h0, h2, h3, h5, Z', T⟩ := hJ
    obtain ⟨vn, vf, k1, k2, k3, k4, k5⟩ := T.h.st
    have hcc := T.h.z c T.h.zc
    simp (disch := first | omega | ((simp only [Ab.next_alloc, Ab.next_upd, List.length_cons, List.length_nil, ne_eq, not_true_eq_false, not_false_eq_true]) <;> omega) | decide) only [↓stepPre, stepPost, ↓W_cond, ↓W_block, ↓reduceIte, Nat.reduceEqDiff, Nat.reduceLT, Nat.reduceLeDiff, ret0, stVar, isTup, Value.cells, Nat.le_refl, Nat.reduceAdd, Nat.reduceMul, Nat.reduceSub, env0, binV, intV, reduceCtorEq, pickV, nilCheckV, ptrV, unV, true_and, and_true, Nat.add_zero, Nat.zero_add, Rt, resultsV, allV, resV, Bool.not_true, Bool.not_false, calleeV, builtinV, eqV, fieldAddrV, ldVar, stN_own, stN_ownL, Int.fdiv_eq_ediv_of_nonneg, Int.reduceToNat, Int.reducePow, IntKind.bits, convV, ne_eq, not_false_eq_true, not_true_eq_false, Int.reduceNeg, Int.reduceAdd, Int.reduceSub, Int.reduceLT, Int.reduceLE, extractV, decide_true, decide_false, Int.reduceEq, mkFuncV, stBCtrl, beq_self_eq_true, tyB0Ctrl, getL_take, glBCtrl, h0, k1]
    refine best_ok T.h.o T.h.hbn fun s2 a m2 ha => ?_
    obtain rfl := ha.unique (bestAt_I T.h.o.good)
    have T2 := T.step (Ch.of_mild m2 _) (fun b hb => .inl hb) (T.h.mild m2)
    clear k1 k2 k3 k4 k5
    obtain ⟨vn, vf, k1, k2, k3, k4, k5⟩ := T2.h.st
    have hcc2 := T2.h.z c T2.h.zc
    have hb2 := T2.hb
    have hlt2 := T2.lt
    obtain ⟨a4, l4, c4, rfl⟩ := k3.shape
    simp only [Hp.cells] at hb2
    have hbeg : ∀ b, hp.began = b → cs1.tk2 b = cs1.tk2 hp.began := fun b hb => by rw [hb]
    cases hb : hp.began
    · rw [hb] at hb2
      have : cs1.tk2 false = cs1 := by simp [CS.tk2]
      simp (disch := first | omega | ((simp only [Ab.next_alloc, Ab.next_upd, List.length_cons, List.length_nil, ne_eq, not_true_eq_false, not_false_eq_true]) <;> omega) | decide) only [↓stepPre, stepPost, ↓W_cond, ↓W_block, ↓reduceIte, Nat.reduceEqDiff, Nat.reduceLT, Nat.reduceLeDiff, ret0, stVar, isTup, Value.cells, Nat.le_refl, Nat.reduceAdd, Nat.reduceMul, Nat.reduceSub, env0, binV, intV, reduceCtorEq, pickV, nilCheckV, ptrV, unV, true_and, and_true, Nat.add_zero, Nat.zero_add, Rt, resultsV, allV, resV, Bool.not_true, Bool.not_false, calleeV, builtinV, eqV, fieldAddrV, ldVar, stN_own, stN_ownL, Int.fdiv_eq_ediv_of_nonneg, Int.reduceToNat, Int.reducePow, IntKind.bits, convV, ne_eq, not_false_eq_true, not_true_eq_false, Int.reduceNeg, Int.reduceAdd, Int.reduceSub, Int.reduceLT, Int.reduceLE, extractV, decide_true, decide_false, Int.reduceEq, mkFuncV, stBCtrl, beq_self_eq_true, tyB0Ctrl, getL_take, glBCtrl, h0, h5, k1, hb2]
      exact ⟨h0, h2, h3, h5, Z', by rw [this]; exact T2⟩
    · rw [hb] at hb2
      match hno : cs1.now with
      | some (k', a') =>
        rw [hno] at k2
        obtain ⟨w, rfl, -⟩ := k2
        have : cs1.tk2 true = cs1 := by simp [CS.tk2, hno]
        simp (disch := first | omega | ((simp only [Ab.next_alloc, Ab.next_upd, List.length_cons, List.length_nil, ne_eq, not_true_eq_false, not_false_eq_true]) <;> omega) | decide) only [↓stepPre, stepPost, ↓W_cond, ↓W_block, ↓reduceIte, Nat.reduceEqDiff, Nat.reduceLT, Nat.reduceLeDiff, ret0, stVar, isTup, Value.cells, Nat.le_refl, Nat.reduceAdd, Nat.reduceMul, Nat.reduceSub, env0, binV, intV, reduceCtorEq, pickV, nilCheckV, ptrV, unV, true_and, and_true, Nat.add_zero, Nat.zero_add, Rt, resultsV, allV, resV, Bool.not_true, Bool.not_false, calleeV, builtinV, eqV, fieldAddrV, ldVar, stN_own, stN_ownL, Int.fdiv_eq_ediv_of_nonneg, Int.reduceToNat, Int.reducePow, IntKind.bits, convV, ne_eq, not_false_eq_true, not_true_eq_false, Int.reduceNeg, Int.reduceAdd, Int.reduceSub, Int.reduceLT, Int.reduceLE, extractV, decide_true, decide_false, Int.reduceEq, mkFuncV, stBCtrl, beq_self_eq_true, tyB0Ctrl, getL_take, glBCtrl, h0, h5, k1, hb2, Option.isNone_some, Option.isNone_none]
        exact ⟨h0, h2, h3, h5, Z', by rw [this]; exact T2⟩
      | none =>
        rw [hno] at k2
        have hv : vn = .pointer none := k2
        subst hv
        by_cases hbi : 0 ≤ bestI cs1.L
        · have : cs1.tk2 true = { cs1 with now := some (bestI cs1.L, false) } := by simp [CS.tk2, hno, hbi]
          simp (disch := first | omega | ((simp only [Ab.next_alloc, Ab.next_upd, List.length_cons, List.length_nil, ne_eq, not_true_eq_false, not_false_eq_true]) <;> omega) | decide) only [↓stepPre, stepPost, ↓W_cond, ↓W_block, ↓reduceIte, Nat.reduceEqDiff, Nat.reduceLT, Nat.reduceLeDiff, ret0, stVar, isTup, Value.cells, Nat.le_refl, Nat.reduceAdd, Nat.reduceMul, Nat.reduceSub, env0, binV, intV, reduceCtorEq, pickV, nilCheckV, ptrV, unV, true_and, and_true, Nat.add_zero, Nat.zero_add, Rt, resultsV, allV, resV, Bool.not_true, Bool.not_false, calleeV, builtinV, eqV, fieldAddrV, ldVar, stN_own, stN_ownL, Int.fdiv_eq_ediv_of_nonneg, Int.reduceToNat, Int.reducePow, IntKind.bits, convV, ne_eq, not_false_eq_true, not_true_eq_false, Int.reduceNeg, Int.reduceAdd, Int.reduceSub, Int.reduceLT, Int.reduceLE, extractV, decide_true, decide_false, Int.reduceEq, mkFuncV, stBCtrl, beq_self_eq_true, tyB0Ctrl, getL_take, glBCtrl, h0, h5, k1, hb2, hbi, Option.isNone_some, Option.isNone_none, buildV, fillL]
          exact ⟨h0, h2, h3, h5, _, by rw [this]; exact T2.step (Ch.upd' (.of_mild (Mild.alloc _ _) _) fun _ => .inr T2.h.zc) (fun b hb => hb.imp id fun e => by omega) (began_ok T2.h hno k3 k4 k5)⟩
        · have : cs1.tk2 true = cs1 := by simp [CS.tk2, hbi]
          simp (disch := first | omega | ((simp only [Ab.next_alloc, Ab.next_upd, List.length_cons, List.length_nil, ne_eq, not_true_eq_false, not_false_eq_true]) <;> omega) | decide) only [↓stepPre, stepPost, ↓W_cond, ↓W_block, ↓reduceIte, Nat.reduceEqDiff, Nat.reduceLT, Nat.reduceLeDiff, ret0, stVar, isTup, Value.cells, Nat.le_refl, Nat.reduceAdd, Nat.reduceMul, Nat.reduceSub, env0, binV, intV, reduceCtorEq, pickV, nilCheckV, ptrV, unV, true_and, and_true, Nat.add_zero, Nat.zero_add, Rt, resultsV, allV, resV, Bool.not_true, Bool.not_false, calleeV, builtinV, eqV, fieldAddrV, ldVar, stN_own, stN_ownL, Int.fdiv_eq_ediv_of_nonneg, Int.reduceToNat, Int.reducePow, IntKind.bits, convV, ne_eq, not_false_eq_true, not_true_eq_false, Int.reduceNeg, Int.reduceAdd, Int.reduceSub, Int.reduceLT, Int.reduceLE, extractV, decide_true, decide_false, Int.reduceEq, mkFuncV, stBCtrl, beq_self_eq_true, tyB0Ctrl, getL_take, glBCtrl, h0, h5, k1, hb2, hbi, Option.isNone_some, Option.isNone_none]
          exact ⟨h0, h2, h3, h5, Z', by rw [this]; exact T2⟩
  clear hJ e' s'
  rintro e' s' hJ
  have hf2 : (cs1.tk2 hp.began).fates = cs.fates := by unfold CS.tk2; split <;> exact hf1
  generalize hcs2 : cs1.tk2 hp.began = cs2 at *
  rw [W_seq]
  refine W_mid (J (cs2.tk3 hp.sent)) ?_ ?_
  · obtain ⟨h0, h2, h3, h5, Z', T⟩ := hJ
    obtain ⟨vn, vf, k1, k2, k3, k4, k5⟩ := T.h.st
    have hcc := T.h.z c T.h.zc
    have hb2 := T.hb
    have hlt2 := T.lt
    simp only [Hp.cells] at hb2
    match hno : cs2.now with
    | none =>
      rw [hno] at k2
      have hv : vn = .pointer none := k2
      subst hv
      have : cs2.tk3 hp.sent = cs2 := by simp [CS.tk3, hno]
      simp (disch := first | omega | ((simp only [Ab.next_alloc, Ab.next_upd, List.length_cons, List.length_nil, ne_eq, not_true_eq_false, not_false_eq_true]) <;> omega) | decide) only [↓stepPre, stepPost, ↓W_cond, ↓W_block, ↓reduceIte, Nat.reduceEqDiff, Nat.reduceLT, Nat.reduceLeDiff, ret0, stVar, isTup, Value.cells, Nat.le_refl, Nat.reduceAdd, Nat.reduceMul, Nat.reduceSub, env0, binV, intV, reduceCtorEq, pickV, nilCheckV, ptrV, unV, true_and, and_true, Nat.add_zero, Nat.zero_add, Rt, resultsV, allV, resV, Bool.not_true, Bool.not_false, calleeV, builtinV, eqV, fieldAddrV, ldVar, stN_own, stN_ownL, Int.fdiv_eq_ediv_of_nonneg, Int.reduceToNat, Int.reducePow, IntKind.bits, convV, ne_eq, not_false_eq_true, not_true_eq_false, Int.reduceNeg, Int.reduceAdd, Int.reduceSub, Int.reduceLT, Int.reduceLE, extractV, decide_true, decide_false, Int.reduceEq, mkFuncV, stBCtrl, beq_self_eq_true, tyB0Ctrl, getL_take, glBCtrl, h0, k1, Option.isNone_none]
      exact ⟨h0, h2, h3, h5, Z', by rw [this]; exact T⟩
    | some (k, a) =>
      rw [hno] at k2
      obtain ⟨w, rfl, -⟩ := k2
      cases hsn : hp.sent
      · rw [hsn] at hb2
        have : cs2.tk3 false = cs2 := by simp [CS.tk3, hno]
        simp (disch := first | omega | ((simp only [Ab.next_alloc, Ab.next_upd, List.length_cons, List.length_nil, ne_eq, not_true_eq_false, not_false_eq_true]) <;> omega) | decide) only [↓stepPre, stepPost, ↓W_cond, ↓W_block, ↓reduceIte, Nat.reduceEqDiff, Nat.reduceLT, Nat.reduceLeDiff, ret0, stVar, isTup, Value.cells, Nat.le_refl, Nat.reduceAdd, Nat.reduceMul, Nat.reduceSub, env0, binV, intV, reduceCtorEq, pickV, nilCheckV, ptrV, unV, true_and, and_true, Nat.add_zero, Nat.zero_add, Rt, resultsV, allV, resV, Bool.not_true, Bool.not_false, calleeV, builtinV, eqV, fieldAddrV, ldVar, stN_own, stN_ownL, Int.fdiv_eq_ediv_of_nonneg, Int.reduceToNat, Int.reducePow, IntKind.bits, convV, ne_eq, not_false_eq_true, not_true_eq_false, Int.reduceNeg, Int.reduceAdd, Int.reduceSub, Int.reduceLT, Int.reduceLE, extractV, decide_true, decide_false, Int.reduceEq, mkFuncV, stBCtrl, beq_self_eq_true, tyB0Ctrl, getL_take, glBCtrl, h0, h5, k1, hb2, Option.isNone_none]
        exact ⟨h0, h2, h3, h5, Z', by rw [this]; exact T⟩
      · rw [hsn] at hb2
        have : cs2.tk3 true = cs2.done k 1 := by simp [CS.tk3, hno]
        simp (disch := first | omega | ((simp only [Ab.next_alloc, Ab.next_upd, List.length_cons, List.length_nil, ne_eq, not_true_eq_false, not_false_eq_true]) <;> omega) | decide) only [↓stepPre, stepPost, ↓W_cond, ↓W_block, ↓reduceIte, Nat.reduceEqDiff, Nat.reduceLT, Nat.reduceLeDiff, ret0, stVar, isTup, Value.cells, Nat.le_refl, Nat.reduceAdd, Nat.reduceMul, Nat.reduceSub, env0, binV, intV, reduceCtorEq, pickV, nilCheckV, ptrV, unV, true_and, and_true, Nat.add_zero, Nat.zero_add, Rt, resultsV, allV, resV, Bool.not_true, Bool.not_false, calleeV, builtinV, eqV, fieldAddrV, ldVar, stN_own, stN_ownL, Int.fdiv_eq_ediv_of_nonneg, Int.reduceToNat, Int.reducePow, IntKind.bits, convV, ne_eq, not_false_eq_true, not_true_eq_false, Int.reduceNeg, Int.reduceAdd, Int.reduceSub, Int.reduceLT, Int.reduceLE, extractV, decide_true, decide_false, Int.reduceEq, mkFuncV, stBCtrl, beq_self_eq_true, tyB0Ctrl, getL_take, glBCtrl, h0, h5, k1, hb2, Option.isNone_none]
        refine done_ok T.h hno (by rw [hf2]; omega) fun s2 Z2 c2 z2 h2' => ?_
        simp (disch := first | omega | ((simp only [Ab.next_alloc, Ab.next_upd, List.length_cons, List.length_nil, ne_eq, not_true_eq_false, not_false_eq_true]) <;> omega) | decide) only [↓stepPre, stepPost, ↓W_cond, ↓W_block, ↓reduceIte, Nat.reduceEqDiff, Nat.reduceLT, Nat.reduceLeDiff, ret0, stVar, isTup, Value.cells, Nat.le_refl, Nat.reduceAdd, Nat.reduceMul, Nat.reduceSub, env0, binV, intV, reduceCtorEq, pickV, nilCheckV, ptrV, unV, true_and, and_true, Nat.add_zero, Nat.zero_add, Rt, resultsV, allV, resV, Bool.not_true, Bool.not_false, calleeV, builtinV, eqV, fieldAddrV, ldVar, stN_own, stN_ownL, Int.fdiv_eq_ediv_of_nonneg, Int.reduceToNat, Int.reducePow, IntKind.bits, convV, ne_eq, not_false_eq_true, not_true_eq_false, Int.reduceNeg, Int.reduceAdd, Int.reduceSub, Int.reduceLT, Int.reduceLE, extractV, decide_true, decide_false, Int.reduceEq, mkFuncV, stBCtrl, beq_self_eq_true, tyB0Ctrl, getL_take, glBCtrl, h0, h5]
        exact ⟨h0, h2, h3, h5, Z2, by rw [this]; exact T.step c2 z2 h2'⟩
  clear hJ e' s'
  rintro e' s' hJ
  have hf3 : (cs2.tk3 hp.sent).fates.length ≤ cs.fates.length + 1 := by
    unfold CS.tk3; split
    · split
      · have := done_len cs2 ‹_› 1; rw [hf2] at this; exact this
      · rw [hf2]; omega
    · rw [hf2]; omega
  generalize hcs3 : cs2.tk3 hp.sent = cs3 at *
  rw [W_seq]
  refine W_mid (fun e' s' => J cs3 e' s' ∧ e' 9 = .bool (wrongB hp.bad)) ?_ ?_
  · obtain ⟨h0, h2, h3, h5, Z', T⟩ := hJ
    have hcc := T.h.z c T.h.zc
    have hb2 := T.hb
    have hlt2 := T.lt
    simp only [Hp.cells] at hb2
    have hbn2 := T.h.hbn
    by_cases h0b : hp.bad = 0
    · have hw : wrongB hp.bad = false := by simp [wrongB, h0b]
      rw [hw]
      rw [h0b] at hb2
      simp (disch := first | omega | ((simp only [Ab.next_alloc, Ab.next_upd, List.length_cons, List.length_nil, ne_eq, not_true_eq_false, not_false_eq_true]) <;> omega) | decide) only [↓stepPre, stepPost, ↓W_cond, ↓W_block, ↓reduceIte, Nat.reduceEqDiff, Nat.reduceLT, Nat.reduceLeDiff, ret0, stVar, isTup, Value.cells, Nat.le_refl, Nat.reduceAdd, Nat.reduceMul, Nat.reduceSub, env0, binV, intV, reduceCtorEq, pickV, nilCheckV, ptrV, unV, true_and, and_true, Nat.add_zero, Nat.zero_add, Rt, resultsV, allV, resV, Bool.not_true, Bool.not_false, calleeV, builtinV, eqV, fieldAddrV, ldVar, stN_own, stN_ownL, Int.fdiv_eq_ediv_of_nonneg, Int.reduceToNat, Int.reducePow, IntKind.bits, convV, ne_eq, not_false_eq_true, not_true_eq_false, Int.reduceNeg, Int.reduceAdd, Int.reduceSub, Int.reduceLT, Int.reduceLE, extractV, decide_true, decide_false, Int.reduceEq, mkFuncV, stBCtrl, beq_self_eq_true, tyB0Ctrl, getL_take, glBCtrl, h0, h5, hb2]
      exact ⟨h0, h2, h3, h5, Z', T⟩
    · by_cases h6b : hp.bad = 6
      · have hw : wrongB hp.bad = false := by simp [wrongB, h6b]
        rw [hw]
        rw [h6b] at hb2
        simp (disch := first | omega | ((simp only [Ab.next_alloc, Ab.next_upd, List.length_cons, List.length_nil, ne_eq, not_true_eq_false, not_false_eq_true]) <;> omega) | decide) only [↓stepPre, stepPost, ↓W_cond, ↓W_block, ↓reduceIte, Nat.reduceEqDiff, Nat.reduceLT, Nat.reduceLeDiff, ret0, stVar, isTup, Value.cells, Nat.le_refl, Nat.reduceAdd, Nat.reduceMul, Nat.reduceSub, env0, binV, intV, reduceCtorEq, pickV, nilCheckV, ptrV, unV, true_and, and_true, Nat.add_zero, Nat.zero_add, Rt, resultsV, allV, resV, Bool.not_true, Bool.not_false, calleeV, builtinV, eqV, fieldAddrV, ldVar, stN_own, stN_ownL, Int.fdiv_eq_ediv_of_nonneg, Int.reduceToNat, Int.reducePow, IntKind.bits, convV, ne_eq, not_false_eq_true, not_true_eq_false, Int.reduceNeg, Int.reduceAdd, Int.reduceSub, Int.reduceLT, Int.reduceLE, extractV, decide_true, decide_false, Int.reduceEq, mkFuncV, stBCtrl, beq_self_eq_true, tyB0Ctrl, getL_take, glBCtrl, h0, h5, hb2]
        exact ⟨h0, h2, h3, h5, Z', T⟩
      · have hw : wrongB hp.bad = true := by simp [wrongB, h0b, h6b]
        rw [hw]
        simp (disch := first | omega | ((simp only [Ab.next_alloc, Ab.next_upd, List.length_cons, List.length_nil, ne_eq, not_true_eq_false, not_false_eq_true]) <;> omega) | decide) only [↓stepPre, stepPost, ↓W_cond, ↓W_block, ↓reduceIte, Nat.reduceEqDiff, Nat.reduceLT, Nat.reduceLeDiff, ret0, stVar, isTup, Value.cells, Nat.le_refl, Nat.reduceAdd, Nat.reduceMul, Nat.reduceSub, env0, binV, intV, reduceCtorEq, pickV, nilCheckV, ptrV, unV, true_and, and_true, Nat.add_zero, Nat.zero_add, Rt, resultsV, allV, resV, Bool.not_true, Bool.not_false, calleeV, builtinV, eqV, fieldAddrV, ldVar, stN_own, stN_ownL, Int.fdiv_eq_ediv_of_nonneg, Int.reduceToNat, Int.reducePow, IntKind.bits, convV, ne_eq, not_false_eq_true, not_true_eq_false, Int.reduceNeg, Int.reduceAdd, Int.reduceSub, Int.reduceLT, Int.reduceLE, extractV, decide_true, decide_false, Int.reduceEq, mkFuncV, stBCtrl, beq_self_eq_true, tyB0Ctrl, getL_take, glBCtrl, h0, h5, hb2, h0b, h6b]
        exact ⟨h0, h2, h3, h5, Z', T⟩
  clear hJ e' s'
  rintro e' s' ⟨hJ, h9⟩
  rw [W_seq]
  refine W_mid (J (cs3.tk4 (hp.lost || wrongB hp.bad))) ?_ ?_
  · obtain ⟨h0, h2, h3, h5, Z', T⟩ := hJ
    obtain ⟨vn, vf, k1, k2, k3, k4, k5⟩ := T.h.st
    have hcc := T.h.z c T.h.zc
    have hb2 := T.hb
    have hlt2 := T.lt
    simp only [Hp.cells] at hb2
    match hno : cs3.now with
    | none =>
      rw [hno] at k2
      have hv : vn = .pointer none := k2
      subst hv
      have : cs3.tk4 (hp.lost || wrongB hp.bad) = cs3 := by simp [CS.tk4, hno]
      simp (disch := first | omega | ((simp only [Ab.next_alloc, Ab.next_upd, List.length_cons, List.length_nil, ne_eq, not_true_eq_false, not_false_eq_true]) <;> omega) | decide) only [↓stepPre, stepPost, ↓W_cond, ↓W_block, ↓reduceIte, Nat.reduceEqDiff, Nat.reduceLT, Nat.reduceLeDiff, ret0, stVar, isTup, Value.cells, Nat.le_refl, Nat.reduceAdd, Nat.reduceMul, Nat.reduceSub, env0, binV, intV, reduceCtorEq, pickV, nilCheckV, ptrV, unV, true_and, and_true, Nat.add_zero, Nat.zero_add, Rt, resultsV, allV, resV, Bool.not_true, Bool.not_false, calleeV, builtinV, eqV, fieldAddrV, ldVar, stN_own, stN_ownL, Int.fdiv_eq_ediv_of_nonneg, Int.reduceToNat, Int.reducePow, IntKind.bits, convV, ne_eq, not_false_eq_true, not_true_eq_false, Int.reduceNeg, Int.reduceAdd, Int.reduceSub, Int.reduceLT, Int.reduceLE, extractV, decide_true, decide_false, Int.reduceEq, mkFuncV, stBCtrl, beq_self_eq_true, tyB0Ctrl, getL_take, glBCtrl, h0, k1, Option.isNone_none]
      exact ⟨h0, h2, h3, h5, Z', by rw [this]; exact T⟩
    | some (k, a) =>
      rw [hno] at k2
      obtain ⟨w, rfl, -⟩ := k2
      cases hbd : (hp.lost || wrongB hp.bad)
      · have : cs3.tk4 false = cs3 := by simp [CS.tk4, hno]
        rw [Bool.or_eq_false_iff] at hbd
        rw [hbd.1] at hb2
        rw [hbd.2] at h9
        simp (disch := first | omega | ((simp only [Ab.next_alloc, Ab.next_upd, List.length_cons, List.length_nil, ne_eq, not_true_eq_false, not_false_eq_true]) <;> omega) | decide) only [↓stepPre, stepPost, ↓W_cond, ↓W_block, ↓reduceIte, Nat.reduceEqDiff, Nat.reduceLT, Nat.reduceLeDiff, ret0, stVar, isTup, Value.cells, Nat.le_refl, Nat.reduceAdd, Nat.reduceMul, Nat.reduceSub, env0, binV, intV, reduceCtorEq, pickV, nilCheckV, ptrV, unV, true_and, and_true, Nat.add_zero, Nat.zero_add, Rt, resultsV, allV, resV, Bool.not_true, Bool.not_false, calleeV, builtinV, eqV, fieldAddrV, ldVar, stN_own, stN_ownL, Int.fdiv_eq_ediv_of_nonneg, Int.reduceToNat, Int.reducePow, IntKind.bits, convV, ne_eq, not_false_eq_true, not_true_eq_false, Int.reduceNeg, Int.reduceAdd, Int.reduceSub, Int.reduceLT, Int.reduceLE, extractV, decide_true, decide_false, Int.reduceEq, mkFuncV, stBCtrl, beq_self_eq_true, tyB0Ctrl, getL_take, glBCtrl, h0, h5, h9, k1, hb2, Option.isNone_none]
        exact ⟨h0, h2, h3, h5, Z', by rw [this]; exact T⟩
      · have : cs3.tk4 true = cs3.done k (cs3.failed a) := by simp [CS.tk4, hno]
        have fin : WC Try.prog base 28 [.pointer (some ⟨c, 0, none⟩)] s' (fun v s1 => v = .int .i64 (cs3.failed a) ∧ Mild s' s1) := failed_ok T.h hno fun s1 m1 => ⟨rfl, m1⟩
        have go : ∀ (K : Value → St → Prop), (∀ s2, J (cs3.done k (cs3.failed a)) e' s2 → K (.tuple #[]) s2) → ∀ s1, Mild s' s1 → WC Try.prog base 27 [.pointer (some ⟨c, 0, none⟩), .int .i64 (cs3.failed a)] s1 K := fun K hK s1 m1 => by
          have T1 := T.step (Ch.of_mild m1 _) (fun b hb => .inl hb) (T.h.mild m1)
          exact done_ok T1.h hno (by omega) fun s2 Z2 c2 z2 h2' => hK s2 ⟨h0, h2, h3, h5, Z2, T1.step c2 z2 h2'⟩
        cases hlo : hp.lost
        · rw [hlo, Bool.false_or] at hbd
          rw [hlo] at hb2
          rw [hbd] at h9
          simp (disch := first | omega | ((simp only [Ab.next_alloc, Ab.next_upd, List.length_cons, List.length_nil, ne_eq, not_true_eq_false, not_false_eq_true]) <;> omega) | decide) only [↓stepPre, stepPost, ↓W_cond, ↓W_block, ↓reduceIte, Nat.reduceEqDiff, Nat.reduceLT, Nat.reduceLeDiff, ret0, stVar, isTup, Value.cells, Nat.le_refl, Nat.reduceAdd, Nat.reduceMul, Nat.reduceSub, env0, binV, intV, reduceCtorEq, pickV, nilCheckV, ptrV, unV, true_and, and_true, Nat.add_zero, Nat.zero_add, Rt, resultsV, allV, resV, Bool.not_true, Bool.not_false, calleeV, builtinV, eqV, fieldAddrV, ldVar, stN_own, stN_ownL, Int.fdiv_eq_ediv_of_nonneg, Int.reduceToNat, Int.reducePow, IntKind.bits, convV, ne_eq, not_false_eq_true, not_true_eq_false, Int.reduceNeg, Int.reduceAdd, Int.reduceSub, Int.reduceLT, Int.reduceLE, extractV, decide_true, decide_false, Int.reduceEq, mkFuncV, stBCtrl, beq_self_eq_true, tyB0Ctrl, getL_take, glBCtrl, h0, h5, h9, k1, hb2, Option.isNone_none]
          refine WC_mono fin fun v s1 hv => ?_
          obtain ⟨rfl, m1⟩ := hv
          simp (disch := first | omega | ((simp only [Ab.next_alloc, Ab.next_upd, List.length_cons, List.length_nil, ne_eq, not_true_eq_false, not_false_eq_true]) <;> omega) | decide) only [↓stepPre, stepPost, ↓W_cond, ↓W_block, ↓reduceIte, Nat.reduceEqDiff, Nat.reduceLT, Nat.reduceLeDiff, ret0, stVar, isTup, Value.cells, Nat.le_refl, Nat.reduceAdd, Nat.reduceMul, Nat.reduceSub, env0, binV, intV, reduceCtorEq, pickV, nilCheckV, ptrV, unV, true_and, and_true, Nat.add_zero, Nat.zero_add, Rt, resultsV, allV, resV, Bool.not_true, Bool.not_false, calleeV, builtinV, eqV, fieldAddrV, ldVar, stN_own, stN_ownL, Int.fdiv_eq_ediv_of_nonneg, Int.reduceToNat, Int.reducePow, IntKind.bits, convV, ne_eq, not_false_eq_true, not_true_eq_false, Int.reduceNeg, Int.reduceAdd, Int.reduceSub, Int.reduceLT, Int.reduceLE, extractV, decide_true, decide_false, Int.reduceEq, mkFuncV, stBCtrl, beq_self_eq_true, tyB0Ctrl, getL_take, glBCtrl, h0, h5]
          refine go _ (fun s2 hJ2 => ?_) s1 m1
          simp (disch := first | omega | ((simp only [Ab.next_alloc, Ab.next_upd, List.length_cons, List.length_nil, ne_eq, not_true_eq_false, not_false_eq_true]) <;> omega) | decide) only [↓stepPre, stepPost, ↓W_cond, ↓W_block, ↓reduceIte, Nat.reduceEqDiff, Nat.reduceLT, Nat.reduceLeDiff, ret0, stVar, isTup, Value.cells, Nat.le_refl, Nat.reduceAdd, Nat.reduceMul, Nat.reduceSub, env0, binV, intV, reduceCtorEq, pickV, nilCheckV, ptrV, unV, true_and, and_true, Nat.add_zero, Nat.zero_add, Rt, resultsV, allV, resV, Bool.not_true, Bool.not_false, calleeV, builtinV, eqV, fieldAddrV, ldVar, stN_own, stN_ownL, Int.fdiv_eq_ediv_of_nonneg, Int.reduceToNat, Int.reducePow, IntKind.bits, convV, ne_eq, not_false_eq_true, not_true_eq_false, Int.reduceNeg, Int.reduceAdd, Int.reduceSub, Int.reduceLT, Int.reduceLE, extractV, decide_true, decide_false, Int.reduceEq, mkFuncV, stBCtrl, beq_self_eq_true, tyB0Ctrl, getL_take, glBCtrl]
          obtain ⟨q0, q2, q3, q5, q6⟩ := hJ2
          exact ⟨q0, q2, q3, q5, by rw [this]; exact q6⟩
        · rw [hlo] at hb2
          simp (disch := first | omega | ((simp only [Ab.next_alloc, Ab.next_upd, List.length_cons, List.length_nil, ne_eq, not_true_eq_false, not_false_eq_true]) <;> omega) | decide) only [↓stepPre, stepPost, ↓W_cond, ↓W_block, ↓reduceIte, Nat.reduceEqDiff, Nat.reduceLT, Nat.reduceLeDiff, ret0, stVar, isTup, Value.cells, Nat.le_refl, Nat.reduceAdd, Nat.reduceMul, Nat.reduceSub, env0, binV, intV, reduceCtorEq, pickV, nilCheckV, ptrV, unV, true_and, and_true, Nat.add_zero, Nat.zero_add, Rt, resultsV, allV, resV, Bool.not_true, Bool.not_false, calleeV, builtinV, eqV, fieldAddrV, ldVar, stN_own, stN_ownL, Int.fdiv_eq_ediv_of_nonneg, Int.reduceToNat, Int.reducePow, IntKind.bits, convV, ne_eq, not_false_eq_true, not_true_eq_false, Int.reduceNeg, Int.reduceAdd, Int.reduceSub, Int.reduceLT, Int.reduceLE, extractV, decide_true, decide_false, Int.reduceEq, mkFuncV, stBCtrl, beq_self_eq_true, tyB0Ctrl, getL_take, glBCtrl, h0, h5, h9, k1, hb2, Option.isNone_none]
          refine WC_mono fin fun v s1 hv => ?_
          obtain ⟨rfl, m1⟩ := hv
          simp (disch := first | omega | ((simp only [Ab.next_alloc, Ab.next_upd, List.length_cons, List.length_nil, ne_eq, not_true_eq_false, not_false_eq_true]) <;> omega) | decide) only [↓stepPre, stepPost, ↓W_cond, ↓W_block, ↓reduceIte, Nat.reduceEqDiff, Nat.reduceLT, Nat.reduceLeDiff, ret0, stVar, isTup, Value.cells, Nat.le_refl, Nat.reduceAdd, Nat.reduceMul, Nat.reduceSub, env0, binV, intV, reduceCtorEq, pickV, nilCheckV, ptrV, unV, true_and, and_true, Nat.add_zero, Nat.zero_add, Rt, resultsV, allV, resV, Bool.not_true, Bool.not_false, calleeV, builtinV, eqV, fieldAddrV, ldVar, stN_own, stN_ownL, Int.fdiv_eq_ediv_of_nonneg, Int.reduceToNat, Int.reducePow, IntKind.bits, convV, ne_eq, not_false_eq_true, not_true_eq_false, Int.reduceNeg, Int.reduceAdd, Int.reduceSub, Int.reduceLT, Int.reduceLE, extractV, decide_true, decide_false, Int.reduceEq, mkFuncV, stBCtrl, beq_self_eq_true, tyB0Ctrl, getL_take, glBCtrl, h0, h5]
          refine go _ (fun s2 hJ2 => ?_) s1 m1
          simp (disch := first | omega | ((simp only [Ab.next_alloc, Ab.next_upd, List.length_cons, List.length_nil, ne_eq, not_true_eq_false, not_false_eq_true]) <;> omega) | decide) only [↓stepPre, stepPost, ↓W_cond, ↓W_block, ↓reduceIte, Nat.reduceEqDiff, Nat.reduceLT, Nat.reduceLeDiff, ret0, stVar, isTup, Value.cells, Nat.le_refl, Nat.reduceAdd, Nat.reduceMul, Nat.reduceSub, env0, binV, intV, reduceCtorEq, pickV, nilCheckV, ptrV, unV, true_and, and_true, Nat.add_zero, Nat.zero_add, Rt, resultsV, allV, resV, Bool.not_true, Bool.not_false, calleeV, builtinV, eqV, fieldAddrV, ldVar, stN_own, stN_ownL, Int.fdiv_eq_ediv_of_nonneg, Int.reduceToNat, Int.reducePow, IntKind.bits, convV, ne_eq, not_false_eq_true, not_true_eq_false, Int.reduceNeg, Int.reduceAdd, Int.reduceSub, Int.reduceLT, Int.reduceLE, extractV, decide_true, decide_false, Int.reduceEq, mkFuncV, stBCtrl, beq_self_eq_true, tyB0Ctrl, getL_take, glBCtrl]
          obtain ⟨q0, q2, q3, q5, q6⟩ := hJ2
          exact ⟨q0, q2, q3, q5, by rw [this]; exact q6⟩
  clear hJ h9 e' s'
  rintro e' s' ⟨h0, h2, h3, h5, Z', T⟩
  have hin4 : (cs3.tk4 (hp.lost || wrongB hp.bad)).room = cs3.room ∧ (cs3.tk4 (hp.lost || wrongB hp.bad)).F = cs3.F ∧ (cs3.tk4 (hp.lost || wrongB hp.bad)).W = cs3.W := by
    unfold CS.tk4; split
    · split
      · have := done_in cs3 ‹_› (cs3.failed ‹_›); exact ⟨this.1, this.2.1, this.2.2.1⟩
      · exact ⟨rfl, rfl, rfl⟩
    · exact ⟨rfl, rfl, rfl⟩
  have hin3 : cs3.room = cs2.room ∧ cs3.F = cs2.F ∧ cs3.W = cs2.W := by
    rw [← hcs3]
    unfold CS.tk3; split
    · split
      · have := done_in cs2 ‹_› 1; exact ⟨this.1, this.2.1, this.2.2.1⟩
      · exact ⟨rfl, rfl, rfl⟩
    · exact ⟨rfl, rfl, rfl⟩
  have hin2 : cs2.room = cs.room ∧ cs2.F = cs.F ∧ cs2.W = cs.W := by
    rw [← hcs2, ← hcs1]
    unfold CS.tk2; split <;> exact ⟨rfl, rfl, rfl⟩
  have hfin : cs.took hp ph t = (cs3.tk4 (hp.lost || wrongB hp.bad)).tk5 hp t := by
    simp only [CS.took, hcs1, hcs2, hcs3]
  generalize cs3.tk4 (hp.lost || wrongB hp.bad) = cs4 at *
  obtain ⟨vn, vf, k1, k2, k3, k4, k5⟩ := T.h.st
  have hcc := T.h.z c T.h.zc
  have hbn4 := T.h.hbn
  have hb2 := T.hb
  have hlt2 := T.lt
  obtain ⟨r0, r1, r2, r3, r4, r5, r6, r7, r8, r9, hre⟩ : ∃ r0 r1 r2 r3 r4 r5 r6 r7 r8 r9, hp.r = [r0, r1, r2, r3, r4, r5, r6, r7, r8, r9] := by
    match hp.r, hr with
    | [r0, r1, r2, r3, r4, r5, r6, r7, r8, r9], _ => exact ⟨_, _, _, _, _, _, _, _, _, _, rfl⟩
  simp only [Hp.cells, hre] at hb2
  have hzs : ∀ b, Z' b → Z b ∨ s.next ≤ b := fun b hb => (T.zs b hb).1
  cases hgot : hp.got
  · rw [hgot] at hb2
    have : cs4.tk5 hp t = cs4 := by simp [CS.tk5, hgot]
    have key := hR s' Y Z' T.ch (fun b hb => .inl hb) hzs (by rw [hfin, this]; exact T.h)
    simp (disch := first | omega | ((simp only [Ab.next_alloc, Ab.next_upd, List.length_cons, List.length_nil, ne_eq, not_true_eq_false, not_false_eq_true]) <;> omega) | decide) only [↓stepPre, stepPost, ↓W_cond, ↓W_block, ↓reduceIte, Nat.reduceEqDiff, Nat.reduceLT, Nat.reduceLeDiff, ret0, stVar, isTup, Value.cells, Nat.le_refl, Nat.reduceAdd, Nat.reduceMul, Nat.reduceSub, env0, binV, intV, reduceCtorEq, pickV, nilCheckV, ptrV, unV, true_and, and_true, Nat.add_zero, Nat.zero_add, Rt, resultsV, allV, resV, Bool.not_true, Bool.not_false, calleeV, builtinV, eqV, fieldAddrV, ldVar, stN_own, stN_ownL, Int.fdiv_eq_ediv_of_nonneg, Int.reduceToNat, Int.reducePow, IntKind.bits, convV, ne_eq, not_false_eq_true, not_true_eq_false, Int.reduceNeg, Int.reduceAdd, Int.reduceSub, Int.reduceLT, Int.reduceLE, extractV, decide_true, decide_false, Int.reduceEq, mkFuncV, stBCtrl, beq_self_eq_true, tyB0Ctrl, getL_take, glBCtrl, h5, hb2, Try.results9]
    exact key
  · rw [hgot] at hb2
    simp (disch := first | omega | ((simp only [Ab.next_alloc, Ab.next_upd, List.length_cons, List.length_nil, ne_eq, not_true_eq_false, not_false_eq_true]) <;> omega) | decide) only [↓stepPre, stepPost, ↓W_cond, ↓W_block, ↓reduceIte, Nat.reduceEqDiff, Nat.reduceLT, Nat.reduceLeDiff, ret0, stVar, isTup, Value.cells, Nat.le_refl, Nat.reduceAdd, Nat.reduceMul, Nat.reduceSub, env0, binV, intV, reduceCtorEq, pickV, nilCheckV, ptrV, unV, true_and, and_true, Nat.add_zero, Nat.zero_add, Rt, resultsV, allV, resV, Bool.not_true, Bool.not_false, calleeV, builtinV, eqV, fieldAddrV, ldVar, stN_own, stN_ownL, Int.fdiv_eq_ediv_of_nonneg, Int.reduceToNat, Int.reducePow, IntKind.bits, convV, ne_eq, not_false_eq_true, not_true_eq_false, Int.reduceNeg, Int.reduceAdd, Int.reduceSub, Int.reduceLT, Int.reduceLE, extractV, decide_true, decide_false, Int.reduceEq, mkFuncV, stBCtrl, beq_self_eq_true, tyB0Ctrl, getL_take, glBCtrl, h5, hb2]
    refine W_draw (fun k => k == 12) (fun _ => false) (fun _ => false) (by kernel_rfl) (by kernel_rfl) ?_
    simp (disch := first | omega | ((simp only [Ab.next_alloc, Ab.next_upd, List.length_cons, List.length_nil, ne_eq, not_true_eq_false, not_false_eq_true]) <;> omega) | decide) only [↓stepPre, stepPost, ↓W_cond, ↓W_block, ↓reduceIte, Nat.reduceEqDiff, Nat.reduceLT, Nat.reduceLeDiff, ret0, stVar, isTup, Value.cells, Nat.le_refl, Nat.reduceAdd, Nat.reduceMul, Nat.reduceSub, env0, binV, intV, reduceCtorEq, pickV, nilCheckV, ptrV, unV, true_and, and_true, Nat.add_zero, Nat.zero_add, Rt, resultsV, allV, resV, Bool.not_true, Bool.not_false, calleeV, builtinV, eqV, fieldAddrV, ldVar, stN_own, stN_ownL, Int.fdiv_eq_ediv_of_nonneg, Int.reduceToNat, Int.reducePow, IntKind.bits, convV, ne_eq, not_false_eq_true, not_true_eq_false, Int.reduceNeg, Int.reduceAdd, Int.reduceSub, Int.reduceLT, Int.reduceLE, extractV, decide_true, decide_false, Int.reduceEq, mkFuncV, stBCtrl, beq_self_eq_true, tyB0Ctrl, getL_take, glBCtrl, h0, h3, h5, hb2, k1, buildV, fillL]
    refine offer_ok (e := hp.e) (n := hp.n) (c := [r0, r1, r2, r3, r4, r5, r6, r7, r8, r9, .int .i64 cs4.mark, .int .i64 t]) T.h.i (by rw [hin4.2.1, hin3.2.1, hin2.2.1]; exact hF) (by rw [hin4.2.1, hin3.2.1, hin2.2.1]; exact hFn) (by rw [hin4.2.2, hin3.2.2, hin2.2.2]; exact hW) hbn4 rfl fun s5 Y5 c5 y5 o5 => ?_
    have : cs4.tk5 hp t = { cs4 with W := offL cs4.room cs4.F cs4.W hp.e hp.n (.bool hp.e :: .int .u32 hp.n :: [r0, r1, r2, r3, r4, r5, r6, r7, r8, r9, .int .i64 cs4.mark, .int .i64 t]), over := offO cs4.room cs4.F cs4.W hp.e hp.n cs4.over } := by
      simp [CS.tk5, hgot, hre]
    have n5 := c5.next
    have hn' := T.ch.next
    have key := hR s5 Y5 Z' ⟨by omega, fun b hb hx => by
      rw [c5.heap b (by omega) fun hy => hx (.inr (.inl hy)), T.ch.heap b hb hx]⟩ (fun b hb => (y5 b hb).imp id fun h => by omega) hzs (by rw [hfin, this]; exact T.h.inb c5 y5 o5)
    simp (disch := first | omega | ((simp only [Ab.next_alloc, Ab.next_upd, List.length_cons, List.length_nil, ne_eq, not_true_eq_false, not_false_eq_true]) <;> omega) | decide) only [↓stepPre, stepPost, ↓W_cond, ↓W_block, ↓reduceIte, Nat.reduceEqDiff, Nat.reduceLT, Nat.reduceLeDiff, ret0, stVar, isTup, Value.cells, Nat.le_refl, Nat.reduceAdd, Nat.reduceMul, Nat.reduceSub, env0, binV, intV, reduceCtorEq, pickV, nilCheckV, ptrV, unV, true_and, and_true, Nat.add_zero, Nat.zero_add, Rt, resultsV, allV, resV, Bool.not_true, Bool.not_false, calleeV, builtinV, eqV, fieldAddrV, ldVar, stN_own, stN_ownL, Int.fdiv_eq_ediv_of_nonneg, Int.reduceToNat, Int.reducePow, IntKind.bits, convV, ne_eq, not_false_eq_true, not_true_eq_false, Int.reduceNeg, Int.reduceAdd, Int.reduceSub, Int.reduceLT, Int.reduceLE, extractV, decide_true, decide_false, Int.reduceEq, mkFuncV, stBCtrl, beq_self_eq_true, tyB0Ctrl, getL_take, glBCtrl, Try.results9]
    exact ⟨Dok_next (by decide) n5, key⟩
end Go.Proofs.Ytghigcdpinogaaa
