/- A network that can be, from any (the statements of the package station): as a contract. -/
import Derived.Test.YthjpfllmecpliaaDoorTypes
import Derived.Test.YthjpfllmecpliaaDoorRow0
import Derived.Test.YthjpfllmecpliaaDoorAbC
import Derived.Test.YthjpfllmecpliaaDoorAsks
import Derived.Test.YthjpfllmecpliaaDoorPure
import Derived.Test.YthjpfllmecpliaaDoorBoxes
import Derived.Test.YthjpfllmecpliaaDoorStreamFew
import Derived.Test.YthjpfllmecpliaaDoorScrCheck
import Derived.Test.YthjpfllmecpliaaDoorScrCutP
set_option linter.all false
set_option maxRecDepth 20000
namespace Go.Proofs.YthjpfllmecpliaaDoor
open Go Go.Ab
def nxBPlant29 := And.intro @Ab.next_alloc (And.intro @Ab.next_upd (And.intro @List.length_cons.{0} (And.intro @List.length_nil.{0} (And.intro @ne_eq.{1} (And.intro not_true_eq_false not_false_eq_true)))))
def tyB0Plant29 := And.intro @Ty.t55 (And.intro @Tryd.underlying55 (And.intro @Ty.t22 (And.intro @Tryd.underlying22 (And.intro @Ty.t53 (And.intro @Tryd.underlying53 (And.intro @Ty.t26 (And.intro @Tryd.underlying26 (And.intro @Ty.t24 (And.intro @Tryd.underlying24 (And.intro @Ty.t3 (And.intro @Tryd.underlying3 (And.intro @Ty.t2 (And.intro @Tryd.underlying2 (And.intro @Ty.t4 (And.intro @Tryd.underlying4 (And.intro @Ty.t29 @Tryd.underlying29))))))))))))))))
def stBPlant29 := And.intro @List.size_toArray.{0} (And.intro @List.length_cons.{0} (And.intro @List.length_nil.{0} (And.intro @List.set_cons_zero.{0} (And.intro @List.set_cons_succ.{0} (And.intro @List.getD_cons_zero.{0} (And.intro @List.getD_cons_succ.{0} (And.intro @List.getElem?_cons_succ.{0} (And.intro @List.getElem?_cons_zero.{0} (And.intro @List.map_cons.{0,0} (And.intro @List.map_nil.{0,0} (And.intro @Option.isNone_none.{0} (And.intro @Option.isNone_some.{0} (And.intro @Option.map_some.{0,0} (And.intro @Option.map_none.{0,0} (And.intro @List.cons_append.{0} (And.intro @List.nil_append.{0} (And.intro @List.append_nil.{0} (And.intro @Array.toList_append.{0} (And.intro @List.toList_toArray.{0} (And.intro @Int.cast_ofNat_Int (And.intro @Option.isSome_some.{0} (And.intro @List.getElem?_toArray.{0} (And.intro @List.map_toArray.{0,0} (@Nat.min_eq_left))))))))))))))))))))))))
def glBPlant29 := And.intro @List.drop_zero.{0} (And.intro @List.drop_succ_cons.{0} (And.intro @List.take_succ_cons.{0} (And.intro @List.take_zero.{0} (@List.take_nil.{0}))))
variable {base : Nat} [Bok base] {s : St} {R : Value → St → Prop}
theorem near29_p {n b : Int} (hb : 0 < b) (hR : R (.int .i64 (partN n b)) s) : WC Tryd.prog base 26 [.int .i64 n, .int .i64 b] s R := by
  refine WC_open Tryd.func26 rfl ?_
  by_cases h : n < 0
  · simp only [partN, h, if_true] at hR
    simp (disch := first | omega | ((simp only [nxBPlant29]) <;> omega) | decide) only [↓stepPre, stepPost, ↓W_cond, ↓W_block, ↓reduceIte, Nat.reduceEqDiff, Nat.reduceLT, Nat.reduceLeDiff, ret0, stVar, isTup, Value.cells, Nat.le_refl, Nat.reduceAdd, Nat.reduceMul, Nat.reduceSub, env0, binV, intV, reduceCtorEq, pickV, nilCheckV, ptrV, unV, true_and, and_true, Nat.add_zero, Nat.zero_add, Rt, resultsV, allV, resV, Bool.not_true, Bool.not_false, calleeV, builtinV, eqV, fieldAddrV, ldVar, stN_own, stN_ownL, Int.fdiv_eq_ediv_of_nonneg, Int.reduceToNat, Int.reducePow, IntKind.bits, convV, ne_eq, not_false_eq_true, not_true_eq_false, Int.reduceNeg, Int.reduceAdd, Int.reduceSub, Int.reduceLT, Int.reduceLE, extractV, decide_true, decide_false, Int.reduceEq, mkFuncV, stBPlant29, beq_self_eq_true, tyB0Plant29, h, Tryd.results26]
    exact hR
  · simp only [partN, h, if_false] at hR
    have h0 : ¬ b = 0 := by omega
    have h1 : n.tmod b = n % b := Int.tmod_eq_emod_of_nonneg (by omega)
    simp (disch := first | omega | ((simp only [nxBPlant29]) <;> omega) | decide) only [↓stepPre, stepPost, ↓W_cond, ↓W_block, ↓reduceIte, Nat.reduceEqDiff, Nat.reduceLT, Nat.reduceLeDiff, ret0, stVar, isTup, Value.cells, Nat.le_refl, Nat.reduceAdd, Nat.reduceMul, Nat.reduceSub, env0, binV, intV, reduceCtorEq, pickV, nilCheckV, ptrV, unV, true_and, and_true, Nat.add_zero, Nat.zero_add, Rt, resultsV, allV, resV, Bool.not_true, Bool.not_false, calleeV, builtinV, eqV, fieldAddrV, ldVar, stN_own, stN_ownL, Int.fdiv_eq_ediv_of_nonneg, Int.reduceToNat, Int.reducePow, IntKind.bits, convV, ne_eq, not_false_eq_true, not_true_eq_false, Int.reduceNeg, Int.reduceAdd, Int.reduceSub, Int.reduceLT, Int.reduceLE, extractV, decide_true, decide_false, Int.reduceEq, mkFuncV, stBPlant29, beq_self_eq_true, tyB0Plant29, h, h0, h1, Tryd.results26]
    exact hR
def plQ : Pl := ⟨2, 1000, 4, 10, 1, 100, 50, 10, 40, [⟨1, 0, 1, 90000, 80000, 0, 2⟩]⟩
theorem plant29i_ok (hbn : base ≤ s.next) (hR : ∀ s' v, Mild s s' → R (.agg (plQ.c v).toArray) s') : WC Tryd.prog base 25 [] s R := by
  refine WC_open Tryd.func25 rfl ?_
  have hb := fun (s : St) => build1 (P := Tryd.prog) (s := s) (l := [.int .i64 1, .int .i64 0, .int .i64 1, .int .i64 90000, .int .i64 80000, .int .i64 0, .int .i64 2]) (zr := [.int .i64 0, .int .i64 0, .int .i64 0, .int .i64 0, .int .i64 0, .int .i64 0, .int .i64 0]) Ty.elem22 Ty.siz55 Ty.zer55 rfl rfl (by omega) (by omega)
  simp only [List.toArray] at hb
  simp (disch := first | omega | ((simp only [nxBPlant29]) <;> omega) | decide) only [↓stepPre, stepPost, ↓W_cond, ↓W_block, ↓reduceIte, Nat.reduceEqDiff, Nat.reduceLT, Nat.reduceLeDiff, ret0, stVar, isTup, Value.cells, Nat.le_refl, Nat.reduceAdd, Nat.reduceMul, Nat.reduceSub, env0, binV, intV, reduceCtorEq, pickV, nilCheckV, ptrV, unV, true_and, and_true, Nat.add_zero, Nat.zero_add, Rt, resultsV, allV, resV, Bool.not_true, Bool.not_false, calleeV, builtinV, eqV, fieldAddrV, ldVar, stN_own, stN_ownL, Int.fdiv_eq_ediv_of_nonneg, Int.reduceToNat, Int.reducePow, IntKind.bits, convV, ne_eq, not_false_eq_true, not_true_eq_false, Int.reduceNeg, Int.reduceAdd, Int.reduceSub, Int.reduceLT, Int.reduceLE, extractV, decide_true, decide_false, Int.reduceEq, mkFuncV, stBPlant29, beq_self_eq_true, tyB0Plant29, getL_take, glBPlant29, buildV, fillL, setL, hb, putAt_row, Tryd.results25]
  refine hR _ (.slice (some ⟨s.next + 1, 0, none⟩) 1 1) ?_
  (repeat first | exact Mild.refl _ | assumption | apply Mild.alloc' | (refine Mild.upd' ?_ (by omega)) | (refine Mild.upd' ?_ (by simp only [Ab.next_alloc, Ab.next_upd] at *; omega)))
/-! ### Streams, moved -/
def Sm.mv1 (x : Sm) (m : Int) : Sm := ⟨x.id, x.nd % m, x.cl, x.pe, x.de, x.sl, x.by_⟩
def Sm.mv2 (x : Sm) (m : Int) : Sm := ⟨x.id, x.nd % m, x.cl, x.pe * 20, x.de, x.sl, x.by_⟩
theorem smL_put {ys : List Sm} {i k : Nat} {x : Value} {X : Sm} (h : i < ys.length) (hX : ys[i].c.set k x = X.c) (hi : i < (smL ys).length) : (smL ys).set i ((smL ys)[i].set k x) = smL (ys.set i X) := by
  have e : (smL ys)[i] = ys[i].c := by simp only [smL, List.getElem_map]
  rw [e, hX]
  simp only [smL, List.map_set]
def mvT (m : Int) (ys : List Sm) (i : Nat) : List Sm := (ys.take i).map (fun x => x.mv m) ++ ys.drop i
theorem mvT_len (m : Int) (ys : List Sm) (i : Nat) : (mvT m ys i).length = ys.length := by simp [mvT]; omega
theorem mvT_at {m : Int} {ys : List Sm} {i : Nat} (h : i < ys.length) : (mvT m ys i)[i]'(by rw [mvT_len]; exact h) = ys[i] := by
  unfold mvT
  rw [List.getElem_append_right (by simp; omega)]
  simp [Nat.min_eq_left (Nat.le_of_lt h)]
theorem mvT_set {m : Int} {ys : List Sm} {i : Nat} (h : i < ys.length) : (mvT m ys i).set i (ys[i].mv m) = mvT m ys (i + 1) := by
  unfold mvT
  rw [List.set_append_right _ _ (by simp; omega)]
  have : i - ((ys.take i).map fun x => x.mv m).length = 0 := by simp; omega
  rw [this, List.drop_eq_getElem_cons h, List.set_cons_zero, List.take_succ_eq_append_getElem h, List.map_append, List.append_assoc]
  rfl
theorem norm_bd {ys : List Sm} (xs : List Sm) (h : ys = fewS xs 6) {i : Nat} (hi : i < ys.length) : 0 ≤ ys[i].nd ∧ ys[i].nd < 4 ∧ 0 ≤ ys[i].pe ∧ ys[i].pe ≤ 5000 ∧ 0 ≤ ys[i].de ∧ ys[i].de ≤ 5000 := by
  subst h
  rw [fewS_at hi]
  generalize xs[i]'(by rw [fewS_len] at hi; omega) = x
  have h1 := partN_in x.nd (b := 4) (by omega)
  have h3 := partN_in x.pe (b := 4000) (by omega)
  have h4 := partN_in x.de (b := partN x.pe 4000 + 200 - 99) (by omega)
  simp only [Sm.norm]
  omega
theorem plant29_ok {v : Value} {p : Pl} (hs : Sl base s 7 v (smL p.xs)) (hn : p.xs.length ≤ 2 ^ 63 - 1) (hbn : base ≤ s.next) (hR : ∀ s' w, Mild s s' → Sl base s' 7 w (smL (plantF p).xs) → (∀ b, inB w b → s.next ≤ b) → R (.agg ((plantF p).c w).toArray) s') :
    WC Tryd.prog base 10 [.agg (p.c v).toArray] s R := by
  refine WC_open Tryd.func10 rfl ?_
  have g1 := partN_in p.no (b := 4) (by omega)
  have g2 := partN_in p.len (b := 1000) (by omega)
  have g3 := partN_in p.rm (b := 6) (by omega)
  have g4 := partN_in p.nm (b := 20) (by omega)
  have g5 := partN_in p.dr (b := 3) (by omega)
  have g6 := partN_in p.tu (b := 1000) (by omega)
  have g7 := partN_in p.ba (b := 3000) (by omega)
  have g8 := partN_in p.st (b := 400) (by omega)
  have g9 := partN_in p.pe (b := 300) (by omega)
  have m0 : Mild s ((s.alloc (.row (p.c v))).alloc (.row [.int .i64 0, .slice none 0 0, .int .i64 0, .int .i64 0, .int .i64 0, .int .i64 0, .int .i64 0, .int .i64 0, .int .i64 0, .int .i64 0])) := (Mild.alloc s _).alloc'
  have c0 : ((s.alloc (.row (p.c v))).alloc (.row [.int .i64 0, .slice none 0 0, .int .i64 0, .int .i64 0, .int .i64 0, .int .i64 0, .int .i64 0, .int .i64 0, .int .i64 0, .int .i64 0])).heap s.next = .row (p.c v) := by rw [Ab.heap_alloc_ne _ _ (by simp only [Ab.next_alloc]; omega)]; exact Ab.heap_alloc_new _ _
  have z0 : ((s.alloc (.row (p.c v))).alloc (.row [.int .i64 0, .slice none 0 0, .int .i64 0, .int .i64 0, .int .i64 0, .int .i64 0, .int .i64 0, .int .i64 0, .int .i64 0, .int .i64 0])).heap (s.next + 1) = .row [.int .i64 0, .slice none 0 0, .int .i64 0, .int .i64 0, .int .i64 0, .int .i64 0, .int .i64 0, .int .i64 0, .int .i64 0, .int .i64 0] := Ab.heap_alloc_new (s.alloc _) _
  have n0 : ((s.alloc (.row (p.c v))).alloc (.row [.int .i64 0, .slice none 0 0, .int .i64 0, .int .i64 0, .int .i64 0, .int .i64 0, .int .i64 0, .int .i64 0, .int .i64 0, .int .i64 0])).next = s.next + 2 := rfl
  simp (disch := first | omega | ((simp only [nxBPlant29]) <;> omega) | decide) only [↓stepPre, stepPost, ↓W_cond, ↓W_block, ↓reduceIte, Nat.reduceEqDiff, Nat.reduceLT, Nat.reduceLeDiff, ret0, stVar, isTup, Value.cells, Nat.le_refl, Nat.reduceAdd, Nat.reduceMul, Nat.reduceSub, env0, binV, intV, reduceCtorEq, pickV, nilCheckV, ptrV, unV, true_and, and_true, Nat.add_zero, Nat.zero_add, Rt, resultsV, allV, resV, Bool.not_true, Bool.not_false, calleeV, builtinV, eqV, fieldAddrV, ldVar, stN_own, stN_ownL, Int.fdiv_eq_ediv_of_nonneg, Int.reduceToNat, Int.reducePow, IntKind.bits, convV, ne_eq, not_false_eq_true, not_true_eq_false, Int.reduceNeg, Int.reduceAdd, Int.reduceSub, Int.reduceLT, Int.reduceLE, extractV, decide_true, decide_false, Int.reduceEq, mkFuncV, stBPlant29, beq_self_eq_true, tyB0Plant29, getL_take, glBPlant29]
  generalize (s.alloc (.row (p.c v))).alloc _ = s1 at m0 c0 z0 n0 ⊢
  refine plant29i_ok (by omega) fun s2 w2 m2 => ?_
  have n2 := m2.next
  have c2 := (m2.heap s.next (by omega)).trans c0
  have z2 := (m2.heap (s.next + 1) (by omega)).trans z0
  have M2 := m0.trans m2
  simp (disch := first | omega | ((simp only [nxBPlant29]) <;> omega) | decide) only [↓stepPre, stepPost, ↓W_cond, ↓W_block, ↓reduceIte, Nat.reduceEqDiff, Nat.reduceLT, Nat.reduceLeDiff, ret0, stVar, isTup, Value.cells, Nat.le_refl, Nat.reduceAdd, Nat.reduceMul, Nat.reduceSub, env0, binV, intV, reduceCtorEq, pickV, nilCheckV, ptrV, unV, true_and, and_true, Nat.add_zero, Nat.zero_add, Rt, resultsV, allV, resV, Bool.not_true, Bool.not_false, calleeV, builtinV, eqV, fieldAddrV, ldVar, stN_own, stN_ownL, Int.fdiv_eq_ediv_of_nonneg, Int.reduceToNat, Int.reducePow, IntKind.bits, convV, ne_eq, not_false_eq_true, not_true_eq_false, Int.reduceNeg, Int.reduceAdd, Int.reduceSub, Int.reduceLT, Int.reduceLE, extractV, decide_true, decide_false, Int.reduceEq, mkFuncV, stBPlant29, beq_self_eq_true, tyB0Plant29, getL_take, glBPlant29, c2]
  refine near29_p (by omega) ?_
  simp (disch := first | omega | ((simp only [nxBPlant29]) <;> omega) | decide) only [↓stepPre, stepPost, ↓W_cond, ↓W_block, ↓reduceIte, Nat.reduceEqDiff, Nat.reduceLT, Nat.reduceLeDiff, ret0, stVar, isTup, Value.cells, Nat.le_refl, Nat.reduceAdd, Nat.reduceMul, Nat.reduceSub, env0, binV, intV, reduceCtorEq, pickV, nilCheckV, ptrV, unV, true_and, and_true, Nat.add_zero, Nat.zero_add, Rt, resultsV, allV, resV, Bool.not_true, Bool.not_false, calleeV, builtinV, eqV, fieldAddrV, ldVar, stN_own, stN_ownL, Int.fdiv_eq_ediv_of_nonneg, Int.reduceToNat, Int.reducePow, IntKind.bits, convV, ne_eq, not_false_eq_true, not_true_eq_false, Int.reduceNeg, Int.reduceAdd, Int.reduceSub, Int.reduceLT, Int.reduceLE, extractV, decide_true, decide_false, Int.reduceEq, mkFuncV, stBPlant29, beq_self_eq_true, tyB0Plant29, getL_take, glBPlant29, c2, putAt_row]
  generalize hS : s2.alloc _ = s3
  have m3 : Mild s2 s3 := by rw [← hS]; exact Mild.alloc _ _
  have q3 : s3.heap s2.next = .row [.int .i64 (partN p.no 4 + 2), w2, .int .i64 1000, .int .i64 4, .int .i64 10, .int .i64 1, .int .i64 100, .int .i64 50, .int .i64 10, .int .i64 40] := by rw [← hS]; exact Ab.heap_alloc_new _ _
  have n3 : s3.next = s2.next + 1 := by rw [← hS]; rfl
  clear hS
  have M3 := M2.trans m3
  have c3 := (m3.heap s.next (by omega)).trans c2
  have z3 := (m3.heap (s.next + 1) (by omega)).trans z2
  refine few_ok (hs.mild M3) hn (by omega) fun w s4 m4 l4 b4 => ?_
  have n4 := m4.next
  have M4 := M3.trans m4
  have c4 := (m4.heap s.next (by omega)).trans c3
  have z4 := (m4.heap (s.next + 1) (by omega)).trans z3
  have q4 := (m4.heap s2.next (by omega)).trans q3
  obtain ⟨wa, wn, wc, rfl⟩ := l4.shape
  simp (disch := first | omega | ((simp only [nxBPlant29]) <;> omega) | decide) only [↓stepPre, stepPost, ↓W_cond, ↓W_block, ↓reduceIte, Nat.reduceEqDiff, Nat.reduceLT, Nat.reduceLeDiff, ret0, stVar, isTup, Value.cells, Nat.le_refl, Nat.reduceAdd, Nat.reduceMul, Nat.reduceSub, env0, binV, intV, reduceCtorEq, pickV, nilCheckV, ptrV, unV, true_and, and_true, Nat.add_zero, Nat.zero_add, Rt, resultsV, allV, resV, Bool.not_true, Bool.not_false, calleeV, builtinV, eqV, fieldAddrV, ldVar, stN_own, stN_ownL, Int.fdiv_eq_ediv_of_nonneg, Int.reduceToNat, Int.reducePow, IntKind.bits, convV, ne_eq, not_false_eq_true, not_true_eq_false, Int.reduceNeg, Int.reduceAdd, Int.reduceSub, Int.reduceLT, Int.reduceLE, extractV, decide_true, decide_false, Int.reduceEq, mkFuncV, stBPlant29, beq_self_eq_true, tyB0Plant29, getL_take, glBPlant29, c4, q4, putAt_row]
  generalize hS : s4.upd s2.next _ = s5
  have q5 : s5.heap s2.next = .row [.int .i64 (partN p.no 4 + 2), .slice wa wn wc, .int .i64 1000, .int .i64 4, .int .i64 10, .int .i64 1, .int .i64 100, .int .i64 50, .int .i64 10, .int .i64 40] := by rw [← hS]; exact Ab.heap_upd_same _ _ _
  have ch5 : Ch s4 s5 (fun k => k = s2.next) := by rw [← hS]; exact Ch.upd' (.refl _ _) fun _ => rfl
  have n5 : s5.next = s4.next := by rw [← hS]; rfl
  clear hS
  have m5 : Mild s s5 := (Ch.after (Ch.of_mild M4 (fun k => k = s2.next)) ch5 fun k _ h => h).mild fun k hk h => by omega
  have c5 : s5.heap s.next = .row (p.c v) := (ch5.heap s.next (by omega) (by omega)).trans c4
  have z5 := (ch5.heap (s.next + 1) (by omega) (by omega)).trans z4
  have l5 : Sl base s5 7 (.slice wa wn wc) (smL (fewS p.xs 6)) := l4.ch ch5 fun k hk h => by have := b4 k hk; omega
  have hb : ∀ k, inB (.slice wa wn wc) k → s2.next < k := fun k hk => by have := b4 k hk; omega
  clear l4 c4 z4 q4 ch5 b4 c3 z3 q3 c2 z2
  obtain ⟨ys, hys⟩ : ∃ ys, ys = fewS p.xs 6 := ⟨_, rfl⟩
  have hyl : ys.length ≤ 6 := by rw [hys, fewS_len]; omega
  have hxs : (plantF p).xs = mvT (partN p.no 4 + 2) ys ys.length := by
    unfold plantF mvS mvT
    simp [hys]
  rw [← hys] at l5
  obtain ⟨mm, hmm⟩ : ∃ mm, mm = partN p.no 4 + 2 := ⟨_, rfl⟩
  rw [← hmm] at q5 hxs
  have hm0 : 0 < mm := by omega
  refine W_loop_inv ys.length (fun i e t => Mild s t ∧ e 1 = .pointer (some ⟨s.next, 0, none⟩) ∧ e 2 = .pointer (some ⟨s.next + 1, 0, none⟩) ∧ e 3 = .pointer (some ⟨s2.next, 0, none⟩) ∧ e 4 = .int .i64 (i : Int) ∧ Sl base t 7 (.slice wa wn wc) (smL (mvT mm ys i)) ∧ t.heap s2.next = s5.heap s2.next ∧ t.heap s.next = s5.heap s.next ∧ t.heap (s.next + 1) = s5.heap (s.next + 1) ∧ s5.next ≤ t.next)
    (fun y e t => y = .exit 0 ∧ Mild s t ∧ e 1 = .pointer (some ⟨s.next, 0, none⟩) ∧ e 2 = .pointer (some ⟨s.next + 1, 0, none⟩) ∧ e 3 = .pointer (some ⟨s2.next, 0, none⟩) ∧ Sl base t 7 (.slice wa wn wc) (smL (mvT mm ys ys.length)) ∧ t.heap s2.next = s5.heap s2.next ∧ t.heap s.next = s5.heap s.next ∧ t.heap (s.next + 1) = s5.heap (s.next + 1) ∧ s5.next ≤ t.next) ?_ ?_ ?_
  rotate_left
  · exact ⟨m5, rfl, rfl, rfl, rfl, by simpa [mvT] using l5, rfl, rfl, rfl, Nat.le_refl _⟩
  rotate_left
  · rintro i e t hi ⟨M, h1, h2, h3, h4, l, q, c, z, nt⟩
    rw [q5] at q
    have hlen := l.len (P := Tryd.prog) (ts := []) Ty.elem22 Ty.arr22
    rw [smL_len, mvT_len] at hlen
    by_cases hil : i < ys.length
    rotate_left
    · have g : ¬ (i : Int) < (ys.length : Int) := by omega
      obtain rfl : i = ys.length := by omega
      simp (disch := first | omega | ((simp only [nxBPlant29]) <;> omega) | decide) only [↓stepPre, stepPost, ↓W_cond, ↓W_block, ↓reduceIte, Nat.reduceEqDiff, Nat.reduceLT, Nat.reduceLeDiff, ret0, stVar, isTup, Value.cells, Nat.le_refl, Nat.reduceAdd, Nat.reduceMul, Nat.reduceSub, env0, binV, intV, reduceCtorEq, pickV, nilCheckV, ptrV, unV, true_and, and_true, Nat.add_zero, Nat.zero_add, Rt, resultsV, allV, resV, Bool.not_true, Bool.not_false, calleeV, builtinV, eqV, fieldAddrV, ldVar, stN_own, stN_ownL, Int.fdiv_eq_ediv_of_nonneg, Int.reduceToNat, Int.reducePow, IntKind.bits, convV, ne_eq, not_false_eq_true, not_true_eq_false, Int.reduceNeg, Int.reduceAdd, Int.reduceSub, Int.reduceLT, Int.reduceLE, extractV, decide_true, decide_false, Int.reduceEq, mkFuncV, stBPlant29, beq_self_eq_true, tyB0Plant29, getL_take, glBPlant29, h1, h2, h3, h4, q, hlen, g]
      exact ⟨M, l, by rw [q5], c, z, nt⟩
    have g : (i : Int) < (ys.length : Int) := by omega
    obtain ⟨wb, wo, wn', wc', hw⟩ := l.conc (by intro h; have := congrArg List.length h; simp only [smL_len, mvT_len, List.length_nil] at this; omega)
    simp only [Value.slice.injEq] at hw
    obtain ⟨rfl, rfl, rfl⟩ := hw
    have hwb := hb wb rfl
    have hbd := norm_bd p.xs hys hil
    have hat : ∀ h : i < (mvT mm ys i).length, (mvT mm ys i)[i] = ys[i] := fun _ => mvT_at hil
    have hL : i < (mvT mm ys i).length := by rw [mvT_len]; exact hil
    have hset := mvT_set (m := mm) hil
    generalize ys[i] = X at hbd hat hset
    generalize mvT mm ys i = zs at l hat hL hset hlen
    have hat := hat hL
    have hsl : i < (smL zs).length := by rw [smL_len]; exact hL
    have hix := l.index (P := Tryd.prog) (k := .i64) (i := (i : Int)) Ty.elem22 Ty.siz55 (by omega) (by omega)
    rw [Int.toNat_natCast] at hix
    simp only [atP_conc] at hix
    have j1 := l.lds (k := 1) (smL_at hL) rfl
    rw [hat] at j1
    have r1 : X.nd.tmod mm = X.nd % mm := Int.tmod_eq_emod_of_nonneg (by omega)
    have hmz : ¬ mm = 0 := by omega
    obtain ⟨t1, p1, l1, ch1, n1⟩ := Sl.putF l (i := i) (k := 1) (x := .int .i64 (X.nd % mm)) (by omega) hsl (by omega)
    rw [smL_put (X := X.mv1 mm) hL (by rw [hat]; rfl)] at l1
    have q1 := (ch1.heap s2.next (by omega) (by omega)).trans q
    have hL1 : i < (zs.set i (X.mv1 mm)).length := by simpa using hL
    have hat1 : (zs.set i (X.mv1 mm))[i] = X.mv1 mm := List.getElem_set_self hL1
    have j3 := l1.lds (k := 3) (smL_at hL1) rfl
    rw [hat1] at j3
    obtain ⟨t2, p2, l2, ch2, n2'⟩ := Sl.putF l1 (i := i) (k := 3) (x := .int .i64 (X.pe * 20)) (by omega) (by rw [smL_len]; exact hL1) (by omega)
    rw [smL_put (X := X.mv2 mm) hL1 (by rw [hat1]; rfl), List.set_set] at l2
    have q2 := (ch2.heap s2.next (by omega) (by omega)).trans q1
    have hL2 : i < (zs.set i (X.mv2 mm)).length := by simpa using hL
    have hat2 : (zs.set i (X.mv2 mm))[i] = X.mv2 mm := List.getElem_set_self hL2
    have j4 := l2.lds (k := 4) (smL_at hL2) rfl
    rw [hat2] at j4
    obtain ⟨t3, p3, l3, ch3, n3'⟩ := Sl.putF l2 (i := i) (k := 4) (x := .int .i64 (X.de * 20)) (by omega) (by rw [smL_len]; exact hL2) (by omega)
    rw [smL_put (X := X.mv mm) hL2 (by rw [hat2]; rfl), List.set_set, hset] at l3
    simp only [Sm.mv1, Sm.mv2] at j3 j4
    simp (disch := first | omega | ((simp only [nxBPlant29]) <;> omega) | decide) only [↓stepPre, stepPost, ↓W_cond, ↓W_block, ↓reduceIte, Nat.reduceEqDiff, Nat.reduceLT, Nat.reduceLeDiff, ret0, stVar, isTup, Value.cells, Nat.le_refl, Nat.reduceAdd, Nat.reduceMul, Nat.reduceSub, env0, binV, intV, reduceCtorEq, pickV, nilCheckV, ptrV, unV, true_and, and_true, Nat.add_zero, Nat.zero_add, Rt, resultsV, allV, resV, Bool.not_true, Bool.not_false, calleeV, builtinV, eqV, fieldAddrV, ldVar, stN_own, stN_ownL, Int.fdiv_eq_ediv_of_nonneg, Int.reduceToNat, Int.reducePow, IntKind.bits, convV, ne_eq, not_false_eq_true, not_true_eq_false, Int.reduceNeg, Int.reduceAdd, Int.reduceSub, Int.reduceLT, Int.reduceLE, extractV, decide_true, decide_false, Int.reduceEq, mkFuncV, stBPlant29, beq_self_eq_true, tyB0Plant29, getL_take, glBPlant29, h1, h2, h3, h4, q, hlen, g]
    refine W_draw (fun k => k == 14) (fun _ => false) (fun _ => false) (by kernel_rfl) (by kernel_rfl) ?_
    simp (disch := first | omega | ((simp only [nxBPlant29]) <;> omega) | decide) only [↓stepPre, stepPost, ↓W_cond, ↓W_block, ↓reduceIte, Nat.reduceEqDiff, Nat.reduceLT, Nat.reduceLeDiff, ret0, stVar, isTup, Value.cells, Nat.le_refl, Nat.reduceAdd, Nat.reduceMul, Nat.reduceSub, env0, binV, intV, reduceCtorEq, pickV, nilCheckV, ptrV, unV, true_and, and_true, Nat.add_zero, Nat.zero_add, Rt, resultsV, allV, resV, Bool.not_true, Bool.not_false, calleeV, builtinV, eqV, fieldAddrV, ldVar, Int.fdiv_eq_ediv_of_nonneg, Int.reduceToNat, Int.reducePow, IntKind.bits, convV, ne_eq, not_false_eq_true, not_true_eq_false, Int.reduceNeg, Int.reduceAdd, Int.reduceSub, Int.reduceLT, Int.reduceLE, extractV, decide_true, decide_false, Int.reduceEq, mkFuncV, stBPlant29, beq_self_eq_true, tyB0Plant29, getL_take, glBPlant29, h1, h2, h3, h4, q, hix, j1, r1, hmz, p1]
    refine ⟨Dok_next (by decide) (Nat.le_of_eq n1.symm), ?_⟩
    refine W_draw (fun k => k == 12) (fun _ => false) (fun _ => false) (by kernel_rfl) (by kernel_rfl) ?_
    simp (disch := first | omega | ((simp only [nxBPlant29]) <;> omega) | decide) only [↓stepPre, stepPost, ↓W_cond, ↓W_block, ↓reduceIte, Nat.reduceEqDiff, Nat.reduceLT, Nat.reduceLeDiff, ret0, stVar, isTup, Value.cells, Nat.le_refl, Nat.reduceAdd, Nat.reduceMul, Nat.reduceSub, env0, binV, intV, reduceCtorEq, pickV, nilCheckV, ptrV, unV, true_and, and_true, Nat.add_zero, Nat.zero_add, Rt, resultsV, allV, resV, Bool.not_true, Bool.not_false, calleeV, builtinV, eqV, fieldAddrV, ldVar, Int.fdiv_eq_ediv_of_nonneg, Int.reduceToNat, Int.reducePow, IntKind.bits, convV, ne_eq, not_false_eq_true, not_true_eq_false, Int.reduceNeg, Int.reduceAdd, Int.reduceSub, Int.reduceLT, Int.reduceLE, extractV, decide_true, decide_false, Int.reduceEq, mkFuncV, stBPlant29, beq_self_eq_true, tyB0Plant29, getL_take, glBPlant29, h1, h2, h3, h4, q1, hix, j3, p2]
    refine ⟨Dok_next (by decide) (Nat.le_of_eq n2'.symm), ?_⟩
    refine W_draw (fun k => k == 12) (fun _ => false) (fun _ => false) (by kernel_rfl) (by kernel_rfl) ?_
    simp (disch := first | omega | ((simp only [nxBPlant29]) <;> omega) | decide) only [↓stepPre, stepPost, ↓W_cond, ↓W_block, ↓reduceIte, Nat.reduceEqDiff, Nat.reduceLT, Nat.reduceLeDiff, ret0, stVar, isTup, Value.cells, Nat.le_refl, Nat.reduceAdd, Nat.reduceMul, Nat.reduceSub, env0, binV, intV, reduceCtorEq, pickV, nilCheckV, ptrV, unV, true_and, and_true, Nat.add_zero, Nat.zero_add, Rt, resultsV, allV, resV, Bool.not_true, Bool.not_false, calleeV, builtinV, eqV, fieldAddrV, ldVar, Int.fdiv_eq_ediv_of_nonneg, Int.reduceToNat, Int.reducePow, IntKind.bits, convV, ne_eq, not_false_eq_true, not_true_eq_false, Int.reduceNeg, Int.reduceAdd, Int.reduceSub, Int.reduceLT, Int.reduceLE, extractV, decide_true, decide_false, Int.reduceEq, mkFuncV, stBPlant29, beq_self_eq_true, tyB0Plant29, getL_take, glBPlant29, h1, h2, h3, h4, q2, hix, j4, p3]
    refine ⟨Dok_next (by decide) (Nat.le_of_eq n3'.symm), ?_⟩
    have ch : Ch t t3 (fun k => k = wb) := Ch.after (Ch.after ch1 ch2 fun k _ h => h) ch3 fun k _ h => h
    refine ⟨hil, (Ch.after (Ch.of_mild M (fun k => k = wb)) ch fun k _ h => h).mild fun k hk h => by omega, by simp, l3, ?_, ?_, ?_, by omega⟩
    · rw [q5, ch.heap _ (by omega) (by omega)]; exact q
    · exact (ch.heap _ (by omega) (by omega)).trans c
    · exact (ch.heap _ (by omega) (by omega)).trans z
  rintro y e t ⟨rfl, M, h1, h2, h3, l, q, c, z, nt⟩
  rw [q5] at q
  rw [c5] at c
  rw [z5] at z
  rw [← hxs] at l
  simp (disch := first | omega | ((simp only [nxBPlant29]) <;> omega) | decide) only [↓stepPre, stepPost, ↓W_cond, ↓W_block, ↓reduceIte, Nat.reduceEqDiff, Nat.reduceLT, Nat.reduceLeDiff, ret0, stVar, isTup, Value.cells, Nat.le_refl, Nat.reduceAdd, Nat.reduceMul, Nat.reduceSub, env0, binV, intV, reduceCtorEq, pickV, nilCheckV, ptrV, unV, true_and, and_true, Nat.add_zero, Nat.zero_add, Rt, resultsV, allV, resV, Bool.not_true, Bool.not_false, calleeV, builtinV, eqV, fieldAddrV, ldVar, stN_own, stN_ownL, Int.fdiv_eq_ediv_of_nonneg, Int.reduceToNat, Int.reducePow, IntKind.bits, convV, ne_eq, not_false_eq_true, not_true_eq_false, Int.reduceNeg, Int.reduceAdd, Int.reduceSub, Int.reduceLT, Int.reduceLE, extractV, decide_true, decide_false, Int.reduceEq, mkFuncV, stBPlant29, beq_self_eq_true, tyB0Plant29, getL_take, glBPlant29, h1, h2, h3, q, c]
  refine near29_p (by omega) ?_
  simp (disch := first | omega | ((simp only [nxBPlant29]) <;> omega) | decide) only [↓stepPre, stepPost, ↓W_cond, ↓W_block, ↓reduceIte, Nat.reduceEqDiff, Nat.reduceLT, Nat.reduceLeDiff, ret0, stVar, isTup, Value.cells, Nat.le_refl, Nat.reduceAdd, Nat.reduceMul, Nat.reduceSub, env0, binV, intV, reduceCtorEq, pickV, nilCheckV, ptrV, unV, true_and, and_true, Nat.add_zero, Nat.zero_add, Rt, resultsV, allV, resV, Bool.not_true, Bool.not_false, calleeV, builtinV, eqV, fieldAddrV, ldVar, stN_own, stN_ownL, Int.fdiv_eq_ediv_of_nonneg, Int.reduceToNat, Int.reducePow, IntKind.bits, convV, ne_eq, not_false_eq_true, not_true_eq_false, Int.reduceNeg, Int.reduceAdd, Int.reduceSub, Int.reduceLT, Int.reduceLE, extractV, decide_true, decide_false, Int.reduceEq, mkFuncV, stBPlant29, beq_self_eq_true, tyB0Plant29, getL_take, glBPlant29, h1, h2, h3, q, c, putAt_row]
  refine near29_p (by omega) ?_
  simp (disch := first | omega | ((simp only [nxBPlant29]) <;> omega) | decide) only [↓stepPre, stepPost, ↓W_cond, ↓W_block, ↓reduceIte, Nat.reduceEqDiff, Nat.reduceLT, Nat.reduceLeDiff, ret0, stVar, isTup, Value.cells, Nat.le_refl, Nat.reduceAdd, Nat.reduceMul, Nat.reduceSub, env0, binV, intV, reduceCtorEq, pickV, nilCheckV, ptrV, unV, true_and, and_true, Nat.add_zero, Nat.zero_add, Rt, resultsV, allV, resV, Bool.not_true, Bool.not_false, calleeV, builtinV, eqV, fieldAddrV, ldVar, stN_own, stN_ownL, Int.fdiv_eq_ediv_of_nonneg, Int.reduceToNat, Int.reducePow, IntKind.bits, convV, ne_eq, not_false_eq_true, not_true_eq_false, Int.reduceNeg, Int.reduceAdd, Int.reduceSub, Int.reduceLT, Int.reduceLE, extractV, decide_true, decide_false, Int.reduceEq, mkFuncV, stBPlant29, beq_self_eq_true, tyB0Plant29, getL_take, glBPlant29, h1, h2, h3, q, c, putAt_row]
  refine W_draw (fun k => k == 11) (fun _ => false) (fun _ => false) (by kernel_rfl) (by kernel_rfl) ?_
  simp (disch := first | omega | ((simp only [nxBPlant29]) <;> omega) | decide) only [↓stepPre, stepPost, ↓W_cond, ↓W_block, ↓reduceIte, Nat.reduceEqDiff, Nat.reduceLT, Nat.reduceLeDiff, ret0, stVar, isTup, Value.cells, Nat.le_refl, Nat.reduceAdd, Nat.reduceMul, Nat.reduceSub, env0, binV, intV, reduceCtorEq, pickV, nilCheckV, ptrV, unV, true_and, and_true, Nat.add_zero, Nat.zero_add, Rt, resultsV, allV, resV, Bool.not_true, Bool.not_false, calleeV, builtinV, eqV, fieldAddrV, ldVar, stN_own, stN_ownL, Int.fdiv_eq_ediv_of_nonneg, Int.reduceToNat, Int.reducePow, IntKind.bits, convV, ne_eq, not_false_eq_true, not_true_eq_false, Int.reduceNeg, Int.reduceAdd, Int.reduceSub, Int.reduceLT, Int.reduceLE, extractV, decide_true, decide_false, Int.reduceEq, mkFuncV, stBPlant29, beq_self_eq_true, tyB0Plant29, getL_take, glBPlant29, h1, h2, h3, q, c, putAt_row]
  refine near29_p (by omega) ?_
  simp (disch := first | omega | ((simp only [nxBPlant29]) <;> omega) | decide) only [↓stepPre, stepPost, ↓W_cond, ↓W_block, ↓reduceIte, Nat.reduceEqDiff, Nat.reduceLT, Nat.reduceLeDiff, ret0, stVar, isTup, Value.cells, Nat.le_refl, Nat.reduceAdd, Nat.reduceMul, Nat.reduceSub, env0, binV, intV, reduceCtorEq, pickV, nilCheckV, ptrV, unV, true_and, and_true, Nat.add_zero, Nat.zero_add, Rt, resultsV, allV, resV, Bool.not_true, Bool.not_false, calleeV, builtinV, eqV, fieldAddrV, ldVar, stN_own, stN_ownL, Int.fdiv_eq_ediv_of_nonneg, Int.reduceToNat, Int.reducePow, IntKind.bits, convV, ne_eq, not_false_eq_true, not_true_eq_false, Int.reduceNeg, Int.reduceAdd, Int.reduceSub, Int.reduceLT, Int.reduceLE, extractV, decide_true, decide_false, Int.reduceEq, mkFuncV, stBPlant29, beq_self_eq_true, tyB0Plant29, getL_take, glBPlant29, Dok_same, h1, h2, h3, q, c, putAt_row]
  refine near29_p (by omega) ?_
  simp (disch := first | omega | ((simp only [nxBPlant29]) <;> omega) | decide) only [↓stepPre, stepPost, ↓W_cond, ↓W_block, ↓reduceIte, Nat.reduceEqDiff, Nat.reduceLT, Nat.reduceLeDiff, ret0, stVar, isTup, Value.cells, Nat.le_refl, Nat.reduceAdd, Nat.reduceMul, Nat.reduceSub, env0, binV, intV, reduceCtorEq, pickV, nilCheckV, ptrV, unV, true_and, and_true, Nat.add_zero, Nat.zero_add, Rt, resultsV, allV, resV, Bool.not_true, Bool.not_false, calleeV, builtinV, eqV, fieldAddrV, ldVar, stN_own, stN_ownL, Int.fdiv_eq_ediv_of_nonneg, Int.reduceToNat, Int.reducePow, IntKind.bits, convV, ne_eq, not_false_eq_true, not_true_eq_false, Int.reduceNeg, Int.reduceAdd, Int.reduceSub, Int.reduceLT, Int.reduceLE, extractV, decide_true, decide_false, Int.reduceEq, mkFuncV, stBPlant29, beq_self_eq_true, tyB0Plant29, getL_take, glBPlant29, Dok_same, h1, h2, h3, q, c, putAt_row, buildV, fillL, setL]
  refine ⟨Dok_next (by decide) (Nat.le_refl _), ?_⟩
  refine near29_p (by omega) ?_
  simp (disch := first | omega | ((simp only [nxBPlant29]) <;> omega) | decide) only [↓stepPre, stepPost, ↓W_cond, ↓W_block, ↓reduceIte, Nat.reduceEqDiff, Nat.reduceLT, Nat.reduceLeDiff, ret0, stVar, isTup, Value.cells, Nat.le_refl, Nat.reduceAdd, Nat.reduceMul, Nat.reduceSub, env0, binV, intV, reduceCtorEq, pickV, nilCheckV, ptrV, unV, true_and, and_true, Nat.add_zero, Nat.zero_add, Rt, resultsV, allV, resV, Bool.not_true, Bool.not_false, calleeV, builtinV, eqV, fieldAddrV, ldVar, stN_own, stN_ownL, Int.fdiv_eq_ediv_of_nonneg, Int.reduceToNat, Int.reducePow, IntKind.bits, convV, ne_eq, not_false_eq_true, not_true_eq_false, Int.reduceNeg, Int.reduceAdd, Int.reduceSub, Int.reduceLT, Int.reduceLE, extractV, decide_true, decide_false, Int.reduceEq, mkFuncV, stBPlant29, beq_self_eq_true, tyB0Plant29, getL_take, glBPlant29, h1, h2, h3, q, c, putAt_row]
  refine near29_p (by omega) ?_
  simp (disch := first | omega | ((simp only [nxBPlant29]) <;> omega) | decide) only [↓stepPre, stepPost, ↓W_cond, ↓W_block, ↓reduceIte, Nat.reduceEqDiff, Nat.reduceLT, Nat.reduceLeDiff, ret0, stVar, isTup, Value.cells, Nat.le_refl, Nat.reduceAdd, Nat.reduceMul, Nat.reduceSub, env0, binV, intV, reduceCtorEq, pickV, nilCheckV, ptrV, unV, true_and, and_true, Nat.add_zero, Nat.zero_add, Rt, resultsV, allV, resV, Bool.not_true, Bool.not_false, calleeV, builtinV, eqV, fieldAddrV, ldVar, stN_own, stN_ownL, Int.fdiv_eq_ediv_of_nonneg, Int.reduceToNat, Int.reducePow, IntKind.bits, convV, ne_eq, not_false_eq_true, not_true_eq_false, Int.reduceNeg, Int.reduceAdd, Int.reduceSub, Int.reduceLT, Int.reduceLE, extractV, decide_true, decide_false, Int.reduceEq, mkFuncV, stBPlant29, beq_self_eq_true, tyB0Plant29, getL_take, glBPlant29, h1, h2, h3, q, c, putAt_row]
  refine near29_p (by omega) ?_
  simp (disch := first | omega | ((simp only [nxBPlant29]) <;> omega) | decide) only [↓stepPre, stepPost, ↓W_cond, ↓W_block, ↓reduceIte, Nat.reduceEqDiff, Nat.reduceLT, Nat.reduceLeDiff, ret0, stVar, isTup, Value.cells, Nat.le_refl, Nat.reduceAdd, Nat.reduceMul, Nat.reduceSub, env0, binV, intV, reduceCtorEq, pickV, nilCheckV, ptrV, unV, true_and, and_true, Nat.add_zero, Nat.zero_add, Rt, resultsV, allV, resV, Bool.not_true, Bool.not_false, calleeV, builtinV, eqV, fieldAddrV, ldVar, stN_own, stN_ownL, Int.fdiv_eq_ediv_of_nonneg, Int.reduceToNat, Int.reducePow, IntKind.bits, convV, ne_eq, not_false_eq_true, not_true_eq_false, Int.reduceNeg, Int.reduceAdd, Int.reduceSub, Int.reduceLT, Int.reduceLE, extractV, decide_true, decide_false, Int.reduceEq, mkFuncV, stBPlant29, beq_self_eq_true, tyB0Plant29, getL_take, glBPlant29, h1, h2, h3, q, c, putAt_row]
  refine near29_p (by omega) ?_
  simp (disch := first | omega | ((simp only [nxBPlant29]) <;> omega) | decide) only [↓stepPre, stepPost, ↓W_cond, ↓W_block, ↓reduceIte, Nat.reduceEqDiff, Nat.reduceLT, Nat.reduceLeDiff, ret0, stVar, isTup, Value.cells, Nat.le_refl, Nat.reduceAdd, Nat.reduceMul, Nat.reduceSub, env0, binV, intV, reduceCtorEq, pickV, nilCheckV, ptrV, unV, true_and, and_true, Nat.add_zero, Nat.zero_add, Rt, resultsV, allV, resV, Bool.not_true, Bool.not_false, calleeV, builtinV, eqV, fieldAddrV, ldVar, stN_own, stN_ownL, Int.fdiv_eq_ediv_of_nonneg, Int.reduceToNat, Int.reducePow, IntKind.bits, convV, ne_eq, not_false_eq_true, not_true_eq_false, Int.reduceNeg, Int.reduceAdd, Int.reduceSub, Int.reduceLT, Int.reduceLE, extractV, decide_true, decide_false, Int.reduceEq, mkFuncV, stBPlant29, beq_self_eq_true, tyB0Plant29, getL_take, glBPlant29, h1, h2, h3, q, c, z, putAt_row, Tryd.results10]
  generalize hS : (t.upd s2.next _).upd (s.next + 1) _ = t9
  have ch9 : Ch t t9 (fun k => k = s2.next ∨ k = s.next + 1) := by
    rw [← hS]
    exact Ch.upd' (Ch.upd' (.refl _ _) fun _ => .inl rfl) fun _ => .inr rfl
  have m9 : Mild s t9 := (Ch.after (Ch.of_mild M (fun k => k = s2.next ∨ k = s.next + 1)) ch9 fun k _ h => h).mild fun k hk h => by omega
  have key := hR t9 _ m9 (l.ch ch9 fun k hk h => by have := hb k hk; omega) (fun k hk => by have := hb k hk; omega)
  subst hmm
  exact key
end Go.Proofs.YthjpfllmecpliaaDoor
