/- What is wrong with several streams, as contracts. -/
import Derived.Test.YthjpfllmecpliaaGreatDoorMg4
import Derived.Test.YthjpfllmecpliaaGreatDoorMg3
import Derived.Test.YthjpfllmecpliaaGreatDoorMg6
set_option linter.all false
set_option maxRecDepth 20000
namespace Go.Proofs.YthjpfllmecpliaaGreatDoor
open Go Go.Ab
def spBStreamCheck := And.intro @Nat.le_refl (And.intro @true_and (And.intro @and_true (And.intro @Nat.add_zero (And.intro @Nat.zero_add (And.intro @Bool.not_true (And.intro @Bool.not_false (And.intro @ne_eq.{1} (And.intro @not_false_eq_true (And.intro @not_true_eq_false (And.intro @decide_true (And.intro @decide_false (@Int.fdiv_eq_ediv_of_nonneg))))))))))))
def nxBStreamCheck := And.intro @Ab.next_alloc (And.intro @Ab.next_upd (And.intro @List.length_cons.{0} (And.intro @List.length_nil.{0} (And.intro @ne_eq.{1} (And.intro not_true_eq_false not_false_eq_true)))))
def tyB0StreamCheck := And.intro @Ty.t108 (And.intro @Tryz.underlying108 (And.intro @Ty.t58 (And.intro @Tryz.underlying58 (And.intro @Ty.t22 (And.intro @Tryz.underlying22 (And.intro @Ty.t56 (And.intro @Tryz.underlying56 (And.intro @Ty.t3 (And.intro @Tryz.underlying3 (And.intro @Ty.t2 (And.intro @Tryz.underlying2 (And.intro @Ty.t4 (And.intro @Tryz.underlying4 (And.intro @Ty.t35 @Tryz.underlying35))))))))))))))
def stBStreamCheck := And.intro @List.size_toArray.{0} (And.intro @List.length_cons.{0} (And.intro @List.length_nil.{0} (And.intro @List.set_cons_zero.{0} (And.intro @List.set_cons_succ.{0} (And.intro @List.getD_cons_zero.{0} (And.intro @List.getD_cons_succ.{0} (And.intro @List.getElem?_cons_succ.{0} (And.intro @List.getElem?_cons_zero.{0} (And.intro @List.map_cons.{0,0} (And.intro @List.map_nil.{0,0} (And.intro @Option.isNone_none.{0} (And.intro @Option.isNone_some.{0} (And.intro @Option.map_some.{0,0} (And.intro @Option.map_none.{0,0} (And.intro @List.cons_append.{0} (And.intro @List.nil_append.{0} (And.intro @List.append_nil.{0} (And.intro @Array.toList_append.{0} (And.intro @List.toList_toArray.{0} (And.intro @Int.cast_ofNat_Int (And.intro @Option.isSome_some.{0} (And.intro @List.getElem?_toArray.{0} (And.intro @List.map_toArray.{0,0} (@Nat.min_eq_left))))))))))))))))))))))))
def glBStreamCheck := And.intro @List.drop_zero.{0} (And.intro @List.drop_succ_cons.{0} (And.intro @List.take_succ_cons.{0} (And.intro @List.take_zero.{0} (@List.take_nil.{0}))))
variable {base : Nat} [Bok base] {s : St} {R : Value → St → Prop}
theorem all_range {pl pr : Nat} {v : Value} {g : FuncId} {ca : Array Value} {xs : List Sm} {e : Env} {f : Operand} {ps : Array Tmp} {asg body : Code} {Q : Exit → Env → St → Prop} (he : ev e f = .func (.func 83) #[] #[.pointer (some ⟨pl, 0, none⟩), .pointer (some ⟨pr, 0, none⟩)])
    (hps : ps.size = 2) (hbn : base ≤ s.next) (hpl : base ≤ pl) (hpr : base ≤ pr) (hn : xs.length < 2 ^ 62) (rl : Nat → Int) (I : Nat → St → Prop)
    (facts : ∀ i t, I i t → t.heap pl = .row [v] ∧ t.heap pr = .row [.func (.func g) #[] ca] ∧ Sl base t 7 v (smL xs) ∧ s.next < t.next)
    (quiet : ∀ i t t', I i t → Mild t t' → I i t')
    (rule : ∀ i t (R' : Value → St → Prop), i < xs.length → I i t → (∀ t', Mild t t' → R' (.int .i64 (rl i)) t') → WC Tryz.prog base g (.int .i64 (i : Int) :: .agg (atS xs i).c.toArray :: ca.toList) t R')
    (h0 : I 0 (s.alloc (.loop ⟨e, ps, asg, body, .ready, none⟩)))
    (step : ∀ i t, i < xs.length → I i t → t.heap s.next = .loop ⟨e, ps, asg, body, .ready, none⟩ → W Tryz.prog base asg (putAll e (ps.toList.zip [.int .i64 (i : Int), .int .i64 (rl i)])) t (fun x e1 t1 => x = .normal ∧ t1.heap s.next = .loop ⟨e, ps, asg, body, .ready, none⟩ ∧
      W Tryz.prog base body e1 (t1.upd s.next (.loop ⟨e, ps, asg, body, .busy, none⟩)) (fun x e2 t2 => t2.heap s.next = .loop ⟨e, ps, asg, body, .busy, none⟩ ∧ ((x = .normal ∧ I (i + 1) (t2.upd s.next (.loop ⟨e, ps, asg, body, .ready, none⟩))) ∨ (x = .ret ∧ Q .ret e ((t2.upd s.next (recOf e ps asg body (some .ret))).upd s.next .gone))))))
    (post : ∀ t, I xs.length t → Q .normal e (t.upd s.next .gone)) : W Tryz.prog base (.rangeFunc f ps asg body) e s Q := by
  refine W_rangeFuncG he ?_
  obtain ⟨f1, f2, f3, f4⟩ := facts 0 _ h0
  refine WC_open Tryz.func83 rfl ?_
  have hlen := f3.len (P := Tryz.prog) (ts := []) Ty.elem22 Ty.arr22
  rw [smL_len] at hlen
  simp (disch := first | omega | ((simp only [nxBStreamCheck]) <;> omega) | decide) only [↓stepPre, stepPost, ↓W_cond, ↓W_block, ↓reduceIte, Nat.reduceEqDiff, Nat.reduceLT, Nat.reduceLeDiff, ret0, stVar, isTup, Value.cells, Nat.reduceAdd, Nat.reduceMul, Nat.reduceSub, env0, binV, intV, reduceCtorEq, pickV, nilCheckV, ptrV, unV, Rt, resultsV, allV, resV, calleeV, builtinV, eqV, fieldAddrV, ldVar, stN_own, stN_ownL, Int.reduceToNat, Int.reducePow, IntKind.bits, convV, Int.reduceNeg, Int.reduceAdd, Int.reduceSub, Int.reduceLT, Int.reduceLE, extractV, Int.reduceEq, mkFuncV, stBStreamCheck, spBStreamCheck, beq_self_eq_true, tyB0StreamCheck, f1, hlen]
  refine W_loop_ind xs.length (fun i e' t => (I i t ∧ t.heap s.next = .loop ⟨e, ps, asg, body, .ready, none⟩) ∧ e' 0 = .func (.yield s.next) #[] #[] ∧ e' 2 = .pointer (some ⟨pr, 0, none⟩) ∧ e' 6 = v ∧ e' 7 = .int .i64 (xs.length : Int) ∧ e' 8 = .int .i64 (i : Int)) ?_ ⟨⟨h0, Ab.heap_alloc_new _ _⟩, rfl, rfl, rfl, rfl, rfl⟩
  rintro i e' t hi ⟨⟨hI, g3⟩, q0, q2, q6, q7, q8⟩
  obtain ⟨g1, g2, gs, gn⟩ := facts i t hI
  by_cases hil : i < xs.length
  rotate_left
  · have c1 : ¬ (i : Int) < (xs.length : Int) := by omega
    obtain rfl : i = xs.length := by omega
    simp (disch := first | omega | ((simp only [nxBStreamCheck]) <;> omega) | decide) only [↓stepPre, stepPost, ↓W_cond, ↓W_block, ↓reduceIte, Nat.reduceEqDiff, Nat.reduceLT, Nat.reduceLeDiff, ret0, stVar, isTup, Value.cells, Nat.reduceAdd, Nat.reduceMul, Nat.reduceSub, env0, binV, intV, reduceCtorEq, pickV, nilCheckV, ptrV, unV, Rt, resultsV, allV, resV, calleeV, builtinV, eqV, fieldAddrV, ldVar, stN_own, stN_ownL, Int.reduceToNat, Int.reducePow, IntKind.bits, convV, Int.reduceNeg, Int.reduceAdd, Int.reduceSub, Int.reduceLT, Int.reduceLE, extractV, Int.reduceEq, mkFuncV, stBStreamCheck, spBStreamCheck, beq_self_eq_true, tyB0StreamCheck, q7, q8, c1, Tryz.results83]
    exact ⟨_, .normal, g3, by simp, rfl, post t hI⟩
  have c1 : (i : Int) < (xs.length : Int) := by omega
  have hix := gs.index (P := Tryz.prog) (k := .i64) (i := (i : Int)) Ty.elem22 Ty.siz58 (by omega) (by rw [smL_len]; omega)
  rw [Int.toNat_natCast] at hix
  have hld := gs.loadA (smL_at hil) Ty.agg58 Ty.siz58
  have hI1 := quiet i t _ hI (Mild.alloc t (.row xs[i].c))
  have hr1 : (t.alloc (.row xs[i].c)).heap pr = .row [.func (.func g) #[] ca] := (facts i _ hI1).2.1
  have hg1 : (t.alloc (.row xs[i].c)).heap s.next = .loop ⟨e, ps, asg, body, .ready, none⟩ := (Ab.heap_alloc_ne _ _ (by omega)).trans g3
  have hn1 : (t.alloc (.row xs[i].c)).next = t.next + 1 := rfl
  have hrow := Ab.heap_alloc_new t (.row xs[i].c)
  simp (disch := first | omega | ((simp only [nxBStreamCheck]) <;> omega) | decide) only [↓stepPre, stepPost, ↓W_cond, ↓W_block, ↓reduceIte, Nat.reduceEqDiff, Nat.reduceLT, Nat.reduceLeDiff, ret0, stVar, isTup, Value.cells, Nat.reduceAdd, Nat.reduceMul, Nat.reduceSub, env0, binV, intV, reduceCtorEq, pickV, nilCheckV, ptrV, unV, Rt, resultsV, allV, resV, calleeV, builtinV, eqV, fieldAddrV, ldVar, stN_own, stN_ownL, Int.reduceToNat, Int.reducePow, IntKind.bits, convV, Int.reduceNeg, Int.reduceAdd, Int.reduceSub, Int.reduceLT, Int.reduceLE, extractV, Int.reduceEq, mkFuncV, stBStreamCheck, spBStreamCheck, beq_self_eq_true, tyB0StreamCheck, getL_take, glBStreamCheck, q0, q2, q6, q7, q8, c1, hix, hld, hr1]
  have hrule := fun (R' : Value → St → Prop) (h : ∀ t', Mild (t.alloc (.row xs[i].c)) t' → R' (.int .i64 (rl i)) t') => rule i (t.alloc (.row xs[i].c)) R' hil hI1 h
  simp only [atS_eq hil] at hrule
  refine hrule _ fun t2 m2 => ?_
  have hI2 := quiet i _ t2 hI1 m2
  have hg2 := (m2.heap s.next (by omega)).trans hg1
  simp (disch := first | omega | ((simp only [nxBStreamCheck]) <;> omega) | decide) only [↓stepPre, stepPost, ↓W_cond, ↓W_block, ↓reduceIte, Nat.reduceEqDiff, Nat.reduceLT, Nat.reduceLeDiff, ret0, stVar, isTup, Value.cells, Nat.reduceAdd, Nat.reduceMul, Nat.reduceSub, env0, binV, intV, reduceCtorEq, pickV, nilCheckV, ptrV, unV, Rt, resultsV, allV, resV, calleeV, builtinV, eqV, fieldAddrV, ldVar, stN_own, stN_ownL, Int.reduceToNat, Int.reducePow, IntKind.bits, convV, Int.reduceNeg, Int.reduceAdd, Int.reduceSub, Int.reduceLT, Int.reduceLE, extractV, Int.reduceEq, mkFuncV, stBStreamCheck, spBStreamCheck, beq_self_eq_true, tyB0StreamCheck, getL_take, glBStreamCheck, q0, q2, q6, q7, q8]
  refine WF_yieldG hg2 hps hbn (W_mono (step i t2 hil hI2 hg2) fun x e1 t3 ⟨r1, r2, r3⟩ => ⟨r1, r2, W_mono r3 fun x e2 t4 ⟨r4, r5⟩ => ⟨r4, ?_⟩⟩)
  rcases r5 with ⟨rfl, r5⟩ | ⟨rfl, r5⟩
  · refine ⟨none, rfl, ?_⟩
    simp (disch := first | omega | ((simp only [nxBStreamCheck]) <;> omega) | decide) only [↓stepPre, stepPost, ↓W_cond, ↓W_block, ↓reduceIte, Nat.reduceEqDiff, Nat.reduceLT, Nat.reduceLeDiff, ret0, stVar, isTup, Value.cells, Nat.reduceAdd, Nat.reduceMul, Nat.reduceSub, env0, binV, intV, reduceCtorEq, pickV, nilCheckV, ptrV, unV, Rt, resultsV, allV, resV, calleeV, builtinV, eqV, fieldAddrV, ldVar, stN_own, stN_ownL, Int.reduceToNat, Int.reducePow, IntKind.bits, convV, Int.reduceNeg, Int.reduceAdd, Int.reduceSub, Int.reduceLT, Int.reduceLE, extractV, Int.reduceEq, mkFuncV, stBStreamCheck, spBStreamCheck, beq_self_eq_true, tyB0StreamCheck, getL_take, glBStreamCheck, q0, q2, q6, q7, q8]
    exact ⟨hil, ⟨r5, rfl⟩, by simp⟩
  · refine ⟨some .ret, rfl, ?_⟩
    simp (disch := first | omega | ((simp only [nxBStreamCheck]) <;> omega) | decide) only [↓stepPre, stepPost, ↓W_cond, ↓W_block, ↓reduceIte, Nat.reduceEqDiff, Nat.reduceLT, Nat.reduceLeDiff, ret0, stVar, isTup, Value.cells, Nat.reduceAdd, Nat.reduceMul, Nat.reduceSub, env0, binV, intV, reduceCtorEq, pickV, nilCheckV, ptrV, unV, Rt, resultsV, allV, resV, calleeV, builtinV, eqV, fieldAddrV, ldVar, stN_own, stN_ownL, Int.reduceToNat, Int.reducePow, IntKind.bits, convV, Int.reduceNeg, Int.reduceAdd, Int.reduceSub, Int.reduceLT, Int.reduceLE, extractV, Int.reduceEq, mkFuncV, stBStreamCheck, spBStreamCheck, beq_self_eq_true, tyB0StreamCheck, getL_take, glBStreamCheck, q0, q2, q6, q7, q8, Tryz.results83]
    exact ⟨⟨e, ps, asg, body, .done, some .ret⟩, .ret, rfl, by simp, rfl, by simpa only [upd_upd] using r5⟩
def fst0 (f : Nat → Int) (n : Nat) : Int × Int := match fwd f 0 n with | some i => ((i : Int), f i) | none => (0, 0)
theorem first_ok {pl pr : Nat} {v : Value} {g : FuncId} {ca : Array Value} {xs : List Sm} (hl : s.heap pl = .row [v]) (hr : s.heap pr = .row [.func (.func g) #[] ca]) (hbl : base ≤ pl ∧ pl < s.next) (hbr : base ≤ pr ∧ pr < s.next) (hs : Sl base s 7 v (smL xs)) (hn : xs.length ≤ 100) (rl : Nat → Int)
    (rule : ∀ i t (R' : Value → St → Prop), i < xs.length → Mild s t → (∀ t', Mild t t' → R' (.int .i64 (rl i)) t') → WC Tryz.prog base g (.int .i64 (i : Int) :: .agg (atS xs i).c.toArray :: ca.toList) t R')
    (hR : ∀ s', Mild s s' → R (.tuple #[.int .i64 (fst0 rl xs.length).1, .int .i64 (fst0 rl xs.length).2]) s') :
    WC Tryz.prog base 63 [.func (.func 83) #[] #[.pointer (some ⟨pl, 0, none⟩), .pointer (some ⟨pr, 0, none⟩)]] s R := by
  refine WC_open Tryz.func63 rfl ?_
  simp (disch := first | omega | ((simp only [nxBStreamCheck]) <;> omega) | decide) only [↓stepPre, stepPost, ↓W_cond, ↓W_block, ↓reduceIte, Nat.reduceEqDiff, Nat.reduceLT, Nat.reduceLeDiff, ret0, stVar, isTup, Value.cells, Nat.reduceAdd, Nat.reduceMul, Nat.reduceSub, env0, binV, intV, reduceCtorEq, pickV, nilCheckV, ptrV, unV, Rt, resultsV, allV, resV, calleeV, builtinV, eqV, fieldAddrV, ldVar, stN_own, stN_ownL, Int.reduceToNat, Int.reducePow, IntKind.bits, convV, Int.reduceNeg, Int.reduceAdd, Int.reduceSub, Int.reduceLT, Int.reduceLE, extractV, Int.reduceEq, mkFuncV, stBStreamCheck, spBStreamCheck, beq_self_eq_true, tyB0StreamCheck]
  refine all_range (pl := pl) (pr := pr) (v := v) (g := g) (ca := ca) (xs := xs) rfl rfl (by simp only [Ab.next_alloc]; omega) hbl.1 hbr.1 (by omega) rl
    (fun i t => Mild s t ∧ s.next + 2 < t.next ∧ t.heap s.next = .row [.int .i64 0] ∧ t.heap (s.next + 1) = .row [.int .i64 0] ∧ fwd rl 0 xs.length = fwd rl i (xs.length - i)) (fun i t h => ⟨(h.1.heap _ hbl.2).trans hl, (h.1.heap _ hbr.2).trans hr, hs.mild h.1, h.2.1⟩) (fun i t t' h m => ⟨h.1.trans m, by have := m.next; omega, (m.heap _ (by omega)).trans h.2.2.1, (m.heap _ (by omega)).trans h.2.2.2.1, h.2.2.2.2⟩) (fun i t R' hi hI h => rule i t R' hi hI.1 h) ?_ ?_ ?_
  · refine ⟨(Mild.alloc _ _).alloc'.alloc', by simp only [Ab.next_alloc]; omega, ?_, ?_, rfl⟩
    · simp (disch := first | omega | ((simp only [nxBStreamCheck]) <;> omega) | decide) only [↓stepPre, stepPost, ↓W_cond, ↓W_block, ↓reduceIte, Nat.reduceEqDiff, Nat.reduceLT, Nat.reduceLeDiff, ret0, stVar, isTup, Value.cells, Nat.reduceAdd, Nat.reduceMul, Nat.reduceSub, env0, binV, intV, reduceCtorEq, pickV, nilCheckV, ptrV, unV, Rt, resultsV, allV, resV, calleeV, builtinV, eqV, fieldAddrV, ldVar, stN_own, stN_ownL, Int.reduceToNat, Int.reducePow, IntKind.bits, convV, Int.reduceNeg, Int.reduceAdd, Int.reduceSub, Int.reduceLT, Int.reduceLE, extractV, Int.reduceEq, mkFuncV, stBStreamCheck, spBStreamCheck, beq_self_eq_true]
    · simp (disch := first | omega | ((simp only [nxBStreamCheck]) <;> omega) | decide) only [↓stepPre, stepPost, ↓W_cond, ↓W_block, ↓reduceIte, Nat.reduceEqDiff, Nat.reduceLT, Nat.reduceLeDiff, ret0, stVar, isTup, Value.cells, Nat.reduceAdd, Nat.reduceMul, Nat.reduceSub, env0, binV, intV, reduceCtorEq, pickV, nilCheckV, ptrV, unV, Rt, resultsV, allV, resV, calleeV, builtinV, eqV, fieldAddrV, ldVar, stN_own, stN_ownL, Int.reduceToNat, Int.reducePow, IntKind.bits, convV, Int.reduceNeg, Int.reduceAdd, Int.reduceSub, Int.reduceLT, Int.reduceLE, extractV, Int.reduceEq, mkFuncV, stBStreamCheck, spBStreamCheck, beq_self_eq_true]
  · rintro i t hi ⟨m1, m2, m3, m4, m5⟩ hlp
    simp only [Ab.next_alloc] at hlp ⊢
    by_cases h0 : rl i = 0
    · simp (disch := first | omega | ((simp only [nxBStreamCheck]) <;> omega) | decide) only [↓stepPre, stepPost, ↓W_cond, ↓W_block, ↓reduceIte, Nat.reduceEqDiff, Nat.reduceLT, Nat.reduceLeDiff, ret0, stVar, isTup, Value.cells, Nat.reduceAdd, Nat.reduceMul, Nat.reduceSub, env0, binV, intV, reduceCtorEq, pickV, nilCheckV, ptrV, unV, Rt, resultsV, allV, resV, calleeV, builtinV, eqV, fieldAddrV, ldVar, stN_own, stN_ownL, Int.reduceToNat, Int.reducePow, IntKind.bits, convV, Int.reduceNeg, Int.reduceAdd, Int.reduceSub, Int.reduceLT, Int.reduceLE, extractV, Int.reduceEq, mkFuncV, stBStreamCheck, spBStreamCheck, beq_self_eq_true, tyB0StreamCheck, putAll, List.zip_cons_cons, List.zip_nil_left, hlp, h0, Tryz.results63]
      exact .inl ⟨m1.upd' (by omega), m2, m3, m4, by rw [m5, fwd_skip hi h0]⟩
    · have hv : fst0 rl xs.length = ((i : Int), rl i) := by unfold fst0; rw [m5, fwd_hit hi h0]
      rw [hv] at hR
      simp (disch := first | omega | ((simp only [nxBStreamCheck]) <;> omega) | decide) only [↓stepPre, stepPost, ↓W_cond, ↓W_block, ↓reduceIte, Nat.reduceEqDiff, Nat.reduceLT, Nat.reduceLeDiff, ret0, stVar, isTup, Value.cells, Nat.reduceAdd, Nat.reduceMul, Nat.reduceSub, env0, binV, intV, reduceCtorEq, pickV, nilCheckV, ptrV, unV, Rt, resultsV, allV, resV, calleeV, builtinV, eqV, fieldAddrV, ldVar, stN_own, stN_ownL, Int.reduceToNat, Int.reducePow, IntKind.bits, convV, Int.reduceNeg, Int.reduceAdd, Int.reduceSub, Int.reduceLT, Int.reduceLE, extractV, Int.reduceEq, mkFuncV, stBStreamCheck, spBStreamCheck, beq_self_eq_true, tyB0StreamCheck, putAll, List.zip_cons_cons, List.zip_nil_left, hlp, h0, m3, m4, Tryz.results63]
      exact .inr (hR _ (by repeat first | exact m1 | refine Mild.upd' ?_ (by omega)))
  · rintro t ⟨m1, m2, m3, m4, m5⟩
    have hv : fst0 rl xs.length = (0, 0) := by unfold fst0; rw [m5, Nat.sub_self]; rfl
    rw [hv] at hR
    simp (disch := first | omega | ((simp only [nxBStreamCheck]) <;> omega) | decide) only [↓stepPre, stepPost, ↓W_cond, ↓W_block, ↓reduceIte, Nat.reduceEqDiff, Nat.reduceLT, Nat.reduceLeDiff, ret0, stVar, isTup, Value.cells, Nat.reduceAdd, Nat.reduceMul, Nat.reduceSub, env0, binV, intV, reduceCtorEq, pickV, nilCheckV, ptrV, unV, Rt, resultsV, allV, resV, calleeV, builtinV, eqV, fieldAddrV, ldVar, stN_own, stN_ownL, Int.reduceToNat, Int.reducePow, IntKind.bits, convV, Int.reduceNeg, Int.reduceAdd, Int.reduceSub, Int.reduceLT, Int.reduceLE, extractV, Int.reduceEq, mkFuncV, stBStreamCheck, spBStreamCheck, beq_self_eq_true, tyB0StreamCheck, m3, m4, Tryz.results63]
    exact hR _ (by repeat first | exact m1 | refine Mild.upd' ?_ (by first | omega | (simp only [Ab.next_alloc]; omega)))
theorem all_p {v rv : Value} {xs : List Sm} (hs : Sl base s 7 v (smL xs)) {g : FuncId} {ca : Array Value} (hrv : rv = .func (.func g) #[] ca) (hR : R (.func (.func 83) #[] #[.pointer (some ⟨s.next, 0, none⟩), .pointer (some ⟨s.next + 1, 0, none⟩)]) ((s.alloc (.row [v])).alloc (.row [rv]))) :
    WC Tryz.prog base 64 [v, rv] s R := by
  subst hrv
  refine WC_open Tryz.func64 rfl ?_
  obtain ⟨a, n, c, rfl⟩ := hs.shape
  simp (disch := first | omega | ((simp only [nxBStreamCheck]) <;> omega) | decide) only [↓stepPre, stepPost, ↓W_cond, ↓W_block, ↓reduceIte, Nat.reduceEqDiff, Nat.reduceLT, Nat.reduceLeDiff, ret0, stVar, isTup, Value.cells, Nat.reduceAdd, Nat.reduceMul, Nat.reduceSub, env0, binV, intV, reduceCtorEq, pickV, nilCheckV, ptrV, unV, Rt, resultsV, allV, resV, calleeV, builtinV, eqV, fieldAddrV, ldVar, stN_own, stN_ownL, Int.reduceToNat, Int.reducePow, IntKind.bits, convV, Int.reduceNeg, Int.reduceAdd, Int.reduceSub, Int.reduceLT, Int.reduceLE, extractV, Int.reduceEq, mkFuncV, stBStreamCheck, spBStreamCheck, beq_self_eq_true, tyB0StreamCheck, Tryz.results64]
  exact hR
theorem wrong_p {b : Bool} {e : Int} (hR : R (.int .i64 (if b then e else 0)) s) : WC Tryz.prog base 60 [.bool b, .int .i64 e] s R := by
  refine WC_open Tryz.func60 rfl ?_
  cases b
  · simp (disch := first | omega | ((simp only [nxBStreamCheck]) <;> omega) | decide) only [↓stepPre, stepPost, ↓W_cond, ↓W_block, ↓reduceIte, Nat.reduceEqDiff, Nat.reduceLT, Nat.reduceLeDiff, ret0, stVar, isTup, Value.cells, Nat.reduceAdd, Nat.reduceMul, Nat.reduceSub, env0, binV, intV, reduceCtorEq, pickV, nilCheckV, ptrV, unV, Rt, resultsV, allV, resV, calleeV, builtinV, eqV, fieldAddrV, ldVar, stN_own, stN_ownL, Int.reduceToNat, Int.reducePow, IntKind.bits, convV, Int.reduceNeg, Int.reduceAdd, Int.reduceSub, Int.reduceLT, Int.reduceLE, extractV, Int.reduceEq, mkFuncV, stBStreamCheck, spBStreamCheck, beq_self_eq_true, tyB0StreamCheck, Tryz.results60]
    exact hR
  · simp (disch := first | omega | ((simp only [nxBStreamCheck]) <;> omega) | decide) only [↓stepPre, stepPost, ↓W_cond, ↓W_block, ↓reduceIte, Nat.reduceEqDiff, Nat.reduceLT, Nat.reduceLeDiff, ret0, stVar, isTup, Value.cells, Nat.reduceAdd, Nat.reduceMul, Nat.reduceSub, env0, binV, intV, reduceCtorEq, pickV, nilCheckV, ptrV, unV, Rt, resultsV, allV, resV, calleeV, builtinV, eqV, fieldAddrV, ldVar, stN_own, stN_ownL, Int.reduceToNat, Int.reducePow, IntKind.bits, convV, Int.reduceNeg, Int.reduceAdd, Int.reduceSub, Int.reduceLT, Int.reduceLE, extractV, Int.reduceEq, mkFuncV, stBStreamCheck, spBStreamCheck, beq_self_eq_true, tyB0StreamCheck, Tryz.results60]
    exact hR
def rl1 (xs : List Sm) (i : Nat) : Int := (atS xs i).right
def rl2 (xs : List Sm) (i : Nat) : Int := if findS xs (atS xs i).id = i then 0 else 13
def rl3 (xs : List Sm) (l : Int) (i : Nat) : Int := if (atS xs i).cl = 1 ∧ (atS xs i).de < l then 9 else 0
theorem rule1_ok {x : Sm} {i : Int} (hbn : base ≤ s.next) (hR : ∀ s', Mild s s' → R (.int .i64 x.right) s') : WC Tryz.prog base 57 [.int .i64 i, .agg x.c.toArray] s R := by
  refine WC_open Tryz.func57 rfl ?_
  simp (disch := first | omega | ((simp only [nxBStreamCheck]) <;> omega) | decide) only [↓stepPre, stepPost, ↓W_cond, ↓W_block, ↓reduceIte, Nat.reduceEqDiff, Nat.reduceLT, Nat.reduceLeDiff, ret0, stVar, isTup, Value.cells, Nat.reduceAdd, Nat.reduceMul, Nat.reduceSub, env0, binV, intV, reduceCtorEq, pickV, nilCheckV, ptrV, unV, Rt, resultsV, allV, resV, calleeV, builtinV, eqV, fieldAddrV, ldVar, stN_own, stN_ownL, Int.reduceToNat, Int.reducePow, IntKind.bits, convV, Int.reduceNeg, Int.reduceAdd, Int.reduceSub, Int.reduceLT, Int.reduceLE, extractV, Int.reduceEq, mkFuncV, stBStreamCheck, spBStreamCheck, beq_self_eq_true, tyB0StreamCheck, getL_take, glBStreamCheck]
  refine sright_p (base := base) ?_
  simp (disch := first | omega | ((simp only [nxBStreamCheck]) <;> omega) | decide) only [↓stepPre, stepPost, ↓W_cond, ↓W_block, ↓reduceIte, Nat.reduceEqDiff, Nat.reduceLT, Nat.reduceLeDiff, ret0, stVar, isTup, Value.cells, Nat.reduceAdd, Nat.reduceMul, Nat.reduceSub, env0, binV, intV, reduceCtorEq, pickV, nilCheckV, ptrV, unV, Rt, resultsV, allV, resV, calleeV, builtinV, eqV, fieldAddrV, ldVar, stN_own, stN_ownL, Int.reduceToNat, Int.reducePow, IntKind.bits, convV, Int.reduceNeg, Int.reduceAdd, Int.reduceSub, Int.reduceLT, Int.reduceLE, extractV, Int.reduceEq, mkFuncV, stBStreamCheck, spBStreamCheck, beq_self_eq_true, tyB0StreamCheck, getL_take, glBStreamCheck, Tryz.results57]
  exact hR _ (.alloc _ _)
theorem rule2_ok {p : Nat} {v : Value} {xs : List Sm} {i : Nat} (hp : s.heap p = .row [v]) (hb : base ≤ p ∧ p < s.next) (hs : Sl base s 7 v (smL xs)) (hn : xs.length ≤ 100) (hR : ∀ s', Mild s s' → R (.int .i64 (rl2 xs i)) s') :
    WC Tryz.prog base 59 [.int .i64 (i : Int), .agg (atS xs i).c.toArray, .pointer (some ⟨p, 0, none⟩)] s R := by
  refine WC_open Tryz.func59 rfl ?_
  obtain ⟨a, n, c, rfl⟩ := hs.shape
  simp (disch := first | omega | ((simp only [nxBStreamCheck]) <;> omega) | decide) only [↓stepPre, stepPost, ↓W_cond, ↓W_block, ↓reduceIte, Nat.reduceEqDiff, Nat.reduceLT, Nat.reduceLeDiff, ret0, stVar, isTup, Value.cells, Nat.reduceAdd, Nat.reduceMul, Nat.reduceSub, env0, binV, intV, reduceCtorEq, pickV, nilCheckV, ptrV, unV, Rt, resultsV, allV, resV, calleeV, builtinV, eqV, fieldAddrV, ldVar, stN_own, stN_ownL, Int.reduceToNat, Int.reducePow, IntKind.bits, convV, Int.reduceNeg, Int.reduceAdd, Int.reduceSub, Int.reduceLT, Int.reduceLE, extractV, Int.reduceEq, mkFuncV, stBStreamCheck, spBStreamCheck, beq_self_eq_true, tyB0StreamCheck, getL_take, glBStreamCheck, hp]
  refine sfind_ok (hs.mild (.alloc _ _)) (by omega) (by simp only [Ab.next_alloc]; omega) fun s' m' => ?_
  by_cases h : findS xs (atS xs i).id = i
  · have hv : rl2 xs i = 0 := by simp [rl2, h]
    simp (disch := first | omega | ((simp only [nxBStreamCheck]) <;> omega) | decide) only [↓stepPre, stepPost, ↓W_cond, ↓W_block, ↓reduceIte, Nat.reduceEqDiff, Nat.reduceLT, Nat.reduceLeDiff, ret0, stVar, isTup, Value.cells, Nat.reduceAdd, Nat.reduceMul, Nat.reduceSub, env0, binV, intV, reduceCtorEq, pickV, nilCheckV, ptrV, unV, Rt, resultsV, allV, resV, calleeV, builtinV, eqV, fieldAddrV, ldVar, stN_own, stN_ownL, Int.reduceToNat, Int.reducePow, IntKind.bits, convV, Int.reduceNeg, Int.reduceAdd, Int.reduceSub, Int.reduceLT, Int.reduceLE, extractV, Int.reduceEq, mkFuncV, stBStreamCheck, spBStreamCheck, beq_self_eq_true, tyB0StreamCheck, getL_take, glBStreamCheck, h]
    refine wrong_p ?_
    simp (disch := first | omega | ((simp only [nxBStreamCheck]) <;> omega) | decide) only [↓stepPre, stepPost, ↓W_cond, ↓W_block, ↓reduceIte, Nat.reduceEqDiff, Nat.reduceLT, Nat.reduceLeDiff, ret0, stVar, isTup, Value.cells, Nat.reduceAdd, Nat.reduceMul, Nat.reduceSub, env0, binV, intV, reduceCtorEq, pickV, nilCheckV, ptrV, unV, Rt, resultsV, allV, resV, calleeV, builtinV, eqV, fieldAddrV, ldVar, stN_own, stN_ownL, Int.reduceToNat, Int.reducePow, IntKind.bits, convV, Int.reduceNeg, Int.reduceAdd, Int.reduceSub, Int.reduceLT, Int.reduceLE, extractV, Int.reduceEq, mkFuncV, stBStreamCheck, spBStreamCheck, beq_self_eq_true, tyB0StreamCheck, Tryz.results59]
    rw [hv] at hR
    simpa using hR _ (Mild.trans (.alloc _ _) m')
  · have hv : rl2 xs i = 13 := by simp [rl2, h]
    simp (disch := first | omega | ((simp only [nxBStreamCheck]) <;> omega) | decide) only [↓stepPre, stepPost, ↓W_cond, ↓W_block, ↓reduceIte, Nat.reduceEqDiff, Nat.reduceLT, Nat.reduceLeDiff, ret0, stVar, isTup, Value.cells, Nat.reduceAdd, Nat.reduceMul, Nat.reduceSub, env0, binV, intV, reduceCtorEq, pickV, nilCheckV, ptrV, unV, Rt, resultsV, allV, resV, calleeV, builtinV, eqV, fieldAddrV, ldVar, stN_own, stN_ownL, Int.reduceToNat, Int.reducePow, IntKind.bits, convV, Int.reduceNeg, Int.reduceAdd, Int.reduceSub, Int.reduceLT, Int.reduceLE, extractV, Int.reduceEq, mkFuncV, stBStreamCheck, spBStreamCheck, beq_self_eq_true, tyB0StreamCheck, getL_take, glBStreamCheck, h]
    refine wrong_p ?_
    simp (disch := first | omega | ((simp only [nxBStreamCheck]) <;> omega) | decide) only [↓stepPre, stepPost, ↓W_cond, ↓W_block, ↓reduceIte, Nat.reduceEqDiff, Nat.reduceLT, Nat.reduceLeDiff, ret0, stVar, isTup, Value.cells, Nat.reduceAdd, Nat.reduceMul, Nat.reduceSub, env0, binV, intV, reduceCtorEq, pickV, nilCheckV, ptrV, unV, Rt, resultsV, allV, resV, calleeV, builtinV, eqV, fieldAddrV, ldVar, stN_own, stN_ownL, Int.reduceToNat, Int.reducePow, IntKind.bits, convV, Int.reduceNeg, Int.reduceAdd, Int.reduceSub, Int.reduceLT, Int.reduceLE, extractV, Int.reduceEq, mkFuncV, stBStreamCheck, spBStreamCheck, beq_self_eq_true, tyB0StreamCheck, Tryz.results59]
    rw [hv] at hR
    simpa using hR _ (Mild.trans (.alloc _ _) m')
theorem rule3_ok {p : Nat} {xs : List Sm} {i : Nat} {l : Int} (hp : s.heap p = .row [.int .i64 l]) (hb : base ≤ p ∧ p < s.next) (hR : ∀ s', Mild s s' → R (.int .i64 (rl3 xs l i)) s') :
    WC Tryz.prog base 62 [.int .i64 (i : Int), .agg (atS xs i).c.toArray, .pointer (some ⟨p, 0, none⟩)] s R := by
  refine WC_open Tryz.func62 rfl ?_
  have hp1 := (Ab.heap_alloc_ne s (.row (atS xs i).c) (b := p) (by omega)).trans hp
  by_cases h1 : (atS xs i).cl = 1
  rotate_left
  · have hv : rl3 xs l i = 0 := by simp [rl3, h1]
    rw [hv] at hR
    simp (disch := first | omega | ((simp only [nxBStreamCheck]) <;> omega) | decide) only [↓stepPre, stepPost, ↓W_cond, ↓W_block, ↓reduceIte, Nat.reduceEqDiff, Nat.reduceLT, Nat.reduceLeDiff, ret0, stVar, isTup, Value.cells, Nat.reduceAdd, Nat.reduceMul, Nat.reduceSub, env0, binV, intV, reduceCtorEq, pickV, nilCheckV, ptrV, unV, Rt, resultsV, allV, resV, calleeV, builtinV, eqV, fieldAddrV, ldVar, stN_own, stN_ownL, Int.reduceToNat, Int.reducePow, IntKind.bits, convV, Int.reduceNeg, Int.reduceAdd, Int.reduceSub, Int.reduceLT, Int.reduceLE, extractV, Int.reduceEq, mkFuncV, stBStreamCheck, spBStreamCheck, beq_self_eq_true, tyB0StreamCheck, getL_take, glBStreamCheck, hp, h1]
    refine wrong_p ?_
    simp (disch := first | omega | ((simp only [nxBStreamCheck]) <;> omega) | decide) only [↓stepPre, stepPost, ↓W_cond, ↓W_block, ↓reduceIte, Nat.reduceEqDiff, Nat.reduceLT, Nat.reduceLeDiff, ret0, stVar, isTup, Value.cells, Nat.reduceAdd, Nat.reduceMul, Nat.reduceSub, env0, binV, intV, reduceCtorEq, pickV, nilCheckV, ptrV, unV, Rt, resultsV, allV, resV, calleeV, builtinV, eqV, fieldAddrV, ldVar, stN_own, stN_ownL, Int.reduceToNat, Int.reducePow, IntKind.bits, convV, Int.reduceNeg, Int.reduceAdd, Int.reduceSub, Int.reduceLT, Int.reduceLE, extractV, Int.reduceEq, mkFuncV, stBStreamCheck, spBStreamCheck, beq_self_eq_true, tyB0StreamCheck, Tryz.results62]
    simpa using hR _ (.alloc _ _)
  by_cases h2 : (atS xs i).de < l
  · have hv : rl3 xs l i = 9 := by simp [rl3, h1, h2]
    rw [hv] at hR
    have h1' : decide ((atS xs i).cl = 1) = true := decide_eq_true h1
    simp (disch := first | omega | ((simp only [nxBStreamCheck]) <;> omega) | decide) only [↓stepPre, stepPost, ↓W_cond, ↓W_block, ↓reduceIte, Nat.reduceEqDiff, Nat.reduceLT, Nat.reduceLeDiff, ret0, stVar, isTup, Value.cells, Nat.reduceAdd, Nat.reduceMul, Nat.reduceSub, env0, binV, intV, reduceCtorEq, pickV, nilCheckV, ptrV, unV, Rt, resultsV, allV, resV, calleeV, builtinV, eqV, fieldAddrV, ldVar, stN_own, stN_ownL, Int.reduceToNat, Int.reducePow, IntKind.bits, convV, Int.reduceNeg, Int.reduceAdd, Int.reduceSub, Int.reduceLT, Int.reduceLE, extractV, Int.reduceEq, mkFuncV, stBStreamCheck, spBStreamCheck, beq_self_eq_true, tyB0StreamCheck, getL_take, glBStreamCheck, hp, h1', h2]
    refine wrong_p ?_
    simp (disch := first | omega | ((simp only [nxBStreamCheck]) <;> omega) | decide) only [↓stepPre, stepPost, ↓W_cond, ↓W_block, ↓reduceIte, Nat.reduceEqDiff, Nat.reduceLT, Nat.reduceLeDiff, ret0, stVar, isTup, Value.cells, Nat.reduceAdd, Nat.reduceMul, Nat.reduceSub, env0, binV, intV, reduceCtorEq, pickV, nilCheckV, ptrV, unV, Rt, resultsV, allV, resV, calleeV, builtinV, eqV, fieldAddrV, ldVar, stN_own, stN_ownL, Int.reduceToNat, Int.reducePow, IntKind.bits, convV, Int.reduceNeg, Int.reduceAdd, Int.reduceSub, Int.reduceLT, Int.reduceLE, extractV, Int.reduceEq, mkFuncV, stBStreamCheck, spBStreamCheck, beq_self_eq_true, tyB0StreamCheck, Tryz.results62]
    simpa using hR _ (.alloc _ _)
  · have hv : rl3 xs l i = 0 := by simp [rl3, h2]
    rw [hv] at hR
    have h1' : decide ((atS xs i).cl = 1) = true := decide_eq_true h1
    simp (disch := first | omega | ((simp only [nxBStreamCheck]) <;> omega) | decide) only [↓stepPre, stepPost, ↓W_cond, ↓W_block, ↓reduceIte, Nat.reduceEqDiff, Nat.reduceLT, Nat.reduceLeDiff, ret0, stVar, isTup, Value.cells, Nat.reduceAdd, Nat.reduceMul, Nat.reduceSub, env0, binV, intV, reduceCtorEq, pickV, nilCheckV, ptrV, unV, Rt, resultsV, allV, resV, calleeV, builtinV, eqV, fieldAddrV, ldVar, stN_own, stN_ownL, Int.reduceToNat, Int.reducePow, IntKind.bits, convV, Int.reduceNeg, Int.reduceAdd, Int.reduceSub, Int.reduceLT, Int.reduceLE, extractV, Int.reduceEq, mkFuncV, stBStreamCheck, spBStreamCheck, beq_self_eq_true, tyB0StreamCheck, getL_take, glBStreamCheck, hp, h1', h2]
    refine wrong_p ?_
    simp (disch := first | omega | ((simp only [nxBStreamCheck]) <;> omega) | decide) only [↓stepPre, stepPost, ↓W_cond, ↓W_block, ↓reduceIte, Nat.reduceEqDiff, Nat.reduceLT, Nat.reduceLeDiff, ret0, stVar, isTup, Value.cells, Nat.reduceAdd, Nat.reduceMul, Nat.reduceSub, env0, binV, intV, reduceCtorEq, pickV, nilCheckV, ptrV, unV, Rt, resultsV, allV, resV, calleeV, builtinV, eqV, fieldAddrV, ldVar, stN_own, stN_ownL, Int.reduceToNat, Int.reducePow, IntKind.bits, convV, Int.reduceNeg, Int.reduceAdd, Int.reduceSub, Int.reduceLT, Int.reduceLE, extractV, Int.reduceEq, mkFuncV, stBStreamCheck, spBStreamCheck, beq_self_eq_true, tyB0StreamCheck, Tryz.results62]
    simpa using hR _ (.alloc _ _)
/-- What is wrong with several, and with which one. -/
def chk (xs : List Sm) (l : Int) : Int × Int :=
  if 64 < xs.length then (0, 11) else if ¬ (1 ≤ l ∧ l ≤ 1073741824) then (0, 1)
  else if (fst0 (rl1 xs) xs.length).2 ≠ 0 then fst0 (rl1 xs) xs.length
  else if (fst0 (rl2 xs) xs.length).2 ≠ 0 then fst0 (rl2 xs) xs.length
  else if (fst0 (rl3 xs l) xs.length).2 ≠ 0 then fst0 (rl3 xs l) xs.length
  else (xs.length, 0)
theorem scheck_ok {v : Value} {xs : List Sm} {l : Int} (hs : Sl base s 7 v (smL xs)) (hxn : xs.length ≤ 2 ^ 63 - 1) (hbn : base ≤ s.next) (hR : ∀ s', Mild s s' → R (.tuple #[.int .i64 (chk xs l).1, .int .i64 (chk xs l).2]) s') :
    WC Tryz.prog base 38 [v, .int .i64 l] s R := by
  refine WC_open Tryz.func38 rfl ?_
  have hlen := hs.len (P := Tryz.prog) (ts := []) Ty.elem22 Ty.arr22
  rw [smL_len] at hlen
  have hcells : v.cells.toList = [v] := by obtain ⟨a, n, c, rfl⟩ := hs.shape; rfl
  obtain ⟨a0, n0, c0, rfl⟩ := hs.shape
  generalize hv : (Value.slice a0 n0 c0) = v at *
  have m2 : Mild s ((s.alloc (.row [v])).alloc (.row [.int .i64 l])) := (Mild.alloc _ _).alloc'
  by_cases h64 : 64 < xs.length
  · have g1 : (xs.length : Int) > 64 := by omega
    have g1' : 64 < (xs.length : Int) := by omega
    have hc : chk xs l = (0, 11) := by simp only [chk, h64, if_true]
    rw [hc] at hR
    subst hv
    simp (disch := first | omega | ((simp only [nxBStreamCheck]) <;> omega) | decide) only [↓stepPre, stepPost, ↓W_cond, ↓W_block, ↓reduceIte, Nat.reduceEqDiff, Nat.reduceLT, Nat.reduceLeDiff, ret0, stVar, isTup, Value.cells, Nat.reduceAdd, Nat.reduceMul, Nat.reduceSub, env0, binV, intV, reduceCtorEq, pickV, nilCheckV, ptrV, unV, Rt, resultsV, allV, resV, calleeV, builtinV, eqV, fieldAddrV, ldVar, stN_own, stN_ownL, Int.reduceToNat, Int.reducePow, IntKind.bits, convV, Int.reduceNeg, Int.reduceAdd, Int.reduceSub, Int.reduceLT, Int.reduceLE, extractV, Int.reduceEq, mkFuncV, stBStreamCheck, spBStreamCheck, beq_self_eq_true, tyB0StreamCheck, hlen, g1, g1', Tryz.results38]
    exact hR _ m2
  have g1 : ¬ (xs.length : Int) > 64 := by omega
  have g1' : ¬ 64 < (xs.length : Int) := by omega
  by_cases hl : 1 ≤ l ∧ l ≤ 1073741824
  rotate_left
  · have hw : (decide (1 ≤ l) && decide (l ≤ 1073741824)) = false := by simp only [Bool.and_eq_false_iff, decide_eq_false_iff_not]; omega
    have hc : chk xs l = (0, 1) := by simp only [chk, h64, if_false, hl, not_false_eq_true, if_true]
    rw [hc] at hR
    subst hv
    simp (disch := first | omega | ((simp only [nxBStreamCheck]) <;> omega) | decide) only [↓stepPre, stepPost, ↓W_cond, ↓W_block, ↓reduceIte, Nat.reduceEqDiff, Nat.reduceLT, Nat.reduceLeDiff, ret0, stVar, isTup, Value.cells, Nat.reduceAdd, Nat.reduceMul, Nat.reduceSub, env0, binV, intV, reduceCtorEq, pickV, nilCheckV, ptrV, unV, Rt, resultsV, allV, resV, calleeV, builtinV, eqV, fieldAddrV, ldVar, stN_own, stN_ownL, Int.reduceToNat, Int.reducePow, IntKind.bits, convV, Int.reduceNeg, Int.reduceAdd, Int.reduceSub, Int.reduceLT, Int.reduceLE, extractV, Int.reduceEq, mkFuncV, stBStreamCheck, spBStreamCheck, beq_self_eq_true, tyB0StreamCheck, hlen, g1, g1']
    refine within_p ?_
    simp (disch := first | omega | ((simp only [nxBStreamCheck]) <;> omega) | decide) only [↓stepPre, stepPost, ↓W_cond, ↓W_block, ↓reduceIte, Nat.reduceEqDiff, Nat.reduceLT, Nat.reduceLeDiff, ret0, stVar, isTup, Value.cells, Nat.reduceAdd, Nat.reduceMul, Nat.reduceSub, env0, binV, intV, reduceCtorEq, pickV, nilCheckV, ptrV, unV, Rt, resultsV, allV, resV, calleeV, builtinV, eqV, fieldAddrV, ldVar, stN_own, stN_ownL, Int.reduceToNat, Int.reducePow, IntKind.bits, convV, Int.reduceNeg, Int.reduceAdd, Int.reduceSub, Int.reduceLT, Int.reduceLE, extractV, Int.reduceEq, mkFuncV, stBStreamCheck, spBStreamCheck, beq_self_eq_true, tyB0StreamCheck, hlen, hw, Tryz.results38]
    exact hR _ m2
  have hw : (decide (1 ≤ l) && decide (l ≤ 1073741824)) = true := by simp only [Bool.and_eq_true, decide_eq_true_eq]; omega
  subst hv
  simp (disch := first | omega | ((simp only [nxBStreamCheck]) <;> omega) | decide) only [↓stepPre, stepPost, ↓W_cond, ↓W_block, ↓reduceIte, Nat.reduceEqDiff, Nat.reduceLT, Nat.reduceLeDiff, ret0, stVar, isTup, Value.cells, Nat.reduceAdd, Nat.reduceMul, Nat.reduceSub, env0, binV, intV, reduceCtorEq, pickV, nilCheckV, ptrV, unV, Rt, resultsV, allV, resV, calleeV, builtinV, eqV, fieldAddrV, ldVar, stN_own, stN_ownL, Int.reduceToNat, Int.reducePow, IntKind.bits, convV, Int.reduceNeg, Int.reduceAdd, Int.reduceSub, Int.reduceLT, Int.reduceLE, extractV, Int.reduceEq, mkFuncV, stBStreamCheck, spBStreamCheck, beq_self_eq_true, tyB0StreamCheck, hlen, g1, g1']
  refine within_p ?_
  simp (disch := first | omega | ((simp only [nxBStreamCheck]) <;> omega) | decide) only [↓stepPre, stepPost, ↓W_cond, ↓W_block, ↓reduceIte, Nat.reduceEqDiff, Nat.reduceLT, Nat.reduceLeDiff, ret0, stVar, isTup, Value.cells, Nat.reduceAdd, Nat.reduceMul, Nat.reduceSub, env0, binV, intV, reduceCtorEq, pickV, nilCheckV, ptrV, unV, Rt, resultsV, allV, resV, calleeV, builtinV, eqV, fieldAddrV, ldVar, stN_own, stN_ownL, Int.reduceToNat, Int.reducePow, IntKind.bits, convV, Int.reduceNeg, Int.reduceAdd, Int.reduceSub, Int.reduceLT, Int.reduceLE, extractV, Int.reduceEq, mkFuncV, stBStreamCheck, spBStreamCheck, beq_self_eq_true, tyB0StreamCheck, hlen, hw]
  have hs2 := hs.mild m2
  refine all_p hs2 rfl ?_
  simp (disch := first | omega | ((simp only [nxBStreamCheck]) <;> omega) | decide) only [↓stepPre, stepPost, ↓W_cond, ↓W_block, ↓reduceIte, Nat.reduceEqDiff, Nat.reduceLT, Nat.reduceLeDiff, ret0, stVar, isTup, Value.cells, Nat.reduceAdd, Nat.reduceMul, Nat.reduceSub, env0, binV, intV, reduceCtorEq, pickV, nilCheckV, ptrV, unV, Rt, resultsV, allV, resV, calleeV, builtinV, eqV, fieldAddrV, ldVar, stN_own, stN_ownL, Int.reduceToNat, Int.reducePow, IntKind.bits, convV, Int.reduceNeg, Int.reduceAdd, Int.reduceSub, Int.reduceLT, Int.reduceLE, extractV, Int.reduceEq, mkFuncV, stBStreamCheck, spBStreamCheck, beq_self_eq_true, tyB0StreamCheck]
  have hs4 := hs2.mild ((Mild.alloc _ (.row [.slice a0 n0 c0])).alloc' (o := .row [.func (.func 57) #[] #[]]))
  have m4 := m2.trans ((Mild.alloc _ (.row [.slice a0 n0 c0])).alloc' (o := .row [.func (.func 57) #[] #[]]))
  refine first_ok (v := .slice a0 n0 c0) (g := 57) (ca := #[]) (xs := xs) ?_ (Ab.heap_alloc_new _ _) (by simp only [Ab.next_alloc]; omega) (by simp only [Ab.next_alloc]; omega) hs4 (by omega) (rl1 xs) (fun i t R' hi hm h => rule1_ok (by have := hm.next; simp only [Ab.next_alloc] at this; omega) h) fun s5 m5 => ?_
  · rw [Ab.heap_alloc_ne _ _ (by simp only [Ab.next_alloc]; omega)]; exact Ab.heap_alloc_new _ _
  have n5 := m5.next
  simp only [Ab.next_alloc] at n5
  have M5 := m4.trans m5
  have k5 : s5.heap s.next = .row [.slice a0 n0 c0] := by
    rw [m5.heap _ (by simp only [Ab.next_alloc]; omega), Ab.heap_alloc_ne _ _ (by simp only [Ab.next_alloc]; omega), Ab.heap_alloc_ne _ _ (by simp only [Ab.next_alloc]; omega), Ab.heap_alloc_ne _ _ (by simp only [Ab.next_alloc]; omega)]; exact Ab.heap_alloc_new _ _
  have j5 : s5.heap (s.next + 1) = .row [.int .i64 l] := by
    rw [m5.heap _ (by simp only [Ab.next_alloc]; omega), Ab.heap_alloc_ne _ _ (by simp only [Ab.next_alloc]; omega), Ab.heap_alloc_ne _ _ (by simp only [Ab.next_alloc]; omega)]; exact Ab.heap_alloc_new _ _
  by_cases e1 : (fst0 (rl1 xs) xs.length).2 = 0
  rotate_left
  · have hc : chk xs l = fst0 (rl1 xs) xs.length := by simp only [chk, h64, if_false, hl, not_true_eq_false, e1, not_false_eq_true, if_true, ne_eq, and_self]
    rw [hc] at hR
    simp (disch := first | omega | ((simp only [nxBStreamCheck]) <;> omega) | decide) only [↓stepPre, stepPost, ↓W_cond, ↓W_block, ↓reduceIte, Nat.reduceEqDiff, Nat.reduceLT, Nat.reduceLeDiff, ret0, stVar, isTup, Value.cells, Nat.reduceAdd, Nat.reduceMul, Nat.reduceSub, env0, binV, intV, reduceCtorEq, pickV, nilCheckV, ptrV, unV, Rt, resultsV, allV, resV, calleeV, builtinV, eqV, fieldAddrV, ldVar, stN_own, stN_ownL, Int.reduceToNat, Int.reducePow, IntKind.bits, convV, Int.reduceNeg, Int.reduceAdd, Int.reduceSub, Int.reduceLT, Int.reduceLE, extractV, Int.reduceEq, mkFuncV, stBStreamCheck, spBStreamCheck, beq_self_eq_true, tyB0StreamCheck, e1, Tryz.results38]
    exact hR _ M5
  simp (disch := first | omega | ((simp only [nxBStreamCheck]) <;> omega) | decide) only [↓stepPre, stepPost, ↓W_cond, ↓W_block, ↓reduceIte, Nat.reduceEqDiff, Nat.reduceLT, Nat.reduceLeDiff, ret0, stVar, isTup, Value.cells, Nat.reduceAdd, Nat.reduceMul, Nat.reduceSub, env0, binV, intV, reduceCtorEq, pickV, nilCheckV, ptrV, unV, Rt, resultsV, allV, resV, calleeV, builtinV, eqV, fieldAddrV, ldVar, stN_own, stN_ownL, Int.reduceToNat, Int.reducePow, IntKind.bits, convV, Int.reduceNeg, Int.reduceAdd, Int.reduceSub, Int.reduceLT, Int.reduceLE, extractV, Int.reduceEq, mkFuncV, stBStreamCheck, spBStreamCheck, beq_self_eq_true, tyB0StreamCheck, e1, k5]
  have hs5 := hs.mild M5
  refine all_p hs5 rfl ?_
  simp (disch := first | omega | ((simp only [nxBStreamCheck]) <;> omega) | decide) only [↓stepPre, stepPost, ↓W_cond, ↓W_block, ↓reduceIte, Nat.reduceEqDiff, Nat.reduceLT, Nat.reduceLeDiff, ret0, stVar, isTup, Value.cells, Nat.reduceAdd, Nat.reduceMul, Nat.reduceSub, env0, binV, intV, reduceCtorEq, pickV, nilCheckV, ptrV, unV, Rt, resultsV, allV, resV, calleeV, builtinV, eqV, fieldAddrV, ldVar, stN_own, stN_ownL, Int.reduceToNat, Int.reducePow, IntKind.bits, convV, Int.reduceNeg, Int.reduceAdd, Int.reduceSub, Int.reduceLT, Int.reduceLE, extractV, Int.reduceEq, mkFuncV, stBStreamCheck, spBStreamCheck, beq_self_eq_true, tyB0StreamCheck]
  have A7 := (Mild.alloc s5 (.row [.slice a0 n0 c0])).alloc' (o := .row [.func (.func 59) #[] #[.pointer (some ⟨s.next, 0, none⟩)]])
  have hs7 := hs5.mild A7
  refine first_ok (v := .slice a0 n0 c0) (g := 59) (ca := #[.pointer (some ⟨s.next, 0, none⟩)]) (xs := xs) ?_ (Ab.heap_alloc_new _ _) (by simp only [Ab.next_alloc]; omega) (by simp only [Ab.next_alloc]; omega) hs7 (by omega) (rl2 xs) (fun i t R' hi hm h => rule2_ok (v := .slice a0 n0 c0) ?_ ?_ (hs7.mild hm) (by omega) h) fun s8 m8 => ?_
  · rw [Ab.heap_alloc_ne _ _ (by simp only [Ab.next_alloc]; omega)]; exact Ab.heap_alloc_new _ _
  · rw [hm.heap _ (by simp only [Ab.next_alloc]; omega), Ab.heap_alloc_ne _ _ (by simp only [Ab.next_alloc]; omega), Ab.heap_alloc_ne _ _ (by omega)]; exact k5
  · have := hm.next; simp only [Ab.next_alloc] at this; omega
  have n8 := m8.next
  simp only [Ab.next_alloc] at n8
  have M8 := (M5.trans A7).trans m8
  have k8 : s8.heap s.next = .row [.slice a0 n0 c0] := by
    rw [m8.heap _ (by simp only [Ab.next_alloc]; omega), Ab.heap_alloc_ne _ _ (by simp only [Ab.next_alloc]; omega), Ab.heap_alloc_ne _ _ (by omega)]; exact k5
  have j8 : s8.heap (s.next + 1) = .row [.int .i64 l] := by
    rw [m8.heap _ (by simp only [Ab.next_alloc]; omega), Ab.heap_alloc_ne _ _ (by simp only [Ab.next_alloc]; omega), Ab.heap_alloc_ne _ _ (by omega)]; exact j5
  by_cases e2 : (fst0 (rl2 xs) xs.length).2 = 0
  rotate_left
  · have hc : chk xs l = fst0 (rl2 xs) xs.length := by simp only [chk, h64, if_false, hl, not_true_eq_false, e1, e2, not_false_eq_true, if_true, ne_eq, and_self]
    rw [hc] at hR
    simp (disch := first | omega | ((simp only [nxBStreamCheck]) <;> omega) | decide) only [↓stepPre, stepPost, ↓W_cond, ↓W_block, ↓reduceIte, Nat.reduceEqDiff, Nat.reduceLT, Nat.reduceLeDiff, ret0, stVar, isTup, Value.cells, Nat.reduceAdd, Nat.reduceMul, Nat.reduceSub, env0, binV, intV, reduceCtorEq, pickV, nilCheckV, ptrV, unV, Rt, resultsV, allV, resV, calleeV, builtinV, eqV, fieldAddrV, ldVar, stN_own, stN_ownL, Int.reduceToNat, Int.reducePow, IntKind.bits, convV, Int.reduceNeg, Int.reduceAdd, Int.reduceSub, Int.reduceLT, Int.reduceLE, extractV, Int.reduceEq, mkFuncV, stBStreamCheck, spBStreamCheck, beq_self_eq_true, tyB0StreamCheck, e2, Tryz.results38]
    exact hR _ M8
  simp (disch := first | omega | ((simp only [nxBStreamCheck]) <;> omega) | decide) only [↓stepPre, stepPost, ↓W_cond, ↓W_block, ↓reduceIte, Nat.reduceEqDiff, Nat.reduceLT, Nat.reduceLeDiff, ret0, stVar, isTup, Value.cells, Nat.reduceAdd, Nat.reduceMul, Nat.reduceSub, env0, binV, intV, reduceCtorEq, pickV, nilCheckV, ptrV, unV, Rt, resultsV, allV, resV, calleeV, builtinV, eqV, fieldAddrV, ldVar, stN_own, stN_ownL, Int.reduceToNat, Int.reducePow, IntKind.bits, convV, Int.reduceNeg, Int.reduceAdd, Int.reduceSub, Int.reduceLT, Int.reduceLE, extractV, Int.reduceEq, mkFuncV, stBStreamCheck, spBStreamCheck, beq_self_eq_true, tyB0StreamCheck, e2, k8]
  have hs8 := hs.mild M8
  refine all_p hs8 rfl ?_
  simp (disch := first | omega | ((simp only [nxBStreamCheck]) <;> omega) | decide) only [↓stepPre, stepPost, ↓W_cond, ↓W_block, ↓reduceIte, Nat.reduceEqDiff, Nat.reduceLT, Nat.reduceLeDiff, ret0, stVar, isTup, Value.cells, Nat.reduceAdd, Nat.reduceMul, Nat.reduceSub, env0, binV, intV, reduceCtorEq, pickV, nilCheckV, ptrV, unV, Rt, resultsV, allV, resV, calleeV, builtinV, eqV, fieldAddrV, ldVar, stN_own, stN_ownL, Int.reduceToNat, Int.reducePow, IntKind.bits, convV, Int.reduceNeg, Int.reduceAdd, Int.reduceSub, Int.reduceLT, Int.reduceLE, extractV, Int.reduceEq, mkFuncV, stBStreamCheck, spBStreamCheck, beq_self_eq_true, tyB0StreamCheck]
  have A9 := (Mild.alloc s8 (.row [.slice a0 n0 c0])).alloc' (o := .row [.func (.func 62) #[] #[.pointer (some ⟨s.next + 1, 0, none⟩)]])
  have hs9 := hs8.mild A9
  refine first_ok (v := .slice a0 n0 c0) (g := 62) (ca := #[.pointer (some ⟨s.next + 1, 0, none⟩)]) (xs := xs) ?_ (Ab.heap_alloc_new _ _) (by simp only [Ab.next_alloc]; omega) (by simp only [Ab.next_alloc]; omega) hs9 (by omega) (rl3 xs l) (fun i t R' hi hm h => rule3_ok ?_ ?_ h) fun s10 m10 => ?_
  · rw [Ab.heap_alloc_ne _ _ (by simp only [Ab.next_alloc]; omega)]; exact Ab.heap_alloc_new _ _
  · rw [hm.heap _ (by simp only [Ab.next_alloc]; omega), Ab.heap_alloc_ne _ _ (by simp only [Ab.next_alloc]; omega), Ab.heap_alloc_ne _ _ (by omega)]; exact j8
  · have := hm.next; simp only [Ab.next_alloc] at this; omega
  have n10 := m10.next
  simp only [Ab.next_alloc] at n10
  have M10 := (M8.trans A9).trans m10
  have k10 : s10.heap s.next = .row [.slice a0 n0 c0] := by
    rw [m10.heap _ (by simp only [Ab.next_alloc]; omega), Ab.heap_alloc_ne _ _ (by simp only [Ab.next_alloc]; omega), Ab.heap_alloc_ne _ _ (by omega)]; exact k8
  by_cases e3 : (fst0 (rl3 xs l) xs.length).2 = 0
  rotate_left
  · have hc : chk xs l = fst0 (rl3 xs l) xs.length := by simp only [chk, h64, if_false, hl, not_true_eq_false, e1, e2, e3, not_false_eq_true, if_true, ne_eq, and_self]
    rw [hc] at hR
    simp (disch := first | omega | ((simp only [nxBStreamCheck]) <;> omega) | decide) only [↓stepPre, stepPost, ↓W_cond, ↓W_block, ↓reduceIte, Nat.reduceEqDiff, Nat.reduceLT, Nat.reduceLeDiff, ret0, stVar, isTup, Value.cells, Nat.reduceAdd, Nat.reduceMul, Nat.reduceSub, env0, binV, intV, reduceCtorEq, pickV, nilCheckV, ptrV, unV, Rt, resultsV, allV, resV, calleeV, builtinV, eqV, fieldAddrV, ldVar, stN_own, stN_ownL, Int.reduceToNat, Int.reducePow, IntKind.bits, convV, Int.reduceNeg, Int.reduceAdd, Int.reduceSub, Int.reduceLT, Int.reduceLE, extractV, Int.reduceEq, mkFuncV, stBStreamCheck, spBStreamCheck, beq_self_eq_true, tyB0StreamCheck, e3, Tryz.results38]
    exact hR _ M10
  have hc : chk xs l = ((xs.length : Int), 0) := by simp only [chk, h64, if_false, hl, not_true_eq_false, e1, e2, e3, ne_eq, and_self]
  rw [hc] at hR
  simp (disch := first | omega | ((simp only [nxBStreamCheck]) <;> omega) | decide) only [↓stepPre, stepPost, ↓W_cond, ↓W_block, ↓reduceIte, Nat.reduceEqDiff, Nat.reduceLT, Nat.reduceLeDiff, ret0, stVar, isTup, Value.cells, Nat.reduceAdd, Nat.reduceMul, Nat.reduceSub, env0, binV, intV, reduceCtorEq, pickV, nilCheckV, ptrV, unV, Rt, resultsV, allV, resV, calleeV, builtinV, eqV, fieldAddrV, ldVar, stN_own, stN_ownL, Int.reduceToNat, Int.reducePow, IntKind.bits, convV, Int.reduceNeg, Int.reduceAdd, Int.reduceSub, Int.reduceLT, Int.reduceLE, extractV, Int.reduceEq, mkFuncV, stBStreamCheck, spBStreamCheck, beq_self_eq_true, tyB0StreamCheck, e3, k10, hlen, Tryz.results38]
  exact hR _ M10
theorem rcheck_p {v : Value} {xs : List Sm} {l : Int} (hs : Sl base s 7 v (smL xs)) (hxn : xs.length ≤ 2 ^ 63 - 1) (hR : R (.tuple #[.int .i64 (chk xs l).1, .int .i64 (chk xs l).2]) s) :
    WC Tryz.prog base 48 [v, .int .i64 l] s R := by
  refine WC_open Tryz.func48 rfl ?_
  have hlen := hs.len (P := Tryz.prog) (ts := []) Ty.elem22 Ty.arr22
  rw [smL_len] at hlen
  by_cases h64 : 64 < xs.length
  · have g1' : 64 < (xs.length : Int) := by omega
    have hc : chk xs l = (0, 11) := by simp only [chk, h64, if_true]
    rw [hc] at hR
    simp (disch := first | omega | ((simp only [nxBStreamCheck]) <;> omega) | decide) only [↓stepPre, stepPost, ↓W_cond, ↓W_block, ↓reduceIte, Nat.reduceEqDiff, Nat.reduceLT, Nat.reduceLeDiff, ret0, stVar, isTup, Value.cells, Nat.reduceAdd, Nat.reduceMul, Nat.reduceSub, env0, binV, intV, reduceCtorEq, pickV, nilCheckV, ptrV, unV, Rt, resultsV, allV, resV, calleeV, builtinV, eqV, fieldAddrV, ldVar, stN_own, stN_ownL, Int.reduceToNat, Int.reducePow, IntKind.bits, convV, Int.reduceNeg, Int.reduceAdd, Int.reduceSub, Int.reduceLT, Int.reduceLE, extractV, Int.reduceEq, mkFuncV, stBStreamCheck, spBStreamCheck, beq_self_eq_true, tyB0StreamCheck, hlen, g1', Tryz.results48]
    exact hR
  have g1' : ¬ 64 < (xs.length : Int) := by omega
  by_cases hl : 1 ≤ l ∧ l ≤ 1073741824
  rotate_left
  · have hc : chk xs l = (0, 1) := by simp only [chk, h64, if_false, hl, not_false_eq_true, if_true]
    rw [hc] at hR
    by_cases h1 : l < 1
    · simp (disch := first | omega | ((simp only [nxBStreamCheck]) <;> omega) | decide) only [↓stepPre, stepPost, ↓W_cond, ↓W_block, ↓reduceIte, Nat.reduceEqDiff, Nat.reduceLT, Nat.reduceLeDiff, ret0, stVar, isTup, Value.cells, Nat.reduceAdd, Nat.reduceMul, Nat.reduceSub, env0, binV, intV, reduceCtorEq, pickV, nilCheckV, ptrV, unV, Rt, resultsV, allV, resV, calleeV, builtinV, eqV, fieldAddrV, ldVar, stN_own, stN_ownL, Int.reduceToNat, Int.reducePow, IntKind.bits, convV, Int.reduceNeg, Int.reduceAdd, Int.reduceSub, Int.reduceLT, Int.reduceLE, extractV, Int.reduceEq, mkFuncV, stBStreamCheck, spBStreamCheck, beq_self_eq_true, tyB0StreamCheck, hlen, g1', h1, Tryz.results48]
      exact hR
    · have h2 : 1073741824 < l := by omega
      simp (disch := first | omega | ((simp only [nxBStreamCheck]) <;> omega) | decide) only [↓stepPre, stepPost, ↓W_cond, ↓W_block, ↓reduceIte, Nat.reduceEqDiff, Nat.reduceLT, Nat.reduceLeDiff, ret0, stVar, isTup, Value.cells, Nat.reduceAdd, Nat.reduceMul, Nat.reduceSub, env0, binV, intV, reduceCtorEq, pickV, nilCheckV, ptrV, unV, Rt, resultsV, allV, resV, calleeV, builtinV, eqV, fieldAddrV, ldVar, stN_own, stN_ownL, Int.reduceToNat, Int.reducePow, IntKind.bits, convV, Int.reduceNeg, Int.reduceAdd, Int.reduceSub, Int.reduceLT, Int.reduceLE, extractV, Int.reduceEq, mkFuncV, stBStreamCheck, spBStreamCheck, beq_self_eq_true, tyB0StreamCheck, hlen, g1', h1, h2, Tryz.results48]
      exact hR
  have h1 : ¬ l < 1 := by omega
  have h2 : ¬ 1073741824 < l := by omega
  simp (disch := first | omega | ((simp only [nxBStreamCheck]) <;> omega) | decide) only [↓stepPre, stepPost, ↓W_cond, ↓W_block, ↓reduceIte, Nat.reduceEqDiff, Nat.reduceLT, Nat.reduceLeDiff, ret0, stVar, isTup, Value.cells, Nat.reduceAdd, Nat.reduceMul, Nat.reduceSub, env0, binV, intV, reduceCtorEq, pickV, nilCheckV, ptrV, unV, Rt, resultsV, allV, resV, calleeV, builtinV, eqV, fieldAddrV, ldVar, stN_own, stN_ownL, Int.reduceToNat, Int.reducePow, IntKind.bits, convV, Int.reduceNeg, Int.reduceAdd, Int.reduceSub, Int.reduceLT, Int.reduceLE, extractV, Int.reduceEq, mkFuncV, stBStreamCheck, spBStreamCheck, beq_self_eq_true, tyB0StreamCheck, hlen, g1', h1, h2]
  have ix : ∀ i : Nat, i < xs.length → indexAddrV Tryz.prog 22 v (.int .i64 (i : Int)) = some (atP v (i * 7)) := fun i hi => by
    have := hs.index (P := Tryz.prog) (k := .i64) (i := (i : Int)) Ty.elem22 Ty.siz58 (by omega) (by rw [smL_len]; omega)
    rw [Int.toNat_natCast] at this; exact this
  refine W_loop_inv xs.length (fun i e t => t = s ∧ e 0 = v ∧ e 1 = .int .i64 l ∧ e 6 = .int .i64 (i : Int) ∧ fwd (rl1 xs) 0 xs.length = fwd (rl1 xs) i (xs.length - i))
    (fun x e t => t = s ∧ ((x = .exit 0 ∧ e 0 = v ∧ e 1 = .int .i64 l ∧ (fst0 (rl1 xs) xs.length).2 = 0) ∨ (x = .ret ∧ e 4 = .int .i64 (fst0 (rl1 xs) xs.length).1 ∧ e 5 = .int .i64 (fst0 (rl1 xs) xs.length).2 ∧ (fst0 (rl1 xs) xs.length).2 ≠ 0))) ?_ ⟨rfl, rfl, rfl, rfl, rfl⟩ ?_
  · rintro i e t hi ⟨rfl, q0, q1, q6, hf⟩
    by_cases hil : i < xs.length
    rotate_left
    · have c1 : ¬ (i : Int) < (xs.length : Int) := by omega
      have hv : fst0 (rl1 xs) xs.length = (0, 0) := by unfold fst0; rw [hf, show xs.length - i = 0 by omega]; rfl
      simp (disch := first | omega | ((simp only [nxBStreamCheck]) <;> omega) | decide) only [↓stepPre, stepPost, ↓W_cond, ↓W_block, ↓reduceIte, Nat.reduceEqDiff, Nat.reduceLT, Nat.reduceLeDiff, ret0, stVar, isTup, Value.cells, Nat.reduceAdd, Nat.reduceMul, Nat.reduceSub, env0, binV, intV, reduceCtorEq, pickV, nilCheckV, ptrV, unV, Rt, resultsV, allV, resV, calleeV, builtinV, eqV, fieldAddrV, ldVar, stN_own, stN_ownL, Int.reduceToNat, Int.reducePow, IntKind.bits, convV, Int.reduceNeg, Int.reduceAdd, Int.reduceSub, Int.reduceLT, Int.reduceLE, extractV, Int.reduceEq, mkFuncV, stBStreamCheck, spBStreamCheck, beq_self_eq_true, tyB0StreamCheck, hlen, q0, q1, q6, c1, hv]
      exact .inl trivial
    have c1 : (i : Int) < (xs.length : Int) := by omega
    have hld := hs.loadA (smL_at hil) Ty.agg58 Ty.siz58
    have hrl : rl1 xs i = xs[i].right := by simp [rl1, atS_eq hil]
    simp (disch := first | omega | ((simp only [nxBStreamCheck]) <;> omega) | decide) only [↓stepPre, stepPost, ↓W_cond, ↓W_block, ↓reduceIte, Nat.reduceEqDiff, Nat.reduceLT, Nat.reduceLeDiff, ret0, stVar, isTup, Value.cells, Nat.reduceAdd, Nat.reduceMul, Nat.reduceSub, env0, binV, intV, reduceCtorEq, pickV, nilCheckV, ptrV, unV, Rt, resultsV, allV, resV, calleeV, builtinV, eqV, fieldAddrV, ldVar, stN_own, stN_ownL, Int.reduceToNat, Int.reducePow, IntKind.bits, convV, Int.reduceNeg, Int.reduceAdd, Int.reduceSub, Int.reduceLT, Int.reduceLE, extractV, Int.reduceEq, mkFuncV, stBStreamCheck, spBStreamCheck, beq_self_eq_true, tyB0StreamCheck, hlen, q0, q1, q6, c1, ix i hil, hld]
    refine rsright_p ?_
    by_cases h0 : xs[i].right = 0
    · simp (disch := first | omega | ((simp only [nxBStreamCheck]) <;> omega) | decide) only [↓stepPre, stepPost, ↓W_cond, ↓W_block, ↓reduceIte, Nat.reduceEqDiff, Nat.reduceLT, Nat.reduceLeDiff, ret0, stVar, isTup, Value.cells, Nat.reduceAdd, Nat.reduceMul, Nat.reduceSub, env0, binV, intV, reduceCtorEq, pickV, nilCheckV, ptrV, unV, Rt, resultsV, allV, resV, calleeV, builtinV, eqV, fieldAddrV, ldVar, stN_own, stN_ownL, Int.reduceToNat, Int.reducePow, IntKind.bits, convV, Int.reduceNeg, Int.reduceAdd, Int.reduceSub, Int.reduceLT, Int.reduceLE, extractV, Int.reduceEq, mkFuncV, stBStreamCheck, spBStreamCheck, beq_self_eq_true, tyB0StreamCheck, hlen, q0, q1, q6, h0]
      exact ⟨hil, by simp, by rw [hf, fwd_skip hil (by rw [hrl, h0])]⟩
    · have hv : fst0 (rl1 xs) xs.length = ((i : Int), xs[i].right) := by unfold fst0; rw [hf, fwd_hit hil (by rw [hrl]; exact h0)]; simp [hrl]
      simp (disch := first | omega | ((simp only [nxBStreamCheck]) <;> omega) | decide) only [↓stepPre, stepPost, ↓W_cond, ↓W_block, ↓reduceIte, Nat.reduceEqDiff, Nat.reduceLT, Nat.reduceLeDiff, ret0, stVar, isTup, Value.cells, Nat.reduceAdd, Nat.reduceMul, Nat.reduceSub, env0, binV, intV, reduceCtorEq, pickV, nilCheckV, ptrV, unV, Rt, resultsV, allV, resV, calleeV, builtinV, eqV, fieldAddrV, ldVar, stN_own, stN_ownL, Int.reduceToNat, Int.reducePow, IntKind.bits, convV, Int.reduceNeg, Int.reduceAdd, Int.reduceSub, Int.reduceLT, Int.reduceLE, extractV, Int.reduceEq, mkFuncV, stBStreamCheck, spBStreamCheck, beq_self_eq_true, tyB0StreamCheck, hlen, q0, q1, q6, h0, hv]
      exact .inr trivial
  rintro x e t ⟨rfl, h⟩
  rcases h with ⟨rfl, q0, q1, e1⟩ | ⟨rfl, q4, q5, e1⟩
  rotate_left
  · have hc : chk xs l = fst0 (rl1 xs) xs.length := by simp only [chk, h64, if_false, hl, not_true_eq_false, e1, not_false_eq_true, if_true, ne_eq, and_self]
    rw [hc] at hR
    simp (disch := first | omega | ((simp only [nxBStreamCheck]) <;> omega) | decide) only [↓stepPre, stepPost, ↓W_cond, ↓W_block, ↓reduceIte, Nat.reduceEqDiff, Nat.reduceLT, Nat.reduceLeDiff, ret0, stVar, isTup, Value.cells, Nat.reduceAdd, Nat.reduceMul, Nat.reduceSub, env0, binV, intV, reduceCtorEq, pickV, nilCheckV, ptrV, unV, Rt, resultsV, allV, resV, calleeV, builtinV, eqV, fieldAddrV, ldVar, stN_own, stN_ownL, Int.reduceToNat, Int.reducePow, IntKind.bits, convV, Int.reduceNeg, Int.reduceAdd, Int.reduceSub, Int.reduceLT, Int.reduceLE, extractV, Int.reduceEq, mkFuncV, stBStreamCheck, spBStreamCheck, beq_self_eq_true, tyB0StreamCheck, q4, q5, Tryz.results48]
    exact hR
  simp (disch := first | omega | ((simp only [nxBStreamCheck]) <;> omega) | decide) only [↓stepPre, stepPost, ↓W_cond, ↓W_block, ↓reduceIte, Nat.reduceEqDiff, Nat.reduceLT, Nat.reduceLeDiff, ret0, stVar, isTup, Value.cells, Nat.reduceAdd, Nat.reduceMul, Nat.reduceSub, env0, binV, intV, reduceCtorEq, pickV, nilCheckV, ptrV, unV, Rt, resultsV, allV, resV, calleeV, builtinV, eqV, fieldAddrV, ldVar, stN_own, stN_ownL, Int.reduceToNat, Int.reducePow, IntKind.bits, convV, Int.reduceNeg, Int.reduceAdd, Int.reduceSub, Int.reduceLT, Int.reduceLE, extractV, Int.reduceEq, mkFuncV, stBStreamCheck, spBStreamCheck, beq_self_eq_true, tyB0StreamCheck, q0, q1]
  have cell : ∀ i : Nat, (hi : i < xs.length) → ∃ b o n c, v = .slice (some ⟨b, o, none⟩) n c := fun i hi => hs.conc (by intro h; have := congrArg List.length h; simp only [smL_len, List.length_nil] at this; omega)
  refine W_loop_inv xs.length (fun i e t' => t' = t ∧ e 0 = v ∧ e 1 = .int .i64 l ∧ e 8 = .int .i64 (i : Int) ∧ fwd (rl2 xs) 0 xs.length = fwd (rl2 xs) i (xs.length - i))
    (fun x e t' => t' = t ∧ ((x = .exit 2 ∧ e 0 = v ∧ e 1 = .int .i64 l ∧ (fst0 (rl2 xs) xs.length).2 = 0) ∨ (x = .ret ∧ e 4 = .int .i64 (fst0 (rl2 xs) xs.length).1 ∧ e 5 = .int .i64 (fst0 (rl2 xs) xs.length).2 ∧ (fst0 (rl2 xs) xs.length).2 ≠ 0))) ?_ ⟨rfl, q0, q1, rfl, rfl⟩ ?_
  · rintro i e t' hi ⟨rfl, q0, q1, q8, hf⟩
    by_cases hil : i < xs.length
    rotate_left
    · have c1 : ¬ (i : Int) < (xs.length : Int) := by omega
      have hv : fst0 (rl2 xs) xs.length = (0, 0) := by unfold fst0; rw [hf, show xs.length - i = 0 by omega]; rfl
      simp (disch := first | omega | ((simp only [nxBStreamCheck]) <;> omega) | decide) only [↓stepPre, stepPost, ↓W_cond, ↓W_block, ↓reduceIte, Nat.reduceEqDiff, Nat.reduceLT, Nat.reduceLeDiff, ret0, stVar, isTup, Value.cells, Nat.reduceAdd, Nat.reduceMul, Nat.reduceSub, env0, binV, intV, reduceCtorEq, pickV, nilCheckV, ptrV, unV, Rt, resultsV, allV, resV, calleeV, builtinV, eqV, fieldAddrV, ldVar, stN_own, stN_ownL, Int.reduceToNat, Int.reducePow, IntKind.bits, convV, Int.reduceNeg, Int.reduceAdd, Int.reduceSub, Int.reduceLT, Int.reduceLE, extractV, Int.reduceEq, mkFuncV, stBStreamCheck, spBStreamCheck, beq_self_eq_true, tyB0StreamCheck, hlen, q0, q1, q8, c1, hv]
      exact .inl trivial
    have c1 : (i : Int) < (xs.length : Int) := by omega
    obtain ⟨b, o, n', c', rfl⟩ := cell i hil
    have hix := ix i hil
    simp only [atP_conc] at hix
    have hld := hs.lds0 (smL_at hil) (x := .int .i64 xs[i].id) rfl
    have hfl := findS_le hil
    rw [atS_eq hil] at hfl
    simp (disch := first | omega | ((simp only [nxBStreamCheck]) <;> omega) | decide) only [↓stepPre, stepPost, ↓W_cond, ↓W_block, ↓reduceIte, Nat.reduceEqDiff, Nat.reduceLT, Nat.reduceLeDiff, ret0, stVar, isTup, Value.cells, Nat.reduceAdd, Nat.reduceMul, Nat.reduceSub, env0, binV, intV, reduceCtorEq, pickV, nilCheckV, ptrV, unV, Rt, resultsV, allV, resV, calleeV, builtinV, eqV, fieldAddrV, ldVar, stN_own, stN_ownL, Int.reduceToNat, Int.reducePow, IntKind.bits, convV, Int.reduceNeg, Int.reduceAdd, Int.reduceSub, Int.reduceLT, Int.reduceLE, extractV, Int.reduceEq, mkFuncV, stBStreamCheck, spBStreamCheck, beq_self_eq_true, tyB0StreamCheck, hlen, q0, q1, q8, c1, hix, hld]
    refine srfind_p hs (by omega) ?_
    by_cases h0 : findS xs xs[i].id = i
    · have hrl : rl2 xs i = 0 := by simp [rl2, atS_eq hil, h0]
      have c2 : ¬ (i : Int) < (i : Int) := by omega
      simp (disch := first | omega | ((simp only [nxBStreamCheck]) <;> omega) | decide) only [↓stepPre, stepPost, ↓W_cond, ↓W_block, ↓reduceIte, Nat.reduceEqDiff, Nat.reduceLT, Nat.reduceLeDiff, ret0, stVar, isTup, Value.cells, Nat.reduceAdd, Nat.reduceMul, Nat.reduceSub, env0, binV, intV, reduceCtorEq, pickV, nilCheckV, ptrV, unV, Rt, resultsV, allV, resV, calleeV, builtinV, eqV, fieldAddrV, ldVar, stN_own, stN_ownL, Int.reduceToNat, Int.reducePow, IntKind.bits, convV, Int.reduceNeg, Int.reduceAdd, Int.reduceSub, Int.reduceLT, Int.reduceLE, extractV, Int.reduceEq, mkFuncV, stBStreamCheck, spBStreamCheck, beq_self_eq_true, tyB0StreamCheck, hlen, q0, q1, q8, h0, c2]
      exact ⟨hil, by simp, by rw [hf, fwd_skip hil hrl]⟩
    · have hrl : rl2 xs i = 13 := by simp [rl2, atS_eq hil, h0]
      have c2 : findS xs xs[i].id < (i : Int) := by omega
      have hv : fst0 (rl2 xs) xs.length = ((i : Int), 13) := by unfold fst0; rw [hf, fwd_hit hil (by rw [hrl]; decide)]; simp [hrl]
      simp (disch := first | omega | ((simp only [nxBStreamCheck]) <;> omega) | decide) only [↓stepPre, stepPost, ↓W_cond, ↓W_block, ↓reduceIte, Nat.reduceEqDiff, Nat.reduceLT, Nat.reduceLeDiff, ret0, stVar, isTup, Value.cells, Nat.reduceAdd, Nat.reduceMul, Nat.reduceSub, env0, binV, intV, reduceCtorEq, pickV, nilCheckV, ptrV, unV, Rt, resultsV, allV, resV, calleeV, builtinV, eqV, fieldAddrV, ldVar, stN_own, stN_ownL, Int.reduceToNat, Int.reducePow, IntKind.bits, convV, Int.reduceNeg, Int.reduceAdd, Int.reduceSub, Int.reduceLT, Int.reduceLE, extractV, Int.reduceEq, mkFuncV, stBStreamCheck, spBStreamCheck, beq_self_eq_true, tyB0StreamCheck, hlen, q0, q1, q8, c2, hv]
      exact .inr trivial
  rintro x e t' ⟨rfl, h⟩
  rcases h with ⟨rfl, q0, q1, e2⟩ | ⟨rfl, q4, q5, e2⟩
  rotate_left
  · have hc : chk xs l = fst0 (rl2 xs) xs.length := by simp only [chk, h64, if_false, hl, not_true_eq_false, e1, e2, not_false_eq_true, if_true, ne_eq, and_self]
    rw [hc] at hR
    simp (disch := first | omega | ((simp only [nxBStreamCheck]) <;> omega) | decide) only [↓stepPre, stepPost, ↓W_cond, ↓W_block, ↓reduceIte, Nat.reduceEqDiff, Nat.reduceLT, Nat.reduceLeDiff, ret0, stVar, isTup, Value.cells, Nat.reduceAdd, Nat.reduceMul, Nat.reduceSub, env0, binV, intV, reduceCtorEq, pickV, nilCheckV, ptrV, unV, Rt, resultsV, allV, resV, calleeV, builtinV, eqV, fieldAddrV, ldVar, stN_own, stN_ownL, Int.reduceToNat, Int.reducePow, IntKind.bits, convV, Int.reduceNeg, Int.reduceAdd, Int.reduceSub, Int.reduceLT, Int.reduceLE, extractV, Int.reduceEq, mkFuncV, stBStreamCheck, spBStreamCheck, beq_self_eq_true, tyB0StreamCheck, q4, q5, Tryz.results48]
    exact hR
  simp (disch := first | omega | ((simp only [nxBStreamCheck]) <;> omega) | decide) only [↓stepPre, stepPost, ↓W_cond, ↓W_block, ↓reduceIte, Nat.reduceEqDiff, Nat.reduceLT, Nat.reduceLeDiff, ret0, stVar, isTup, Value.cells, Nat.reduceAdd, Nat.reduceMul, Nat.reduceSub, env0, binV, intV, reduceCtorEq, pickV, nilCheckV, ptrV, unV, Rt, resultsV, allV, resV, calleeV, builtinV, eqV, fieldAddrV, ldVar, stN_own, stN_ownL, Int.reduceToNat, Int.reducePow, IntKind.bits, convV, Int.reduceNeg, Int.reduceAdd, Int.reduceSub, Int.reduceLT, Int.reduceLE, extractV, Int.reduceEq, mkFuncV, stBStreamCheck, spBStreamCheck, beq_self_eq_true, tyB0StreamCheck, q0, q1]
  refine W_loop_inv xs.length (fun i e t => t = t' ∧ e 0 = v ∧ e 1 = .int .i64 l ∧ e 9 = .int .i64 (i : Int) ∧ fwd (rl3 xs l) 0 xs.length = fwd (rl3 xs l) i (xs.length - i))
    (fun x e t => t = t' ∧ ((x = .exit 4 ∧ e 0 = v ∧ e 1 = .int .i64 l ∧ (fst0 (rl3 xs l) xs.length).2 = 0) ∨ (x = .ret ∧ e 4 = .int .i64 (fst0 (rl3 xs l) xs.length).1 ∧ e 5 = .int .i64 (fst0 (rl3 xs l) xs.length).2 ∧ (fst0 (rl3 xs l) xs.length).2 ≠ 0))) ?_ ⟨rfl, q0, q1, rfl, rfl⟩ ?_
  · rintro i e t hi ⟨rfl, q0, q1, q9, hf⟩
    by_cases hil : i < xs.length
    rotate_left
    · have c1 : ¬ (i : Int) < (xs.length : Int) := by omega
      have hv : fst0 (rl3 xs l) xs.length = (0, 0) := by unfold fst0; rw [hf, show xs.length - i = 0 by omega]; rfl
      simp (disch := first | omega | ((simp only [nxBStreamCheck]) <;> omega) | decide) only [↓stepPre, stepPost, ↓W_cond, ↓W_block, ↓reduceIte, Nat.reduceEqDiff, Nat.reduceLT, Nat.reduceLeDiff, ret0, stVar, isTup, Value.cells, Nat.reduceAdd, Nat.reduceMul, Nat.reduceSub, env0, binV, intV, reduceCtorEq, pickV, nilCheckV, ptrV, unV, Rt, resultsV, allV, resV, calleeV, builtinV, eqV, fieldAddrV, ldVar, stN_own, stN_ownL, Int.reduceToNat, Int.reducePow, IntKind.bits, convV, Int.reduceNeg, Int.reduceAdd, Int.reduceSub, Int.reduceLT, Int.reduceLE, extractV, Int.reduceEq, mkFuncV, stBStreamCheck, spBStreamCheck, beq_self_eq_true, tyB0StreamCheck, hlen, q0, q1, q9, c1, hv]
      exact .inl trivial
    have c1 : (i : Int) < (xs.length : Int) := by omega
    obtain ⟨b, o, n', c', rfl⟩ := cell i hil
    have hix := ix i hil
    simp only [atP_conc] at hix
    have hl2 := hs.lds (k := 2) (smL_at hil) (x := .int .i64 xs[i].cl) rfl
    have hl4 := hs.lds (k := 4) (smL_at hil) (x := .int .i64 xs[i].de) rfl
    by_cases h0 : xs[i].cl = 1
    rotate_left
    · have hrl : rl3 xs l i = 0 := by simp [rl3, atS_eq hil, h0]
      simp (disch := first | omega | ((simp only [nxBStreamCheck]) <;> omega) | decide) only [↓stepPre, stepPost, ↓W_cond, ↓W_block, ↓reduceIte, Nat.reduceEqDiff, Nat.reduceLT, Nat.reduceLeDiff, ret0, stVar, isTup, Value.cells, Nat.reduceAdd, Nat.reduceMul, Nat.reduceSub, env0, binV, intV, reduceCtorEq, pickV, nilCheckV, ptrV, unV, Rt, resultsV, allV, resV, calleeV, builtinV, eqV, fieldAddrV, ldVar, stN_own, stN_ownL, Int.reduceToNat, Int.reducePow, IntKind.bits, convV, Int.reduceNeg, Int.reduceAdd, Int.reduceSub, Int.reduceLT, Int.reduceLE, extractV, Int.reduceEq, mkFuncV, stBStreamCheck, spBStreamCheck, beq_self_eq_true, tyB0StreamCheck, hlen, q0, q1, q9, c1, hix, hl2, hl4, h0]
      exact ⟨hil, by simp, by rw [hf, fwd_skip hil hrl]⟩
    rw [h0] at hl2
    by_cases h3 : xs[i].de < l
    · have hrl : rl3 xs l i = 9 := by simp [rl3, atS_eq hil, h0, h3]
      have hv : fst0 (rl3 xs l) xs.length = ((i : Int), 9) := by unfold fst0; rw [hf, fwd_hit hil (by rw [hrl]; decide)]; simp [hrl]
      simp (disch := first | omega | ((simp only [nxBStreamCheck]) <;> omega) | decide) only [↓stepPre, stepPost, ↓W_cond, ↓W_block, ↓reduceIte, Nat.reduceEqDiff, Nat.reduceLT, Nat.reduceLeDiff, ret0, stVar, isTup, Value.cells, Nat.reduceAdd, Nat.reduceMul, Nat.reduceSub, env0, binV, intV, reduceCtorEq, pickV, nilCheckV, ptrV, unV, Rt, resultsV, allV, resV, calleeV, builtinV, eqV, fieldAddrV, ldVar, stN_own, stN_ownL, Int.reduceToNat, Int.reducePow, IntKind.bits, convV, Int.reduceNeg, Int.reduceAdd, Int.reduceSub, Int.reduceLT, Int.reduceLE, extractV, Int.reduceEq, mkFuncV, stBStreamCheck, spBStreamCheck, beq_self_eq_true, tyB0StreamCheck, hlen, q0, q1, q9, c1, hix, hl2, hl4, h3, hv]
      exact .inr trivial
    · have hrl : rl3 xs l i = 0 := by simp [rl3, atS_eq hil, h3]
      simp (disch := first | omega | ((simp only [nxBStreamCheck]) <;> omega) | decide) only [↓stepPre, stepPost, ↓W_cond, ↓W_block, ↓reduceIte, Nat.reduceEqDiff, Nat.reduceLT, Nat.reduceLeDiff, ret0, stVar, isTup, Value.cells, Nat.reduceAdd, Nat.reduceMul, Nat.reduceSub, env0, binV, intV, reduceCtorEq, pickV, nilCheckV, ptrV, unV, Rt, resultsV, allV, resV, calleeV, builtinV, eqV, fieldAddrV, ldVar, stN_own, stN_ownL, Int.reduceToNat, Int.reducePow, IntKind.bits, convV, Int.reduceNeg, Int.reduceAdd, Int.reduceSub, Int.reduceLT, Int.reduceLE, extractV, Int.reduceEq, mkFuncV, stBStreamCheck, spBStreamCheck, beq_self_eq_true, tyB0StreamCheck, hlen, q0, q1, q9, c1, hix, hl2, hl4, h3]
      exact ⟨hil, by simp, by rw [hf, fwd_skip hil hrl]⟩
  rintro x e t ⟨rfl, h⟩
  rcases h with ⟨rfl, q0, q1, e3⟩ | ⟨rfl, q4, q5, e3⟩
  rotate_left
  · have hc : chk xs l = fst0 (rl3 xs l) xs.length := by simp only [chk, h64, if_false, hl, not_true_eq_false, e1, e2, e3, not_false_eq_true, if_true, ne_eq, and_self]
    rw [hc] at hR
    simp (disch := first | omega | ((simp only [nxBStreamCheck]) <;> omega) | decide) only [↓stepPre, stepPost, ↓W_cond, ↓W_block, ↓reduceIte, Nat.reduceEqDiff, Nat.reduceLT, Nat.reduceLeDiff, ret0, stVar, isTup, Value.cells, Nat.reduceAdd, Nat.reduceMul, Nat.reduceSub, env0, binV, intV, reduceCtorEq, pickV, nilCheckV, ptrV, unV, Rt, resultsV, allV, resV, calleeV, builtinV, eqV, fieldAddrV, ldVar, stN_own, stN_ownL, Int.reduceToNat, Int.reducePow, IntKind.bits, convV, Int.reduceNeg, Int.reduceAdd, Int.reduceSub, Int.reduceLT, Int.reduceLE, extractV, Int.reduceEq, mkFuncV, stBStreamCheck, spBStreamCheck, beq_self_eq_true, tyB0StreamCheck, q4, q5, Tryz.results48]
    exact hR
  have hc : chk xs l = ((xs.length : Int), 0) := by simp only [chk, h64, if_false, hl, not_true_eq_false, e1, e2, e3, ne_eq, and_self]
  rw [hc] at hR
  simp (disch := first | omega | ((simp only [nxBStreamCheck]) <;> omega) | decide) only [↓stepPre, stepPost, ↓W_cond, ↓W_block, ↓reduceIte, Nat.reduceEqDiff, Nat.reduceLT, Nat.reduceLeDiff, ret0, stVar, isTup, Value.cells, Nat.reduceAdd, Nat.reduceMul, Nat.reduceSub, env0, binV, intV, reduceCtorEq, pickV, nilCheckV, ptrV, unV, Rt, resultsV, allV, resV, calleeV, builtinV, eqV, fieldAddrV, ldVar, stN_own, stN_ownL, Int.reduceToNat, Int.reducePow, IntKind.bits, convV, Int.reduceNeg, Int.reduceAdd, Int.reduceSub, Int.reduceLT, Int.reduceLE, extractV, Int.reduceEq, mkFuncV, stBStreamCheck, spBStreamCheck, beq_self_eq_true, tyB0StreamCheck, q0, q1, hlen, Tryz.results48]
  exact hR
end Go.Proofs.YthjpfllmecpliaaGreatDoor
