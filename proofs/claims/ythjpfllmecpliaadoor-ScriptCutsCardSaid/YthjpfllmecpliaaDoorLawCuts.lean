/- The law ScriptCuts, as a run of the abstract machine. -/
import Derived.Test.YthjpfllmecpliaaDoorTypes
import Derived.Test.YthjpfllmecpliaaDoorRow0
import Derived.Test.YthjpfllmecpliaaDoorAbC
import Derived.Test.YthjpfllmecpliaaDoorPure
import Derived.Test.YthjpfllmecpliaaDoorBoxes
import Derived.Test.YthjpfllmecpliaaDoorLaid0
import Derived.Test.YthjpfllmecpliaaDoorScrArg
import Derived.Test.YthjpfllmecpliaaDoorScrLive
import Derived.Test.YthjpfllmecpliaaDoorScrCutP
import Derived.Test.YthjpfllmecpliaaDoorPlant29
set_option linter.all false
set_option maxRecDepth 20000
namespace Go.Proofs.YthjpfllmecpliaaDoor
open Go Go.Ab
def nxBLawCuts := And.intro @Ab.next_alloc (And.intro @Ab.next_upd (And.intro @List.length_cons.{0} (And.intro @List.length_nil.{0} (And.intro @ne_eq.{1} (And.intro not_true_eq_false not_false_eq_true)))))
def tyB0LawCuts := And.intro @Ty.t9 (And.intro @Tryd.underlying9 (And.intro @Ty.t5 (And.intro @Tryd.underlying5 (And.intro @Ty.t39 (And.intro @Tryd.underlying39 (And.intro @Ty.t55 (And.intro @Tryd.underlying55 (And.intro @Ty.t22 (And.intro @Tryd.underlying22 (And.intro @Ty.t45 (And.intro @Tryd.underlying45 (And.intro @Ty.t27 (And.intro @Tryd.underlying27 (And.intro @Ty.t26 (And.intro @Tryd.underlying26 (And.intro @Ty.t33 (And.intro @Tryd.underlying33 (And.intro @Ty.t3 (And.intro @Tryd.underlying3 (And.intro @Ty.t2 (And.intro @Tryd.underlying2 (And.intro @Ty.t4 (And.intro @Tryd.underlying4 (And.intro @Ty.t29 @Tryd.underlying29))))))))))))))))))))))))
def stBLawCuts := And.intro @List.size_toArray.{0} (And.intro @List.length_cons.{0} (And.intro @List.length_nil.{0} (And.intro @List.set_cons_zero.{0} (And.intro @List.set_cons_succ.{0} (And.intro @List.getD_cons_zero.{0} (And.intro @List.getD_cons_succ.{0} (And.intro @List.getElem?_cons_succ.{0} (And.intro @List.getElem?_cons_zero.{0} (And.intro @List.map_cons.{0,0} (And.intro @List.map_nil.{0,0} (And.intro @Option.isNone_none.{0} (And.intro @Option.isNone_some.{0} (And.intro @Option.map_some.{0,0} (And.intro @Option.map_none.{0,0} (And.intro @List.cons_append.{0} (And.intro @List.nil_append.{0} (And.intro @List.append_nil.{0} (And.intro @Array.toList_append.{0} (And.intro @List.toList_toArray.{0} (And.intro @Int.cast_ofNat_Int (And.intro @Option.isSome_some.{0} (And.intro @List.getElem?_toArray.{0} (And.intro @List.map_toArray.{0,0} (@Nat.min_eq_left))))))))))))))))))))))))
def glBLawCuts := And.intro @List.drop_zero.{0} (And.intro @List.drop_succ_cons.{0} (And.intro @List.take_succ_cons.{0} (And.intro @List.take_zero.{0} (@List.take_nil.{0}))))
theorem laidC_ok {W : World} (hs : W.ShapedOpen Tryd.prog) (h : laidMetH Tryd.prog laidVars W) : LaidOk W.heap.size (St0 W) := by
  obtain ⟨⟨u, a1, a2, a3⟩, ⟨v, b1, b2, b3⟩⟩ := of_laid h
  exact ⟨⟨u, a1, a2, a3⟩, ⟨v, b1, b2, b3⟩, (of_shaped hs).2⟩
theorem app_ac {base : Nat} [Bok base] {s : St} {u : Value} {l : List Ac} {a : Ac} (hs : Sl base s 11 u (acL l)) (ht : Tight base u) (ha : a.good) (hbn : base ≤ s.next) (hl : l.length ≤ 2000) :
    buildSliceV Tryd.prog s 27 1 [(0, .agg a.c.toArray)] = some (.slice (some ⟨s.next, 0, none⟩) 1 1, s.alloc (.row a.c)) ∧ ∃ va vn vc s', appendB Tryd.prog base (s.alloc (.row a.c)) [27, 27] [u, .slice (some ⟨s.next, 0, none⟩) 1 1] = some (.slice va vn vc, s') ∧ Sl base s' 11 (.slice va vn vc) (acL (l ++ [a])) ∧ Tight base (.slice va vn vc) ∧ (∀ b, inB (.slice va vn vc) b → s.next ≤ b) ∧ Ch s s' (inB u) ∧ s.next + 1 ≤ s'.next := sc_app11 hs ht ha hbn hl
/-- The acts that can be. -/
def actsF (l : List Ac) (i : Nat) : List Ac := (l.take i).filter Ac.right
theorem actsF_succ (l : List Ac) {i : Nat} (h : i < l.length) : actsF l (i + 1) = if l[i].right = true then actsF l i ++ [l[i]] else actsF l i := by
  unfold actsF
  rw [List.take_succ_eq_append_getElem h, List.filter_append]
  by_cases hr : l[i].right = true
  · rw [if_pos hr]; simp [hr]
  · rw [if_neg hr]; simp [hr]
theorem actsF_le (l : List Ac) (i : Nat) : (actsF l i).length ≤ i := by
  unfold actsF
  refine Nat.le_trans (List.length_filter_le _ _) ?_
  rw [List.length_take]; omega
theorem wiL_take {t : List UInt8} {i : Nat} (h : i < t.length) : wiL (t.take (i + 1)) = decide (t[i] ≠ 10) := by
  rw [List.take_succ_eq_append_getElem h, wiL_snoc]
theorem cnt_take {t : List UInt8} {i : Nat} (h : i < t.length) : (t.take (i + 1)).count 10 = (t.take i).count 10 + (if t[i] = 10 then 1 else 0) := by
  rw [List.take_succ_eq_append_getElem h, List.count_append, List.count_cons, List.count_nil]
  by_cases hc : t[i] = 10
  · simp [hc]
  · simp [hc]
theorem u8_ne {c : UInt8} : (¬ ((c.toNat : Nat) : Int) = 10) ↔ c ≠ 10 := by
  constructor
  · intro h hc; subst hc; exact h rfl
  · intro h hc; apply h; apply UInt8.toNat_inj.1; show c.toNat = 10; omega
theorem scriptCuts_law (W : World) (args : List Value) (hshape : W.ShapedOpen Tryd.prog) (hlaid : laidMetH Tryd.prog laidVars W) (ha : ArgsR Tryd.prog W Tryd.f4.params.toList args) : WC Tryd.prog W.heap.size 4 args (St0 W) (fun v _ => v = .bool true) := by
  have hL := laidC_ok hshape hlaid
  have hB : Bok W.heap.size := ⟨(of_shaped hshape).1⟩
  obtain ⟨v0, _, rfl, a1, ha⟩ := args_cons (show ArgsR Tryd.prog W [26, 27, 39] args from ha)
  obtain ⟨u, _, rfl, a2, ha⟩ := args_cons ha
  obtain ⟨v3, _, rfl, a3, ha⟩ := args_cons ha
  obtain rfl := args_nil ha
  obtain ⟨p, v, rfl, hs, hnx, hnm⟩ := plant_arg a1
  obtain ⟨l, hu, hnl, hg⟩ := acts_arg a2
  obtain ⟨at_, rfl, hat⟩ : ∃ n : Nat, v3 = .int .u16 (n : Int) ∧ n < 65536 := by
    obtain ⟨r1, -⟩ := arg_one a3 (by kernel_rfl : flat Tryd.prog 16 39 = some [.int .u16]) (by kernel_rfl)
    obtain ⟨n, rfl, w⟩ := (by simpa only [okCell] using r1 : ∃ n, v3 = .int .u16 n ∧ _)
    have := wf_int w
    have h1 : IntKind.u16.min = 0 := by decide
    have h2 : IntKind.u16.max = 65535 := by decide
    exact ⟨n.toNat, by rw [Int.toNat_of_nonneg (by omega)], by omega⟩
  have hnxt : (St0 W).next = W.heap.size := rfl
  clear a1 a2 a3 hlaid hshape
  generalize St0 W = s at hL hs hu hnxt
  refine WC_open Tryd.func4 rfl ?_
  have m0 := Mild.alloc s (.row (p.c v))
  have c0 := Ab.heap_alloc_new s (.row (p.c v))
  have n0 := Ab.next_alloc s (.row (p.c v))
  have hF0 := eqV_same (P := Tryd.prog) (t := 33) (l := [.int .i64 0, .int .i64 0]) Ty.kd33 Ty.eqg33 Ty.agg33 rfl
  simp (disch := first | omega | ((simp only [nxBLawCuts]) <;> omega) | decide) only [↓stepPre, stepPost, ↓W_cond, ↓W_block, ↓reduceIte, Nat.reduceEqDiff, Nat.reduceLT, Nat.reduceLeDiff, ret0, stVar, isTup, Value.cells, Nat.le_refl, Nat.reduceAdd, Nat.reduceMul, Nat.reduceSub, env0, binV, intV, reduceCtorEq, pickV, nilCheckV, ptrV, unV, true_and, and_true, Nat.add_zero, Nat.zero_add, Rt, resultsV, allV, resV, Bool.not_true, Bool.not_false, calleeV, builtinV, eqV, fieldAddrV, ldVar, stN_own, stN_ownL, Int.fdiv_eq_ediv_of_nonneg, Int.reduceToNat, Int.reducePow, IntKind.bits, convV, ne_eq, not_false_eq_true, not_true_eq_false, Int.reduceNeg, Int.reduceAdd, Int.reduceSub, Int.reduceLT, Int.reduceLE, extractV, decide_true, decide_false, Int.reduceEq, mkFuncV, stBLawCuts, beq_self_eq_true, tyB0LawCuts, getL_take, glBLawCuts]
  generalize s.alloc (.row (p.c v)) = s1 at m0 c0 n0 ⊢
  refine plant29_ok (hs.mild m0) hnx (by omega) fun s2 w m2 l2 b2 => ?_
  have n2 := m2.next
  have c2 := (m2.heap s.next (by omega)).trans c0
  obtain ⟨wa, wn, wc, rfl⟩ := l2.shape
  generalize hq : plantF p = q at l2
  simp (disch := first | omega | ((simp only [nxBLawCuts]) <;> omega) | decide) only [↓stepPre, stepPost, ↓W_cond, ↓W_block, ↓reduceIte, Nat.reduceEqDiff, Nat.reduceLT, Nat.reduceLeDiff, ret0, stVar, isTup, Value.cells, Nat.le_refl, Nat.reduceAdd, Nat.reduceMul, Nat.reduceSub, env0, binV, intV, reduceCtorEq, pickV, nilCheckV, ptrV, unV, true_and, and_true, Nat.add_zero, Nat.zero_add, Rt, resultsV, allV, resV, Bool.not_true, Bool.not_false, calleeV, builtinV, eqV, fieldAddrV, ldVar, stN_own, stN_ownL, Int.fdiv_eq_ediv_of_nonneg, Int.reduceToNat, Int.reducePow, IntKind.bits, convV, ne_eq, not_false_eq_true, not_true_eq_false, Int.reduceNeg, Int.reduceAdd, Int.reduceSub, Int.reduceLT, Int.reduceLE, extractV, decide_true, decide_false, Int.reduceEq, mkFuncV, stBLawCuts, beq_self_eq_true, tyB0LawCuts, getL_take, glBLawCuts, c2, putAt_row]
  generalize hS : s2.upd s.next _ = s3
  have q3 : s3.heap s.next = .row (q.c (.slice wa wn wc)) := by rw [← hS]; exact Ab.heap_upd_same _ _ _
  have ch3 : Ch s2 s3 (fun k => k = s.next) := by rw [← hS]; exact Ch.upd' (.refl _ _) fun _ => rfl
  have n3 : s3.next = s2.next := by rw [← hS]; rfl
  clear hS
  have M3 : Mild s s3 := (Ch.after (Ch.of_mild (m0.trans m2) (fun k => k = s.next)) ch3 fun k _ h => h).mild fun k hk h => by omega
  have l3 : Sl W.heap.size s3 7 (.slice wa wn wc) (smL q.xs) := l2.ch ch3 fun k hk h => by have := b2 k hk; omega
  clear l2 c2 ch3
  have hlu := fun {t : St} (m : Mild s t) => (hu.mild m).len (P := Tryd.prog) (ts := []) Ty.elem27 Ty.arr27
  simp only [acL_len] at hlu
  have hchk : ∀ j, plChk { q with xs := q.xs.take j } = 0 := fun j => by rw [← hq]; exact plant_chk p j
  have hq0 : plChk q = 0 := by have := hchk q.xs.length; rw [List.take_length] at this; exact this
  have hqn : 0 ≤ q.nm := by have := (plChk_fine hq0).nm; omega
  have hqx := (plChk_fine hq0).xs
  obtain ⟨mn, hmn⟩ : ∃ m, m = min l.length 20 := ⟨_, rfl⟩
  refine W_loop_inv mn (fun i e t => e 1 = u ∧ e 2 = .int .u16 (at_ : Int) ∧ e 3 = .pointer (some ⟨s.next, 0, none⟩) ∧ e 8 = .int .i64 (i : Int) ∧ Mild s3 t ∧ ∃ w, e 7 = w ∧ Sl W.heap.size t 11 w (acL (actsF l i)) ∧ Tight W.heap.size w ∧ ∀ k, inB w k → s3.next ≤ k)
    (fun y e t => y = .exit 0 ∧ e 2 = .int .u16 (at_ : Int) ∧ e 3 = .pointer (some ⟨s.next, 0, none⟩) ∧ Mild s3 t ∧ ∃ w, e 7 = w ∧ Sl W.heap.size t 11 w (acL (actsF l mn))) ?_ ?_ ?_
  rotate_left
  · exact ⟨rfl, rfl, rfl, rfl, .refl _, _, rfl, .nil, trivial, fun k hk => hk.elim⟩
  rotate_left
  · rintro i e t hi ⟨h1, h2, h3, h8, M, w, h7, lw, tw, bw⟩
    have nM := M.next
    by_cases hil : i < l.length
    rotate_left
    · have g : ¬ (i : Int) < (l.length : Int) := by omega
      rw [show i = mn by omega] at lw
      simp (disch := first | omega | ((simp only [nxBLawCuts]) <;> omega) | decide) only [↓stepPre, stepPost, ↓W_cond, ↓W_block, ↓reduceIte, Nat.reduceEqDiff, Nat.reduceLT, Nat.reduceLeDiff, ret0, stVar, isTup, Value.cells, Nat.le_refl, Nat.reduceAdd, Nat.reduceMul, Nat.reduceSub, env0, binV, intV, reduceCtorEq, pickV, nilCheckV, ptrV, unV, true_and, and_true, Nat.add_zero, Nat.zero_add, Rt, resultsV, allV, resV, Bool.not_true, Bool.not_false, calleeV, builtinV, eqV, fieldAddrV, ldVar, stN_own, stN_ownL, Int.fdiv_eq_ediv_of_nonneg, Int.reduceToNat, Int.reducePow, IntKind.bits, convV, ne_eq, not_false_eq_true, not_true_eq_false, Int.reduceNeg, Int.reduceAdd, Int.reduceSub, Int.reduceLT, Int.reduceLE, extractV, decide_true, decide_false, Int.reduceEq, mkFuncV, stBLawCuts, beq_self_eq_true, tyB0LawCuts, getL_take, glBLawCuts, h1, h2, h3, h8, hlu (M3.trans M), g]
      exact ⟨M, w, h7, lw⟩
    have g : (i : Int) < (l.length : Int) := by omega
    by_cases hi20 : i < 20
    rotate_left
    · have g' : ¬ (i : Int) < 20 := by omega
      rw [show i = mn by omega] at lw
      simp (disch := first | omega | ((simp only [nxBLawCuts]) <;> omega) | decide) only [↓stepPre, stepPost, ↓W_cond, ↓W_block, ↓reduceIte, Nat.reduceEqDiff, Nat.reduceLT, Nat.reduceLeDiff, ret0, stVar, isTup, Value.cells, Nat.le_refl, Nat.reduceAdd, Nat.reduceMul, Nat.reduceSub, env0, binV, intV, reduceCtorEq, pickV, nilCheckV, ptrV, unV, true_and, and_true, Nat.add_zero, Nat.zero_add, Rt, resultsV, allV, resV, Bool.not_true, Bool.not_false, calleeV, builtinV, eqV, fieldAddrV, ldVar, stN_own, stN_ownL, Int.fdiv_eq_ediv_of_nonneg, Int.reduceToNat, Int.reducePow, IntKind.bits, convV, ne_eq, not_false_eq_true, not_true_eq_false, Int.reduceNeg, Int.reduceAdd, Int.reduceSub, Int.reduceLT, Int.reduceLE, extractV, decide_true, decide_false, Int.reduceEq, mkFuncV, stBLawCuts, beq_self_eq_true, tyB0LawCuts, getL_take, glBLawCuts, h1, h2, h3, h8, hlu (M3.trans M), g, g']
      exact ⟨M, w, h7, lw⟩
    have g' : (i : Int) < 20 := by omega
    have hsM := hu.mild (M3.trans M)
    have hix := hsM.index (P := Tryd.prog) (k := .i64) (i := (i : Int)) Ty.elem27 Ty.siz45 (by omega) (by rw [acL_len]; omega)
    rw [Int.toNat_natCast] at hix
    have hld := hsM.loadA (P := Tryd.prog) (acL_at hil) Ty.agg45 Ty.siz45
    have hgi := hg _ (List.getElem_mem hil)
    have hsu := actsF_succ l hil
    generalize l[i] = a at hld hgi hsu
    simp (disch := first | omega | ((simp only [nxBLawCuts]) <;> omega) | decide) only [↓stepPre, stepPost, ↓W_cond, ↓W_block, ↓reduceIte, Nat.reduceEqDiff, Nat.reduceLT, Nat.reduceLeDiff, ret0, stVar, isTup, Value.cells, Nat.le_refl, Nat.reduceAdd, Nat.reduceMul, Nat.reduceSub, env0, binV, intV, reduceCtorEq, pickV, nilCheckV, ptrV, unV, true_and, and_true, Nat.add_zero, Nat.zero_add, Rt, resultsV, allV, resV, Bool.not_true, Bool.not_false, calleeV, builtinV, eqV, fieldAddrV, ldVar, stN_own, stN_ownL, Int.fdiv_eq_ediv_of_nonneg, Int.reduceToNat, Int.reducePow, IntKind.bits, convV, ne_eq, not_false_eq_true, not_true_eq_false, Int.reduceNeg, Int.reduceAdd, Int.reduceSub, Int.reduceLT, Int.reduceLE, extractV, decide_true, decide_false, Int.reduceEq, mkFuncV, stBLawCuts, beq_self_eq_true, tyB0LawCuts, getL_take, glBLawCuts, h1, h2, h3, h8, hlu (M3.trans M), g, g', hix, hld]
    refine rright38_p hgi.1 ?_
    cases hr : rightA a.k a.K a.N a.ds
    · have hra : ¬ a.right = true := by show ¬ rightA a.k a.K a.N a.ds = true; rw [hr]; simp
      rw [if_neg hra] at hsu
      simp (disch := first | omega | ((simp only [nxBLawCuts]) <;> omega) | decide) only [↓stepPre, stepPost, ↓W_cond, ↓W_block, ↓reduceIte, Nat.reduceEqDiff, Nat.reduceLT, Nat.reduceLeDiff, ret0, stVar, isTup, Value.cells, Nat.le_refl, Nat.reduceAdd, Nat.reduceMul, Nat.reduceSub, env0, binV, intV, reduceCtorEq, pickV, nilCheckV, ptrV, unV, true_and, and_true, Nat.add_zero, Nat.zero_add, Rt, resultsV, allV, resV, Bool.not_true, Bool.not_false, calleeV, builtinV, eqV, fieldAddrV, ldVar, stN_own, stN_ownL, Int.fdiv_eq_ediv_of_nonneg, Int.reduceToNat, Int.reducePow, IntKind.bits, convV, ne_eq, not_false_eq_true, not_true_eq_false, Int.reduceNeg, Int.reduceAdd, Int.reduceSub, Int.reduceLT, Int.reduceLE, extractV, decide_true, decide_false, Int.reduceEq, mkFuncV, stBLawCuts, beq_self_eq_true, tyB0LawCuts, getL_take, glBLawCuts, h1, h2, h3, h8]
      exact ⟨by omega, by simp, M, w, h7, by rw [hsu]; exact lw, tw, bw⟩
    · have hra : a.right = true := hr
      rw [if_pos hra] at hsu
      have hle := actsF_le l i
      obtain ⟨eb, va, vn, vc, t', e1, e2, e3, e4, e5, e6⟩ := app_ac (a := a) lw tw hgi (by omega) (by omega)
      simp (disch := first | omega | ((simp only [nxBLawCuts]) <;> omega) | decide) only [↓stepPre, stepPost, ↓W_cond, ↓W_block, ↓reduceIte, Nat.reduceEqDiff, Nat.reduceLT, Nat.reduceLeDiff, ret0, stVar, isTup, Value.cells, Nat.le_refl, Nat.reduceAdd, Nat.reduceMul, Nat.reduceSub, env0, binV, intV, reduceCtorEq, pickV, nilCheckV, ptrV, unV, true_and, and_true, Nat.add_zero, Nat.zero_add, Rt, resultsV, allV, resV, Bool.not_true, Bool.not_false, calleeV, builtinV, eqV, fieldAddrV, ldVar, stN_own, stN_ownL, Int.fdiv_eq_ediv_of_nonneg, Int.reduceToNat, Int.reducePow, IntKind.bits, convV, ne_eq, not_false_eq_true, not_true_eq_false, Int.reduceNeg, Int.reduceAdd, Int.reduceSub, Int.reduceLT, Int.reduceLE, extractV, decide_true, decide_false, Int.reduceEq, mkFuncV, stBLawCuts, beq_self_eq_true, tyB0LawCuts, getL_take, glBLawCuts, h1, h2, h3, h7, h8, hix, hld, eb, e1]
      refine ⟨by omega, by simp, (Ch.after (Ch.of_mild M (fun k => s3.next ≤ k)) e5 fun k _ hk => bw k hk).mild fun k hk h => by omega, _, rfl, by rw [hsu]; exact e2, e3, fun k hk => by have := e4 k hk; omega⟩
  rintro y e t ⟨rfl, h2, h3, M, w, h7, lw⟩
  have nM := M.next
  have qM := (M.heap s.next (by omega)).trans q3
  have hgood : ∀ a ∈ actsF l mn, a.good ∧ a.right = true := fun a ha => by
    unfold actsF at ha
    obtain ⟨h1, h2⟩ := List.mem_filter.1 ha
    exact ⟨hg a (List.mem_of_mem_take h1), h2⟩
  have hacl := actsF_le l mn
  generalize actsF l mn = acts at lw hgood hacl
  have hE : printE q acts = 0 := printE_off hq0 (by omega) fun a ha => (hgood a ha).2
  simp (disch := first | omega | ((simp only [nxBLawCuts]) <;> omega) | decide) only [↓stepPre, stepPost, ↓W_cond, ↓W_block, ↓reduceIte, Nat.reduceEqDiff, Nat.reduceLT, Nat.reduceLeDiff, ret0, stVar, isTup, Value.cells, Nat.le_refl, Nat.reduceAdd, Nat.reduceMul, Nat.reduceSub, env0, binV, intV, reduceCtorEq, pickV, nilCheckV, ptrV, unV, true_and, and_true, Nat.add_zero, Nat.zero_add, Rt, resultsV, allV, resV, Bool.not_true, Bool.not_false, calleeV, builtinV, eqV, fieldAddrV, ldVar, stN_own, stN_ownL, Int.fdiv_eq_ediv_of_nonneg, Int.reduceToNat, Int.reducePow, IntKind.bits, convV, ne_eq, not_false_eq_true, not_true_eq_false, Int.reduceNeg, Int.reduceAdd, Int.reduceSub, Int.reduceLT, Int.reduceLE, extractV, decide_true, decide_false, Int.reduceEq, mkFuncV, stBLawCuts, beq_self_eq_true, tyB0LawCuts, getL_take, glBLawCuts, h2, h3, h7, qM]
  refine print38_all (p := q) (l3.mild M) lw (fun a ha => (hgood a ha).1) (by omega) (by omega) (by omega) (hL.mild (M3.trans M) (by omega)) (by omega) fun s4 m4 => ?_
  have hT : printT q acts = lfT (allL q acts) := by rw [printT, if_pos hE]
  have hlen : (lfT (allL q acts)).length ≤ 131072 ∧ 6 ≤ (lfT (allL q acts)).length := by
    have h1 := lfT_len (allL q acts) fun x hx => by
      unfold allL at hx
      rcases List.mem_append.1 hx with hx | hx
      · rcases List.mem_append.1 hx with hx | hx
        · exact row6_len (plChk_fine hq0) x hx
        · obtain ⟨y, hy, rfl⟩ := List.mem_map.1 hx; exact streamL_len ((plChk_fine hq0).fine y hy)
      · obtain ⟨y, hy, rfl⟩ := List.mem_map.1 hx; exact line_len (hgood y hy).1
    have h2 := lfT_big (allL q acts)
    have hc : (allL q acts).length = 6 + q.xs.length + acts.length := by unfold allL; simp [row6]; omega
    omega
  have hcut := fun k => cut_parse (p := q) (l := acts) (k := k) hchk hgood (by omega)
  rw [hE, hT]
  generalize lfT (allL q acts) = x at hlen hcut
  have n4 := m4.next
  have M4 := (M3.trans M).trans m4
  have hlx : ∀ ts, lenB Tryd.prog (9 :: ts) [.string (strB x)] = some (.int .i64 (x.length : Int)) := fun ts => lenStr Ty.str9 Ty.arr9
  have g0 : ¬ (x.length : Int) = 0 := by omega
  have hrem : (at_ : Int).tmod (x.length : Int) = ((at_ % x.length : Nat) : Int) := by rw [Int.tmod_eq_emod_of_nonneg (by omega)]; exact (Int.natCast_emod _ _).symm
  have hkl : at_ % x.length < x.length := Nat.mod_lt _ (by omega)
  simp (disch := first | omega | ((simp only [nxBLawCuts]) <;> omega) | decide) only [↓stepPre, stepPost, ↓W_cond, ↓W_block, ↓reduceIte, Nat.reduceEqDiff, Nat.reduceLT, Nat.reduceLeDiff, ret0, stVar, isTup, Value.cells, Nat.le_refl, Nat.reduceAdd, Nat.reduceMul, Nat.reduceSub, env0, binV, intV, reduceCtorEq, pickV, nilCheckV, ptrV, unV, true_and, and_true, Nat.add_zero, Nat.zero_add, Rt, resultsV, allV, resV, Bool.not_true, Bool.not_false, calleeV, builtinV, eqV, fieldAddrV, ldVar, stN_own, stN_ownL, Int.fdiv_eq_ediv_of_nonneg, Int.reduceToNat, Int.reducePow, IntKind.bits, convV, ne_eq, not_false_eq_true, not_true_eq_false, Int.reduceNeg, Int.reduceAdd, Int.reduceSub, Int.reduceLT, Int.reduceLE, extractV, decide_true, decide_false, Int.reduceEq, mkFuncV, stBLawCuts, beq_self_eq_true, tyB0LawCuts, getL_take, glBLawCuts, h2, hlx, g0, hrem]
  generalize at_ % x.length = k at hkl
  specialize hcut k (by omega)
  refine W_loop_inv k (fun i e t => t = s4 ∧ e 9 = .string (strB x) ∧ e 11 = .int .i64 (k : Int) ∧ e 12 = .int .i64 (((x.take i).count 10 : Nat) : Int) ∧ e 13 = .bool (wiL (x.take i)) ∧ e 14 = .int .i64 (i : Int))
    (fun y e t => y = .exit 2 ∧ t = s4 ∧ e 9 = .string (strB x) ∧ e 11 = .int .i64 (k : Int) ∧ e 12 = .int .i64 (((x.take k).count 10 : Nat) : Int) ∧ e 13 = .bool (wiL (x.take k))) ?_ ⟨rfl, rfl, rfl, rfl, rfl, rfl⟩ ?_
  · rintro i e t hi ⟨rfl, h9, h11, h12, h13, h14⟩
    by_cases hik : i < k
    rotate_left
    · have g : ¬ (i : Int) < (k : Int) := by omega
      obtain rfl : i = k := by omega
      simp (disch := first | omega | ((simp only [nxBLawCuts]) <;> omega) | decide) only [↓stepPre, stepPost, ↓W_cond, ↓W_block, ↓reduceIte, Nat.reduceEqDiff, Nat.reduceLT, Nat.reduceLeDiff, ret0, stVar, isTup, Value.cells, Nat.le_refl, Nat.reduceAdd, Nat.reduceMul, Nat.reduceSub, env0, binV, intV, reduceCtorEq, pickV, nilCheckV, ptrV, unV, true_and, and_true, Nat.add_zero, Nat.zero_add, Rt, resultsV, allV, resV, Bool.not_true, Bool.not_false, calleeV, builtinV, eqV, fieldAddrV, ldVar, stN_own, stN_ownL, Int.fdiv_eq_ediv_of_nonneg, Int.reduceToNat, Int.reducePow, IntKind.bits, convV, ne_eq, not_false_eq_true, not_true_eq_false, Int.reduceNeg, Int.reduceAdd, Int.reduceSub, Int.reduceLT, Int.reduceLE, extractV, decide_true, decide_false, Int.reduceEq, mkFuncV, stBLawCuts, beq_self_eq_true, tyB0LawCuts, getL_take, glBLawCuts, h9, h11, h12, h13, h14, g]
    have g : (i : Int) < (k : Int) := by omega
    have hix := idxStr (P := Tryd.prog) (t := 9) (l := x) (k := .i64) (i := (i : Int)) Ty.str9 (by omega) (by omega)
    rw [Int.toNat_natCast] at hix
    have hxi : x.getD i 0 = x[i]'(by omega) := by rw [List.getD_eq_getElem?_getD, List.getElem?_eq_getElem (by omega)]; rfl
    rw [hxi] at hix
    have hw := wiL_take (t := x) (i := i) (by omega)
    have hc := cnt_take (t := x) (i := i) (by omega)
    have hcb : (x.take i).count 10 ≤ 1000000 := Nat.le_trans List.count_le_length (by rw [List.length_take]; omega)
    generalize x[i]'(by omega) = c at hix hw hc
    by_cases hc10 : c = 10
    · subst hc10
      rw [decide_eq_false (by simp)] at hw
      rw [if_pos rfl] at hc
      have z : (((10 : UInt8).toNat : Nat) : Int) = 10 := rfl
      simp only [z] at hix
      simp (disch := first | omega | ((simp only [nxBLawCuts]) <;> omega) | decide) only [↓stepPre, stepPost, ↓W_cond, ↓W_block, ↓reduceIte, Nat.reduceEqDiff, Nat.reduceLT, Nat.reduceLeDiff, ret0, stVar, isTup, Value.cells, Nat.le_refl, Nat.reduceAdd, Nat.reduceMul, Nat.reduceSub, env0, binV, intV, reduceCtorEq, pickV, nilCheckV, ptrV, unV, true_and, and_true, Nat.add_zero, Nat.zero_add, Rt, resultsV, allV, resV, Bool.not_true, Bool.not_false, calleeV, builtinV, eqV, fieldAddrV, ldVar, stN_own, stN_ownL, Int.fdiv_eq_ediv_of_nonneg, Int.reduceToNat, Int.reducePow, IntKind.bits, convV, ne_eq, not_false_eq_true, not_true_eq_false, Int.reduceNeg, Int.reduceAdd, Int.reduceSub, Int.reduceLT, Int.reduceLE, extractV, decide_true, decide_false, Int.reduceEq, mkFuncV, stBLawCuts, beq_self_eq_true, tyB0LawCuts, getL_take, glBLawCuts, h9, h11, h12, h13, h14, g, hix, eq_self]
      exact ⟨hik, by rw [hc]; simp, by rw [hw], by simp⟩
    · rw [decide_eq_true hc10] at hw
      rw [if_neg hc10] at hc
      have g10 := u8_ne.2 hc10
      simp (disch := first | omega | ((simp only [nxBLawCuts]) <;> omega) | decide) only [↓stepPre, stepPost, ↓W_cond, ↓W_block, ↓reduceIte, Nat.reduceEqDiff, Nat.reduceLT, Nat.reduceLeDiff, ret0, stVar, isTup, Value.cells, Nat.le_refl, Nat.reduceAdd, Nat.reduceMul, Nat.reduceSub, env0, binV, intV, reduceCtorEq, pickV, nilCheckV, ptrV, unV, true_and, and_true, Nat.add_zero, Nat.zero_add, Rt, resultsV, allV, resV, Bool.not_true, Bool.not_false, calleeV, builtinV, eqV, fieldAddrV, ldVar, stN_own, stN_ownL, Int.fdiv_eq_ediv_of_nonneg, Int.reduceToNat, Int.reducePow, IntKind.bits, convV, ne_eq, not_false_eq_true, not_true_eq_false, Int.reduceNeg, Int.reduceAdd, Int.reduceSub, Int.reduceLT, Int.reduceLE, extractV, decide_true, decide_false, Int.reduceEq, mkFuncV, stBLawCuts, beq_self_eq_true, tyB0LawCuts, getL_take, glBLawCuts, h9, h11, h12, h13, h14, g, hix, g10]
      exact ⟨hik, by rw [hc]; simp, by rw [hw], by simp⟩
  rintro y e t ⟨rfl, rfl, h9, h11, h12, h13⟩
  have hsl := slcStrHi (P := Tryd.prog) (s := t) (t := 9) (l := x) (k' := .i64) (b := (k : Int)) Ty.str9 (by omega) (by omega)
  rw [Int.toNat_natCast] at hsl
  have hxk : (x.take k).length ≤ 131072 := by rw [List.length_take]; omega
  have hcb : (x.take k).count 10 ≤ 1000000 := Nat.le_trans List.count_le_length (by omega)
  generalize x.take k = z at hsl hcut h12 h13 hxk hcb
  generalize z.count 10 = ln at hcut h12 hcb
  have hF1 := eqV_same (P := Tryd.prog) (t := 33) (l := [.int .i64 12, .int .i64 (ln : Int)]) Ty.kd33 Ty.eqg33 Ty.agg33 rfl
  simp (disch := first | omega | ((simp only [nxBLawCuts]) <;> omega) | decide) only [↓stepPre, stepPost, ↓W_cond, ↓W_block, ↓reduceIte, Nat.reduceEqDiff, Nat.reduceLT, Nat.reduceLeDiff, ret0, stVar, isTup, Value.cells, Nat.le_refl, Nat.reduceAdd, Nat.reduceMul, Nat.reduceSub, env0, binV, intV, reduceCtorEq, pickV, nilCheckV, ptrV, unV, true_and, and_true, Nat.add_zero, Nat.zero_add, Rt, resultsV, allV, resV, Bool.not_true, Bool.not_false, calleeV, builtinV, eqV, fieldAddrV, ldVar, stN_own, stN_ownL, Int.fdiv_eq_ediv_of_nonneg, Int.reduceToNat, Int.reducePow, IntKind.bits, convV, ne_eq, not_false_eq_true, not_true_eq_false, Int.reduceNeg, Int.reduceAdd, Int.reduceSub, Int.reduceLT, Int.reduceLE, extractV, decide_true, decide_false, Int.reduceEq, mkFuncV, stBLawCuts, beq_self_eq_true, tyB0LawCuts, getL_take, glBLawCuts, h9, h11, hsl]
  by_cases hbad : wiL z = true ∨ ln < 6
  · obtain ⟨p1, p2⟩ := hcut.1 hbad
    refine parse38_ok (x := z) hxk (hL.mild M4 (by omega)) (by omega) (fun hok => absurd hok (by rw [p1]; decide)) (fun hno s5 m5 => ?_)
    rw [p1, p2]
    have n5 := m5.next
    cases hw : wiL z
    · rw [hw] at h13
      have hln : (ln : Int) < 6 := by
        rcases hbad with h | h
        · rw [hw] at h; cases h
        · omega
      simp (disch := first | omega | ((simp only [nxBLawCuts]) <;> omega) | decide) only [↓stepPre, stepPost, ↓W_cond, ↓W_block, ↓reduceIte, Nat.reduceEqDiff, Nat.reduceLT, Nat.reduceLeDiff, ret0, stVar, isTup, Value.cells, Nat.le_refl, Nat.reduceAdd, Nat.reduceMul, Nat.reduceSub, env0, binV, intV, reduceCtorEq, pickV, nilCheckV, ptrV, unV, true_and, and_true, Nat.add_zero, Nat.zero_add, Rt, resultsV, allV, resV, Bool.not_true, Bool.not_false, calleeV, builtinV, eqV, fieldAddrV, ldVar, stN_own, stN_ownL, Int.fdiv_eq_ediv_of_nonneg, Int.reduceToNat, Int.reducePow, IntKind.bits, convV, ne_eq, not_false_eq_true, not_true_eq_false, Int.reduceNeg, Int.reduceAdd, Int.reduceSub, Int.reduceLT, Int.reduceLE, extractV, decide_true, decide_false, Int.reduceEq, mkFuncV, stBLawCuts, beq_self_eq_true, tyB0LawCuts, getL_take, glBLawCuts, putAt_row, h12, h13, hln]
      generalize hS : (((s5.alloc _).alloc _).upd _ _).upd _ _ = s6
      have m6 : Mild s5 s6 := by rw [← hS]; (repeat first | exact Mild.refl _ | assumption | apply Mild.alloc' | (refine Mild.upd' ?_ (by omega)) | (refine Mild.upd' ?_ (by simp only [Ab.next_alloc, Ab.next_upd] at *; omega)))
      have n6 := m6.next
      have h6 : s5.next + 2 ≤ s6.next := by rw [← hS]; exact Nat.le_refl _
      have f6 : s6.heap (s5.next + 1) = .row [.int .i64 12, .int .i64 (ln : Int)] := by rw [← hS, Ab.heap_upd_same]
      refine live38_ok (hL.mild ((M4.trans m5).trans m6) (by omega)) (by omega) fun s7 m7 => ?_
      have f7 := (m7.heap _ (by omega)).trans f6
      simp (disch := first | omega | ((simp only [nxBLawCuts]) <;> omega) | decide) only [↓stepPre, stepPost, ↓W_cond, ↓W_block, ↓reduceIte, Nat.reduceEqDiff, Nat.reduceLT, Nat.reduceLeDiff, ret0, stVar, isTup, Value.cells, Nat.le_refl, Nat.reduceAdd, Nat.reduceMul, Nat.reduceSub, env0, binV, intV, reduceCtorEq, pickV, nilCheckV, ptrV, unV, true_and, and_true, Nat.add_zero, Nat.zero_add, Rt, resultsV, allV, resV, Bool.not_true, Bool.not_false, calleeV, builtinV, eqV, fieldAddrV, ldVar, stN_own, stN_ownL, Int.fdiv_eq_ediv_of_nonneg, Int.reduceToNat, Int.reducePow, IntKind.bits, convV, ne_eq, not_false_eq_true, not_true_eq_false, Int.reduceNeg, Int.reduceAdd, Int.reduceSub, Int.reduceLT, Int.reduceLE, extractV, decide_true, decide_false, Int.reduceEq, mkFuncV, stBLawCuts, beq_self_eq_true, -eqV, tyB0LawCuts, getL_take, glBLawCuts, h12, f7, buildV, fillL, setL, hF1, Tryd.results4]
    · rw [hw] at h13
      simp (disch := first | omega | ((simp only [nxBLawCuts]) <;> omega) | decide) only [↓stepPre, stepPost, ↓W_cond, ↓W_block, ↓reduceIte, Nat.reduceEqDiff, Nat.reduceLT, Nat.reduceLeDiff, ret0, stVar, isTup, Value.cells, Nat.le_refl, Nat.reduceAdd, Nat.reduceMul, Nat.reduceSub, env0, binV, intV, reduceCtorEq, pickV, nilCheckV, ptrV, unV, true_and, and_true, Nat.add_zero, Nat.zero_add, Rt, resultsV, allV, resV, Bool.not_true, Bool.not_false, calleeV, builtinV, eqV, fieldAddrV, ldVar, stN_own, stN_ownL, Int.fdiv_eq_ediv_of_nonneg, Int.reduceToNat, Int.reducePow, IntKind.bits, convV, ne_eq, not_false_eq_true, not_true_eq_false, Int.reduceNeg, Int.reduceAdd, Int.reduceSub, Int.reduceLT, Int.reduceLE, extractV, decide_true, decide_false, Int.reduceEq, mkFuncV, stBLawCuts, beq_self_eq_true, tyB0LawCuts, getL_take, glBLawCuts, putAt_row, h12, h13]
      generalize hS : (((s5.alloc _).alloc _).upd _ _).upd _ _ = s6
      have m6 : Mild s5 s6 := by rw [← hS]; (repeat first | exact Mild.refl _ | assumption | apply Mild.alloc' | (refine Mild.upd' ?_ (by omega)) | (refine Mild.upd' ?_ (by simp only [Ab.next_alloc, Ab.next_upd] at *; omega)))
      have n6 := m6.next
      have h6 : s5.next + 2 ≤ s6.next := by rw [← hS]; exact Nat.le_refl _
      have f6 : s6.heap (s5.next + 1) = .row [.int .i64 12, .int .i64 (ln : Int)] := by rw [← hS, Ab.heap_upd_same]
      refine live38_ok (hL.mild ((M4.trans m5).trans m6) (by omega)) (by omega) fun s7 m7 => ?_
      have f7 := (m7.heap _ (by omega)).trans f6
      simp (disch := first | omega | ((simp only [nxBLawCuts]) <;> omega) | decide) only [↓stepPre, stepPost, ↓W_cond, ↓W_block, ↓reduceIte, Nat.reduceEqDiff, Nat.reduceLT, Nat.reduceLeDiff, ret0, stVar, isTup, Value.cells, Nat.le_refl, Nat.reduceAdd, Nat.reduceMul, Nat.reduceSub, env0, binV, intV, reduceCtorEq, pickV, nilCheckV, ptrV, unV, true_and, and_true, Nat.add_zero, Nat.zero_add, Rt, resultsV, allV, resV, Bool.not_true, Bool.not_false, calleeV, builtinV, eqV, fieldAddrV, ldVar, stN_own, stN_ownL, Int.fdiv_eq_ediv_of_nonneg, Int.reduceToNat, Int.reducePow, IntKind.bits, convV, ne_eq, not_false_eq_true, not_true_eq_false, Int.reduceNeg, Int.reduceAdd, Int.reduceSub, Int.reduceLT, Int.reduceLE, extractV, decide_true, decide_false, Int.reduceEq, mkFuncV, stBLawCuts, beq_self_eq_true, -eqV, tyB0LawCuts, getL_take, glBLawCuts, h12, f7, buildV, fillL, setL, hF1, Tryd.results4]
  · have hw : wiL z = false := Bool.eq_false_iff.2 fun h => hbad (.inl h)
    have hln : 6 ≤ ln := Nat.le_of_not_lt fun h => hbad (.inr h)
    have hp := hcut.2 ⟨hw, hln⟩
    rw [hw] at h13
    have gl : ¬ (ln : Int) < 6 := by omega
    refine parse38_ok (x := z) hxk (hL.mild M4 (by omega)) (by omega) (fun hok s5 v5 u5 m5 l5 l6 => ?_) (fun hno => absurd hp hno)
    have n5 := m5.next
    generalize (parseF z).2.2.1 = qq at l5 ⊢
    obtain ⟨xa, xn, xc, rfl⟩ := l5.shape
    simp (disch := first | omega | ((simp only [nxBLawCuts]) <;> omega) | decide) only [↓stepPre, stepPost, ↓W_cond, ↓W_block, ↓reduceIte, Nat.reduceEqDiff, Nat.reduceLT, Nat.reduceLeDiff, ret0, stVar, isTup, Value.cells, Nat.le_refl, Nat.reduceAdd, Nat.reduceMul, Nat.reduceSub, env0, binV, intV, reduceCtorEq, pickV, nilCheckV, ptrV, unV, true_and, and_true, Nat.add_zero, Nat.zero_add, Rt, resultsV, allV, resV, Bool.not_true, Bool.not_false, calleeV, builtinV, eqV, fieldAddrV, ldVar, stN_own, stN_ownL, Int.fdiv_eq_ediv_of_nonneg, Int.reduceToNat, Int.reducePow, IntKind.bits, convV, ne_eq, not_false_eq_true, not_true_eq_false, Int.reduceNeg, Int.reduceAdd, Int.reduceSub, Int.reduceLT, Int.reduceLE, extractV, decide_true, decide_false, Int.reduceEq, mkFuncV, stBLawCuts, beq_self_eq_true, tyB0LawCuts, getL_take, glBLawCuts, putAt_row, h12, h13, gl]
    generalize hS : (((s5.alloc _).alloc _).upd _ _).upd _ _ = s6
    have m6 : Mild s5 s6 := by rw [← hS]; (repeat first | exact Mild.refl _ | assumption | apply Mild.alloc' | (refine Mild.upd' ?_ (by omega)) | (refine Mild.upd' ?_ (by simp only [Ab.next_alloc, Ab.next_upd] at *; omega)))
    have n6 := m6.next
    have h6 : s5.next + 2 ≤ s6.next := by rw [← hS]; exact Nat.le_refl _
    have f6 : s6.heap (s5.next + 1) = .row [.int .i64 0, .int .i64 0] := by rw [← hS, Ab.heap_upd_same]
    refine live38_ok (hL.mild ((M4.trans m5).trans m6) (by omega)) (by omega) fun s7 m7 => ?_
    have f7 := (m7.heap _ (by omega)).trans f6
    simp (disch := first | omega | ((simp only [nxBLawCuts]) <;> omega) | decide) only [↓stepPre, stepPost, ↓W_cond, ↓W_block, ↓reduceIte, Nat.reduceEqDiff, Nat.reduceLT, Nat.reduceLeDiff, ret0, stVar, isTup, Value.cells, Nat.le_refl, Nat.reduceAdd, Nat.reduceMul, Nat.reduceSub, env0, binV, intV, reduceCtorEq, pickV, nilCheckV, ptrV, unV, true_and, and_true, Nat.add_zero, Nat.zero_add, Rt, resultsV, allV, resV, Bool.not_true, Bool.not_false, calleeV, builtinV, eqV, fieldAddrV, ldVar, stN_own, stN_ownL, Int.fdiv_eq_ediv_of_nonneg, Int.reduceToNat, Int.reducePow, IntKind.bits, convV, ne_eq, not_false_eq_true, not_true_eq_false, Int.reduceNeg, Int.reduceAdd, Int.reduceSub, Int.reduceLT, Int.reduceLE, extractV, decide_true, decide_false, Int.reduceEq, mkFuncV, stBLawCuts, beq_self_eq_true, -eqV, tyB0LawCuts, getL_take, glBLawCuts, h12, f7, buildV, fillL, setL, hF0, Tryd.results4]
end Go.Proofs.YthjpfllmecpliaaDoor
