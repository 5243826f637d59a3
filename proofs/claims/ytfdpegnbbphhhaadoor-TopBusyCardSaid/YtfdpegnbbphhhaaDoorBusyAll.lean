/- Busy periods, steps and sure streams of any streams, as contracts. -/
import Derived.Test.YtfdpegnbbphhhaaDoorTypes
import Derived.Test.YtfdpegnbbphhhaaDoorRow0
import Derived.Test.YtfdpegnbbphhhaaDoorAbC
import Derived.Test.YtfdpegnbbphhhaaDoorPure
import Derived.Test.YtfdpegnbbphhhaaDoorBusyPer
set_option linter.all false
set_option maxRecDepth 20000
namespace Go.Proofs.YtfdpegnbbphhhaaDoor
open Go Go.Ab
variable {base : Nat} [Bok base] {s : St} {R : Value → St → Prop}
/-- May streams and a bound be? -/
def goodB (xs : List Sm) (b : Int) : Bool := decide ((chk xs 1).2 = 0 ∧ 0 < xs.length ∧ 1 ≤ b ∧ b ≤ 1073741824)
theorem goodB_on {xs : List Sm} {b : Int} (h : goodB xs b = true) : okS xs ∧ xs ≠ [] ∧ 1 ≤ b ∧ b ≤ 1073741824 := by
  obtain ⟨h1, h2, h3⟩ := of_decide_eq_true h
  exact ⟨h1, by intro h; rw [h] at h2; simp at h2, h3⟩
theorem goodB_off {xs : List Sm} {b : Int} (h : goodB xs b = false) : ¬ ((chk xs 1).2 = 0 ∧ 0 < xs.length ∧ 1 ≤ b ∧ b ≤ 1073741824) := of_decide_eq_false h
def perH (xs : List Sm) (q : Nat) : Int := if camN xs (q : Int) ≤ (q : Int) then 1 else 0
/-- How long the wire is busy at most, and whether it is ever idle. -/
def perF (xs : List Sm) (b : Int) : Int × Bool :=
  if goodB xs b then (match fwd (perH xs) 1 b.toNat with | some q => ((q : Int), true) | none => (0, false)) else (0, false)
theorem perF_off {xs : List Sm} {b : Int} (h : goodB xs b = false) : perF xs b = (0, false) := by simp [perF, h]
theorem perF_perV {xs : List Sm} {b : Int} (h : goodB xs b = true) : PerV (camN xs) b (perF xs b).1 (perF xs b).2 := by
  obtain ⟨h1, h2, h3, h4⟩ := goodB_on h
  obtain ⟨hal, hn⟩ := okS_all h1
  unfold perF
  rw [if_pos h]
  split
  · rename_i q hq
    obtain ⟨q1, q2, q3, q4⟩ := fwd_some hq
    have hle : camN xs (q : Int) ≤ (q : Int) := by
      unfold perH at q3
      split at q3
      · assumption
      · exact absurd rfl q3
    have hmin : ∀ r : Int, 1 ≤ r → camN xs r ≤ r → (q : Int) ≤ r := fun r hr1 hr2 => by
      by_cases hc : (q : Int) ≤ r
      · exact hc
      · obtain ⟨j, rfl⟩ : ∃ j : Nat, r = j := ⟨r.toNat, by omega⟩
        have := q4 j (by omega) (by omega)
        rw [perH, if_pos hr2] at this
        simp at this
    have hpos := camN_pos hal h2 (a := (q : Int)) (by omega)
    have := hmin (camN xs (q : Int)) hpos (camN_mono hal hle)
    refine .inl ⟨rfl, ?_, ⟨?_, ?_⟩, hmin⟩
    · show camN xs (q : Int) = (q : Int)
      omega
    · show (1 : Int) ≤ (q : Int)
      omega
    · show (q : Int) ≤ b
      omega
  · rename_i hq
    refine .inr ⟨rfl, rfl, fun q h5 h6 h7 => ?_⟩
    obtain ⟨j, rfl⟩ : ∃ j : Nat, q = j := ⟨q.toNat, by omega⟩
    have := fwd_none hq j (by omega) (by omega)
    rw [perH, if_pos h7] at this
    simp at this
theorem perF_good {xs : List Sm} {b : Int} (h : (perF xs b).2 = true) : goodB xs b = true := by
  cases hg : goodB xs b
  · rw [perF_off hg] at h; simp at h
  · rfl
theorem perF_in {xs : List Sm} {b : Int} : 0 ≤ (perF xs b).1 ∧ (perF xs b).1 ≤ 1073741824 := by
  cases hg : goodB xs b
  · rw [perF_off hg]; simp
  · obtain ⟨h1, h2, h3, h4⟩ := goodB_on hg
    rcases perF_perV hg with ⟨-, -, h5, -⟩ | ⟨-, h5, -⟩ <;> omega
theorem StpL.uniq {c : Int → Int} {b : Int} {ys zs : List Int} (h : StpL c b ys) (h' : StpL c b zs) : ys = zs := by
  have same : ∀ i (hi : i < ys.length) (hj : i < zs.length), ys[i] = zs[i] := fun i => by
    induction i with
    | zero =>
      intro hi hj
      have h1 := h.ch.hd
      have h2 := h'.ch.hd
      rw [List.getElem?_eq_getElem hi] at h1
      rw [List.getElem?_eq_getElem hj] at h2
      exact (Option.some.inj h1).trans (Option.some.inj h2).symm
    | succ i ih =>
      intro hi hj
      rw [(h.ch.nx i hi).1, (h'.ch.nx i hj).1, ih (by omega) (by omega)]
  have len : ∀ {us vs : List Int}, StpL c b us → StpL c b vs → (∀ i (hi : i < us.length) (hj : i < vs.length), us[i] = vs[i]) → vs.length ≤ us.length := fun {us vs} hu hv hs => by
    by_cases hlt : vs.length ≤ us.length
    · exact hlt
    exfalso
    obtain ⟨l, e1, e2⟩ := hu.lst
    cases hn : us.length with
    | zero => rw [List.length_eq_zero_iff.1 hn] at e1; simp at e1
    | succ n =>
      rw [List.getLast?_eq_getElem?, hn, Nat.add_sub_cancel, List.getElem?_eq_getElem (by omega)] at e1
      have e3 := Option.some.inj e1
      have e4 := hs n (by omega) (by omega)
      obtain ⟨e5, e6⟩ := hv.ch.nx n (by omega)
      have e7 := hv.le _ (List.getElem_mem (show n + 1 < vs.length by omega))
      rw [← e4, e3] at e5 e6
      omega
  have l1 := len h h' same
  have l2 := len h' h fun i hi hj => (same i hj hi).symm
  exact List.ext_getElem (by omega) fun i hi hj => same i hi hj
theorem steps_quiet {pl pb : Nat} {v : Value} {xs : List Sm} {b : Int} {e : Env} {f : Operand} {ps : Array Tmp} {asg body : Code} {Q : Exit → Env → St → Prop} (he : ev e f = .func (.func 20) #[] #[.pointer (some ⟨pl, 0, none⟩), .pointer (some ⟨pb, 0, none⟩)])
    (hbn : base ≤ s.next) (hpl : base ≤ pl ∧ pl < s.next) (hpb : base ≤ pb ∧ pb < s.next) (hl : s.heap pl = .row [v]) (hb : s.heap pb = .row [.int .i64 b]) (hs : Sl base s 7 v (smL xs)) (hxn : xs.length ≤ 2 ^ 63 - 1) (hg : goodB xs b = false)
    (post : ∀ t, Mild s t → Q .normal e t) : W Tryd.prog base (.rangeFunc f ps asg body) e s Q := by
  refine W_rangeFuncG he ?_
  refine WC_open Tryd.func20 rfl ?_
  have hlen := hs.len (P := Tryd.prog) (ts := []) Ty.elem22 Ty.arr22
  rw [smL_len] at hlen
  have hoff := goodB_off hg
  have fin : ∀ t, Mild (s.alloc (.loop ⟨e, ps, asg, body, .ready, none⟩)) t → ∃ r x, t.heap s.next = .loop r ∧ r.state ≠ .busy ∧ endOf x = some r.pending ∧ Q x e (t.upd s.next .gone) := fun t m => by
    have hn := m.next
    simp only [Ab.next_alloc] at hn
    refine ⟨⟨e, ps, asg, body, .ready, none⟩, .normal, (m.heap _ (by simp only [Ab.next_alloc]; omega)).trans (Ab.heap_alloc_new _ _), by simp, rfl, post _ ?_⟩
    exact ((Mild.alloc s _).trans m).upd' (Nat.le_refl _)
  have hb1 := (Ab.heap_alloc_ne s (.loop ⟨e, ps, asg, body, .ready, none⟩) (b := pb) (by omega)).trans hb
  by_cases h0 : xs.length = 0
  · have g0 : (xs.length : Int) = 0 := by omega
    simp (disch := first | omega | ((simp only [Ab.next_alloc, Ab.next_upd, List.length_cons, List.length_nil, ne_eq, not_true_eq_false, not_false_eq_true]) <;> omega) | decide) only [↓stepPre, stepPost, ↓W_cond, ↓W_block, ↓reduceIte, Nat.reduceEqDiff, Nat.reduceLT, Nat.reduceLeDiff, List.size_toArray, List.length_cons, List.length_nil, ret0, stVar, isTup, Value.cells, List.set_cons_zero, List.set_cons_succ, Nat.le_refl, Nat.reduceAdd, Nat.reduceMul, Nat.reduceSub, env0, List.getD_cons_zero, List.getD_cons_succ, binV, intV, reduceCtorEq, List.getElem?_cons_succ, List.getElem?_cons_zero, pickV, nilCheckV, ptrV, unV, true_and, and_true, List.map_cons, List.map_nil, Nat.add_zero, Nat.zero_add, Option.isNone_none, Option.isNone_some, Rt, resultsV, allV, resV, Bool.not_true, Bool.not_false, calleeV, builtinV, Option.map_some, Option.map_none, List.cons_append, List.nil_append, List.append_nil, Array.toList_append, List.toList_toArray, eqV, fieldAddrV, ldVar, stN_own, stN_ownL, Int.cast_ofNat_Int, Int.fdiv_eq_ediv_of_nonneg, Int.reduceToNat, Nat.min_eq_left, Int.reducePow, IntKind.bits, convV, ne_eq, not_false_eq_true, not_true_eq_false, Int.reduceNeg, Int.reduceAdd, Int.reduceSub, Int.reduceLT, Int.reduceLE, Option.isSome_some, extractV, decide_true, decide_false, Int.reduceEq, List.getElem?_toArray, mkFuncV, List.map_toArray, beq_self_eq_true, Ty.t30, Tryd.underlying30, Ty.t22, Tryd.underlying22, Ty.t3, Tryd.underlying3, Ty.t2, Tryd.underlying2, Ty.t4, Tryd.underlying4, Ty.t57, Tryd.underlying57, hl, hb, hlen, g0, Tryd.results20]
    have hf := fin _ (.refl _)
    rw [alloc_upd] at hf
    simp only [Ab.heap_alloc_new, ne_eq] at hf
    exact hf
  have g0 : ¬ (xs.length : Int) = 0 := by omega
  simp (disch := first | omega | ((simp only [Ab.next_alloc, Ab.next_upd, List.length_cons, List.length_nil, ne_eq, not_true_eq_false, not_false_eq_true]) <;> omega) | decide) only [↓stepPre, stepPost, ↓W_cond, ↓W_block, ↓reduceIte, Nat.reduceEqDiff, Nat.reduceLT, Nat.reduceLeDiff, List.size_toArray, List.length_cons, List.length_nil, ret0, stVar, isTup, Value.cells, List.set_cons_zero, List.set_cons_succ, Nat.le_refl, Nat.reduceAdd, Nat.reduceMul, Nat.reduceSub, env0, List.getD_cons_zero, List.getD_cons_succ, binV, intV, reduceCtorEq, List.getElem?_cons_succ, List.getElem?_cons_zero, pickV, nilCheckV, ptrV, unV, true_and, and_true, List.map_cons, List.map_nil, Nat.add_zero, Nat.zero_add, Option.isNone_none, Option.isNone_some, Rt, resultsV, allV, resV, Bool.not_true, Bool.not_false, calleeV, builtinV, Option.map_some, Option.map_none, List.cons_append, List.nil_append, List.append_nil, Array.toList_append, List.toList_toArray, eqV, fieldAddrV, ldVar, stN_own, stN_ownL, Int.cast_ofNat_Int, Int.fdiv_eq_ediv_of_nonneg, Int.reduceToNat, Nat.min_eq_left, Int.reducePow, IntKind.bits, convV, ne_eq, not_false_eq_true, not_true_eq_false, Int.reduceNeg, Int.reduceAdd, Int.reduceSub, Int.reduceLT, Int.reduceLE, Option.isSome_some, extractV, decide_true, decide_false, Int.reduceEq, List.getElem?_toArray, mkFuncV, List.map_toArray, beq_self_eq_true, Ty.t30, Tryd.underlying30, Ty.t22, Tryd.underlying22, Ty.t3, Tryd.underlying3, Ty.t2, Tryd.underlying2, Ty.t4, Tryd.underlying4, Ty.t57, Tryd.underlying57, hl, hb, hlen, g0]
  refine bright_ok (hs.mild (.alloc _ _)) hxn (by simp only [Ab.next_alloc]; omega) fun s1 m1 => ?_
  have n1 := m1.next
  simp only [Ab.next_alloc] at n1
  have hb2 := (m1.heap pb (by simp only [Ab.next_alloc]; omega)).trans hb1
  by_cases h1 : (chk xs 1).2 = 0
  rotate_left
  · rw [decide_eq_false h1]
    simp (disch := first | omega | ((simp only [Ab.next_alloc, Ab.next_upd, List.length_cons, List.length_nil, ne_eq, not_true_eq_false, not_false_eq_true]) <;> omega) | decide) only [↓stepPre, stepPost, ↓W_cond, ↓W_block, ↓reduceIte, Nat.reduceEqDiff, Nat.reduceLT, Nat.reduceLeDiff, List.size_toArray, List.length_cons, List.length_nil, ret0, stVar, isTup, Value.cells, List.set_cons_zero, List.set_cons_succ, Nat.le_refl, Nat.reduceAdd, Nat.reduceMul, Nat.reduceSub, env0, List.getD_cons_zero, List.getD_cons_succ, binV, intV, reduceCtorEq, List.getElem?_cons_succ, List.getElem?_cons_zero, pickV, nilCheckV, ptrV, unV, true_and, and_true, List.map_cons, List.map_nil, Nat.add_zero, Nat.zero_add, Option.isNone_none, Option.isNone_some, Rt, resultsV, allV, resV, Bool.not_true, Bool.not_false, calleeV, builtinV, Option.map_some, Option.map_none, List.cons_append, List.nil_append, List.append_nil, Array.toList_append, List.toList_toArray, eqV, fieldAddrV, ldVar, stN_own, stN_ownL, Int.cast_ofNat_Int, Int.fdiv_eq_ediv_of_nonneg, Int.reduceToNat, Nat.min_eq_left, Int.reducePow, IntKind.bits, convV, ne_eq, not_false_eq_true, not_true_eq_false, Int.reduceNeg, Int.reduceAdd, Int.reduceSub, Int.reduceLT, Int.reduceLE, Option.isSome_some, extractV, decide_true, decide_false, Int.reduceEq, List.getElem?_toArray, mkFuncV, List.map_toArray, beq_self_eq_true, Ty.t30, Tryd.underlying30, Ty.t22, Tryd.underlying22, Ty.t3, Tryd.underlying3, Ty.t2, Tryd.underlying2, Ty.t4, Tryd.underlying4, Ty.t57, Tryd.underlying57, hb2, hlen, Tryd.results20]
    exact fin _ m1
  rw [decide_eq_true h1]
  by_cases h2 : b < 1
  · simp (disch := first | omega | ((simp only [Ab.next_alloc, Ab.next_upd, List.length_cons, List.length_nil, ne_eq, not_true_eq_false, not_false_eq_true]) <;> omega) | decide) only [↓stepPre, stepPost, ↓W_cond, ↓W_block, ↓reduceIte, Nat.reduceEqDiff, Nat.reduceLT, Nat.reduceLeDiff, List.size_toArray, List.length_cons, List.length_nil, ret0, stVar, isTup, Value.cells, List.set_cons_zero, List.set_cons_succ, Nat.le_refl, Nat.reduceAdd, Nat.reduceMul, Nat.reduceSub, env0, List.getD_cons_zero, List.getD_cons_succ, binV, intV, reduceCtorEq, List.getElem?_cons_succ, List.getElem?_cons_zero, pickV, nilCheckV, ptrV, unV, true_and, and_true, List.map_cons, List.map_nil, Nat.add_zero, Nat.zero_add, Option.isNone_none, Option.isNone_some, Rt, resultsV, allV, resV, Bool.not_true, Bool.not_false, calleeV, builtinV, Option.map_some, Option.map_none, List.cons_append, List.nil_append, List.append_nil, Array.toList_append, List.toList_toArray, eqV, fieldAddrV, ldVar, stN_own, stN_ownL, Int.cast_ofNat_Int, Int.fdiv_eq_ediv_of_nonneg, Int.reduceToNat, Nat.min_eq_left, Int.reducePow, IntKind.bits, convV, ne_eq, not_false_eq_true, not_true_eq_false, Int.reduceNeg, Int.reduceAdd, Int.reduceSub, Int.reduceLT, Int.reduceLE, Option.isSome_some, extractV, decide_true, decide_false, Int.reduceEq, List.getElem?_toArray, mkFuncV, List.map_toArray, beq_self_eq_true, Ty.t30, Tryd.underlying30, Ty.t22, Tryd.underlying22, Ty.t3, Tryd.underlying3, Ty.t2, Tryd.underlying2, Ty.t4, Tryd.underlying4, Ty.t57, Tryd.underlying57, hb2, h2, Tryd.results20]
    exact fin _ m1
  have h3 : 1073741824 < b := by omega
  simp (disch := first | omega | ((simp only [Ab.next_alloc, Ab.next_upd, List.length_cons, List.length_nil, ne_eq, not_true_eq_false, not_false_eq_true]) <;> omega) | decide) only [↓stepPre, stepPost, ↓W_cond, ↓W_block, ↓reduceIte, Nat.reduceEqDiff, Nat.reduceLT, Nat.reduceLeDiff, List.size_toArray, List.length_cons, List.length_nil, ret0, stVar, isTup, Value.cells, List.set_cons_zero, List.set_cons_succ, Nat.le_refl, Nat.reduceAdd, Nat.reduceMul, Nat.reduceSub, env0, List.getD_cons_zero, List.getD_cons_succ, binV, intV, reduceCtorEq, List.getElem?_cons_succ, List.getElem?_cons_zero, pickV, nilCheckV, ptrV, unV, true_and, and_true, List.map_cons, List.map_nil, Nat.add_zero, Nat.zero_add, Option.isNone_none, Option.isNone_some, Rt, resultsV, allV, resV, Bool.not_true, Bool.not_false, calleeV, builtinV, Option.map_some, Option.map_none, List.cons_append, List.nil_append, List.append_nil, Array.toList_append, List.toList_toArray, eqV, fieldAddrV, ldVar, stN_own, stN_ownL, Int.cast_ofNat_Int, Int.fdiv_eq_ediv_of_nonneg, Int.reduceToNat, Nat.min_eq_left, Int.reducePow, IntKind.bits, convV, ne_eq, not_false_eq_true, not_true_eq_false, Int.reduceNeg, Int.reduceAdd, Int.reduceSub, Int.reduceLT, Int.reduceLE, Option.isSome_some, extractV, decide_true, decide_false, Int.reduceEq, List.getElem?_toArray, mkFuncV, List.map_toArray, beq_self_eq_true, Ty.t30, Tryd.underlying30, Ty.t22, Tryd.underlying22, Ty.t3, Tryd.underlying3, Ty.t2, Tryd.underlying2, Ty.t4, Tryd.underlying4, Ty.t57, Tryd.underlying57, hb2, h2, h3, Tryd.results20]
  exact fin _ m1
theorem bperiod_all {v : Value} {xs : List Sm} {b : Int} (hs : Sl base s 7 v (smL xs)) (hxn : xs.length ≤ 2 ^ 63 - 1) (hbn : base ≤ s.next) (hg : s.heap 0 = .row divC)
    (hR : ∀ s', Mild s s' → R (.tuple #[.int .i64 (perF xs b).1, .bool (perF xs b).2]) s') : WC Tryd.prog base 5 [v, .int .i64 b] s R := by
  cases hgo : goodB xs b
  rotate_left
  · obtain ⟨h1, h2, h3, h4⟩ := goodB_on hgo
    refine period_ok hs h1 h2 ⟨h3, h4⟩ hbn hg fun s' p ok m' hp => ?_
    obtain ⟨rfl, rfl⟩ := hp.uniq (perF_perV hgo)
    exact hR _ m'
  rw [perF_off hgo] at hR
  refine WC_open Tryd.func5 rfl ?_
  simp (disch := first | omega | ((simp only [Ab.next_alloc, Ab.next_upd, List.length_cons, List.length_nil, ne_eq, not_true_eq_false, not_false_eq_true]) <;> omega) | decide) only [↓stepPre, stepPost, ↓W_cond, ↓W_block, ↓reduceIte, Nat.reduceEqDiff, Nat.reduceLT, Nat.reduceLeDiff, List.size_toArray, List.length_cons, List.length_nil, ret0, stVar, isTup, Value.cells, List.set_cons_zero, List.set_cons_succ, Nat.le_refl, Nat.reduceAdd, Nat.reduceMul, Nat.reduceSub, env0, List.getD_cons_zero, List.getD_cons_succ, binV, intV, reduceCtorEq, List.getElem?_cons_succ, List.getElem?_cons_zero, pickV, nilCheckV, ptrV, unV, true_and, and_true, List.map_cons, List.map_nil, Nat.add_zero, Nat.zero_add, Option.isNone_none, Option.isNone_some, Rt, resultsV, allV, resV, Bool.not_true, Bool.not_false, calleeV, builtinV, Option.map_some, Option.map_none, List.cons_append, List.nil_append, List.append_nil, Array.toList_append, List.toList_toArray, eqV, fieldAddrV, ldVar, stN_own, stN_ownL, Int.cast_ofNat_Int, Int.fdiv_eq_ediv_of_nonneg, Int.reduceToNat, Nat.min_eq_left, Int.reducePow, IntKind.bits, convV, ne_eq, not_false_eq_true, not_true_eq_false, Int.reduceNeg, Int.reduceAdd, Int.reduceSub, Int.reduceLT, Int.reduceLE, Option.isSome_some, extractV, decide_true, decide_false, Int.reduceEq, List.getElem?_toArray, mkFuncV, List.map_toArray, beq_self_eq_true, Ty.t30, Tryd.underlying30, Ty.t22, Tryd.underlying22, Ty.t3, Tryd.underlying3, Ty.t2, Tryd.underlying2, Ty.t4, Tryd.underlying4, Ty.t57, Tryd.underlying57]
  refine bsteps_p ((hs.mild (.alloc _ _)).mild (.alloc _ _)) ?_
  simp (disch := first | omega | ((simp only [Ab.next_alloc, Ab.next_upd, List.length_cons, List.length_nil, ne_eq, not_true_eq_false, not_false_eq_true]) <;> omega) | decide) only [↓stepPre, stepPost, ↓W_cond, ↓W_block, ↓reduceIte, Nat.reduceEqDiff, Nat.reduceLT, Nat.reduceLeDiff, List.size_toArray, List.length_cons, List.length_nil, ret0, stVar, isTup, Value.cells, List.set_cons_zero, List.set_cons_succ, Nat.le_refl, Nat.reduceAdd, Nat.reduceMul, Nat.reduceSub, env0, List.getD_cons_zero, List.getD_cons_succ, binV, intV, reduceCtorEq, List.getElem?_cons_succ, List.getElem?_cons_zero, pickV, nilCheckV, ptrV, unV, true_and, and_true, List.map_cons, List.map_nil, Nat.add_zero, Nat.zero_add, Option.isNone_none, Option.isNone_some, Rt, resultsV, allV, resV, Bool.not_true, Bool.not_false, calleeV, builtinV, Option.map_some, Option.map_none, List.cons_append, List.nil_append, List.append_nil, Array.toList_append, List.toList_toArray, eqV, fieldAddrV, ldVar, stN_own, stN_ownL, Int.cast_ofNat_Int, Int.fdiv_eq_ediv_of_nonneg, Int.reduceToNat, Nat.min_eq_left, Int.reducePow, IntKind.bits, convV, ne_eq, not_false_eq_true, not_true_eq_false, Int.reduceNeg, Int.reduceAdd, Int.reduceSub, Int.reduceLT, Int.reduceLE, Option.isSome_some, extractV, decide_true, decide_false, Int.reduceEq, List.getElem?_toArray, mkFuncV, List.map_toArray, beq_self_eq_true, Ty.t30, Tryd.underlying30, Ty.t22, Tryd.underlying22, Ty.t3, Tryd.underlying3, Ty.t2, Tryd.underlying2, Ty.t4, Tryd.underlying4, Ty.t57, Tryd.underlying57]
  refine steps_quiet (pl := s.next + 2) (pb := s.next + 3) (v := v) (xs := xs) (b := b) rfl (by simp only [Ab.next_alloc]; omega) (by simp only [Ab.next_alloc]; omega) (by simp only [Ab.next_alloc]; omega) ?_ ?_ (hs.mild (((Mild.alloc _ _).alloc').alloc'.alloc')) hxn hgo fun t mt => ?_
  · simp (disch := first | omega | ((simp only [Ab.next_alloc, Ab.next_upd, List.length_cons, List.length_nil, ne_eq, not_true_eq_false, not_false_eq_true]) <;> omega) | decide) only [↓stepPre, stepPost, ↓W_cond, ↓W_block, ↓reduceIte, Nat.reduceEqDiff, Nat.reduceLT, Nat.reduceLeDiff, List.size_toArray, List.length_cons, List.length_nil, ret0, stVar, isTup, Value.cells, List.set_cons_zero, List.set_cons_succ, Nat.le_refl, Nat.reduceAdd, Nat.reduceMul, Nat.reduceSub, env0, List.getD_cons_zero, List.getD_cons_succ, binV, intV, reduceCtorEq, List.getElem?_cons_succ, List.getElem?_cons_zero, pickV, nilCheckV, ptrV, unV, true_and, and_true, List.map_cons, List.map_nil, Nat.add_zero, Nat.zero_add, Option.isNone_none, Option.isNone_some, Rt, resultsV, allV, resV, Bool.not_true, Bool.not_false, calleeV, builtinV, Option.map_some, Option.map_none, List.cons_append, List.nil_append, List.append_nil, Array.toList_append, List.toList_toArray, eqV, fieldAddrV, ldVar, stN_own, stN_ownL, Int.cast_ofNat_Int, Int.fdiv_eq_ediv_of_nonneg, Int.reduceToNat, Nat.min_eq_left, Int.reducePow, IntKind.bits, convV, ne_eq, not_false_eq_true, not_true_eq_false, Int.reduceNeg, Int.reduceAdd, Int.reduceSub, Int.reduceLT, Int.reduceLE, Option.isSome_some, extractV, decide_true, decide_false, Int.reduceEq, List.getElem?_toArray, mkFuncV, List.map_toArray, beq_self_eq_true]
  · simp (disch := first | omega | ((simp only [Ab.next_alloc, Ab.next_upd, List.length_cons, List.length_nil, ne_eq, not_true_eq_false, not_false_eq_true]) <;> omega) | decide) only [↓stepPre, stepPost, ↓W_cond, ↓W_block, ↓reduceIte, Nat.reduceEqDiff, Nat.reduceLT, Nat.reduceLeDiff, List.size_toArray, List.length_cons, List.length_nil, ret0, stVar, isTup, Value.cells, List.set_cons_zero, List.set_cons_succ, Nat.le_refl, Nat.reduceAdd, Nat.reduceMul, Nat.reduceSub, env0, List.getD_cons_zero, List.getD_cons_succ, binV, intV, reduceCtorEq, List.getElem?_cons_succ, List.getElem?_cons_zero, pickV, nilCheckV, ptrV, unV, true_and, and_true, List.map_cons, List.map_nil, Nat.add_zero, Nat.zero_add, Option.isNone_none, Option.isNone_some, Rt, resultsV, allV, resV, Bool.not_true, Bool.not_false, calleeV, builtinV, Option.map_some, Option.map_none, List.cons_append, List.nil_append, List.append_nil, Array.toList_append, List.toList_toArray, eqV, fieldAddrV, ldVar, stN_own, stN_ownL, Int.cast_ofNat_Int, Int.fdiv_eq_ediv_of_nonneg, Int.reduceToNat, Nat.min_eq_left, Int.reducePow, IntKind.bits, convV, ne_eq, not_false_eq_true, not_true_eq_false, Int.reduceNeg, Int.reduceAdd, Int.reduceSub, Int.reduceLT, Int.reduceLE, Option.isSome_some, extractV, decide_true, decide_false, Int.reduceEq, List.getElem?_toArray, mkFuncV, List.map_toArray, beq_self_eq_true]
  have nt := mt.next
  simp only [Ab.next_alloc] at nt
  have q0 : t.heap s.next = .row [.int .i64 0] := by
    rw [mt.heap _ (by simp only [Ab.next_alloc]; omega)]; simp (disch := first | omega | ((simp only [Ab.next_alloc, Ab.next_upd, List.length_cons, List.length_nil, ne_eq, not_true_eq_false, not_false_eq_true]) <;> omega) | decide) only [↓stepPre, stepPost, ↓W_cond, ↓W_block, ↓reduceIte, Nat.reduceEqDiff, Nat.reduceLT, Nat.reduceLeDiff, List.size_toArray, List.length_cons, List.length_nil, ret0, stVar, isTup, Value.cells, List.set_cons_zero, List.set_cons_succ, Nat.le_refl, Nat.reduceAdd, Nat.reduceMul, Nat.reduceSub, env0, List.getD_cons_zero, List.getD_cons_succ, binV, intV, reduceCtorEq, List.getElem?_cons_succ, List.getElem?_cons_zero, pickV, nilCheckV, ptrV, unV, true_and, and_true, List.map_cons, List.map_nil, Nat.add_zero, Nat.zero_add, Option.isNone_none, Option.isNone_some, Rt, resultsV, allV, resV, Bool.not_true, Bool.not_false, calleeV, builtinV, Option.map_some, Option.map_none, List.cons_append, List.nil_append, List.append_nil, Array.toList_append, List.toList_toArray, eqV, fieldAddrV, ldVar, stN_own, stN_ownL, Int.cast_ofNat_Int, Int.fdiv_eq_ediv_of_nonneg, Int.reduceToNat, Nat.min_eq_left, Int.reducePow, IntKind.bits, convV, ne_eq, not_false_eq_true, not_true_eq_false, Int.reduceNeg, Int.reduceAdd, Int.reduceSub, Int.reduceLT, Int.reduceLE, Option.isSome_some, extractV, decide_true, decide_false, Int.reduceEq, List.getElem?_toArray, mkFuncV, List.map_toArray, beq_self_eq_true]
  have q1 : t.heap (s.next + 1) = .row [.bool false] := by
    rw [mt.heap _ (by simp only [Ab.next_alloc]; omega)]; simp (disch := first | omega | ((simp only [Ab.next_alloc, Ab.next_upd, List.length_cons, List.length_nil, ne_eq, not_true_eq_false, not_false_eq_true]) <;> omega) | decide) only [↓stepPre, stepPost, ↓W_cond, ↓W_block, ↓reduceIte, Nat.reduceEqDiff, Nat.reduceLT, Nat.reduceLeDiff, List.size_toArray, List.length_cons, List.length_nil, ret0, stVar, isTup, Value.cells, List.set_cons_zero, List.set_cons_succ, Nat.le_refl, Nat.reduceAdd, Nat.reduceMul, Nat.reduceSub, env0, List.getD_cons_zero, List.getD_cons_succ, binV, intV, reduceCtorEq, List.getElem?_cons_succ, List.getElem?_cons_zero, pickV, nilCheckV, ptrV, unV, true_and, and_true, List.map_cons, List.map_nil, Nat.add_zero, Nat.zero_add, Option.isNone_none, Option.isNone_some, Rt, resultsV, allV, resV, Bool.not_true, Bool.not_false, calleeV, builtinV, Option.map_some, Option.map_none, List.cons_append, List.nil_append, List.append_nil, Array.toList_append, List.toList_toArray, eqV, fieldAddrV, ldVar, stN_own, stN_ownL, Int.cast_ofNat_Int, Int.fdiv_eq_ediv_of_nonneg, Int.reduceToNat, Nat.min_eq_left, Int.reducePow, IntKind.bits, convV, ne_eq, not_false_eq_true, not_true_eq_false, Int.reduceNeg, Int.reduceAdd, Int.reduceSub, Int.reduceLT, Int.reduceLE, Option.isSome_some, extractV, decide_true, decide_false, Int.reduceEq, List.getElem?_toArray, mkFuncV, List.map_toArray, beq_self_eq_true]
  simp (disch := first | omega | ((simp only [Ab.next_alloc, Ab.next_upd, List.length_cons, List.length_nil, ne_eq, not_true_eq_false, not_false_eq_true]) <;> omega) | decide) only [↓stepPre, stepPost, ↓W_cond, ↓W_block, ↓reduceIte, Nat.reduceEqDiff, Nat.reduceLT, Nat.reduceLeDiff, List.size_toArray, List.length_cons, List.length_nil, ret0, stVar, isTup, Value.cells, List.set_cons_zero, List.set_cons_succ, Nat.le_refl, Nat.reduceAdd, Nat.reduceMul, Nat.reduceSub, env0, List.getD_cons_zero, List.getD_cons_succ, binV, intV, reduceCtorEq, List.getElem?_cons_succ, List.getElem?_cons_zero, pickV, nilCheckV, ptrV, unV, true_and, and_true, List.map_cons, List.map_nil, Nat.add_zero, Nat.zero_add, Option.isNone_none, Option.isNone_some, Rt, resultsV, allV, resV, Bool.not_true, Bool.not_false, calleeV, builtinV, Option.map_some, Option.map_none, List.cons_append, List.nil_append, List.append_nil, Array.toList_append, List.toList_toArray, eqV, fieldAddrV, ldVar, stN_own, stN_ownL, Int.cast_ofNat_Int, Int.fdiv_eq_ediv_of_nonneg, Int.reduceToNat, Nat.min_eq_left, Int.reducePow, IntKind.bits, convV, ne_eq, not_false_eq_true, not_true_eq_false, Int.reduceNeg, Int.reduceAdd, Int.reduceSub, Int.reduceLT, Int.reduceLE, Option.isSome_some, extractV, decide_true, decide_false, Int.reduceEq, List.getElem?_toArray, mkFuncV, List.map_toArray, beq_self_eq_true, Ty.t30, Tryd.underlying30, Ty.t22, Tryd.underlying22, Ty.t3, Tryd.underlying3, Ty.t2, Tryd.underlying2, Ty.t4, Tryd.underlying4, Ty.t57, Tryd.underlying57, q0, q1, Tryd.results5]
  refine hR _ ?_
  repeat first | exact Mild.trans (((Mild.alloc _ _).alloc').alloc'.alloc') mt | refine Mild.upd' ?_ (by omega)
def stpV (xs : List Sm) (b : Int) (zs : List Int) : Prop := if goodB xs b then StpL (camN xs) b zs else zs = []
theorem stpV_uniq {xs : List Sm} {b : Int} {ys zs : List Int} (h : stpV xs b ys) (h' : stpV xs b zs) : ys = zs := by
  unfold stpV at h h'
  split at h
  · rename_i hg
    rw [if_pos hg] at h'
    exact h.uniq h'
  · rename_i hg
    rw [if_neg hg] at h'
    rw [h, h']
theorem stpV_len {xs : List Sm} {b : Int} {ys : List Int} (h : stpV xs b ys) : ys.length ≤ 2 ^ 31 := by
  unfold stpV at h
  split at h
  · rename_i hg
    obtain ⟨h1, h2, h3, h4⟩ := goodB_on hg
    have := h.len
    omega
  · rw [h]; simp
def sureF (xs : List Sm) (b : Int) : List Int := sureL xs (perF xs b).1 (perF xs b).2
end Go.Proofs.YtfdpegnbbphhhaaDoor
