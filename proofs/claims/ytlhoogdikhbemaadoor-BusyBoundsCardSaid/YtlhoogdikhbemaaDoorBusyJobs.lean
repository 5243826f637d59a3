/- Jobs of streams that come so, as a contract. -/
import Derived.Test.YtlhoogdikhbemaaDoorTypes
import Derived.Test.YtlhoogdikhbemaaDoorRow0
import Derived.Test.YtlhoogdikhbemaaDoorAbC
import Derived.Test.YtlhoogdikhbemaaDoorPure
import Derived.Test.YtlhoogdikhbemaaDoorBoxes
import Derived.Test.YtlhoogdikhbemaaDoorBoundsLaw
set_option linter.all false
set_option maxRecDepth 20000
namespace Go.Proofs.YtlhoogdikhbemaaDoor
open Go Go.Ab
variable {base : Nat} [Bok base] {s : St} {R : Value → St → Prop}
structure Cm where
  k : Int
  a : Int
  d : Int
abbrev Cm.c (x : Cm) : List Value := [.int .i64 x.k, .int .u16 x.a, .int .u16 x.d]
abbrev cmL (cs : List Cm) : List (List Value) := cs.map Cm.c
abbrev jbL (js : List Jb) : List (List Value) := js.map Jb.c
theorem cmL_len (cs : List Cm) : (cmL cs).length = cs.length := by simp
theorem jbL_len (cs : List Jb) : (jbL cs).length = cs.length := by simp
theorem cmL_at {cs : List Cm} {i : Nat} (h : i < cs.length) : (cmL cs)[i]? = some cs[i].c := by simp [h]
theorem jbL_at {cs : List Jb} {i : Nat} (h : i < cs.length) : (jbL cs)[i]? = some cs[i].c := by simp [h]
theorem nxL_len (xs : List Int) : (jL xs).length = xs.length := by simp [jL]
theorem nxL_at {xs : List Int} {i : Nat} (h : i < xs.length) : (jL xs)[i]? = some [.int .i64 xs[i]] := by simp [jL, h]
def nearN (k n : Int) : Int := if k < 0 then 0 else k % n
theorem nearN_in {k n : Int} (h : 1 ≤ n) : 0 ≤ nearN k n ∧ nearN k n < n := by
  unfold nearN
  split
  · omega
  · exact ⟨Int.emod_nonneg _ (by omega), Int.emod_lt_of_pos _ (by omega)⟩
theorem near_p {k n : Int} (hn : 1 ≤ n) (hR : R (.int .i64 (nearN k n)) s) : WC Tryd.prog base 36 [.int .i64 k, .int .i64 n] s R := by
  refine WC_open Tryd.func36 rfl ?_
  have h0 : ¬ n < 1 := by omega
  have h00 : ¬ n = 0 := by omega
  by_cases h : k < 0
  · simp only [nearN, h, if_true] at hR
    simp (disch := first | omega | ((simp only [Ab.next_alloc, Ab.next_upd, List.length_cons, List.length_nil, ne_eq, not_true_eq_false, not_false_eq_true]) <;> omega) | decide) only [↓stepPre, stepPost, ↓W_cond, ↓W_block, ↓reduceIte, Nat.reduceEqDiff, Nat.reduceLT, Nat.reduceLeDiff, List.size_toArray, List.length_cons, List.length_nil, ret0, stVar, isTup, Value.cells, List.set_cons_zero, List.set_cons_succ, Nat.le_refl, Nat.reduceAdd, Nat.reduceMul, Nat.reduceSub, env0, List.getD_cons_zero, List.getD_cons_succ, binV, intV, reduceCtorEq, List.getElem?_cons_succ, List.getElem?_cons_zero, pickV, nilCheckV, ptrV, unV, true_and, and_true, List.map_cons, List.map_nil, Nat.add_zero, Nat.zero_add, Option.isNone_none, Option.isNone_some, Rt, resultsV, allV, resV, Bool.not_true, Bool.not_false, calleeV, builtinV, Option.map_some, Option.map_none, List.cons_append, List.nil_append, List.append_nil, Array.toList_append, List.toList_toArray, eqV, fieldAddrV, ldVar, stN_own, stN_ownL, Int.cast_ofNat_Int, Int.fdiv_eq_ediv_of_nonneg, Int.reduceToNat, Nat.min_eq_left, Int.reducePow, IntKind.bits, convV, ne_eq, not_false_eq_true, not_true_eq_false, Int.reduceNeg, Int.reduceAdd, Int.reduceSub, Int.reduceLT, Int.reduceLE, Option.isSome_some, extractV, decide_true, decide_false, Int.reduceEq, List.getElem?_toArray, mkFuncV, List.map_toArray, beq_self_eq_true, Ty.t54, Tryd.underlying54, Ty.t22, Tryd.underlying22, Ty.t66, Tryd.underlying66, Ty.t37, Tryd.underlying37, Ty.t47, Tryd.underlying47, Ty.t40, Tryd.underlying40, Ty.t38, Tryd.underlying38, Ty.t3, Tryd.underlying3, Ty.t2, Tryd.underlying2, Ty.t33, Tryd.underlying33, Ty.t30, Tryd.underlying30, Ty.t4, Tryd.underlying4, Ty.t43, Tryd.underlying43, h, Tryd.results36]
    exact hR
  · simp only [nearN, h, if_false] at hR
    have h1 : k.tmod n = k % n := Int.tmod_eq_emod_of_nonneg (by omega)
    simp (disch := first | omega | ((simp only [Ab.next_alloc, Ab.next_upd, List.length_cons, List.length_nil, ne_eq, not_true_eq_false, not_false_eq_true]) <;> omega) | decide) only [↓stepPre, stepPost, ↓W_cond, ↓W_block, ↓reduceIte, Nat.reduceEqDiff, Nat.reduceLT, Nat.reduceLeDiff, List.size_toArray, List.length_cons, List.length_nil, ret0, stVar, isTup, Value.cells, List.set_cons_zero, List.set_cons_succ, Nat.le_refl, Nat.reduceAdd, Nat.reduceMul, Nat.reduceSub, env0, List.getD_cons_zero, List.getD_cons_succ, binV, intV, reduceCtorEq, List.getElem?_cons_succ, List.getElem?_cons_zero, pickV, nilCheckV, ptrV, unV, true_and, and_true, List.map_cons, List.map_nil, Nat.add_zero, Nat.zero_add, Option.isNone_none, Option.isNone_some, Rt, resultsV, allV, resV, Bool.not_true, Bool.not_false, calleeV, builtinV, Option.map_some, Option.map_none, List.cons_append, List.nil_append, List.append_nil, Array.toList_append, List.toList_toArray, eqV, fieldAddrV, ldVar, stN_own, stN_ownL, Int.cast_ofNat_Int, Int.fdiv_eq_ediv_of_nonneg, Int.reduceToNat, Nat.min_eq_left, Int.reducePow, IntKind.bits, convV, ne_eq, not_false_eq_true, not_true_eq_false, Int.reduceNeg, Int.reduceAdd, Int.reduceSub, Int.reduceLT, Int.reduceLE, Option.isSome_some, extractV, decide_true, decide_false, Int.reduceEq, List.getElem?_toArray, mkFuncV, List.map_toArray, beq_self_eq_true, Ty.t54, Tryd.underlying54, Ty.t22, Tryd.underlying22, Ty.t66, Tryd.underlying66, Ty.t37, Tryd.underlying37, Ty.t47, Tryd.underlying47, Ty.t40, Tryd.underlying40, Ty.t38, Tryd.underlying38, Ty.t3, Tryd.underlying3, Ty.t2, Tryd.underlying2, Ty.t33, Tryd.underlying33, Ty.t30, Tryd.underlying30, Ty.t4, Tryd.underlying4, Ty.t43, Tryd.underlying43, h, h0, h00, h1, Tryd.results36]
    exact hR
theorem make_next {n : Nat} (hn : n ≤ 1000) : makeV Tryd.prog s 30 (.int .i64 (n : Int)) (.int .i64 (n : Int)) = some (.slice (some ⟨s.next, 0, none⟩) n n, s.alloc (.row (jL (List.replicate n 0)).flatten)) := by
  simp only [makeV, Ty.elem30, Ty.siz2, Ty.zer2, Ty.byt2]
  rw [if_pos ⟨rfl, by omega, by omega, Int.le_refl _, by omega, by omega⟩]
  simp only [Int.toNat_natCast, repL, jL, List.map_replicate]
theorem jb_app {w : Value} {js : List Jb} {j : Jb} (l : Sl base s 4 w (jbL js)) (t : Tight base w) (hbn : base ≤ s.next) (hn : js.length ≤ 1000) :
    ∃ v' s', buildSliceV Tryd.prog s 40 1 [(0, .agg j.c.toArray)] = some (.slice (some ⟨s.next, 0, none⟩) 1 1, s.alloc (.row j.c)) ∧
      appendB Tryd.prog base (s.alloc (.row j.c)) [40, 40] [w, .slice (some ⟨s.next, 0, none⟩) 1 1] = some (v', s') ∧ Ch s s' (inB w) ∧ Sl base s' 4 v' (jbL (js ++ [j])) ∧ Tight base v' ∧ ∀ b, inB v' b → s.next ≤ b := by
  have hb := build1 (P := Tryd.prog) (s := s) (l := j.c) (zr := [.int .i64 0, .int .i64 0, .int .i64 0, .int .i64 0]) Ty.elem40 Ty.siz47 Ty.zer47 rfl rfl (by omega) (by omega)
  have hnew : Sl base (s.alloc (.row j.c)) 4 (.slice (some ⟨s.next, 0, none⟩) 1 1) [j.c] := .newRow (Ab.heap_alloc_new _ _) (by simp) rfl (by simp) (by omega) (by simp only [Ab.next_alloc]; omega)
  obtain ⟨v', s', e1, e2, e3, e4, e5, e6⟩ := appB_ok (P := Tryd.prog) (l.mild (Mild.alloc s (.row j.c))) t (by simp only [Ab.next_alloc]; omega) Ty.elem40 Ty.int40 Ty.und40 Ty.siz47 (by decide) Ty.zer47 rfl Ty.byt47 hnew (by simp; omega)
  refine ⟨v', s', hb, e1, Ch.after (Ch.of_mild (.alloc _ _) _) e4 fun _ _ h => h, by simpa using e2, e3, fun b hb => ?_⟩
  have := e5 (by simp) b hb; simp only [Ab.next_alloc] at this; omega
theorem mild_ch {s s1 s2 : St} {X : Nat → Prop} (h : Mild s s1) (k : Ch s1 s2 X) (hx : ∀ b, b < s.next → ¬ X b) : Mild s s2 := ⟨Nat.le_trans h.next k.next, fun b hb => (k.heap b (Nat.lt_of_lt_of_le hb h.next) (hx b hb)).trans (h.heap b hb)⟩
theorem jobs_ok {v w : Value} {ys : List Sm} {cs : List Cm} {own : Bool} (hs : Sl base s 7 v (smL ys)) (hw : Sl base s 3 w (cmL cs)) (hal : AllR ys) (hid : ∀ i (h : i < ys.length), ys[i].id = i) (hn : ys.length ≤ 6) (hpe : ∀ y ∈ ys, y.pe ≤ 4200)
    (hcs : ∀ c ∈ cs, (0 ≤ c.a ∧ c.a ≤ 65535) ∧ (0 ≤ c.d ∧ c.d ≤ 65535)) (hcn : cs.length ≤ 2 ^ 63 - 1) (hbn : base ≤ s.next)
    (hR : ∀ v' s' js, Mild s s' → Sl base s' 4 v' (jbL js) → js.length ≤ 60 → (∀ j ∈ js, jbOk ys own j) → js.Pairwise (gapJ ys) → R v' s') :
    WC Tryd.prog base 23 [v, w, .bool own] s R := by
  refine WC_open Tryd.func23 rfl ?_
  have hlen := hs.len (P := Tryd.prog) (ts := []) Ty.elem22 Ty.arr22
  have hlew := hw.len (P := Tryd.prog) (ts := []) Ty.elem37 Ty.arr37
  rw [smL_len] at hlen
  rw [cmL_len] at hlew
  have hmk := make_next (s := s) (n := ys.length) (by omega)
  simp (disch := first | omega | ((simp only [Ab.next_alloc, Ab.next_upd, List.length_cons, List.length_nil, ne_eq, not_true_eq_false, not_false_eq_true]) <;> omega) | decide) only [↓stepPre, stepPost, ↓W_cond, ↓W_block, ↓reduceIte, Nat.reduceEqDiff, Nat.reduceLT, Nat.reduceLeDiff, List.size_toArray, List.length_cons, List.length_nil, ret0, stVar, isTup, Value.cells, List.set_cons_zero, List.set_cons_succ, Nat.le_refl, Nat.reduceAdd, Nat.reduceMul, Nat.reduceSub, env0, List.getD_cons_zero, List.getD_cons_succ, binV, intV, reduceCtorEq, List.getElem?_cons_succ, List.getElem?_cons_zero, pickV, nilCheckV, ptrV, unV, true_and, and_true, List.map_cons, List.map_nil, Nat.add_zero, Nat.zero_add, Option.isNone_none, Option.isNone_some, Rt, resultsV, allV, resV, Bool.not_true, Bool.not_false, calleeV, builtinV, Option.map_some, Option.map_none, List.cons_append, List.nil_append, List.append_nil, Array.toList_append, List.toList_toArray, eqV, fieldAddrV, ldVar, stN_own, stN_ownL, Int.cast_ofNat_Int, Int.fdiv_eq_ediv_of_nonneg, Int.reduceToNat, Nat.min_eq_left, Int.reducePow, IntKind.bits, convV, ne_eq, not_false_eq_true, not_true_eq_false, Int.reduceNeg, Int.reduceAdd, Int.reduceSub, Int.reduceLT, Int.reduceLE, Option.isSome_some, extractV, decide_true, decide_false, Int.reduceEq, List.getElem?_toArray, mkFuncV, List.map_toArray, beq_self_eq_true, Ty.t54, Tryd.underlying54, Ty.t22, Tryd.underlying22, Ty.t66, Tryd.underlying66, Ty.t37, Tryd.underlying37, Ty.t47, Tryd.underlying47, Ty.t40, Tryd.underlying40, Ty.t38, Tryd.underlying38, Ty.t3, Tryd.underlying3, Ty.t2, Tryd.underlying2, Ty.t33, Tryd.underlying33, Ty.t30, Tryd.underlying30, Ty.t4, Tryd.underlying4, Ty.t43, Tryd.underlying43, hlen, hmk]
  refine W_loop_ind 60 (fun i e t => Mild s t ∧ s.next < t.next ∧ e 0 = v ∧ e 1 = w ∧ e 2 = .bool own ∧ e 9 = .int .i64 (i : Int) ∧ e 8 = .slice (some ⟨s.next, 0, none⟩) ys.length ys.length ∧
    ∃ (nx : List Int) (js : List Jb) (w' : Value), e 7 = w' ∧ t.heap s.next = .row (jL nx).flatten ∧ nx.length = ys.length ∧ (∀ k (h : k < nx.length), 0 ≤ nx[k] ∧ nx[k] ≤ (i : Int) * 6200) ∧
      Sl base t 4 w' (jbL js) ∧ Tight base w' ∧ (∀ k, inB w' k → s.next + 1 ≤ k) ∧ js.length ≤ i ∧ (∀ j ∈ js, jbOk ys own j) ∧ js.Pairwise (gapJ ys) ∧ ∀ j ∈ js, ∀ k (h : k < nx.length), j.st = (k : Int) → j.rel + (atS ys k).pe ≤ nx[k]) ?_
    ⟨.alloc _ _, by simp only [Ab.next_alloc]; omega, rfl, rfl, rfl, rfl, rfl, _, [], _, rfl, Ab.heap_alloc_new _ _, by simp, fun k h => by simp, .nil, trivial, fun k hk => hk.elim, by simp, by simp, .nil, by simp⟩
  rintro i e t hi ⟨mt, hst, h0, h1, h2, h9, h8, nx, js, w', h7, rnx, hnl, hnb, ljs, tjs, fjs, hjl, hjo, hjp, hjn⟩
  by_cases hic : i < cs.length
  rotate_left
  · have c1 : ¬ (i : Int) < (cs.length : Int) := by omega
    simp (disch := first | omega | ((simp only [Ab.next_alloc, Ab.next_upd, List.length_cons, List.length_nil, ne_eq, not_true_eq_false, not_false_eq_true]) <;> omega) | decide) only [↓stepPre, stepPost, ↓W_cond, ↓W_block, ↓reduceIte, Nat.reduceEqDiff, Nat.reduceLT, Nat.reduceLeDiff, List.size_toArray, List.length_cons, List.length_nil, ret0, stVar, isTup, Value.cells, List.set_cons_zero, List.set_cons_succ, Nat.le_refl, Nat.reduceAdd, Nat.reduceMul, Nat.reduceSub, env0, List.getD_cons_zero, List.getD_cons_succ, binV, intV, reduceCtorEq, List.getElem?_cons_succ, List.getElem?_cons_zero, pickV, nilCheckV, ptrV, unV, true_and, and_true, List.map_cons, List.map_nil, Nat.add_zero, Nat.zero_add, Option.isNone_none, Option.isNone_some, Rt, resultsV, allV, resV, Bool.not_true, Bool.not_false, calleeV, builtinV, Option.map_some, Option.map_none, List.cons_append, List.nil_append, List.append_nil, Array.toList_append, List.toList_toArray, eqV, fieldAddrV, ldVar, stN_own, stN_ownL, Int.cast_ofNat_Int, Int.fdiv_eq_ediv_of_nonneg, Int.reduceToNat, Nat.min_eq_left, Int.reducePow, IntKind.bits, convV, ne_eq, not_false_eq_true, not_true_eq_false, Int.reduceNeg, Int.reduceAdd, Int.reduceSub, Int.reduceLT, Int.reduceLE, Option.isSome_some, extractV, decide_true, decide_false, Int.reduceEq, List.getElem?_toArray, mkFuncV, List.map_toArray, beq_self_eq_true, Ty.t54, Tryd.underlying54, Ty.t22, Tryd.underlying22, Ty.t66, Tryd.underlying66, Ty.t37, Tryd.underlying37, Ty.t47, Tryd.underlying47, Ty.t40, Tryd.underlying40, Ty.t38, Tryd.underlying38, Ty.t3, Tryd.underlying3, Ty.t2, Tryd.underlying2, Ty.t33, Tryd.underlying33, Ty.t30, Tryd.underlying30, Ty.t4, Tryd.underlying4, Ty.t43, Tryd.underlying43, hlen, hlew, h0, h1, h2, h7, h8, h9, c1, Tryd.results23]
    exact hR _ _ js mt ljs (by omega) hjo hjp
  have c1 : (i : Int) < (cs.length : Int) := by omega
  by_cases hi6 : i < 60
  rotate_left
  · have c2 : ¬ (i : Int) < 60 := by omega
    simp (disch := first | omega | ((simp only [Ab.next_alloc, Ab.next_upd, List.length_cons, List.length_nil, ne_eq, not_true_eq_false, not_false_eq_true]) <;> omega) | decide) only [↓stepPre, stepPost, ↓W_cond, ↓W_block, ↓reduceIte, Nat.reduceEqDiff, Nat.reduceLT, Nat.reduceLeDiff, List.size_toArray, List.length_cons, List.length_nil, ret0, stVar, isTup, Value.cells, List.set_cons_zero, List.set_cons_succ, Nat.le_refl, Nat.reduceAdd, Nat.reduceMul, Nat.reduceSub, env0, List.getD_cons_zero, List.getD_cons_succ, binV, intV, reduceCtorEq, List.getElem?_cons_succ, List.getElem?_cons_zero, pickV, nilCheckV, ptrV, unV, true_and, and_true, List.map_cons, List.map_nil, Nat.add_zero, Nat.zero_add, Option.isNone_none, Option.isNone_some, Rt, resultsV, allV, resV, Bool.not_true, Bool.not_false, calleeV, builtinV, Option.map_some, Option.map_none, List.cons_append, List.nil_append, List.append_nil, Array.toList_append, List.toList_toArray, eqV, fieldAddrV, ldVar, stN_own, stN_ownL, Int.cast_ofNat_Int, Int.fdiv_eq_ediv_of_nonneg, Int.reduceToNat, Nat.min_eq_left, Int.reducePow, IntKind.bits, convV, ne_eq, not_false_eq_true, not_true_eq_false, Int.reduceNeg, Int.reduceAdd, Int.reduceSub, Int.reduceLT, Int.reduceLE, Option.isSome_some, extractV, decide_true, decide_false, Int.reduceEq, List.getElem?_toArray, mkFuncV, List.map_toArray, beq_self_eq_true, Ty.t54, Tryd.underlying54, Ty.t22, Tryd.underlying22, Ty.t66, Tryd.underlying66, Ty.t37, Tryd.underlying37, Ty.t47, Tryd.underlying47, Ty.t40, Tryd.underlying40, Ty.t38, Tryd.underlying38, Ty.t3, Tryd.underlying3, Ty.t2, Tryd.underlying2, Ty.t33, Tryd.underlying33, Ty.t30, Tryd.underlying30, Ty.t4, Tryd.underlying4, Ty.t43, Tryd.underlying43, hlen, hlew, h0, h1, h2, h7, h8, h9, c1, c2, Tryd.results23]
    exact hR _ _ js mt ljs (by omega) hjo hjp
  have c2 : (i : Int) < 60 := by omega
  by_cases hn0 : 0 < ys.length
  rotate_left
  · have c3 : ¬ (ys.length : Int) > 0 := by omega
    have c3' : ¬ 0 < (ys.length : Int) := by omega
    simp (disch := first | omega | ((simp only [Ab.next_alloc, Ab.next_upd, List.length_cons, List.length_nil, ne_eq, not_true_eq_false, not_false_eq_true]) <;> omega) | decide) only [↓stepPre, stepPost, ↓W_cond, ↓W_block, ↓reduceIte, Nat.reduceEqDiff, Nat.reduceLT, Nat.reduceLeDiff, List.size_toArray, List.length_cons, List.length_nil, ret0, stVar, isTup, Value.cells, List.set_cons_zero, List.set_cons_succ, Nat.le_refl, Nat.reduceAdd, Nat.reduceMul, Nat.reduceSub, env0, List.getD_cons_zero, List.getD_cons_succ, binV, intV, reduceCtorEq, List.getElem?_cons_succ, List.getElem?_cons_zero, pickV, nilCheckV, ptrV, unV, true_and, and_true, List.map_cons, List.map_nil, Nat.add_zero, Nat.zero_add, Option.isNone_none, Option.isNone_some, Rt, resultsV, allV, resV, Bool.not_true, Bool.not_false, calleeV, builtinV, Option.map_some, Option.map_none, List.cons_append, List.nil_append, List.append_nil, Array.toList_append, List.toList_toArray, eqV, fieldAddrV, ldVar, stN_own, stN_ownL, Int.cast_ofNat_Int, Int.fdiv_eq_ediv_of_nonneg, Int.reduceToNat, Nat.min_eq_left, Int.reducePow, IntKind.bits, convV, ne_eq, not_false_eq_true, not_true_eq_false, Int.reduceNeg, Int.reduceAdd, Int.reduceSub, Int.reduceLT, Int.reduceLE, Option.isSome_some, extractV, decide_true, decide_false, Int.reduceEq, List.getElem?_toArray, mkFuncV, List.map_toArray, beq_self_eq_true, Ty.t54, Tryd.underlying54, Ty.t22, Tryd.underlying22, Ty.t66, Tryd.underlying66, Ty.t37, Tryd.underlying37, Ty.t47, Tryd.underlying47, Ty.t40, Tryd.underlying40, Ty.t38, Tryd.underlying38, Ty.t3, Tryd.underlying3, Ty.t2, Tryd.underlying2, Ty.t33, Tryd.underlying33, Ty.t30, Tryd.underlying30, Ty.t4, Tryd.underlying4, Ty.t43, Tryd.underlying43, hlen, hlew, h0, h1, h2, h7, h8, h9, c1, c2, c3, c3', Tryd.results23]
    exact hR _ _ js mt ljs (by omega) hjo hjp
  have c3 : (ys.length : Int) > 0 := by omega
  have c3' : 0 < (ys.length : Int) := by omega
  have w2 := hw.mild mt
  have v2 := hs.mild mt
  obtain ⟨wb, wo, wn, wc, rfl⟩ := w2.conc (by intro h; have := congrArg List.length h; simp only [cmL_len, List.length_nil] at this; omega)
  obtain ⟨vb, vo, vn, vc, rfl⟩ := v2.conc (by intro h; have := congrArg List.length h; simp only [smL_len, List.length_nil] at this; omega)
  have hix := w2.index (P := Tryd.prog) (k := .i64) (i := (i : Int)) Ty.elem37 Ty.siz66 (by omega) (by rw [cmL_len]; omega)
  rw [Int.toNat_natCast] at hix
  simp only [atP_conc] at hix
  have j0 := w2.lds (k := 0) (cmL_at hic) rfl
  have j1 := w2.lds (k := 1) (cmL_at hic) rfl
  simp only [Nat.add_zero] at j0
  obtain ⟨⟨ha0, ha1⟩, hd0, hd1⟩ := hcs cs[i] (List.getElem_mem hic)
  obtain ⟨q, hq⟩ : ∃ q : Nat, nearN cs[i].k ys.length = q := ⟨(nearN cs[i].k ys.length).toNat, by have := nearN_in (k := cs[i].k) (n := (ys.length : Int)) (by omega); omega⟩
  have hql : q < ys.length := by have := nearN_in (k := cs[i].k) (n := (ys.length : Int)) (by omega); omega
  have hqn : q < nx.length := by omega
  obtain ⟨hb0, hb1⟩ := hnb q hqn
  simp (disch := first | omega | ((simp only [Ab.next_alloc, Ab.next_upd, List.length_cons, List.length_nil, ne_eq, not_true_eq_false, not_false_eq_true]) <;> omega) | decide) only [↓stepPre, stepPost, ↓W_cond, ↓W_block, ↓reduceIte, Nat.reduceEqDiff, Nat.reduceLT, Nat.reduceLeDiff, List.size_toArray, List.length_cons, List.length_nil, ret0, stVar, isTup, Value.cells, List.set_cons_zero, List.set_cons_succ, Nat.le_refl, Nat.reduceAdd, Nat.reduceMul, Nat.reduceSub, env0, List.getD_cons_zero, List.getD_cons_succ, binV, intV, reduceCtorEq, List.getElem?_cons_succ, List.getElem?_cons_zero, pickV, nilCheckV, ptrV, unV, true_and, and_true, List.map_cons, List.map_nil, Nat.add_zero, Nat.zero_add, Option.isNone_none, Option.isNone_some, Rt, resultsV, allV, resV, Bool.not_true, Bool.not_false, calleeV, builtinV, Option.map_some, Option.map_none, List.cons_append, List.nil_append, List.append_nil, Array.toList_append, List.toList_toArray, eqV, fieldAddrV, ldVar, stN_own, stN_ownL, Int.cast_ofNat_Int, Int.fdiv_eq_ediv_of_nonneg, Int.reduceToNat, Nat.min_eq_left, Int.reducePow, IntKind.bits, convV, ne_eq, not_false_eq_true, not_true_eq_false, Int.reduceNeg, Int.reduceAdd, Int.reduceSub, Int.reduceLT, Int.reduceLE, Option.isSome_some, extractV, decide_true, decide_false, Int.reduceEq, List.getElem?_toArray, mkFuncV, List.map_toArray, beq_self_eq_true, Ty.t54, Tryd.underlying54, Ty.t22, Tryd.underlying22, Ty.t66, Tryd.underlying66, Ty.t37, Tryd.underlying37, Ty.t47, Tryd.underlying47, Ty.t40, Tryd.underlying40, Ty.t38, Tryd.underlying38, Ty.t3, Tryd.underlying3, Ty.t2, Tryd.underlying2, Ty.t33, Tryd.underlying33, Ty.t30, Tryd.underlying30, Ty.t4, Tryd.underlying4, Ty.t43, Tryd.underlying43, getL_take, List.drop_zero, List.drop_succ_cons, List.take_succ_cons, List.take_zero, List.take_nil, hlen, hlew, h0, h1, h2, h7, h8, h9, c1, c2, c3, c3', hix, j0]
  refine near_p (by omega) ?_
  rw [hq]
  have lnx : Sl base t 1 (.slice (some ⟨s.next, 0, none⟩) ys.length ys.length) (jL nx) := .newRow rnx rfl (by rw [nxL_len, hnl]) (by simp [jL]) (by omega) (by omega)
  have hnix := lnx.index (P := Tryd.prog) (k := .i64) (i := (q : Int)) Ty.elem30 Ty.siz2 (by omega) (by rw [nxL_len]; omega)
  rw [Int.toNat_natCast] at hnix
  have hnld := lnx.load1 (nxL_at hqn) (P := Tryd.prog) (e := 2) Ty.agg2 Ty.siz2
  simp only [atP_conc, Nat.mul_one, Nat.zero_add] at hnix hnld
  have htm : (cs[i].a).tmod 2000 = cs[i].a % 2000 := Int.tmod_eq_emod_of_nonneg (by omega)
  simp (disch := first | omega | ((simp only [Ab.next_alloc, Ab.next_upd, List.length_cons, List.length_nil, ne_eq, not_true_eq_false, not_false_eq_true]) <;> omega) | decide) only [↓stepPre, stepPost, ↓W_cond, ↓W_block, ↓reduceIte, Nat.reduceEqDiff, Nat.reduceLT, Nat.reduceLeDiff, List.size_toArray, List.length_cons, List.length_nil, ret0, stVar, isTup, Value.cells, List.set_cons_zero, List.set_cons_succ, Nat.le_refl, Nat.reduceAdd, Nat.reduceMul, Nat.reduceSub, env0, List.getD_cons_zero, List.getD_cons_succ, binV, intV, reduceCtorEq, List.getElem?_cons_succ, List.getElem?_cons_zero, pickV, nilCheckV, ptrV, unV, true_and, and_true, List.map_cons, List.map_nil, Nat.add_zero, Nat.zero_add, Option.isNone_none, Option.isNone_some, Rt, resultsV, allV, resV, Bool.not_true, Bool.not_false, calleeV, builtinV, Option.map_some, Option.map_none, List.cons_append, List.nil_append, List.append_nil, Array.toList_append, List.toList_toArray, eqV, fieldAddrV, ldVar, stN_own, stN_ownL, Int.cast_ofNat_Int, Int.fdiv_eq_ediv_of_nonneg, Int.reduceToNat, Nat.min_eq_left, Int.reducePow, IntKind.bits, convV, ne_eq, not_false_eq_true, not_true_eq_false, Int.reduceNeg, Int.reduceAdd, Int.reduceSub, Int.reduceLT, Int.reduceLE, Option.isSome_some, extractV, decide_true, decide_false, Int.reduceEq, List.getElem?_toArray, mkFuncV, List.map_toArray, beq_self_eq_true, Ty.t54, Tryd.underlying54, Ty.t22, Tryd.underlying22, Ty.t66, Tryd.underlying66, Ty.t37, Tryd.underlying37, Ty.t47, Tryd.underlying47, Ty.t40, Tryd.underlying40, Ty.t38, Tryd.underlying38, Ty.t3, Tryd.underlying3, Ty.t2, Tryd.underlying2, Ty.t33, Tryd.underlying33, Ty.t30, Tryd.underlying30, Ty.t4, Tryd.underlying4, Ty.t43, Tryd.underlying43, getL_take, List.drop_zero, List.drop_succ_cons, List.take_succ_cons, List.take_zero, List.take_nil, hlen, hlew, h0, h1, h2, h7, h8, h9]
  refine W_draw (fun _ => false) (fun _ => false) (fun _ => false) (by kernel_rfl) (by kernel_rfl) ?_
  simp (disch := first | omega | ((simp only [Ab.next_alloc, Ab.next_upd, List.length_cons, List.length_nil, ne_eq, not_true_eq_false, not_false_eq_true]) <;> omega) | decide) only [↓stepPre, stepPost, ↓W_cond, ↓W_block, ↓reduceIte, Nat.reduceEqDiff, Nat.reduceLT, Nat.reduceLeDiff, List.size_toArray, List.length_cons, List.length_nil, ret0, stVar, isTup, Value.cells, List.set_cons_zero, List.set_cons_succ, Nat.le_refl, Nat.reduceAdd, Nat.reduceMul, Nat.reduceSub, env0, List.getD_cons_zero, List.getD_cons_succ, binV, intV, reduceCtorEq, List.getElem?_cons_succ, List.getElem?_cons_zero, pickV, nilCheckV, ptrV, unV, true_and, and_true, List.map_cons, List.map_nil, Nat.add_zero, Nat.zero_add, Option.isNone_none, Option.isNone_some, Rt, resultsV, allV, resV, Bool.not_true, Bool.not_false, calleeV, builtinV, Option.map_some, Option.map_none, List.cons_append, List.nil_append, List.append_nil, Array.toList_append, List.toList_toArray, eqV, fieldAddrV, ldVar, stN_own, stN_ownL, Int.cast_ofNat_Int, Int.fdiv_eq_ediv_of_nonneg, Int.reduceToNat, Nat.min_eq_left, Int.reducePow, IntKind.bits, convV, ne_eq, not_false_eq_true, not_true_eq_false, Int.reduceNeg, Int.reduceAdd, Int.reduceSub, Int.reduceLT, Int.reduceLE, Option.isSome_some, extractV, decide_true, decide_false, Int.reduceEq, List.getElem?_toArray, mkFuncV, List.map_toArray, beq_self_eq_true, Ty.t54, Tryd.underlying54, Ty.t22, Tryd.underlying22, Ty.t66, Tryd.underlying66, Ty.t37, Tryd.underlying37, Ty.t47, Tryd.underlying47, Ty.t40, Tryd.underlying40, Ty.t38, Tryd.underlying38, Ty.t3, Tryd.underlying3, Ty.t2, Tryd.underlying2, Ty.t33, Tryd.underlying33, Ty.t30, Tryd.underlying30, Ty.t4, Tryd.underlying4, Ty.t43, Tryd.underlying43, getL_take, List.drop_zero, List.drop_succ_cons, List.take_succ_cons, List.take_zero, List.take_nil, hlen, hlew, h0, h1, h2, h7, h8, h9, hnix, hnld, hix, j1, htm]
  have hmod := Int.emod_nonneg cs[i].a (show (2000 : Int) ≠ 0 by omega)
  have hmod2 := Int.emod_lt_of_pos cs[i].a (show (0 : Int) < 2000 by omega)
  obtain ⟨ti, hti⟩ : ∃ a, a = nx[q] + cs[i].a % 2000 := ⟨_, rfl⟩
  rw [← hti]
  have hysx := v2.index (P := Tryd.prog) (k := .i64) (i := (q : Int)) Ty.elem22 Ty.siz54 (by omega) (by rw [smL_len]; omega)
  rw [Int.toNat_natCast] at hysx
  simp only [atP_conc] at hysx
  have hyld := v2.loadA (smL_at hql) (P := Tryd.prog) (e := 54) Ty.agg54 Ty.siz54
  simp only [atP_conc] at hyld
  simp (disch := first | omega | ((simp only [Ab.next_alloc, Ab.next_upd, List.length_cons, List.length_nil, ne_eq, not_true_eq_false, not_false_eq_true]) <;> omega) | decide) only [↓stepPre, stepPost, ↓W_cond, ↓W_block, ↓reduceIte, Nat.reduceEqDiff, Nat.reduceLT, Nat.reduceLeDiff, List.size_toArray, List.length_cons, List.length_nil, ret0, stVar, isTup, Value.cells, List.set_cons_zero, List.set_cons_succ, Nat.le_refl, Nat.reduceAdd, Nat.reduceMul, Nat.reduceSub, env0, List.getD_cons_zero, List.getD_cons_succ, binV, intV, reduceCtorEq, List.getElem?_cons_succ, List.getElem?_cons_zero, pickV, nilCheckV, ptrV, unV, true_and, and_true, List.map_cons, List.map_nil, Nat.add_zero, Nat.zero_add, Option.isNone_none, Option.isNone_some, Rt, resultsV, allV, resV, Bool.not_true, Bool.not_false, calleeV, builtinV, Option.map_some, Option.map_none, List.cons_append, List.nil_append, List.append_nil, Array.toList_append, List.toList_toArray, eqV, fieldAddrV, ldVar, stN_own, stN_ownL, Int.cast_ofNat_Int, Int.fdiv_eq_ediv_of_nonneg, Int.reduceToNat, Nat.min_eq_left, Int.reducePow, IntKind.bits, convV, ne_eq, not_false_eq_true, not_true_eq_false, Int.reduceNeg, Int.reduceAdd, Int.reduceSub, Int.reduceLT, Int.reduceLE, Option.isSome_some, extractV, decide_true, decide_false, Int.reduceEq, List.getElem?_toArray, mkFuncV, List.map_toArray, beq_self_eq_true, Ty.t54, Tryd.underlying54, Ty.t22, Tryd.underlying22, Ty.t66, Tryd.underlying66, Ty.t37, Tryd.underlying37, Ty.t47, Tryd.underlying47, Ty.t40, Tryd.underlying40, Ty.t38, Tryd.underlying38, Ty.t3, Tryd.underlying3, Ty.t2, Tryd.underlying2, Ty.t33, Tryd.underlying33, Ty.t30, Tryd.underlying30, Ty.t4, Tryd.underlying4, Ty.t43, Tryd.underlying43, getL_take, List.drop_zero, List.drop_succ_cons, List.take_succ_cons, List.take_zero, List.take_nil, hlen, hlew, h0, h1, h2, h7, h8, h9, hysx, hyld]
  have hyr := hal ys[q] (List.getElem_mem hql)
  have hyp := allR_pe hal (List.getElem_mem hql)
  have hyp2 := hpe ys[q] (List.getElem_mem hql)
  have hyd := (right_by hyr).2.1
  have hje : ys[q].jobE ti = 0 := by unfold Sm.jobE; rw [if_pos hyr, if_neg (by omega)]
  have hjv : ys[q].jobV ti = .agg #[.int .i64 ys[q].id, .int .i64 ti, .int .i64 (ti + ys[q].de), .int .i64 ys[q].cost] := by unfold Sm.jobV; rw [if_pos hje]
  refine rjob_p ?_
  rw [hje, hjv]
  simp (disch := first | omega | ((simp only [Ab.next_alloc, Ab.next_upd, List.length_cons, List.length_nil, ne_eq, not_true_eq_false, not_false_eq_true]) <;> omega) | decide) only [↓stepPre, stepPost, ↓W_cond, ↓W_block, ↓reduceIte, Nat.reduceEqDiff, Nat.reduceLT, Nat.reduceLeDiff, List.size_toArray, List.length_cons, List.length_nil, ret0, stVar, isTup, Value.cells, List.set_cons_zero, List.set_cons_succ, Nat.le_refl, Nat.reduceAdd, Nat.reduceMul, Nat.reduceSub, env0, List.getD_cons_zero, List.getD_cons_succ, binV, intV, reduceCtorEq, List.getElem?_cons_succ, List.getElem?_cons_zero, pickV, nilCheckV, ptrV, unV, true_and, and_true, List.map_cons, List.map_nil, Nat.add_zero, Nat.zero_add, Option.isNone_none, Option.isNone_some, Rt, resultsV, allV, resV, Bool.not_true, Bool.not_false, calleeV, builtinV, Option.map_some, Option.map_none, List.cons_append, List.nil_append, List.append_nil, Array.toList_append, List.toList_toArray, eqV, fieldAddrV, ldVar, stN_own, stN_ownL, Int.cast_ofNat_Int, Int.fdiv_eq_ediv_of_nonneg, Int.reduceToNat, Nat.min_eq_left, Int.reducePow, IntKind.bits, convV, ne_eq, not_false_eq_true, not_true_eq_false, Int.reduceNeg, Int.reduceAdd, Int.reduceSub, Int.reduceLT, Int.reduceLE, Option.isSome_some, extractV, decide_true, decide_false, Int.reduceEq, List.getElem?_toArray, mkFuncV, List.map_toArray, beq_self_eq_true, Ty.t54, Tryd.underlying54, Ty.t22, Tryd.underlying22, Ty.t66, Tryd.underlying66, Ty.t37, Tryd.underlying37, Ty.t47, Tryd.underlying47, Ty.t40, Tryd.underlying40, Ty.t38, Tryd.underlying38, Ty.t3, Tryd.underlying3, Ty.t2, Tryd.underlying2, Ty.t33, Tryd.underlying33, Ty.t30, Tryd.underlying30, Ty.t4, Tryd.underlying4, Ty.t43, Tryd.underlying43, getL_take, List.drop_zero, List.drop_succ_cons, List.take_succ_cons, List.take_zero, List.take_nil, hlen, hlew, h0, h1, h2, h7, h8, h9, hysx, hyld, hnix, ne_eq, eq_self, not_true_eq_false]
  have m1 : Mild t (t.alloc (.row [.int .i64 ys[q].id, .int .i64 ti, .int .i64 (ti + ys[q].de), .int .i64 ys[q].cost])) := .alloc _ _
  have r1 := Ab.heap_alloc_new t (.row [.int .i64 ys[q].id, .int .i64 ti, .int .i64 (ti + ys[q].de), .int .i64 ys[q].cost])
  have n1 : (t.alloc (.row [.int .i64 ys[q].id, .int .i64 ti, .int .i64 (ti + ys[q].de), .int .i64 ys[q].cost])).next = t.next + 1 := rfl
  generalize t.alloc (.row [.int .i64 ys[q].id, .int .i64 ti, .int .i64 (ti + ys[q].de), .int .i64 ys[q].cost]) = t1 at m1 r1 n1 ⊢
  have v3 := v2.mild m1
  have v3s := v3.lds (k := 3) (smL_at hql) rfl
  have rnx1 : t1.heap s.next = .row (jL nx).flatten := by rw [m1.heap _ hst]; exact rnx
  have lnx1 := lnx.mild m1
  have hput : putAt (.row (jL nx).flatten) q [.int .i64 (ti + ys[q].pe)] = some (.row ((jL nx).set q [.int .i64 (ti + ys[q].pe)]).flatten) := by
    have := putAt_flat (z := 1) (L := jL nx) (by simp [jL]) (i := q) (by rw [nxL_len]; omega) (l := [.int .i64 (ti + ys[q].pe)]) rfl
    rwa [Nat.mul_one] at this
  have hset : (jL nx).set q [.int .i64 (ti + ys[q].pe)] = jL (nx.set q (ti + ys[q].pe)) := by simp [jL, List.map_set]
  rw [hset] at hput
  simp (disch := first | omega | ((simp only [Ab.next_alloc, Ab.next_upd, List.length_cons, List.length_nil, ne_eq, not_true_eq_false, not_false_eq_true]) <;> omega) | decide) only [↓stepPre, stepPost, ↓W_cond, ↓W_block, ↓reduceIte, Nat.reduceEqDiff, Nat.reduceLT, Nat.reduceLeDiff, List.size_toArray, List.length_cons, List.length_nil, ret0, stVar, isTup, Value.cells, List.set_cons_zero, List.set_cons_succ, Nat.le_refl, Nat.reduceAdd, Nat.reduceMul, Nat.reduceSub, env0, List.getD_cons_zero, List.getD_cons_succ, binV, intV, reduceCtorEq, List.getElem?_cons_succ, List.getElem?_cons_zero, pickV, nilCheckV, ptrV, unV, true_and, and_true, List.map_cons, List.map_nil, Nat.add_zero, Nat.zero_add, Option.isNone_none, Option.isNone_some, Rt, resultsV, allV, resV, Bool.not_true, Bool.not_false, calleeV, builtinV, Option.map_some, Option.map_none, List.cons_append, List.nil_append, List.append_nil, Array.toList_append, List.toList_toArray, eqV, fieldAddrV, ldVar, stN_own, stN_ownL, Int.cast_ofNat_Int, Int.fdiv_eq_ediv_of_nonneg, Int.reduceToNat, Nat.min_eq_left, Int.reducePow, IntKind.bits, convV, ne_eq, not_false_eq_true, not_true_eq_false, Int.reduceNeg, Int.reduceAdd, Int.reduceSub, Int.reduceLT, Int.reduceLE, Option.isSome_some, extractV, decide_true, decide_false, Int.reduceEq, List.getElem?_toArray, mkFuncV, List.map_toArray, beq_self_eq_true, Ty.t54, Tryd.underlying54, Ty.t22, Tryd.underlying22, Ty.t66, Tryd.underlying66, Ty.t37, Tryd.underlying37, Ty.t47, Tryd.underlying47, Ty.t40, Tryd.underlying40, Ty.t38, Tryd.underlying38, Ty.t3, Tryd.underlying3, Ty.t2, Tryd.underlying2, Ty.t33, Tryd.underlying33, Ty.t30, Tryd.underlying30, Ty.t4, Tryd.underlying4, Ty.t43, Tryd.underlying43, getL_take, List.drop_zero, List.drop_succ_cons, List.take_succ_cons, List.take_zero, List.take_nil, hlen, hlew, h0, h1, h2, h7, h8, h9, hysx, v3s, hnix, rnx1, hput, ne_eq, eq_self, not_true_eq_false]
  have hn1b : base ≤ t1.next := by omega
  have hc1 : Ch t1 (t1.upd s.next (.row (jL (nx.set q (ti + ys[q].pe))).flatten)) (fun b => b = s.next) := Ch.upd' (.refl _ _) fun _ => rfl
  have r2 : (t1.upd s.next (.row (jL (nx.set q (ti + ys[q].pe))).flatten)).heap t.next = .row [.int .i64 ys[q].id, .int .i64 ti, .int .i64 (ti + ys[q].de), .int .i64 ys[q].cost] := by rw [Ab.heap_upd_ne _ _ (by omega)]; exact r1
  have rnx2 : (t1.upd s.next (.row (jL (nx.set q (ti + ys[q].pe))).flatten)).heap s.next = .row (jL (nx.set q (ti + ys[q].pe))).flatten := Ab.heap_upd_same _ _ _
  have n2 : (t1.upd s.next (.row (jL (nx.set q (ti + ys[q].pe))).flatten)).next = t.next + 1 := n1
  have mt2 : Mild s (t1.upd s.next (.row (jL (nx.set q (ti + ys[q].pe))).flatten)) := (mt.trans m1).upd' (by omega)
  have ljs2 := (ljs.mild m1).ch hc1 fun b hb e => by have := fjs b hb; omega
  generalize t1.upd s.next (.row (jL (nx.set q (ti + ys[q].pe))).flatten) = t2 at r2 rnx2 n2 mt2 ljs2 hc1 ⊢
  have hqlen : ys[q].id = q := hid q hql
  have hatq : (atS ys q).pe = ys[q].pe := by rw [atS_eq hql]
  have hcost := allR_cost hal (List.getElem_mem hql)
  obtain ⟨dl, hdl⟩ : ∃ d, d = if own then ti + cs[i].d else ti + ys[q].de := ⟨_, rfl⟩
  obtain ⟨jb, hjb⟩ : ∃ j : Jb, j = ⟨ys[q].id, ti, dl, ys[q].cost⟩ := ⟨_, rfl⟩
  have hok : jbOk ys own jb := by
    subst hjb
    refine ⟨q, hql, hqlen, rfl, by simp only; omega, by simp only; omega, ?_, ?_, fun h => ?_⟩
    · simp only [hdl]; split <;> omega
    · simp only [hdl]; split <;> omega
    · simp only [hdl, h]; simp
  have hnew : ∀ j ∈ js, gapJ ys j jb := fun j hj hst => by
    have := hjn j hj q hqn (by rw [hst, hjb]; exact hqlen)
    rw [hst, hjb]; simp only [hqlen, Int.toNat_natCast]; omega
  have hp2 : (js ++ [jb]).Pairwise (gapJ ys) := by
    rw [List.pairwise_append]
    exact ⟨hjp, List.pairwise_singleton _ _, fun a ha b hb => by rw [List.mem_singleton] at hb; subst hb; exact hnew a ha⟩
  have hnx2 : ∀ k (h : k < (nx.set q (ti + ys[q].pe)).length), 0 ≤ (nx.set q (ti + ys[q].pe))[k] ∧ (nx.set q (ti + ys[q].pe))[k] ≤ ((i + 1 : Nat) : Int) * 6200 := fun k hk => by
    rw [List.getElem_set]
    split
    · omega
    · have := hnb k (by simpa using hk); omega
  have hjn2 : ∀ j ∈ js ++ [jb], ∀ k (h : k < (nx.set q (ti + ys[q].pe)).length), j.st = (k : Int) → j.rel + (atS ys k).pe ≤ (nx.set q (ti + ys[q].pe))[k] := fun j hj k hk hst => by
    rw [List.getElem_set]
    rcases List.mem_append.1 hj with hj | hj
    · have := hjn j hj k (by simpa using hk) hst
      split
      · rename_i e; subst e; rw [hatq] at this ⊢; omega
      · exact this
    · rw [List.mem_singleton] at hj; subst hj
      have : k = q := by rw [hjb] at hst; simp only [hqlen] at hst; omega
      subst this
      rw [if_pos rfl, hjb, hatq]; exact Int.le_refl _
  cases own with
  | false =>
    rw [if_neg (by simp)] at hdl
    obtain ⟨v', t3, e1, e2, e3, e4, e5, e6⟩ := jb_app (j := jb) ljs2 tjs (by omega) (by omega)
    simp only [Jb.c, hjb, hdl] at e1 e2 e3
    simp (disch := first | omega | ((simp only [Ab.next_alloc, Ab.next_upd, List.length_cons, List.length_nil, ne_eq, not_true_eq_false, not_false_eq_true]) <;> omega) | decide) only [↓stepPre, stepPost, ↓W_cond, ↓W_block, ↓reduceIte, Nat.reduceEqDiff, Nat.reduceLT, Nat.reduceLeDiff, List.size_toArray, List.length_cons, List.length_nil, ret0, stVar, isTup, Value.cells, List.set_cons_zero, List.set_cons_succ, Nat.le_refl, Nat.reduceAdd, Nat.reduceMul, Nat.reduceSub, env0, List.getD_cons_zero, List.getD_cons_succ, binV, intV, reduceCtorEq, List.getElem?_cons_succ, List.getElem?_cons_zero, pickV, nilCheckV, ptrV, unV, true_and, and_true, List.map_cons, List.map_nil, Nat.add_zero, Nat.zero_add, Option.isNone_none, Option.isNone_some, Rt, resultsV, allV, resV, Bool.not_true, Bool.not_false, calleeV, builtinV, Option.map_some, Option.map_none, List.cons_append, List.nil_append, List.append_nil, Array.toList_append, List.toList_toArray, eqV, fieldAddrV, ldVar, stN_own, stN_ownL, Int.cast_ofNat_Int, Int.fdiv_eq_ediv_of_nonneg, Int.reduceToNat, Nat.min_eq_left, Int.reducePow, IntKind.bits, convV, ne_eq, not_false_eq_true, not_true_eq_false, Int.reduceNeg, Int.reduceAdd, Int.reduceSub, Int.reduceLT, Int.reduceLE, Option.isSome_some, extractV, decide_true, decide_false, Int.reduceEq, List.getElem?_toArray, mkFuncV, List.map_toArray, beq_self_eq_true, Ty.t54, Tryd.underlying54, Ty.t22, Tryd.underlying22, Ty.t66, Tryd.underlying66, Ty.t37, Tryd.underlying37, Ty.t47, Tryd.underlying47, Ty.t40, Tryd.underlying40, Ty.t38, Tryd.underlying38, Ty.t3, Tryd.underlying3, Ty.t2, Tryd.underlying2, Ty.t33, Tryd.underlying33, Ty.t30, Tryd.underlying30, Ty.t4, Tryd.underlying4, Ty.t43, Tryd.underlying43, getL_take, List.drop_zero, List.drop_succ_cons, List.take_succ_cons, List.take_zero, List.take_nil, hlen, hlew, h0, h1, h2, h7, h8, h9, r2, e1, e2]
    have n3 := e3.next
    simp only [n2] at n3 e6
    refine ⟨hi6, mild_ch mt2 e3 fun b hb1 hb2 => by have := fjs b hb2; omega, by omega, by simp, _, js ++ [jb], v', rfl, ?_, by simp [hnl], hnx2, e4, e5, fun b hb => ?_, by simp; omega, fun j hj => ?_, hp2, hjn2⟩
    · rw [e3.heap s.next (by simp only [n2]; omega) fun hb => by have := fjs _ hb; omega]; exact rnx2
    · have := e6 b hb; omega
    · rcases List.mem_append.1 hj with hj | hj
      · exact hjo j hj
      · rw [List.mem_singleton] at hj; subst hj; exact hok
  | true =>
    rw [if_pos rfl] at hdl
    have w3 := hw.mild mt2
    have j2 := w3.lds (k := 2) (cmL_at hic) rfl
    simp (disch := first | omega | ((simp only [Ab.next_alloc, Ab.next_upd, List.length_cons, List.length_nil, ne_eq, not_true_eq_false, not_false_eq_true]) <;> omega) | decide) only [↓stepPre, stepPost, ↓W_cond, ↓W_block, ↓reduceIte, Nat.reduceEqDiff, Nat.reduceLT, Nat.reduceLeDiff, List.size_toArray, List.length_cons, List.length_nil, ret0, stVar, isTup, Value.cells, List.set_cons_zero, List.set_cons_succ, Nat.le_refl, Nat.reduceAdd, Nat.reduceMul, Nat.reduceSub, env0, List.getD_cons_zero, List.getD_cons_succ, binV, intV, reduceCtorEq, List.getElem?_cons_succ, List.getElem?_cons_zero, pickV, nilCheckV, ptrV, unV, true_and, and_true, List.map_cons, List.map_nil, Nat.add_zero, Nat.zero_add, Option.isNone_none, Option.isNone_some, Rt, resultsV, allV, resV, Bool.not_true, Bool.not_false, calleeV, builtinV, Option.map_some, Option.map_none, List.cons_append, List.nil_append, List.append_nil, Array.toList_append, List.toList_toArray, eqV, fieldAddrV, ldVar, stN_own, stN_ownL, Int.cast_ofNat_Int, Int.fdiv_eq_ediv_of_nonneg, Int.reduceToNat, Nat.min_eq_left, Int.reducePow, IntKind.bits, convV, ne_eq, not_false_eq_true, not_true_eq_false, Int.reduceNeg, Int.reduceAdd, Int.reduceSub, Int.reduceLT, Int.reduceLE, Option.isSome_some, extractV, decide_true, decide_false, Int.reduceEq, List.getElem?_toArray, mkFuncV, List.map_toArray, beq_self_eq_true, Ty.t54, Tryd.underlying54, Ty.t22, Tryd.underlying22, Ty.t66, Tryd.underlying66, Ty.t37, Tryd.underlying37, Ty.t47, Tryd.underlying47, Ty.t40, Tryd.underlying40, Ty.t38, Tryd.underlying38, Ty.t3, Tryd.underlying3, Ty.t2, Tryd.underlying2, Ty.t33, Tryd.underlying33, Ty.t30, Tryd.underlying30, Ty.t4, Tryd.underlying4, Ty.t43, Tryd.underlying43, getL_take, List.drop_zero, List.drop_succ_cons, List.take_succ_cons, List.take_zero, List.take_nil, hlen, hlew, h0, h1, h2, h7, h8, h9, r2, hix, j2]
    have r3 := Ab.heap_upd_same t2 t.next (.row [.int .i64 ys[q].id, .int .i64 ti, .int .i64 (ti + cs[i].d), .int .i64 ys[q].cost])
    have mt3 : Mild s (t2.upd t.next (.row [.int .i64 ys[q].id, .int .i64 ti, .int .i64 (ti + cs[i].d), .int .i64 ys[q].cost])) := mt2.upd' (by omega)
    have ljs3 : Sl base (t2.upd t.next (.row [.int .i64 ys[q].id, .int .i64 ti, .int .i64 (ti + cs[i].d), .int .i64 ys[q].cost])) 4 w' (jbL js) := ljs2.ch (X := fun b => b = t.next) (Ch.upd' (.refl _ _) fun _ => rfl) fun b hb e => by have := ljs.lt b hb; omega
    have rnx3 : (t2.upd t.next (.row [.int .i64 ys[q].id, .int .i64 ti, .int .i64 (ti + cs[i].d), .int .i64 ys[q].cost])).heap s.next = .row (jL (nx.set q (ti + ys[q].pe))).flatten := by rw [Ab.heap_upd_ne _ _ (by omega)]; exact rnx2
    have n3' : (t2.upd t.next (.row [.int .i64 ys[q].id, .int .i64 ti, .int .i64 (ti + cs[i].d), .int .i64 ys[q].cost])).next = t.next + 1 := n2
    generalize t2.upd t.next (.row [.int .i64 ys[q].id, .int .i64 ti, .int .i64 (ti + cs[i].d), .int .i64 ys[q].cost]) = t4 at r3 mt3 ljs3 rnx3 n3' ⊢
    obtain ⟨v', t3, e1, e2, e3, e4, e5, e6⟩ := jb_app (j := jb) ljs3 tjs (by omega) (by omega)
    simp only [Jb.c, hjb, hdl] at e1 e2 e3
    simp (disch := first | omega | ((simp only [Ab.next_alloc, Ab.next_upd, List.length_cons, List.length_nil, ne_eq, not_true_eq_false, not_false_eq_true]) <;> omega) | decide) only [↓stepPre, stepPost, ↓W_cond, ↓W_block, ↓reduceIte, Nat.reduceEqDiff, Nat.reduceLT, Nat.reduceLeDiff, List.size_toArray, List.length_cons, List.length_nil, ret0, stVar, isTup, Value.cells, List.set_cons_zero, List.set_cons_succ, Nat.le_refl, Nat.reduceAdd, Nat.reduceMul, Nat.reduceSub, env0, List.getD_cons_zero, List.getD_cons_succ, binV, intV, reduceCtorEq, List.getElem?_cons_succ, List.getElem?_cons_zero, pickV, nilCheckV, ptrV, unV, true_and, and_true, List.map_cons, List.map_nil, Nat.add_zero, Nat.zero_add, Option.isNone_none, Option.isNone_some, Rt, resultsV, allV, resV, Bool.not_true, Bool.not_false, calleeV, builtinV, Option.map_some, Option.map_none, List.cons_append, List.nil_append, List.append_nil, Array.toList_append, List.toList_toArray, eqV, fieldAddrV, ldVar, stN_own, stN_ownL, Int.cast_ofNat_Int, Int.fdiv_eq_ediv_of_nonneg, Int.reduceToNat, Nat.min_eq_left, Int.reducePow, IntKind.bits, convV, ne_eq, not_false_eq_true, not_true_eq_false, Int.reduceNeg, Int.reduceAdd, Int.reduceSub, Int.reduceLT, Int.reduceLE, Option.isSome_some, extractV, decide_true, decide_false, Int.reduceEq, List.getElem?_toArray, mkFuncV, List.map_toArray, beq_self_eq_true, Ty.t54, Tryd.underlying54, Ty.t22, Tryd.underlying22, Ty.t66, Tryd.underlying66, Ty.t37, Tryd.underlying37, Ty.t47, Tryd.underlying47, Ty.t40, Tryd.underlying40, Ty.t38, Tryd.underlying38, Ty.t3, Tryd.underlying3, Ty.t2, Tryd.underlying2, Ty.t33, Tryd.underlying33, Ty.t30, Tryd.underlying30, Ty.t4, Tryd.underlying4, Ty.t43, Tryd.underlying43, getL_take, List.drop_zero, List.drop_succ_cons, List.take_succ_cons, List.take_zero, List.take_nil, hlen, hlew, h0, h1, h2, h7, h8, h9, r3, e1, e2]
    have n3 := e3.next
    simp only [n3'] at n3 e6
    refine ⟨hi6, mild_ch mt3 e3 fun b hb1 hb2 => by have := fjs b hb2; omega, by omega, by simp, _, js ++ [jb], v', rfl, ?_, by simp [hnl], hnx2, e4, e5, fun b hb => ?_, by simp; omega, fun j hj => ?_, hp2, hjn2⟩
    · rw [e3.heap s.next (by simp only [n3']; omega) fun hb => by have := fjs _ hb; omega]; exact rnx3
    · have := e6 b hb; omega
    · rcases List.mem_append.1 hj with hj | hj
      · exact hjo j hj
      · rw [List.mem_singleton] at hj; subst hj; exact hok
end Go.Proofs.YtlhoogdikhbemaaDoor
