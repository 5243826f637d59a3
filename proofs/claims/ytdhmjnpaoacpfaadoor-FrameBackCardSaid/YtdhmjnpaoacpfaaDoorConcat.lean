import Derived.Test.YtdhmjnpaoacpfaaDoorTypes
import Derived.Test.YtdhmjnpaoacpfaaDoorRow0
import Derived.Test.YtdhmjnpaoacpfaaDoorAbC
import Derived.Test.YtdhmjnpaoacpfaaDoorBits
import Derived.Test.YtdhmjnpaoacpfaaDoorOwnOf
/- slices.Concat of four strings of bytes, and slices.Grow of none, as contracts. -/
set_option linter.all false
set_option maxRecDepth 20000
namespace Go.Proofs.YtdhmjnpaoacpfaaDoor
open Go Go.Ab
def stBConcat := And.intro @List.size_toArray.{0} (And.intro @List.length_cons.{0} (And.intro @List.length_nil.{0} (And.intro @List.set_cons_zero.{0} (And.intro @List.set_cons_succ.{0} (And.intro @List.getD_cons_zero.{0} (And.intro @List.getD_cons_succ.{0} (And.intro @List.getElem?_cons_succ.{0} (And.intro @List.getElem?_cons_zero.{0} (And.intro @List.map_cons.{0,0} (And.intro @List.map_nil.{0,0} (And.intro @Option.isNone_none.{0} (And.intro @Option.isNone_some.{0} (And.intro @Option.map_some.{0,0} (And.intro @Option.map_none.{0,0} (And.intro @List.cons_append.{0} (And.intro @List.nil_append.{0} (And.intro @List.append_nil.{0} (And.intro @Array.toList_append.{0} (And.intro @List.toList_toArray.{0} (And.intro @Int.cast_ofNat_Int (And.intro @Option.isSome_some.{0} (And.intro @List.getElem?_toArray.{0} (And.intro @List.map_toArray.{0,0} (@Nat.min_eq_left))))))))))))))))))))))))
variable {base : Nat} {s : St} {R : Value → St → Prop}
/-- Bytes are laid into the room behind. -/
theorem place_app {b n : Nat} {xs ys : List Nat} {c : List Value} {x : Value} (hh : s.heap b = .grown c 1) (hc : c.length = n) (hx : c.take xs.length = bC xs) (hb : base ≤ b) (hlt : b < s.next) (hy : Sl base s 1 x (bL ys)) (hl : xs.length + ys.length ≤ n) (h0 : ys ≠ []) :
    ∃ c' s', appendB Tryd.prog base s [34, 34] [.slice (some ⟨b, 0, none⟩) xs.length n, x] = some (.slice (some ⟨b, 0, none⟩) (xs.length + ys.length) n, s') ∧ s'.heap b = .grown c' 1 ∧ c'.length = n ∧ c'.take (xs ++ ys).length = bC (xs ++ ys) ∧ Ch s s' (fun k => k = b) ∧ s'.next = s.next := by
  obtain ⟨m, n1, n2, n3⟩ := ldN_slice hy
  rw [bL_len] at n2
  subst n2
  have hf : (bL ys).flatten = bC ys := (bC_flat ys).symm
  rw [hf] at n3
  have hylen : (bC ys).length = ys.length := bC_len ys
  have hy0 : 0 < ys.length := List.length_pos_iff.2 h0
  refine ⟨setL c xs.length (bC ys), s.upd b (.grown (setL c xs.length (bC ys)) 1), ?_, Ab.heap_upd_same _ _ _, by rw [setL_length]; exact hc, ?_, Ch.upd' (.refl _ _) fun _ => rfl, rfl⟩
  · have hst : stN base s ⟨b, 0 + xs.length * 1, none⟩ (bC ys) = some (s.upd b (.grown (setL c xs.length (bC ys)) 1)) := by
      unfold stN
      rw [if_neg (by intro h; rw [h] at hylen; simp at hylen; omega)]
      simp only [hh, AObj.cells?, AObj.withCells, Nat.zero_add, Nat.mul_one]
      rw [if_pos ⟨trivial, hb, by omega⟩]
    simp only [appendB, Ty.und34, Ty.int34, Ty.elem34, Ty.siz5, if_true, n1]
    rw [n3]
    simp only [appendV, Ty.elem34, Ty.siz5, Ty.zer5, Ty.byt5]
    rw [if_pos ⟨rfl, by omega, by rw [hylen]; omega, by omega⟩, if_neg (by omega), if_pos (by omega)]
    rw [add_lit, hst]
  · rw [setL_eq _ _ _ (by omega), hx]
    have : (bC (xs ++ ys)).length = (xs ++ ys).length := bC_len _
    have e : bC (xs ++ ys) = bC xs ++ bC ys := by simp [bC]
    rw [← List.append_assoc, ← e, List.take_append_of_le_length (by omega), List.take_of_length_le (by omega)]
theorem sl_inG {b n : Nat} {xs : List Nat} {cs : List Value} (h : s.heap b = .grown cs 1) (hn : n = xs.length) (hx : cs = bC xs) (hc : cs.length = n) (hb : base ≤ b) (hlt : b < s.next) : Sl base s 1 (.slice (some ⟨b, 0, none⟩) n n) (bL xs) := by
  subst hx
  refine .mk (by rw [bL_len]; exact hn.symm) (Nat.le_refl _) (by simp [bL]) (fun _ => ⟨rfl, hlt, .inl hb, bC xs, by rw [h]; rfl, ?_⟩) (by unfold kindB; rw [h]; rfl) hlt
  rw [← bC_flat]
  exact getL_all rfl
theorem grow_p {n : Nat} (hn : 1 ≤ n ∧ n ≤ 100000) (hR : R (.slice (some ⟨s.next, 0, none⟩) 0 n) (s.alloc (.grown (bC (List.replicate n 0)) 1))) : WC Tryd.prog base 64 [.slice none 0 0, .int .i64 (n : Int)] s R := by
  refine WC_open Tryd.func64 rfl ?_
  have h1 : ¬ (n : Int) < 0 := by omega
  have h2 : (n : Int) > 0 := by omega
  have h2' : 0 < (n : Int) := by omega
  have hcap : capB Tryd.prog [34] [.slice none 0 0] = some (.int .i64 0) := by simp [capB, Ty.elem34]
  have hlen : lenB Tryd.prog [34] [.slice none 0 0] = some (.int .i64 0) := by simp [lenB, Ty.elem34, Ty.arr34]
  have hsl : sliceV Tryd.prog s 34 (.slice none 0 0) none (some (.int .i64 0)) none = some (.slice none 0 0) := by simp [sliceV, Ty.elem34, Ty.siz5, cutV, intOf?]
  have hrep : repL [.int .u8 0] n = bC (List.replicate n 0) := by simp [repL, bC, List.flatten_replicate_singleton]
  have happ : appendB Tryd.prog base s [34, 3] [.slice none 0 0, .int .i64 (n : Int)] = some (.slice (some ⟨s.next, 0, none⟩) n n, s.alloc (.grown (bC (List.replicate n 0)) 1)) := by
    simp only [appendB, Ty.und3, Ty.int3, Ty.elem34, Ty.zer5, Ty.byt5, Option.isSome_some, if_true]
    rw [if_pos ⟨by omega, by omega, by omega⟩]
    simp only [Int.toNat_natCast, hrep, appendV, Ty.elem34, Ty.siz5, Ty.zer5, Ty.byt5]
    rw [if_pos ⟨rfl, by omega, by simp [bC_len], by omega⟩, if_neg (by omega), if_neg (by omega), if_pos ⟨by omega, by omega, by omega⟩]
    simp
  have hsl2 : sliceV Tryd.prog (s.alloc (.grown (bC (List.replicate n 0)) 1)) 34 (.slice (some ⟨s.next, 0, none⟩) n n) none (some (.int .i64 0)) none = some (.slice (some ⟨s.next, 0, none⟩) 0 n) := by
    simp only [sliceV, Ty.elem34, Ty.siz5, cutV, intOf?, kindB, Ab.heap_alloc_new]
    simp [Addr.add]
  simp (disch := first | omega | ((simp only [Ab.next_alloc, Ab.next_upd, List.length_cons, List.length_nil, ne_eq, not_true_eq_false, not_false_eq_true]) <;> omega) | decide) only [↓stepPre, stepPost, ↓W_cond, ↓W_block, ↓reduceIte, Nat.reduceEqDiff, Nat.reduceLT, Nat.reduceLeDiff, ret0, stVar, isTup, Value.cells, Nat.le_refl, Nat.reduceAdd, Nat.reduceMul, Nat.reduceSub, env0, binV, intV, reduceCtorEq, pickV, nilCheckV, ptrV, unV, true_and, and_true, Nat.add_zero, Nat.zero_add, Rt, resultsV, allV, resV, Bool.not_true, Bool.not_false, calleeV, builtinV, eqV, fieldAddrV, ldVar, stN_own, stN_ownL, Int.fdiv_eq_ediv_of_nonneg, Int.reduceToNat, Int.reducePow, IntKind.bits, convV, ne_eq, not_false_eq_true, not_true_eq_false, Int.reduceNeg, Int.reduceAdd, Int.reduceSub, Int.reduceLT, Int.reduceLE, extractV, decide_true, decide_false, Int.reduceEq, mkFuncV, stBConcat, beq_self_eq_true, Ty.t3, Tryd.underlying3, Ty.t4, Tryd.underlying4, Ty.t5, Tryd.underlying5, Ty.t34, Tryd.underlying34, Ty.t78, Tryd.underlying78, h1, h2, h2', Int.sub_zero, hcap, hlen, hsl, happ, hsl2, Tryd.results64]
  exact hR
theorem concat_ok {q : Nat} {x0 x1 x2 x3 : Value} {y0 y1 y2 y3 : List Nat} (hq : s.heap q = .row [x0, x1, x2, x3]) (hqb : base ≤ q ∧ q < s.next) (h0 : Sl base s 1 x0 (bL y0)) (h1 : Sl base s 1 x1 (bL y1)) (h2 : Sl base s 1 x2 (bL y2)) (h3 : Sl base s 1 x3 (bL y3))
    (n0 : y0 ≠ []) (n1 : y1 ≠ []) (n2 : y2 ≠ []) (n3 : y3 ≠ []) (hl : y0.length + y1.length + y2.length + y3.length ≤ 100000)
    (hR : ∀ v' s', Mild s s' → Sl base s' 1 v' (bL (y0 ++ y1 ++ y2 ++ y3)) → Tight base v' → (∀ b, inB v' b → s.next ≤ b) → R v' s') :
    WC Tryd.prog base 35 [.slice (some ⟨q, 0, none⟩) 4 4] s R := by
  refine WC_open Tryd.func35 rfl ?_
  have e0 := h0.len (P := Tryd.prog) (ts := []) Ty.elem34 Ty.arr34
  have e1 := h1.len (P := Tryd.prog) (ts := []) Ty.elem34 Ty.arr34
  have e2 := h2.len (P := Tryd.prog) (ts := []) Ty.elem34 Ty.arr34
  have e3 := h3.len (P := Tryd.prog) (ts := []) Ty.elem34 Ty.arr34
  rw [bL_len] at e0 e1 e2 e3
  have l0 := List.length_pos_iff.2 n0
  have hlq : lenB Tryd.prog [78] [.slice (some ⟨q, 0, none⟩) 4 4] = some (.int .i64 4) := by simp [lenB, Ty.elem78, Ty.arr78]
  have hi : ∀ i : Int, 0 ≤ i → i < 4 → indexAddrV Tryd.prog 78 (.slice (some ⟨q, 0, none⟩) 4 4) (.int .i64 i) = some (.pointer (some ⟨q, 0 + i.toNat * 1, none⟩)) := fun i h0 h1 => idxSl Ty.elem78 Ty.siz34 h0 h1
  have i0 := hi 0 (by omega) (by omega)
  have i1 := hi 1 (by omega) (by omega)
  have i2 := hi 2 (by omega) (by omega)
  have i3 := hi 3 (by omega) (by omega)
  simp only [Int.toNat_zero, Int.toNat_one, Int.reduceToNat, Nat.reduceMul, Nat.reduceAdd, Nat.zero_mul, Nat.add_zero] at i0 i1 i2 i3
  have c0 : ¬ ((y0.length : Int) < 0) := by omega
  have c1 : ¬ ((y0.length : Int) + (y1.length : Int) < 0) := by omega
  have c2 : ¬ ((y0.length : Int) + (y1.length : Int) + (y2.length : Int) < 0) := by omega
  have c3 : ¬ ((y0.length : Int) + (y1.length : Int) + (y2.length : Int) + (y3.length : Int) < 0) := by omega
  simp (disch := first | omega | ((simp only [Ab.next_alloc, Ab.next_upd, List.length_cons, List.length_nil, ne_eq, not_true_eq_false, not_false_eq_true]) <;> omega) | decide) only [↓stepPre, stepPost, ↓W_cond, ↓W_block, ↓reduceIte, Nat.reduceEqDiff, Nat.reduceLT, Nat.reduceLeDiff, ret0, stVar, isTup, Value.cells, Nat.le_refl, Nat.reduceAdd, Nat.reduceMul, Nat.reduceSub, env0, binV, intV, reduceCtorEq, pickV, nilCheckV, ptrV, unV, true_and, and_true, Nat.add_zero, Nat.zero_add, Rt, resultsV, allV, resV, Bool.not_true, Bool.not_false, calleeV, builtinV, eqV, fieldAddrV, ldVar, stN_own, stN_ownL, Int.fdiv_eq_ediv_of_nonneg, Int.reduceToNat, Int.reducePow, IntKind.bits, convV, ne_eq, not_false_eq_true, not_true_eq_false, Int.reduceNeg, Int.reduceAdd, Int.reduceSub, Int.reduceLT, Int.reduceLE, extractV, decide_true, decide_false, Int.reduceEq, mkFuncV, stBConcat, beq_self_eq_true, Ty.t3, Tryd.underlying3, Ty.t4, Tryd.underlying4, Ty.t5, Tryd.underlying5, Ty.t34, Tryd.underlying34, Ty.t78, Tryd.underlying78, hlq]
  iterate 4 (rw [W_loop]; simp (disch := first | omega | ((simp only [Ab.next_alloc, Ab.next_upd, List.length_cons, List.length_nil, ne_eq, not_true_eq_false, not_false_eq_true]) <;> omega) | decide) only [↓stepPre, stepPost, ↓W_cond, ↓W_block, ↓reduceIte, Nat.reduceEqDiff, Nat.reduceLT, Nat.reduceLeDiff, ret0, stVar, isTup, Value.cells, Nat.le_refl, Nat.reduceAdd, Nat.reduceMul, Nat.reduceSub, env0, binV, intV, reduceCtorEq, pickV, nilCheckV, ptrV, unV, true_and, and_true, Nat.add_zero, Nat.zero_add, Rt, resultsV, allV, resV, Bool.not_true, Bool.not_false, calleeV, builtinV, eqV, fieldAddrV, ldVar, stN_own, stN_ownL, Int.fdiv_eq_ediv_of_nonneg, Int.reduceToNat, Int.reducePow, IntKind.bits, convV, ne_eq, not_false_eq_true, not_true_eq_false, Int.reduceNeg, Int.reduceAdd, Int.reduceSub, Int.reduceLT, Int.reduceLE, extractV, decide_true, decide_false, Int.reduceEq, mkFuncV, stBConcat, beq_self_eq_true, Ty.t3, Tryd.underlying3, Ty.t4, Tryd.underlying4, Ty.t5, Tryd.underlying5, Ty.t34, Tryd.underlying34, Ty.t78, Tryd.underlying78, hlq, i0, i1, i2, i3, hq, e0, e1, e2, e3, c0, c1, c2, c3, Int.zero_add])
  rw [W_loop]
  simp (disch := first | omega | ((simp only [Ab.next_alloc, Ab.next_upd, List.length_cons, List.length_nil, ne_eq, not_true_eq_false, not_false_eq_true]) <;> omega) | decide) only [↓stepPre, stepPost, ↓W_cond, ↓W_block, ↓reduceIte, Nat.reduceEqDiff, Nat.reduceLT, Nat.reduceLeDiff, ret0, stVar, isTup, Value.cells, Nat.le_refl, Nat.reduceAdd, Nat.reduceMul, Nat.reduceSub, env0, binV, intV, reduceCtorEq, pickV, nilCheckV, ptrV, unV, true_and, and_true, Nat.add_zero, Nat.zero_add, Rt, resultsV, allV, resV, Bool.not_true, Bool.not_false, calleeV, builtinV, eqV, fieldAddrV, ldVar, stN_own, stN_ownL, Int.fdiv_eq_ediv_of_nonneg, Int.reduceToNat, Int.reducePow, IntKind.bits, convV, ne_eq, not_false_eq_true, not_true_eq_false, Int.reduceNeg, Int.reduceAdd, Int.reduceSub, Int.reduceLT, Int.reduceLE, extractV, decide_true, decide_false, Int.reduceEq, mkFuncV, stBConcat, beq_self_eq_true, Ty.t3, Tryd.underlying3, Ty.t4, Tryd.underlying4, Ty.t5, Tryd.underlying5, Ty.t34, Tryd.underlying34, Ty.t78, Tryd.underlying78, hlq]
  obtain ⟨n, hn⟩ : ∃ n, n = y0.length + y1.length + y2.length + y3.length := ⟨_, rfl⟩
  have hn' : (y0.length : Int) + (y1.length : Int) + (y2.length : Int) + (y3.length : Int) = (n : Int) := by omega
  rw [hn']
  refine grow_p (by omega) ?_
  have hm0 := Mild.alloc s (.grown (bC (List.replicate n 0)) 1)
  have hb0 : base ≤ s.next := by omega
  obtain ⟨k1, s1, a1, b1, d1, f1, g1, p1⟩ := place_app (n := n) (xs := []) (ys := y0) (Ab.heap_alloc_new s (.grown (bC (List.replicate n 0)) 1)) (by simp [bC_len]) (by simp [bC]) hb0 (by simp only [Ab.next_alloc]; omega) (h0.mild hm0) (by simp; omega) n0
  simp only [List.nil_append, List.length_nil, Nat.zero_add, Ab.next_alloc] at a1 f1 p1
  have hx1 := (h1.mild hm0).ch g1 fun b hb he => by have := h1.lt b hb; omega
  obtain ⟨k2, s2, a2, b2, d2, f2, g2, p2⟩ := place_app (xs := y0) (ys := y1) b1 d1 f1 hb0 (by omega) hx1 (by omega) n1
  have hx2 := ((h2.mild hm0).ch g1 fun b hb he => by have := h2.lt b hb; omega).ch g2 fun b hb he => by have := h2.lt b hb; omega
  obtain ⟨k3, s3, a3, b3, d3, f3, g3, p3⟩ := place_app (xs := y0 ++ y1) (ys := y2) b2 d2 f2 hb0 (by omega) hx2 (by simp; omega) n2
  have hx3 := (((h3.mild hm0).ch g1 fun b hb he => by have := h3.lt b hb; omega).ch g2 fun b hb he => by have := h3.lt b hb; omega).ch g3 fun b hb he => by have := h3.lt b hb; omega
  obtain ⟨k4, s4, a4, b4, d4, f4, g4, p4⟩ := place_app (xs := y0 ++ y1 ++ y2) (ys := y3) b3 d3 f3 hb0 (by omega) hx3 (by simp; omega) n3
  simp only [List.length_append] at a3 a4
  have q1 : s1.heap q = .row [x0, x1, x2, x3] := by rw [g1.heap q (by simp only [Ab.next_alloc]; omega) (by omega), Ab.heap_alloc_ne _ _ (by omega)]; exact hq
  have q2 : s2.heap q = .row [x0, x1, x2, x3] := by rw [g2.heap q (by omega) (by omega)]; exact q1
  have q3 : s3.heap q = .row [x0, x1, x2, x3] := by rw [g3.heap q (by omega) (by omega)]; exact q2
  simp (disch := first | omega | ((simp only [Ab.next_alloc, Ab.next_upd, List.length_cons, List.length_nil, ne_eq, not_true_eq_false, not_false_eq_true]) <;> omega) | decide) only [↓stepPre, stepPost, ↓W_cond, ↓W_block, ↓reduceIte, Nat.reduceEqDiff, Nat.reduceLT, Nat.reduceLeDiff, ret0, stVar, isTup, Value.cells, Nat.le_refl, Nat.reduceAdd, Nat.reduceMul, Nat.reduceSub, env0, binV, intV, reduceCtorEq, pickV, nilCheckV, ptrV, unV, true_and, and_true, Nat.add_zero, Nat.zero_add, Rt, resultsV, allV, resV, Bool.not_true, Bool.not_false, calleeV, builtinV, eqV, fieldAddrV, ldVar, stN_own, stN_ownL, Int.fdiv_eq_ediv_of_nonneg, Int.reduceToNat, Int.reducePow, IntKind.bits, convV, ne_eq, not_false_eq_true, not_true_eq_false, Int.reduceNeg, Int.reduceAdd, Int.reduceSub, Int.reduceLT, Int.reduceLE, extractV, decide_true, decide_false, Int.reduceEq, mkFuncV, stBConcat, beq_self_eq_true, Ty.t3, Tryd.underlying3, Ty.t4, Tryd.underlying4, Ty.t5, Tryd.underlying5, Ty.t34, Tryd.underlying34, Ty.t78, Tryd.underlying78, hlq]
  iterate 4 (rw [W_loop]; simp (disch := first | omega | ((simp only [Ab.next_alloc, Ab.next_upd, List.length_cons, List.length_nil, ne_eq, not_true_eq_false, not_false_eq_true]) <;> omega) | decide) only [↓stepPre, stepPost, ↓W_cond, ↓W_block, ↓reduceIte, Nat.reduceEqDiff, Nat.reduceLT, Nat.reduceLeDiff, ret0, stVar, isTup, Value.cells, Nat.le_refl, Nat.reduceAdd, Nat.reduceMul, Nat.reduceSub, env0, binV, intV, reduceCtorEq, pickV, nilCheckV, ptrV, unV, true_and, and_true, Nat.add_zero, Nat.zero_add, Rt, resultsV, allV, resV, Bool.not_true, Bool.not_false, calleeV, builtinV, eqV, fieldAddrV, ldVar, stN_own, stN_ownL, Int.fdiv_eq_ediv_of_nonneg, Int.reduceToNat, Int.reducePow, IntKind.bits, convV, ne_eq, not_false_eq_true, not_true_eq_false, Int.reduceNeg, Int.reduceAdd, Int.reduceSub, Int.reduceLT, Int.reduceLE, extractV, decide_true, decide_false, Int.reduceEq, mkFuncV, stBConcat, beq_self_eq_true, Ty.t3, Tryd.underlying3, Ty.t4, Tryd.underlying4, Ty.t5, Tryd.underlying5, Ty.t34, Tryd.underlying34, Ty.t78, Tryd.underlying78, hlq, i0, i1, i2, i3, hq, q1, q2, q3, a1, a2, a3, a4])
  rw [W_loop]
  simp (disch := first | omega | ((simp only [Ab.next_alloc, Ab.next_upd, List.length_cons, List.length_nil, ne_eq, not_true_eq_false, not_false_eq_true]) <;> omega) | decide) only [↓stepPre, stepPost, ↓W_cond, ↓W_block, ↓reduceIte, Nat.reduceEqDiff, Nat.reduceLT, Nat.reduceLeDiff, ret0, stVar, isTup, Value.cells, Nat.le_refl, Nat.reduceAdd, Nat.reduceMul, Nat.reduceSub, env0, binV, intV, reduceCtorEq, pickV, nilCheckV, ptrV, unV, true_and, and_true, Nat.add_zero, Nat.zero_add, Rt, resultsV, allV, resV, Bool.not_true, Bool.not_false, calleeV, builtinV, eqV, fieldAddrV, ldVar, stN_own, stN_ownL, Int.fdiv_eq_ediv_of_nonneg, Int.reduceToNat, Int.reducePow, IntKind.bits, convV, ne_eq, not_false_eq_true, not_true_eq_false, Int.reduceNeg, Int.reduceAdd, Int.reduceSub, Int.reduceLT, Int.reduceLE, extractV, decide_true, decide_false, Int.reduceEq, mkFuncV, stBConcat, beq_self_eq_true, Ty.t3, Tryd.underlying3, Ty.t4, Tryd.underlying4, Ty.t5, Tryd.underlying5, Ty.t34, Tryd.underlying34, Ty.t78, Tryd.underlying78, hlq, Tryd.results35]
  refine hR _ s4 ?_ ?_ ?_ fun b hb => ?_
  · have : Ch s s4 (fun k => s.next ≤ k) := (((Ch.of_mild hm0 _).after g1 fun b _ h => by omega).after g2 fun b _ h => by omega).after (g3.after g4 fun b _ h => h) fun b _ h => by omega
    exact this.mild fun b hb h => by omega
  · have hlen : (y0 ++ y1 ++ y2 ++ y3).length = n := by simp; omega
    rw [← hn]
    refine sl_inG b4 hlen.symm ?_ d4 hb0 (by omega)
    rw [← f4, List.take_of_length_le (by omega)]
  · exact ⟨by omega, hb0⟩
  · simp only [inB] at hb; omega
end Go.Proofs.YtdhmjnpaoacpfaaDoor
