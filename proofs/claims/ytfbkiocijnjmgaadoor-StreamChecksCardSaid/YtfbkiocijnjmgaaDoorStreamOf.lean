/- The streams of a node, as contracts. -/
import Derived.Test.YtfbkiocijnjmgaaDoorTypes
import Derived.Test.YtfbkiocijnjmgaaDoorRow0
import Derived.Test.YtfbkiocijnjmgaaDoorAbC
import Derived.Test.YtfbkiocijnjmgaaDoorOwnOf
import Derived.Test.YtfbkiocijnjmgaaDoorPure
import Derived.Test.YtfbkiocijnjmgaaDoorBoxes
import Derived.Test.YtfbkiocijnjmgaaDoorStreamFind
set_option linter.all false
set_option maxRecDepth 20000
namespace Go.Proofs.YtfbkiocijnjmgaaDoor
open Go Go.Ab
variable {base : Nat} [Bok base] {s : St} {R : Value → St → Prop}
/-- An element is written. -/
theorem Sl.putE {z b o n c i : Nat} {l : List Value} {L : List (List Value)} (h : Sl base s z (.slice (some ⟨b, o, none⟩) n c) L) (hb : base ≤ b) (hi : i < L.length) (hl : l.length = z) (hz : 0 < z) :
    ∃ s', stN base s ⟨b, o + i * z, none⟩ l = some s' ∧ Sl base s' z (.slice (some ⟨b, o, none⟩) n c) (L.set i l) ∧ Ch s s' (fun j => j = b) ∧ s'.next = s.next := by
  cases h with
  | mk h1 h2 h3 h4 h5 h6 =>
    obtain ⟨g1, g2, g3, cs, g4, g5⟩ := h4 (.inr hb)
    have hlen := flat_len' h3
    have hle := (getL_some g5).1
    have hmul : i * z + z ≤ L.length * z := by
      have := Nat.mul_le_mul_right z (show i + 1 ≤ L.length by omega)
      rw [Nat.succ_mul] at this; exact this
    simp only at g4 hle
    refine ⟨s.upd b ((s.heap b).withCells (setL cs (o + i * z) l)), ?_, ?_, Ch.upd' (.refl _ _) fun _ => rfl, rfl⟩
    · unfold stN
      rw [if_neg (by intro h; rw [h] at hl; simp at hl; omega)]
      simp only [g4]
      rw [if_pos ⟨trivial, hb, by omega⟩]
    · have hcells : ((s.upd b ((s.heap b).withCells (setL cs (o + i * z) l))).heap b).cells? = some (setL cs (o + i * z) l) := by
        rw [Ab.heap_upd_same]
        cases hh : s.heap b <;> rw [hh] at g4 <;> first | (cases g4; done) | rfl
      have hL3 : ∀ m ∈ L.set i l, m.length = z := fun m hm => by
        rcases List.mem_or_eq_of_mem_set hm with h | h
        · exact h3 m h
        · rw [h]; exact hl
      have hfl : (L.set i l).flatten.length = L.flatten.length := by rw [flat_len' hL3, hlen, List.length_set]
      refine .mk (by rw [List.length_set]; exact h1) h2 hL3 (fun _ => ⟨g1, h6, .inl hb, _, hcells, ?_⟩) ?_ h6
      · rw [hfl]
        have e := (getL_some g5).2.1
        simp only at e ⊢
        unfold getL
        rw [if_pos (by rw [setL_length]; exact hle)]
        congr 1
        have hF : ∀ j, j < L.flatten.length → L.flatten[j]? = cs[o + j]? := fun j hj => by
          conv => lhs; rw [e]
          rw [List.getElem?_take, if_pos hj, List.getElem?_drop]
        rw [← setL_flat h3 hi hl]
        apply List.ext_getElem?
        intro j
        rw [List.getElem?_take]
        by_cases hj : j < L.flatten.length
        · rw [if_pos hj, List.getElem?_drop, setL_get _ _ _ _ (by omega), setL_get _ _ _ _ (by omega)]
          by_cases h7 : i * z ≤ j ∧ j < i * z + l.length
          · rw [if_pos h7, if_pos (by omega)]
            congr 1; omega
          · rw [if_neg h7, if_neg (by omega), hF j hj]
        · rw [if_neg hj, List.getElem?_eq_none (by rw [setL_length]; omega)]
      · unfold kindB at h5 ⊢
        rw [Ab.heap_upd_same]
        cases hh : s.heap b <;> simp only [hh] at h5 ⊢ <;> first | (cases h5; done) | exact h5 | rfl
/-- What stands behind is written over: what is ahead stays. -/
theorem Sl.keep {z b o n c i : Nat} {vs : List Value} {L : List (List Value)} (h : Sl base s z (.slice (some ⟨b, o, none⟩) n c) L) (hb : base ≤ b) (hi : i < L.length) (hvs : vs.length = (L.length - i) * z) (hz : 0 < z) :
    ∃ s', stN base s ⟨b, o + i * z, none⟩ vs = some s' ∧ Sl base s' z (.slice (some ⟨b, o, none⟩) i c) (L.take i) ∧ Ch s s' (fun j => j = b) ∧ s'.next = s.next := by
  cases h with
  | mk h1 h2 h3 h4 h5 h6 =>
    obtain ⟨g1, g2, g3, cs, g4, g5⟩ := h4 (.inr hb)
    have hlen := flat_len' h3
    have hle := (getL_some g5).1
    have hmul : i * z + (L.length - i) * z = L.length * z := by rw [← Nat.add_mul]; congr 1; omega
    have hpos : 0 < (L.length - i) * z := Nat.mul_pos (by omega) hz
    simp only at g4 hle
    refine ⟨s.upd b ((s.heap b).withCells (setL cs (o + i * z) vs)), ?_, ?_, Ch.upd' (.refl _ _) fun _ => rfl, rfl⟩
    · unfold stN
      rw [if_neg (by intro h; rw [h] at hvs; simp at hvs; omega)]
      simp only [g4]
      rw [if_pos ⟨trivial, hb, by omega⟩]
    · have hcells : ((s.upd b ((s.heap b).withCells (setL cs (o + i * z) vs))).heap b).cells? = some (setL cs (o + i * z) vs) := by
        rw [Ab.heap_upd_same]
        cases hh : s.heap b <;> rw [hh] at g4 <;> first | (cases g4; done) | rfl
      have hL3 : ∀ m ∈ L.take i, m.length = z := fun m hm => h3 m (List.mem_of_mem_take hm)
      have hti : (L.take i).length = i := by simp; omega
      have hfl : (L.take i).flatten.length = i * z := by rw [flat_len' hL3, hti]
      refine .mk hti (by omega) hL3 (fun _ => ⟨g1, h6, .inl hb, _, hcells, ?_⟩) ?_ h6
      · rw [hfl]
        have e := (getL_some g5).2.1
        simp only at e ⊢
        unfold getL
        rw [if_pos (by rw [setL_length]; omega)]
        congr 1
        have e2 : (L.take i).flatten = L.flatten.take (i * z) := by
          have := flat_cut h3 0 i (by omega)
          simpa using this
        rw [e2, e]
        apply List.ext_getElem?
        intro j
        simp only [List.getElem?_take, List.getElem?_drop]
        by_cases hj : j < i * z
        · rw [if_pos hj, if_pos hj, if_pos (by omega), setL_get _ _ _ _ (by omega), if_neg (by omega)]
        · rw [if_neg hj, if_neg hj]
      · unfold kindB at h5 ⊢
        rw [Ab.heap_upd_same]
        cases hh : s.heap b <;> simp only [hh] at h5 ⊢ <;> first | (cases h5; done) | exact h5 | rfl
def keepB (node : Int) (x : Sm) : Bool := decide (x.nd = node)
def ofL (xs : List Sm) (node : Int) : List Sm := xs.filter (keepB node)
theorem notOf_ok {x : Sm} {p : Nat} {node : Int} (hp : s.heap p = .row [.int .i64 node]) (hb : base ≤ p ∧ p < s.next) (hR : ∀ s', Mild s s' → R (.bool (!keepB node x)) s') : WC Tryd.prog base 49 [.agg x.c.toArray, .pointer (some ⟨p, 0, none⟩)] s R := by
  refine WC_open Tryd.func49 rfl ?_
  have hk : decide (¬ x.nd = node) = !keepB node x := by simp [keepB]
  simp (disch := first | omega | ((simp only [Ab.next_alloc, Ab.next_upd, List.length_cons, List.length_nil, ne_eq, not_true_eq_false, not_false_eq_true]) <;> omega) | decide) only [↓stepPre, stepPost, ↓W_cond, ↓W_block, ↓reduceIte, Nat.reduceEqDiff, Nat.reduceLT, Nat.reduceLeDiff, List.size_toArray, List.length_cons, List.length_nil, ret0, stVar, isTup, Value.cells, List.set_cons_zero, List.set_cons_succ, Nat.le_refl, Nat.reduceAdd, Nat.reduceMul, Nat.reduceSub, env0, List.getD_cons_zero, List.getD_cons_succ, binV, intV, reduceCtorEq, List.getElem?_cons_succ, List.getElem?_cons_zero, pickV, nilCheckV, ptrV, unV, true_and, and_true, List.map_cons, List.map_nil, Nat.add_zero, Nat.zero_add, Option.isNone_none, Option.isNone_some, Rt, resultsV, allV, resV, Bool.not_true, Bool.not_false, calleeV, builtinV, Option.map_some, Option.map_none, List.cons_append, List.nil_append, List.append_nil, Array.toList_append, List.toList_toArray, eqV, fieldAddrV, ldVar, stN_own, stN_ownL, Int.cast_ofNat_Int, Int.fdiv_eq_ediv_of_nonneg, Int.reduceToNat, Nat.min_eq_left, Int.reducePow, IntKind.bits, convV, ne_eq, not_false_eq_true, not_true_eq_false, Int.reduceNeg, Int.reduceAdd, Int.reduceSub, Int.reduceLT, Int.reduceLE, Option.isSome_some, extractV, decide_true, decide_false, Int.reduceEq, List.getElem?_toArray, mkFuncV, List.map_toArray, beq_self_eq_true, Ty.t30, Tryd.underlying30, Ty.t22, Tryd.underlying22, Ty.t3, Tryd.underlying3, Ty.t2, Tryd.underlying2, Ty.t4, Tryd.underlying4, Ty.t24, Tryd.underlying24, getL_take, List.drop_zero, List.drop_succ_cons, List.take_succ_cons, List.take_zero, List.take_nil, hp, hk, Tryd.results49]
  exact hR _ (.alloc _ _)
def delF (xs : List Sm) (node : Int) (i : Nat) : Int := if keepB node (atS xs i) then 0 else 1
theorem indexOf_ok {v : Value} {xs : List Sm} {p : Nat} {node : Int} (hs : Sl base s 7 v (smL xs)) (hn : xs.length ≤ 2 ^ 62) (hp : s.heap p = .row [.int .i64 node]) (hb : base ≤ p ∧ p < s.next) (hR : ∀ s', Mild s s' → R (.int .i64 (match fwd (delF xs node) 0 xs.length with | some i => (i : Int) | none => -1)) s') :
    WC Tryd.prog base 45 [v, .func (.func 49) #[] #[.pointer (some ⟨p, 0, none⟩)]] s R := by
  refine WC_open Tryd.func45 rfl ?_
  have hlen := hs.len (P := Tryd.prog) (ts := []) Ty.elem22 Ty.arr22
  rw [smL_len] at hlen
  simp (disch := first | omega | ((simp only [Ab.next_alloc, Ab.next_upd, List.length_cons, List.length_nil, ne_eq, not_true_eq_false, not_false_eq_true]) <;> omega) | decide) only [↓stepPre, stepPost, ↓W_cond, ↓W_block, ↓reduceIte, Nat.reduceEqDiff, Nat.reduceLT, Nat.reduceLeDiff, List.size_toArray, List.length_cons, List.length_nil, ret0, stVar, isTup, Value.cells, List.set_cons_zero, List.set_cons_succ, Nat.le_refl, Nat.reduceAdd, Nat.reduceMul, Nat.reduceSub, env0, List.getD_cons_zero, List.getD_cons_succ, binV, intV, reduceCtorEq, List.getElem?_cons_succ, List.getElem?_cons_zero, pickV, nilCheckV, ptrV, unV, true_and, and_true, List.map_cons, List.map_nil, Nat.add_zero, Nat.zero_add, Option.isNone_none, Option.isNone_some, Rt, resultsV, allV, resV, Bool.not_true, Bool.not_false, calleeV, builtinV, Option.map_some, Option.map_none, List.cons_append, List.nil_append, List.append_nil, Array.toList_append, List.toList_toArray, eqV, fieldAddrV, ldVar, stN_own, stN_ownL, Int.cast_ofNat_Int, Int.fdiv_eq_ediv_of_nonneg, Int.reduceToNat, Nat.min_eq_left, Int.reducePow, IntKind.bits, convV, ne_eq, not_false_eq_true, not_true_eq_false, Int.reduceNeg, Int.reduceAdd, Int.reduceSub, Int.reduceLT, Int.reduceLE, Option.isSome_some, extractV, decide_true, decide_false, Int.reduceEq, List.getElem?_toArray, mkFuncV, List.map_toArray, beq_self_eq_true, Ty.t30, Tryd.underlying30, Ty.t22, Tryd.underlying22, Ty.t3, Tryd.underlying3, Ty.t2, Tryd.underlying2, Ty.t4, Tryd.underlying4, Ty.t24, Tryd.underlying24, hlen]
  refine W_loop_ind xs.length (fun i e s1 => Mild s s1 ∧ fwd (delF xs node) 0 xs.length = fwd (delF xs node) i (xs.length - i) ∧ e 0 = v ∧ e 1 = .func (.func 49) #[] #[.pointer (some ⟨p, 0, none⟩)] ∧ e 7 = .int .i64 (xs.length : Int) ∧ e 8 = .int .i64 (i : Int)) ?_ ⟨.refl _, rfl, rfl, rfl, rfl, rfl⟩
  rintro i e s1 hi ⟨m1, hf, h0, h1, h7, h8⟩
  have n1 := m1.next
  by_cases hil : i < xs.length
  rotate_left
  · have g1 : ¬ (i : Int) < (xs.length : Int) := by omega
    rw [hf, show xs.length - i = 0 by omega] at hR
    simp (disch := first | omega | ((simp only [Ab.next_alloc, Ab.next_upd, List.length_cons, List.length_nil, ne_eq, not_true_eq_false, not_false_eq_true]) <;> omega) | decide) only [↓stepPre, stepPost, ↓W_cond, ↓W_block, ↓reduceIte, Nat.reduceEqDiff, Nat.reduceLT, Nat.reduceLeDiff, List.size_toArray, List.length_cons, List.length_nil, ret0, stVar, isTup, Value.cells, List.set_cons_zero, List.set_cons_succ, Nat.le_refl, Nat.reduceAdd, Nat.reduceMul, Nat.reduceSub, env0, List.getD_cons_zero, List.getD_cons_succ, binV, intV, reduceCtorEq, List.getElem?_cons_succ, List.getElem?_cons_zero, pickV, nilCheckV, ptrV, unV, true_and, and_true, List.map_cons, List.map_nil, Nat.add_zero, Nat.zero_add, Option.isNone_none, Option.isNone_some, Rt, resultsV, allV, resV, Bool.not_true, Bool.not_false, calleeV, builtinV, Option.map_some, Option.map_none, List.cons_append, List.nil_append, List.append_nil, Array.toList_append, List.toList_toArray, eqV, fieldAddrV, ldVar, stN_own, stN_ownL, Int.cast_ofNat_Int, Int.fdiv_eq_ediv_of_nonneg, Int.reduceToNat, Nat.min_eq_left, Int.reducePow, IntKind.bits, convV, ne_eq, not_false_eq_true, not_true_eq_false, Int.reduceNeg, Int.reduceAdd, Int.reduceSub, Int.reduceLT, Int.reduceLE, Option.isSome_some, extractV, decide_true, decide_false, Int.reduceEq, List.getElem?_toArray, mkFuncV, List.map_toArray, beq_self_eq_true, Ty.t30, Tryd.underlying30, Ty.t22, Tryd.underlying22, Ty.t3, Tryd.underlying3, Ty.t2, Tryd.underlying2, Ty.t4, Tryd.underlying4, Ty.t24, Tryd.underlying24, h0, h1, h7, h8, g1, Tryd.results45]
    exact hR _ m1
  have g1 : (i : Int) < (xs.length : Int) := by omega
  have v2 := hs.mild m1
  have hix := v2.index (P := Tryd.prog) (k := .i64) (i := (i : Int)) Ty.elem22 Ty.siz30 (by omega) (by rw [smL_len]; omega)
  rw [Int.toNat_natCast] at hix
  have hld := v2.loadA (smL_at hil) Ty.agg30 Ty.siz30
  simp (disch := first | omega | ((simp only [Ab.next_alloc, Ab.next_upd, List.length_cons, List.length_nil, ne_eq, not_true_eq_false, not_false_eq_true]) <;> omega) | decide) only [↓stepPre, stepPost, ↓W_cond, ↓W_block, ↓reduceIte, Nat.reduceEqDiff, Nat.reduceLT, Nat.reduceLeDiff, List.size_toArray, List.length_cons, List.length_nil, ret0, stVar, isTup, Value.cells, List.set_cons_zero, List.set_cons_succ, Nat.le_refl, Nat.reduceAdd, Nat.reduceMul, Nat.reduceSub, env0, List.getD_cons_zero, List.getD_cons_succ, binV, intV, reduceCtorEq, List.getElem?_cons_succ, List.getElem?_cons_zero, pickV, nilCheckV, ptrV, unV, true_and, and_true, List.map_cons, List.map_nil, Nat.add_zero, Nat.zero_add, Option.isNone_none, Option.isNone_some, Rt, resultsV, allV, resV, Bool.not_true, Bool.not_false, calleeV, builtinV, Option.map_some, Option.map_none, List.cons_append, List.nil_append, List.append_nil, Array.toList_append, List.toList_toArray, eqV, fieldAddrV, ldVar, stN_own, stN_ownL, Int.cast_ofNat_Int, Int.fdiv_eq_ediv_of_nonneg, Int.reduceToNat, Nat.min_eq_left, Int.reducePow, IntKind.bits, convV, ne_eq, not_false_eq_true, not_true_eq_false, Int.reduceNeg, Int.reduceAdd, Int.reduceSub, Int.reduceLT, Int.reduceLE, Option.isSome_some, extractV, decide_true, decide_false, Int.reduceEq, List.getElem?_toArray, mkFuncV, List.map_toArray, beq_self_eq_true, Ty.t30, Tryd.underlying30, Ty.t22, Tryd.underlying22, Ty.t3, Tryd.underlying3, Ty.t2, Tryd.underlying2, Ty.t4, Tryd.underlying4, Ty.t24, Tryd.underlying24, getL_take, List.drop_zero, List.drop_succ_cons, List.take_succ_cons, List.take_zero, List.take_nil, h0, h1, h7, h8, g1, hix, hld]
  refine notOf_ok ((m1.heap _ hb.2).trans hp) (by omega) fun s2 m2 => ?_
  cases hk : keepB node xs[i]
  · rw [hf, fwd_hit hil (by simp [delF, atS_eq hil, hk])] at hR
    simp (disch := first | omega | ((simp only [Ab.next_alloc, Ab.next_upd, List.length_cons, List.length_nil, ne_eq, not_true_eq_false, not_false_eq_true]) <;> omega) | decide) only [↓stepPre, stepPost, ↓W_cond, ↓W_block, ↓reduceIte, Nat.reduceEqDiff, Nat.reduceLT, Nat.reduceLeDiff, List.size_toArray, List.length_cons, List.length_nil, ret0, stVar, isTup, Value.cells, List.set_cons_zero, List.set_cons_succ, Nat.le_refl, Nat.reduceAdd, Nat.reduceMul, Nat.reduceSub, env0, List.getD_cons_zero, List.getD_cons_succ, binV, intV, reduceCtorEq, List.getElem?_cons_succ, List.getElem?_cons_zero, pickV, nilCheckV, ptrV, unV, true_and, and_true, List.map_cons, List.map_nil, Nat.add_zero, Nat.zero_add, Option.isNone_none, Option.isNone_some, Rt, resultsV, allV, resV, Bool.not_true, Bool.not_false, calleeV, builtinV, Option.map_some, Option.map_none, List.cons_append, List.nil_append, List.append_nil, Array.toList_append, List.toList_toArray, eqV, fieldAddrV, ldVar, stN_own, stN_ownL, Int.cast_ofNat_Int, Int.fdiv_eq_ediv_of_nonneg, Int.reduceToNat, Nat.min_eq_left, Int.reducePow, IntKind.bits, convV, ne_eq, not_false_eq_true, not_true_eq_false, Int.reduceNeg, Int.reduceAdd, Int.reduceSub, Int.reduceLT, Int.reduceLE, Option.isSome_some, extractV, decide_true, decide_false, Int.reduceEq, List.getElem?_toArray, mkFuncV, List.map_toArray, beq_self_eq_true, Ty.t30, Tryd.underlying30, Ty.t22, Tryd.underlying22, Ty.t3, Tryd.underlying3, Ty.t2, Tryd.underlying2, Ty.t4, Tryd.underlying4, Ty.t24, Tryd.underlying24, getL_take, List.drop_zero, List.drop_succ_cons, List.take_succ_cons, List.take_zero, List.take_nil, h0, h1, h7, h8, hk, Tryd.results45]
    exact hR _ (m1.trans m2)
  · simp (disch := first | omega | ((simp only [Ab.next_alloc, Ab.next_upd, List.length_cons, List.length_nil, ne_eq, not_true_eq_false, not_false_eq_true]) <;> omega) | decide) only [↓stepPre, stepPost, ↓W_cond, ↓W_block, ↓reduceIte, Nat.reduceEqDiff, Nat.reduceLT, Nat.reduceLeDiff, List.size_toArray, List.length_cons, List.length_nil, ret0, stVar, isTup, Value.cells, List.set_cons_zero, List.set_cons_succ, Nat.le_refl, Nat.reduceAdd, Nat.reduceMul, Nat.reduceSub, env0, List.getD_cons_zero, List.getD_cons_succ, binV, intV, reduceCtorEq, List.getElem?_cons_succ, List.getElem?_cons_zero, pickV, nilCheckV, ptrV, unV, true_and, and_true, List.map_cons, List.map_nil, Nat.add_zero, Nat.zero_add, Option.isNone_none, Option.isNone_some, Rt, resultsV, allV, resV, Bool.not_true, Bool.not_false, calleeV, builtinV, Option.map_some, Option.map_none, List.cons_append, List.nil_append, List.append_nil, Array.toList_append, List.toList_toArray, eqV, fieldAddrV, ldVar, stN_own, stN_ownL, Int.cast_ofNat_Int, Int.fdiv_eq_ediv_of_nonneg, Int.reduceToNat, Nat.min_eq_left, Int.reducePow, IntKind.bits, convV, ne_eq, not_false_eq_true, not_true_eq_false, Int.reduceNeg, Int.reduceAdd, Int.reduceSub, Int.reduceLT, Int.reduceLE, Option.isSome_some, extractV, decide_true, decide_false, Int.reduceEq, List.getElem?_toArray, mkFuncV, List.map_toArray, beq_self_eq_true, Ty.t30, Tryd.underlying30, Ty.t22, Tryd.underlying22, Ty.t3, Tryd.underlying3, Ty.t2, Tryd.underlying2, Ty.t4, Tryd.underlying4, Ty.t24, Tryd.underlying24, getL_take, List.drop_zero, List.drop_succ_cons, List.take_succ_cons, List.take_zero, List.take_nil, h0, h1, h7, h8, hk]
    exact ⟨hil, m1.trans m2, by rw [hf, fwd_skip hil (by simp [delF, atS_eq hil, hk])], by simp⟩
theorem delete_ok {w : Value} {xs : List Sm} {p : Nat} {node : Int} (hs : Sl base s 7 w (smL xs)) (hn : xs.length ≤ 100) (hw : ∀ b, inB w b → base ≤ b ∧ b ≠ p) (hp : s.heap p = .row [.int .i64 node]) (hb : base ≤ p ∧ p < s.next)
    (hR : ∀ v' s', Ch s s' (inB w) → Sl base s' 7 v' (smL (ofL xs node)) → R v' s') :
    WC Tryd.prog base 47 [w, .func (.func 49) #[] #[.pointer (some ⟨p, 0, none⟩)]] s R := by
  refine WC_open Tryd.func47 rfl ?_
  simp (disch := first | omega | ((simp only [Ab.next_alloc, Ab.next_upd, List.length_cons, List.length_nil, ne_eq, not_true_eq_false, not_false_eq_true]) <;> omega) | decide) only [↓stepPre, stepPost, ↓W_cond, ↓W_block, ↓reduceIte, Nat.reduceEqDiff, Nat.reduceLT, Nat.reduceLeDiff, List.size_toArray, List.length_cons, List.length_nil, ret0, stVar, isTup, Value.cells, List.set_cons_zero, List.set_cons_succ, Nat.le_refl, Nat.reduceAdd, Nat.reduceMul, Nat.reduceSub, env0, List.getD_cons_zero, List.getD_cons_succ, binV, intV, reduceCtorEq, List.getElem?_cons_succ, List.getElem?_cons_zero, pickV, nilCheckV, ptrV, unV, true_and, and_true, List.map_cons, List.map_nil, Nat.add_zero, Nat.zero_add, Option.isNone_none, Option.isNone_some, Rt, resultsV, allV, resV, Bool.not_true, Bool.not_false, calleeV, builtinV, Option.map_some, Option.map_none, List.cons_append, List.nil_append, List.append_nil, Array.toList_append, List.toList_toArray, eqV, fieldAddrV, ldVar, stN_own, stN_ownL, Int.cast_ofNat_Int, Int.fdiv_eq_ediv_of_nonneg, Int.reduceToNat, Nat.min_eq_left, Int.reducePow, IntKind.bits, convV, ne_eq, not_false_eq_true, not_true_eq_false, Int.reduceNeg, Int.reduceAdd, Int.reduceSub, Int.reduceLT, Int.reduceLE, Option.isSome_some, extractV, decide_true, decide_false, Int.reduceEq, List.getElem?_toArray, mkFuncV, List.map_toArray, beq_self_eq_true, Ty.t30, Tryd.underlying30, Ty.t22, Tryd.underlying22, Ty.t3, Tryd.underlying3, Ty.t2, Tryd.underlying2, Ty.t4, Tryd.underlying4, Ty.t24, Tryd.underlying24]
  refine indexOf_ok hs (by omega) hp hb fun s1 m1 => ?_
  have n1 := m1.next
  cases hf : fwd (delF xs node) 0 xs.length with
  | none =>
    have hall : ofL xs node = xs := by
      unfold ofL
      refine List.filter_eq_self.2 fun x hx => ?_
      obtain ⟨i, hi, rfl⟩ := List.mem_iff_getElem.1 hx
      have := fwd_none hf i (by omega) (by omega)
      unfold delF at this
      rw [atS_eq hi] at this
      cases hk : keepB node xs[i]
      · rw [hk] at this; simp at this
      · rfl
    simp (disch := first | omega | ((simp only [Ab.next_alloc, Ab.next_upd, List.length_cons, List.length_nil, ne_eq, not_true_eq_false, not_false_eq_true]) <;> omega) | decide) only [↓stepPre, stepPost, ↓W_cond, ↓W_block, ↓reduceIte, Nat.reduceEqDiff, Nat.reduceLT, Nat.reduceLeDiff, List.size_toArray, List.length_cons, List.length_nil, ret0, stVar, isTup, Value.cells, List.set_cons_zero, List.set_cons_succ, Nat.le_refl, Nat.reduceAdd, Nat.reduceMul, Nat.reduceSub, env0, List.getD_cons_zero, List.getD_cons_succ, binV, intV, reduceCtorEq, List.getElem?_cons_succ, List.getElem?_cons_zero, pickV, nilCheckV, ptrV, unV, true_and, and_true, List.map_cons, List.map_nil, Nat.add_zero, Nat.zero_add, Option.isNone_none, Option.isNone_some, Rt, resultsV, allV, resV, Bool.not_true, Bool.not_false, calleeV, builtinV, Option.map_some, Option.map_none, List.cons_append, List.nil_append, List.append_nil, Array.toList_append, List.toList_toArray, eqV, fieldAddrV, ldVar, stN_own, stN_ownL, Int.cast_ofNat_Int, Int.fdiv_eq_ediv_of_nonneg, Int.reduceToNat, Nat.min_eq_left, Int.reducePow, IntKind.bits, convV, ne_eq, not_false_eq_true, not_true_eq_false, Int.reduceNeg, Int.reduceAdd, Int.reduceSub, Int.reduceLT, Int.reduceLE, Option.isSome_some, extractV, decide_true, decide_false, Int.reduceEq, List.getElem?_toArray, mkFuncV, List.map_toArray, beq_self_eq_true, Ty.t30, Tryd.underlying30, Ty.t22, Tryd.underlying22, Ty.t3, Tryd.underlying3, Ty.t2, Tryd.underlying2, Ty.t4, Tryd.underlying4, Ty.t24, Tryd.underlying24, Tryd.results47]
    exact hR w s1 (.of_mild m1 _) (by rw [hall]; exact hs.mild m1)
  | some i0 =>
    obtain ⟨q1, q2, q3, q4⟩ := fwd_some hf
    have hi0 : i0 < xs.length := by omega
    have hk0 : keepB node xs[i0] = false := by
      unfold delF at q3
      rw [atS_eq hi0] at q3
      cases hk : keepB node xs[i0]
      · rfl
      · rw [hk] at q3; simp at q3
    have hkj : ∀ j (hj : j < xs.length), j < i0 → keepB node xs[j] = true := fun j hj hji => by
      have := q4 j (by omega) hji
      unfold delF at this
      rw [atS_eq hj] at this
      cases hk : keepB node xs[j]
      · rw [hk] at this; simp at this
      · rfl
    have g0 : ¬ (i0 : Int) = -1 := by omega
    obtain ⟨vb, vo, vn, vc, rfl⟩ := hs.conc (by intro h; have := congrArg List.length h; simp only [smL_len, List.length_nil] at this; omega)
    obtain ⟨hbb, hbp⟩ := hw vb rfl
    have hvn : vn = xs.length := by have := sl_cap hs; rw [smL_len] at this; exact this.1
    have hvc : vn ≤ vc := (sl_cap hs).2
    simp (disch := first | omega | ((simp only [Ab.next_alloc, Ab.next_upd, List.length_cons, List.length_nil, ne_eq, not_true_eq_false, not_false_eq_true]) <;> omega) | decide) only [↓stepPre, stepPost, ↓W_cond, ↓W_block, ↓reduceIte, Nat.reduceEqDiff, Nat.reduceLT, Nat.reduceLeDiff, List.size_toArray, List.length_cons, List.length_nil, ret0, stVar, isTup, Value.cells, List.set_cons_zero, List.set_cons_succ, Nat.le_refl, Nat.reduceAdd, Nat.reduceMul, Nat.reduceSub, env0, List.getD_cons_zero, List.getD_cons_succ, binV, intV, reduceCtorEq, List.getElem?_cons_succ, List.getElem?_cons_zero, pickV, nilCheckV, ptrV, unV, true_and, and_true, List.map_cons, List.map_nil, Nat.add_zero, Nat.zero_add, Option.isNone_none, Option.isNone_some, Rt, resultsV, allV, resV, Bool.not_true, Bool.not_false, calleeV, builtinV, Option.map_some, Option.map_none, List.cons_append, List.nil_append, List.append_nil, Array.toList_append, List.toList_toArray, eqV, fieldAddrV, ldVar, stN_own, stN_ownL, Int.cast_ofNat_Int, Int.fdiv_eq_ediv_of_nonneg, Int.reduceToNat, Nat.min_eq_left, Int.reducePow, IntKind.bits, convV, ne_eq, not_false_eq_true, not_true_eq_false, Int.reduceNeg, Int.reduceAdd, Int.reduceSub, Int.reduceLT, Int.reduceLE, Option.isSome_some, extractV, decide_true, decide_false, Int.reduceEq, List.getElem?_toArray, mkFuncV, List.map_toArray, beq_self_eq_true, Ty.t30, Tryd.underlying30, Ty.t22, Tryd.underlying22, Ty.t3, Tryd.underlying3, Ty.t2, Tryd.underlying2, Ty.t4, Tryd.underlying4, Ty.t24, Tryd.underlying24, g0]
    refine W_loop_inv (xs.length - (i0 + 1)) (fun u e t => Ch s t (inB (.slice (some ⟨vb, vo, none⟩) vn vc)) ∧ e 0 = .slice (some ⟨vb, vo, none⟩) vn vc ∧ e 1 = .func (.func 49) #[] #[.pointer (some ⟨p, 0, none⟩)] ∧ e 6 = .int .i64 ((i0 + 1 + u : Nat) : Int) ∧ ∃ (i : Nat) (ys : List Sm), e 5 = .int .i64 (i : Int) ∧ Sl base t 7 (.slice (some ⟨vb, vo, none⟩) vn vc) (smL ys) ∧ ys.length = xs.length ∧ i < i0 + 1 + u ∧ ys.take i = (xs.take (i0 + 1 + u)).filter (keepB node) ∧ ys.drop (i0 + 1 + u) = xs.drop (i0 + 1 + u))
      (fun x e t => x = .exit 0 ∧ Ch s t (inB (.slice (some ⟨vb, vo, none⟩) vn vc)) ∧ e 0 = .slice (some ⟨vb, vo, none⟩) vn vc ∧ ∃ (i : Nat) (ys : List Sm), e 5 = .int .i64 (i : Int) ∧ Sl base t 7 (.slice (some ⟨vb, vo, none⟩) vn vc) (smL ys) ∧ ys.length = xs.length ∧ i < xs.length ∧ ys.take i = ofL xs node) ?_ ?_ ?_
    rotate_left
    · refine ⟨.of_mild m1 _, rfl, rfl, rfl, i0, xs, rfl, hs.mild m1, rfl, by omega, ?_, rfl⟩
      rw [Nat.add_zero, List.take_succ_eq_append_getElem hi0, List.filter_append]
      rw [List.filter_eq_self.2 (fun x hx => ?_)]
      · simp [hk0]
      · obtain ⟨j, hj, rfl⟩ := List.mem_iff_getElem.1 hx
        simp only [List.length_take] at hj
        rw [List.getElem_take]
        exact hkj j (by omega) (by omega)
    · rintro x e t ⟨rfl, ct, h0, i, ys, h5, lt, hyl, hil, htk⟩
      have nt := ct.next
      have hsl1 : sliceV Tryd.prog t 22 (.slice (some ⟨vb, vo, none⟩) vn vc) (some (.int .i64 (i : Int))) none none = some (.slice (some ⟨vb, vo + i * 7, none⟩) (vn - i) (vc - i)) := by
        have hkd : kindB t vb 7 = true := by cases lt with | mk _ _ _ _ h5 _ => exact h5
        simp only [sliceV, Ty.elem22, Ty.siz30, cutV, intOf?, Option.isSome_none, Bool.false_eq_true, if_false]
        rw [if_pos ⟨by omega, by omega, by omega, by omega⟩]
        simp only [hkd, if_true, add_lit, Int.toNat_natCast]
      have hzl : (repL [Value.int .i64 0, .int .i64 0, .int .i64 0, .int .i64 0, .int .i64 0, .int .i64 0, .int .i64 0] (vn - i)).length = ((smL ys).length - i) * 7 := by
        rw [repL_length, smL_len, hyl, hvn]; rfl
      obtain ⟨t2, k1, k2, k3, k4⟩ := Sl.keep lt hbb (i := i) (by rw [smL_len]; omega) hzl (by omega)
      have hcl : clearB Tryd.prog base t [22] [.slice (some ⟨vb, vo + i * 7, none⟩) (vn - i) (vc - i)] = some (.tuple #[], t2) := by
        simp only [clearB, Ty.elem22, Ty.siz30, Ty.zer30]
        rw [if_pos ⟨rfl, by omega⟩, if_neg (by omega)]
        simp only [k1]
      have hsl2 : sliceV Tryd.prog t2 22 (.slice (some ⟨vb, vo, none⟩) vn vc) none (some (.int .i64 (i : Int))) none = some (.slice (some ⟨vb, vo, none⟩) i vc) := by
        have hkd : kindB t2 vb 7 = true := by cases k2 with | mk _ _ _ _ h5 _ => exact h5
        simp only [sliceV, Ty.elem22, Ty.siz30, cutV, intOf?, Option.isSome_none, Bool.false_eq_true, if_false]
        rw [if_pos ⟨by omega, by omega, by omega, by omega⟩]
        simp [hkd, add_lit]
      simp (disch := first | omega | ((simp only [Ab.next_alloc, Ab.next_upd, List.length_cons, List.length_nil, ne_eq, not_true_eq_false, not_false_eq_true]) <;> omega) | decide) only [↓stepPre, stepPost, ↓W_cond, ↓W_block, ↓reduceIte, Nat.reduceEqDiff, Nat.reduceLT, Nat.reduceLeDiff, List.size_toArray, List.length_cons, List.length_nil, ret0, stVar, isTup, Value.cells, List.set_cons_zero, List.set_cons_succ, Nat.le_refl, Nat.reduceAdd, Nat.reduceMul, Nat.reduceSub, env0, List.getD_cons_zero, List.getD_cons_succ, binV, intV, reduceCtorEq, List.getElem?_cons_succ, List.getElem?_cons_zero, pickV, nilCheckV, ptrV, unV, true_and, and_true, List.map_cons, List.map_nil, Nat.add_zero, Nat.zero_add, Option.isNone_none, Option.isNone_some, Rt, resultsV, allV, resV, Bool.not_true, Bool.not_false, calleeV, builtinV, Option.map_some, Option.map_none, List.cons_append, List.nil_append, List.append_nil, Array.toList_append, List.toList_toArray, eqV, fieldAddrV, ldVar, stN_own, stN_ownL, Int.cast_ofNat_Int, Int.fdiv_eq_ediv_of_nonneg, Int.reduceToNat, Nat.min_eq_left, Int.reducePow, IntKind.bits, convV, ne_eq, not_false_eq_true, not_true_eq_false, Int.reduceNeg, Int.reduceAdd, Int.reduceSub, Int.reduceLT, Int.reduceLE, Option.isSome_some, extractV, decide_true, decide_false, Int.reduceEq, List.getElem?_toArray, mkFuncV, List.map_toArray, beq_self_eq_true, Ty.t30, Tryd.underlying30, Ty.t22, Tryd.underlying22, Ty.t3, Tryd.underlying3, Ty.t2, Tryd.underlying2, Ty.t4, Tryd.underlying4, Ty.t24, Tryd.underlying24, h0, h5, hsl1, hcl, hsl2, Tryd.results47]
      refine hR _ t2 (ct.after k3 fun k _ h => h.symm) ?_
      rw [← htk]
      have : (smL ys).take i = smL (ys.take i) := by simp [List.map_take]
      rw [this] at k2; exact k2
    rintro u e t hu ⟨ct, h0, h1, h6, i, ys, h5, lt, hyl, hiu, htk, hdr⟩
    have nt := ct.next
    have hlen := lt.len (P := Tryd.prog) (ts := []) Ty.elem22 Ty.arr22
    rw [smL_len, hyl] at hlen
    obtain ⟨j, hj⟩ : ∃ j, j = i0 + 1 + u := ⟨_, rfl⟩
    rw [← hj] at h6 hiu htk hdr
    by_cases hjl : j < xs.length
    rotate_left
    · have g1 : ¬ (j : Int) < (xs.length : Int) := by omega
      rw [List.take_of_length_le (l := xs) (by omega)] at htk
      simp (disch := first | omega | ((simp only [Ab.next_alloc, Ab.next_upd, List.length_cons, List.length_nil, ne_eq, not_true_eq_false, not_false_eq_true]) <;> omega) | decide) only [↓stepPre, stepPost, ↓W_cond, ↓W_block, ↓reduceIte, Nat.reduceEqDiff, Nat.reduceLT, Nat.reduceLeDiff, List.size_toArray, List.length_cons, List.length_nil, ret0, stVar, isTup, Value.cells, List.set_cons_zero, List.set_cons_succ, Nat.le_refl, Nat.reduceAdd, Nat.reduceMul, Nat.reduceSub, env0, List.getD_cons_zero, List.getD_cons_succ, binV, intV, reduceCtorEq, List.getElem?_cons_succ, List.getElem?_cons_zero, pickV, nilCheckV, ptrV, unV, true_and, and_true, List.map_cons, List.map_nil, Nat.add_zero, Nat.zero_add, Option.isNone_none, Option.isNone_some, Rt, resultsV, allV, resV, Bool.not_true, Bool.not_false, calleeV, builtinV, Option.map_some, Option.map_none, List.cons_append, List.nil_append, List.append_nil, Array.toList_append, List.toList_toArray, eqV, fieldAddrV, ldVar, stN_own, stN_ownL, Int.cast_ofNat_Int, Int.fdiv_eq_ediv_of_nonneg, Int.reduceToNat, Nat.min_eq_left, Int.reducePow, IntKind.bits, convV, ne_eq, not_false_eq_true, not_true_eq_false, Int.reduceNeg, Int.reduceAdd, Int.reduceSub, Int.reduceLT, Int.reduceLE, Option.isSome_some, extractV, decide_true, decide_false, Int.reduceEq, List.getElem?_toArray, mkFuncV, List.map_toArray, beq_self_eq_true, Ty.t30, Tryd.underlying30, Ty.t22, Tryd.underlying22, Ty.t3, Tryd.underlying3, Ty.t2, Tryd.underlying2, Ty.t4, Tryd.underlying4, Ty.t24, Tryd.underlying24, h0, h1, h5, h6, hlen, g1]
      exact ⟨ct, i, ys, rfl, lt, hyl, by omega, htk⟩
    have g1 : (j : Int) < (xs.length : Int) := by omega
    have hyj : ys[j]'(by omega) = xs[j] := by
      have h7 := congrArg (fun l => l[0]?) hdr
      simp only [List.getElem?_drop, Nat.add_zero] at h7
      rw [List.getElem?_eq_getElem (by omega), List.getElem?_eq_getElem hjl] at h7
      exact Option.some.inj h7
    have hix := lt.index (P := Tryd.prog) (k := .i64) (i := (j : Int)) Ty.elem22 Ty.siz30 (by omega) (by rw [smL_len]; omega)
    rw [Int.toNat_natCast] at hix
    have hld := lt.loadA (smL_at (show j < ys.length by omega)) Ty.agg30 Ty.siz30
    rw [hyj] at hld
    simp only [atP_conc] at hix hld
    have hpt : (t.alloc (.row xs[j].c)).heap p = .row [.int .i64 node] := by
      rw [Ab.heap_alloc_ne _ _ (by omega), ct.heap p hb.2 (fun h => hbp h)]; exact hp
    simp (disch := first | omega | ((simp only [Ab.next_alloc, Ab.next_upd, List.length_cons, List.length_nil, ne_eq, not_true_eq_false, not_false_eq_true]) <;> omega) | decide) only [↓stepPre, stepPost, ↓W_cond, ↓W_block, ↓reduceIte, Nat.reduceEqDiff, Nat.reduceLT, Nat.reduceLeDiff, List.size_toArray, List.length_cons, List.length_nil, ret0, stVar, isTup, Value.cells, List.set_cons_zero, List.set_cons_succ, Nat.le_refl, Nat.reduceAdd, Nat.reduceMul, Nat.reduceSub, env0, List.getD_cons_zero, List.getD_cons_succ, binV, intV, reduceCtorEq, List.getElem?_cons_succ, List.getElem?_cons_zero, pickV, nilCheckV, ptrV, unV, true_and, and_true, List.map_cons, List.map_nil, Nat.add_zero, Nat.zero_add, Option.isNone_none, Option.isNone_some, Rt, resultsV, allV, resV, Bool.not_true, Bool.not_false, calleeV, builtinV, Option.map_some, Option.map_none, List.cons_append, List.nil_append, List.append_nil, Array.toList_append, List.toList_toArray, eqV, fieldAddrV, ldVar, stN_own, stN_ownL, Int.cast_ofNat_Int, Int.fdiv_eq_ediv_of_nonneg, Int.reduceToNat, Nat.min_eq_left, Int.reducePow, IntKind.bits, convV, ne_eq, not_false_eq_true, not_true_eq_false, Int.reduceNeg, Int.reduceAdd, Int.reduceSub, Int.reduceLT, Int.reduceLE, Option.isSome_some, extractV, decide_true, decide_false, Int.reduceEq, List.getElem?_toArray, mkFuncV, List.map_toArray, beq_self_eq_true, Ty.t30, Tryd.underlying30, Ty.t22, Tryd.underlying22, Ty.t3, Tryd.underlying3, Ty.t2, Tryd.underlying2, Ty.t4, Tryd.underlying4, Ty.t24, Tryd.underlying24, getL_take, List.drop_zero, List.drop_succ_cons, List.take_succ_cons, List.take_zero, List.take_nil, h0, h1, h5, h6, hlen, g1, hix, hld]
    refine notOf_ok hpt (by simp only [Ab.next_alloc]; omega) fun t2 m2 => ?_
    have n2 := m2.next
    simp only [Ab.next_alloc] at n2
    have hrow : t2.heap t.next = .row xs[j].c := (m2.heap _ (by simp only [Ab.next_alloc]; omega)).trans (Ab.heap_alloc_new _ _)
    have ct2 : Ch s t2 (inB (.slice (some ⟨vb, vo, none⟩) vn vc)) := ct.after (.of_mild ((Mild.alloc _ _).trans m2) (inB (.slice (some ⟨vb, vo, none⟩) vn vc))) fun k _ h => h
    have lt2 := lt.mild ((Mild.alloc t (.row xs[j].c)).trans m2)
    have hfl : (xs.take (j + 1)).filter (keepB node) = (xs.take j).filter (keepB node) ++ if keepB node xs[j] then [xs[j]] else [] := by
      rw [List.take_succ_eq_append_getElem hjl, List.filter_append]
      cases hk : keepB node xs[j] <;> simp [hk]
    have hdr1 : ys.drop (j + 1) = xs.drop (j + 1) := by
      have := congrArg (List.drop 1) hdr
      simpa [List.drop_drop] using this
    cases hk : keepB node xs[j]
    · rw [hk, if_neg (by simp), List.append_nil] at hfl
      simp (disch := first | omega | ((simp only [Ab.next_alloc, Ab.next_upd, List.length_cons, List.length_nil, ne_eq, not_true_eq_false, not_false_eq_true]) <;> omega) | decide) only [↓stepPre, stepPost, ↓W_cond, ↓W_block, ↓reduceIte, Nat.reduceEqDiff, Nat.reduceLT, Nat.reduceLeDiff, List.size_toArray, List.length_cons, List.length_nil, ret0, stVar, isTup, Value.cells, List.set_cons_zero, List.set_cons_succ, Nat.le_refl, Nat.reduceAdd, Nat.reduceMul, Nat.reduceSub, env0, List.getD_cons_zero, List.getD_cons_succ, binV, intV, reduceCtorEq, List.getElem?_cons_succ, List.getElem?_cons_zero, pickV, nilCheckV, ptrV, unV, true_and, and_true, List.map_cons, List.map_nil, Nat.add_zero, Nat.zero_add, Option.isNone_none, Option.isNone_some, Rt, resultsV, allV, resV, Bool.not_true, Bool.not_false, calleeV, builtinV, Option.map_some, Option.map_none, List.cons_append, List.nil_append, List.append_nil, Array.toList_append, List.toList_toArray, eqV, fieldAddrV, ldVar, stN_own, stN_ownL, Int.cast_ofNat_Int, Int.fdiv_eq_ediv_of_nonneg, Int.reduceToNat, Nat.min_eq_left, Int.reducePow, IntKind.bits, convV, ne_eq, not_false_eq_true, not_true_eq_false, Int.reduceNeg, Int.reduceAdd, Int.reduceSub, Int.reduceLT, Int.reduceLE, Option.isSome_some, extractV, decide_true, decide_false, Int.reduceEq, List.getElem?_toArray, mkFuncV, List.map_toArray, beq_self_eq_true, Ty.t30, Tryd.underlying30, Ty.t22, Tryd.underlying22, Ty.t3, Tryd.underlying3, Ty.t2, Tryd.underlying2, Ty.t4, Tryd.underlying4, Ty.t24, Tryd.underlying24, getL_take, List.drop_zero, List.drop_succ_cons, List.take_succ_cons, List.take_zero, List.take_nil, h0, h1, h5, h6, hk]
      refine ⟨by omega, ct2, by rw [hj]; rfl, i, ys, rfl, lt2, hyl, by omega, ?_, ?_⟩
      · rw [show i0 + 1 + (u + 1) = j + 1 by omega, hfl]; exact htk
      · rw [show i0 + 1 + (u + 1) = j + 1 by omega]; exact hdr1
    · have hiw := lt2.index (P := Tryd.prog) (k := .i64) (i := (i : Int)) Ty.elem22 Ty.siz30 (by omega) (by rw [smL_len]; omega)
      rw [Int.toNat_natCast] at hiw
      simp only [atP_conc] at hiw
      obtain ⟨t3, k1, k2, k3, k4⟩ := Sl.putE lt2 hbb (i := i) (l := xs[j].c) (by rw [smL_len]; omega) rfl (by omega)
      rw [hk, if_pos rfl] at hfl
      simp (disch := first | omega | ((simp only [Ab.next_alloc, Ab.next_upd, List.length_cons, List.length_nil, ne_eq, not_true_eq_false, not_false_eq_true]) <;> omega) | decide) only [↓stepPre, stepPost, ↓W_cond, ↓W_block, ↓reduceIte, Nat.reduceEqDiff, Nat.reduceLT, Nat.reduceLeDiff, List.size_toArray, List.length_cons, List.length_nil, ret0, stVar, isTup, Value.cells, List.set_cons_zero, List.set_cons_succ, Nat.le_refl, Nat.reduceAdd, Nat.reduceMul, Nat.reduceSub, env0, List.getD_cons_zero, List.getD_cons_succ, binV, intV, reduceCtorEq, List.getElem?_cons_succ, List.getElem?_cons_zero, pickV, nilCheckV, ptrV, unV, true_and, and_true, List.map_cons, List.map_nil, Nat.add_zero, Nat.zero_add, Option.isNone_none, Option.isNone_some, Rt, resultsV, allV, resV, Bool.not_true, Bool.not_false, calleeV, builtinV, Option.map_some, Option.map_none, List.cons_append, List.nil_append, List.append_nil, Array.toList_append, List.toList_toArray, eqV, fieldAddrV, ldVar, Int.cast_ofNat_Int, Int.fdiv_eq_ediv_of_nonneg, Int.reduceToNat, Nat.min_eq_left, Int.reducePow, IntKind.bits, convV, ne_eq, not_false_eq_true, not_true_eq_false, Int.reduceNeg, Int.reduceAdd, Int.reduceSub, Int.reduceLT, Int.reduceLE, Option.isSome_some, extractV, decide_true, decide_false, Int.reduceEq, List.getElem?_toArray, mkFuncV, List.map_toArray, beq_self_eq_true, Ty.t30, Tryd.underlying30, Ty.t22, Tryd.underlying22, Ty.t3, Tryd.underlying3, Ty.t2, Tryd.underlying2, Ty.t4, Tryd.underlying4, Ty.t24, Tryd.underlying24, getL_take, List.drop_zero, List.drop_succ_cons, List.take_succ_cons, List.take_zero, List.take_nil, h0, h1, h5, h6, hk, hrow, hiw, k1]
      refine ⟨by omega, ct2.after k3 fun k _ h => h.symm, by rw [hj]; rfl, i + 1, ys.set i xs[j], by simp, ?_, by rw [List.length_set]; exact hyl, by omega, ?_, ?_⟩
      · have : smL (ys.set i xs[j]) = (smL ys).set i xs[j].c := by simp only [smL, List.map_set]
        rw [this]; exact k2
      · rw [show i0 + 1 + (u + 1) = j + 1 by omega, hfl, List.take_succ_eq_append_getElem (by rw [List.length_set]; omega), List.getElem_set_self, List.take_set_of_le (by omega), htk]
      · rw [show i0 + 1 + (u + 1) = j + 1 by omega, List.drop_set_of_lt (by omega)]; exact hdr1
theorem sof_ok {v : Value} {xs : List Sm} {node : Int} (hs : Sl base s 7 v (smL xs)) (hn : xs.length ≤ 100) (hbn : base ≤ s.next)
    (hR : ∀ v' s', Mild s s' → Sl base s' 7 v' (smL (ofL xs node)) → R v' s') :
    WC Tryd.prog base 18 [v, .int .i64 node] s R := by
  refine WC_open Tryd.func18 rfl ?_
  simp (disch := first | omega | ((simp only [Ab.next_alloc, Ab.next_upd, List.length_cons, List.length_nil, ne_eq, not_true_eq_false, not_false_eq_true]) <;> omega) | decide) only [↓stepPre, stepPost, ↓W_cond, ↓W_block, ↓reduceIte, Nat.reduceEqDiff, Nat.reduceLT, Nat.reduceLeDiff, List.size_toArray, List.length_cons, List.length_nil, ret0, stVar, isTup, Value.cells, List.set_cons_zero, List.set_cons_succ, Nat.le_refl, Nat.reduceAdd, Nat.reduceMul, Nat.reduceSub, env0, List.getD_cons_zero, List.getD_cons_succ, binV, intV, reduceCtorEq, List.getElem?_cons_succ, List.getElem?_cons_zero, pickV, nilCheckV, ptrV, unV, true_and, and_true, List.map_cons, List.map_nil, Nat.add_zero, Nat.zero_add, Option.isNone_none, Option.isNone_some, Rt, resultsV, allV, resV, Bool.not_true, Bool.not_false, calleeV, builtinV, Option.map_some, Option.map_none, List.cons_append, List.nil_append, List.append_nil, Array.toList_append, List.toList_toArray, eqV, fieldAddrV, ldVar, stN_own, stN_ownL, Int.cast_ofNat_Int, Int.fdiv_eq_ediv_of_nonneg, Int.reduceToNat, Nat.min_eq_left, Int.reducePow, IntKind.bits, convV, ne_eq, not_false_eq_true, not_true_eq_false, Int.reduceNeg, Int.reduceAdd, Int.reduceSub, Int.reduceLT, Int.reduceLE, Option.isSome_some, extractV, decide_true, decide_false, Int.reduceEq, List.getElem?_toArray, mkFuncV, List.map_toArray, beq_self_eq_true, Ty.t30, Tryd.underlying30, Ty.t22, Tryd.underlying22, Ty.t3, Tryd.underlying3, Ty.t2, Tryd.underlying2, Ty.t4, Tryd.underlying4, Ty.t24, Tryd.underlying24]
  refine smClone_ok (hs.mild (.alloc s (.row [.int .i64 node]))) hn (by simp only [Ab.next_alloc]; omega) fun w s1 m1 l1 f1 => ?_
  have n1 := m1.next
  simp only [Ab.next_alloc] at n1 f1
  simp (disch := first | omega | ((simp only [Ab.next_alloc, Ab.next_upd, List.length_cons, List.length_nil, ne_eq, not_true_eq_false, not_false_eq_true]) <;> omega) | decide) only [↓stepPre, stepPost, ↓W_cond, ↓W_block, ↓reduceIte, Nat.reduceEqDiff, Nat.reduceLT, Nat.reduceLeDiff, List.size_toArray, List.length_cons, List.length_nil, ret0, stVar, isTup, Value.cells, List.set_cons_zero, List.set_cons_succ, Nat.le_refl, Nat.reduceAdd, Nat.reduceMul, Nat.reduceSub, env0, List.getD_cons_zero, List.getD_cons_succ, binV, intV, reduceCtorEq, List.getElem?_cons_succ, List.getElem?_cons_zero, pickV, nilCheckV, ptrV, unV, true_and, and_true, List.map_cons, List.map_nil, Nat.add_zero, Nat.zero_add, Option.isNone_none, Option.isNone_some, Rt, resultsV, allV, resV, Bool.not_true, Bool.not_false, calleeV, builtinV, Option.map_some, Option.map_none, List.cons_append, List.nil_append, List.append_nil, Array.toList_append, List.toList_toArray, eqV, fieldAddrV, ldVar, stN_own, stN_ownL, Int.cast_ofNat_Int, Int.fdiv_eq_ediv_of_nonneg, Int.reduceToNat, Nat.min_eq_left, Int.reducePow, IntKind.bits, convV, ne_eq, not_false_eq_true, not_true_eq_false, Int.reduceNeg, Int.reduceAdd, Int.reduceSub, Int.reduceLT, Int.reduceLE, Option.isSome_some, extractV, decide_true, decide_false, Int.reduceEq, List.getElem?_toArray, mkFuncV, List.map_toArray, beq_self_eq_true, Ty.t30, Tryd.underlying30, Ty.t22, Tryd.underlying22, Ty.t3, Tryd.underlying3, Ty.t2, Tryd.underlying2, Ty.t4, Tryd.underlying4, Ty.t24, Tryd.underlying24]
  refine delete_ok l1 hn (fun b hb => ?_) ((m1.heap _ (by simp only [Ab.next_alloc]; omega)).trans (Ab.heap_alloc_new _ _)) (by omega) fun v' s' c' l' => ?_
  · have := f1 b hb; omega
  · simp (disch := first | omega | ((simp only [Ab.next_alloc, Ab.next_upd, List.length_cons, List.length_nil, ne_eq, not_true_eq_false, not_false_eq_true]) <;> omega) | decide) only [↓stepPre, stepPost, ↓W_cond, ↓W_block, ↓reduceIte, Nat.reduceEqDiff, Nat.reduceLT, Nat.reduceLeDiff, List.size_toArray, List.length_cons, List.length_nil, ret0, stVar, isTup, Value.cells, List.set_cons_zero, List.set_cons_succ, Nat.le_refl, Nat.reduceAdd, Nat.reduceMul, Nat.reduceSub, env0, List.getD_cons_zero, List.getD_cons_succ, binV, intV, reduceCtorEq, List.getElem?_cons_succ, List.getElem?_cons_zero, pickV, nilCheckV, ptrV, unV, true_and, and_true, List.map_cons, List.map_nil, Nat.add_zero, Nat.zero_add, Option.isNone_none, Option.isNone_some, Rt, resultsV, allV, resV, Bool.not_true, Bool.not_false, calleeV, builtinV, Option.map_some, Option.map_none, List.cons_append, List.nil_append, List.append_nil, Array.toList_append, List.toList_toArray, eqV, fieldAddrV, ldVar, stN_own, stN_ownL, Int.cast_ofNat_Int, Int.fdiv_eq_ediv_of_nonneg, Int.reduceToNat, Nat.min_eq_left, Int.reducePow, IntKind.bits, convV, ne_eq, not_false_eq_true, not_true_eq_false, Int.reduceNeg, Int.reduceAdd, Int.reduceSub, Int.reduceLT, Int.reduceLE, Option.isSome_some, extractV, decide_true, decide_false, Int.reduceEq, List.getElem?_toArray, mkFuncV, List.map_toArray, beq_self_eq_true, Ty.t30, Tryd.underlying30, Ty.t22, Tryd.underlying22, Ty.t3, Tryd.underlying3, Ty.t2, Tryd.underlying2, Ty.t4, Tryd.underlying4, Ty.t24, Tryd.underlying24, Tryd.results18]
    exact hR v' s' ((Ch.after (.of_mild ((Mild.alloc s (.row [.int .i64 node])).trans m1) (fun k => s.next ≤ k)) c' fun k _ h => by have := f1 k h; omega).mild fun k hk h => by omega) l'
end Go.Proofs.YtfbkiocijnjmgaaDoor
