/- Lists of streams: a few, a copy, a field of one is written; as contracts. -/
import Derived.Test.YtlhoogdikhbemaaDoorTypes
import Derived.Test.YtlhoogdikhbemaaDoorRow0
import Derived.Test.YtlhoogdikhbemaaDoorAbC
import Derived.Test.YtlhoogdikhbemaaDoorBits
import Derived.Test.YtlhoogdikhbemaaDoorStream
set_option linter.all false
set_option maxRecDepth 20000
namespace Go.Proofs.YtlhoogdikhbemaaDoor
open Go Go.Ab
variable {base : Nat} {s : St} {R : Value → St → Prop}
theorem flat_set {z k : Nat} {x : Value} (hk : k < z) : ∀ {L : List (List Value)} {i : Nat} (hi : i < L.length), (∀ l ∈ L, l.length = z) → L.flatten.set (i * z + k) x = (L.set i (L[i].set k x)).flatten := by
  intro L
  induction L with
  | nil => intro i hi; simp at hi
  | cons l L ih =>
    intro i hi h
    have hl := h l (by simp)
    cases i with
    | zero =>
      simp only [Nat.zero_mul, Nat.zero_add, List.flatten_cons, List.set_cons_zero, List.getElem_cons_zero]
      rw [List.set_append_left _ _ (by omega)]
    | succ i =>
      simp only [List.flatten_cons, List.set_cons_succ, List.getElem_cons_succ]
      rw [List.set_append_right _ _ (by rw [Nat.succ_mul]; omega), ← ih (by simpa using hi) fun m hm => h m (by simp [hm])]
      congr 2
      rw [Nat.succ_mul]; omega
/-- One cell of an element is written. -/
theorem Sl.putF {z b o n c i k : Nat} {x : Value} {L : List (List Value)} (h : Sl base s z (.slice (some ⟨b, o, none⟩) n c) L) (hb : base ≤ b) (hi : i < L.length) (hk : k < z) :
    ∃ s', stN base s ⟨b, o + i * z + k, none⟩ [x] = some s' ∧ Sl base s' z (.slice (some ⟨b, o, none⟩) n c) (L.set i (L[i].set k x)) ∧ Ch s s' (fun j => j = b) ∧ s'.next = s.next := by
  cases h with
  | mk h1 h2 h3 h4 h5 h6 =>
    obtain ⟨g1, g2, g3, cs, g4, g5⟩ := h4 (.inr hb)
    have hlen := flat_len' h3
    have hle := (getL_some g5).1
    have hmul : i * z + z ≤ L.length * z := by
      have := Nat.mul_le_mul_right z (show i + 1 ≤ L.length by omega)
      rw [Nat.succ_mul] at this; exact this
    simp only at g4 hle
    refine ⟨s.upd b ((s.heap b).withCells (setL cs (o + i * z + k) [x])), ?_, ?_, Ch.upd' (.refl _ _) fun _ => rfl, rfl⟩
    · unfold stN
      rw [if_neg (by simp)]
      simp only [g4]
      rw [if_pos ⟨trivial, hb, by simp only [List.length_cons, List.length_nil]; omega⟩]
    · have hcells : ((s.upd b ((s.heap b).withCells (setL cs (o + i * z + k) [x]))).heap b).cells? = some (cs.set (o + i * z + k) x) := by
        rw [Ab.heap_upd_same]
        cases hh : s.heap b <;> rw [hh] at g4 <;> first | (cases g4; done) | rfl
      have hL3 : ∀ l ∈ L.set i (L[i].set k x), l.length = z := fun l hl => by
        rcases List.mem_or_eq_of_mem_set hl with h | h
        · exact h3 l h
        · rw [h, List.length_set]; exact h3 _ (List.getElem_mem hi)
      refine .mk (by rw [List.length_set]; exact h1) h2 hL3 (fun _ => ⟨g1, h6, .inl hb, _, hcells, ?_⟩) ?_ h6
      · rw [← flat_set hk hi h3, List.length_set]
        have e := (getL_some g5).2.1
        simp only at e ⊢
        unfold getL
        rw [if_pos (by rw [List.length_set]; exact hle)]
        congr 1
        conv => rhs; rw [e]
        apply List.ext_getElem
        · simp
        · intro j hj1 hj2
          simp only [List.getElem_take, List.getElem_drop, List.getElem_set]
          by_cases hj : i * z + k = j
          · rw [if_pos (by omega), if_pos hj]
          · rw [if_neg (by omega), if_neg hj]
            try simp only [List.getElem_take, List.getElem_drop]
      · unfold kindB at h5 ⊢
        rw [Ab.heap_upd_same]
        cases hh : s.heap b <;> simp only [hh] at h5 ⊢ <;> first | (cases h5; done) | exact h5 | rfl
abbrev smL (xs : List Sm) : List (List Value) := xs.map Sm.c
theorem smL_len (xs : List Sm) : (smL xs).length = xs.length := by simp
theorem smL_at {xs : List Sm} {i : Nat} (h : i < xs.length) : (smL xs)[i]? = some xs[i].c := by simp [h]
theorem smClone_ok {v : Value} {xs : List Sm} (hs : Sl base s 7 v (smL xs)) (hn : xs.length ≤ 100) (hbn : base ≤ s.next)
    (hR : ∀ v' s', Mild s s' → Sl base s' 7 v' (smL xs) → (∀ b, inB v' b → s.next ≤ b) → R v' s') :
    WC Tryd.prog base 33 [v] s R := by
  refine WC_open Tryd.func33 rfl ?_
  have hs' := hs
  generalize hL : smL xs = L at hs hs'
  have hLn : L.length ≤ 100 := by rw [← hL]; simpa using hn
  rw [hL] at hR
  clear hL
  cases hs with
  | nil =>
    simp (disch := first | omega | ((simp only [Ab.next_alloc, Ab.next_upd, List.length_cons, List.length_nil, ne_eq, not_true_eq_false, not_false_eq_true]) <;> omega) | decide) only [↓stepPre, stepPost, ↓W_cond, ↓W_block, ↓reduceIte, Nat.reduceEqDiff, Nat.reduceLT, Nat.reduceLeDiff, List.size_toArray, List.length_cons, List.length_nil, ret0, stVar, isTup, Value.cells, List.set_cons_zero, List.set_cons_succ, Nat.le_refl, Nat.reduceAdd, Nat.reduceMul, Nat.reduceSub, env0, List.getD_cons_zero, List.getD_cons_succ, binV, intV, reduceCtorEq, List.getElem?_cons_succ, List.getElem?_cons_zero, pickV, nilCheckV, ptrV, unV, true_and, and_true, List.map_cons, List.map_nil, Nat.add_zero, Nat.zero_add, Option.isNone_none, Option.isNone_some, Rt, resultsV, allV, resV, Bool.not_true, Bool.not_false, calleeV, builtinV, Option.map_some, Option.map_none, List.cons_append, List.nil_append, List.append_nil, Array.toList_append, List.toList_toArray, eqV, fieldAddrV, ldVar, stN_own, stN_ownL, Int.cast_ofNat_Int, Int.fdiv_eq_ediv_of_nonneg, Int.reduceToNat, Nat.min_eq_left, Int.reducePow, IntKind.bits, convV, ne_eq, not_false_eq_true, not_true_eq_false, Int.reduceNeg, Int.reduceAdd, Int.reduceSub, Int.reduceLT, Int.reduceLE, Option.isSome_some, extractV, decide_true, decide_false, Int.reduceEq, List.getElem?_toArray, mkFuncV, List.map_toArray, beq_self_eq_true, Ty.t54, Tryd.underlying54, Ty.t22, Tryd.underlying22, Ty.t52, Tryd.underlying52, Ty.t3, Tryd.underlying3, Ty.t2, Tryd.underlying2, Ty.t33, Tryd.underlying33, Ty.t4, Tryd.underlying4, Ty.t43, Tryd.underlying43, Option.isNone_none, Tryd.results33]
    exact hR _ _ (.refl _) hs' (fun b hb => hb.elim)
  | mk h1 h2 h3 h4 h5 h6 =>
    simp (disch := first | omega | ((simp only [Ab.next_alloc, Ab.next_upd, List.length_cons, List.length_nil, ne_eq, not_true_eq_false, not_false_eq_true]) <;> omega) | decide) only [↓stepPre, stepPost, ↓W_cond, ↓W_block, ↓reduceIte, Nat.reduceEqDiff, Nat.reduceLT, Nat.reduceLeDiff, List.size_toArray, List.length_cons, List.length_nil, ret0, stVar, isTup, Value.cells, List.set_cons_zero, List.set_cons_succ, Nat.le_refl, Nat.reduceAdd, Nat.reduceMul, Nat.reduceSub, env0, List.getD_cons_zero, List.getD_cons_succ, binV, intV, reduceCtorEq, List.getElem?_cons_succ, List.getElem?_cons_zero, pickV, nilCheckV, ptrV, unV, true_and, and_true, List.map_cons, List.map_nil, Nat.add_zero, Nat.zero_add, Option.isNone_none, Option.isNone_some, Rt, resultsV, allV, resV, Bool.not_true, Bool.not_false, calleeV, builtinV, Option.map_some, Option.map_none, List.cons_append, List.nil_append, List.append_nil, Array.toList_append, List.toList_toArray, eqV, fieldAddrV, ldVar, stN_own, stN_ownL, Int.cast_ofNat_Int, Int.fdiv_eq_ediv_of_nonneg, Int.reduceToNat, Nat.min_eq_left, Int.reducePow, IntKind.bits, convV, ne_eq, not_false_eq_true, not_true_eq_false, Int.reduceNeg, Int.reduceAdd, Int.reduceSub, Int.reduceLT, Int.reduceLE, Option.isSome_some, extractV, decide_true, decide_false, Int.reduceEq, List.getElem?_toArray, mkFuncV, List.map_toArray, beq_self_eq_true, Ty.t54, Tryd.underlying54, Ty.t22, Tryd.underlying22, Ty.t52, Tryd.underlying52, Ty.t3, Tryd.underlying3, Ty.t2, Tryd.underlying2, Ty.t33, Tryd.underlying33, Ty.t4, Tryd.underlying4, Ty.t43, Tryd.underlying43, buildSliceV, repL, fillL, List.replicate, List.flatten_nil]
    have hnew : Sl base (s.alloc (.row [])) 7 (.slice (some ⟨s.next, 0, none⟩) 0 0) [] := .newRow (Ab.heap_alloc_new _ _) rfl rfl (by simp) hbn (by simp only [Ab.next_alloc]; omega)
    obtain ⟨v', s', e1, e2, e3, e4, e5, e6⟩ := appB_ok hnew ⟨rfl, hbn⟩ (by simp only [Ab.next_alloc]; omega) Ty.elem22 Ty.int22 Ty.und22 Ty.siz54 (by decide) Ty.zer54 rfl Ty.byt54 (hs'.mild (.alloc _ _)) (by simp; omega)
    rw [List.nil_append] at e2
    have hm : Mild s s' := (Ch.after (.of_mild (.alloc s (.row [])) (fun b => s.next ≤ b)) e4 (fun b hb h => by simp only [inB] at h; omega)).mild (fun b hb h => by omega)
    refine ⟨by decide, ?_⟩
    simp (disch := first | omega | ((simp only [Ab.next_alloc, Ab.next_upd, List.length_cons, List.length_nil, ne_eq, not_true_eq_false, not_false_eq_true]) <;> omega) | decide) only [↓stepPre, stepPost, ↓W_cond, ↓W_block, ↓reduceIte, Nat.reduceEqDiff, Nat.reduceLT, Nat.reduceLeDiff, List.size_toArray, List.length_cons, List.length_nil, ret0, stVar, isTup, Value.cells, List.set_cons_zero, List.set_cons_succ, Nat.le_refl, Nat.reduceAdd, Nat.reduceMul, Nat.reduceSub, env0, List.getD_cons_zero, List.getD_cons_succ, binV, intV, reduceCtorEq, List.getElem?_cons_succ, List.getElem?_cons_zero, pickV, nilCheckV, ptrV, unV, true_and, and_true, List.map_cons, List.map_nil, Nat.add_zero, Nat.zero_add, Option.isNone_none, Option.isNone_some, Rt, resultsV, allV, resV, Bool.not_true, Bool.not_false, calleeV, builtinV, Option.map_some, Option.map_none, List.cons_append, List.nil_append, List.append_nil, Array.toList_append, List.toList_toArray, eqV, fieldAddrV, ldVar, stN_own, stN_ownL, Int.cast_ofNat_Int, Int.fdiv_eq_ediv_of_nonneg, Int.reduceToNat, Nat.min_eq_left, Int.reducePow, IntKind.bits, convV, ne_eq, not_false_eq_true, not_true_eq_false, Int.reduceNeg, Int.reduceAdd, Int.reduceSub, Int.reduceLT, Int.reduceLE, Option.isSome_some, extractV, decide_true, decide_false, Int.reduceEq, List.getElem?_toArray, mkFuncV, List.map_toArray, beq_self_eq_true, e1, Tryd.results33]
    refine hR v' s' hm e2 fun b hb => ?_
    by_cases hL : L = []
    · obtain ⟨rfl, -⟩ := e6 hL
      simp only [inB] at hb; omega
    · have := e5 hL b hb; simp only [Ab.next_alloc] at this; omega
end Go.Proofs.YtlhoogdikhbemaaDoor
