/- Identifiers from texts, as contracts. -/
import Derived.Test.YtdhmjnpaoacpfaaDoorTypes
import Derived.Test.YtdhmjnpaoacpfaaDoorRow0
import Derived.Test.YtdhmjnpaoacpfaaDoorAbC
import Derived.Test.YtdhmjnpaoacpfaaDoorPure
import Derived.Test.YtdhmjnpaoacpfaaDoorRight
import Derived.Test.YtdhmjnpaoacpfaaDoorFive
import Derived.Test.YtdhmjnpaoacpfaaDoorBoxes
import Derived.Test.YtdhmjnpaoacpfaaDoorStr
import Derived.Test.YtdhmjnpaoacpfaaDoorHex
set_option linter.all false
set_option maxRecDepth 20000
namespace Go.Proofs.YtdhmjnpaoacpfaaDoor
open Go Go.Ab
def stBIdText := And.intro @List.size_toArray.{0} (And.intro @List.length_cons.{0} (And.intro @List.length_nil.{0} (And.intro @List.set_cons_zero.{0} (And.intro @List.set_cons_succ.{0} (And.intro @List.getD_cons_zero.{0} (And.intro @List.getD_cons_succ.{0} (And.intro @List.getElem?_cons_succ.{0} (And.intro @List.getElem?_cons_zero.{0} (And.intro @List.map_cons.{0,0} (And.intro @List.map_nil.{0,0} (And.intro @Option.isNone_none.{0} (And.intro @Option.isNone_some.{0} (And.intro @Option.map_some.{0,0} (And.intro @Option.map_none.{0,0} (And.intro @List.cons_append.{0} (And.intro @List.nil_append.{0} (And.intro @List.append_nil.{0} (And.intro @Array.toList_append.{0} (And.intro @List.toList_toArray.{0} (And.intro @Int.cast_ofNat_Int (And.intro @Option.isSome_some.{0} (And.intro @List.getElem?_toArray.{0} (And.intro @List.map_toArray.{0,0} (@Nat.min_eq_left))))))))))))))))))))))))
def glBIdText := And.intro @List.drop_zero.{0} (And.intro @List.drop_succ_cons.{0} (And.intro @List.take_succ_cons.{0} (And.intro @List.take_zero.{0} (@List.take_nil.{0}))))
variable {base : Nat} [Bok base] {s : St} {R : Value → St → Prop}
def hexN (l : List UInt8) : Nat := l.foldl (fun a c => a * 16 + (digI c.toNat).toNat) 0
def hexOk (l : List UInt8) : Bool := l.all fun c => decide (0 ≤ digI c.toNat)
theorem hexN_snoc (l : List UInt8) (c : UInt8) : hexN (l ++ [c]) = hexN l * 16 + (digI c.toNat).toNat := by simp [hexN]
theorem hexOk_snoc (l : List UInt8) (c : UInt8) : hexOk (l ++ [c]) = (hexOk l && decide (0 ≤ digI c.toNat)) := by simp [hexOk]
theorem hexN_lt : ∀ (n : Nat) (l : List UInt8), l.length = n → hexN l < 16 ^ n := by
  intro n
  induction n with
  | zero => intro l h; obtain rfl := List.eq_nil_of_length_eq_zero h; simp [hexN]
  | succ n ih =>
    intro l h
    have hne : l ≠ [] := fun e => by rw [e] at h; simp at h
    have e := (List.dropLast_concat_getLast hne).symm
    rw [e, hexN_snoc]
    have h1 := ih l.dropLast (by simp; omega)
    have h2 := (digI_in (l.getLast hne).toNat).2
    rw [Nat.pow_succ]
    omega
def iparOk (l : List UInt8) : Bool := decide (l.length = 3 ∨ l.length = 8) && hexOk l && idOk (decide (l.length = 8)) (hexN l)
def iparV (l : List UInt8) : Value := if iparOk l then .tuple #[idV (decide (l.length = 8)) (hexN l), .bool true] else .tuple #[idV false 0, .bool false]
theorem take_snoc {l : List UInt8} {i : Nat} (h : i < l.length) : l.take (i + 1) = l.take i ++ [l.getD i 0] := by
  rw [List.take_succ_eq_append_getElem h]; simp [h]
theorem nib_in {v d : Int} (hd : 0 ≤ d ∧ d < 16) (hv : 0 ≤ v ∧ v < 2 ^ 28) : orI .u32 (IntKind.u32.wrap (v * 16)) (andI .u32 (IntKind.u32.wrap d) 15) = v * 16 + d := by
  obtain ⟨d, rfl⟩ : ∃ n : Nat, d = n := ⟨d.toNat, by omega⟩
  obtain ⟨v, rfl⟩ : ∃ n : Nat, v = n := ⟨v.toNat, by omega⟩
  rw [show (v : Int) * 16 = ((v * 16 : Nat) : Int) by omega, wrap32, wrap32, Nat.mod_eq_of_lt (by omega), Nat.mod_eq_of_lt (by omega), show andI .u32 (d : Int) 15 = ((d % 2 ^ 4 : Nat) : Int) from and32_lit 4 15 rfl rfl (by omega) (by omega), Nat.mod_eq_of_lt (by omega), or32_disj 4 (by omega) (by omega) (by omega)]
  omega
theorem put_p {w k : Nat} {d v : Int} {wr : Bool} (hw : s.heap w = .row [.bool wr]) (hk : s.heap k = .row [.bool false, .int .u32 v]) (bw : base ≤ w) (bk : base ≤ k) (hne : w ≠ k) (hd : -1 ≤ d ∧ d < 16)
    (hR : ∀ v' : Int, (0 ≤ d → 0 ≤ v → v < 2 ^ 28 → v' = v * 16 + d) → R (.tuple #[]) ((s.upd w (.row [.bool (wr || decide (d < 0))])).upd k (.row [.bool false, .int .u32 v']))) :
    WC Tryd.prog base 59 [.int .i64 d, .pointer (some ⟨w, 0, none⟩), .pointer (some ⟨k, 0, none⟩)] s R := by
  refine WC_open Tryd.func59 rfl ?_
  have hfin := fun hq => hR (orI .u32 (IntKind.u32.wrap (v * 16)) (andI .u32 (IntKind.u32.wrap d) 15)) hq
  have hfin := hfin fun h0 h1 h2 => nib_in ⟨h0, hd.2⟩ ⟨h1, h2⟩
  cases wr
  · simp (disch := first | omega | ((simp only [Ab.next_alloc, Ab.next_upd, List.length_cons, List.length_nil, ne_eq, not_true_eq_false, not_false_eq_true]) <;> omega) | decide) only [↓stepPre, stepPost, ↓W_cond, ↓W_block, ↓reduceIte, Nat.reduceEqDiff, Nat.reduceLT, Nat.reduceLeDiff, ret0, stVar, isTup, Value.cells, Nat.le_refl, Nat.reduceAdd, Nat.reduceMul, Nat.reduceSub, env0, binV, intV, reduceCtorEq, pickV, nilCheckV, ptrV, unV, true_and, and_true, Nat.add_zero, Nat.zero_add, Rt, resultsV, allV, resV, Bool.not_true, Bool.not_false, calleeV, builtinV, eqV, fieldAddrV, ldVar, stN_own, stN_ownL, Int.fdiv_eq_ediv_of_nonneg, Int.reduceToNat, Int.reducePow, IntKind.bits, convV, ne_eq, not_false_eq_true, not_true_eq_false, Int.reduceNeg, Int.reduceAdd, Int.reduceSub, Int.reduceLT, Int.reduceLE, extractV, decide_true, decide_false, Int.reduceEq, mkFuncV, stBIdText, beq_self_eq_true, Ty.t24, Tryd.underlying24, Ty.t9, Tryd.underlying9, Ty.t5, Tryd.underlying5, Ty.t22, Tryd.underlying22, Ty.t60, Tryd.underlying60, Ty.t3, Tryd.underlying3, Ty.t4, Tryd.underlying4, getL_take, glBIdText, hw, hk, Tryd.results59]
    simpa using hfin
  · simp (disch := first | omega | ((simp only [Ab.next_alloc, Ab.next_upd, List.length_cons, List.length_nil, ne_eq, not_true_eq_false, not_false_eq_true]) <;> omega) | decide) only [↓stepPre, stepPost, ↓W_cond, ↓W_block, ↓reduceIte, Nat.reduceEqDiff, Nat.reduceLT, Nat.reduceLeDiff, ret0, stVar, isTup, Value.cells, Nat.le_refl, Nat.reduceAdd, Nat.reduceMul, Nat.reduceSub, env0, binV, intV, reduceCtorEq, pickV, nilCheckV, ptrV, unV, true_and, and_true, Nat.add_zero, Nat.zero_add, Rt, resultsV, allV, resV, Bool.not_true, Bool.not_false, calleeV, builtinV, eqV, fieldAddrV, ldVar, stN_own, stN_ownL, Int.fdiv_eq_ediv_of_nonneg, Int.reduceToNat, Int.reducePow, IntKind.bits, convV, ne_eq, not_false_eq_true, not_true_eq_false, Int.reduceNeg, Int.reduceAdd, Int.reduceSub, Int.reduceLT, Int.reduceLE, extractV, decide_true, decide_false, Int.reduceEq, mkFuncV, stBIdText, beq_self_eq_true, Ty.t24, Tryd.underlying24, Ty.t9, Tryd.underlying9, Ty.t5, Tryd.underlying5, Ty.t22, Tryd.underlying22, Ty.t60, Tryd.underlying60, Ty.t3, Tryd.underlying3, Ty.t4, Tryd.underlying4, getL_take, glBIdText, hw, hk, Tryd.results59]
    simpa using hfin
theorem iparse_ok {l : List UInt8} (hbn : base ≤ s.next) (hR : ∀ s', Mild s s' → R (iparV l) s') : WC Tryd.prog base 26 [.string (strB l)] s R := by
  refine WC_open Tryd.func26 rfl ?_
  have hlen : ∀ ts, lenB Tryd.prog (9 :: ts) [.string (strB l)] = some (.int .i64 (l.length : Int)) := fun ts => lenStr Ty.str9 Ty.arr9
  have e3 : ((l.length : Int) = 3) = (l.length = 3) := propext ⟨fun h => by omega, fun h => by omega⟩
  have e8 : ((l.length : Int) = 8) = (l.length = 8) := propext ⟨fun h => by omega, fun h => by omega⟩
  let J : Bool → Env → St → Prop := fun w e' s' => e' 0 = .string (strB l) ∧ e' 2 = .pointer (some ⟨s.next, 0, none⟩) ∧ e' 4 = .pointer (some ⟨s.next + 1, 0, none⟩) ∧ e' 5 = .pointer (some ⟨s.next + 2, 0, none⟩) ∧ s' = ((s.alloc (.row [.bool false, .int .u32 0])).alloc (.row [.bool false, .int .u32 0])).alloc (.row [.bool w])
  rw [W_seq]
  refine W_mid (fun e' s' => e' 0 = .string (strB l) ∧ e' 2 = .pointer (some ⟨s.next, 0, none⟩) ∧ s' = s.alloc (.row [.bool false, .int .u32 0])) ?_ ?_
  · simp (disch := first | omega | ((simp only [Ab.next_alloc, Ab.next_upd, List.length_cons, List.length_nil, ne_eq, not_true_eq_false, not_false_eq_true]) <;> omega) | decide) only [↓stepPre, stepPost, ↓W_cond, ↓W_block, ↓reduceIte, Nat.reduceEqDiff, Nat.reduceLT, Nat.reduceLeDiff, ret0, stVar, isTup, Value.cells, Nat.le_refl, Nat.reduceAdd, Nat.reduceMul, Nat.reduceSub, env0, binV, intV, reduceCtorEq, pickV, nilCheckV, ptrV, unV, true_and, and_true, Nat.add_zero, Nat.zero_add, Rt, resultsV, allV, resV, Bool.not_true, Bool.not_false, calleeV, builtinV, eqV, fieldAddrV, ldVar, stN_own, stN_ownL, Int.fdiv_eq_ediv_of_nonneg, Int.reduceToNat, Int.reducePow, IntKind.bits, convV, ne_eq, not_false_eq_true, not_true_eq_false, Int.reduceNeg, Int.reduceAdd, Int.reduceSub, Int.reduceLT, Int.reduceLE, extractV, decide_true, decide_false, Int.reduceEq, mkFuncV, stBIdText, beq_self_eq_true, Ty.t24, Tryd.underlying24, Ty.t9, Tryd.underlying9, Ty.t5, Tryd.underlying5, Ty.t22, Tryd.underlying22, Ty.t60, Tryd.underlying60, Ty.t3, Tryd.underlying3, Ty.t4, Tryd.underlying4, getL_take, glBIdText]
  rintro e' s' ⟨h0, h2, rfl⟩
  rw [W_seq]
  refine W_mid (fun e' s' => e' 0 = .string (strB l) ∧ e' 2 = .pointer (some ⟨s.next, 0, none⟩) ∧ e' 4 = .pointer (some ⟨s.next + 1, 0, none⟩) ∧ s' = (s.alloc (.row [.bool false, .int .u32 0])).alloc (.row [.bool false, .int .u32 0])) ?_ ?_
  · simp (disch := first | omega | ((simp only [Ab.next_alloc, Ab.next_upd, List.length_cons, List.length_nil, ne_eq, not_true_eq_false, not_false_eq_true]) <;> omega) | decide) only [↓stepPre, stepPost, ↓W_cond, ↓W_block, ↓reduceIte, Nat.reduceEqDiff, Nat.reduceLT, Nat.reduceLeDiff, ret0, stVar, isTup, Value.cells, Nat.le_refl, Nat.reduceAdd, Nat.reduceMul, Nat.reduceSub, env0, binV, intV, reduceCtorEq, pickV, nilCheckV, ptrV, unV, true_and, and_true, Nat.add_zero, Nat.zero_add, Rt, resultsV, allV, resV, Bool.not_true, Bool.not_false, calleeV, builtinV, eqV, fieldAddrV, ldVar, stN_own, stN_ownL, Int.fdiv_eq_ediv_of_nonneg, Int.reduceToNat, Int.reducePow, IntKind.bits, convV, ne_eq, not_false_eq_true, not_true_eq_false, Int.reduceNeg, Int.reduceAdd, Int.reduceSub, Int.reduceLT, Int.reduceLE, extractV, decide_true, decide_false, Int.reduceEq, mkFuncV, stBIdText, beq_self_eq_true, Ty.t24, Tryd.underlying24, Ty.t9, Tryd.underlying9, Ty.t5, Tryd.underlying5, Ty.t22, Tryd.underlying22, Ty.t60, Tryd.underlying60, Ty.t3, Tryd.underlying3, Ty.t4, Tryd.underlying4, getL_take, glBIdText, h0, h2]
  clear h0 h2 e'
  rintro e' s' ⟨h0, h2, h4, rfl⟩
  rw [W_seq]
  refine W_mid (J (decide (¬ (l.length = 3 ∨ l.length = 8)))) ?_ ?_
  · by_cases h3 : l.length = 3
    · simp (disch := first | omega | ((simp only [Ab.next_alloc, Ab.next_upd, List.length_cons, List.length_nil, ne_eq, not_true_eq_false, not_false_eq_true]) <;> omega) | decide) only [↓stepPre, stepPost, ↓W_cond, ↓W_block, ↓reduceIte, Nat.reduceEqDiff, Nat.reduceLT, Nat.reduceLeDiff, ret0, stVar, isTup, Value.cells, Nat.le_refl, Nat.reduceAdd, Nat.reduceMul, Nat.reduceSub, env0, binV, intV, reduceCtorEq, pickV, nilCheckV, ptrV, unV, true_and, and_true, Nat.add_zero, Nat.zero_add, Rt, resultsV, allV, resV, Bool.not_true, Bool.not_false, calleeV, builtinV, eqV, fieldAddrV, ldVar, stN_own, stN_ownL, Int.fdiv_eq_ediv_of_nonneg, Int.reduceToNat, Int.reducePow, IntKind.bits, convV, ne_eq, not_false_eq_true, not_true_eq_false, Int.reduceNeg, Int.reduceAdd, Int.reduceSub, Int.reduceLT, Int.reduceLE, extractV, decide_true, decide_false, Int.reduceEq, mkFuncV, stBIdText, beq_self_eq_true, Ty.t24, Tryd.underlying24, Ty.t9, Tryd.underlying9, Ty.t5, Tryd.underlying5, Ty.t22, Tryd.underlying22, Ty.t60, Tryd.underlying60, Ty.t3, Tryd.underlying3, Ty.t4, Tryd.underlying4, getL_take, glBIdText, hlen, e3, e8, h0, h2, h4, h3]
      exact ⟨h0, h2, h4, rfl, by simp [h3]⟩
    · by_cases h8 : l.length = 8
      · simp (disch := first | omega | ((simp only [Ab.next_alloc, Ab.next_upd, List.length_cons, List.length_nil, ne_eq, not_true_eq_false, not_false_eq_true]) <;> omega) | decide) only [↓stepPre, stepPost, ↓W_cond, ↓W_block, ↓reduceIte, Nat.reduceEqDiff, Nat.reduceLT, Nat.reduceLeDiff, ret0, stVar, isTup, Value.cells, Nat.le_refl, Nat.reduceAdd, Nat.reduceMul, Nat.reduceSub, env0, binV, intV, reduceCtorEq, pickV, nilCheckV, ptrV, unV, true_and, and_true, Nat.add_zero, Nat.zero_add, Rt, resultsV, allV, resV, Bool.not_true, Bool.not_false, calleeV, builtinV, eqV, fieldAddrV, ldVar, stN_own, stN_ownL, Int.fdiv_eq_ediv_of_nonneg, Int.reduceToNat, Int.reducePow, IntKind.bits, convV, ne_eq, not_false_eq_true, not_true_eq_false, Int.reduceNeg, Int.reduceAdd, Int.reduceSub, Int.reduceLT, Int.reduceLE, extractV, decide_true, decide_false, Int.reduceEq, mkFuncV, stBIdText, beq_self_eq_true, Ty.t24, Tryd.underlying24, Ty.t9, Tryd.underlying9, Ty.t5, Tryd.underlying5, Ty.t22, Tryd.underlying22, Ty.t60, Tryd.underlying60, Ty.t3, Tryd.underlying3, Ty.t4, Tryd.underlying4, getL_take, glBIdText, hlen, e3, e8, h0, h2, h4, h3, h8]
        exact ⟨h0, h2, h4, rfl, by simp [h8]⟩
      · simp (disch := first | omega | ((simp only [Ab.next_alloc, Ab.next_upd, List.length_cons, List.length_nil, ne_eq, not_true_eq_false, not_false_eq_true]) <;> omega) | decide) only [↓stepPre, stepPost, ↓W_cond, ↓W_block, ↓reduceIte, Nat.reduceEqDiff, Nat.reduceLT, Nat.reduceLeDiff, ret0, stVar, isTup, Value.cells, Nat.le_refl, Nat.reduceAdd, Nat.reduceMul, Nat.reduceSub, env0, binV, intV, reduceCtorEq, pickV, nilCheckV, ptrV, unV, true_and, and_true, Nat.add_zero, Nat.zero_add, Rt, resultsV, allV, resV, Bool.not_true, Bool.not_false, calleeV, builtinV, eqV, fieldAddrV, ldVar, stN_own, stN_ownL, Int.fdiv_eq_ediv_of_nonneg, Int.reduceToNat, Int.reducePow, IntKind.bits, convV, ne_eq, not_false_eq_true, not_true_eq_false, Int.reduceNeg, Int.reduceAdd, Int.reduceSub, Int.reduceLT, Int.reduceLE, extractV, decide_true, decide_false, Int.reduceEq, mkFuncV, stBIdText, beq_self_eq_true, Ty.t24, Tryd.underlying24, Ty.t9, Tryd.underlying9, Ty.t5, Tryd.underlying5, Ty.t22, Tryd.underlying22, Ty.t60, Tryd.underlying60, Ty.t3, Tryd.underlying3, Ty.t4, Tryd.underlying4, getL_take, glBIdText, hlen, e3, e8, h0, h2, h4, h3, h8]
        exact ⟨h0, h2, h4, rfl, by simp [h3, h8]⟩
  clear h0 h2 h4 e'
  rintro e' s' ⟨h0, h2, h4, h5, rfl⟩
  simp (disch := first | omega | ((simp only [Ab.next_alloc, Ab.next_upd, List.length_cons, List.length_nil, ne_eq, not_true_eq_false, not_false_eq_true]) <;> omega) | decide) only [↓stepPre, stepPost, ↓W_cond, ↓W_block, ↓reduceIte, Nat.reduceEqDiff, Nat.reduceLT, Nat.reduceLeDiff, ret0, stVar, isTup, Value.cells, Nat.le_refl, Nat.reduceAdd, Nat.reduceMul, Nat.reduceSub, env0, binV, intV, reduceCtorEq, pickV, nilCheckV, ptrV, unV, true_and, and_true, Nat.add_zero, Nat.zero_add, Rt, resultsV, allV, resV, Bool.not_true, Bool.not_false, calleeV, builtinV, eqV, fieldAddrV, ldVar, stN_own, stN_ownL, Int.fdiv_eq_ediv_of_nonneg, Int.reduceToNat, Int.reducePow, IntKind.bits, convV, ne_eq, not_false_eq_true, not_true_eq_false, Int.reduceNeg, Int.reduceAdd, Int.reduceSub, Int.reduceLT, Int.reduceLE, extractV, decide_true, decide_false, Int.reduceEq, mkFuncV, stBIdText, beq_self_eq_true, Ty.t24, Tryd.underlying24, Ty.t9, Tryd.underlying9, Ty.t5, Tryd.underlying5, Ty.t22, Tryd.underlying22, Ty.t60, Tryd.underlying60, Ty.t3, Tryd.underlying3, Ty.t4, Tryd.underlying4, getL_take, glBIdText, h0, h2, h4, h5]
  let I : Nat → Env → St → Prop := fun i e s1 => e 0 = .string (strB l) ∧ e 2 = .pointer (some ⟨s.next, 0, none⟩) ∧ e 4 = .pointer (some ⟨s.next + 1, 0, none⟩) ∧ e 5 = .pointer (some ⟨s.next + 2, 0, none⟩) ∧
    ∃ (w : Bool) (v : Int), Mild s s1 ∧ s.next + 3 ≤ s1.next ∧ s1.heap s.next = .row [.bool false, .int .u32 0] ∧ s1.heap (s.next + 1) = .row [.bool false, .int .u32 v] ∧ s1.heap (s.next + 2) = .row [.bool w] ∧
      (w = false → (l.length = 3 ∨ l.length = 8) ∧ hexOk (l.take i) = true ∧ v = hexN (l.take i)) ∧ (w = true → ¬ ((l.length = 3 ∨ l.length = 8) ∧ hexOk l = true))
  refine W_loop_inv l.length (fun i e s1 => I i e s1 ∧ e 6 = .func (.func 59) #[] #[.pointer (some ⟨s.next + 2, 0, none⟩), .pointer (some ⟨s.next + 1, 0, none⟩)] ∧ e 7 = .int .i64 i) (fun x e s1 => x = .exit 0 ∧ I l.length e s1) ?_ ?_ ?_
  rotate_left
  · refine ⟨⟨h0, h2, h4, h5, decide (¬ (l.length = 3 ∨ l.length = 8)), 0, ((Mild.alloc _ _).alloc').alloc', by simp only [Ab.next_alloc]; omega, ?_, ?_, Ab.heap_alloc_new _ _, fun hw => ⟨Decidable.not_not.1 (of_decide_eq_false hw), rfl, rfl⟩, fun hw hc => ?_⟩, rfl, rfl⟩
    · rw [Ab.heap_alloc_ne _ _ (by simp only [Ab.next_alloc]; omega), Ab.heap_alloc_ne _ _ (by simp only [Ab.next_alloc]; omega), Ab.heap_alloc_new]
    · rw [Ab.heap_alloc_ne _ _ (by simp only [Ab.next_alloc]; omega)]; exact Ab.heap_alloc_new _ _
    · exact (of_decide_eq_true hw) hc.1
  rotate_left
  · clear h0 h2 h4 h5 e'
    rintro i e1 s1 hi ⟨⟨h0, h2, h4, h5, w, v, hm, hn, q0, q1, q2, hw0, hw1⟩, h6, h7⟩
    by_cases hil : i < l.length
    rotate_left
    · have g1 : ¬ (i : Int) < (l.length : Int) := by omega
      simp (disch := first | omega | ((simp only [Ab.next_alloc, Ab.next_upd, List.length_cons, List.length_nil, ne_eq, not_true_eq_false, not_false_eq_true]) <;> omega) | decide) only [↓stepPre, stepPost, ↓W_cond, ↓W_block, ↓reduceIte, Nat.reduceEqDiff, Nat.reduceLT, Nat.reduceLeDiff, ret0, stVar, isTup, Value.cells, Nat.le_refl, Nat.reduceAdd, Nat.reduceMul, Nat.reduceSub, env0, binV, intV, reduceCtorEq, pickV, nilCheckV, ptrV, unV, true_and, and_true, Nat.add_zero, Nat.zero_add, Rt, resultsV, allV, resV, Bool.not_true, Bool.not_false, calleeV, builtinV, eqV, fieldAddrV, ldVar, stN_own, stN_ownL, Int.fdiv_eq_ediv_of_nonneg, Int.reduceToNat, Int.reducePow, IntKind.bits, convV, ne_eq, not_false_eq_true, not_true_eq_false, Int.reduceNeg, Int.reduceAdd, Int.reduceSub, Int.reduceLT, Int.reduceLE, extractV, decide_true, decide_false, Int.reduceEq, mkFuncV, stBIdText, beq_self_eq_true, Ty.t24, Tryd.underlying24, Ty.t9, Tryd.underlying9, Ty.t5, Tryd.underlying5, Ty.t22, Tryd.underlying22, Ty.t60, Tryd.underlying60, Ty.t3, Tryd.underlying3, Ty.t4, Tryd.underlying4, getL_take, glBIdText, hlen, h0, h2, h4, h5, h7, g1]
      refine ⟨h0, h2, h4, h5, w, v, hm, hn, q0, q1, q2, fun h => ?_, hw1⟩
      have := hw0 h
      rwa [show i = l.length by omega] at this
    have g1 : (i : Int) < (l.length : Int) := by omega
    cases w with
    | true =>
      simp (disch := first | omega | ((simp only [Ab.next_alloc, Ab.next_upd, List.length_cons, List.length_nil, ne_eq, not_true_eq_false, not_false_eq_true]) <;> omega) | decide) only [↓stepPre, stepPost, ↓W_cond, ↓W_block, ↓reduceIte, Nat.reduceEqDiff, Nat.reduceLT, Nat.reduceLeDiff, ret0, stVar, isTup, Value.cells, Nat.le_refl, Nat.reduceAdd, Nat.reduceMul, Nat.reduceSub, env0, binV, intV, reduceCtorEq, pickV, nilCheckV, ptrV, unV, true_and, and_true, Nat.add_zero, Nat.zero_add, Rt, resultsV, allV, resV, Bool.not_true, Bool.not_false, calleeV, builtinV, eqV, fieldAddrV, ldVar, stN_own, stN_ownL, Int.fdiv_eq_ediv_of_nonneg, Int.reduceToNat, Int.reducePow, IntKind.bits, convV, ne_eq, not_false_eq_true, not_true_eq_false, Int.reduceNeg, Int.reduceAdd, Int.reduceSub, Int.reduceLT, Int.reduceLE, extractV, decide_true, decide_false, Int.reduceEq, mkFuncV, stBIdText, beq_self_eq_true, Ty.t24, Tryd.underlying24, Ty.t9, Tryd.underlying9, Ty.t5, Tryd.underlying5, Ty.t22, Tryd.underlying22, Ty.t60, Tryd.underlying60, Ty.t3, Tryd.underlying3, Ty.t4, Tryd.underlying4, getL_take, glBIdText, hlen, h0, h2, h4, h5, h7, g1, q2]
      exact ⟨h0, h2, h4, h5, true, v, hm, hn, q0, q1, q2, (fun h => nomatch h), hw1⟩
    | false =>
      obtain ⟨hl38, hok, hv⟩ := hw0 rfl
      have hix := idxStr (P := Tryd.prog) (t := 9) (l := l) (k := .i64) (i := (i : Int)) Ty.str9 (by omega) (by omega)
      rw [Int.toNat_natCast] at hix
      simp (disch := first | omega | ((simp only [Ab.next_alloc, Ab.next_upd, List.length_cons, List.length_nil, ne_eq, not_true_eq_false, not_false_eq_true]) <;> omega) | decide) only [↓stepPre, stepPost, ↓W_cond, ↓W_block, ↓reduceIte, Nat.reduceEqDiff, Nat.reduceLT, Nat.reduceLeDiff, ret0, stVar, isTup, Value.cells, Nat.le_refl, Nat.reduceAdd, Nat.reduceMul, Nat.reduceSub, env0, binV, intV, reduceCtorEq, pickV, nilCheckV, ptrV, unV, true_and, and_true, Nat.add_zero, Nat.zero_add, Rt, resultsV, allV, resV, Bool.not_true, Bool.not_false, calleeV, builtinV, eqV, fieldAddrV, ldVar, stN_own, stN_ownL, Int.fdiv_eq_ediv_of_nonneg, Int.reduceToNat, Int.reducePow, IntKind.bits, convV, ne_eq, not_false_eq_true, not_true_eq_false, Int.reduceNeg, Int.reduceAdd, Int.reduceSub, Int.reduceLT, Int.reduceLE, extractV, decide_true, decide_false, Int.reduceEq, mkFuncV, stBIdText, beq_self_eq_true, Ty.t24, Tryd.underlying24, Ty.t9, Tryd.underlying9, Ty.t5, Tryd.underlying5, Ty.t22, Tryd.underlying22, Ty.t60, Tryd.underlying60, Ty.t3, Tryd.underlying3, Ty.t4, Tryd.underlying4, getL_take, glBIdText, hlen, h0, h2, h4, h5, h6, h7, g1, q2, hix]
      refine digit_ok (l.getD i 0).toNat_lt (by omega) fun s2 m2 => ?_
      have hd := digI_in (l.getD i 0).toNat
      have n2 := m2.next
      simp (disch := first | omega | ((simp only [Ab.next_alloc, Ab.next_upd, List.length_cons, List.length_nil, ne_eq, not_true_eq_false, not_false_eq_true]) <;> omega) | decide) only [↓stepPre, stepPost, ↓W_cond, ↓W_block, ↓reduceIte, Nat.reduceEqDiff, Nat.reduceLT, Nat.reduceLeDiff, ret0, stVar, isTup, Value.cells, Nat.le_refl, Nat.reduceAdd, Nat.reduceMul, Nat.reduceSub, env0, binV, intV, reduceCtorEq, pickV, nilCheckV, ptrV, unV, true_and, and_true, Nat.add_zero, Nat.zero_add, Rt, resultsV, allV, resV, Bool.not_true, Bool.not_false, calleeV, builtinV, eqV, fieldAddrV, ldVar, stN_own, stN_ownL, Int.fdiv_eq_ediv_of_nonneg, Int.reduceToNat, Int.reducePow, IntKind.bits, convV, ne_eq, not_false_eq_true, not_true_eq_false, Int.reduceNeg, Int.reduceAdd, Int.reduceSub, Int.reduceLT, Int.reduceLE, extractV, decide_true, decide_false, Int.reduceEq, mkFuncV, stBIdText, beq_self_eq_true, Ty.t24, Tryd.underlying24, Ty.t9, Tryd.underlying9, Ty.t5, Tryd.underlying5, Ty.t22, Tryd.underlying22, Ty.t60, Tryd.underlying60, Ty.t3, Tryd.underlying3, Ty.t4, Tryd.underlying4, getL_take, glBIdText, h6]
      refine put_p (d := digI (l.getD i 0).toNat) (v := v) (wr := false) ((m2.heap _ (by omega)).trans q2) ((m2.heap _ (by omega)).trans q1) (by omega) (by omega) (by omega) hd fun v' hv' => ?_
      simp (disch := first | omega | ((simp only [Ab.next_alloc, Ab.next_upd, List.length_cons, List.length_nil, ne_eq, not_true_eq_false, not_false_eq_true]) <;> omega) | decide) only [↓stepPre, stepPost, ↓W_cond, ↓W_block, ↓reduceIte, Nat.reduceEqDiff, Nat.reduceLT, Nat.reduceLeDiff, ret0, stVar, isTup, Value.cells, Nat.le_refl, Nat.reduceAdd, Nat.reduceMul, Nat.reduceSub, env0, binV, intV, reduceCtorEq, pickV, nilCheckV, ptrV, unV, true_and, and_true, Nat.add_zero, Nat.zero_add, Rt, resultsV, allV, resV, Bool.not_true, Bool.not_false, calleeV, builtinV, eqV, fieldAddrV, ldVar, stN_own, stN_ownL, Int.fdiv_eq_ediv_of_nonneg, Int.reduceToNat, Int.reducePow, IntKind.bits, convV, ne_eq, not_false_eq_true, not_true_eq_false, Int.reduceNeg, Int.reduceAdd, Int.reduceSub, Int.reduceLT, Int.reduceLE, extractV, decide_true, decide_false, Int.reduceEq, mkFuncV, stBIdText, beq_self_eq_true, Ty.t24, Tryd.underlying24, Ty.t9, Tryd.underlying9, Ty.t5, Tryd.underlying5, Ty.t22, Tryd.underlying22, Ty.t60, Tryd.underlying60, Ty.t3, Tryd.underlying3, Ty.t4, Tryd.underlying4, getL_take, glBIdText, h0, h2, h4, h5, h6, h7]
      refine ⟨hil, ⟨h0, h2, h4, h5, decide (digI (l.getD i 0).toNat < 0), v', ((hm.trans m2).upd' (by omega)).upd' (by omega), by simp only [Ab.next_upd]; omega, ?_, ?_, ?_, ?_, ?_⟩, ?_⟩
      · rw [Ab.heap_upd_ne _ _ (by omega), Ab.heap_upd_ne _ _ (by omega), m2.heap _ (by omega), q0]
      · exact Ab.heap_upd_same _ _ _
      · rw [Ab.heap_upd_ne _ _ (by omega), Ab.heap_upd_same, Bool.false_or]
      · intro hw
        have h0d : 0 ≤ digI (l.getD i 0).toNat := by have := of_decide_eq_false hw; omega
        have hlt := hexN_lt i (l.take i) (by simp; omega)
        have hi7 : (16 : Nat) ^ i ≤ 16 ^ 7 := Nat.pow_le_pow_right (by omega) (by omega)
        refine ⟨hl38, ?_, ?_⟩
        · rw [take_snoc hil, hexOk_snoc, hok, Bool.true_and]; exact decide_eq_true h0d
        · rw [take_snoc hil, hexN_snoc, hv' h0d (by omega) (by omega), hv]; omega
      · intro hw hc
        have h0d := of_decide_eq_true hw
        have := List.all_eq_true.1 hc.2 (l.getD i 0) (by rw [List.getD_eq_getElem?_getD, List.getElem?_eq_getElem hil]; exact List.getElem_mem hil)
        have := of_decide_eq_true this
        omega
      · simp
  · rintro x e1 s1 ⟨rfl, h0, h2, h4, h5, w, v, hm, hn, q0, q1, q2, hw0, hw1⟩
    rw [List.take_length] at hw0
    have hm1 : Mild s (s1.upd (s.next + 1) (.row [.bool (decide (l.length = 8)), .int .u32 v])) := hm.upd' (by omega)
    cases w with
    | true =>
      have hno := hw1 rfl
      have hp : iparV l = .tuple #[idV false 0, .bool false] := by
        have : iparOk l = false := by
          simp only [iparOk, Bool.and_eq_false_iff, decide_eq_false_iff_not]
          by_cases hl : l.length = 3 ∨ l.length = 8
          · exact .inl (.inr (Bool.eq_false_iff.2 fun h => hno ⟨hl, h⟩))
          · exact .inl (.inl hl)
        simp only [iparV, this, Bool.false_eq_true, if_false]
      have key := hR _ (hm1.upd' (b := s.next) (o := .row [.bool false, .int .u32 0]) (Nat.le_refl _))
      rw [hp] at key
      simp (disch := first | omega | ((simp only [Ab.next_alloc, Ab.next_upd, List.length_cons, List.length_nil, ne_eq, not_true_eq_false, not_false_eq_true]) <;> omega) | decide) only [↓stepPre, stepPost, ↓W_cond, ↓W_block, ↓reduceIte, Nat.reduceEqDiff, Nat.reduceLT, Nat.reduceLeDiff, ret0, stVar, isTup, Value.cells, Nat.le_refl, Nat.reduceAdd, Nat.reduceMul, Nat.reduceSub, env0, binV, intV, reduceCtorEq, pickV, nilCheckV, ptrV, unV, true_and, and_true, Nat.add_zero, Nat.zero_add, Rt, resultsV, allV, resV, Bool.not_true, Bool.not_false, calleeV, builtinV, eqV, fieldAddrV, ldVar, stN_own, stN_ownL, Int.fdiv_eq_ediv_of_nonneg, Int.reduceToNat, Int.reducePow, IntKind.bits, convV, ne_eq, not_false_eq_true, not_true_eq_false, Int.reduceNeg, Int.reduceAdd, Int.reduceSub, Int.reduceLT, Int.reduceLE, extractV, decide_true, decide_false, Int.reduceEq, mkFuncV, stBIdText, beq_self_eq_true, Ty.t24, Tryd.underlying24, Ty.t9, Tryd.underlying9, Ty.t5, Tryd.underlying5, Ty.t22, Tryd.underlying22, Ty.t60, Tryd.underlying60, Ty.t3, Tryd.underlying3, Ty.t4, Tryd.underlying4, getL_take, glBIdText, hlen, e8, h0, h2, h4, h5, q0, q1, q2, buildV, fillL, Tryd.results26]
      exact key
    | false =>
      obtain ⟨hl38, hok, hv⟩ := hw0 rfl
      subst hv
      simp (disch := first | omega | ((simp only [Ab.next_alloc, Ab.next_upd, List.length_cons, List.length_nil, ne_eq, not_true_eq_false, not_false_eq_true]) <;> omega) | decide) only [↓stepPre, stepPost, ↓W_cond, ↓W_block, ↓reduceIte, Nat.reduceEqDiff, Nat.reduceLT, Nat.reduceLeDiff, ret0, stVar, isTup, Value.cells, Nat.le_refl, Nat.reduceAdd, Nat.reduceMul, Nat.reduceSub, env0, binV, intV, reduceCtorEq, pickV, nilCheckV, ptrV, unV, true_and, and_true, Nat.add_zero, Nat.zero_add, Rt, resultsV, allV, resV, Bool.not_true, Bool.not_false, calleeV, builtinV, eqV, fieldAddrV, ldVar, stN_own, stN_ownL, Int.fdiv_eq_ediv_of_nonneg, Int.reduceToNat, Int.reducePow, IntKind.bits, convV, ne_eq, not_false_eq_true, not_true_eq_false, Int.reduceNeg, Int.reduceAdd, Int.reduceSub, Int.reduceLT, Int.reduceLE, extractV, decide_true, decide_false, Int.reduceEq, mkFuncV, stBIdText, beq_self_eq_true, Ty.t24, Tryd.underlying24, Ty.t9, Tryd.underlying9, Ty.t5, Tryd.underlying5, Ty.t22, Tryd.underlying22, Ty.t60, Tryd.underlying60, Ty.t3, Tryd.underlying3, Ty.t4, Tryd.underlying4, getL_take, glBIdText, hlen, e8, h0, h2, h4, h5, q0, q1, q2]
      refine iright_p ?_
      cases hid : idOk (decide (l.length = 8)) (hexN l) with
      | false =>
        have hp : iparV l = .tuple #[idV false 0, .bool false] := by simp only [iparV, iparOk, hid, Bool.and_false, Bool.false_eq_true, if_false]
        have key := hR _ (hm1.upd' (b := s.next) (o := .row [.bool false, .int .u32 0]) (Nat.le_refl _))
        rw [hp] at key
        simp (disch := first | omega | ((simp only [Ab.next_alloc, Ab.next_upd, List.length_cons, List.length_nil, ne_eq, not_true_eq_false, not_false_eq_true]) <;> omega) | decide) only [↓stepPre, stepPost, ↓W_cond, ↓W_block, ↓reduceIte, Nat.reduceEqDiff, Nat.reduceLT, Nat.reduceLeDiff, ret0, stVar, isTup, Value.cells, Nat.le_refl, Nat.reduceAdd, Nat.reduceMul, Nat.reduceSub, env0, binV, intV, reduceCtorEq, pickV, nilCheckV, ptrV, unV, true_and, and_true, Nat.add_zero, Nat.zero_add, Rt, resultsV, allV, resV, Bool.not_true, Bool.not_false, calleeV, builtinV, eqV, fieldAddrV, ldVar, stN_own, stN_ownL, Int.fdiv_eq_ediv_of_nonneg, Int.reduceToNat, Int.reducePow, IntKind.bits, convV, ne_eq, not_false_eq_true, not_true_eq_false, Int.reduceNeg, Int.reduceAdd, Int.reduceSub, Int.reduceLT, Int.reduceLE, extractV, decide_true, decide_false, Int.reduceEq, mkFuncV, stBIdText, beq_self_eq_true, Ty.t24, Tryd.underlying24, Ty.t9, Tryd.underlying9, Ty.t5, Tryd.underlying5, Ty.t22, Tryd.underlying22, Ty.t60, Tryd.underlying60, Ty.t3, Tryd.underlying3, Ty.t4, Tryd.underlying4, getL_take, glBIdText, hlen, e8, h0, h2, h4, h5, q0, q1, q2, buildV, fillL, Tryd.results26]
        exact key
      | true =>
        have hp : iparV l = .tuple #[idV (decide (l.length = 8)) (hexN l), .bool true] := by simp only [iparV, iparOk, hid, hok, hl38, decide_true, Bool.and_true, if_true]
        have key := hR _ (hm1.upd' (b := s.next) (o := .row [.bool (decide (l.length = 8)), .int .u32 (hexN l)]) (Nat.le_refl _))
        rw [hp] at key
        simp (disch := first | omega | ((simp only [Ab.next_alloc, Ab.next_upd, List.length_cons, List.length_nil, ne_eq, not_true_eq_false, not_false_eq_true]) <;> omega) | decide) only [↓stepPre, stepPost, ↓W_cond, ↓W_block, ↓reduceIte, Nat.reduceEqDiff, Nat.reduceLT, Nat.reduceLeDiff, ret0, stVar, isTup, Value.cells, Nat.le_refl, Nat.reduceAdd, Nat.reduceMul, Nat.reduceSub, env0, binV, intV, reduceCtorEq, pickV, nilCheckV, ptrV, unV, true_and, and_true, Nat.add_zero, Nat.zero_add, Rt, resultsV, allV, resV, Bool.not_true, Bool.not_false, calleeV, builtinV, eqV, fieldAddrV, ldVar, stN_own, stN_ownL, Int.fdiv_eq_ediv_of_nonneg, Int.reduceToNat, Int.reducePow, IntKind.bits, convV, ne_eq, not_false_eq_true, not_true_eq_false, Int.reduceNeg, Int.reduceAdd, Int.reduceSub, Int.reduceLT, Int.reduceLE, extractV, decide_true, decide_false, Int.reduceEq, mkFuncV, stBIdText, beq_self_eq_true, Ty.t24, Tryd.underlying24, Ty.t9, Tryd.underlying9, Ty.t5, Tryd.underlying5, Ty.t22, Tryd.underlying22, Ty.t60, Tryd.underlying60, Ty.t3, Tryd.underlying3, Ty.t4, Tryd.underlying4, getL_take, glBIdText, hlen, e8, h0, h2, h4, h5, q0, q1, q2, buildV, fillL, Tryd.results26]
        exact key
theorem rdigit5_p {c : Nat} (hc : c < 256) (hR : R (.int .u32 (if 0 ≤ digI c then digI c else 16)) s) : WC Tryd.prog base 62 [.int .u8 (c : Int)] s R := by
  refine WC_open Tryd.func62 rfl ?_
  by_cases h1 : 48 ≤ c
  · by_cases h2 : c ≤ 57
    · have e : (if 0 ≤ digI c then digI c else 16) = (c : Int) - 48 := by simp only [digI, h1, h2, and_self, if_true]; rw [if_pos (by omega)]
      have g1 : (48 : Int) ≤ c := by omega
      have g2 : (c : Int) ≤ 57 := by omega
      rw [e] at hR
      simp (disch := first | omega | ((simp only [Ab.next_alloc, Ab.next_upd, List.length_cons, List.length_nil, ne_eq, not_true_eq_false, not_false_eq_true]) <;> omega) | decide) only [↓stepPre, stepPost, ↓W_cond, ↓W_block, ↓reduceIte, Nat.reduceEqDiff, Nat.reduceLT, Nat.reduceLeDiff, ret0, stVar, isTup, Value.cells, Nat.le_refl, Nat.reduceAdd, Nat.reduceMul, Nat.reduceSub, env0, binV, intV, reduceCtorEq, pickV, nilCheckV, ptrV, unV, true_and, and_true, Nat.add_zero, Nat.zero_add, Rt, resultsV, allV, resV, Bool.not_true, Bool.not_false, calleeV, builtinV, eqV, fieldAddrV, ldVar, stN_own, stN_ownL, Int.fdiv_eq_ediv_of_nonneg, Int.reduceToNat, Int.reducePow, IntKind.bits, convV, ne_eq, not_false_eq_true, not_true_eq_false, Int.reduceNeg, Int.reduceAdd, Int.reduceSub, Int.reduceLT, Int.reduceLE, extractV, decide_true, decide_false, Int.reduceEq, mkFuncV, stBIdText, beq_self_eq_true, Ty.t24, Tryd.underlying24, Ty.t9, Tryd.underlying9, Ty.t5, Tryd.underlying5, Ty.t22, Tryd.underlying22, Ty.t60, Tryd.underlying60, Ty.t3, Tryd.underlying3, Ty.t4, Tryd.underlying4, g1, g2, Tryd.results62]
      exact hR
    · by_cases h3 : 97 ≤ c
      · by_cases h4 : c ≤ 102
        · have e : (if 0 ≤ digI c then digI c else 16) = (c : Int) - 97 + 10 := by
            have : ¬ (48 ≤ c ∧ c ≤ 57) := fun h => h2 h.2
            simp only [digI, this, h3, h4, and_self, if_true, if_false]; rw [if_pos (by omega)]; omega
          have g1 : (48 : Int) ≤ c := by omega
          have g2 : ¬ (c : Int) ≤ 57 := by omega
          have g3 : (97 : Int) ≤ c := by omega
          have g4 : (c : Int) ≤ 102 := by omega
          rw [e] at hR
          simp (disch := first | omega | ((simp only [Ab.next_alloc, Ab.next_upd, List.length_cons, List.length_nil, ne_eq, not_true_eq_false, not_false_eq_true]) <;> omega) | decide) only [↓stepPre, stepPost, ↓W_cond, ↓W_block, ↓reduceIte, Nat.reduceEqDiff, Nat.reduceLT, Nat.reduceLeDiff, ret0, stVar, isTup, Value.cells, Nat.le_refl, Nat.reduceAdd, Nat.reduceMul, Nat.reduceSub, env0, binV, intV, reduceCtorEq, pickV, nilCheckV, ptrV, unV, true_and, and_true, Nat.add_zero, Nat.zero_add, Rt, resultsV, allV, resV, Bool.not_true, Bool.not_false, calleeV, builtinV, eqV, fieldAddrV, ldVar, stN_own, stN_ownL, Int.fdiv_eq_ediv_of_nonneg, Int.reduceToNat, Int.reducePow, IntKind.bits, convV, ne_eq, not_false_eq_true, not_true_eq_false, Int.reduceNeg, Int.reduceAdd, Int.reduceSub, Int.reduceLT, Int.reduceLE, extractV, decide_true, decide_false, Int.reduceEq, mkFuncV, stBIdText, beq_self_eq_true, Ty.t24, Tryd.underlying24, Ty.t9, Tryd.underlying9, Ty.t5, Tryd.underlying5, Ty.t22, Tryd.underlying22, Ty.t60, Tryd.underlying60, Ty.t3, Tryd.underlying3, Ty.t4, Tryd.underlying4, g1, g2, g3, g4, Tryd.results62]
          exact hR
        · have e : (if 0 ≤ digI c then digI c else 16) = 16 := by
            have h5 : ¬ (48 ≤ c ∧ c ≤ 57) := fun h => h2 h.2
            have h6 : ¬ (97 ≤ c ∧ c ≤ 102) := fun h => h4 h.2
            simp only [digI, h5, h6, if_false]; rfl
          have g1 : (48 : Int) ≤ c := by omega
          have g2 : ¬ (c : Int) ≤ 57 := by omega
          have g3 : (97 : Int) ≤ c := by omega
          have g4 : ¬ (c : Int) ≤ 102 := by omega
          rw [e] at hR
          simp (disch := first | omega | ((simp only [Ab.next_alloc, Ab.next_upd, List.length_cons, List.length_nil, ne_eq, not_true_eq_false, not_false_eq_true]) <;> omega) | decide) only [↓stepPre, stepPost, ↓W_cond, ↓W_block, ↓reduceIte, Nat.reduceEqDiff, Nat.reduceLT, Nat.reduceLeDiff, ret0, stVar, isTup, Value.cells, Nat.le_refl, Nat.reduceAdd, Nat.reduceMul, Nat.reduceSub, env0, binV, intV, reduceCtorEq, pickV, nilCheckV, ptrV, unV, true_and, and_true, Nat.add_zero, Nat.zero_add, Rt, resultsV, allV, resV, Bool.not_true, Bool.not_false, calleeV, builtinV, eqV, fieldAddrV, ldVar, stN_own, stN_ownL, Int.fdiv_eq_ediv_of_nonneg, Int.reduceToNat, Int.reducePow, IntKind.bits, convV, ne_eq, not_false_eq_true, not_true_eq_false, Int.reduceNeg, Int.reduceAdd, Int.reduceSub, Int.reduceLT, Int.reduceLE, extractV, decide_true, decide_false, Int.reduceEq, mkFuncV, stBIdText, beq_self_eq_true, Ty.t24, Tryd.underlying24, Ty.t9, Tryd.underlying9, Ty.t5, Tryd.underlying5, Ty.t22, Tryd.underlying22, Ty.t60, Tryd.underlying60, Ty.t3, Tryd.underlying3, Ty.t4, Tryd.underlying4, g1, g2, g3, g4, Tryd.results62]
          exact hR
      · have e : (if 0 ≤ digI c then digI c else 16) = 16 := by
          have h5 : ¬ (48 ≤ c ∧ c ≤ 57) := fun h => h2 h.2
          have h6 : ¬ (97 ≤ c ∧ c ≤ 102) := fun h => h3 h.1
          simp only [digI, h5, h6, if_false]; rfl
        have g1 : (48 : Int) ≤ c := by omega
        have g2 : ¬ (c : Int) ≤ 57 := by omega
        have g3 : ¬ (97 : Int) ≤ c := by omega
        rw [e] at hR
        simp (disch := first | omega | ((simp only [Ab.next_alloc, Ab.next_upd, List.length_cons, List.length_nil, ne_eq, not_true_eq_false, not_false_eq_true]) <;> omega) | decide) only [↓stepPre, stepPost, ↓W_cond, ↓W_block, ↓reduceIte, Nat.reduceEqDiff, Nat.reduceLT, Nat.reduceLeDiff, ret0, stVar, isTup, Value.cells, Nat.le_refl, Nat.reduceAdd, Nat.reduceMul, Nat.reduceSub, env0, binV, intV, reduceCtorEq, pickV, nilCheckV, ptrV, unV, true_and, and_true, Nat.add_zero, Nat.zero_add, Rt, resultsV, allV, resV, Bool.not_true, Bool.not_false, calleeV, builtinV, eqV, fieldAddrV, ldVar, stN_own, stN_ownL, Int.fdiv_eq_ediv_of_nonneg, Int.reduceToNat, Int.reducePow, IntKind.bits, convV, ne_eq, not_false_eq_true, not_true_eq_false, Int.reduceNeg, Int.reduceAdd, Int.reduceSub, Int.reduceLT, Int.reduceLE, extractV, decide_true, decide_false, Int.reduceEq, mkFuncV, stBIdText, beq_self_eq_true, Ty.t24, Tryd.underlying24, Ty.t9, Tryd.underlying9, Ty.t5, Tryd.underlying5, Ty.t22, Tryd.underlying22, Ty.t60, Tryd.underlying60, Ty.t3, Tryd.underlying3, Ty.t4, Tryd.underlying4, g1, g2, g3, Tryd.results62]
        exact hR
  · have e : (if 0 ≤ digI c then digI c else 16) = 16 := by
      have h5 : ¬ (48 ≤ c ∧ c ≤ 57) := fun h => h1 h.1
      have h6 : ¬ (97 ≤ c ∧ c ≤ 102) := fun h => by omega
      simp only [digI, h5, h6, if_false]; rfl
    have g1 : ¬ (48 : Int) ≤ c := by omega
    have g3 : ¬ (97 : Int) ≤ c := by omega
    rw [e] at hR
    simp (disch := first | omega | ((simp only [Ab.next_alloc, Ab.next_upd, List.length_cons, List.length_nil, ne_eq, not_true_eq_false, not_false_eq_true]) <;> omega) | decide) only [↓stepPre, stepPost, ↓W_cond, ↓W_block, ↓reduceIte, Nat.reduceEqDiff, Nat.reduceLT, Nat.reduceLeDiff, ret0, stVar, isTup, Value.cells, Nat.le_refl, Nat.reduceAdd, Nat.reduceMul, Nat.reduceSub, env0, binV, intV, reduceCtorEq, pickV, nilCheckV, ptrV, unV, true_and, and_true, Nat.add_zero, Nat.zero_add, Rt, resultsV, allV, resV, Bool.not_true, Bool.not_false, calleeV, builtinV, eqV, fieldAddrV, ldVar, stN_own, stN_ownL, Int.fdiv_eq_ediv_of_nonneg, Int.reduceToNat, Int.reducePow, IntKind.bits, convV, ne_eq, not_false_eq_true, not_true_eq_false, Int.reduceNeg, Int.reduceAdd, Int.reduceSub, Int.reduceLT, Int.reduceLE, extractV, decide_true, decide_false, Int.reduceEq, mkFuncV, stBIdText, beq_self_eq_true, Ty.t24, Tryd.underlying24, Ty.t9, Tryd.underlying9, Ty.t5, Tryd.underlying5, Ty.t22, Tryd.underlying22, Ty.t60, Tryd.underlying60, Ty.t3, Tryd.underlying3, Ty.t4, Tryd.underlying4, g1, g3, Tryd.results62]
    exact hR
theorem rparse5_ok {l : List UInt8} (hbn : base ≤ s.next) (hR : ∀ s', Mild s s' → R (iparV l) s') : WC Tryd.prog base 29 [.string (strB l)] s R := by
  refine WC_open Tryd.func29 rfl ?_
  have hlen : ∀ ts, lenB Tryd.prog (9 :: ts) [.string (strB l)] = some (.int .i64 (l.length : Int)) := fun ts => lenStr Ty.str9 Ty.arr9
  have e3 : ((l.length : Int) = 3) = (l.length = 3) := propext ⟨fun h => by omega, fun h => by omega⟩
  have e8 : ((l.length : Int) = 8) = (l.length = 8) := propext ⟨fun h => by omega, fun h => by omega⟩
  have hbad : iparOk l = false → iparV l = .tuple #[idV false 0, .bool false] := fun h => by simp only [iparV, h, Bool.false_eq_true, if_false]
  by_cases hl38 : l.length = 3 ∨ l.length = 8
  rotate_left
  · have h3 : ¬ l.length = 3 := fun h => hl38 (.inl h)
    have h8 : ¬ l.length = 8 := fun h => hl38 (.inr h)
    have key := hR _ ((Mild.alloc s (.row [.bool false, .int .u32 0])))
    rw [hbad (by simp only [iparOk, hl38, decide_false, Bool.false_and])] at key
    simp (disch := first | omega | ((simp only [Ab.next_alloc, Ab.next_upd, List.length_cons, List.length_nil, ne_eq, not_true_eq_false, not_false_eq_true]) <;> omega) | decide) only [↓stepPre, stepPost, ↓W_cond, ↓W_block, ↓reduceIte, Nat.reduceEqDiff, Nat.reduceLT, Nat.reduceLeDiff, ret0, stVar, isTup, Value.cells, Nat.le_refl, Nat.reduceAdd, Nat.reduceMul, Nat.reduceSub, env0, binV, intV, reduceCtorEq, pickV, nilCheckV, ptrV, unV, true_and, and_true, Nat.add_zero, Nat.zero_add, Rt, resultsV, allV, resV, Bool.not_true, Bool.not_false, calleeV, builtinV, eqV, fieldAddrV, ldVar, stN_own, stN_ownL, Int.fdiv_eq_ediv_of_nonneg, Int.reduceToNat, Int.reducePow, IntKind.bits, convV, ne_eq, not_false_eq_true, not_true_eq_false, Int.reduceNeg, Int.reduceAdd, Int.reduceSub, Int.reduceLT, Int.reduceLE, extractV, decide_true, decide_false, Int.reduceEq, mkFuncV, stBIdText, beq_self_eq_true, Ty.t24, Tryd.underlying24, Ty.t9, Tryd.underlying9, Ty.t5, Tryd.underlying5, Ty.t22, Tryd.underlying22, Ty.t60, Tryd.underlying60, Ty.t3, Tryd.underlying3, Ty.t4, Tryd.underlying4, getL_take, glBIdText, hlen, e3, e8, h3, h8, buildV, fillL, Tryd.results29]
    exact key
  rw [W_seq]
  refine W_mid (fun e' s' => e' 0 = .string (strB l) ∧ e' 2 = .pointer (some ⟨s.next, 0, none⟩) ∧ s' = s.alloc (.row [.bool false, .int .u32 0])) ?_ ?_
  · simp (disch := first | omega | ((simp only [Ab.next_alloc, Ab.next_upd, List.length_cons, List.length_nil, ne_eq, not_true_eq_false, not_false_eq_true]) <;> omega) | decide) only [↓stepPre, stepPost, ↓W_cond, ↓W_block, ↓reduceIte, Nat.reduceEqDiff, Nat.reduceLT, Nat.reduceLeDiff, ret0, stVar, isTup, Value.cells, Nat.le_refl, Nat.reduceAdd, Nat.reduceMul, Nat.reduceSub, env0, binV, intV, reduceCtorEq, pickV, nilCheckV, ptrV, unV, true_and, and_true, Nat.add_zero, Nat.zero_add, Rt, resultsV, allV, resV, Bool.not_true, Bool.not_false, calleeV, builtinV, eqV, fieldAddrV, ldVar, stN_own, stN_ownL, Int.fdiv_eq_ediv_of_nonneg, Int.reduceToNat, Int.reducePow, IntKind.bits, convV, ne_eq, not_false_eq_true, not_true_eq_false, Int.reduceNeg, Int.reduceAdd, Int.reduceSub, Int.reduceLT, Int.reduceLE, extractV, decide_true, decide_false, Int.reduceEq, mkFuncV, stBIdText, beq_self_eq_true, Ty.t24, Tryd.underlying24, Ty.t9, Tryd.underlying9, Ty.t5, Tryd.underlying5, Ty.t22, Tryd.underlying22, Ty.t60, Tryd.underlying60, Ty.t3, Tryd.underlying3, Ty.t4, Tryd.underlying4, getL_take, glBIdText]
  rintro e' s' ⟨h0, h2, rfl⟩
  rw [W_seq]
  refine W_mid (fun e' s' => e' 0 = .string (strB l) ∧ e' 2 = .pointer (some ⟨s.next, 0, none⟩) ∧ s' = s.alloc (.row [.bool false, .int .u32 0])) ?_ ?_
  · rcases hl38 with h3 | h8
    · simp (disch := first | omega | ((simp only [Ab.next_alloc, Ab.next_upd, List.length_cons, List.length_nil, ne_eq, not_true_eq_false, not_false_eq_true]) <;> omega) | decide) only [↓stepPre, stepPost, ↓W_cond, ↓W_block, ↓reduceIte, Nat.reduceEqDiff, Nat.reduceLT, Nat.reduceLeDiff, ret0, stVar, isTup, Value.cells, Nat.le_refl, Nat.reduceAdd, Nat.reduceMul, Nat.reduceSub, env0, binV, intV, reduceCtorEq, pickV, nilCheckV, ptrV, unV, true_and, and_true, Nat.add_zero, Nat.zero_add, Rt, resultsV, allV, resV, Bool.not_true, Bool.not_false, calleeV, builtinV, eqV, fieldAddrV, ldVar, stN_own, stN_ownL, Int.fdiv_eq_ediv_of_nonneg, Int.reduceToNat, Int.reducePow, IntKind.bits, convV, ne_eq, not_false_eq_true, not_true_eq_false, Int.reduceNeg, Int.reduceAdd, Int.reduceSub, Int.reduceLT, Int.reduceLE, extractV, decide_true, decide_false, Int.reduceEq, mkFuncV, stBIdText, beq_self_eq_true, Ty.t24, Tryd.underlying24, Ty.t9, Tryd.underlying9, Ty.t5, Tryd.underlying5, Ty.t22, Tryd.underlying22, Ty.t60, Tryd.underlying60, Ty.t3, Tryd.underlying3, Ty.t4, Tryd.underlying4, getL_take, glBIdText, hlen, e3, e8, h0, h2, h3]
    · have h3 : ¬ l.length = 3 := by omega
      simp (disch := first | omega | ((simp only [Ab.next_alloc, Ab.next_upd, List.length_cons, List.length_nil, ne_eq, not_true_eq_false, not_false_eq_true]) <;> omega) | decide) only [↓stepPre, stepPost, ↓W_cond, ↓W_block, ↓reduceIte, Nat.reduceEqDiff, Nat.reduceLT, Nat.reduceLeDiff, ret0, stVar, isTup, Value.cells, Nat.le_refl, Nat.reduceAdd, Nat.reduceMul, Nat.reduceSub, env0, binV, intV, reduceCtorEq, pickV, nilCheckV, ptrV, unV, true_and, and_true, Nat.add_zero, Nat.zero_add, Rt, resultsV, allV, resV, Bool.not_true, Bool.not_false, calleeV, builtinV, eqV, fieldAddrV, ldVar, stN_own, stN_ownL, Int.fdiv_eq_ediv_of_nonneg, Int.reduceToNat, Int.reducePow, IntKind.bits, convV, ne_eq, not_false_eq_true, not_true_eq_false, Int.reduceNeg, Int.reduceAdd, Int.reduceSub, Int.reduceLT, Int.reduceLE, extractV, decide_true, decide_false, Int.reduceEq, mkFuncV, stBIdText, beq_self_eq_true, Ty.t24, Tryd.underlying24, Ty.t9, Tryd.underlying9, Ty.t5, Tryd.underlying5, Ty.t22, Tryd.underlying22, Ty.t60, Tryd.underlying60, Ty.t3, Tryd.underlying3, Ty.t4, Tryd.underlying4, getL_take, glBIdText, hlen, e3, e8, h0, h2, h3, h8]
  clear h0 h2 e'
  rintro e' s' ⟨h0, h2, rfl⟩
  simp (disch := first | omega | ((simp only [Ab.next_alloc, Ab.next_upd, List.length_cons, List.length_nil, ne_eq, not_true_eq_false, not_false_eq_true]) <;> omega) | decide) only [↓stepPre, stepPost, ↓W_cond, ↓W_block, ↓reduceIte, Nat.reduceEqDiff, Nat.reduceLT, Nat.reduceLeDiff, ret0, stVar, isTup, Value.cells, Nat.le_refl, Nat.reduceAdd, Nat.reduceMul, Nat.reduceSub, env0, binV, intV, reduceCtorEq, pickV, nilCheckV, ptrV, unV, true_and, and_true, Nat.add_zero, Nat.zero_add, Rt, resultsV, allV, resV, Bool.not_true, Bool.not_false, calleeV, builtinV, eqV, fieldAddrV, ldVar, stN_own, stN_ownL, Int.fdiv_eq_ediv_of_nonneg, Int.reduceToNat, Int.reducePow, IntKind.bits, convV, ne_eq, not_false_eq_true, not_true_eq_false, Int.reduceNeg, Int.reduceAdd, Int.reduceSub, Int.reduceLT, Int.reduceLE, extractV, decide_true, decide_false, Int.reduceEq, mkFuncV, stBIdText, beq_self_eq_true, Ty.t24, Tryd.underlying24, Ty.t9, Tryd.underlying9, Ty.t5, Tryd.underlying5, Ty.t22, Tryd.underlying22, Ty.t60, Tryd.underlying60, Ty.t3, Tryd.underlying3, Ty.t4, Tryd.underlying4, getL_take, glBIdText, hlen, e8, h0, h2, buildV, fillL]
  let I : Nat → Env → St → Prop := fun i e s1 => e 0 = .string (strB l) ∧ e 2 = .pointer (some ⟨s.next, 0, none⟩) ∧ e 4 = .pointer (some ⟨s.next + 1, 0, none⟩) ∧
    Mild s s1 ∧ s.next + 2 ≤ s1.next ∧ s1.heap s.next = .row [.bool false, .int .u32 0] ∧ s1.heap (s.next + 1) = .row [.bool (decide (l.length = 8)), .int .u32 (hexN (l.take i))] ∧ hexOk (l.take i) = true
  refine W_loop_inv l.length (fun i e s1 => I i e s1 ∧ e 5 = .int .i64 i) (fun x e s1 => x = .exit 0 ∧ I l.length e s1 ∨ x = .ret ∧ hexOk l = false ∧ e 3 = .bool false ∧ e 2 = .pointer (some ⟨s.next, 0, none⟩) ∧ Mild s s1 ∧ s1.heap s.next = .row [.bool false, .int .u32 0]) ?_ ?_ ?_
  rotate_left
  · refine ⟨⟨h0, h2, rfl, (Mild.alloc _ _).alloc', by simp only [Ab.next_alloc]; omega, ?_, Ab.heap_alloc_new _ _, rfl⟩, rfl⟩
    rw [Ab.heap_alloc_ne _ _ (by simp only [Ab.next_alloc]; omega), Ab.heap_alloc_new]
  rotate_left
  · clear h0 h2 e'
    rintro i e1 s1 hi ⟨⟨h0, h2, h4, hm, hn, q0, q1, hok⟩, h5⟩
    by_cases hil : i < l.length
    rotate_left
    · have g1 : ¬ (i : Int) < (l.length : Int) := by omega
      simp (disch := first | omega | ((simp only [Ab.next_alloc, Ab.next_upd, List.length_cons, List.length_nil, ne_eq, not_true_eq_false, not_false_eq_true]) <;> omega) | decide) only [↓stepPre, stepPost, ↓W_cond, ↓W_block, ↓reduceIte, Nat.reduceEqDiff, Nat.reduceLT, Nat.reduceLeDiff, ret0, stVar, isTup, Value.cells, Nat.le_refl, Nat.reduceAdd, Nat.reduceMul, Nat.reduceSub, env0, binV, intV, reduceCtorEq, pickV, nilCheckV, ptrV, unV, true_and, and_true, Nat.add_zero, Nat.zero_add, Rt, resultsV, allV, resV, Bool.not_true, Bool.not_false, calleeV, builtinV, eqV, fieldAddrV, ldVar, stN_own, stN_ownL, Int.fdiv_eq_ediv_of_nonneg, Int.reduceToNat, Int.reducePow, IntKind.bits, convV, ne_eq, not_false_eq_true, not_true_eq_false, Int.reduceNeg, Int.reduceAdd, Int.reduceSub, Int.reduceLT, Int.reduceLE, extractV, decide_true, decide_false, Int.reduceEq, mkFuncV, stBIdText, beq_self_eq_true, Ty.t24, Tryd.underlying24, Ty.t9, Tryd.underlying9, Ty.t5, Tryd.underlying5, Ty.t22, Tryd.underlying22, Ty.t60, Tryd.underlying60, Ty.t3, Tryd.underlying3, Ty.t4, Tryd.underlying4, getL_take, glBIdText, hlen, h0, h2, h4, h5, g1]
      rw [show i = l.length by omega] at q1 hok
      exact .inl ⟨h0, h2, h4, hm, hn, q0, q1, hok⟩
    have g1 : (i : Int) < (l.length : Int) := by omega
    have hix := idxStr (P := Tryd.prog) (t := 9) (l := l) (k := .i64) (i := (i : Int)) Ty.str9 (by omega) (by omega)
    rw [Int.toNat_natCast] at hix
    simp (disch := first | omega | ((simp only [Ab.next_alloc, Ab.next_upd, List.length_cons, List.length_nil, ne_eq, not_true_eq_false, not_false_eq_true]) <;> omega) | decide) only [↓stepPre, stepPost, ↓W_cond, ↓W_block, ↓reduceIte, Nat.reduceEqDiff, Nat.reduceLT, Nat.reduceLeDiff, ret0, stVar, isTup, Value.cells, Nat.le_refl, Nat.reduceAdd, Nat.reduceMul, Nat.reduceSub, env0, binV, intV, reduceCtorEq, pickV, nilCheckV, ptrV, unV, true_and, and_true, Nat.add_zero, Nat.zero_add, Rt, resultsV, allV, resV, Bool.not_true, Bool.not_false, calleeV, builtinV, eqV, fieldAddrV, ldVar, stN_own, stN_ownL, Int.fdiv_eq_ediv_of_nonneg, Int.reduceToNat, Int.reducePow, IntKind.bits, convV, ne_eq, not_false_eq_true, not_true_eq_false, Int.reduceNeg, Int.reduceAdd, Int.reduceSub, Int.reduceLT, Int.reduceLE, extractV, decide_true, decide_false, Int.reduceEq, mkFuncV, stBIdText, beq_self_eq_true, Ty.t24, Tryd.underlying24, Ty.t9, Tryd.underlying9, Ty.t5, Tryd.underlying5, Ty.t22, Tryd.underlying22, Ty.t60, Tryd.underlying60, Ty.t3, Tryd.underlying3, Ty.t4, Tryd.underlying4, getL_take, glBIdText, hlen, h0, h2, h4, h5, g1, hix]
    refine rdigit5_p (l.getD i 0).toNat_lt ?_
    have hd := digI_in (l.getD i 0).toNat
    have hsn := take_snoc hil
    by_cases h0d : 0 ≤ digI (l.getD i 0).toNat
    · obtain ⟨d, hdd⟩ : ∃ d : Nat, digI (l.getD i 0).toNat = d := ⟨(digI (l.getD i 0).toNat).toNat, by omega⟩
      have h16 : ¬ (d : Int) = 16 := by omega
      have hlt := hexN_lt i (l.take i) (by simp; omega)
      have hi7 : (16 : Nat) ^ i ≤ 16 ^ 7 := Nat.pow_le_pow_right (by omega) (by omega)
      rw [if_pos h0d, hdd]
      simp (disch := first | omega | ((simp only [Ab.next_alloc, Ab.next_upd, List.length_cons, List.length_nil, ne_eq, not_true_eq_false, not_false_eq_true]) <;> omega) | decide) only [↓stepPre, stepPost, ↓W_cond, ↓W_block, ↓reduceIte, Nat.reduceEqDiff, Nat.reduceLT, Nat.reduceLeDiff, ret0, stVar, isTup, Value.cells, Nat.le_refl, Nat.reduceAdd, Nat.reduceMul, Nat.reduceSub, env0, binV, intV, reduceCtorEq, pickV, nilCheckV, ptrV, unV, true_and, and_true, Nat.add_zero, Nat.zero_add, Rt, resultsV, allV, resV, Bool.not_true, Bool.not_false, calleeV, builtinV, eqV, fieldAddrV, ldVar, stN_own, stN_ownL, Int.fdiv_eq_ediv_of_nonneg, Int.reduceToNat, Int.reducePow, IntKind.bits, convV, ne_eq, not_false_eq_true, not_true_eq_false, Int.reduceNeg, Int.reduceAdd, Int.reduceSub, Int.reduceLT, Int.reduceLE, extractV, decide_true, decide_false, Int.reduceEq, mkFuncV, stBIdText, beq_self_eq_true, Ty.t24, Tryd.underlying24, Ty.t9, Tryd.underlying9, Ty.t5, Tryd.underlying5, Ty.t22, Tryd.underlying22, Ty.t60, Tryd.underlying60, Ty.t3, Tryd.underlying3, Ty.t4, Tryd.underlying4, getL_take, glBIdText, h0, h2, h4, h5, q1, h16]
      refine ⟨hil, ⟨h0, h2, h4, hm.upd' (by omega), by simp only [Ab.next_upd]; omega, ?_, ?_, ?_⟩, ?_⟩
      · rw [Ab.heap_upd_ne _ _ (by omega), q0]
      · rw [Ab.heap_upd_same, hsn, hexN_snoc, hdd]; simp
      · rw [hsn, hexOk_snoc, hok, Bool.true_and]; exact decide_eq_true h0d
      · simp
    · rw [if_neg h0d]
      simp (disch := first | omega | ((simp only [Ab.next_alloc, Ab.next_upd, List.length_cons, List.length_nil, ne_eq, not_true_eq_false, not_false_eq_true]) <;> omega) | decide) only [↓stepPre, stepPost, ↓W_cond, ↓W_block, ↓reduceIte, Nat.reduceEqDiff, Nat.reduceLT, Nat.reduceLeDiff, ret0, stVar, isTup, Value.cells, Nat.le_refl, Nat.reduceAdd, Nat.reduceMul, Nat.reduceSub, env0, binV, intV, reduceCtorEq, pickV, nilCheckV, ptrV, unV, true_and, and_true, Nat.add_zero, Nat.zero_add, Rt, resultsV, allV, resV, Bool.not_true, Bool.not_false, calleeV, builtinV, eqV, fieldAddrV, ldVar, stN_own, stN_ownL, Int.fdiv_eq_ediv_of_nonneg, Int.reduceToNat, Int.reducePow, IntKind.bits, convV, ne_eq, not_false_eq_true, not_true_eq_false, Int.reduceNeg, Int.reduceAdd, Int.reduceSub, Int.reduceLT, Int.reduceLE, extractV, decide_true, decide_false, Int.reduceEq, mkFuncV, stBIdText, beq_self_eq_true, Ty.t24, Tryd.underlying24, Ty.t9, Tryd.underlying9, Ty.t5, Tryd.underlying5, Ty.t22, Tryd.underlying22, Ty.t60, Tryd.underlying60, Ty.t3, Tryd.underlying3, Ty.t4, Tryd.underlying4, getL_take, glBIdText, h0, h2, h4, h5, q0, q1, eq_self, buildV, fillL]
      refine .inr ⟨?_, hm.upd' (Nat.le_refl _)⟩
      refine Bool.eq_false_iff.2 fun h => h0d ?_
      exact of_decide_eq_true (List.all_eq_true.1 h (l.getD i 0) (by rw [List.getD_eq_getElem?_getD, List.getElem?_eq_getElem hil]; exact List.getElem_mem hil))
  · rintro x e1 s1 (⟨rfl, h0, h2, h4, hm, hn, q0, q1, hok⟩ | ⟨rfl, hbd, h3, h2, hm, q0⟩)
    · rw [List.take_length] at q1 hok
      simp (disch := first | omega | ((simp only [Ab.next_alloc, Ab.next_upd, List.length_cons, List.length_nil, ne_eq, not_true_eq_false, not_false_eq_true]) <;> omega) | decide) only [↓stepPre, stepPost, ↓W_cond, ↓W_block, ↓reduceIte, Nat.reduceEqDiff, Nat.reduceLT, Nat.reduceLeDiff, ret0, stVar, isTup, Value.cells, Nat.le_refl, Nat.reduceAdd, Nat.reduceMul, Nat.reduceSub, env0, binV, intV, reduceCtorEq, pickV, nilCheckV, ptrV, unV, true_and, and_true, Nat.add_zero, Nat.zero_add, Rt, resultsV, allV, resV, Bool.not_true, Bool.not_false, calleeV, builtinV, eqV, fieldAddrV, ldVar, stN_own, stN_ownL, Int.fdiv_eq_ediv_of_nonneg, Int.reduceToNat, Int.reducePow, IntKind.bits, convV, ne_eq, not_false_eq_true, not_true_eq_false, Int.reduceNeg, Int.reduceAdd, Int.reduceSub, Int.reduceLT, Int.reduceLE, extractV, decide_true, decide_false, Int.reduceEq, mkFuncV, stBIdText, beq_self_eq_true, Ty.t24, Tryd.underlying24, Ty.t9, Tryd.underlying9, Ty.t5, Tryd.underlying5, Ty.t22, Tryd.underlying22, Ty.t60, Tryd.underlying60, Ty.t3, Tryd.underlying3, Ty.t4, Tryd.underlying4, getL_take, glBIdText, hlen, e8, h0, h2, h4, q0, q1]
      refine r05right_p ?_
      cases hid : idOk (decide (l.length = 8)) (hexN l) with
      | false =>
        have key := hR _ (hm.upd' (b := s.next) (o := .row [.bool false, .int .u32 0]) (Nat.le_refl _))
        rw [hbad (by simp only [iparOk, hid, Bool.and_false])] at key
        simp (disch := first | omega | ((simp only [Ab.next_alloc, Ab.next_upd, List.length_cons, List.length_nil, ne_eq, not_true_eq_false, not_false_eq_true]) <;> omega) | decide) only [↓stepPre, stepPost, ↓W_cond, ↓W_block, ↓reduceIte, Nat.reduceEqDiff, Nat.reduceLT, Nat.reduceLeDiff, ret0, stVar, isTup, Value.cells, Nat.le_refl, Nat.reduceAdd, Nat.reduceMul, Nat.reduceSub, env0, binV, intV, reduceCtorEq, pickV, nilCheckV, ptrV, unV, true_and, and_true, Nat.add_zero, Nat.zero_add, Rt, resultsV, allV, resV, Bool.not_true, Bool.not_false, calleeV, builtinV, eqV, fieldAddrV, ldVar, stN_own, stN_ownL, Int.fdiv_eq_ediv_of_nonneg, Int.reduceToNat, Int.reducePow, IntKind.bits, convV, ne_eq, not_false_eq_true, not_true_eq_false, Int.reduceNeg, Int.reduceAdd, Int.reduceSub, Int.reduceLT, Int.reduceLE, extractV, decide_true, decide_false, Int.reduceEq, mkFuncV, stBIdText, beq_self_eq_true, Ty.t24, Tryd.underlying24, Ty.t9, Tryd.underlying9, Ty.t5, Tryd.underlying5, Ty.t22, Tryd.underlying22, Ty.t60, Tryd.underlying60, Ty.t3, Tryd.underlying3, Ty.t4, Tryd.underlying4, getL_take, glBIdText, hlen, e8, h0, h2, h4, q0, q1, buildV, fillL, Tryd.results29]
        exact key
      | true =>
        have hp : iparV l = .tuple #[idV (decide (l.length = 8)) (hexN l), .bool true] := by simp only [iparV, iparOk, hid, hok, hl38, decide_true, Bool.and_true, if_true]
        have key := hR _ (hm.upd' (b := s.next) (o := .row [.bool (decide (l.length = 8)), .int .u32 (hexN l)]) (Nat.le_refl _))
        rw [hp] at key
        simp (disch := first | omega | ((simp only [Ab.next_alloc, Ab.next_upd, List.length_cons, List.length_nil, ne_eq, not_true_eq_false, not_false_eq_true]) <;> omega) | decide) only [↓stepPre, stepPost, ↓W_cond, ↓W_block, ↓reduceIte, Nat.reduceEqDiff, Nat.reduceLT, Nat.reduceLeDiff, ret0, stVar, isTup, Value.cells, Nat.le_refl, Nat.reduceAdd, Nat.reduceMul, Nat.reduceSub, env0, binV, intV, reduceCtorEq, pickV, nilCheckV, ptrV, unV, true_and, and_true, Nat.add_zero, Nat.zero_add, Rt, resultsV, allV, resV, Bool.not_true, Bool.not_false, calleeV, builtinV, eqV, fieldAddrV, ldVar, stN_own, stN_ownL, Int.fdiv_eq_ediv_of_nonneg, Int.reduceToNat, Int.reducePow, IntKind.bits, convV, ne_eq, not_false_eq_true, not_true_eq_false, Int.reduceNeg, Int.reduceAdd, Int.reduceSub, Int.reduceLT, Int.reduceLE, extractV, decide_true, decide_false, Int.reduceEq, mkFuncV, stBIdText, beq_self_eq_true, Ty.t24, Tryd.underlying24, Ty.t9, Tryd.underlying9, Ty.t5, Tryd.underlying5, Ty.t22, Tryd.underlying22, Ty.t60, Tryd.underlying60, Ty.t3, Tryd.underlying3, Ty.t4, Tryd.underlying4, getL_take, glBIdText, hlen, e8, h0, h2, h4, q0, q1, buildV, fillL, Tryd.results29]
        exact key
    · have key := hR _ hm
      rw [hbad (by simp only [iparOk, hbd, Bool.and_false, Bool.false_and])] at key
      simp (disch := first | omega | ((simp only [Ab.next_alloc, Ab.next_upd, List.length_cons, List.length_nil, ne_eq, not_true_eq_false, not_false_eq_true]) <;> omega) | decide) only [↓stepPre, stepPost, ↓W_cond, ↓W_block, ↓reduceIte, Nat.reduceEqDiff, Nat.reduceLT, Nat.reduceLeDiff, ret0, stVar, isTup, Value.cells, Nat.le_refl, Nat.reduceAdd, Nat.reduceMul, Nat.reduceSub, env0, binV, intV, reduceCtorEq, pickV, nilCheckV, ptrV, unV, true_and, and_true, Nat.add_zero, Nat.zero_add, Rt, resultsV, allV, resV, Bool.not_true, Bool.not_false, calleeV, builtinV, eqV, fieldAddrV, ldVar, stN_own, stN_ownL, Int.fdiv_eq_ediv_of_nonneg, Int.reduceToNat, Int.reducePow, IntKind.bits, convV, ne_eq, not_false_eq_true, not_true_eq_false, Int.reduceNeg, Int.reduceAdd, Int.reduceSub, Int.reduceLT, Int.reduceLE, extractV, decide_true, decide_false, Int.reduceEq, mkFuncV, stBIdText, beq_self_eq_true, Ty.t24, Tryd.underlying24, Ty.t9, Tryd.underlying9, Ty.t5, Tryd.underlying5, Ty.t22, Tryd.underlying22, Ty.t60, Tryd.underlying60, Ty.t3, Tryd.underlying3, Ty.t4, Tryd.underlying4, getL_take, glBIdText, h2, h3, q0, Tryd.results29]
      exact key
end Go.Proofs.YtdhmjnpaoacpfaaDoor
