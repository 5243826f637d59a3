/- A line, read word by word (the package script): as contracts. -/
import Derived.Test.YthjpfllmecpliaaDoorTypes
import Derived.Test.YthjpfllmecpliaaDoorRow0
import Derived.Test.YthjpfllmecpliaaDoorAbC
import Derived.Test.YthjpfllmecpliaaDoorPure
import Derived.Test.YthjpfllmecpliaaDoorBoxes
import Derived.Test.YthjpfllmecpliaaDoorScrSplit
set_option linter.all false
set_option maxRecDepth 20000
namespace Go.Proofs.YthjpfllmecpliaaDoor
open Go Go.Ab
def nxBScrRead := And.intro @Ab.next_alloc (And.intro @Ab.next_upd (And.intro @List.length_cons.{0} (And.intro @List.length_nil.{0} (And.intro @ne_eq.{1} (And.intro not_true_eq_false not_false_eq_true)))))
def tyB0ScrRead := And.intro @Ty.t9 (And.intro @Tryd.underlying9 (And.intro @Ty.t52 (And.intro @Tryd.underlying52 (And.intro @Ty.t128 (And.intro @Tryd.underlying128 (And.intro @Ty.t118 (And.intro @Tryd.underlying118 (And.intro @Ty.t141 (And.intro @Tryd.underlying141 (And.intro @Ty.t144 (And.intro @Tryd.underlying144 (And.intro @Ty.t122 (And.intro @Tryd.underlying122 (And.intro @Ty.t124 (And.intro @Tryd.underlying124 (And.intro @Ty.t5 (And.intro @Tryd.underlying5 (And.intro @Ty.t2 (And.intro @Tryd.underlying2 (And.intro @Ty.t3 (And.intro @Tryd.underlying3 (And.intro @Ty.t4 @Tryd.underlying4))))))))))))))))))))))
def stBScrRead := And.intro @List.size_toArray.{0} (And.intro @List.length_cons.{0} (And.intro @List.length_nil.{0} (And.intro @List.set_cons_zero.{0} (And.intro @List.set_cons_succ.{0} (And.intro @List.getD_cons_zero.{0} (And.intro @List.getD_cons_succ.{0} (And.intro @List.getElem?_cons_succ.{0} (And.intro @List.getElem?_cons_zero.{0} (And.intro @List.map_cons.{0,0} (And.intro @List.map_nil.{0,0} (And.intro @Option.isNone_none.{0} (And.intro @Option.isNone_some.{0} (And.intro @Option.map_some.{0,0} (And.intro @Option.map_none.{0,0} (And.intro @List.cons_append.{0} (And.intro @List.nil_append.{0} (And.intro @List.append_nil.{0} (And.intro @Array.toList_append.{0} (And.intro @List.toList_toArray.{0} (And.intro @Int.cast_ofNat_Int (And.intro @Option.isSome_some.{0} (And.intro @List.getElem?_toArray.{0} (And.intro @List.map_toArray.{0,0} (@Nat.min_eq_left))))))))))))))))))))))))
def glBScrRead := And.intro @List.drop_zero.{0} (And.intro @List.drop_succ_cons.{0} (And.intro @List.take_succ_cons.{0} (And.intro @List.take_zero.{0} (@List.take_nil.{0}))))
variable {base : Nat} [Bok base] {s : St} {R : Value → St → Prop}
theorem strl_cap {z : Nat} {a : Option Addr} {n c : Nat} {L : List (List Value)} (h : Sl base s z (.slice a n c) L) : n = L.length ∧ n ≤ c := by
  cases h with
  | nil => exact ⟨rfl, Nat.le_refl _⟩
  | mk h1 h2 => exact ⟨h1.symm, h2⟩
/-- A reader: where it lies, what is left of its words, whether something was wrong. -/
def Rd (base lo hi : Nat) (s : St) (b : Nat) (ws : List (List UInt8)) (wr : Bool) : Prop :=
  ∃ v, s.heap b = .row [v, .bool wr] ∧ Sl base s 1 v (strL ws) ∧ base ≤ lo ∧ lo ≤ b ∧ b < hi ∧ hi ≤ s.next ∧ (∀ k, inB v k → lo ≤ k ∧ k < hi ∧ k ≠ b) ∧ ∀ w ∈ ws, w.length ≤ 1000000
theorem Rd.keep {lo hi : Nat} {s s' : St} {b : Nat} {ws : List (List UInt8)} {wr : Bool} (h : Rd base lo hi s b ws wr) (hk : ∀ k, lo ≤ k → k < hi → s'.heap k = s.heap k) (hn : s.next ≤ s'.next) : Rd base lo hi s' b ws wr := by
  obtain ⟨v, h1, h2, h3, h4, h5, h6, h7, h8⟩ := h
  refine ⟨v, (hk b h4 h5).trans h1, h2.frame (fun a n c e => ?_) hn, h3, h4, h5, by omega, h7, h8⟩
  subst e
  have := h7 a.block rfl
  exact hk _ this.1 this.2.1
theorem next38_ok {lo hi b : Nat} {ws : List (List UInt8)} {wr : Bool} (h : Rd base lo hi s b ws wr)
    (hR : ∀ s', s'.next = s.next → (∀ k, k ≠ b → s'.heap k = s.heap k) → Rd base lo hi s' b ws.tail (wr || ws.isEmpty) → R (.string (strB (ws.headD []))) s') :
    WC Tryd.prog base 70 [.pointer (some ⟨b, 0, none⟩)] s R := by
  refine WC_open Tryd.func70 rfl ?_
  obtain ⟨v, h1, h2, h3, h4, h5, h6, h7, h8⟩ := h
  have hlen := h2.len (P := Tryd.prog) (ts := []) Ty.elem52 Ty.arr52
  rw [strL_len] at hlen
  cases ws with
  | nil =>
    have g0 : ((List.length ([] : List (List UInt8)) : Nat) : Int) = 0 := rfl
    simp (disch := first | omega | ((simp only [nxBScrRead]) <;> omega) | decide) only [↓stepPre, stepPost, ↓W_cond, ↓W_block, ↓reduceIte, Nat.reduceEqDiff, Nat.reduceLT, Nat.reduceLeDiff, ret0, stVar, isTup, Value.cells, Nat.le_refl, Nat.reduceAdd, Nat.reduceMul, Nat.reduceSub, env0, binV, intV, reduceCtorEq, pickV, nilCheckV, ptrV, unV, true_and, and_true, Nat.add_zero, Nat.zero_add, Rt, resultsV, allV, resV, Bool.not_true, Bool.not_false, calleeV, builtinV, eqV, fieldAddrV, ldVar, stN_own, stN_ownL, Int.fdiv_eq_ediv_of_nonneg, Int.reduceToNat, Int.reducePow, IntKind.bits, convV, ne_eq, not_false_eq_true, not_true_eq_false, Int.reduceNeg, Int.reduceAdd, Int.reduceSub, Int.reduceLT, Int.reduceLE, extractV, decide_true, decide_false, Int.reduceEq, mkFuncV, stBScrRead, beq_self_eq_true, tyB0ScrRead, getL_take, glBScrRead, h1, hlen, g0, eq_self, List.length_nil, Int.ofNat_zero, putAt_row, setL, Tryd.results70]
    refine hR _ rfl (fun k hk => Ab.heap_upd_ne _ _ hk) ⟨v, ?_, h2.frame (fun a n c e => ?_) (Nat.le_refl _), h3, h4, h5, h6, h7, h8⟩
    · rw [Ab.heap_upd_same]; simp
    · subst e; exact Ab.heap_upd_ne _ _ (h7 a.block rfl).2.2
  | cons w ws =>
    have g0 : ¬ ((ws.length + 1 : Nat) : Int) = 0 := by omega
    have hix := h2.index (P := Tryd.prog) (k := .i64) (i := 0) Ty.elem52 Ty.siz9 (by omega) (by rw [strL_len]; simp)
    have hld := h2.load1 (P := Tryd.prog) (i := 0) (x := .string (strB w)) rfl Ty.agg9 Ty.siz9
    obtain ⟨va, vn, vc, rfl⟩ := h2.shape
    obtain ⟨c1, c2⟩ := strl_cap h2
    rw [strL_len] at c1
    obtain ⟨v', z3, z4, z5, z6⟩ := h2.cut (P := Tryd.prog) (lo := some (.int .i64 1)) (hi := none) (mx := none) (l := 1) (h := ws.length + 1) (m := vc) Ty.elem52 Ty.siz9 (fun a len cap hv => by
      cases hv
      simp only [cutV, intOf?, Option.isSome_none, Bool.false_eq_true, if_false]
      rw [if_pos ⟨by omega, by simp at c1; omega, by omega, by omega⟩]; simp at c1 ⊢; try omega) (by omega) (by rw [strL_len]; simp) (by simp at c1; omega)
    have z4 : Sl base s 1 v' (strL ws) := by rw [List.take_of_length_le (by rw [strL_len]; simp)] at z4; simpa [strL] using z4
    obtain ⟨va', vn', vc', rfl⟩ := z4.shape
    simp (disch := first | omega | ((simp only [nxBScrRead]) <;> omega) | decide) only [↓stepPre, stepPost, ↓W_cond, ↓W_block, ↓reduceIte, Nat.reduceEqDiff, Nat.reduceLT, Nat.reduceLeDiff, ret0, stVar, isTup, Value.cells, Nat.le_refl, Nat.reduceAdd, Nat.reduceMul, Nat.reduceSub, env0, binV, intV, reduceCtorEq, pickV, nilCheckV, ptrV, unV, true_and, and_true, Nat.add_zero, Nat.zero_add, Rt, resultsV, allV, resV, Bool.not_true, Bool.not_false, calleeV, builtinV, eqV, fieldAddrV, ldVar, stN_own, stN_ownL, Int.fdiv_eq_ediv_of_nonneg, Int.reduceToNat, Int.reducePow, IntKind.bits, convV, ne_eq, not_false_eq_true, not_true_eq_false, Int.reduceNeg, Int.reduceAdd, Int.reduceSub, Int.reduceLT, Int.reduceLE, extractV, decide_true, decide_false, Int.reduceEq, mkFuncV, stBScrRead, beq_self_eq_true, tyB0ScrRead, getL_take, glBScrRead, h1, hlen, g0, hix, hld, z3, putAt_row, setL, Tryd.results70]
    refine hR _ rfl (fun k hk => Ab.heap_upd_ne _ _ hk) ⟨_, ?_, z4.frame (fun a n c e => ?_) (Nat.le_refl _), h3, h4, h5, h6, fun k hk => h7 k (z5 k hk), fun x hx => h8 x (List.mem_cons_of_mem _ hx)⟩
    · rw [Ab.heap_upd_same]; simp
    · rw [e] at z5; exact Ab.heap_upd_ne _ _ (h7 a.block (z5 _ rfl)).2.2
theorem fine38_ok {lo hi b : Nat} {ws : List (List UInt8)} {wr : Bool} (h : Rd base lo hi s b ws wr) (hR : R (.bool (!wr && ws.isEmpty)) s) :
    WC Tryd.prog base 68 [.pointer (some ⟨b, 0, none⟩)] s R := by
  refine WC_open Tryd.func68 rfl ?_
  obtain ⟨v, h1, h2, h3, h4, h5, h6, h7, h8⟩ := h
  have hlen := h2.len (P := Tryd.prog) (ts := []) Ty.elem52 Ty.arr52
  rw [strL_len] at hlen
  cases wr with
  | true => simp (disch := first | omega | ((simp only [nxBScrRead]) <;> omega) | decide) only [↓stepPre, stepPost, ↓W_cond, ↓W_block, ↓reduceIte, Nat.reduceEqDiff, Nat.reduceLT, Nat.reduceLeDiff, ret0, stVar, isTup, Value.cells, Nat.le_refl, Nat.reduceAdd, Nat.reduceMul, Nat.reduceSub, env0, binV, intV, reduceCtorEq, pickV, nilCheckV, ptrV, unV, true_and, and_true, Nat.add_zero, Nat.zero_add, Rt, resultsV, allV, resV, Bool.not_true, Bool.not_false, calleeV, builtinV, eqV, fieldAddrV, ldVar, stN_own, stN_ownL, Int.fdiv_eq_ediv_of_nonneg, Int.reduceToNat, Int.reducePow, IntKind.bits, convV, ne_eq, not_false_eq_true, not_true_eq_false, Int.reduceNeg, Int.reduceAdd, Int.reduceSub, Int.reduceLT, Int.reduceLE, extractV, decide_true, decide_false, Int.reduceEq, mkFuncV, stBScrRead, beq_self_eq_true, tyB0ScrRead, getL_take, glBScrRead, h1, hlen, Tryd.results68]; exact hR
  | false =>
    cases ws with
    | nil =>
      have g0 : ((List.length ([] : List (List UInt8)) : Nat) : Int) = 0 := rfl
      simp (disch := first | omega | ((simp only [nxBScrRead]) <;> omega) | decide) only [↓stepPre, stepPost, ↓W_cond, ↓W_block, ↓reduceIte, Nat.reduceEqDiff, Nat.reduceLT, Nat.reduceLeDiff, ret0, stVar, isTup, Value.cells, Nat.le_refl, Nat.reduceAdd, Nat.reduceMul, Nat.reduceSub, env0, binV, intV, reduceCtorEq, pickV, nilCheckV, ptrV, unV, true_and, and_true, Nat.add_zero, Nat.zero_add, Rt, resultsV, allV, resV, Bool.not_true, Bool.not_false, calleeV, builtinV, eqV, fieldAddrV, ldVar, stN_own, stN_ownL, Int.fdiv_eq_ediv_of_nonneg, Int.reduceToNat, Int.reducePow, IntKind.bits, convV, ne_eq, not_false_eq_true, not_true_eq_false, Int.reduceNeg, Int.reduceAdd, Int.reduceSub, Int.reduceLT, Int.reduceLE, extractV, decide_true, decide_false, Int.reduceEq, mkFuncV, stBScrRead, beq_self_eq_true, tyB0ScrRead, getL_take, glBScrRead, h1, hlen, g0, eq_self, List.length_nil, Int.ofNat_zero, Tryd.results68]; exact hR
    | cons w ws =>
      have g0 : ¬ ((ws.length + 1 : Nat) : Int) = 0 := by omega
      simp (disch := first | omega | ((simp only [nxBScrRead]) <;> omega) | decide) only [↓stepPre, stepPost, ↓W_cond, ↓W_block, ↓reduceIte, Nat.reduceEqDiff, Nat.reduceLT, Nat.reduceLeDiff, ret0, stVar, isTup, Value.cells, Nat.le_refl, Nat.reduceAdd, Nat.reduceMul, Nat.reduceSub, env0, binV, intV, reduceCtorEq, pickV, nilCheckV, ptrV, unV, true_and, and_true, Nat.add_zero, Nat.zero_add, Rt, resultsV, allV, resV, Bool.not_true, Bool.not_false, calleeV, builtinV, eqV, fieldAddrV, ldVar, stN_own, stN_ownL, Int.fdiv_eq_ediv_of_nonneg, Int.reduceToNat, Int.reducePow, IntKind.bits, convV, ne_eq, not_false_eq_true, not_true_eq_false, Int.reduceNeg, Int.reduceAdd, Int.reduceSub, Int.reduceLT, Int.reduceLE, extractV, decide_true, decide_false, Int.reduceEq, mkFuncV, stBScrRead, beq_self_eq_true, tyB0ScrRead, getL_take, glBScrRead, h1, hlen, g0, Tryd.results68]; exact hR
theorem neqStrV38 {l m : List UInt8} : strV .neq (strB l) (strB m) = some (.bool (decide (¬ l = m))) := neqStr (P := Tryd.prog) (t := 9)
theorem partW_lenle (c : UInt8) : ∀ l : List UInt8, ∀ w ∈ partW c l, w.length ≤ l.length := by
  intro l
  induction l with
  | nil => simp [partW]
  | cons d l ih =>
    intro w hw
    unfold partW at hw
    split at hw
    · rcases List.mem_cons.1 hw with rfl | hw
      · simp
      · have := ih w hw; simp; omega
    · split at hw
      · rename_i w1 ws he
        rcases List.mem_cons.1 hw with rfl | hw
        · have := ih w1 (by rw [he]; simp); simp; omega
        · have := ih w (by rw [he]; exact List.mem_cons_of_mem _ hw); simp; omega
      · rename_i he; exact absurd he (partW_ne c l)
theorem open38_ok {x word : List UInt8} (hx : x.length ≤ 1000000) (hbn : base ≤ s.next)
    (hR : ∀ s' b, Mild s s' → Rd base s.next s'.next s' b (partW 32 x).tail (decide (¬ (partW 32 x).headD [] = word)) → R (.pointer (some ⟨b, 0, none⟩)) s') :
    WC Tryd.prog base 65 [.string (strB x), .string (strB word)] s R := by
  refine WC_open Tryd.func65 rfl ?_
  simp (disch := first | omega | ((simp only [nxBScrRead]) <;> omega) | decide) only [↓stepPre, stepPost, ↓W_cond, ↓W_block, ↓reduceIte, Nat.reduceEqDiff, Nat.reduceLT, Nat.reduceLeDiff, ret0, stVar, isTup, Value.cells, Nat.le_refl, Nat.reduceAdd, Nat.reduceMul, Nat.reduceSub, env0, binV, intV, reduceCtorEq, pickV, nilCheckV, ptrV, unV, true_and, and_true, Nat.add_zero, Nat.zero_add, Rt, resultsV, allV, resV, Bool.not_true, Bool.not_false, calleeV, builtinV, eqV, fieldAddrV, ldVar, stN_own, stN_ownL, Int.fdiv_eq_ediv_of_nonneg, Int.reduceToNat, Int.reducePow, IntKind.bits, convV, ne_eq, not_false_eq_true, not_true_eq_false, Int.reduceNeg, Int.reduceAdd, Int.reduceSub, Int.reduceLT, Int.reduceLE, extractV, decide_true, decide_false, Int.reduceEq, mkFuncV, stBScrRead, beq_self_eq_true, tyB0ScrRead, getL_take, glBScrRead]
  refine split38_ok hx hbn fun s1 v m1 hv hs => ?_
  obtain ⟨va, vn, vc, rfl⟩ := hs.shape
  simp (disch := first | omega | ((simp only [nxBScrRead]) <;> omega) | decide) only [↓stepPre, stepPost, ↓W_cond, ↓W_block, ↓reduceIte, Nat.reduceEqDiff, Nat.reduceLT, Nat.reduceLeDiff, ret0, stVar, isTup, Value.cells, Nat.le_refl, Nat.reduceAdd, Nat.reduceMul, Nat.reduceSub, env0, binV, intV, reduceCtorEq, pickV, nilCheckV, ptrV, unV, true_and, and_true, Nat.add_zero, Nat.zero_add, Rt, resultsV, allV, resV, Bool.not_true, Bool.not_false, calleeV, builtinV, eqV, fieldAddrV, ldVar, stN_own, stN_ownL, Int.fdiv_eq_ediv_of_nonneg, Int.reduceToNat, Int.reducePow, IntKind.bits, convV, ne_eq, not_false_eq_true, not_true_eq_false, Int.reduceNeg, Int.reduceAdd, Int.reduceSub, Int.reduceLT, Int.reduceLE, extractV, decide_true, decide_false, Int.reduceEq, mkFuncV, stBScrRead, beq_self_eq_true, tyB0ScrRead, getL_take, glBScrRead, buildV, fillL]
  have n1 := m1.next
  have hlt := hs.lt
  have rd : Rd base s.next (s1.next + 1) (s1.alloc (.row [.slice va vn vc, .bool false])) s1.next (partW 32 x) false := ⟨_, Ab.heap_alloc_new _ _, hs.mild (Mild.alloc _ _), hbn, n1, by omega, by simp only [Ab.next_alloc]; omega, fun k hk => ⟨hv k hk, by have := hlt k hk; omega, by have := hlt k hk; omega⟩, fun w hw => Nat.le_trans (partW_lenle 32 x w hw) hx⟩
  refine next38_ok rd fun s2 n2 k2 r2 => ?_
  obtain ⟨v2, z1, z2, z3, z4, z5, z6, z7, z8⟩ := r2
  simp only [Ab.next_alloc] at n2 z6
  simp (disch := first | omega | ((simp only [nxBScrRead]) <;> omega) | decide) only [↓stepPre, stepPost, ↓W_cond, ↓W_block, ↓reduceIte, Nat.reduceEqDiff, Nat.reduceLT, Nat.reduceLeDiff, ret0, stVar, isTup, Value.cells, Nat.le_refl, Nat.reduceAdd, Nat.reduceMul, Nat.reduceSub, env0, binV, intV, reduceCtorEq, pickV, nilCheckV, ptrV, unV, true_and, and_true, Nat.add_zero, Nat.zero_add, Rt, resultsV, allV, resV, Bool.not_true, Bool.not_false, calleeV, builtinV, eqV, fieldAddrV, ldVar, stN_own, stN_ownL, Int.fdiv_eq_ediv_of_nonneg, Int.reduceToNat, Int.reducePow, IntKind.bits, convV, ne_eq, not_false_eq_true, not_true_eq_false, Int.reduceNeg, Int.reduceAdd, Int.reduceSub, Int.reduceLT, Int.reduceLE, extractV, decide_true, decide_false, Int.reduceEq, mkFuncV, stBScrRead, beq_self_eq_true, tyB0ScrRead, getL_take, glBScrRead, neqStrV38, z1, putAt_row, setL, Tryd.results65]
  refine hR _ _ ⟨by show s.next ≤ s2.next; omega, fun k hk => ?_⟩ ⟨v2, Ab.heap_upd_same _ _ _, z2.frame (fun a n c e => ?_) (Nat.le_refl _), z3, z4, by show _ < s2.next; omega, Nat.le_refl _, fun k hk => ⟨(z7 k hk).1, by show _ < s2.next; have := z7 k hk; omega, (z7 k hk).2.2⟩, z8⟩
  · rw [Ab.heap_upd_ne _ _ (by omega), k2 k (by omega), Ab.heap_alloc_ne _ _ (by omega)]
    exact m1.heap k hk
  · subst e; exact Ab.heap_upd_ne _ _ (z7 a.block rfl).2.2
end Go.Proofs.YthjpfllmecpliaaDoor
