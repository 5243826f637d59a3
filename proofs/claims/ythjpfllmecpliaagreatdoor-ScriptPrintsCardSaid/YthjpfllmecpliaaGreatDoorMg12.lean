/- Texts of our own, one behind the other: ScrHead, ScrStream, ScrAct. -/
import Derived.Test.YthjpfllmecpliaaGreatDoorMg4
import Derived.Test.YthjpfllmecpliaaGreatDoorMg3
import Derived.Test.YthjpfllmecpliaaGreatDoorMg11
import Derived.Test.YthjpfllmecpliaaGreatDoorMg9
import Derived.Test.YthjpfllmecpliaaGreatDoorMg10
/- The lines ahead of a script, read (the package script): as a contract. -/
set_option linter.all false
set_option maxRecDepth 20000
namespace Go.Proofs.YthjpfllmecpliaaGreatDoor
open Go Go.Ab
def spBScrHead := And.intro @Nat.le_refl (And.intro @true_and (And.intro @and_true (And.intro @Nat.add_zero (And.intro @Nat.zero_add (And.intro @Bool.not_true (And.intro @Bool.not_false (And.intro @ne_eq.{1} (And.intro @not_false_eq_true (And.intro @not_true_eq_false (And.intro @decide_true (And.intro @decide_false (@Int.fdiv_eq_ediv_of_nonneg))))))))))))
def nxBScrHead := And.intro @Ab.next_alloc (And.intro @Ab.next_upd (And.intro @List.length_cons.{0} (And.intro @List.length_nil.{0} (And.intro @ne_eq.{1} (And.intro not_true_eq_false not_false_eq_true)))))
def tyB0ScrHead := And.intro @Ty.t9 (And.intro @Tryz.underlying9 (And.intro @Ty.t50 (And.intro @Tryz.underlying50 (And.intro @Ty.t120 (And.intro @Tryz.underlying120 (And.intro @Ty.t26 (And.intro @Tryz.underlying26 (And.intro @Ty.t100 (And.intro @Tryz.underlying100 (And.intro @Ty.t24 (And.intro @Tryz.underlying24 (And.intro @Ty.t128 (And.intro @Tryz.underlying128 (And.intro @Ty.t118 (And.intro @Tryz.underlying118 (And.intro @Ty.t140 (And.intro @Tryz.underlying140 (And.intro @Ty.t143 (And.intro @Tryz.underlying143 (And.intro @Ty.t122 (And.intro @Tryz.underlying122 (And.intro @Ty.t124 (And.intro @Tryz.underlying124 (And.intro @Ty.t5 (And.intro @Tryz.underlying5 (And.intro @Ty.t2 (And.intro @Tryz.underlying2 (And.intro @Ty.t3 (And.intro @Tryz.underlying3 (And.intro @Ty.t4 @Tryz.underlying4))))))))))))))))))))))))))))))
def stBScrHead := And.intro @List.size_toArray.{0} (And.intro @List.length_cons.{0} (And.intro @List.length_nil.{0} (And.intro @List.set_cons_zero.{0} (And.intro @List.set_cons_succ.{0} (And.intro @List.getD_cons_zero.{0} (And.intro @List.getD_cons_succ.{0} (And.intro @List.getElem?_cons_succ.{0} (And.intro @List.getElem?_cons_zero.{0} (And.intro @List.map_cons.{0,0} (And.intro @List.map_nil.{0,0} (And.intro @Option.isNone_none.{0} (And.intro @Option.isNone_some.{0} (And.intro @Option.map_some.{0,0} (And.intro @Option.map_none.{0,0} (And.intro @List.cons_append.{0} (And.intro @List.nil_append.{0} (And.intro @List.append_nil.{0} (And.intro @Array.toList_append.{0} (And.intro @List.toList_toArray.{0} (And.intro @Int.cast_ofNat_Int (And.intro @Option.isSome_some.{0} (And.intro @List.getElem?_toArray.{0} (And.intro @List.map_toArray.{0,0} (@Nat.min_eq_left))))))))))))))))))))))))
def glBScrHead := And.intro @List.drop_zero.{0} (And.intro @List.drop_succ_cons.{0} (And.intro @List.take_succ_cons.{0} (And.intro @List.take_zero.{0} (@List.take_nil.{0}))))
variable {base : Nat} [Bok base] {s : St} {R : Value → St → Prop}
/-- A line of a word, and so many numbers behind it. -/
def lineB (word : List UInt8) (k : Nat) (x : List UInt8) : Bool := decide ((partW 32 x).headD [] = word) && okW (partW 32 x).tail k && decide ((partW 32 x).tail.length = k)
theorem line_flag (w word : List UInt8) (ws : List (List UInt8)) (k : Nat) : (!(decide (¬ w = word) || !okW ws k) && (ws.drop k).isEmpty) = (decide (w = word) && okW ws k && decide (ws.length = k)) := by
  by_cases hw : w = word
  · by_cases hk : okW ws k = true
    · have : k ≤ ws.length := by unfold okW at hk; simp at hk; exact hk.1
      have e : (ws.drop k).isEmpty = decide (ws.length = k) := by
        by_cases hl : ws.length = k
        · rw [List.drop_of_length_le (by omega)]; simp [hl]
        · cases hd : ws.drop k with
          | nil => have := congrArg List.length hd; simp at this; omega
          | cons => simp [hl]
      rw [e]; simp [hw, hk]
    · simp [hw, hk]
  · simp [hw]
def headW : Nat → List UInt8
  | 0 => [110, 111, 100, 101, 115]
  | 1 => [108, 101, 110, 103, 116, 104]
  | 2 => [114, 111, 111, 109]
  | 3 => [98, 101, 97, 116]
  | 4 => [116, 117, 110, 101]
  | _ => [116, 117, 114, 110, 115]
def headO : Nat → List Nat
  | 0 => [0]
  | 1 => [2]
  | 2 => [3]
  | 3 => [4, 5]
  | 4 => [6]
  | _ => [7, 8, 9]
def headB (at_ : Nat) (x : List UInt8) : Bool := lineB (headW at_) (headO at_).length x
theorem build2p {s : St} {a b : Addr} : buildSliceV Tryz.prog s 140 2 [(0, .pointer (some a)), (1, .pointer (some b))] = some (.slice (some ⟨s.next, 0, none⟩) 2 2, s.alloc (.row [.pointer (some a), .pointer (some b)])) := by
  simp [buildSliceV, Ty.elem140, Ty.siz122, Ty.zer122, fillL, isTup, Value.cells, repL, setL]
theorem build3p {s : St} {a b c : Addr} : buildSliceV Tryz.prog s 140 3 [(0, .pointer (some a)), (1, .pointer (some b)), (2, .pointer (some c))] = some (.slice (some ⟨s.next, 0, none⟩) 3 3, s.alloc (.row [.pointer (some a), .pointer (some b), .pointer (some c)])) := by
  simp [buildSliceV, Ty.elem140, Ty.siz122, Ty.zer122, fillL, isTup, Value.cells, repL, setL]
theorem build1q {s : St} {a : Addr} : buildSliceV Tryz.prog s 143 1 [(0, .pointer (some a))] = some (.slice (some ⟨s.next, 0, none⟩) 1 1, s.alloc (.row [.pointer (some a)])) := by
  simp [buildSliceV, Ty.elem143, Ty.siz124, Ty.zer124, fillL, isTup, Value.cells, repL, setL]
theorem build2q {s : St} {a b : Addr} : buildSliceV Tryz.prog s 143 2 [(0, .pointer (some a)), (1, .pointer (some b))] = some (.slice (some ⟨s.next, 0, none⟩) 2 2, s.alloc (.row [.pointer (some a), .pointer (some b)])) := by
  simp [buildSliceV, Ty.elem143, Ty.siz124, Ty.zer124, fillL, isTup, Value.cells, repL, setL]
theorem hidx0 : indexV Tryz.prog 120 (.agg #[.string ⟨#[110, 111, 100, 101, 115]⟩, .string ⟨#[108, 101, 110, 103, 116, 104]⟩, .string ⟨#[114, 111, 111, 109]⟩, .string ⟨#[98, 101, 97, 116]⟩, .string ⟨#[116, 117, 110, 101]⟩, .string ⟨#[116, 117, 114, 110, 115]⟩]) (.int .i64 0) = some (.string (strB (headW 0))) := by kernel_rfl
theorem hidx1 : indexV Tryz.prog 120 (.agg #[.string ⟨#[110, 111, 100, 101, 115]⟩, .string ⟨#[108, 101, 110, 103, 116, 104]⟩, .string ⟨#[114, 111, 111, 109]⟩, .string ⟨#[98, 101, 97, 116]⟩, .string ⟨#[116, 117, 110, 101]⟩, .string ⟨#[116, 117, 114, 110, 115]⟩]) (.int .i64 1) = some (.string (strB (headW 1))) := by kernel_rfl
theorem hidx2 : indexV Tryz.prog 120 (.agg #[.string ⟨#[110, 111, 100, 101, 115]⟩, .string ⟨#[108, 101, 110, 103, 116, 104]⟩, .string ⟨#[114, 111, 111, 109]⟩, .string ⟨#[98, 101, 97, 116]⟩, .string ⟨#[116, 117, 110, 101]⟩, .string ⟨#[116, 117, 114, 110, 115]⟩]) (.int .i64 2) = some (.string (strB (headW 2))) := by kernel_rfl
theorem hidx3 : indexV Tryz.prog 120 (.agg #[.string ⟨#[110, 111, 100, 101, 115]⟩, .string ⟨#[108, 101, 110, 103, 116, 104]⟩, .string ⟨#[114, 111, 111, 109]⟩, .string ⟨#[98, 101, 97, 116]⟩, .string ⟨#[116, 117, 110, 101]⟩, .string ⟨#[116, 117, 114, 110, 115]⟩]) (.int .i64 3) = some (.string (strB (headW 3))) := by kernel_rfl
theorem hidx4 : indexV Tryz.prog 120 (.agg #[.string ⟨#[110, 111, 100, 101, 115]⟩, .string ⟨#[108, 101, 110, 103, 116, 104]⟩, .string ⟨#[114, 111, 111, 109]⟩, .string ⟨#[98, 101, 97, 116]⟩, .string ⟨#[116, 117, 110, 101]⟩, .string ⟨#[116, 117, 114, 110, 115]⟩]) (.int .i64 4) = some (.string (strB (headW 4))) := by kernel_rfl
theorem hidx5 : indexV Tryz.prog 120 (.agg #[.string ⟨#[110, 111, 100, 101, 115]⟩, .string ⟨#[108, 101, 110, 103, 116, 104]⟩, .string ⟨#[114, 111, 111, 109]⟩, .string ⟨#[98, 101, 97, 116]⟩, .string ⟨#[116, 117, 110, 101]⟩, .string ⟨#[116, 117, 114, 110, 115]⟩]) (.int .i64 5) = some (.string (strB (headW 5))) := by kernel_rfl
theorem head38_ok {at_ o : Nat} {x : List UInt8} {L : List Value} (hat : at_ ≤ 5) (hx : x.length ≤ 1000000) (ho : base ≤ o) (hon : o < s.next) (hL : s.heap o = .row L) (hLl : L.length = 11) (hbn : base ≤ s.next)
    (hR : ∀ s' ns, s.next ≤ s'.next → (∀ k, k < s.next → k ≠ o → s'.heap k = s.heap k) → s'.heap o = .row (setAll L (headO at_) ns) → ns.length = (headO at_).length → (∀ n ∈ ns, n ≤ 2147483647) → (headB at_ x = true → ns = (partW 32 x).tail.map valL) → R (.bool (headB at_ x)) s') :
    WC Tryz.prog base 50 [.pointer (some ⟨o, 0, none⟩), .int .i64 (at_ : Int), .string (strB x)] s R := by
  refine WC_open Tryz.func50 rfl ?_
  have key : ∀ k, headB k x = true → (partW 32 x).tail.take (headO k).length = (partW 32 x).tail := fun k h => by
    unfold headB lineB at h
    simp only [Bool.and_eq_true, decide_eq_true_eq] at h
    rw [← h.2, List.take_length]
  have hc : at_ = 0 ∨ at_ = 1 ∨ at_ = 2 ∨ at_ = 3 ∨ at_ = 4 ∨ at_ = 5 := by omega
  have hok : ∀ k, headB k x = true → okW (partW 32 x).tail (headO k).length = true := fun k h => by
    unfold headB lineB at h
    simp only [Bool.and_eq_true, decide_eq_true_eq] at h
    exact h.1.2
  rcases hc with rfl | rfl | rfl | rfl | rfl | rfl
  · simp (disch := first | omega | ((simp only [nxBScrHead]) <;> omega) | decide) only [↓stepPre, stepPost, ↓W_cond, ↓W_block, ↓reduceIte, Nat.reduceEqDiff, Nat.reduceLT, Nat.reduceLeDiff, ret0, stVar, isTup, Value.cells, Nat.reduceAdd, Nat.reduceMul, Nat.reduceSub, env0, binV, intV, reduceCtorEq, pickV, nilCheckV, ptrV, unV, Rt, resultsV, allV, resV, calleeV, builtinV, eqV, fieldAddrV, ldVar, stN_own, stN_ownL, Int.reduceToNat, Int.reducePow, IntKind.bits, convV, Int.reduceNeg, Int.reduceAdd, Int.reduceSub, Int.reduceLT, Int.reduceLE, extractV, Int.reduceEq, mkFuncV, stBScrHead, spBScrHead, beq_self_eq_true, tyB0ScrHead, getL_take, glBScrHead, buildV, fillL, setL, Int.ofNat_zero, Int.ofNat_one, eq_self, hidx0]
    refine open38_ok (word := headW 0) hx hbn fun s1 b m1 r1 => ?_
    have n1 := m1.next
    simp (disch := first | omega | ((simp only [nxBScrHead]) <;> omega) | decide) only [↓stepPre, stepPost, ↓W_cond, ↓W_block, ↓reduceIte, Nat.reduceEqDiff, Nat.reduceLT, Nat.reduceLeDiff, ret0, stVar, isTup, Value.cells, Nat.reduceAdd, Nat.reduceMul, Nat.reduceSub, env0, binV, intV, reduceCtorEq, pickV, nilCheckV, ptrV, unV, Rt, resultsV, allV, resV, calleeV, builtinV, eqV, fieldAddrV, ldVar, stN_own, stN_ownL, Int.reduceToNat, Int.reducePow, IntKind.bits, convV, Int.reduceNeg, Int.reduceAdd, Int.reduceSub, Int.reduceLT, Int.reduceLE, extractV, Int.reduceEq, mkFuncV, stBScrHead, spBScrHead, beq_self_eq_true, tyB0ScrHead, getL_take, glBScrHead, Int.ofNat_zero, Int.ofNat_one, eq_self, build1p]
    have r1' : Rd base s.next s1.next (s1.alloc (.row [.pointer (some ⟨o, 0, none⟩)])) b _ _ := r1.keep (fun j h1 h2 => Ab.heap_alloc_ne _ _ (by omega)) (by simp only [Ab.next_alloc]; omega)
    have hL1 : (s1.alloc (.row [.pointer (some ⟨o, 0, none⟩)])).heap o = .row L := by rw [Ab.heap_alloc_ne _ _ (by omega), m1.heap o hon]; exact hL
    have hp1 : Sl base (s1.alloc (.row [.pointer (some ⟨o, 0, none⟩)])) 1 (.slice (some ⟨s1.next, 0, none⟩) 1 1) (ptrL o [0]) := .newRow (Ab.heap_alloc_new _ _) rfl rfl (by simp [ptrL]) (by omega) (by simp only [Ab.next_alloc]; omega)
    have fr1 : ∀ j, j < s1.next → (s1.alloc (.row [.pointer (some ⟨o, 0, none⟩)])).heap j = s1.heap j := fun j hj => Ab.heap_alloc_ne _ _ (by omega)
    have nx1 := Ab.next_alloc s1 (.row [.pointer (some ⟨o, 0, none⟩)])
    have hb2 : s.next ≤ b := r1.choose_spec.2.2.2.1
    refine read38_ok (offs := [0]) r1' ho (by simp only [Ab.next_alloc]; omega) (.inl hon) hL1 (by simp; omega) (by simp) hp1 (fun j hj => by simp only [inB] at hj; omega) fun t ns n2 f2 r2 h2 l2 b2 v2 => ?_
    simp (disch := first | omega | ((simp only [nxBScrHead]) <;> omega) | decide) only [↓stepPre, stepPost, ↓W_cond, ↓W_block, ↓reduceIte, Nat.reduceEqDiff, Nat.reduceLT, Nat.reduceLeDiff, ret0, stVar, isTup, Value.cells, Nat.reduceAdd, Nat.reduceMul, Nat.reduceSub, env0, binV, intV, reduceCtorEq, pickV, nilCheckV, ptrV, unV, Rt, resultsV, allV, resV, calleeV, builtinV, eqV, fieldAddrV, ldVar, stN_own, stN_ownL, Int.reduceToNat, Int.reducePow, IntKind.bits, convV, Int.reduceNeg, Int.reduceAdd, Int.reduceSub, Int.reduceLT, Int.reduceLE, extractV, Int.reduceEq, mkFuncV, stBScrHead, spBScrHead, beq_self_eq_true, tyB0ScrHead, getL_take, glBScrHead]
    refine fine38_ok r2 ?_
    simp (disch := first | omega | ((simp only [nxBScrHead]) <;> omega) | decide) only [↓stepPre, stepPost, ↓W_cond, ↓W_block, ↓reduceIte, Nat.reduceEqDiff, Nat.reduceLT, Nat.reduceLeDiff, ret0, stVar, isTup, Value.cells, Nat.reduceAdd, Nat.reduceMul, Nat.reduceSub, env0, binV, intV, reduceCtorEq, pickV, nilCheckV, ptrV, unV, Rt, resultsV, allV, resV, calleeV, builtinV, eqV, fieldAddrV, ldVar, stN_own, stN_ownL, Int.reduceToNat, Int.reducePow, IntKind.bits, convV, Int.reduceNeg, Int.reduceAdd, Int.reduceSub, Int.reduceLT, Int.reduceLE, extractV, Int.reduceEq, mkFuncV, stBScrHead, spBScrHead, beq_self_eq_true, tyB0ScrHead, getL_take, glBScrHead, Tryz.results50]
    rw [line_flag]
    exact hR t ns (by omega) (fun j hj hjo => by rw [f2 j (by omega) hjo, fr1 j (by omega)]; exact m1.heap j hj) h2 l2 b2 (fun h => by rw [v2 (hok 0 h)]; exact congrArg (List.map valL) (key 0 h))
  · simp (disch := first | omega | ((simp only [nxBScrHead]) <;> omega) | decide) only [↓stepPre, stepPost, ↓W_cond, ↓W_block, ↓reduceIte, Nat.reduceEqDiff, Nat.reduceLT, Nat.reduceLeDiff, ret0, stVar, isTup, Value.cells, Nat.reduceAdd, Nat.reduceMul, Nat.reduceSub, env0, binV, intV, reduceCtorEq, pickV, nilCheckV, ptrV, unV, Rt, resultsV, allV, resV, calleeV, builtinV, eqV, fieldAddrV, ldVar, stN_own, stN_ownL, Int.reduceToNat, Int.reducePow, IntKind.bits, convV, Int.reduceNeg, Int.reduceAdd, Int.reduceSub, Int.reduceLT, Int.reduceLE, extractV, Int.reduceEq, mkFuncV, stBScrHead, spBScrHead, beq_self_eq_true, tyB0ScrHead, getL_take, glBScrHead, buildV, fillL, setL, Int.ofNat_zero, Int.ofNat_one, eq_self, hidx1]
    refine open38_ok (word := headW 1) hx hbn fun s1 b m1 r1 => ?_
    have n1 := m1.next
    simp (disch := first | omega | ((simp only [nxBScrHead]) <;> omega) | decide) only [↓stepPre, stepPost, ↓W_cond, ↓W_block, ↓reduceIte, Nat.reduceEqDiff, Nat.reduceLT, Nat.reduceLeDiff, ret0, stVar, isTup, Value.cells, Nat.reduceAdd, Nat.reduceMul, Nat.reduceSub, env0, binV, intV, reduceCtorEq, pickV, nilCheckV, ptrV, unV, Rt, resultsV, allV, resV, calleeV, builtinV, eqV, fieldAddrV, ldVar, stN_own, stN_ownL, Int.reduceToNat, Int.reducePow, IntKind.bits, convV, Int.reduceNeg, Int.reduceAdd, Int.reduceSub, Int.reduceLT, Int.reduceLE, extractV, Int.reduceEq, mkFuncV, stBScrHead, spBScrHead, beq_self_eq_true, tyB0ScrHead, getL_take, glBScrHead, Int.ofNat_zero, Int.ofNat_one, eq_self, build1q]
    have r1' : Rd base s.next s1.next (s1.alloc (.row [.pointer (some ⟨o, 2, none⟩)])) b _ _ := r1.keep (fun j h1 h2 => Ab.heap_alloc_ne _ _ (by omega)) (by simp only [Ab.next_alloc]; omega)
    have hL1 : (s1.alloc (.row [.pointer (some ⟨o, 2, none⟩)])).heap o = .row L := by rw [Ab.heap_alloc_ne _ _ (by omega), m1.heap o hon]; exact hL
    have hp1 : Sl base (s1.alloc (.row [.pointer (some ⟨o, 2, none⟩)])) 1 (.slice (some ⟨s1.next, 0, none⟩) 1 1) (ptrL o [2]) := .newRow (Ab.heap_alloc_new _ _) rfl rfl (by simp [ptrL]) (by omega) (by simp only [Ab.next_alloc]; omega)
    have fr1 : ∀ j, j < s1.next → (s1.alloc (.row [.pointer (some ⟨o, 2, none⟩)])).heap j = s1.heap j := fun j hj => Ab.heap_alloc_ne _ _ (by omega)
    have nx1 := Ab.next_alloc s1 (.row [.pointer (some ⟨o, 2, none⟩)])
    have hb2 : s.next ≤ b := r1.choose_spec.2.2.2.1
    refine long38_ok (offs := [2]) r1' ho (by simp only [Ab.next_alloc]; omega) (.inl hon) hL1 (by simp; omega) (by simp) hp1 (fun j hj => by simp only [inB] at hj; omega) fun t ns n2 f2 r2 h2 l2 b2 v2 => ?_
    simp (disch := first | omega | ((simp only [nxBScrHead]) <;> omega) | decide) only [↓stepPre, stepPost, ↓W_cond, ↓W_block, ↓reduceIte, Nat.reduceEqDiff, Nat.reduceLT, Nat.reduceLeDiff, ret0, stVar, isTup, Value.cells, Nat.reduceAdd, Nat.reduceMul, Nat.reduceSub, env0, binV, intV, reduceCtorEq, pickV, nilCheckV, ptrV, unV, Rt, resultsV, allV, resV, calleeV, builtinV, eqV, fieldAddrV, ldVar, stN_own, stN_ownL, Int.reduceToNat, Int.reducePow, IntKind.bits, convV, Int.reduceNeg, Int.reduceAdd, Int.reduceSub, Int.reduceLT, Int.reduceLE, extractV, Int.reduceEq, mkFuncV, stBScrHead, spBScrHead, beq_self_eq_true, tyB0ScrHead, getL_take, glBScrHead]
    refine fine38_ok r2 ?_
    simp (disch := first | omega | ((simp only [nxBScrHead]) <;> omega) | decide) only [↓stepPre, stepPost, ↓W_cond, ↓W_block, ↓reduceIte, Nat.reduceEqDiff, Nat.reduceLT, Nat.reduceLeDiff, ret0, stVar, isTup, Value.cells, Nat.reduceAdd, Nat.reduceMul, Nat.reduceSub, env0, binV, intV, reduceCtorEq, pickV, nilCheckV, ptrV, unV, Rt, resultsV, allV, resV, calleeV, builtinV, eqV, fieldAddrV, ldVar, stN_own, stN_ownL, Int.reduceToNat, Int.reducePow, IntKind.bits, convV, Int.reduceNeg, Int.reduceAdd, Int.reduceSub, Int.reduceLT, Int.reduceLE, extractV, Int.reduceEq, mkFuncV, stBScrHead, spBScrHead, beq_self_eq_true, tyB0ScrHead, getL_take, glBScrHead, Tryz.results50]
    rw [line_flag]
    exact hR t ns (by omega) (fun j hj hjo => by rw [f2 j (by omega) (by omega) hjo, fr1 j (by omega)]; exact m1.heap j hj) h2 l2 b2 (fun h => by rw [v2 (hok 1 h)]; exact congrArg (List.map valL) (key 1 h))
  · simp (disch := first | omega | ((simp only [nxBScrHead]) <;> omega) | decide) only [↓stepPre, stepPost, ↓W_cond, ↓W_block, ↓reduceIte, Nat.reduceEqDiff, Nat.reduceLT, Nat.reduceLeDiff, ret0, stVar, isTup, Value.cells, Nat.reduceAdd, Nat.reduceMul, Nat.reduceSub, env0, binV, intV, reduceCtorEq, pickV, nilCheckV, ptrV, unV, Rt, resultsV, allV, resV, calleeV, builtinV, eqV, fieldAddrV, ldVar, stN_own, stN_ownL, Int.reduceToNat, Int.reducePow, IntKind.bits, convV, Int.reduceNeg, Int.reduceAdd, Int.reduceSub, Int.reduceLT, Int.reduceLE, extractV, Int.reduceEq, mkFuncV, stBScrHead, spBScrHead, beq_self_eq_true, tyB0ScrHead, getL_take, glBScrHead, buildV, fillL, setL, Int.ofNat_zero, Int.ofNat_one, eq_self, hidx2]
    refine open38_ok (word := headW 2) hx hbn fun s1 b m1 r1 => ?_
    have n1 := m1.next
    simp (disch := first | omega | ((simp only [nxBScrHead]) <;> omega) | decide) only [↓stepPre, stepPost, ↓W_cond, ↓W_block, ↓reduceIte, Nat.reduceEqDiff, Nat.reduceLT, Nat.reduceLeDiff, ret0, stVar, isTup, Value.cells, Nat.reduceAdd, Nat.reduceMul, Nat.reduceSub, env0, binV, intV, reduceCtorEq, pickV, nilCheckV, ptrV, unV, Rt, resultsV, allV, resV, calleeV, builtinV, eqV, fieldAddrV, ldVar, stN_own, stN_ownL, Int.reduceToNat, Int.reducePow, IntKind.bits, convV, Int.reduceNeg, Int.reduceAdd, Int.reduceSub, Int.reduceLT, Int.reduceLE, extractV, Int.reduceEq, mkFuncV, stBScrHead, spBScrHead, beq_self_eq_true, tyB0ScrHead, getL_take, glBScrHead, Int.ofNat_zero, Int.ofNat_one, eq_self, build1p]
    have r1' : Rd base s.next s1.next (s1.alloc (.row [.pointer (some ⟨o, 3, none⟩)])) b _ _ := r1.keep (fun j h1 h2 => Ab.heap_alloc_ne _ _ (by omega)) (by simp only [Ab.next_alloc]; omega)
    have hL1 : (s1.alloc (.row [.pointer (some ⟨o, 3, none⟩)])).heap o = .row L := by rw [Ab.heap_alloc_ne _ _ (by omega), m1.heap o hon]; exact hL
    have hp1 : Sl base (s1.alloc (.row [.pointer (some ⟨o, 3, none⟩)])) 1 (.slice (some ⟨s1.next, 0, none⟩) 1 1) (ptrL o [3]) := .newRow (Ab.heap_alloc_new _ _) rfl rfl (by simp [ptrL]) (by omega) (by simp only [Ab.next_alloc]; omega)
    have fr1 : ∀ j, j < s1.next → (s1.alloc (.row [.pointer (some ⟨o, 3, none⟩)])).heap j = s1.heap j := fun j hj => Ab.heap_alloc_ne _ _ (by omega)
    have nx1 := Ab.next_alloc s1 (.row [.pointer (some ⟨o, 3, none⟩)])
    have hb2 : s.next ≤ b := r1.choose_spec.2.2.2.1
    refine read38_ok (offs := [3]) r1' ho (by simp only [Ab.next_alloc]; omega) (.inl hon) hL1 (by simp; omega) (by simp) hp1 (fun j hj => by simp only [inB] at hj; omega) fun t ns n2 f2 r2 h2 l2 b2 v2 => ?_
    simp (disch := first | omega | ((simp only [nxBScrHead]) <;> omega) | decide) only [↓stepPre, stepPost, ↓W_cond, ↓W_block, ↓reduceIte, Nat.reduceEqDiff, Nat.reduceLT, Nat.reduceLeDiff, ret0, stVar, isTup, Value.cells, Nat.reduceAdd, Nat.reduceMul, Nat.reduceSub, env0, binV, intV, reduceCtorEq, pickV, nilCheckV, ptrV, unV, Rt, resultsV, allV, resV, calleeV, builtinV, eqV, fieldAddrV, ldVar, stN_own, stN_ownL, Int.reduceToNat, Int.reducePow, IntKind.bits, convV, Int.reduceNeg, Int.reduceAdd, Int.reduceSub, Int.reduceLT, Int.reduceLE, extractV, Int.reduceEq, mkFuncV, stBScrHead, spBScrHead, beq_self_eq_true, tyB0ScrHead, getL_take, glBScrHead]
    refine fine38_ok r2 ?_
    simp (disch := first | omega | ((simp only [nxBScrHead]) <;> omega) | decide) only [↓stepPre, stepPost, ↓W_cond, ↓W_block, ↓reduceIte, Nat.reduceEqDiff, Nat.reduceLT, Nat.reduceLeDiff, ret0, stVar, isTup, Value.cells, Nat.reduceAdd, Nat.reduceMul, Nat.reduceSub, env0, binV, intV, reduceCtorEq, pickV, nilCheckV, ptrV, unV, Rt, resultsV, allV, resV, calleeV, builtinV, eqV, fieldAddrV, ldVar, stN_own, stN_ownL, Int.reduceToNat, Int.reducePow, IntKind.bits, convV, Int.reduceNeg, Int.reduceAdd, Int.reduceSub, Int.reduceLT, Int.reduceLE, extractV, Int.reduceEq, mkFuncV, stBScrHead, spBScrHead, beq_self_eq_true, tyB0ScrHead, getL_take, glBScrHead, Tryz.results50]
    rw [line_flag]
    exact hR t ns (by omega) (fun j hj hjo => by rw [f2 j (by omega) hjo, fr1 j (by omega)]; exact m1.heap j hj) h2 l2 b2 (fun h => by rw [v2 (hok 2 h)]; exact congrArg (List.map valL) (key 2 h))
  · simp (disch := first | omega | ((simp only [nxBScrHead]) <;> omega) | decide) only [↓stepPre, stepPost, ↓W_cond, ↓W_block, ↓reduceIte, Nat.reduceEqDiff, Nat.reduceLT, Nat.reduceLeDiff, ret0, stVar, isTup, Value.cells, Nat.reduceAdd, Nat.reduceMul, Nat.reduceSub, env0, binV, intV, reduceCtorEq, pickV, nilCheckV, ptrV, unV, Rt, resultsV, allV, resV, calleeV, builtinV, eqV, fieldAddrV, ldVar, stN_own, stN_ownL, Int.reduceToNat, Int.reducePow, IntKind.bits, convV, Int.reduceNeg, Int.reduceAdd, Int.reduceSub, Int.reduceLT, Int.reduceLE, extractV, Int.reduceEq, mkFuncV, stBScrHead, spBScrHead, beq_self_eq_true, tyB0ScrHead, getL_take, glBScrHead, buildV, fillL, setL, Int.ofNat_zero, Int.ofNat_one, eq_self, hidx3]
    refine open38_ok (word := headW 3) hx hbn fun s1 b m1 r1 => ?_
    have n1 := m1.next
    simp (disch := first | omega | ((simp only [nxBScrHead]) <;> omega) | decide) only [↓stepPre, stepPost, ↓W_cond, ↓W_block, ↓reduceIte, Nat.reduceEqDiff, Nat.reduceLT, Nat.reduceLeDiff, ret0, stVar, isTup, Value.cells, Nat.reduceAdd, Nat.reduceMul, Nat.reduceSub, env0, binV, intV, reduceCtorEq, pickV, nilCheckV, ptrV, unV, Rt, resultsV, allV, resV, calleeV, builtinV, eqV, fieldAddrV, ldVar, stN_own, stN_ownL, Int.reduceToNat, Int.reducePow, IntKind.bits, convV, Int.reduceNeg, Int.reduceAdd, Int.reduceSub, Int.reduceLT, Int.reduceLE, extractV, Int.reduceEq, mkFuncV, stBScrHead, spBScrHead, beq_self_eq_true, tyB0ScrHead, getL_take, glBScrHead, Int.ofNat_zero, Int.ofNat_one, eq_self]
    refine W_draw (fun k => k == 10) (fun _ => false) (fun _ => false) (by kernel_rfl) (by kernel_rfl) ?_
    simp (disch := first | omega | ((simp only [nxBScrHead]) <;> omega) | decide) only [↓stepPre, stepPost, ↓W_cond, ↓W_block, ↓reduceIte, Nat.reduceEqDiff, Nat.reduceLT, Nat.reduceLeDiff, ret0, stVar, isTup, Value.cells, Nat.reduceAdd, Nat.reduceMul, Nat.reduceSub, env0, binV, intV, reduceCtorEq, pickV, nilCheckV, ptrV, unV, Rt, resultsV, allV, resV, calleeV, builtinV, eqV, fieldAddrV, ldVar, stN_own, stN_ownL, Int.reduceToNat, Int.reducePow, IntKind.bits, convV, Int.reduceNeg, Int.reduceAdd, Int.reduceSub, Int.reduceLT, Int.reduceLE, extractV, Int.reduceEq, mkFuncV, stBScrHead, spBScrHead, beq_self_eq_true, tyB0ScrHead, getL_take, glBScrHead, build2q]
    have r1' : Rd base s.next s1.next (s1.alloc (.row [.pointer (some ⟨o, 4, none⟩), .pointer (some ⟨o, 5, none⟩)])) b _ _ := r1.keep (fun j h1 h2 => Ab.heap_alloc_ne _ _ (by omega)) (by simp only [Ab.next_alloc]; omega)
    have hL1 : (s1.alloc (.row [.pointer (some ⟨o, 4, none⟩), .pointer (some ⟨o, 5, none⟩)])).heap o = .row L := by rw [Ab.heap_alloc_ne _ _ (by omega), m1.heap o hon]; exact hL
    have hp1 : Sl base (s1.alloc (.row [.pointer (some ⟨o, 4, none⟩), .pointer (some ⟨o, 5, none⟩)])) 1 (.slice (some ⟨s1.next, 0, none⟩) 2 2) (ptrL o [4, 5]) := .newRow (Ab.heap_alloc_new _ _) rfl rfl (by simp [ptrL]) (by omega) (by simp only [Ab.next_alloc]; omega)
    have fr1 : ∀ j, j < s1.next → (s1.alloc (.row [.pointer (some ⟨o, 4, none⟩), .pointer (some ⟨o, 5, none⟩)])).heap j = s1.heap j := fun j hj => Ab.heap_alloc_ne _ _ (by omega)
    have nx1 := Ab.next_alloc s1 (.row [.pointer (some ⟨o, 4, none⟩), .pointer (some ⟨o, 5, none⟩)])
    have hb2 : s.next ≤ b := r1.choose_spec.2.2.2.1
    refine long38_ok (offs := [4, 5]) r1' ho (by simp only [Ab.next_alloc]; omega) (.inl hon) hL1 (by simp; omega) (by simp) hp1 (fun j hj => by simp only [inB] at hj; omega) fun t ns n2 f2 r2 h2 l2 b2 v2 => ?_
    refine ⟨.inr ⟨rfl, by omega, fun j hj => by cases hj⟩, ?_⟩
    simp (disch := first | omega | ((simp only [nxBScrHead]) <;> omega) | decide) only [↓stepPre, stepPost, ↓W_cond, ↓W_block, ↓reduceIte, Nat.reduceEqDiff, Nat.reduceLT, Nat.reduceLeDiff, ret0, stVar, isTup, Value.cells, Nat.reduceAdd, Nat.reduceMul, Nat.reduceSub, env0, binV, intV, reduceCtorEq, pickV, nilCheckV, ptrV, unV, Rt, resultsV, allV, resV, calleeV, builtinV, eqV, fieldAddrV, ldVar, stN_own, stN_ownL, Int.reduceToNat, Int.reducePow, IntKind.bits, convV, Int.reduceNeg, Int.reduceAdd, Int.reduceSub, Int.reduceLT, Int.reduceLE, extractV, Int.reduceEq, mkFuncV, stBScrHead, spBScrHead, beq_self_eq_true, tyB0ScrHead, getL_take, glBScrHead]
    refine fine38_ok r2 ?_
    simp (disch := first | omega | ((simp only [nxBScrHead]) <;> omega) | decide) only [↓stepPre, stepPost, ↓W_cond, ↓W_block, ↓reduceIte, Nat.reduceEqDiff, Nat.reduceLT, Nat.reduceLeDiff, ret0, stVar, isTup, Value.cells, Nat.reduceAdd, Nat.reduceMul, Nat.reduceSub, env0, binV, intV, reduceCtorEq, pickV, nilCheckV, ptrV, unV, Rt, resultsV, allV, resV, calleeV, builtinV, eqV, fieldAddrV, ldVar, stN_own, stN_ownL, Int.reduceToNat, Int.reducePow, IntKind.bits, convV, Int.reduceNeg, Int.reduceAdd, Int.reduceSub, Int.reduceLT, Int.reduceLE, extractV, Int.reduceEq, mkFuncV, stBScrHead, spBScrHead, beq_self_eq_true, tyB0ScrHead, getL_take, glBScrHead, Tryz.results50]
    rw [line_flag]
    exact hR t ns (by omega) (fun j hj hjo => by rw [f2 j (by omega) (by omega) hjo, fr1 j (by omega)]; exact m1.heap j hj) h2 l2 b2 (fun h => by rw [v2 (hok 3 h)]; exact congrArg (List.map valL) (key 3 h))
  · simp (disch := first | omega | ((simp only [nxBScrHead]) <;> omega) | decide) only [↓stepPre, stepPost, ↓W_cond, ↓W_block, ↓reduceIte, Nat.reduceEqDiff, Nat.reduceLT, Nat.reduceLeDiff, ret0, stVar, isTup, Value.cells, Nat.reduceAdd, Nat.reduceMul, Nat.reduceSub, env0, binV, intV, reduceCtorEq, pickV, nilCheckV, ptrV, unV, Rt, resultsV, allV, resV, calleeV, builtinV, eqV, fieldAddrV, ldVar, stN_own, stN_ownL, Int.reduceToNat, Int.reducePow, IntKind.bits, convV, Int.reduceNeg, Int.reduceAdd, Int.reduceSub, Int.reduceLT, Int.reduceLE, extractV, Int.reduceEq, mkFuncV, stBScrHead, spBScrHead, beq_self_eq_true, tyB0ScrHead, getL_take, glBScrHead, buildV, fillL, setL, Int.ofNat_zero, Int.ofNat_one, eq_self, hidx4]
    refine open38_ok (word := headW 4) hx hbn fun s1 b m1 r1 => ?_
    have n1 := m1.next
    simp (disch := first | omega | ((simp only [nxBScrHead]) <;> omega) | decide) only [↓stepPre, stepPost, ↓W_cond, ↓W_block, ↓reduceIte, Nat.reduceEqDiff, Nat.reduceLT, Nat.reduceLeDiff, ret0, stVar, isTup, Value.cells, Nat.reduceAdd, Nat.reduceMul, Nat.reduceSub, env0, binV, intV, reduceCtorEq, pickV, nilCheckV, ptrV, unV, Rt, resultsV, allV, resV, calleeV, builtinV, eqV, fieldAddrV, ldVar, stN_own, stN_ownL, Int.reduceToNat, Int.reducePow, IntKind.bits, convV, Int.reduceNeg, Int.reduceAdd, Int.reduceSub, Int.reduceLT, Int.reduceLE, extractV, Int.reduceEq, mkFuncV, stBScrHead, spBScrHead, beq_self_eq_true, tyB0ScrHead, getL_take, glBScrHead, Int.ofNat_zero, Int.ofNat_one, eq_self, build1q]
    have r1' : Rd base s.next s1.next (s1.alloc (.row [.pointer (some ⟨o, 6, none⟩)])) b _ _ := r1.keep (fun j h1 h2 => Ab.heap_alloc_ne _ _ (by omega)) (by simp only [Ab.next_alloc]; omega)
    have hL1 : (s1.alloc (.row [.pointer (some ⟨o, 6, none⟩)])).heap o = .row L := by rw [Ab.heap_alloc_ne _ _ (by omega), m1.heap o hon]; exact hL
    have hp1 : Sl base (s1.alloc (.row [.pointer (some ⟨o, 6, none⟩)])) 1 (.slice (some ⟨s1.next, 0, none⟩) 1 1) (ptrL o [6]) := .newRow (Ab.heap_alloc_new _ _) rfl rfl (by simp [ptrL]) (by omega) (by simp only [Ab.next_alloc]; omega)
    have fr1 : ∀ j, j < s1.next → (s1.alloc (.row [.pointer (some ⟨o, 6, none⟩)])).heap j = s1.heap j := fun j hj => Ab.heap_alloc_ne _ _ (by omega)
    have nx1 := Ab.next_alloc s1 (.row [.pointer (some ⟨o, 6, none⟩)])
    have hb2 : s.next ≤ b := r1.choose_spec.2.2.2.1
    refine long38_ok (offs := [6]) r1' ho (by simp only [Ab.next_alloc]; omega) (.inl hon) hL1 (by simp; omega) (by simp) hp1 (fun j hj => by simp only [inB] at hj; omega) fun t ns n2 f2 r2 h2 l2 b2 v2 => ?_
    simp (disch := first | omega | ((simp only [nxBScrHead]) <;> omega) | decide) only [↓stepPre, stepPost, ↓W_cond, ↓W_block, ↓reduceIte, Nat.reduceEqDiff, Nat.reduceLT, Nat.reduceLeDiff, ret0, stVar, isTup, Value.cells, Nat.reduceAdd, Nat.reduceMul, Nat.reduceSub, env0, binV, intV, reduceCtorEq, pickV, nilCheckV, ptrV, unV, Rt, resultsV, allV, resV, calleeV, builtinV, eqV, fieldAddrV, ldVar, stN_own, stN_ownL, Int.reduceToNat, Int.reducePow, IntKind.bits, convV, Int.reduceNeg, Int.reduceAdd, Int.reduceSub, Int.reduceLT, Int.reduceLE, extractV, Int.reduceEq, mkFuncV, stBScrHead, spBScrHead, beq_self_eq_true, tyB0ScrHead, getL_take, glBScrHead]
    refine fine38_ok r2 ?_
    simp (disch := first | omega | ((simp only [nxBScrHead]) <;> omega) | decide) only [↓stepPre, stepPost, ↓W_cond, ↓W_block, ↓reduceIte, Nat.reduceEqDiff, Nat.reduceLT, Nat.reduceLeDiff, ret0, stVar, isTup, Value.cells, Nat.reduceAdd, Nat.reduceMul, Nat.reduceSub, env0, binV, intV, reduceCtorEq, pickV, nilCheckV, ptrV, unV, Rt, resultsV, allV, resV, calleeV, builtinV, eqV, fieldAddrV, ldVar, stN_own, stN_ownL, Int.reduceToNat, Int.reducePow, IntKind.bits, convV, Int.reduceNeg, Int.reduceAdd, Int.reduceSub, Int.reduceLT, Int.reduceLE, extractV, Int.reduceEq, mkFuncV, stBScrHead, spBScrHead, beq_self_eq_true, tyB0ScrHead, getL_take, glBScrHead, Tryz.results50]
    rw [line_flag]
    exact hR t ns (by omega) (fun j hj hjo => by rw [f2 j (by omega) (by omega) hjo, fr1 j (by omega)]; exact m1.heap j hj) h2 l2 b2 (fun h => by rw [v2 (hok 4 h)]; exact congrArg (List.map valL) (key 4 h))
  · simp (disch := first | omega | ((simp only [nxBScrHead]) <;> omega) | decide) only [↓stepPre, stepPost, ↓W_cond, ↓W_block, ↓reduceIte, Nat.reduceEqDiff, Nat.reduceLT, Nat.reduceLeDiff, ret0, stVar, isTup, Value.cells, Nat.reduceAdd, Nat.reduceMul, Nat.reduceSub, env0, binV, intV, reduceCtorEq, pickV, nilCheckV, ptrV, unV, Rt, resultsV, allV, resV, calleeV, builtinV, eqV, fieldAddrV, ldVar, stN_own, stN_ownL, Int.reduceToNat, Int.reducePow, IntKind.bits, convV, Int.reduceNeg, Int.reduceAdd, Int.reduceSub, Int.reduceLT, Int.reduceLE, extractV, Int.reduceEq, mkFuncV, stBScrHead, spBScrHead, beq_self_eq_true, tyB0ScrHead, getL_take, glBScrHead, buildV, fillL, setL, Int.ofNat_zero, Int.ofNat_one, eq_self, hidx5]
    refine open38_ok (word := headW 5) hx hbn fun s1 b m1 r1 => ?_
    have n1 := m1.next
    simp (disch := first | omega | ((simp only [nxBScrHead]) <;> omega) | decide) only [↓stepPre, stepPost, ↓W_cond, ↓W_block, ↓reduceIte, Nat.reduceEqDiff, Nat.reduceLT, Nat.reduceLeDiff, ret0, stVar, isTup, Value.cells, Nat.reduceAdd, Nat.reduceMul, Nat.reduceSub, env0, binV, intV, reduceCtorEq, pickV, nilCheckV, ptrV, unV, Rt, resultsV, allV, resV, calleeV, builtinV, eqV, fieldAddrV, ldVar, stN_own, stN_ownL, Int.reduceToNat, Int.reducePow, IntKind.bits, convV, Int.reduceNeg, Int.reduceAdd, Int.reduceSub, Int.reduceLT, Int.reduceLE, extractV, Int.reduceEq, mkFuncV, stBScrHead, spBScrHead, beq_self_eq_true, tyB0ScrHead, getL_take, glBScrHead, Int.ofNat_zero, Int.ofNat_one, eq_self]
    refine W_draw (fun k => k == 11) (fun _ => false) (fun _ => false) (by kernel_rfl) (by kernel_rfl) ?_
    simp (disch := first | omega | ((simp only [nxBScrHead]) <;> omega) | decide) only [↓stepPre, stepPost, ↓W_cond, ↓W_block, ↓reduceIte, Nat.reduceEqDiff, Nat.reduceLT, Nat.reduceLeDiff, ret0, stVar, isTup, Value.cells, Nat.reduceAdd, Nat.reduceMul, Nat.reduceSub, env0, binV, intV, reduceCtorEq, pickV, nilCheckV, ptrV, unV, Rt, resultsV, allV, resV, calleeV, builtinV, eqV, fieldAddrV, ldVar, stN_own, stN_ownL, Int.reduceToNat, Int.reducePow, IntKind.bits, convV, Int.reduceNeg, Int.reduceAdd, Int.reduceSub, Int.reduceLT, Int.reduceLE, extractV, Int.reduceEq, mkFuncV, stBScrHead, spBScrHead, beq_self_eq_true, tyB0ScrHead, getL_take, glBScrHead, build3p]
    have r1' : Rd base s.next s1.next (s1.alloc (.row [.pointer (some ⟨o, 7, none⟩), .pointer (some ⟨o, 8, none⟩), .pointer (some ⟨o, 9, none⟩)])) b _ _ := r1.keep (fun j h1 h2 => Ab.heap_alloc_ne _ _ (by omega)) (by simp only [Ab.next_alloc]; omega)
    have hL1 : (s1.alloc (.row [.pointer (some ⟨o, 7, none⟩), .pointer (some ⟨o, 8, none⟩), .pointer (some ⟨o, 9, none⟩)])).heap o = .row L := by rw [Ab.heap_alloc_ne _ _ (by omega), m1.heap o hon]; exact hL
    have hp1 : Sl base (s1.alloc (.row [.pointer (some ⟨o, 7, none⟩), .pointer (some ⟨o, 8, none⟩), .pointer (some ⟨o, 9, none⟩)])) 1 (.slice (some ⟨s1.next, 0, none⟩) 3 3) (ptrL o [7, 8, 9]) := .newRow (Ab.heap_alloc_new _ _) rfl rfl (by simp [ptrL]) (by omega) (by simp only [Ab.next_alloc]; omega)
    have fr1 : ∀ j, j < s1.next → (s1.alloc (.row [.pointer (some ⟨o, 7, none⟩), .pointer (some ⟨o, 8, none⟩), .pointer (some ⟨o, 9, none⟩)])).heap j = s1.heap j := fun j hj => Ab.heap_alloc_ne _ _ (by omega)
    have nx1 := Ab.next_alloc s1 (.row [.pointer (some ⟨o, 7, none⟩), .pointer (some ⟨o, 8, none⟩), .pointer (some ⟨o, 9, none⟩)])
    have hb2 : s.next ≤ b := r1.choose_spec.2.2.2.1
    refine read38_ok (offs := [7, 8, 9]) r1' ho (by simp only [Ab.next_alloc]; omega) (.inl hon) hL1 (by simp; omega) (by simp) hp1 (fun j hj => by simp only [inB] at hj; omega) fun t ns n2 f2 r2 h2 l2 b2 v2 => ?_
    refine ⟨.inr ⟨rfl, by omega, fun j hj => by cases hj⟩, ?_⟩
    simp (disch := first | omega | ((simp only [nxBScrHead]) <;> omega) | decide) only [↓stepPre, stepPost, ↓W_cond, ↓W_block, ↓reduceIte, Nat.reduceEqDiff, Nat.reduceLT, Nat.reduceLeDiff, ret0, stVar, isTup, Value.cells, Nat.reduceAdd, Nat.reduceMul, Nat.reduceSub, env0, binV, intV, reduceCtorEq, pickV, nilCheckV, ptrV, unV, Rt, resultsV, allV, resV, calleeV, builtinV, eqV, fieldAddrV, ldVar, stN_own, stN_ownL, Int.reduceToNat, Int.reducePow, IntKind.bits, convV, Int.reduceNeg, Int.reduceAdd, Int.reduceSub, Int.reduceLT, Int.reduceLE, extractV, Int.reduceEq, mkFuncV, stBScrHead, spBScrHead, beq_self_eq_true, tyB0ScrHead, getL_take, glBScrHead]
    refine fine38_ok r2 ?_
    simp (disch := first | omega | ((simp only [nxBScrHead]) <;> omega) | decide) only [↓stepPre, stepPost, ↓W_cond, ↓W_block, ↓reduceIte, Nat.reduceEqDiff, Nat.reduceLT, Nat.reduceLeDiff, ret0, stVar, isTup, Value.cells, Nat.reduceAdd, Nat.reduceMul, Nat.reduceSub, env0, binV, intV, reduceCtorEq, pickV, nilCheckV, ptrV, unV, Rt, resultsV, allV, resV, calleeV, builtinV, eqV, fieldAddrV, ldVar, stN_own, stN_ownL, Int.reduceToNat, Int.reducePow, IntKind.bits, convV, Int.reduceNeg, Int.reduceAdd, Int.reduceSub, Int.reduceLT, Int.reduceLE, extractV, Int.reduceEq, mkFuncV, stBScrHead, spBScrHead, beq_self_eq_true, tyB0ScrHead, getL_take, glBScrHead, Tryz.results50]
    rw [line_flag]
    exact hR t ns (by omega) (fun j hj hjo => by rw [f2 j (by omega) hjo, fr1 j (by omega)]; exact m1.heap j hj) h2 l2 b2 (fun h => by rw [v2 (hok 5 h)]; exact congrArg (List.map valL) (key 5 h))
end Go.Proofs.YthjpfllmecpliaaGreatDoor
/- A stream's line, read (the package script): as a contract. -/
set_option linter.all false
set_option maxRecDepth 20000
namespace Go.Proofs.YthjpfllmecpliaaGreatDoor
open Go Go.Ab
def spBScrStream := And.intro @Nat.le_refl (And.intro @true_and (And.intro @and_true (And.intro @Nat.add_zero (And.intro @Nat.zero_add (And.intro @Bool.not_true (And.intro @Bool.not_false (And.intro @ne_eq.{1} (And.intro @not_false_eq_true (And.intro @not_true_eq_false (And.intro @decide_true (And.intro @decide_false (@Int.fdiv_eq_ediv_of_nonneg))))))))))))
def nxBScrStream := And.intro @Ab.next_alloc (And.intro @Ab.next_upd (And.intro @List.length_cons.{0} (And.intro @List.length_nil.{0} (And.intro @ne_eq.{1} (And.intro not_true_eq_false not_false_eq_true)))))
def tyB0ScrStream := And.intro @Ty.t9 (And.intro @Tryz.underlying9 (And.intro @Ty.t50 (And.intro @Tryz.underlying50 (And.intro @Ty.t58 (And.intro @Tryz.underlying58 (And.intro @Ty.t56 (And.intro @Tryz.underlying56 (And.intro @Ty.t128 (And.intro @Tryz.underlying128 (And.intro @Ty.t118 (And.intro @Tryz.underlying118 (And.intro @Ty.t140 (And.intro @Tryz.underlying140 (And.intro @Ty.t143 (And.intro @Tryz.underlying143 (And.intro @Ty.t122 (And.intro @Tryz.underlying122 (And.intro @Ty.t124 (And.intro @Tryz.underlying124 (And.intro @Ty.t5 (And.intro @Tryz.underlying5 (And.intro @Ty.t2 (And.intro @Tryz.underlying2 (And.intro @Ty.t3 (And.intro @Tryz.underlying3 (And.intro @Ty.t4 @Tryz.underlying4))))))))))))))))))))))))))
def stBScrStream := And.intro @List.size_toArray.{0} (And.intro @List.length_cons.{0} (And.intro @List.length_nil.{0} (And.intro @List.set_cons_zero.{0} (And.intro @List.set_cons_succ.{0} (And.intro @List.getD_cons_zero.{0} (And.intro @List.getD_cons_succ.{0} (And.intro @List.getElem?_cons_succ.{0} (And.intro @List.getElem?_cons_zero.{0} (And.intro @List.map_cons.{0,0} (And.intro @List.map_nil.{0,0} (And.intro @Option.isNone_none.{0} (And.intro @Option.isNone_some.{0} (And.intro @Option.map_some.{0,0} (And.intro @Option.map_none.{0,0} (And.intro @List.cons_append.{0} (And.intro @List.nil_append.{0} (And.intro @List.append_nil.{0} (And.intro @Array.toList_append.{0} (And.intro @List.toList_toArray.{0} (And.intro @Int.cast_ofNat_Int (And.intro @Option.isSome_some.{0} (And.intro @List.getElem?_toArray.{0} (And.intro @List.map_toArray.{0,0} (@Nat.min_eq_left))))))))))))))))))))))))
def glBScrStream := And.intro @List.drop_zero.{0} (And.intro @List.drop_succ_cons.{0} (And.intro @List.take_succ_cons.{0} (And.intro @List.take_zero.{0} (@List.take_nil.{0}))))
variable {base : Nat} [Bok base] {s : St} {R : Value → St → Prop}
def placeF (w : List UInt8) : List (List UInt8) → Nat → Option Nat
  | [], _ => none
  | y :: r, i => if w = y then some i else placeF w r (i + 1)
def placeN (tab : List (List UInt8)) (w : List UInt8) : Nat := (placeF w tab 0).getD 0
theorem placeF_le (w : List UInt8) : ∀ (tab : List (List UInt8)) (i k : Nat), placeF w tab i = some k → k < i + tab.length := by
  intro tab
  induction tab with
  | nil => intro i k h; cases h
  | cons y r ih =>
    intro i k h
    unfold placeF at h
    split at h
    · cases h; simp
    · have := ih _ _ h; simp only [List.length_cons]; omega
theorem placeN_le (tab : List (List UInt8)) (w : List UInt8) (h : tab ≠ []) : placeN tab w < tab.length := by
  unfold placeN
  cases hp : placeF w tab 0 with
  | none => exact List.length_pos_iff.2 h
  | some k => have := placeF_le w tab 0 k hp; simpa using this
theorem place38_ok {v : Value} {tab : List (List UInt8)} {w : List UInt8} (hs : Sl base s 1 v (strL tab)) (hn : tab.length ≤ 1000000) (hR : R (.int .i64 (placeN tab w : Int)) s) :
    WC Tryz.prog base 76 [v, .string (strB w)] s R := by
  refine WC_open Tryz.func76 rfl ?_
  simp (disch := first | omega | ((simp only [nxBScrStream]) <;> omega) | decide) only [↓stepPre, stepPost, ↓W_cond, ↓W_block, ↓reduceIte, Nat.reduceEqDiff, Nat.reduceLT, Nat.reduceLeDiff, ret0, stVar, isTup, Value.cells, Nat.reduceAdd, Nat.reduceMul, Nat.reduceSub, env0, binV, intV, reduceCtorEq, pickV, nilCheckV, ptrV, unV, Rt, resultsV, allV, resV, calleeV, builtinV, eqV, fieldAddrV, ldVar, stN_own, stN_ownL, Int.reduceToNat, Int.reducePow, IntKind.bits, convV, Int.reduceNeg, Int.reduceAdd, Int.reduceSub, Int.reduceLT, Int.reduceLE, extractV, Int.reduceEq, mkFuncV, stBScrStream, spBScrStream, beq_self_eq_true, tyB0ScrStream, getL_take, glBScrStream]
  refine WC_open Tryz.func94 rfl ?_
  have hlen := hs.len (P := Tryz.prog) (ts := []) Ty.elem50 Ty.arr50
  rw [strL_len] at hlen
  have hmx : ∀ k : Int, maxB [.int .i64 k, .int .i64 0] = some (.int .i64 (max k 0)) := fun k => by
    simp only [maxB, foldV, maxV]
    split <;> congr <;> omega
  simp (disch := first | omega | ((simp only [nxBScrStream]) <;> omega) | decide) only [↓stepPre, stepPost, ↓W_cond, ↓W_block, ↓reduceIte, Nat.reduceEqDiff, Nat.reduceLT, Nat.reduceLeDiff, ret0, stVar, isTup, Value.cells, Nat.reduceAdd, Nat.reduceMul, Nat.reduceSub, env0, binV, intV, reduceCtorEq, pickV, nilCheckV, ptrV, unV, Rt, resultsV, allV, resV, calleeV, builtinV, eqV, fieldAddrV, ldVar, stN_own, stN_ownL, Int.reduceToNat, Int.reducePow, IntKind.bits, convV, Int.reduceNeg, Int.reduceAdd, Int.reduceSub, Int.reduceLT, Int.reduceLE, extractV, Int.reduceEq, mkFuncV, stBScrStream, spBScrStream, beq_self_eq_true, tyB0ScrStream, getL_take, glBScrStream, hlen]
  refine W_loop_inv tab.length (fun i e1 t => t = s ∧ e1 0 = v ∧ e1 1 = .string (strB w) ∧ e1 7 = .int .i64 (tab.length : Int) ∧ e1 8 = .int .i64 (i : Int) ∧ placeF w tab 0 = placeF w (tab.drop i) i)
    (fun x e1 t => t = s ∧ ((x = .exit 0 ∧ placeF w tab 0 = none) ∨ (x = .ret ∧ ∃ i : Nat, e1 4 = .int .i64 (i : Int) ∧ placeF w tab 0 = some i))) ?_ ?_ ?_
  rotate_left
  · exact ⟨rfl, rfl, rfl, rfl, rfl, rfl⟩
  · rintro x e1 t ⟨rfl, ⟨rfl, hp⟩ | ⟨rfl, i, h4, hp⟩⟩
    · simp (disch := first | omega | ((simp only [nxBScrStream]) <;> omega) | decide) only [↓stepPre, stepPost, ↓W_cond, ↓W_block, ↓reduceIte, Nat.reduceEqDiff, Nat.reduceLT, Nat.reduceLeDiff, ret0, stVar, isTup, Value.cells, Nat.reduceAdd, Nat.reduceMul, Nat.reduceSub, env0, binV, intV, reduceCtorEq, pickV, nilCheckV, ptrV, unV, Rt, resultsV, allV, resV, calleeV, builtinV, eqV, fieldAddrV, ldVar, stN_own, stN_ownL, Int.reduceToNat, Int.reducePow, IntKind.bits, convV, Int.reduceNeg, Int.reduceAdd, Int.reduceSub, Int.reduceLT, Int.reduceLE, extractV, Int.reduceEq, mkFuncV, stBScrStream, spBScrStream, beq_self_eq_true, tyB0ScrStream, getL_take, glBScrStream, hmx, Tryz.results94, Tryz.results76]
      have : placeN tab w = 0 := by unfold placeN; rw [hp]; rfl
      rw [this] at hR; exact hR
    · simp (disch := first | omega | ((simp only [nxBScrStream]) <;> omega) | decide) only [↓stepPre, stepPost, ↓W_cond, ↓W_block, ↓reduceIte, Nat.reduceEqDiff, Nat.reduceLT, Nat.reduceLeDiff, ret0, stVar, isTup, Value.cells, Nat.reduceAdd, Nat.reduceMul, Nat.reduceSub, env0, binV, intV, reduceCtorEq, pickV, nilCheckV, ptrV, unV, Rt, resultsV, allV, resV, calleeV, builtinV, eqV, fieldAddrV, ldVar, stN_own, stN_ownL, Int.reduceToNat, Int.reducePow, IntKind.bits, convV, Int.reduceNeg, Int.reduceAdd, Int.reduceSub, Int.reduceLT, Int.reduceLE, extractV, Int.reduceEq, mkFuncV, stBScrStream, spBScrStream, beq_self_eq_true, tyB0ScrStream, getL_take, glBScrStream, h4, hmx, Tryz.results94, Tryz.results76]
      have : placeN tab w = i := by unfold placeN; rw [hp]; rfl
      rw [this] at hR
      have e : max (i : Int) 0 = i := by omega
      rw [e]; exact hR
  rintro i e1 t hi ⟨rfl, q0, q1, q7, q8, hp⟩
  by_cases hil : i < tab.length
  rotate_left
  · have g1 : ¬ (i : Int) < (tab.length : Int) := by omega
    rw [List.drop_of_length_le (by omega)] at hp
    simp (disch := first | omega | ((simp only [nxBScrStream]) <;> omega) | decide) only [↓stepPre, stepPost, ↓W_cond, ↓W_block, ↓reduceIte, Nat.reduceEqDiff, Nat.reduceLT, Nat.reduceLeDiff, ret0, stVar, isTup, Value.cells, Nat.reduceAdd, Nat.reduceMul, Nat.reduceSub, env0, binV, intV, reduceCtorEq, pickV, nilCheckV, ptrV, unV, Rt, resultsV, allV, resV, calleeV, builtinV, eqV, fieldAddrV, ldVar, stN_own, stN_ownL, Int.reduceToNat, Int.reducePow, IntKind.bits, convV, Int.reduceNeg, Int.reduceAdd, Int.reduceSub, Int.reduceLT, Int.reduceLE, extractV, Int.reduceEq, mkFuncV, stBScrStream, spBScrStream, beq_self_eq_true, tyB0ScrStream, getL_take, glBScrStream, q0, q1, q7, q8, g1]
    exact .inl hp
  have g1 : (i : Int) < (tab.length : Int) := by omega
  have hix := hs.index (P := Tryz.prog) (k := .i64) (i := (i : Int)) Ty.elem50 Ty.siz9 (by omega) (by rw [strL_len]; omega)
  rw [Int.toNat_natCast] at hix
  have hld := hs.load1 (P := Tryz.prog) (strL_at hil) Ty.agg9 Ty.siz9
  rw [List.drop_eq_getElem_cons hil, placeF] at hp
  generalize tab[i] = y at hld hp
  by_cases hw : w = y
  · subst hw
    rw [if_pos rfl] at hp
    simp (disch := first | omega | ((simp only [nxBScrStream]) <;> omega) | decide) only [↓stepPre, stepPost, ↓W_cond, ↓W_block, ↓reduceIte, Nat.reduceEqDiff, Nat.reduceLT, Nat.reduceLeDiff, ret0, stVar, isTup, Value.cells, Nat.reduceAdd, Nat.reduceMul, Nat.reduceSub, env0, binV, intV, reduceCtorEq, pickV, nilCheckV, ptrV, unV, Rt, resultsV, allV, resV, calleeV, builtinV, eqV, fieldAddrV, ldVar, stN_own, stN_ownL, Int.reduceToNat, Int.reducePow, IntKind.bits, convV, Int.reduceNeg, Int.reduceAdd, Int.reduceSub, Int.reduceLT, Int.reduceLE, extractV, Int.reduceEq, mkFuncV, stBScrStream, spBScrStream, beq_self_eq_true, tyB0ScrStream, getL_take, glBScrStream, q0, q1, q7, q8, g1, hix, hld, eqlStrV, eq_self]
    exact .inr ⟨i, rfl, hp⟩
  · rw [if_neg hw] at hp
    simp (disch := first | omega | ((simp only [nxBScrStream]) <;> omega) | decide) only [↓stepPre, stepPost, ↓W_cond, ↓W_block, ↓reduceIte, Nat.reduceEqDiff, Nat.reduceLT, Nat.reduceLeDiff, ret0, stVar, isTup, Value.cells, Nat.reduceAdd, Nat.reduceMul, Nat.reduceSub, env0, binV, intV, reduceCtorEq, pickV, nilCheckV, ptrV, unV, Rt, resultsV, allV, resV, calleeV, builtinV, eqV, fieldAddrV, ldVar, stN_own, stN_ownL, Int.reduceToNat, Int.reducePow, IntKind.bits, convV, Int.reduceNeg, Int.reduceAdd, Int.reduceSub, Int.reduceLT, Int.reduceLE, extractV, Int.reduceEq, mkFuncV, stBScrStream, spBScrStream, beq_self_eq_true, tyB0ScrStream, getL_take, glBScrStream, q0, q1, q7, q8, g1, hix, hld, eqlStrV, hw]
    exact ⟨hil, by simp, hp⟩
/-- A stream's line, and what it says. -/
def streamB (x : List UInt8) : Bool :=
  let t := (partW 32 x).tail
  let t3 := (t.drop 2).tail
  !(decide (¬ (partW 32 x).headD [] = streamW) || !okW t 2 || (t.drop 2).isEmpty || !okW t3 2 || !okW (t3.drop 2) 2) && ((t3.drop 2).drop 2).isEmpty && decide (0 < placeN classesL ((t.drop 2).headD []))
def streamV (x : List UInt8) : Sm :=
  let t := (partW 32 x).tail
  let t3 := (t.drop 2).tail
  ⟨valL (t.getD 0 []), valL (t.getD 1 []), placeN classesL ((t.drop 2).headD []), valL (t3.getD 0 []), valL (t3.getD 1 []), valL ((t3.drop 2).getD 0 []), valL ((t3.drop 2).getD 1 [])⟩
theorem two_ns {ns : List Nat} (h : ns.length = 2) : ∃ a b, ns = [a, b] := by
  match ns, h with
  | [a, b], _ => exact ⟨a, b, rfl⟩
theorem two_val {ws : List (List UInt8)} {a b : Nat} (hk : okW ws 2 = true) (h : [a, b] = (ws.take 2).map valL) : a = valL (ws.getD 0 []) ∧ b = valL (ws.getD 1 []) := by
  unfold okW at hk
  simp only [Bool.and_eq_true, decide_eq_true_eq] at hk
  match ws, hk.1 with
  | x :: y :: r, _ => simpa using h
theorem streamOf_ok {x : List UInt8} (hx : x.length ≤ 1000000) (hL : LaidOk base s) (hbn : base ≤ s.next)
    (hR : ∀ s' (X : Sm), Mild s s' → (streamB x = true → X = streamV x) → R (.tuple #[.agg X.c.toArray, .bool (streamB x)]) s') :
    WC Tryz.prog base 51 [.string (strB x)] s R := by
  refine WC_open Tryz.func51 rfl ?_
  have h5 := Bok.le5 (base := base)
  simp (disch := first | omega | ((simp only [nxBScrStream]) <;> omega) | decide) only [↓stepPre, stepPost, ↓W_cond, ↓W_block, ↓reduceIte, Nat.reduceEqDiff, Nat.reduceLT, Nat.reduceLeDiff, ret0, stVar, isTup, Value.cells, Nat.reduceAdd, Nat.reduceMul, Nat.reduceSub, env0, binV, intV, reduceCtorEq, pickV, nilCheckV, ptrV, unV, Rt, resultsV, allV, resV, calleeV, builtinV, eqV, fieldAddrV, ldVar, stN_own, stN_ownL, Int.reduceToNat, Int.reducePow, IntKind.bits, convV, Int.reduceNeg, Int.reduceAdd, Int.reduceSub, Int.reduceLT, Int.reduceLE, extractV, Int.reduceEq, mkFuncV, stBScrStream, spBScrStream, beq_self_eq_true, tyB0ScrStream, getL_take, glBScrStream]
  have M_s2 : Mild s ((s.alloc (.row [.int .i64 0, .int .i64 0, .int .i64 0, .int .i64 0, .int .i64 0, .int .i64 0, .int .i64 0])).alloc (.row [.int .i64 0, .int .i64 0, .int .i64 0, .int .i64 0, .int .i64 0, .int .i64 0, .int .i64 0])) := (Mild.alloc s _).alloc'
  have z_s2 : ((s.alloc (.row [.int .i64 0, .int .i64 0, .int .i64 0, .int .i64 0, .int .i64 0, .int .i64 0, .int .i64 0])).alloc (.row [.int .i64 0, .int .i64 0, .int .i64 0, .int .i64 0, .int .i64 0, .int .i64 0, .int .i64 0])).heap s.next = .row [.int .i64 0, .int .i64 0, .int .i64 0, .int .i64 0, .int .i64 0, .int .i64 0, .int .i64 0] := (Ab.heap_alloc_ne _ _ (by simp only [Ab.next_alloc]; omega)).trans (Ab.heap_alloc_new _ _)
  have q_s2 : ((s.alloc (.row [.int .i64 0, .int .i64 0, .int .i64 0, .int .i64 0, .int .i64 0, .int .i64 0, .int .i64 0])).alloc (.row [.int .i64 0, .int .i64 0, .int .i64 0, .int .i64 0, .int .i64 0, .int .i64 0, .int .i64 0])).heap (s.next + 1) = .row [.int .i64 0, .int .i64 0, .int .i64 0, .int .i64 0, .int .i64 0, .int .i64 0, .int .i64 0] := Ab.heap_alloc_new (s.alloc (.row [.int .i64 0, .int .i64 0, .int .i64 0, .int .i64 0, .int .i64 0, .int .i64 0, .int .i64 0])) (.row [.int .i64 0, .int .i64 0, .int .i64 0, .int .i64 0, .int .i64 0, .int .i64 0, .int .i64 0])
  have n_s2 : ((s.alloc (.row [.int .i64 0, .int .i64 0, .int .i64 0, .int .i64 0, .int .i64 0, .int .i64 0, .int .i64 0])).alloc (.row [.int .i64 0, .int .i64 0, .int .i64 0, .int .i64 0, .int .i64 0, .int .i64 0, .int .i64 0])).next = s.next + 2 := rfl
  generalize (s.alloc (.row [.int .i64 0, .int .i64 0, .int .i64 0, .int .i64 0, .int .i64 0, .int .i64 0, .int .i64 0])).alloc (.row [.int .i64 0, .int .i64 0, .int .i64 0, .int .i64 0, .int .i64 0, .int .i64 0, .int .i64 0]) = s2 at M_s2 z_s2 q_s2 n_s2 ⊢
  refine open38_ok (word := streamW) hx (by omega) fun s3 b m3 r_s3 => ?_
  have n3 := m3.next
  have M_s3 := M_s2.trans m3
  have z_s3 := (m3.heap s.next (by omega)).trans z_s2
  have q_s3 := (m3.heap (s.next + 1) (by omega)).trans q_s2
  have hb2 : s2.next ≤ b ∧ b < s3.next := by obtain ⟨v, y1, y2, y3, y4, y5, y6⟩ := r_s3; exact ⟨y4, y5⟩
  simp (disch := first | omega | ((simp only [nxBScrStream]) <;> omega) | decide) only [↓stepPre, stepPost, ↓W_cond, ↓W_block, ↓reduceIte, Nat.reduceEqDiff, Nat.reduceLT, Nat.reduceLeDiff, ret0, stVar, isTup, Value.cells, Nat.reduceAdd, Nat.reduceMul, Nat.reduceSub, env0, binV, intV, reduceCtorEq, pickV, nilCheckV, ptrV, unV, Rt, resultsV, allV, resV, calleeV, builtinV, eqV, fieldAddrV, ldVar, stN_own, stN_ownL, Int.reduceToNat, Int.reducePow, IntKind.bits, convV, Int.reduceNeg, Int.reduceAdd, Int.reduceSub, Int.reduceLT, Int.reduceLE, extractV, Int.reduceEq, mkFuncV, stBScrStream, spBScrStream, beq_self_eq_true, tyB0ScrStream, getL_take, glBScrStream, build2p]
  have r_s4 := r_s3.keep (fun j h1 h2 => Ab.heap_alloc_ne s3 (.row [.pointer (some ⟨s.next + 1, 0, none⟩), .pointer (some ⟨s.next + 1, 1, none⟩)]) (by omega)) (by simp only [Ab.next_alloc]; omega)
  have q_s4 := (Ab.heap_alloc_ne s3 (.row [.pointer (some ⟨s.next + 1, 0, none⟩), .pointer (some ⟨s.next + 1, 1, none⟩)]) (b := s.next + 1) (by omega)).trans q_s3
  have z_s4 := (Ab.heap_alloc_ne s3 (.row [.pointer (some ⟨s.next + 1, 0, none⟩), .pointer (some ⟨s.next + 1, 1, none⟩)]) (b := s.next) (by omega)).trans z_s3
  have M_s4 := M_s3.alloc' (o := .row [.pointer (some ⟨s.next + 1, 0, none⟩), .pointer (some ⟨s.next + 1, 1, none⟩)])
  have p_s4 : Sl base (s3.alloc (.row [.pointer (some ⟨s.next + 1, 0, none⟩), .pointer (some ⟨s.next + 1, 1, none⟩)])) 1 (.slice (some ⟨s3.next, 0, none⟩) 2 2) (ptrL (s.next + 1) [0, 1]) := .newRow (Ab.heap_alloc_new _ _) rfl rfl (by simp [ptrL]) (by omega) (by simp only [Ab.next_alloc]; omega)
  have n_s4 := Ab.next_alloc s3 (.row [.pointer (some ⟨s.next + 1, 0, none⟩), .pointer (some ⟨s.next + 1, 1, none⟩)])
  generalize s3.alloc (.row [.pointer (some ⟨s.next + 1, 0, none⟩), .pointer (some ⟨s.next + 1, 1, none⟩)]) = s4 at r_s4 q_s4 z_s4 M_s4 p_s4 n_s4 ⊢
  refine read38_ok (offs := [0, 1]) r_s4 (by omega) (by omega) (.inl (by omega)) q_s4 (by simp) (by simp) p_s4 (fun j hj => by simp only [inB] at hj; omega) fun t1 ns n1 f1 r_t1 h1 l1 b1 v1 => ?_
  obtain ⟨a0, a1, rfl⟩ := two_ns l1
  have M_t1 : Mild s t1 := ⟨by have := M_s4.next; omega, fun k hk => by rw [f1 k (by omega) (by omega)]; exact M_s4.heap k hk⟩
  have z_t1 := (f1 s.next (by omega) (by omega)).trans z_s4
  have q_t1 : t1.heap (s.next + 1) = .row [.int .i64 (a0 : Int), .int .i64 (a1 : Int), .int .i64 0, .int .i64 0, .int .i64 0, .int .i64 0, .int .i64 0] := h1
  obtain ⟨cv, c1, c2, c3⟩ := (hL.mild M_t1 hbn).classes
  simp (disch := first | omega | ((simp only [nxBScrStream]) <;> omega) | decide) only [↓stepPre, stepPost, ↓W_cond, ↓W_block, ↓reduceIte, Nat.reduceEqDiff, Nat.reduceLT, Nat.reduceLeDiff, ret0, stVar, isTup, Value.cells, Nat.reduceAdd, Nat.reduceMul, Nat.reduceSub, env0, binV, intV, reduceCtorEq, pickV, nilCheckV, ptrV, unV, Rt, resultsV, allV, resV, calleeV, builtinV, eqV, fieldAddrV, ldVar, stN_own, stN_ownL, Int.reduceToNat, Int.reducePow, IntKind.bits, convV, Int.reduceNeg, Int.reduceAdd, Int.reduceSub, Int.reduceLT, Int.reduceLE, extractV, Int.reduceEq, mkFuncV, stBScrStream, spBScrStream, beq_self_eq_true, tyB0ScrStream, getL_take, glBScrStream]
  refine W_draw (fun k => k == 2 || k == 5) (fun k => k == 0) (fun k => k == 1) (by kernel_rfl) (by kernel_rfl) ?_
  simp (disch := first | omega | ((simp only [nxBScrStream]) <;> omega) | decide) only [↓stepPre, stepPost, ↓W_cond, ↓W_block, ↓reduceIte, Nat.reduceEqDiff, Nat.reduceLT, Nat.reduceLeDiff, ret0, stVar, isTup, Value.cells, Nat.reduceAdd, Nat.reduceMul, Nat.reduceSub, env0, binV, intV, reduceCtorEq, pickV, nilCheckV, ptrV, unV, Rt, resultsV, allV, resV, calleeV, builtinV, eqV, fieldAddrV, ldVar, stN_own, stN_ownL, Int.reduceToNat, Int.reducePow, IntKind.bits, convV, Int.reduceNeg, Int.reduceAdd, Int.reduceSub, Int.reduceLT, Int.reduceLE, extractV, Int.reduceEq, mkFuncV, stBScrStream, spBScrStream, beq_self_eq_true, tyB0ScrStream, getL_take, glBScrStream, ev_global, ld_var c1 c3]
  refine ⟨fun _ => ⟨rfl, by show 1 < t1.next; omega⟩, ?_⟩
  refine next38_ok r_t1 fun t2 n2 f2 r_t2 => ?_
  refine ⟨.inr ⟨rfl, by omega, fun j hj _ => f2 j (by have : j = 1 := (by simpa using hj); omega)⟩, ?_⟩
  simp (disch := first | omega | ((simp only [nxBScrStream]) <;> omega) | decide) only [↓stepPre, stepPost, ↓W_cond, ↓W_block, ↓reduceIte, Nat.reduceEqDiff, Nat.reduceLT, Nat.reduceLeDiff, ret0, stVar, isTup, Value.cells, Nat.reduceAdd, Nat.reduceMul, Nat.reduceSub, env0, binV, intV, reduceCtorEq, pickV, nilCheckV, ptrV, unV, Rt, resultsV, allV, resV, calleeV, builtinV, eqV, fieldAddrV, ldVar, stN_own, stN_ownL, Int.reduceToNat, Int.reducePow, IntKind.bits, convV, Int.reduceNeg, Int.reduceAdd, Int.reduceSub, Int.reduceLT, Int.reduceLE, extractV, Int.reduceEq, mkFuncV, stBScrStream, spBScrStream, beq_self_eq_true, tyB0ScrStream, getL_take, glBScrStream]
  have M_t2 : Mild s t2 := ⟨by have := M_t1.next; omega, fun k hk => by rw [f2 k (by omega)]; exact M_t1.heap k hk⟩
  have z_t2 := (f2 s.next (by omega)).trans z_t1
  have q_t2 := (f2 (s.next + 1) (by omega)).trans q_t1
  have hcv : Sl base t2 1 cv (strL classesL) := by
    refine c2.frame (fun a n c e => ?_) (by omega)
    subst e
    have : a.block < base := by simpa [oldOk, oldA] using c3
    exact f2 _ (by omega)
  refine place38_ok hcv (by decide) ?_
  simp (disch := first | omega | ((simp only [nxBScrStream]) <;> omega) | decide) only [↓stepPre, stepPost, ↓W_cond, ↓W_block, ↓reduceIte, Nat.reduceEqDiff, Nat.reduceLT, Nat.reduceLeDiff, ret0, stVar, isTup, Value.cells, Nat.reduceAdd, Nat.reduceMul, Nat.reduceSub, env0, binV, intV, reduceCtorEq, pickV, nilCheckV, ptrV, unV, Rt, resultsV, allV, resV, calleeV, builtinV, eqV, fieldAddrV, ldVar, stN_own, stN_ownL, Int.reduceToNat, Int.reducePow, IntKind.bits, convV, Int.reduceNeg, Int.reduceAdd, Int.reduceSub, Int.reduceLT, Int.reduceLE, extractV, Int.reduceEq, mkFuncV, stBScrStream, spBScrStream, beq_self_eq_true, tyB0ScrStream, getL_take, glBScrStream, Dok_same, q_t2]
  refine ⟨.inr ⟨rfl, Nat.le_refl _, fun j hj hjn => Ab.heap_upd_ne _ _ (by have : j = 1 := (by simpa using hj); omega)⟩, ?_⟩
  have M_t3 : Mild s (t2.upd (s.next + 1) (.row [.int .i64 (a0 : Int), .int .i64 (a1 : Int), .int .i64 (placeN classesL (((partW 32 x).tail.drop 2).headD []) : Int), .int .i64 0, .int .i64 0, .int .i64 0, .int .i64 0])) := M_t2.upd' (by omega)
  have z_t3 : (t2.upd (s.next + 1) (.row [.int .i64 (a0 : Int), .int .i64 (a1 : Int), .int .i64 (placeN classesL (((partW 32 x).tail.drop 2).headD []) : Int), .int .i64 0, .int .i64 0, .int .i64 0, .int .i64 0])).heap s.next = .row [.int .i64 0, .int .i64 0, .int .i64 0, .int .i64 0, .int .i64 0, .int .i64 0, .int .i64 0] := (Ab.heap_upd_ne _ _ (by omega)).trans z_t2
  have q_t3 := Ab.heap_upd_same t2 (s.next + 1) (.row [.int .i64 (a0 : Int), .int .i64 (a1 : Int), .int .i64 (placeN classesL (((partW 32 x).tail.drop 2).headD []) : Int), .int .i64 0, .int .i64 0, .int .i64 0, .int .i64 0])
  have r_t3 := r_t2.keep (s' := t2.upd (s.next + 1) (.row [.int .i64 (a0 : Int), .int .i64 (a1 : Int), .int .i64 (placeN classesL (((partW 32 x).tail.drop 2).headD []) : Int), .int .i64 0, .int .i64 0, .int .i64 0, .int .i64 0])) (fun j h1 h2 => Ab.heap_upd_ne _ _ (by omega)) (Nat.le_refl _)
  have n_t3 : (t2.upd (s.next + 1) (.row [.int .i64 (a0 : Int), .int .i64 (a1 : Int), .int .i64 (placeN classesL (((partW 32 x).tail.drop 2).headD []) : Int), .int .i64 0, .int .i64 0, .int .i64 0, .int .i64 0])).next = t2.next := rfl
  generalize t2.upd (s.next + 1) (.row [.int .i64 (a0 : Int), .int .i64 (a1 : Int), .int .i64 (placeN classesL (((partW 32 x).tail.drop 2).headD []) : Int), .int .i64 0, .int .i64 0, .int .i64 0, .int .i64 0]) = t3 at M_t3 z_t3 q_t3 r_t3 n_t3 ⊢
  simp (disch := first | omega | ((simp only [nxBScrStream]) <;> omega) | decide) only [↓stepPre, stepPost, ↓W_cond, ↓W_block, ↓reduceIte, Nat.reduceEqDiff, Nat.reduceLT, Nat.reduceLeDiff, ret0, stVar, isTup, Value.cells, Nat.reduceAdd, Nat.reduceMul, Nat.reduceSub, env0, binV, intV, reduceCtorEq, pickV, nilCheckV, ptrV, unV, Rt, resultsV, allV, resV, calleeV, builtinV, eqV, fieldAddrV, ldVar, stN_own, stN_ownL, Int.reduceToNat, Int.reducePow, IntKind.bits, convV, Int.reduceNeg, Int.reduceAdd, Int.reduceSub, Int.reduceLT, Int.reduceLE, extractV, Int.reduceEq, mkFuncV, stBScrStream, spBScrStream, beq_self_eq_true, tyB0ScrStream, getL_take, glBScrStream, build2q]
  have r_s5 := r_t3.keep (fun j h1 h2 => Ab.heap_alloc_ne t3 (.row [.pointer (some ⟨s.next + 1, 3, none⟩), .pointer (some ⟨s.next + 1, 4, none⟩)]) (by omega)) (by simp only [Ab.next_alloc]; omega)
  have q_s5 := (Ab.heap_alloc_ne t3 (.row [.pointer (some ⟨s.next + 1, 3, none⟩), .pointer (some ⟨s.next + 1, 4, none⟩)]) (b := s.next + 1) (by omega)).trans q_t3
  have z_s5 := (Ab.heap_alloc_ne t3 (.row [.pointer (some ⟨s.next + 1, 3, none⟩), .pointer (some ⟨s.next + 1, 4, none⟩)]) (b := s.next) (by omega)).trans z_t3
  have M_s5 := M_t3.alloc' (o := .row [.pointer (some ⟨s.next + 1, 3, none⟩), .pointer (some ⟨s.next + 1, 4, none⟩)])
  have p_s5 : Sl base (t3.alloc (.row [.pointer (some ⟨s.next + 1, 3, none⟩), .pointer (some ⟨s.next + 1, 4, none⟩)])) 1 (.slice (some ⟨t3.next, 0, none⟩) 2 2) (ptrL (s.next + 1) [3, 4]) := .newRow (Ab.heap_alloc_new _ _) rfl rfl (by simp [ptrL]) (by omega) (by simp only [Ab.next_alloc]; omega)
  have n_s5 := Ab.next_alloc t3 (.row [.pointer (some ⟨s.next + 1, 3, none⟩), .pointer (some ⟨s.next + 1, 4, none⟩)])
  generalize t3.alloc (.row [.pointer (some ⟨s.next + 1, 3, none⟩), .pointer (some ⟨s.next + 1, 4, none⟩)]) = s5 at r_s5 q_s5 z_s5 M_s5 p_s5 n_s5 ⊢
  refine long38_ok (offs := [3, 4]) r_s5 (by omega) (by omega) (.inl (by omega)) q_s5 (by simp) (by simp) p_s5 (fun j hj => by simp only [inB] at hj; omega) fun t4 ns4 n4 f4 r_t4 h4 l4 b4 v4 => ?_
  obtain ⟨a3, a4, rfl⟩ := two_ns l4
  have M_t4 : Mild s t4 := ⟨by have := M_s5.next; omega, fun k hk => by rw [f4 k (by omega) (by omega) (by omega)]; exact M_s5.heap k hk⟩
  have z_t4 := (f4 s.next (by omega) (by omega) (by omega)).trans z_s5
  generalize hcl : placeN classesL (((partW 32 x).tail.drop 2).headD []) = cl at h4
  have q_t4 : t4.heap (s.next + 1) = .row [.int .i64 (a0 : Int), .int .i64 (a1 : Int), .int .i64 (cl : Int), .int .i64 (a3 : Int), .int .i64 (a4 : Int), .int .i64 0, .int .i64 0] := h4
  simp (disch := first | omega | ((simp only [nxBScrStream]) <;> omega) | decide) only [↓stepPre, stepPost, ↓W_cond, ↓W_block, ↓reduceIte, Nat.reduceEqDiff, Nat.reduceLT, Nat.reduceLeDiff, ret0, stVar, isTup, Value.cells, Nat.reduceAdd, Nat.reduceMul, Nat.reduceSub, env0, binV, intV, reduceCtorEq, pickV, nilCheckV, ptrV, unV, Rt, resultsV, allV, resV, calleeV, builtinV, eqV, fieldAddrV, ldVar, stN_own, stN_ownL, Int.reduceToNat, Int.reducePow, IntKind.bits, convV, Int.reduceNeg, Int.reduceAdd, Int.reduceSub, Int.reduceLT, Int.reduceLE, extractV, Int.reduceEq, mkFuncV, stBScrStream, spBScrStream, beq_self_eq_true, tyB0ScrStream, getL_take, glBScrStream, build2p]
  have r_s6 := r_t4.keep (fun j h1 h2 => Ab.heap_alloc_ne t4 (.row [.pointer (some ⟨s.next + 1, 5, none⟩), .pointer (some ⟨s.next + 1, 6, none⟩)]) (by omega)) (by simp only [Ab.next_alloc]; omega)
  have q_s6 := (Ab.heap_alloc_ne t4 (.row [.pointer (some ⟨s.next + 1, 5, none⟩), .pointer (some ⟨s.next + 1, 6, none⟩)]) (b := s.next + 1) (by omega)).trans q_t4
  have z_s6 := (Ab.heap_alloc_ne t4 (.row [.pointer (some ⟨s.next + 1, 5, none⟩), .pointer (some ⟨s.next + 1, 6, none⟩)]) (b := s.next) (by omega)).trans z_t4
  have M_s6 := M_t4.alloc' (o := .row [.pointer (some ⟨s.next + 1, 5, none⟩), .pointer (some ⟨s.next + 1, 6, none⟩)])
  have p_s6 : Sl base (t4.alloc (.row [.pointer (some ⟨s.next + 1, 5, none⟩), .pointer (some ⟨s.next + 1, 6, none⟩)])) 1 (.slice (some ⟨t4.next, 0, none⟩) 2 2) (ptrL (s.next + 1) [5, 6]) := .newRow (Ab.heap_alloc_new _ _) rfl rfl (by simp [ptrL]) (by omega) (by simp only [Ab.next_alloc]; omega)
  have n_s6 := Ab.next_alloc t4 (.row [.pointer (some ⟨s.next + 1, 5, none⟩), .pointer (some ⟨s.next + 1, 6, none⟩)])
  generalize t4.alloc (.row [.pointer (some ⟨s.next + 1, 5, none⟩), .pointer (some ⟨s.next + 1, 6, none⟩)]) = s6 at r_s6 q_s6 z_s6 M_s6 p_s6 n_s6 ⊢
  refine read38_ok (offs := [5, 6]) r_s6 (by omega) (by omega) (.inl (by omega)) q_s6 (by simp) (by simp) p_s6 (fun j hj => by simp only [inB] at hj; omega) fun t5 ns5 n5 f5 r_t5 h5' l5 b5 v5 => ?_
  obtain ⟨a5, a6, rfl⟩ := two_ns l5
  have M_t5 : Mild s t5 := ⟨by have := M_s6.next; omega, fun k hk => by rw [f5 k (by omega) (by omega)]; exact M_s6.heap k hk⟩
  have z_t5 := (f5 s.next (by omega) (by omega)).trans z_s6
  have q_t5 : t5.heap (s.next + 1) = .row (Sm.mk a0 a1 cl a3 a4 a5 a6).c := h5'
  simp (disch := first | omega | ((simp only [nxBScrStream]) <;> omega) | decide) only [↓stepPre, stepPost, ↓W_cond, ↓W_block, ↓reduceIte, Nat.reduceEqDiff, Nat.reduceLT, Nat.reduceLeDiff, ret0, stVar, isTup, Value.cells, Nat.reduceAdd, Nat.reduceMul, Nat.reduceSub, env0, binV, intV, reduceCtorEq, pickV, nilCheckV, ptrV, unV, Rt, resultsV, allV, resV, calleeV, builtinV, eqV, fieldAddrV, ldVar, stN_own, stN_ownL, Int.reduceToNat, Int.reducePow, IntKind.bits, convV, Int.reduceNeg, Int.reduceAdd, Int.reduceSub, Int.reduceLT, Int.reduceLE, extractV, Int.reduceEq, mkFuncV, stBScrStream, spBScrStream, beq_self_eq_true, tyB0ScrStream, getL_take, glBScrStream]
  refine W_draw (fun k => k == 8) (fun k => k == 5) (fun k => k == s.next + 1) (by kernel_rfl) (by kernel_rfl) ?_
  simp (disch := first | omega | ((simp only [nxBScrStream]) <;> omega) | decide) only [↓stepPre, stepPost, ↓W_cond, ↓W_block, ↓reduceIte, Nat.reduceEqDiff, Nat.reduceLT, Nat.reduceLeDiff, ret0, stVar, isTup, Value.cells, Nat.reduceAdd, Nat.reduceMul, Nat.reduceSub, env0, binV, intV, reduceCtorEq, pickV, nilCheckV, ptrV, unV, Rt, resultsV, allV, resV, calleeV, builtinV, eqV, fieldAddrV, ldVar, stN_own, stN_ownL, Int.reduceToNat, Int.reducePow, IntKind.bits, convV, Int.reduceNeg, Int.reduceAdd, Int.reduceSub, Int.reduceLT, Int.reduceLE, extractV, Int.reduceEq, mkFuncV, stBScrStream, spBScrStream, beq_self_eq_true, tyB0ScrStream, getL_take, glBScrStream, q_t5]
  refine ⟨fun h => by simp at h, ?_⟩
  refine fine38_ok r_t5 ?_
  have hsb : streamB x = ((!(decide (¬ (partW 32 x).headD [] = streamW) || !okW (partW 32 x).tail 2 || ((partW 32 x).tail.drop 2).isEmpty || !okW ((partW 32 x).tail.drop 2).tail 2 || !okW (((partW 32 x).tail.drop 2).tail.drop 2) 2) && ((((partW 32 x).tail.drop 2).tail.drop 2).drop 2).isEmpty) && decide ((cl : Int) > 0)) := by
    simp only [streamB]; rw [hcl]; simp
  have hsv : streamB x = true → Sm.mk a0 a1 cl a3 a4 a5 a6 = streamV x := fun h => by
    rw [hsb] at h
    simp only [Bool.and_eq_true, Bool.not_eq_true', Bool.or_eq_false_iff, Bool.not_eq_false'] at h
    obtain ⟨⟨⟨⟨⟨⟨w1, w2⟩, w3⟩, w4⟩, w5⟩, w6⟩, w7⟩ := h
    obtain ⟨e0, e1⟩ := two_val w2 (v1 w2)
    obtain ⟨e3, e4⟩ := two_val w4 (v4 w4)
    obtain ⟨e5, e6⟩ := two_val w5 (v5 w5)
    simp only [streamV]
    rw [hcl, e0, e1, e3, e4, e5, e6]
  have key := fun s' M => hR s' _ M hsv
  rw [hsb] at key
  clear hsb hsv hR
  generalize (!(decide (¬ (partW 32 x).headD [] = streamW) || !okW (partW 32 x).tail 2 || ((partW 32 x).tail.drop 2).isEmpty || !okW ((partW 32 x).tail.drop 2).tail 2 || !okW (((partW 32 x).tail.drop 2).tail.drop 2) 2) && ((((partW 32 x).tail.drop 2).tail.drop 2).drop 2).isEmpty) = F at key ⊢
  have fin : ∀ V : List Value, s.next < t5.next ∧ s.next ≠ s.next + 1 := fun _ => by omega
  cases F with
  | false =>
    simp (disch := first | omega | ((simp only [nxBScrStream]) <;> omega) | decide) only [↓stepPre, stepPost, ↓W_cond, ↓W_block, ↓reduceIte, Nat.reduceEqDiff, Nat.reduceLT, Nat.reduceLeDiff, ret0, stVar, isTup, Value.cells, Nat.reduceAdd, Nat.reduceMul, Nat.reduceSub, env0, binV, intV, reduceCtorEq, pickV, nilCheckV, ptrV, unV, Rt, resultsV, allV, resV, calleeV, builtinV, eqV, fieldAddrV, ldVar, stN_own, stN_ownL, Int.reduceToNat, Int.reducePow, IntKind.bits, convV, Int.reduceNeg, Int.reduceAdd, Int.reduceSub, Int.reduceLT, Int.reduceLE, extractV, Int.reduceEq, mkFuncV, stBScrStream, spBScrStream, beq_self_eq_true, tyB0ScrStream, getL_take, glBScrStream, Dok_same, q_t5, z_t5, Tryz.results51]
    exact ⟨.inr ⟨rfl, Nat.le_refl _, fun j hj hjn => Ab.heap_upd_ne _ _ (by have : j = s.next + 1 := (by simpa using hj); omega)⟩, key _ (M_t5.upd' (Nat.le_refl _))⟩
  | true =>
    simp (disch := first | omega | ((simp only [nxBScrStream]) <;> omega) | decide) only [↓stepPre, stepPost, ↓W_cond, ↓W_block, ↓reduceIte, Nat.reduceEqDiff, Nat.reduceLT, Nat.reduceLeDiff, ret0, stVar, isTup, Value.cells, Nat.reduceAdd, Nat.reduceMul, Nat.reduceSub, env0, binV, intV, reduceCtorEq, pickV, nilCheckV, ptrV, unV, Rt, resultsV, allV, resV, calleeV, builtinV, eqV, fieldAddrV, ldVar, stN_own, stN_ownL, Int.reduceToNat, Int.reducePow, IntKind.bits, convV, Int.reduceNeg, Int.reduceAdd, Int.reduceSub, Int.reduceLT, Int.reduceLE, extractV, Int.reduceEq, mkFuncV, stBScrStream, spBScrStream, beq_self_eq_true, tyB0ScrStream, getL_take, glBScrStream, Dok_same, q_t5, z_t5, Tryz.results51]
    refine ⟨fun _ => ⟨by show (s.next + 1 == s.next + 1) = true; simp, by show s.next + 1 < t5.next; omega⟩, ?_⟩
    refine ⟨.inr ⟨rfl, Nat.le_refl _, fun j hj hjn => Ab.heap_upd_ne _ _ (by have : j = s.next + 1 := (by simpa using hj); omega)⟩, ?_⟩
    exact key _ (M_t5.upd' (Nat.le_refl _))
end Go.Proofs.YthjpfllmecpliaaGreatDoor
/- An act's line, read (the package script): as a contract. -/
set_option linter.all false
set_option maxRecDepth 20000
namespace Go.Proofs.YthjpfllmecpliaaGreatDoor
open Go Go.Ab
variable {base : Nat} [Bok base] {s : St} {R : Value → St → Prop}
theorem body_cut : ∃ fn c, Tryz.prog.funcs[31]? = some fn ∧ fn.body = some c ∧ fn.name ≠ "runtime.NumGoroutine" := by
  refine ⟨_, _, Tryz.func31, rfl, ?_⟩
  decide
theorem cut38_p {a b : List UInt8} {m : Int} (ha : a.length < 4294967281) (hm : s.heap 2 = .row [.int .i64 m]) (hR : R (.tuple #[.string (strB (Lib.cut a b).1), .string (strB (Lib.cut a b).2.1), .bool (Lib.cut a b).2.2]) s) :
    WC Tryz.prog base 31 [.string (strB a), .string (strB b)] s R := by
  have h5 := Bok.le5 (base := base)
  refine ⟨_, _, given_ev body_cut rfl rfl (fun w hw => ?_), hR⟩
  have := Tryz.strings_Cut (strB a) (strB b) m w (by rw [str_size]; exact ha) (hw _ _ (by omega) hm (fun a h => by cases h))
  exact this
theorem cut_in {c : UInt8} {x : List UInt8} (h : 0 < x.count c) : ∃ l r, Lib.cut x [c] = (l, r, true) ∧ x = l ++ c :: r ∧ l.count c = 0 ∧ partW c x = l :: partW c r := by
  obtain ⟨m, k1, k2, k3, k4, k5, k6⟩ := cut_at c x h
  refine ⟨x.take m, x.drop (m + 1), ?_, k6, k5, k3⟩
  unfold Lib.cut
  rw [Lib.index_one, k1, if_pos (by omega)]
  simp
theorem cut_out {c : UInt8} {x : List UInt8} (h : x.count c = 0) : Lib.cut x [c] = (x, [], false) := by
  unfold Lib.cut
  rw [Lib.index_one, if_neg]
  intro h0
  obtain ⟨m, hm⟩ : ∃ m : Nat, Lib.indexByte x c = m := ⟨(Lib.indexByte x c).toNat, by omega⟩
  have := (Lib.indexByte_some hm).1
  exact absurd (List.mem_of_getElem? this) (List.count_eq_zero.1 h)
theorem cut_fst (c : UInt8) (x : List UInt8) : (Lib.cut x [c]).1 = (partW c x).headD [] := by
  by_cases h : x.count c = 0
  · rw [cut_out h, partW_none h]; rfl
  · obtain ⟨l, r, h1, h2, h3, h4⟩ := cut_in (c := c) (x := x) (by omega)
    rw [h1, h4]; rfl
/-- Eight bytes of sixteen digits. -/
def hv (c : UInt8) : Nat := (max (Lib.indexByte hxD c) 0).toNat
theorem hv_lt (c : UInt8) : hv c < 16 ∧ max (Lib.indexByte hxD c) 0 = (hv c : Int) := by
  have : ∀ k : Fin 256, hv k.val.toUInt8 < 16 := by decide +kernel
  have h := this ⟨c.toNat, c.toNat_lt⟩
  simp only [Nat.toUInt8_eq, UInt8.ofNat_toNat] at h
  exact ⟨h, by unfold hv; omega⟩
def hvA (w : List UInt8) (i : Nat) : Nat := hv (w.getD i 0)
def decA (w : List UInt8) (i : Nat) : List Nat := (List.range 8).map fun j => if 2 * j + 1 < i then hvA w (2 * j) * 16 + hvA w (2 * j + 1) else if 2 * j < i then hvA w (2 * j) else 0
theorem decA_len (w : List UInt8) (i : Nat) : (decA w i).length = 8 := by simp [decA]
theorem decA_zero (w : List UInt8) : decA w 0 = [0, 0, 0, 0, 0, 0, 0, 0] := by simp [decA]; decide
theorem decA_at (w : List UInt8) (i j : Nat) (h : j < 8) : (decA w i).getD j 0 = if 2 * j + 1 < i then hvA w (2 * j) * 16 + hvA w (2 * j + 1) else if 2 * j < i then hvA w (2 * j) else 0 := by
  unfold decA
  rw [List.getD_eq_getElem?_getD, List.getElem?_map, List.getElem?_range h]; rfl
theorem decA_lt (w : List UInt8) (i : Nat) : ∀ y ∈ decA w i, y < 256 := by
  intro y hy
  obtain ⟨j, -, rfl⟩ := List.mem_map.1 hy
  have h1 := (hv_lt (w.getD (2 * j) 0)).1
  have h2 := (hv_lt (w.getD (2 * j + 1) 0)).1
  simp only [hvA]
  split
  · omega
  · split <;> omega
theorem decA_step {w : List UInt8} {i : Nat} (hi : i < 16) : (decA w i).getD (i / 2) 0 < 16 ∧ (decA w i).set (i / 2) ((decA w i).getD (i / 2) 0 * 16 + hvA w i) = decA w (i + 1) := by
  have h0 := decA_at w i (i / 2) (by omega)
  have hlt : (decA w i).getD (i / 2) 0 < 16 := by
    rw [h0, if_neg (by omega)]
    have := (hv_lt (w.getD (2 * (i / 2)) 0)).1
    unfold hvA
    split <;> omega
  refine ⟨hlt, ?_⟩
  refine List.ext_getElem (by simp [decA_len]) fun j h1 h2 => ?_
  rw [decA_len] at h2
  have e2 : (decA w (i + 1))[j]'(by rw [decA_len]; exact h2) = (decA w (i + 1)).getD j 0 := by rw [List.getD_eq_getElem?_getD, List.getElem?_eq_getElem (by rw [decA_len]; exact h2)]; rfl
  have e1 : (decA w i)[j]'(by rw [decA_len]; exact h2) = (decA w i).getD j 0 := by rw [List.getD_eq_getElem?_getD, List.getElem?_eq_getElem (by rw [decA_len]; exact h2)]; rfl
  rw [e2, List.getElem_set, e1, decA_at w i j h2, decA_at w (i + 1) j h2, h0]
  split
  · subst_vars
    by_cases hp : i % 2 = 0
    · rw [if_neg (by omega), if_neg (by omega), if_neg (by omega), if_pos (by omega)]
      rw [show 2 * (i / 2) = i by omega]; omega
    · rw [if_neg (by omega), if_pos (by omega), if_pos (by omega)]
      rw [show 2 * (i / 2) + 1 = i by omega]
  · by_cases h3 : 2 * j + 1 < i
    · rw [if_pos h3, if_pos (by omega)]
    · rw [if_neg h3, if_neg (by omega : ¬ 2 * j < i), if_neg (by omega), if_neg (by omega)]
theorem nibA {x d : Nat} (hx : x < 16) (hd : d < 16) : orI .u8 ((x : Int) * 16) (d : Int) = ((x * 16 + d : Nat) : Int) := by
  have : ∀ (x d : Fin 16), orI .u8 ((x.val : Int) * 16) (d.val : Int) = ((x.val * 16 + d.val : Nat) : Int) := by decide +kernel
  exact this ⟨x, hx⟩ ⟨d, hd⟩
def actK (x : List UInt8) : Nat := placeN wordsL ((partW 32 x).headD [])
def actT (k : Nat) (t : List (List UInt8)) : List (List UInt8) := if 1 < k then t.drop 1 else t
def actU (k : Nat) (t : List (List UInt8)) : List (List UInt8) := if 0 ≤ boundA k then (actT k t).drop 1 else actT k t
def actW (w : List UInt8) : List Nat := decA w (min w.length 16)
def actF (x : List UInt8) : Bool :=
  !((if 1 < actK x then !okW (partW 32 x).tail 1 else false) || (if 0 ≤ boundA (actK x) then !okW (actT (actK x) (partW 32 x).tail) 1 else false) || (if actK x = 3 then (actU (actK x) (partW 32 x).tail).isEmpty || decide (¬ (actU (actK x) (partW 32 x).tail).headD [] = hxT (actW ((actU (actK x) (partW 32 x).tail).headD []))) else false)) && (if actK x = 3 then (actU (actK x) (partW 32 x).tail).tail else actU (actK x) (partW 32 x).tail).isEmpty
def actA (x : List UInt8) : Ac := ⟨actK x, if 1 < actK x then valL ((partW 32 x).tail.getD 0 []) else 0, if 0 ≤ boundA (actK x) then valL ((actT (actK x) (partW 32 x).tail).getD 0 []) else 0, if actK x = 3 then actW ((actU (actK x) (partW 32 x).tail).headD []) else [0, 0, 0, 0, 0, 0, 0, 0]⟩
def actB (x : List UInt8) : Bool := actF x && (actA x).right
theorem one_ns {ns : List Nat} (h : ns.length = 1) : ∃ a, ns = [a] := by
  match ns, h with
  | [a], _ => exact ⟨a, rfl⟩
theorem one_val {ws : List (List UInt8)} {a : Nat} (hk : okW ws 1 = true) (h : [a] = (ws.take 1).map valL) : a = valL (ws.getD 0 []) := by
  unfold okW at hk
  simp only [Bool.and_eq_true, decide_eq_true_eq] at hk
  match ws, hk.1 with
  | x :: r, _ => simpa using h
theorem actK_lt (x : List UInt8) : actK x < 8 := placeN_le wordsL _ (by simp [wordsL])
theorem act_at {k K N : Int} {ds : List Nat} {j : Nat} (h : j < ds.length) : (actC k K N ds)[3 + j * 1]? = some (.int .u8 ((ds.getD j 0 : Nat) : Int)) := by
  rw [Nat.mul_one, Nat.add_comm, actC, List.getElem?_cons_succ, List.getElem?_cons_succ, List.getElem?_cons_succ, bC_at h]
theorem act_put {k K N : Int} {ds : List Nat} {j y : Nat} (h : j < ds.length) : putAt (.row (actC k K N ds)) (3 + j * 1) [.int .u8 (y : Int)] = some (.row (actC k K N (ds.set j y))) := by
  rw [put1 (by simp [actC, bC_len]; omega), Nat.mul_one, Nat.add_comm 3 j]
  simp only [actC, List.set_cons_succ, bC_set]
end Go.Proofs.YthjpfllmecpliaaGreatDoor
