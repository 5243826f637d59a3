/- A script, read (the package script): as a contract. -/
import Derived.Test.YthjpfllmecpliaaDoorTypes
import Derived.Test.YthjpfllmecpliaaDoorRow0
import Derived.Test.YthjpfllmecpliaaDoorAbC
import Derived.Test.YthjpfllmecpliaaDoorAsks
import Derived.Test.YthjpfllmecpliaaDoorPure
import Derived.Test.YthjpfllmecpliaaDoorBoxes
import Derived.Test.YthjpfllmecpliaaDoorScrTake
import Derived.Test.YthjpfllmecpliaaDoorScrCheck
set_option linter.all false
set_option maxRecDepth 20000
namespace Go.Proofs.YthjpfllmecpliaaDoor
open Go Go.Ab
def nxBScrParse := And.intro @Ab.next_alloc (And.intro @Ab.next_upd (And.intro @List.length_cons.{0} (And.intro @List.length_nil.{0} (And.intro @ne_eq.{1} (And.intro not_true_eq_false not_false_eq_true)))))
def tyB0ScrParse := And.intro @Ty.t9 (And.intro @Tryd.underlying9 (And.intro @Ty.t52 (And.intro @Tryd.underlying52 (And.intro @Ty.t26 (And.intro @Tryd.underlying26 (And.intro @Ty.t33 (And.intro @Tryd.underlying33 (And.intro @Ty.t55 (And.intro @Tryd.underlying55 (And.intro @Ty.t22 (And.intro @Tryd.underlying22 (And.intro @Ty.t45 (And.intro @Tryd.underlying45 (And.intro @Ty.t27 (And.intro @Tryd.underlying27 (And.intro @Ty.t60 (And.intro @Tryd.underlying60 (And.intro @Ty.t96 (And.intro @Tryd.underlying96 (And.intro @Ty.t29 (And.intro @Tryd.underlying29 (And.intro @Ty.t2 (And.intro @Tryd.underlying2 (And.intro @Ty.t3 (And.intro @Tryd.underlying3 (And.intro @Ty.t4 @Tryd.underlying4))))))))))))))))))))))))))
def stBScrParse := And.intro @List.size_toArray.{0} (And.intro @List.length_cons.{0} (And.intro @List.length_nil.{0} (And.intro @List.set_cons_zero.{0} (And.intro @List.set_cons_succ.{0} (And.intro @List.getD_cons_zero.{0} (And.intro @List.getD_cons_succ.{0} (And.intro @List.getElem?_cons_succ.{0} (And.intro @List.getElem?_cons_zero.{0} (And.intro @List.map_cons.{0,0} (And.intro @List.map_nil.{0,0} (And.intro @Option.isNone_none.{0} (And.intro @Option.isNone_some.{0} (And.intro @Option.map_some.{0,0} (And.intro @Option.map_none.{0,0} (And.intro @List.cons_append.{0} (And.intro @List.nil_append.{0} (And.intro @List.append_nil.{0} (And.intro @Array.toList_append.{0} (And.intro @List.toList_toArray.{0} (And.intro @Int.cast_ofNat_Int (And.intro @Option.isSome_some.{0} (And.intro @List.getElem?_toArray.{0} (And.intro @List.map_toArray.{0,0} (@Nat.min_eq_left))))))))))))))))))))))))
def glBScrParse := And.intro @List.drop_zero.{0} (And.intro @List.drop_succ_cons.{0} (And.intro @List.take_succ_cons.{0} (And.intro @List.take_zero.{0} (@List.take_nil.{0}))))
variable {base : Nat} [Bok base] {s : St} {R : Value → St → Prop}
def pl0 : Pl := ⟨0, 0, 0, 0, 0, 0, 0, 0, 0, []⟩
/-- What a text is: what is wrong, where; the network, and the acts. -/
def parseL : Nat → Nat → Pl → List Ac → List UInt8 → Int × Nat × Pl × List Ac
  | 0, at_, p, l, _ => (12, at_, p, l)
  | f + 1, at_, p, l, x =>
    if x = [] ∧ 6 ≤ at_ then (plChk p, at_, p, l)
    else if x.count 10 = 0 then (12, at_, p, l)
    else if (lineF at_ p l (Lib.cut x [10]).1).1 ≠ 0 then ((lineF at_ p l (Lib.cut x [10]).1).1, at_, p, l)
    else parseL f (at_ + 1) (lineF at_ p l (Lib.cut x [10]).1).2.1 (lineF at_ p l (Lib.cut x [10]).1).2.2 (Lib.cut x [10]).2.1
def parseF (x : List UInt8) : Int × Nat × Pl × List Ac := parseL (x.length + 1) 0 pl0 [] x
theorem wrong38_ok {e k : Int} (hbn : base ≤ s.next) (hR : ∀ s', Mild s s' → R (.tuple #[.agg (pl0.c (.slice none 0 0)).toArray, .slice none 0 0, .agg #[.int .i64 e, .int .i64 k]]) s') :
    WC Tryd.prog base 21 [.int .i64 e, .int .i64 k] s R := by
  refine WC_open Tryd.func21 rfl ?_
  simp (disch := first | omega | ((simp only [nxBScrParse]) <;> omega) | decide) only [↓stepPre, stepPost, ↓W_cond, ↓W_block, ↓reduceIte, Nat.reduceEqDiff, Nat.reduceLT, Nat.reduceLeDiff, ret0, stVar, isTup, Value.cells, Nat.le_refl, Nat.reduceAdd, Nat.reduceMul, Nat.reduceSub, env0, binV, intV, reduceCtorEq, pickV, nilCheckV, ptrV, unV, true_and, and_true, Nat.add_zero, Nat.zero_add, Rt, resultsV, allV, resV, Bool.not_true, Bool.not_false, calleeV, builtinV, eqV, fieldAddrV, ldVar, stN_own, stN_ownL, Int.fdiv_eq_ediv_of_nonneg, Int.reduceToNat, Int.reducePow, IntKind.bits, convV, ne_eq, not_false_eq_true, not_true_eq_false, Int.reduceNeg, Int.reduceAdd, Int.reduceSub, Int.reduceLT, Int.reduceLE, extractV, decide_true, decide_false, Int.reduceEq, mkFuncV, stBScrParse, beq_self_eq_true, tyB0ScrParse, getL_take, glBScrParse, buildV, fillL, setL, Tryd.results21]
  refine hR _ ?_
  (repeat first | exact Mild.refl _ | assumption | apply Mild.alloc' | (refine Mild.upd' ?_ (by omega)) | (refine Mild.upd' ?_ (by simp only [Ab.next_alloc, Ab.next_upd] at *; omega)))
theorem lineF_keep {at_ : Nat} {p : Pl} {l : List Ac} {x : List UInt8} (h : (lineF at_ p l x).1 = 0) (h1 : p.xs.length ≤ 64) (h2 : l.length ≤ 1024) (h3 : 0 ≤ p.nm) :
    (lineF at_ p l x).2.1.xs.length ≤ 64 ∧ (lineF at_ p l x).2.2.length ≤ 1024 ∧ 0 ≤ (lineF at_ p l x).2.1.nm := by
  unfold lineF at h ⊢
  split at h
  · rename_i c1
    rw [if_pos c1]
    split at h
    · rename_i c2
      rw [if_pos c2]
      refine ⟨by rw [headP_xs]; exact h1, h2, ?_⟩
      unfold headP
      split <;> first | exact h3 | exact Int.natCast_nonneg _
    · cases h
  · rename_i c1
    rw [if_neg c1]
    split at h
    · rename_i c2; rw [if_pos c2]; exact ⟨by simp; omega, h2, h3⟩
    · rename_i c2
      rw [if_neg c2]
      split at h
      · rename_i c3; rw [if_pos c3]; exact ⟨h1, by simp; omega, h3⟩
      · split at h <;> cases h
theorem parse38_ok {x : List UInt8} (hx : x.length ≤ 131072) (hL : LaidOk base s) (hbn : base ≤ s.next)
    (hok : (parseF x).1 = 0 → ∀ s' v u, Mild s s' → Sl base s' 7 v (smL (parseF x).2.2.1.xs) → Sl base s' 11 u (acL (parseF x).2.2.2) → R (.tuple #[.agg ((parseF x).2.2.1.c v).toArray, u, .agg #[.int .i64 0, .int .i64 0]]) s')
    (hno : (parseF x).1 ≠ 0 → ∀ s', Mild s s' → R (.tuple #[.agg (pl0.c (.slice none 0 0)).toArray, .slice none 0 0, .agg #[.int .i64 (parseF x).1, .int .i64 ((parseF x).2.1 : Int)]]) s') :
    WC Tryd.prog base 7 [.string (strB x)] s R := by
  refine WC_open Tryd.func7 rfl ?_
  have hlen : ∀ ts, lenB Tryd.prog (9 :: ts) [.string (strB x)] = some (.int .i64 (x.length : Int)) := fun ts => lenStr Ty.str9 Ty.arr9
  have g0 : ¬ (x.length : Int) > 131072 := by omega
  have g0' : ¬ 131072 < (x.length : Int) := by omega
  simp (disch := first | omega | ((simp only [nxBScrParse]) <;> omega) | decide) only [↓stepPre, stepPost, ↓W_cond, ↓W_block, ↓reduceIte, Nat.reduceEqDiff, Nat.reduceLT, Nat.reduceLeDiff, ret0, stVar, isTup, Value.cells, Nat.le_refl, Nat.reduceAdd, Nat.reduceMul, Nat.reduceSub, env0, binV, intV, reduceCtorEq, pickV, nilCheckV, ptrV, unV, true_and, and_true, Nat.add_zero, Nat.zero_add, Rt, resultsV, allV, resV, Bool.not_true, Bool.not_false, calleeV, builtinV, eqV, fieldAddrV, ldVar, stN_own, stN_ownL, Int.fdiv_eq_ediv_of_nonneg, Int.reduceToNat, Int.reducePow, IntKind.bits, convV, ne_eq, not_false_eq_true, not_true_eq_false, Int.reduceNeg, Int.reduceAdd, Int.reduceSub, Int.reduceLT, Int.reduceLE, extractV, decide_true, decide_false, Int.reduceEq, mkFuncV, stBScrParse, beq_self_eq_true, tyB0ScrParse, getL_take, glBScrParse, hlen, g0, g0']
  have M0 : Mild s (((s.alloc (.row [.int .i64 0, .slice none 0 0, .int .i64 0, .int .i64 0, .int .i64 0, .int .i64 0, .int .i64 0, .int .i64 0, .int .i64 0, .int .i64 0])).alloc (.row [.int .i64 0, .int .i64 0])).alloc (.row [.int .i64 0, .slice none 0 0, .int .i64 0, .int .i64 0, .int .i64 0, .int .i64 0, .int .i64 0, .int .i64 0, .int .i64 0, .int .i64 0, .slice none 0 0])) := ((Mild.alloc s _).alloc').alloc'
  have p0 : (((s.alloc (.row [.int .i64 0, .slice none 0 0, .int .i64 0, .int .i64 0, .int .i64 0, .int .i64 0, .int .i64 0, .int .i64 0, .int .i64 0, .int .i64 0])).alloc (.row [.int .i64 0, .int .i64 0])).alloc (.row [.int .i64 0, .slice none 0 0, .int .i64 0, .int .i64 0, .int .i64 0, .int .i64 0, .int .i64 0, .int .i64 0, .int .i64 0, .int .i64 0, .slice none 0 0])).heap s.next = .row [.int .i64 0, .slice none 0 0, .int .i64 0, .int .i64 0, .int .i64 0, .int .i64 0, .int .i64 0, .int .i64 0, .int .i64 0, .int .i64 0] := by
    rw [Ab.heap_alloc_ne _ _ (by simp only [Ab.next_alloc]; omega), Ab.heap_alloc_ne _ _ (by simp only [Ab.next_alloc]; omega)]; exact Ab.heap_alloc_new _ _
  have q0 : (((s.alloc (.row [.int .i64 0, .slice none 0 0, .int .i64 0, .int .i64 0, .int .i64 0, .int .i64 0, .int .i64 0, .int .i64 0, .int .i64 0, .int .i64 0])).alloc (.row [.int .i64 0, .int .i64 0])).alloc (.row [.int .i64 0, .slice none 0 0, .int .i64 0, .int .i64 0, .int .i64 0, .int .i64 0, .int .i64 0, .int .i64 0, .int .i64 0, .int .i64 0, .slice none 0 0])).heap (s.next + 1) = .row [.int .i64 0, .int .i64 0] := by
    rw [Ab.heap_alloc_ne _ _ (by simp only [Ab.next_alloc]; omega)]; exact Ab.heap_alloc_new (s.alloc _) _
  have c0 : Sc_ base (s.next + 2) (((s.alloc (.row [.int .i64 0, .slice none 0 0, .int .i64 0, .int .i64 0, .int .i64 0, .int .i64 0, .int .i64 0, .int .i64 0, .int .i64 0, .int .i64 0])).alloc (.row [.int .i64 0, .int .i64 0])).alloc (.row [.int .i64 0, .slice none 0 0, .int .i64 0, .int .i64 0, .int .i64 0, .int .i64 0, .int .i64 0, .int .i64 0, .int .i64 0, .int .i64 0, .slice none 0 0])) (s.next + 2) pl0 [] := ⟨.slice none 0 0, .slice none 0 0, Ab.heap_alloc_new ((s.alloc _).alloc _) _, .nil, trivial, .nil, trivial, fun k h => h.elim, fun k h => h.elim, by omega, Nat.le_refl _, by show s.next + 2 < s.next + 1 + 1 + 1; omega⟩
  generalize ((s.alloc (.row [.int .i64 0, .slice none 0 0, .int .i64 0, .int .i64 0, .int .i64 0, .int .i64 0, .int .i64 0, .int .i64 0, .int .i64 0, .int .i64 0])).alloc (.row [.int .i64 0, .int .i64 0])).alloc (.row [.int .i64 0, .slice none 0 0, .int .i64 0, .int .i64 0, .int .i64 0, .int .i64 0, .int .i64 0, .int .i64 0, .int .i64 0, .int .i64 0, .slice none 0 0]) = s3 at M0 p0 q0 c0 ⊢
  refine W_loop_inv (x.length + 1) (fun i e1 t => ∃ p l r, Mild s t ∧ Sc_ base (s.next + 2) t (s.next + 2) p l ∧ t.heap s.next = .row [.int .i64 0, .slice none 0 0, .int .i64 0, .int .i64 0, .int .i64 0, .int .i64 0, .int .i64 0, .int .i64 0, .int .i64 0, .int .i64 0] ∧ t.heap (s.next + 1) = .row [.int .i64 0, .int .i64 0] ∧ parseF x = parseL (x.length + 1 - i) i p l r ∧ r.length + i ≤ x.length ∧ p.xs.length ≤ 64 ∧ l.length ≤ 1024 ∧ 0 ≤ p.nm ∧ e1 0 = .string (strB r) ∧ e1 2 = .pointer (some ⟨s.next, 0, none⟩) ∧ e1 3 = .slice none 0 0 ∧ e1 4 = .pointer (some ⟨s.next + 1, 0, none⟩) ∧ e1 5 = .func (.func 21) #[] #[] ∧ e1 6 = .pointer (some ⟨s.next + 2, 0, none⟩) ∧ e1 7 = .int .i64 (i : Int))
    (fun y e1 t => (y = .exit 0 ∧ ∃ p l i, Mild s t ∧ Sc_ base (s.next + 2) t (s.next + 2) p l ∧ t.heap s.next = .row [.int .i64 0, .slice none 0 0, .int .i64 0, .int .i64 0, .int .i64 0, .int .i64 0, .int .i64 0, .int .i64 0, .int .i64 0, .int .i64 0] ∧ t.heap (s.next + 1) = .row [.int .i64 0, .int .i64 0] ∧ parseF x = (plChk p, i, p, l) ∧ i ≤ 200000 ∧ p.xs.length ≤ 64 ∧ 0 ≤ p.nm ∧ e1 2 = .pointer (some ⟨s.next, 0, none⟩) ∧ e1 3 = .slice none 0 0 ∧ e1 4 = .pointer (some ⟨s.next + 1, 0, none⟩) ∧ e1 5 = .func (.func 21) #[] #[] ∧ e1 6 = .pointer (some ⟨s.next + 2, 0, none⟩) ∧ e1 7 = .int .i64 (i : Int))
      ∨ (y = .ret ∧ ∃ (e : Int) (i : Nat), e ≠ 0 ∧ (parseF x).1 = e ∧ (parseF x).2.1 = i ∧ Mild s t ∧ t.heap s.next = .row [.int .i64 0, .slice none 0 0, .int .i64 0, .int .i64 0, .int .i64 0, .int .i64 0, .int .i64 0, .int .i64 0, .int .i64 0, .int .i64 0] ∧ t.heap (s.next + 1) = .row [.int .i64 e, .int .i64 (i : Int)] ∧ e1 2 = .pointer (some ⟨s.next, 0, none⟩) ∧ e1 3 = .slice none 0 0 ∧ e1 4 = .pointer (some ⟨s.next + 1, 0, none⟩))) ?_ ?_ ?_
  rotate_left
  · exact ⟨pl0, [], x, M0, c0, p0, q0, rfl, by omega, by simp [pl0], by simp, by simp [pl0], rfl, rfl, rfl, rfl, rfl, rfl, rfl⟩
  · rintro y e1 t (⟨rfl, p, l, i, M, hc, hp, hq, hF, hi, h64, hnm, e2, e3, e4, e5, e6, e7⟩ | ⟨rfl, e, i, he, hF1, hF2, M, hp, hq, e2, e3, e4⟩)
    rotate_left
    · simp (disch := first | omega | ((simp only [nxBScrParse]) <;> omega) | decide) only [↓stepPre, stepPost, ↓W_cond, ↓W_block, ↓reduceIte, Nat.reduceEqDiff, Nat.reduceLT, Nat.reduceLeDiff, ret0, stVar, isTup, Value.cells, Nat.le_refl, Nat.reduceAdd, Nat.reduceMul, Nat.reduceSub, env0, binV, intV, reduceCtorEq, pickV, nilCheckV, ptrV, unV, true_and, and_true, Nat.add_zero, Nat.zero_add, Rt, resultsV, allV, resV, Bool.not_true, Bool.not_false, calleeV, builtinV, eqV, fieldAddrV, ldVar, stN_own, stN_ownL, Int.fdiv_eq_ediv_of_nonneg, Int.reduceToNat, Int.reducePow, IntKind.bits, convV, ne_eq, not_false_eq_true, not_true_eq_false, Int.reduceNeg, Int.reduceAdd, Int.reduceSub, Int.reduceLT, Int.reduceLE, extractV, decide_true, decide_false, Int.reduceEq, mkFuncV, stBScrParse, beq_self_eq_true, tyB0ScrParse, getL_take, glBScrParse, e2, e3, e4, hp, hq, Tryd.results7]
      have := hno (by rw [hF1]; exact he) _ M
      rw [hF1, hF2] at this
      exact this
    obtain ⟨v, u, y1, y2, y3, y4, y5, y6, y7, y8, y9, y10⟩ := hc
    obtain ⟨va, vn, vc, rfl⟩ := y2.shape
    obtain ⟨ua, un, uc, rfl⟩ := y4.shape
    have y1 : t.heap (s.next + 2) = .row [.int .i64 p.no, .slice va vn vc, .int .i64 p.len, .int .i64 p.rm, .int .i64 p.nm, .int .i64 p.dr, .int .i64 p.tu, .int .i64 p.ba, .int .i64 p.st, .int .i64 p.pe, .slice ua un uc] := y1
    simp (disch := first | omega | ((simp only [nxBScrParse]) <;> omega) | decide) only [↓stepPre, stepPost, ↓W_cond, ↓W_block, ↓reduceIte, Nat.reduceEqDiff, Nat.reduceLT, Nat.reduceLeDiff, ret0, stVar, isTup, Value.cells, Nat.le_refl, Nat.reduceAdd, Nat.reduceMul, Nat.reduceSub, env0, binV, intV, reduceCtorEq, pickV, nilCheckV, ptrV, unV, true_and, and_true, Nat.add_zero, Nat.zero_add, Rt, resultsV, allV, resV, Bool.not_true, Bool.not_false, calleeV, builtinV, eqV, fieldAddrV, ldVar, stN_own, stN_ownL, Int.fdiv_eq_ediv_of_nonneg, Int.reduceToNat, Int.reducePow, IntKind.bits, convV, ne_eq, not_false_eq_true, not_true_eq_false, Int.reduceNeg, Int.reduceAdd, Int.reduceSub, Int.reduceLT, Int.reduceLE, extractV, decide_true, decide_false, Int.reduceEq, mkFuncV, stBScrParse, beq_self_eq_true, tyB0ScrParse, getL_take, glBScrParse, e2, e3, e4, e5, e6, e7, y1]
    refine check38_ok (v := .slice va vn vc) (p := p) y2 (by omega) (by omega) (by omega) fun t2 M2 => ?_
    have M2' := M.trans M2
    have n2 := M2.next
    have y1' := (M2.heap (s.next + 2) y10).trans y1
    have hp2 := (M2.heap s.next (by omega)).trans hp
    have hq2 := (M2.heap (s.next + 1) (by omega)).trans hq
    by_cases he : plChk p = 0
    · rw [he]
      simp (disch := first | omega | ((simp only [nxBScrParse]) <;> omega) | decide) only [↓stepPre, stepPost, ↓W_cond, ↓W_block, ↓reduceIte, Nat.reduceEqDiff, Nat.reduceLT, Nat.reduceLeDiff, ret0, stVar, isTup, Value.cells, Nat.le_refl, Nat.reduceAdd, Nat.reduceMul, Nat.reduceSub, env0, binV, intV, reduceCtorEq, pickV, nilCheckV, ptrV, unV, true_and, and_true, Nat.add_zero, Nat.zero_add, Rt, resultsV, allV, resV, Bool.not_true, Bool.not_false, calleeV, builtinV, eqV, fieldAddrV, ldVar, stN_own, stN_ownL, Int.fdiv_eq_ediv_of_nonneg, Int.reduceToNat, Int.reducePow, IntKind.bits, convV, ne_eq, not_false_eq_true, not_true_eq_false, Int.reduceNeg, Int.reduceAdd, Int.reduceSub, Int.reduceLT, Int.reduceLE, extractV, decide_true, decide_false, Int.reduceEq, mkFuncV, stBScrParse, beq_self_eq_true, tyB0ScrParse, getL_take, glBScrParse, e2, e3, e4, e5, e6, e7, eq_self]
      refine W_draw (fun k => k == 5 || k == 7) (fun k => k == 3) (fun k => k == s.next + 2) (by kernel_rfl) (by kernel_rfl) ?_
      simp (disch := first | omega | ((simp only [nxBScrParse]) <;> omega) | decide) only [↓stepPre, stepPost, ↓W_cond, ↓W_block, ↓reduceIte, Nat.reduceEqDiff, Nat.reduceLT, Nat.reduceLeDiff, ret0, stVar, isTup, Value.cells, Nat.le_refl, Nat.reduceAdd, Nat.reduceMul, Nat.reduceSub, env0, binV, intV, reduceCtorEq, pickV, nilCheckV, ptrV, unV, true_and, and_true, Nat.add_zero, Nat.zero_add, Rt, resultsV, allV, resV, Bool.not_true, Bool.not_false, calleeV, builtinV, eqV, fieldAddrV, ldVar, stN_own, stN_ownL, Int.fdiv_eq_ediv_of_nonneg, Int.reduceToNat, Int.reducePow, IntKind.bits, convV, ne_eq, not_false_eq_true, not_true_eq_false, Int.reduceNeg, Int.reduceAdd, Int.reduceSub, Int.reduceLT, Int.reduceLE, extractV, decide_true, decide_false, Int.reduceEq, mkFuncV, stBScrParse, beq_self_eq_true, tyB0ScrParse, getL_take, glBScrParse, e2, e3, e4, e5, e6, e7, y1', hp2, hq2, buildV, fillL, putAt_row, setL]
      refine ⟨fun h => by simp at h, fun _ => ⟨by show (s.next + 2 == s.next + 2) = true; simp, by show s.next + 2 < t2.next; omega⟩, ?_⟩
      refine ⟨.inr ⟨rfl, Nat.le_refl _, fun j hj hjn => Ab.heap_upd_ne _ _ (by have : j = s.next + 2 := (by simpa using hj); omega)⟩, .inr ⟨rfl, Nat.le_refl _, fun j hj hjn => Ab.heap_upd_ne _ _ (by have : j = s.next + 2 := (by simpa using hj); omega)⟩, ?_⟩
      simp (disch := first | omega | ((simp only [nxBScrParse]) <;> omega) | decide) only [↓stepPre, stepPost, ↓W_cond, ↓W_block, ↓reduceIte, Nat.reduceEqDiff, Nat.reduceLT, Nat.reduceLeDiff, ret0, stVar, isTup, Value.cells, Nat.le_refl, Nat.reduceAdd, Nat.reduceMul, Nat.reduceSub, env0, binV, intV, reduceCtorEq, pickV, nilCheckV, ptrV, unV, true_and, and_true, Nat.add_zero, Nat.zero_add, Rt, resultsV, allV, resV, Bool.not_true, Bool.not_false, calleeV, builtinV, eqV, fieldAddrV, ldVar, stN_own, stN_ownL, Int.fdiv_eq_ediv_of_nonneg, Int.reduceToNat, Int.reducePow, IntKind.bits, convV, ne_eq, not_false_eq_true, not_true_eq_false, Int.reduceNeg, Int.reduceAdd, Int.reduceSub, Int.reduceLT, Int.reduceLE, extractV, decide_true, decide_false, Int.reduceEq, mkFuncV, stBScrParse, beq_self_eq_true, tyB0ScrParse, getL_take, glBScrParse, e2, e3, e4, hp2, hq2, Tryd.results7]
      have key := hok (by rw [hF]; exact he)
      rw [hF] at key
      exact key _ (.slice va vn vc) (.slice ua un uc) ((M2'.upd' (Nat.le_refl _)).upd' (by omega))
        ((y2.mild M2).frame (fun a n c e => by
          have := (y6 a.block (by rw [e]; rfl)).1
          rw [Ab.heap_upd_ne _ _ (by omega), Ab.heap_upd_ne _ _ (by omega)]) (Nat.le_refl _))
        ((y4.mild M2).frame (fun a n c e => by
          have := (y7 a.block (by rw [e]; rfl)).1
          rw [Ab.heap_upd_ne _ _ (by omega), Ab.heap_upd_ne _ _ (by omega)]) (Nat.le_refl _))
    · simp (disch := first | omega | ((simp only [nxBScrParse]) <;> omega) | decide) only [↓stepPre, stepPost, ↓W_cond, ↓W_block, ↓reduceIte, Nat.reduceEqDiff, Nat.reduceLT, Nat.reduceLeDiff, ret0, stVar, isTup, Value.cells, Nat.le_refl, Nat.reduceAdd, Nat.reduceMul, Nat.reduceSub, env0, binV, intV, reduceCtorEq, pickV, nilCheckV, ptrV, unV, true_and, and_true, Nat.add_zero, Nat.zero_add, Rt, resultsV, allV, resV, Bool.not_true, Bool.not_false, calleeV, builtinV, eqV, fieldAddrV, ldVar, stN_own, stN_ownL, Int.fdiv_eq_ediv_of_nonneg, Int.reduceToNat, Int.reducePow, IntKind.bits, convV, ne_eq, not_false_eq_true, not_true_eq_false, Int.reduceNeg, Int.reduceAdd, Int.reduceSub, Int.reduceLT, Int.reduceLE, extractV, decide_true, decide_false, Int.reduceEq, mkFuncV, stBScrParse, beq_self_eq_true, tyB0ScrParse, getL_take, glBScrParse, e2, e3, e4, e5, e6, e7, he]
      refine wrong38_ok (by omega) fun t3 M3 => ?_
      have hp3 := (M3.heap s.next (by omega)).trans hp2
      have hq3 := (M3.heap (s.next + 1) (by omega)).trans hq2
      have n3 := M3.next
      simp (disch := first | omega | ((simp only [nxBScrParse]) <;> omega) | decide) only [↓stepPre, stepPost, ↓W_cond, ↓W_block, ↓reduceIte, Nat.reduceEqDiff, Nat.reduceLT, Nat.reduceLeDiff, ret0, stVar, isTup, Value.cells, Nat.le_refl, Nat.reduceAdd, Nat.reduceMul, Nat.reduceSub, env0, binV, intV, reduceCtorEq, pickV, nilCheckV, ptrV, unV, true_and, and_true, Nat.add_zero, Nat.zero_add, Rt, resultsV, allV, resV, Bool.not_true, Bool.not_false, calleeV, builtinV, eqV, fieldAddrV, ldVar, stN_own, stN_ownL, Int.fdiv_eq_ediv_of_nonneg, Int.reduceToNat, Int.reducePow, IntKind.bits, convV, ne_eq, not_false_eq_true, not_true_eq_false, Int.reduceNeg, Int.reduceAdd, Int.reduceSub, Int.reduceLT, Int.reduceLE, extractV, decide_true, decide_false, Int.reduceEq, mkFuncV, stBScrParse, beq_self_eq_true, tyB0ScrParse, getL_take, glBScrParse, e2, e3, e4, e7, hp3, hq3, putAt_row, setL, Tryd.results7]
      have key := hno (by rw [hF]; exact he)
      rw [hF] at key
      exact key _ (((M2'.trans M3).upd' (Nat.le_refl _)).upd' (by omega))
  rintro i e1 t hi ⟨p, l, r, M, hc, hp, hq, hF, hrl, h64, h1024, hnm, e0, e2, e3, e4, e5, e6, e7⟩
  obtain ⟨mx, hmx⟩ := (hL.mild M hbn).most
  simp (disch := first | omega | ((simp only [nxBScrParse]) <;> omega) | decide) only [↓stepPre, stepPost, ↓W_cond, ↓W_block, ↓reduceIte, Nat.reduceEqDiff, Nat.reduceLT, Nat.reduceLeDiff, ret0, stVar, isTup, Value.cells, Nat.le_refl, Nat.reduceAdd, Nat.reduceMul, Nat.reduceSub, env0, binV, intV, reduceCtorEq, pickV, nilCheckV, ptrV, unV, true_and, and_true, Nat.add_zero, Nat.zero_add, Rt, resultsV, allV, resV, Bool.not_true, Bool.not_false, calleeV, builtinV, eqV, fieldAddrV, ldVar, stN_own, stN_ownL, Int.fdiv_eq_ediv_of_nonneg, Int.reduceToNat, Int.reducePow, IntKind.bits, convV, ne_eq, not_false_eq_true, not_true_eq_false, Int.reduceNeg, Int.reduceAdd, Int.reduceSub, Int.reduceLT, Int.reduceLE, extractV, decide_true, decide_false, Int.reduceEq, mkFuncV, stBScrParse, beq_self_eq_true, tyB0ScrParse, getL_take, glBScrParse, e0, e2, e3, e4, e5, e6, e7]
  refine cut38_p (b := [10]) (by omega) hmx ?_
  have hon : s.next + 2 < t.next := by obtain ⟨v, u, y1, y2, y3, y4, y5, y6, y7, y8, y9, y10⟩ := hc; exact y10
  obtain ⟨f, hf⟩ : ∃ f, x.length + 1 - i = f + 1 := ⟨x.length - i, by omega⟩
  rw [hf, parseL] at hF
  by_cases hA : r = [] ∧ 6 ≤ i
  · obtain ⟨rfl, hi6⟩ := hA
    rw [if_pos ⟨rfl, hi6⟩] at hF
    rw [cut_out (c := 10) (x := []) rfl]
    have g6 : (i : Int) ≥ 6 := by omega
    have g6' : 6 ≤ (i : Int) := by omega
    simp (disch := first | omega | ((simp only [nxBScrParse]) <;> omega) | decide) only [↓stepPre, stepPost, ↓W_cond, ↓W_block, ↓reduceIte, Nat.reduceEqDiff, Nat.reduceLT, Nat.reduceLeDiff, ret0, stVar, isTup, Value.cells, Nat.le_refl, Nat.reduceAdd, Nat.reduceMul, Nat.reduceSub, env0, binV, intV, reduceCtorEq, pickV, nilCheckV, ptrV, unV, true_and, and_true, Nat.add_zero, Nat.zero_add, Rt, resultsV, allV, resV, Bool.not_true, Bool.not_false, calleeV, builtinV, eqV, fieldAddrV, ldVar, stN_own, stN_ownL, Int.fdiv_eq_ediv_of_nonneg, Int.reduceToNat, Int.reducePow, IntKind.bits, convV, ne_eq, not_false_eq_true, not_true_eq_false, Int.reduceNeg, Int.reduceAdd, Int.reduceSub, Int.reduceLT, Int.reduceLE, extractV, decide_true, decide_false, Int.reduceEq, mkFuncV, stBScrParse, beq_self_eq_true, tyB0ScrParse, getL_take, glBScrParse, e0, e2, e3, e4, e5, e6, e7, eqlStrV, eq_self, g6, g6']
    exact .inl ⟨p, l, i, M, hc, hp, hq, hF, by omega, h64, hnm, rfl⟩
  rw [if_neg hA] at hF
  by_cases hB : r.count 10 = 0
  · rw [if_pos hB] at hF
    rw [cut_out hB]
    have fin : ∀ t2, Mild t t2 → Mild s ((t2.upd s.next (.row [.int .i64 0, .slice none 0 0, .int .i64 0, .int .i64 0, .int .i64 0, .int .i64 0, .int .i64 0, .int .i64 0, .int .i64 0, .int .i64 0])).upd (s.next + 1) (.row [.int .i64 12, .int .i64 (i : Int)])) := fun t2 M2 => ((M.trans M2).upd' (Nat.le_refl _)).upd' (by omega)
    by_cases hr0 : r = []
    · have g6 : ¬ (i : Int) ≥ 6 := fun h => hA ⟨hr0, by omega⟩
      have g6' : ¬ 6 ≤ (i : Int) := g6
      simp (disch := first | omega | ((simp only [nxBScrParse]) <;> omega) | decide) only [↓stepPre, stepPost, ↓W_cond, ↓W_block, ↓reduceIte, Nat.reduceEqDiff, Nat.reduceLT, Nat.reduceLeDiff, ret0, stVar, isTup, Value.cells, Nat.le_refl, Nat.reduceAdd, Nat.reduceMul, Nat.reduceSub, env0, binV, intV, reduceCtorEq, pickV, nilCheckV, ptrV, unV, true_and, and_true, Nat.add_zero, Nat.zero_add, Rt, resultsV, allV, resV, Bool.not_true, Bool.not_false, calleeV, builtinV, eqV, fieldAddrV, ldVar, stN_own, stN_ownL, Int.fdiv_eq_ediv_of_nonneg, Int.reduceToNat, Int.reducePow, IntKind.bits, convV, ne_eq, not_false_eq_true, not_true_eq_false, Int.reduceNeg, Int.reduceAdd, Int.reduceSub, Int.reduceLT, Int.reduceLE, extractV, decide_true, decide_false, Int.reduceEq, mkFuncV, stBScrParse, beq_self_eq_true, tyB0ScrParse, getL_take, glBScrParse, e0, e2, e3, e4, e5, e6, e7, eqlStrV, hr0, eq_self, g6, g6']
      refine wrong38_ok (by have := M.next; omega) fun t2 M2 => ?_
      have hp2 := (M2.heap s.next (by omega)).trans hp
      have hq2 := (M2.heap (s.next + 1) (by omega)).trans hq
      have n2 := M2.next
      simp (disch := first | omega | ((simp only [nxBScrParse]) <;> omega) | decide) only [↓stepPre, stepPost, ↓W_cond, ↓W_block, ↓reduceIte, Nat.reduceEqDiff, Nat.reduceLT, Nat.reduceLeDiff, ret0, stVar, isTup, Value.cells, Nat.le_refl, Nat.reduceAdd, Nat.reduceMul, Nat.reduceSub, env0, binV, intV, reduceCtorEq, pickV, nilCheckV, ptrV, unV, true_and, and_true, Nat.add_zero, Nat.zero_add, Rt, resultsV, allV, resV, Bool.not_true, Bool.not_false, calleeV, builtinV, eqV, fieldAddrV, ldVar, stN_own, stN_ownL, Int.fdiv_eq_ediv_of_nonneg, Int.reduceToNat, Int.reducePow, IntKind.bits, convV, ne_eq, not_false_eq_true, not_true_eq_false, Int.reduceNeg, Int.reduceAdd, Int.reduceSub, Int.reduceLT, Int.reduceLE, extractV, decide_true, decide_false, Int.reduceEq, mkFuncV, stBScrParse, beq_self_eq_true, tyB0ScrParse, getL_take, glBScrParse, e2, e3, e4, e7, hp2, hq2, putAt_row, setL]
      exact .inr ⟨12, i, by decide, by rw [hF], by rw [hF], ((M.trans M2).upd' (Nat.le_refl _)).upd' (by omega), rfl, rfl⟩
    · simp (disch := first | omega | ((simp only [nxBScrParse]) <;> omega) | decide) only [↓stepPre, stepPost, ↓W_cond, ↓W_block, ↓reduceIte, Nat.reduceEqDiff, Nat.reduceLT, Nat.reduceLeDiff, ret0, stVar, isTup, Value.cells, Nat.le_refl, Nat.reduceAdd, Nat.reduceMul, Nat.reduceSub, env0, binV, intV, reduceCtorEq, pickV, nilCheckV, ptrV, unV, true_and, and_true, Nat.add_zero, Nat.zero_add, Rt, resultsV, allV, resV, Bool.not_true, Bool.not_false, calleeV, builtinV, eqV, fieldAddrV, ldVar, stN_own, stN_ownL, Int.fdiv_eq_ediv_of_nonneg, Int.reduceToNat, Int.reducePow, IntKind.bits, convV, ne_eq, not_false_eq_true, not_true_eq_false, Int.reduceNeg, Int.reduceAdd, Int.reduceSub, Int.reduceLT, Int.reduceLE, extractV, decide_true, decide_false, Int.reduceEq, mkFuncV, stBScrParse, beq_self_eq_true, tyB0ScrParse, getL_take, glBScrParse, e0, e2, e3, e4, e5, e6, e7, eqlStrV, hr0]
      refine wrong38_ok (by have := M.next; omega) fun t2 M2 => ?_
      have hp2 := (M2.heap s.next (by omega)).trans hp
      have hq2 := (M2.heap (s.next + 1) (by omega)).trans hq
      have n2 := M2.next
      simp (disch := first | omega | ((simp only [nxBScrParse]) <;> omega) | decide) only [↓stepPre, stepPost, ↓W_cond, ↓W_block, ↓reduceIte, Nat.reduceEqDiff, Nat.reduceLT, Nat.reduceLeDiff, ret0, stVar, isTup, Value.cells, Nat.le_refl, Nat.reduceAdd, Nat.reduceMul, Nat.reduceSub, env0, binV, intV, reduceCtorEq, pickV, nilCheckV, ptrV, unV, true_and, and_true, Nat.add_zero, Nat.zero_add, Rt, resultsV, allV, resV, Bool.not_true, Bool.not_false, calleeV, builtinV, eqV, fieldAddrV, ldVar, stN_own, stN_ownL, Int.fdiv_eq_ediv_of_nonneg, Int.reduceToNat, Int.reducePow, IntKind.bits, convV, ne_eq, not_false_eq_true, not_true_eq_false, Int.reduceNeg, Int.reduceAdd, Int.reduceSub, Int.reduceLT, Int.reduceLE, extractV, decide_true, decide_false, Int.reduceEq, mkFuncV, stBScrParse, beq_self_eq_true, tyB0ScrParse, getL_take, glBScrParse, e2, e3, e4, e7, hp2, hq2, putAt_row, setL]
      exact .inr ⟨12, i, by decide, by rw [hF], by rw [hF], ((M.trans M2).upd' (Nat.le_refl _)).upd' (by omega), rfl, rfl⟩
  rw [if_neg hB] at hF
  obtain ⟨l1, r1, k1, k2, k3, k4⟩ := cut_in (c := 10) (x := r) (by omega)
  rw [k1] at hF ⊢
  simp only at hF
  have hr0 : ¬ r = [] := fun h => by rw [h] at hB; exact hB rfl
  have hl : r.length = l1.length + 1 + r1.length := by rw [k2]; simp; omega
  simp (disch := first | omega | ((simp only [nxBScrParse]) <;> omega) | decide) only [↓stepPre, stepPost, ↓W_cond, ↓W_block, ↓reduceIte, Nat.reduceEqDiff, Nat.reduceLT, Nat.reduceLeDiff, ret0, stVar, isTup, Value.cells, Nat.le_refl, Nat.reduceAdd, Nat.reduceMul, Nat.reduceSub, env0, binV, intV, reduceCtorEq, pickV, nilCheckV, ptrV, unV, true_and, and_true, Nat.add_zero, Nat.zero_add, Rt, resultsV, allV, resV, Bool.not_true, Bool.not_false, calleeV, builtinV, eqV, fieldAddrV, ldVar, stN_own, stN_ownL, Int.fdiv_eq_ediv_of_nonneg, Int.reduceToNat, Int.reducePow, IntKind.bits, convV, ne_eq, not_false_eq_true, not_true_eq_false, Int.reduceNeg, Int.reduceAdd, Int.reduceSub, Int.reduceLT, Int.reduceLE, extractV, decide_true, decide_false, Int.reduceEq, mkFuncV, stBScrParse, beq_self_eq_true, tyB0ScrParse, getL_take, glBScrParse, e0, e2, e3, e4, e5, e6, e7, eqlStrV, hr0]
  refine sline_ok hc (x := l1) (by omega) (hL.mild M hbn) h64 h1024 (by omega) fun t2 n2 f2 c2 => ?_
  have M2 : Mild s t2 := ⟨by have := M.next; omega, fun k hk => by rw [f2 k (by omega)]; exact M.heap k hk⟩
  have hp2 := (f2 s.next (by omega)).trans hp
  have hq2 := (f2 (s.next + 1) (by omega)).trans hq
  by_cases he : (lineF i p l l1).1 = 0
  · rw [if_neg (fun h => h he)] at hF
    have kp := lineF_keep he h64 h1024 hnm
    have hc2 := c2 he
    rw [he]
    simp (disch := first | omega | ((simp only [nxBScrParse]) <;> omega) | decide) only [↓stepPre, stepPost, ↓W_cond, ↓W_block, ↓reduceIte, Nat.reduceEqDiff, Nat.reduceLT, Nat.reduceLeDiff, ret0, stVar, isTup, Value.cells, Nat.le_refl, Nat.reduceAdd, Nat.reduceMul, Nat.reduceSub, env0, binV, intV, reduceCtorEq, pickV, nilCheckV, ptrV, unV, true_and, and_true, Nat.add_zero, Nat.zero_add, Rt, resultsV, allV, resV, Bool.not_true, Bool.not_false, calleeV, builtinV, eqV, fieldAddrV, ldVar, stN_own, stN_ownL, Int.fdiv_eq_ediv_of_nonneg, Int.reduceToNat, Int.reducePow, IntKind.bits, convV, ne_eq, not_false_eq_true, not_true_eq_false, Int.reduceNeg, Int.reduceAdd, Int.reduceSub, Int.reduceLT, Int.reduceLE, extractV, decide_true, decide_false, Int.reduceEq, mkFuncV, stBScrParse, beq_self_eq_true, tyB0ScrParse, getL_take, glBScrParse, e0, e2, e3, e4, e5, e6, e7, eq_self]
    exact ⟨by omega, _, _, r1, M2, hc2, hp2, hq2, by rw [hF, show x.length + 1 - (i + 1) = f by omega], by omega, kp.1, kp.2.1, kp.2.2, rfl, by simp⟩
  · rw [if_pos he] at hF
    simp (disch := first | omega | ((simp only [nxBScrParse]) <;> omega) | decide) only [↓stepPre, stepPost, ↓W_cond, ↓W_block, ↓reduceIte, Nat.reduceEqDiff, Nat.reduceLT, Nat.reduceLeDiff, ret0, stVar, isTup, Value.cells, Nat.le_refl, Nat.reduceAdd, Nat.reduceMul, Nat.reduceSub, env0, binV, intV, reduceCtorEq, pickV, nilCheckV, ptrV, unV, true_and, and_true, Nat.add_zero, Nat.zero_add, Rt, resultsV, allV, resV, Bool.not_true, Bool.not_false, calleeV, builtinV, eqV, fieldAddrV, ldVar, stN_own, stN_ownL, Int.fdiv_eq_ediv_of_nonneg, Int.reduceToNat, Int.reducePow, IntKind.bits, convV, ne_eq, not_false_eq_true, not_true_eq_false, Int.reduceNeg, Int.reduceAdd, Int.reduceSub, Int.reduceLT, Int.reduceLE, extractV, decide_true, decide_false, Int.reduceEq, mkFuncV, stBScrParse, beq_self_eq_true, tyB0ScrParse, getL_take, glBScrParse, e0, e2, e3, e4, e5, e6, e7, he]
    refine wrong38_ok (by have := M2.next; omega) fun t3 M3 => ?_
    have hp3 := (M3.heap s.next (by omega)).trans hp2
    have hq3 := (M3.heap (s.next + 1) (by omega)).trans hq2
    have n3 := M3.next
    simp (disch := first | omega | ((simp only [nxBScrParse]) <;> omega) | decide) only [↓stepPre, stepPost, ↓W_cond, ↓W_block, ↓reduceIte, Nat.reduceEqDiff, Nat.reduceLT, Nat.reduceLeDiff, ret0, stVar, isTup, Value.cells, Nat.le_refl, Nat.reduceAdd, Nat.reduceMul, Nat.reduceSub, env0, binV, intV, reduceCtorEq, pickV, nilCheckV, ptrV, unV, true_and, and_true, Nat.add_zero, Nat.zero_add, Rt, resultsV, allV, resV, Bool.not_true, Bool.not_false, calleeV, builtinV, eqV, fieldAddrV, ldVar, stN_own, stN_ownL, Int.fdiv_eq_ediv_of_nonneg, Int.reduceToNat, Int.reducePow, IntKind.bits, convV, ne_eq, not_false_eq_true, not_true_eq_false, Int.reduceNeg, Int.reduceAdd, Int.reduceSub, Int.reduceLT, Int.reduceLE, extractV, decide_true, decide_false, Int.reduceEq, mkFuncV, stBScrParse, beq_self_eq_true, tyB0ScrParse, getL_take, glBScrParse, e2, e3, e4, e7, hp3, hq3, putAt_row, setL]
    exact .inr ⟨_, i, he, by rw [hF], by rw [hF], ((M2.trans M3).upd' (Nat.le_refl _)).upd' (by omega), rfl, rfl⟩
end Go.Proofs.YthjpfllmecpliaaDoor
