/- A script's line, taken (the package script): as a contract. -/
import Derived.Test.YthjpfllmecpliaaDoorTypes
import Derived.Test.YthjpfllmecpliaaDoorRow0
import Derived.Test.YthjpfllmecpliaaDoorAbC
import Derived.Test.YthjpfllmecpliaaDoorOwnOf
import Derived.Test.YthjpfllmecpliaaDoorAsks
import Derived.Test.YthjpfllmecpliaaDoorPure
import Derived.Test.YthjpfllmecpliaaDoorBoxes
import Derived.Test.YthjpfllmecpliaaDoorScrActs
set_option linter.all false
set_option maxRecDepth 20000
namespace Go.Proofs.YthjpfllmecpliaaDoor
open Go Go.Ab
def nxBScrTake := And.intro @Ab.next_alloc (And.intro @Ab.next_upd (And.intro @List.length_cons.{0} (And.intro @List.length_nil.{0} (And.intro @ne_eq.{1} (And.intro not_true_eq_false not_false_eq_true)))))
def tyB0ScrTake := And.intro @Ty.t9 (And.intro @Tryd.underlying9 (And.intro @Ty.t52 (And.intro @Tryd.underlying52 (And.intro @Ty.t26 (And.intro @Tryd.underlying26 (And.intro @Ty.t55 (And.intro @Tryd.underlying55 (And.intro @Ty.t22 (And.intro @Tryd.underlying22 (And.intro @Ty.t45 (And.intro @Tryd.underlying45 (And.intro @Ty.t27 (And.intro @Tryd.underlying27 (And.intro @Ty.t60 (And.intro @Tryd.underlying60 (And.intro @Ty.t96 (And.intro @Tryd.underlying96 (And.intro @Ty.t29 (And.intro @Tryd.underlying29 (And.intro @Ty.t2 (And.intro @Tryd.underlying2 (And.intro @Ty.t3 (And.intro @Tryd.underlying3 (And.intro @Ty.t4 @Tryd.underlying4))))))))))))))))))))))))
def stBScrTake := And.intro @List.size_toArray.{0} (And.intro @List.length_cons.{0} (And.intro @List.length_nil.{0} (And.intro @List.set_cons_zero.{0} (And.intro @List.set_cons_succ.{0} (And.intro @List.getD_cons_zero.{0} (And.intro @List.getD_cons_succ.{0} (And.intro @List.getElem?_cons_succ.{0} (And.intro @List.getElem?_cons_zero.{0} (And.intro @List.map_cons.{0,0} (And.intro @List.map_nil.{0,0} (And.intro @Option.isNone_none.{0} (And.intro @Option.isNone_some.{0} (And.intro @Option.map_some.{0,0} (And.intro @Option.map_none.{0,0} (And.intro @List.cons_append.{0} (And.intro @List.nil_append.{0} (And.intro @List.append_nil.{0} (And.intro @Array.toList_append.{0} (And.intro @List.toList_toArray.{0} (And.intro @Int.cast_ofNat_Int (And.intro @Option.isSome_some.{0} (And.intro @List.getElem?_toArray.{0} (And.intro @List.map_toArray.{0,0} (@Nat.min_eq_left))))))))))))))))))))))))
def glBScrTake := And.intro @List.drop_zero.{0} (And.intro @List.drop_succ_cons.{0} (And.intro @List.take_succ_cons.{0} (And.intro @List.take_zero.{0} (@List.take_nil.{0}))))
variable {base : Nat} [Bok base] {s : St} {R : Value → St → Prop}
/-- What was read up to now, in memory. -/
def Sc_ (base lo : Nat) (t : St) (o : Nat) (p : Pl) (l : List Ac) : Prop :=
  ∃ v u, t.heap o = .row (p.c v ++ [u]) ∧ Sl base t 7 v (smL p.xs) ∧ Tight base v ∧ Sl base t 11 u (acL l) ∧ Tight base u ∧ (∀ k, inB v k → lo ≤ k ∧ k ≠ o ∧ ¬ inB u k) ∧ (∀ k, inB u k → lo ≤ k ∧ k ≠ o) ∧ base ≤ lo ∧ lo ≤ o ∧ o < t.next
def headP : Nat → Pl → List Nat → Pl
  | 0, p, ns => { p with no := (ns.getD 0 0 : Nat) }
  | 1, p, ns => { p with len := (ns.getD 0 0 : Nat) }
  | 2, p, ns => { p with rm := (ns.getD 0 0 : Nat) }
  | 3, p, ns => { p with nm := (ns.getD 0 0 : Nat), dr := (ns.getD 1 0 : Nat) }
  | 4, p, ns => { p with tu := (ns.getD 0 0 : Nat) }
  | _, p, ns => { p with ba := (ns.getD 0 0 : Nat), st := (ns.getD 1 0 : Nat), pe := (ns.getD 2 0 : Nat) }
def lineF (at_ : Nat) (p : Pl) (l : List Ac) (x : List UInt8) : Int × Pl × List Ac :=
  if at_ < 6 then (if headB at_ x = true then (0, headP at_ p ((partW 32 x).tail.map valL), l) else (12, p, l))
  else if streamB x = true ∧ l.length = 0 ∧ p.xs.length < 64 then (0, { p with xs := p.xs ++ [streamV x] }, l)
  else if actB x = true ∧ l.length < 1024 then (0, p, l ++ [actA x])
  else if actB x = true ∨ (streamB x = true ∧ l.length = 0) then (11, p, l)
  else (12, p, l)
theorem headP_set {at_ : Nat} {p : Pl} {v u : Value} {ns : List Nat} (h : at_ ≤ 5) (hn : ns.length = (headO at_).length) : setAll (p.c v ++ [u]) (headO at_) ns = (headP at_ p ns).c v ++ [u] := by
  have hc : at_ = 0 ∨ at_ = 1 ∨ at_ = 2 ∨ at_ = 3 ∨ at_ = 4 ∨ at_ = 5 := by omega
  rcases hc with rfl | rfl | rfl | rfl | rfl | rfl
  · match ns, hn with | [a], _ => rfl
  · match ns, hn with | [a], _ => rfl
  · match ns, hn with | [a], _ => rfl
  · match ns, hn with | [a, b], _ => rfl
  · match ns, hn with | [a], _ => rfl
  · match ns, hn with | [a, b, c], _ => rfl
theorem headP_xs (at_ : Nat) (p : Pl) (ns : List Nat) : (headP at_ p ns).xs = p.xs := by
  unfold headP; split <;> rfl
theorem sc_app7 {v : Value} {xs : List Sm} {X : Sm} (hs : Sl base s 7 v (smL xs)) (ht : Tight base v) (hbn : base ≤ s.next) (hl : xs.length ≤ 1000) :
    buildSliceV Tryd.prog s 22 1 [(0, .agg X.c.toArray)] = some (.slice (some ⟨s.next, 0, none⟩) 1 1, s.alloc (.row X.c)) ∧ ∃ va vn vc s', appendB Tryd.prog base (s.alloc (.row X.c)) [22, 22] [v, .slice (some ⟨s.next, 0, none⟩) 1 1] = some (.slice va vn vc, s') ∧ Sl base s' 7 (.slice va vn vc) (smL (xs ++ [X])) ∧ Tight base (.slice va vn vc) ∧ (∀ b, inB (.slice va vn vc) b → s.next ≤ b) ∧ Ch s s' (inB v) ∧ s.next + 1 ≤ s'.next := by
  have hb := build1 (P := Tryd.prog) (s := s) (l := X.c) (zr := [.int .i64 0, .int .i64 0, .int .i64 0, .int .i64 0, .int .i64 0, .int .i64 0, .int .i64 0]) Ty.elem22 Ty.siz55 Ty.zer55 rfl rfl (by omega) (by omega)
  refine ⟨hb, ?_⟩
  have hnew : Sl base (s.alloc (.row X.c)) 7 (.slice (some ⟨s.next, 0, none⟩) 1 1) [X.c] := .newRow (Ab.heap_alloc_new _ _) (by simp) rfl (by simp) (by omega) (by simp only [Ab.next_alloc]; omega)
  obtain ⟨v', s', e1, e2, e3, e4, e5, e6⟩ := appB_ok (P := Tryd.prog) (hs.mild (Mild.alloc s (.row X.c))) ht (by simp only [Ab.next_alloc]; omega) Ty.elem22 Ty.int22 Ty.und22 Ty.siz55 (by decide) Ty.zer55 rfl Ty.byt55 hnew (by simp [smL_len]; omega)
  obtain ⟨va, vn, vc, rfl⟩ := e2.shape
  refine ⟨va, vn, vc, s', e1, by simpa [smL] using e2, e3, fun b hb => ?_, Ch.after (Ch.of_mild (Mild.alloc s _) (inB v)) e4 fun k hk he => he, e4.next⟩
  have := e5 (by simp) b hb
  simp only [Ab.next_alloc] at this; omega
theorem sc_app11 {u : Value} {l : List Ac} {a : Ac} (hs : Sl base s 11 u (acL l)) (ht : Tight base u) (ha : a.good) (hbn : base ≤ s.next) (hl : l.length ≤ 2000) :
    buildSliceV Tryd.prog s 27 1 [(0, .agg a.c.toArray)] = some (.slice (some ⟨s.next, 0, none⟩) 1 1, s.alloc (.row a.c)) ∧ ∃ va vn vc s', appendB Tryd.prog base (s.alloc (.row a.c)) [27, 27] [u, .slice (some ⟨s.next, 0, none⟩) 1 1] = some (.slice va vn vc, s') ∧ Sl base s' 11 (.slice va vn vc) (acL (l ++ [a])) ∧ Tight base (.slice va vn vc) ∧ (∀ b, inB (.slice va vn vc) b → s.next ≤ b) ∧ Ch s s' (inB u) ∧ s.next + 1 ≤ s'.next := by
  have hac : a.c.length = 11 := by simp [Ac.c, actC, bC_len, ha.1]
  have hb := build1 (P := Tryd.prog) (s := s) (l := a.c) (zr := [.int .i64 0, .int .i64 0, .int .i64 0, .int .u8 0, .int .u8 0, .int .u8 0, .int .u8 0, .int .u8 0, .int .u8 0, .int .u8 0, .int .u8 0]) Ty.elem27 Ty.siz45 Ty.zer45 hac rfl (by omega) (by omega)
  refine ⟨hb, ?_⟩
  have hnew : Sl base (s.alloc (.row a.c)) 11 (.slice (some ⟨s.next, 0, none⟩) 1 1) [a.c] := .newRow (Ab.heap_alloc_new _ _) (by simp) rfl (by simp [hac]) (by omega) (by simp only [Ab.next_alloc]; omega)
  obtain ⟨v', s', e1, e2, e3, e4, e5, e6⟩ := appB_ok (P := Tryd.prog) (hs.mild (Mild.alloc s (.row a.c))) ht (by simp only [Ab.next_alloc]; omega) Ty.elem27 Ty.int27 Ty.und27 Ty.siz45 (by decide) Ty.zer45 rfl Ty.byt45 hnew (by simp [acL_len]; omega)
  obtain ⟨va, vn, vc, rfl⟩ := e2.shape
  refine ⟨va, vn, vc, s', e1, by simpa [acL] using e2, e3, fun b hb => ?_, Ch.after (Ch.of_mild (Mild.alloc s _) (inB u)) e4 fun k hk he => he, e4.next⟩
  have := e5 (by simp) b hb
  simp only [Ab.next_alloc] at this; omega
theorem st7 {X : Sm} (hb : base ≤ s.next) : stN base (s.alloc (.row [.int .i64 0, .int .i64 0, .int .i64 0, .int .i64 0, .int .i64 0, .int .i64 0, .int .i64 0])) ⟨s.next, 0, none⟩ X.c = some (s.alloc (.row X.c)) := by
  rw [stN_ownL hb (by show 0 < 7; omega), Ab.heap_alloc_new, show putAt (.row [.int .i64 0, .int .i64 0, .int .i64 0, .int .i64 0, .int .i64 0, .int .i64 0, .int .i64 0]) 0 X.c = some (.row X.c) from rfl, updO_some, alloc_upd]
theorem st11 {a : Ac} (hb : base ≤ s.next) (ha : a.good) : stN base (s.alloc (.row [.int .i64 0, .int .i64 0, .int .i64 0, .int .u8 0, .int .u8 0, .int .u8 0, .int .u8 0, .int .u8 0, .int .u8 0, .int .u8 0, .int .u8 0])) ⟨s.next, 0, none⟩ a.c = some (s.alloc (.row a.c)) := by
  rw [stN_ownL hb (by simp [Ac.c, actC]), Ab.heap_alloc_new, show putAt (.row [.int .i64 0, .int .i64 0, .int .i64 0, .int .u8 0, .int .u8 0, .int .u8 0, .int .u8 0, .int .u8 0, .int .u8 0, .int .u8 0, .int .u8 0]) 0 a.c = some (.row a.c) from putAt_act ha.1, updO_some, alloc_upd]
theorem sline_ok {lo o at_ : Nat} {p : Pl} {l : List Ac} {x : List UInt8} (hs : Sc_ base lo s o p l) (hx : x.length ≤ 1000000) (hL : LaidOk base s) (hnx : p.xs.length ≤ 64) (hnl : l.length ≤ 1024) (hat : at_ ≤ 1000000)
    (hR : ∀ s', s.next ≤ s'.next → (∀ k, k < lo → s'.heap k = s.heap k) → ((lineF at_ p l x).1 = 0 → Sc_ base lo s' o (lineF at_ p l x).2.1 (lineF at_ p l x).2.2) → R (.int .i64 (lineF at_ p l x).1) s') :
    WC Tryd.prog base 23 [.pointer (some ⟨o, 0, none⟩), .int .i64 (at_ : Int), .string (strB x)] s R := by
  refine WC_open Tryd.func23 rfl ?_
  obtain ⟨v, u, k1, k2, k3, k4, k5, k6, k7, k8, k9, k10⟩ := hs
  by_cases h6 : at_ < 6
  · have g6 : (at_ : Int) < 6 := by omega
    simp (disch := first | omega | ((simp only [nxBScrTake]) <;> omega) | decide) only [↓stepPre, stepPost, ↓W_cond, ↓W_block, ↓reduceIte, Nat.reduceEqDiff, Nat.reduceLT, Nat.reduceLeDiff, ret0, stVar, isTup, Value.cells, Nat.le_refl, Nat.reduceAdd, Nat.reduceMul, Nat.reduceSub, env0, binV, intV, reduceCtorEq, pickV, nilCheckV, ptrV, unV, true_and, and_true, Nat.add_zero, Nat.zero_add, Rt, resultsV, allV, resV, Bool.not_true, Bool.not_false, calleeV, builtinV, eqV, fieldAddrV, ldVar, stN_own, stN_ownL, Int.fdiv_eq_ediv_of_nonneg, Int.reduceToNat, Int.reducePow, IntKind.bits, convV, ne_eq, not_false_eq_true, not_true_eq_false, Int.reduceNeg, Int.reduceAdd, Int.reduceSub, Int.reduceLT, Int.reduceLE, extractV, decide_true, decide_false, Int.reduceEq, mkFuncV, stBScrTake, beq_self_eq_true, tyB0ScrTake, getL_take, glBScrTake, g6]
    refine head38_ok (L := p.c v ++ [u]) (by omega) hx (by omega) k10 k1 rfl (by omega) fun s1 ns n1 f1 h1 l1 b1 v1 => ?_
    have f1' : ∀ k, k < lo → s1.heap k = s.heap k := fun k hk => f1 k (by omega) (by omega)
    cases hb : headB at_ x with
    | false =>
      have e : lineF at_ p l x = (12, p, l) := by unfold lineF; rw [if_pos h6, hb]; rfl
      have := hR s1 n1 f1'
      rw [e] at this
      simp (disch := first | omega | ((simp only [nxBScrTake]) <;> omega) | decide) only [↓stepPre, stepPost, ↓W_cond, ↓W_block, ↓reduceIte, Nat.reduceEqDiff, Nat.reduceLT, Nat.reduceLeDiff, ret0, stVar, isTup, Value.cells, Nat.le_refl, Nat.reduceAdd, Nat.reduceMul, Nat.reduceSub, env0, binV, intV, reduceCtorEq, pickV, nilCheckV, ptrV, unV, true_and, and_true, Nat.add_zero, Nat.zero_add, Rt, resultsV, allV, resV, Bool.not_true, Bool.not_false, calleeV, builtinV, eqV, fieldAddrV, ldVar, stN_own, stN_ownL, Int.fdiv_eq_ediv_of_nonneg, Int.reduceToNat, Int.reducePow, IntKind.bits, convV, ne_eq, not_false_eq_true, not_true_eq_false, Int.reduceNeg, Int.reduceAdd, Int.reduceSub, Int.reduceLT, Int.reduceLE, extractV, decide_true, decide_false, Int.reduceEq, mkFuncV, stBScrTake, beq_self_eq_true, tyB0ScrTake, getL_take, glBScrTake, Tryd.results23]
      exact this (fun h => by cases h)
    | true =>
      have e : lineF at_ p l x = (0, headP at_ p ((partW 32 x).tail.map valL), l) := by unfold lineF; rw [if_pos h6, if_pos hb]
      have := hR s1 n1 f1'
      rw [e] at this
      simp (disch := first | omega | ((simp only [nxBScrTake]) <;> omega) | decide) only [↓stepPre, stepPost, ↓W_cond, ↓W_block, ↓reduceIte, Nat.reduceEqDiff, Nat.reduceLT, Nat.reduceLeDiff, ret0, stVar, isTup, Value.cells, Nat.le_refl, Nat.reduceAdd, Nat.reduceMul, Nat.reduceSub, env0, binV, intV, reduceCtorEq, pickV, nilCheckV, ptrV, unV, true_and, and_true, Nat.add_zero, Nat.zero_add, Rt, resultsV, allV, resV, Bool.not_true, Bool.not_false, calleeV, builtinV, eqV, fieldAddrV, ldVar, stN_own, stN_ownL, Int.fdiv_eq_ediv_of_nonneg, Int.reduceToNat, Int.reducePow, IntKind.bits, convV, ne_eq, not_false_eq_true, not_true_eq_false, Int.reduceNeg, Int.reduceAdd, Int.reduceSub, Int.reduceLT, Int.reduceLE, extractV, decide_true, decide_false, Int.reduceEq, mkFuncV, stBScrTake, beq_self_eq_true, tyB0ScrTake, getL_take, glBScrTake, Tryd.results23]
      refine this fun _ => ⟨v, u, ?_, ?_, k3, ?_, k5, k6, k7, k8, k9, by omega⟩
      · rw [h1, headP_set (by omega) l1, v1 hb]
      · rw [headP_xs]; exact k2.frame (fun a n c e => by subst e; exact f1 _ (k2.lt _ rfl) (k6 a.block rfl).2.1) n1
      · exact k4.frame (fun a n c e => by subst e; exact f1 _ (k4.lt _ rfl) (k7 a.block rfl).2) n1
  have g6 : ¬ (at_ : Int) < 6 := by omega
  simp (disch := first | omega | ((simp only [nxBScrTake]) <;> omega) | decide) only [↓stepPre, stepPost, ↓W_cond, ↓W_block, ↓reduceIte, Nat.reduceEqDiff, Nat.reduceLT, Nat.reduceLeDiff, ret0, stVar, isTup, Value.cells, Nat.le_refl, Nat.reduceAdd, Nat.reduceMul, Nat.reduceSub, env0, binV, intV, reduceCtorEq, pickV, nilCheckV, ptrV, unV, true_and, and_true, Nat.add_zero, Nat.zero_add, Rt, resultsV, allV, resV, Bool.not_true, Bool.not_false, calleeV, builtinV, eqV, fieldAddrV, ldVar, stN_own, stN_ownL, Int.fdiv_eq_ediv_of_nonneg, Int.reduceToNat, Int.reducePow, IntKind.bits, convV, ne_eq, not_false_eq_true, not_true_eq_false, Int.reduceNeg, Int.reduceAdd, Int.reduceSub, Int.reduceLT, Int.reduceLE, extractV, decide_true, decide_false, Int.reduceEq, mkFuncV, stBScrTake, beq_self_eq_true, tyB0ScrTake, getL_take, glBScrTake, g6]
  refine streamOf_ok hx hL (by omega) fun s1 X m1 hX => ?_
  have n1 := m1.next
  simp (disch := first | omega | ((simp only [nxBScrTake]) <;> omega) | decide) only [↓stepPre, stepPost, ↓W_cond, ↓W_block, ↓reduceIte, Nat.reduceEqDiff, Nat.reduceLT, Nat.reduceLeDiff, ret0, stVar, isTup, Value.cells, Nat.le_refl, Nat.reduceAdd, Nat.reduceMul, Nat.reduceSub, env0, binV, intV, reduceCtorEq, pickV, nilCheckV, ptrV, unV, true_and, and_true, Nat.add_zero, Nat.zero_add, Rt, resultsV, allV, resV, Bool.not_true, Bool.not_false, calleeV, builtinV, eqV, fieldAddrV, ldVar, stN_own, stN_ownL, Int.fdiv_eq_ediv_of_nonneg, Int.reduceToNat, Int.reducePow, IntKind.bits, convV, ne_eq, not_false_eq_true, not_true_eq_false, Int.reduceNeg, Int.reduceAdd, Int.reduceSub, Int.reduceLT, Int.reduceLE, extractV, decide_true, decide_false, Int.reduceEq, mkFuncV, stBScrTake, beq_self_eq_true, tyB0ScrTake, getL_take, glBScrTake, st7 (s := s1) (X := X) (show base ≤ s1.next by omega)]
  have m2 : Mild s (s1.alloc (.row X.c)) := m1.alloc'
  have x2 := Ab.heap_alloc_new s1 (.row X.c)
  have n2 := Ab.next_alloc s1 (.row X.c)
  generalize s1.alloc (.row X.c) = s2 at m2 x2 n2 ⊢
  refine actOf_ok hx (hL.mild m2 (by omega)) (by omega) fun s3 a m3 hga ha => ?_
  have n3 := m3.next
  have hac : a.c.length = 11 := by simp [Ac.c, actC, bC_len, hga.1]
  simp (disch := first | omega | ((simp only [nxBScrTake]) <;> omega) | decide) only [↓stepPre, stepPost, ↓W_cond, ↓W_block, ↓reduceIte, Nat.reduceEqDiff, Nat.reduceLT, Nat.reduceLeDiff, ret0, stVar, isTup, Value.cells, Nat.le_refl, Nat.reduceAdd, Nat.reduceMul, Nat.reduceSub, env0, binV, intV, reduceCtorEq, pickV, nilCheckV, ptrV, unV, true_and, and_true, Nat.add_zero, Nat.zero_add, Rt, resultsV, allV, resV, Bool.not_true, Bool.not_false, calleeV, builtinV, eqV, fieldAddrV, ldVar, stN_own, stN_ownL, Int.fdiv_eq_ediv_of_nonneg, Int.reduceToNat, Int.reducePow, IntKind.bits, convV, ne_eq, not_false_eq_true, not_true_eq_false, Int.reduceNeg, Int.reduceAdd, Int.reduceSub, Int.reduceLT, Int.reduceLE, extractV, decide_true, decide_false, Int.reduceEq, mkFuncV, stBScrTake, beq_self_eq_true, tyB0ScrTake, getL_take, glBScrTake, st11 (s := s3) (a := a) (show base ≤ s3.next by omega) hga, hac]
  have m4 : Mild s (s3.alloc (.row a.c)) := (m2.trans m3).alloc'
  have a4 := Ab.heap_alloc_new s3 (.row a.c)
  have x4 := (Ab.heap_alloc_ne s3 (.row a.c) (b := s1.next) (by omega)).trans ((m3.heap s1.next (by omega)).trans x2)
  have n4 := Ab.next_alloc s3 (.row a.c)
  generalize s3.alloc (.row a.c) = s4 at m4 a4 x4 n4 ⊢
  have o4 : s4.heap o = .row [.int .i64 p.no, v, .int .i64 p.len, .int .i64 p.rm, .int .i64 p.nm, .int .i64 p.dr, .int .i64 p.tu, .int .i64 p.ba, .int .i64 p.st, .int .i64 p.pe, u] := (m4.heap o k10).trans k1
  have hlv := k2.len (P := Tryd.prog) (ts := []) Ty.elem22 Ty.arr22
  have hlu := k4.len (P := Tryd.prog) (ts := []) Ty.elem27 Ty.arr27
  rw [smL_len] at hlv
  rw [acL_len] at hlu
  cases hS : streamB x with
  | false =>
    cases hA : actB x with
    | false =>
      have e : lineF at_ p l x = (12, p, l) := by unfold lineF; rw [if_neg h6, if_neg (by simp [hS]), if_neg (by simp [hA]), if_neg (by simp [hS, hA])]
      have := hR s4 m4.next (fun k hk => m4.heap k (by omega))
      rw [e] at this
      simp (disch := first | omega | ((simp only [nxBScrTake]) <;> omega) | decide) only [↓stepPre, stepPost, ↓W_cond, ↓W_block, ↓reduceIte, Nat.reduceEqDiff, Nat.reduceLT, Nat.reduceLeDiff, ret0, stVar, isTup, Value.cells, Nat.le_refl, Nat.reduceAdd, Nat.reduceMul, Nat.reduceSub, env0, binV, intV, reduceCtorEq, pickV, nilCheckV, ptrV, unV, true_and, and_true, Nat.add_zero, Nat.zero_add, Rt, resultsV, allV, resV, Bool.not_true, Bool.not_false, calleeV, builtinV, eqV, fieldAddrV, ldVar, stN_own, stN_ownL, Int.fdiv_eq_ediv_of_nonneg, Int.reduceToNat, Int.reducePow, IntKind.bits, convV, ne_eq, not_false_eq_true, not_true_eq_false, Int.reduceNeg, Int.reduceAdd, Int.reduceSub, Int.reduceLT, Int.reduceLE, extractV, decide_true, decide_false, Int.reduceEq, mkFuncV, stBScrTake, beq_self_eq_true, tyB0ScrTake, getL_take, glBScrTake, o4, hlv, hlu, hS, hA, Tryd.results23]
      exact this (fun h => by cases h)
    | true =>
      by_cases hn1 : l.length < 1024
      · have g1 : (l.length : Int) < 1024 := by omega
        have e : lineF at_ p l x = (0, p, l ++ [actA x]) := by unfold lineF; rw [if_neg h6, if_neg (by simp [hS]), if_pos ⟨hA, hn1⟩]
        have hXv := ha hA
        subst hXv
        obtain ⟨hb, va, vn, vc, s5, e1, e2, e3, e4, e5, e6⟩ := sc_app11 (a := actA x) (k4.mild m4) k5 hga (by omega) (by omega)
        have n5 := e5.next
        have o5 := (e5.heap o (by omega) (fun h => (k7 o h).2 rfl)).trans o4
        have hgl11 : getL (actA x).c 0 11 = some (actA x).c := getL_act hga.1
        have htk8 : List.take 8 (bC (actA x).ds) = bC (actA x).ds := List.take_of_length_le (by rw [bC_len, hga.1]; omega)
        simp (disch := first | omega | ((simp only [nxBScrTake]) <;> omega) | decide) only [↓stepPre, stepPost, ↓W_cond, ↓W_block, ↓reduceIte, Nat.reduceEqDiff, Nat.reduceLT, Nat.reduceLeDiff, ret0, stVar, isTup, Value.cells, Nat.le_refl, Nat.reduceAdd, Nat.reduceMul, Nat.reduceSub, env0, binV, intV, reduceCtorEq, pickV, nilCheckV, ptrV, unV, true_and, and_true, Nat.add_zero, Nat.zero_add, Rt, resultsV, allV, resV, Bool.not_true, Bool.not_false, calleeV, builtinV, eqV, fieldAddrV, ldVar, stN_own, stN_ownL, Int.fdiv_eq_ediv_of_nonneg, Int.reduceToNat, Int.reducePow, IntKind.bits, convV, ne_eq, not_false_eq_true, not_true_eq_false, Int.reduceNeg, Int.reduceAdd, Int.reduceSub, Int.reduceLT, Int.reduceLE, extractV, decide_true, decide_false, Int.reduceEq, mkFuncV, stBScrTake, beq_self_eq_true, tyB0ScrTake, getL_take, glBScrTake, o4, hlv, hlu, hS, hA, g1]
        refine W_draw (fun k => k == 7 || k == 10) (fun _ => false) (fun _ => false) (by kernel_rfl) (by kernel_rfl) ?_
        simp (disch := first | omega | ((simp only [nxBScrTake]) <;> omega) | decide) only [↓stepPre, stepPost, ↓W_cond, ↓W_block, ↓reduceIte, Nat.reduceEqDiff, Nat.reduceLT, Nat.reduceLeDiff, ret0, stVar, isTup, Value.cells, Nat.le_refl, Nat.reduceAdd, Nat.reduceMul, Nat.reduceSub, env0, binV, intV, reduceCtorEq, pickV, nilCheckV, ptrV, unV, true_and, and_true, Nat.add_zero, Nat.zero_add, Rt, resultsV, allV, resV, Bool.not_true, Bool.not_false, calleeV, builtinV, eqV, fieldAddrV, ldVar, stN_own, stN_ownL, Int.fdiv_eq_ediv_of_nonneg, Int.reduceToNat, Int.reducePow, IntKind.bits, convV, ne_eq, not_false_eq_true, not_true_eq_false, Int.reduceNeg, Int.reduceAdd, Int.reduceSub, Int.reduceLT, Int.reduceLE, extractV, decide_true, decide_false, Int.reduceEq, mkFuncV, stBScrTake, beq_self_eq_true, tyB0ScrTake, getL_take, glBScrTake, o4, a4, hgl11, htk8, hb, e1]
        refine ⟨.inr ⟨rfl, e6, fun j hj hjn => by cases hj⟩, ?_⟩
        simp (disch := first | omega | ((simp only [nxBScrTake]) <;> omega) | decide) only [↓stepPre, stepPost, ↓W_cond, ↓W_block, ↓reduceIte, Nat.reduceEqDiff, Nat.reduceLT, Nat.reduceLeDiff, ret0, stVar, isTup, Value.cells, Nat.le_refl, Nat.reduceAdd, Nat.reduceMul, Nat.reduceSub, env0, binV, intV, reduceCtorEq, pickV, nilCheckV, ptrV, unV, true_and, and_true, Nat.add_zero, Nat.zero_add, Rt, resultsV, allV, resV, Bool.not_true, Bool.not_false, calleeV, builtinV, eqV, fieldAddrV, ldVar, stN_own, stN_ownL, Int.fdiv_eq_ediv_of_nonneg, Int.reduceToNat, Int.reducePow, IntKind.bits, convV, ne_eq, not_false_eq_true, not_true_eq_false, Int.reduceNeg, Int.reduceAdd, Int.reduceSub, Int.reduceLT, Int.reduceLE, extractV, decide_true, decide_false, Int.reduceEq, mkFuncV, stBScrTake, beq_self_eq_true, tyB0ScrTake, getL_take, glBScrTake, o5, putAt_row, setL, Tryd.results23]
        have := hR (s5.upd o (.row (p.c v ++ [.slice va vn vc]))) (by have := m4.next; show s.next ≤ s5.next; omega) (fun k hk => by rw [Ab.heap_upd_ne _ _ (by omega), e5.heap k (by omega) (fun h => by have := (k7 k h).1; omega)]; exact m4.heap k (by omega))
        rw [e] at this
        refine this fun _ => ⟨v, .slice va vn vc, Ab.heap_upd_same _ _ _, ((k2.mild m4).ch e5 (fun b hb h => (k6 b hb).2.2 h)).frame (fun a n c e => Ab.heap_upd_ne _ _ (by subst e; exact (k6 a.block rfl).2.1)) (Nat.le_refl _), k3, e2.frame (fun a n c e => Ab.heap_upd_ne _ _ (by have := e4 a.block (by rw [e]; rfl); omega)) (Nat.le_refl _), e3, fun k hk => ⟨(k6 k hk).1, (k6 k hk).2.1, fun h => by have := k2.lt k hk; have := e4 k h; omega⟩, fun k hk => by have := e4 k hk; omega, k8, k9, by show o < s5.next; omega⟩
      · have g1 : ¬ (l.length : Int) < 1024 := by omega
        have e : lineF at_ p l x = (11, p, l) := by unfold lineF; rw [if_neg h6, if_neg (by simp [hS]), if_neg (by simp [hA, hn1]), if_pos (by simp [hS, hA])]
        have := hR s4 m4.next (fun k hk => m4.heap k (by omega))
        rw [e] at this
        simp (disch := first | omega | ((simp only [nxBScrTake]) <;> omega) | decide) only [↓stepPre, stepPost, ↓W_cond, ↓W_block, ↓reduceIte, Nat.reduceEqDiff, Nat.reduceLT, Nat.reduceLeDiff, ret0, stVar, isTup, Value.cells, Nat.le_refl, Nat.reduceAdd, Nat.reduceMul, Nat.reduceSub, env0, binV, intV, reduceCtorEq, pickV, nilCheckV, ptrV, unV, true_and, and_true, Nat.add_zero, Nat.zero_add, Rt, resultsV, allV, resV, Bool.not_true, Bool.not_false, calleeV, builtinV, eqV, fieldAddrV, ldVar, stN_own, stN_ownL, Int.fdiv_eq_ediv_of_nonneg, Int.reduceToNat, Int.reducePow, IntKind.bits, convV, ne_eq, not_false_eq_true, not_true_eq_false, Int.reduceNeg, Int.reduceAdd, Int.reduceSub, Int.reduceLT, Int.reduceLE, extractV, decide_true, decide_false, Int.reduceEq, mkFuncV, stBScrTake, beq_self_eq_true, tyB0ScrTake, getL_take, glBScrTake, o4, hlv, hlu, hS, hA, g1, Tryd.results23]
        exact this (fun h => by cases h)
  | true =>
    by_cases hl0 : l.length = 0
    · have g0 : (l.length : Int) = 0 := by omega
      by_cases hn64 : p.xs.length < 64
      · have g2 : (p.xs.length : Int) < 64 := by omega
        have e : lineF at_ p l x = (0, { p with xs := p.xs ++ [streamV x] }, l) := by unfold lineF; rw [if_neg h6, if_pos ⟨hS, hl0, hn64⟩]
        have hXv := hX hS
        subst hXv
        obtain ⟨hb, va, vn, vc, s5, e1, e2, e3, e4, e5, e6⟩ := sc_app7 (X := streamV x) (k2.mild m4) k3 (by omega) (by omega)
        have n5 := e5.next
        have o5 := (e5.heap o (by omega) (fun h => (k6 o h).2.1 rfl)).trans o4
        have hgl7 : getL (streamV x).c 0 7 = some (streamV x).c := rfl
        simp (disch := first | omega | ((simp only [nxBScrTake]) <;> omega) | decide) only [↓stepPre, stepPost, ↓W_cond, ↓W_block, ↓reduceIte, Nat.reduceEqDiff, Nat.reduceLT, Nat.reduceLeDiff, ret0, stVar, isTup, Value.cells, Nat.le_refl, Nat.reduceAdd, Nat.reduceMul, Nat.reduceSub, env0, binV, intV, reduceCtorEq, pickV, nilCheckV, ptrV, unV, true_and, and_true, Nat.add_zero, Nat.zero_add, Rt, resultsV, allV, resV, Bool.not_true, Bool.not_false, calleeV, builtinV, eqV, fieldAddrV, ldVar, stN_own, stN_ownL, Int.fdiv_eq_ediv_of_nonneg, Int.reduceToNat, Int.reducePow, IntKind.bits, convV, ne_eq, not_false_eq_true, not_true_eq_false, Int.reduceNeg, Int.reduceAdd, Int.reduceSub, Int.reduceLT, Int.reduceLE, extractV, decide_true, decide_false, Int.reduceEq, mkFuncV, stBScrTake, beq_self_eq_true, tyB0ScrTake, getL_take, glBScrTake, o4, hlv, hlu, hS, g0, g2, eq_self]
        refine W_draw (fun k => k == 8 || k == 12) (fun _ => false) (fun _ => false) (by kernel_rfl) (by kernel_rfl) ?_
        simp (disch := first | omega | ((simp only [nxBScrTake]) <;> omega) | decide) only [↓stepPre, stepPost, ↓W_cond, ↓W_block, ↓reduceIte, Nat.reduceEqDiff, Nat.reduceLT, Nat.reduceLeDiff, ret0, stVar, isTup, Value.cells, Nat.le_refl, Nat.reduceAdd, Nat.reduceMul, Nat.reduceSub, env0, binV, intV, reduceCtorEq, pickV, nilCheckV, ptrV, unV, true_and, and_true, Nat.add_zero, Nat.zero_add, Rt, resultsV, allV, resV, Bool.not_true, Bool.not_false, calleeV, builtinV, eqV, fieldAddrV, ldVar, stN_own, stN_ownL, Int.fdiv_eq_ediv_of_nonneg, Int.reduceToNat, Int.reducePow, IntKind.bits, convV, ne_eq, not_false_eq_true, not_true_eq_false, Int.reduceNeg, Int.reduceAdd, Int.reduceSub, Int.reduceLT, Int.reduceLE, extractV, decide_true, decide_false, Int.reduceEq, mkFuncV, stBScrTake, beq_self_eq_true, tyB0ScrTake, getL_take, glBScrTake, o4, x4, hgl7, hb, e1]
        refine ⟨.inr ⟨rfl, e6, fun j hj hjn => by cases hj⟩, ?_⟩
        simp (disch := first | omega | ((simp only [nxBScrTake]) <;> omega) | decide) only [↓stepPre, stepPost, ↓W_cond, ↓W_block, ↓reduceIte, Nat.reduceEqDiff, Nat.reduceLT, Nat.reduceLeDiff, ret0, stVar, isTup, Value.cells, Nat.le_refl, Nat.reduceAdd, Nat.reduceMul, Nat.reduceSub, env0, binV, intV, reduceCtorEq, pickV, nilCheckV, ptrV, unV, true_and, and_true, Nat.add_zero, Nat.zero_add, Rt, resultsV, allV, resV, Bool.not_true, Bool.not_false, calleeV, builtinV, eqV, fieldAddrV, ldVar, stN_own, stN_ownL, Int.fdiv_eq_ediv_of_nonneg, Int.reduceToNat, Int.reducePow, IntKind.bits, convV, ne_eq, not_false_eq_true, not_true_eq_false, Int.reduceNeg, Int.reduceAdd, Int.reduceSub, Int.reduceLT, Int.reduceLE, extractV, decide_true, decide_false, Int.reduceEq, mkFuncV, stBScrTake, beq_self_eq_true, tyB0ScrTake, getL_take, glBScrTake, o5, putAt_row, setL, Tryd.results23]
        have := hR (s5.upd o (.row ((Pl.mk p.no p.len p.rm p.nm p.dr p.tu p.ba p.st p.pe (p.xs ++ [streamV x])).c (.slice va vn vc) ++ [u]))) (by have := m4.next; show s.next ≤ s5.next; omega) (fun k hk => by rw [Ab.heap_upd_ne _ _ (by omega), e5.heap k (by omega) (fun h => by have := (k6 k h).1; omega)]; exact m4.heap k (by omega))
        rw [e] at this
        refine this fun _ => ⟨.slice va vn vc, u, Ab.heap_upd_same _ _ _, e2.frame (fun a n c e => Ab.heap_upd_ne _ _ (by have := e4 a.block (by rw [e]; rfl); omega)) (Nat.le_refl _), e3, ((k4.mild m4).ch e5 (fun b hb h => (k6 b h).2.2 hb)).frame (fun a n c e => Ab.heap_upd_ne _ _ (by subst e; exact (k7 a.block rfl).2)) (Nat.le_refl _), k5, fun k hk => ?_, k7, k8, k9, by show o < s5.next; omega⟩
        have := e4 k hk
        exact ⟨by omega, by omega, fun h => by have := k4.lt k h; omega⟩
      · have g2 : ¬ (p.xs.length : Int) < 64 := by omega
        cases hA : actB x with
        | false =>
          have e : lineF at_ p l x = (11, p, l) := by unfold lineF; rw [if_neg h6, if_neg (by simp [hS, hn64, hl0]), if_neg (by simp [hA]), if_pos (by simp [hS, hA, hn64, hl0])]
          have := hR s4 m4.next (fun k hk => m4.heap k (by omega))
          rw [e] at this
          simp (disch := first | omega | ((simp only [nxBScrTake]) <;> omega) | decide) only [↓stepPre, stepPost, ↓W_cond, ↓W_block, ↓reduceIte, Nat.reduceEqDiff, Nat.reduceLT, Nat.reduceLeDiff, ret0, stVar, isTup, Value.cells, Nat.le_refl, Nat.reduceAdd, Nat.reduceMul, Nat.reduceSub, env0, binV, intV, reduceCtorEq, pickV, nilCheckV, ptrV, unV, true_and, and_true, Nat.add_zero, Nat.zero_add, Rt, resultsV, allV, resV, Bool.not_true, Bool.not_false, calleeV, builtinV, eqV, fieldAddrV, ldVar, stN_own, stN_ownL, Int.fdiv_eq_ediv_of_nonneg, Int.reduceToNat, Int.reducePow, IntKind.bits, convV, ne_eq, not_false_eq_true, not_true_eq_false, Int.reduceNeg, Int.reduceAdd, Int.reduceSub, Int.reduceLT, Int.reduceLE, extractV, decide_true, decide_false, Int.reduceEq, mkFuncV, stBScrTake, beq_self_eq_true, tyB0ScrTake, getL_take, glBScrTake, o4, hlv, hlu, hS, hA, g0, g2, eq_self, Tryd.results23]
          exact this (fun h => by cases h)
        | true =>
          have hn1 : l.length < 1024 := by omega
          have g1 : (l.length : Int) < 1024 := by omega
          have g1' : (0 : Int) < 1024 := by omega
          have e : lineF at_ p l x = (0, p, l ++ [actA x]) := by unfold lineF; rw [if_neg h6, if_neg (by simp [hS, hn64, hl0]), if_pos ⟨hA, hn1⟩]
          have hXv := ha hA
          subst hXv
          obtain ⟨hb, va, vn, vc, s5, e1, e2, e3, e4, e5, e6⟩ := sc_app11 (a := actA x) (k4.mild m4) k5 hga (by omega) (by omega)
          have n5 := e5.next
          have o5 := (e5.heap o (by omega) (fun h => (k7 o h).2 rfl)).trans o4
          have hgl11 : getL (actA x).c 0 11 = some (actA x).c := getL_act hga.1
          have htk8 : List.take 8 (bC (actA x).ds) = bC (actA x).ds := List.take_of_length_le (by rw [bC_len, hga.1]; omega)
          simp (disch := first | omega | ((simp only [nxBScrTake]) <;> omega) | decide) only [↓stepPre, stepPost, ↓W_cond, ↓W_block, ↓reduceIte, Nat.reduceEqDiff, Nat.reduceLT, Nat.reduceLeDiff, ret0, stVar, isTup, Value.cells, Nat.le_refl, Nat.reduceAdd, Nat.reduceMul, Nat.reduceSub, env0, binV, intV, reduceCtorEq, pickV, nilCheckV, ptrV, unV, true_and, and_true, Nat.add_zero, Nat.zero_add, Rt, resultsV, allV, resV, Bool.not_true, Bool.not_false, calleeV, builtinV, eqV, fieldAddrV, ldVar, stN_own, stN_ownL, Int.fdiv_eq_ediv_of_nonneg, Int.reduceToNat, Int.reducePow, IntKind.bits, convV, ne_eq, not_false_eq_true, not_true_eq_false, Int.reduceNeg, Int.reduceAdd, Int.reduceSub, Int.reduceLT, Int.reduceLE, extractV, decide_true, decide_false, Int.reduceEq, mkFuncV, stBScrTake, beq_self_eq_true, tyB0ScrTake, getL_take, glBScrTake, o4, hlv, hlu, hS, hA, g0, g2, eq_self]
          refine W_draw (fun k => k == 7 || k == 10) (fun _ => false) (fun _ => false) (by kernel_rfl) (by kernel_rfl) ?_
          simp (disch := first | omega | ((simp only [nxBScrTake]) <;> omega) | decide) only [↓stepPre, stepPost, ↓W_cond, ↓W_block, ↓reduceIte, Nat.reduceEqDiff, Nat.reduceLT, Nat.reduceLeDiff, ret0, stVar, isTup, Value.cells, Nat.le_refl, Nat.reduceAdd, Nat.reduceMul, Nat.reduceSub, env0, binV, intV, reduceCtorEq, pickV, nilCheckV, ptrV, unV, true_and, and_true, Nat.add_zero, Nat.zero_add, Rt, resultsV, allV, resV, Bool.not_true, Bool.not_false, calleeV, builtinV, eqV, fieldAddrV, ldVar, stN_own, stN_ownL, Int.fdiv_eq_ediv_of_nonneg, Int.reduceToNat, Int.reducePow, IntKind.bits, convV, ne_eq, not_false_eq_true, not_true_eq_false, Int.reduceNeg, Int.reduceAdd, Int.reduceSub, Int.reduceLT, Int.reduceLE, extractV, decide_true, decide_false, Int.reduceEq, mkFuncV, stBScrTake, beq_self_eq_true, tyB0ScrTake, getL_take, glBScrTake, o4, a4, hgl11, htk8, hb, e1]
          refine ⟨.inr ⟨rfl, e6, fun j hj hjn => by cases hj⟩, ?_⟩
          simp (disch := first | omega | ((simp only [nxBScrTake]) <;> omega) | decide) only [↓stepPre, stepPost, ↓W_cond, ↓W_block, ↓reduceIte, Nat.reduceEqDiff, Nat.reduceLT, Nat.reduceLeDiff, ret0, stVar, isTup, Value.cells, Nat.le_refl, Nat.reduceAdd, Nat.reduceMul, Nat.reduceSub, env0, binV, intV, reduceCtorEq, pickV, nilCheckV, ptrV, unV, true_and, and_true, Nat.add_zero, Nat.zero_add, Rt, resultsV, allV, resV, Bool.not_true, Bool.not_false, calleeV, builtinV, eqV, fieldAddrV, ldVar, stN_own, stN_ownL, Int.fdiv_eq_ediv_of_nonneg, Int.reduceToNat, Int.reducePow, IntKind.bits, convV, ne_eq, not_false_eq_true, not_true_eq_false, Int.reduceNeg, Int.reduceAdd, Int.reduceSub, Int.reduceLT, Int.reduceLE, extractV, decide_true, decide_false, Int.reduceEq, mkFuncV, stBScrTake, beq_self_eq_true, tyB0ScrTake, getL_take, glBScrTake, o5, putAt_row, setL, Tryd.results23]
          have := hR (s5.upd o (.row (p.c v ++ [.slice va vn vc]))) (by have := m4.next; show s.next ≤ s5.next; omega) (fun k hk => by rw [Ab.heap_upd_ne _ _ (by omega), e5.heap k (by omega) (fun h => by have := (k7 k h).1; omega)]; exact m4.heap k (by omega))
          rw [e] at this
          refine this fun _ => ⟨v, .slice va vn vc, Ab.heap_upd_same _ _ _, ((k2.mild m4).ch e5 (fun b hb h => (k6 b hb).2.2 h)).frame (fun a n c e => Ab.heap_upd_ne _ _ (by subst e; exact (k6 a.block rfl).2.1)) (Nat.le_refl _), k3, e2.frame (fun a n c e => Ab.heap_upd_ne _ _ (by have := e4 a.block (by rw [e]; rfl); omega)) (Nat.le_refl _), e3, fun k hk => ⟨(k6 k hk).1, (k6 k hk).2.1, fun h => by have := k2.lt k hk; have := e4 k h; omega⟩, fun k hk => by have := e4 k hk; omega, k8, k9, by show o < s5.next; omega⟩
    · have g0 : ¬ (l.length : Int) = 0 := by omega
      cases hA : actB x with
      | false =>
        have e : lineF at_ p l x = (12, p, l) := by unfold lineF; rw [if_neg h6, if_neg (by simp [hS, hl0]), if_neg (by simp [hA]), if_neg (by simp [hS, hA, hl0])]
        have := hR s4 m4.next (fun k hk => m4.heap k (by omega))
        rw [e] at this
        simp (disch := first | omega | ((simp only [nxBScrTake]) <;> omega) | decide) only [↓stepPre, stepPost, ↓W_cond, ↓W_block, ↓reduceIte, Nat.reduceEqDiff, Nat.reduceLT, Nat.reduceLeDiff, ret0, stVar, isTup, Value.cells, Nat.le_refl, Nat.reduceAdd, Nat.reduceMul, Nat.reduceSub, env0, binV, intV, reduceCtorEq, pickV, nilCheckV, ptrV, unV, true_and, and_true, Nat.add_zero, Nat.zero_add, Rt, resultsV, allV, resV, Bool.not_true, Bool.not_false, calleeV, builtinV, eqV, fieldAddrV, ldVar, stN_own, stN_ownL, Int.fdiv_eq_ediv_of_nonneg, Int.reduceToNat, Int.reducePow, IntKind.bits, convV, ne_eq, not_false_eq_true, not_true_eq_false, Int.reduceNeg, Int.reduceAdd, Int.reduceSub, Int.reduceLT, Int.reduceLE, extractV, decide_true, decide_false, Int.reduceEq, mkFuncV, stBScrTake, beq_self_eq_true, tyB0ScrTake, getL_take, glBScrTake, o4, hlv, hlu, hS, hA, g0, Tryd.results23]
        exact this (fun h => by cases h)
      | true =>
        by_cases hn1 : l.length < 1024
        · have g1 : (l.length : Int) < 1024 := by omega
          have e : lineF at_ p l x = (0, p, l ++ [actA x]) := by unfold lineF; rw [if_neg h6, if_neg (by simp [hS, hl0]), if_pos ⟨hA, hn1⟩]
          have hXv := ha hA
          subst hXv
          obtain ⟨hb, va, vn, vc, s5, e1, e2, e3, e4, e5, e6⟩ := sc_app11 (a := actA x) (k4.mild m4) k5 hga (by omega) (by omega)
          have n5 := e5.next
          have o5 := (e5.heap o (by omega) (fun h => (k7 o h).2 rfl)).trans o4
          have hgl11 : getL (actA x).c 0 11 = some (actA x).c := getL_act hga.1
          have htk8 : List.take 8 (bC (actA x).ds) = bC (actA x).ds := List.take_of_length_le (by rw [bC_len, hga.1]; omega)
          simp (disch := first | omega | ((simp only [nxBScrTake]) <;> omega) | decide) only [↓stepPre, stepPost, ↓W_cond, ↓W_block, ↓reduceIte, Nat.reduceEqDiff, Nat.reduceLT, Nat.reduceLeDiff, ret0, stVar, isTup, Value.cells, Nat.le_refl, Nat.reduceAdd, Nat.reduceMul, Nat.reduceSub, env0, binV, intV, reduceCtorEq, pickV, nilCheckV, ptrV, unV, true_and, and_true, Nat.add_zero, Nat.zero_add, Rt, resultsV, allV, resV, Bool.not_true, Bool.not_false, calleeV, builtinV, eqV, fieldAddrV, ldVar, stN_own, stN_ownL, Int.fdiv_eq_ediv_of_nonneg, Int.reduceToNat, Int.reducePow, IntKind.bits, convV, ne_eq, not_false_eq_true, not_true_eq_false, Int.reduceNeg, Int.reduceAdd, Int.reduceSub, Int.reduceLT, Int.reduceLE, extractV, decide_true, decide_false, Int.reduceEq, mkFuncV, stBScrTake, beq_self_eq_true, tyB0ScrTake, getL_take, glBScrTake, o4, hlv, hlu, hS, hA, g0, g1]
          refine W_draw (fun k => k == 7 || k == 10) (fun _ => false) (fun _ => false) (by kernel_rfl) (by kernel_rfl) ?_
          simp (disch := first | omega | ((simp only [nxBScrTake]) <;> omega) | decide) only [↓stepPre, stepPost, ↓W_cond, ↓W_block, ↓reduceIte, Nat.reduceEqDiff, Nat.reduceLT, Nat.reduceLeDiff, ret0, stVar, isTup, Value.cells, Nat.le_refl, Nat.reduceAdd, Nat.reduceMul, Nat.reduceSub, env0, binV, intV, reduceCtorEq, pickV, nilCheckV, ptrV, unV, true_and, and_true, Nat.add_zero, Nat.zero_add, Rt, resultsV, allV, resV, Bool.not_true, Bool.not_false, calleeV, builtinV, eqV, fieldAddrV, ldVar, stN_own, stN_ownL, Int.fdiv_eq_ediv_of_nonneg, Int.reduceToNat, Int.reducePow, IntKind.bits, convV, ne_eq, not_false_eq_true, not_true_eq_false, Int.reduceNeg, Int.reduceAdd, Int.reduceSub, Int.reduceLT, Int.reduceLE, extractV, decide_true, decide_false, Int.reduceEq, mkFuncV, stBScrTake, beq_self_eq_true, tyB0ScrTake, getL_take, glBScrTake, o4, a4, hgl11, htk8, hb, e1]
          refine ⟨.inr ⟨rfl, e6, fun j hj hjn => by cases hj⟩, ?_⟩
          simp (disch := first | omega | ((simp only [nxBScrTake]) <;> omega) | decide) only [↓stepPre, stepPost, ↓W_cond, ↓W_block, ↓reduceIte, Nat.reduceEqDiff, Nat.reduceLT, Nat.reduceLeDiff, ret0, stVar, isTup, Value.cells, Nat.le_refl, Nat.reduceAdd, Nat.reduceMul, Nat.reduceSub, env0, binV, intV, reduceCtorEq, pickV, nilCheckV, ptrV, unV, true_and, and_true, Nat.add_zero, Nat.zero_add, Rt, resultsV, allV, resV, Bool.not_true, Bool.not_false, calleeV, builtinV, eqV, fieldAddrV, ldVar, stN_own, stN_ownL, Int.fdiv_eq_ediv_of_nonneg, Int.reduceToNat, Int.reducePow, IntKind.bits, convV, ne_eq, not_false_eq_true, not_true_eq_false, Int.reduceNeg, Int.reduceAdd, Int.reduceSub, Int.reduceLT, Int.reduceLE, extractV, decide_true, decide_false, Int.reduceEq, mkFuncV, stBScrTake, beq_self_eq_true, tyB0ScrTake, getL_take, glBScrTake, o5, putAt_row, setL, Tryd.results23]
          have := hR (s5.upd o (.row (p.c v ++ [.slice va vn vc]))) (by have := m4.next; show s.next ≤ s5.next; omega) (fun k hk => by rw [Ab.heap_upd_ne _ _ (by omega), e5.heap k (by omega) (fun h => by have := (k7 k h).1; omega)]; exact m4.heap k (by omega))
          rw [e] at this
          refine this fun _ => ⟨v, .slice va vn vc, Ab.heap_upd_same _ _ _, ((k2.mild m4).ch e5 (fun b hb h => (k6 b hb).2.2 h)).frame (fun a n c e => Ab.heap_upd_ne _ _ (by subst e; exact (k6 a.block rfl).2.1)) (Nat.le_refl _), k3, e2.frame (fun a n c e => Ab.heap_upd_ne _ _ (by have := e4 a.block (by rw [e]; rfl); omega)) (Nat.le_refl _), e3, fun k hk => ⟨(k6 k hk).1, (k6 k hk).2.1, fun h => by have := k2.lt k hk; have := e4 k h; omega⟩, fun k hk => by have := e4 k hk; omega, k8, k9, by show o < s5.next; omega⟩
        · have g1 : ¬ (l.length : Int) < 1024 := by omega
          have e : lineF at_ p l x = (11, p, l) := by unfold lineF; rw [if_neg h6, if_neg (by simp [hS, hl0]), if_neg (by simp [hA, hn1]), if_pos (by simp [hS, hA, hl0])]
          have := hR s4 m4.next (fun k hk => m4.heap k (by omega))
          rw [e] at this
          simp (disch := first | omega | ((simp only [nxBScrTake]) <;> omega) | decide) only [↓stepPre, stepPost, ↓W_cond, ↓W_block, ↓reduceIte, Nat.reduceEqDiff, Nat.reduceLT, Nat.reduceLeDiff, ret0, stVar, isTup, Value.cells, Nat.le_refl, Nat.reduceAdd, Nat.reduceMul, Nat.reduceSub, env0, binV, intV, reduceCtorEq, pickV, nilCheckV, ptrV, unV, true_and, and_true, Nat.add_zero, Nat.zero_add, Rt, resultsV, allV, resV, Bool.not_true, Bool.not_false, calleeV, builtinV, eqV, fieldAddrV, ldVar, stN_own, stN_ownL, Int.fdiv_eq_ediv_of_nonneg, Int.reduceToNat, Int.reducePow, IntKind.bits, convV, ne_eq, not_false_eq_true, not_true_eq_false, Int.reduceNeg, Int.reduceAdd, Int.reduceSub, Int.reduceLT, Int.reduceLE, extractV, decide_true, decide_false, Int.reduceEq, mkFuncV, stBScrTake, beq_self_eq_true, tyB0ScrTake, getL_take, glBScrTake, o4, hlv, hlu, hS, hA, g0, g1, Tryd.results23]
          exact this (fun h => by cases h)
end Go.Proofs.YthjpfllmecpliaaDoor
