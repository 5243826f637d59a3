/- Texts of our own, one behind the other: ScrTake, ScrParse. -/
import Derived.Test.YthjpfllmecpliaaGreatDoorMg4
import Derived.Test.YthjpfllmecpliaaGreatDoorMg3
import Derived.Test.YthjpfllmecpliaaGreatDoorScrActs
import Derived.Test.YthjpfllmecpliaaGreatDoorMg8
/- A script's line, taken (the package script): as a contract. -/
set_option linter.all false
set_option maxRecDepth 20000
namespace Go.Proofs.YthjpfllmecpliaaGreatDoor
open Go Go.Ab
def spBScrTake := And.intro @Nat.le_refl (And.intro @true_and (And.intro @and_true (And.intro @Nat.add_zero (And.intro @Nat.zero_add (And.intro @Bool.not_true (And.intro @Bool.not_false (And.intro @ne_eq.{1} (And.intro @not_false_eq_true (And.intro @not_true_eq_false (And.intro @decide_true (And.intro @decide_false (@Int.fdiv_eq_ediv_of_nonneg))))))))))))
def nxBScrTake := And.intro @Ab.next_alloc (And.intro @Ab.next_upd (And.intro @List.length_cons.{0} (And.intro @List.length_nil.{0} (And.intro @ne_eq.{1} (And.intro not_true_eq_false not_false_eq_true)))))
def tyB0ScrTake := And.intro @Ty.t9 (And.intro @Tryz.underlying9 (And.intro @Ty.t50 (And.intro @Tryz.underlying50 (And.intro @Ty.t26 (And.intro @Tryz.underlying26 (And.intro @Ty.t58 (And.intro @Tryz.underlying58 (And.intro @Ty.t22 (And.intro @Tryz.underlying22 (And.intro @Ty.t33 (And.intro @Tryz.underlying33 (And.intro @Ty.t27 (And.intro @Tryz.underlying27 (And.intro @Ty.t65 (And.intro @Tryz.underlying65 (And.intro @Ty.t98 (And.intro @Tryz.underlying98 (And.intro @Ty.t35 (And.intro @Tryz.underlying35 (And.intro @Ty.t2 (And.intro @Tryz.underlying2 (And.intro @Ty.t3 (And.intro @Tryz.underlying3 (And.intro @Ty.t4 @Tryz.underlying4))))))))))))))))))))))))
def stBScrTake := And.intro @List.size_toArray.{0} (And.intro @List.length_cons.{0} (And.intro @List.length_nil.{0} (And.intro @List.set_cons_zero.{0} (And.intro @List.set_cons_succ.{0} (And.intro @List.getD_cons_zero.{0} (And.intro @List.getD_cons_succ.{0} (And.intro @List.getElem?_cons_succ.{0} (And.intro @List.getElem?_cons_zero.{0} (And.intro @List.map_cons.{0,0} (And.intro @List.map_nil.{0,0} (And.intro @Option.isNone_none.{0} (And.intro @Option.isNone_some.{0} (And.intro @Option.map_some.{0,0} (And.intro @Option.map_none.{0,0} (And.intro @List.cons_append.{0} (And.intro @List.nil_append.{0} (And.intro @List.append_nil.{0} (And.intro @Array.toList_append.{0} (And.intro @List.toList_toArray.{0} (And.intro @Int.cast_ofNat_Int (And.intro @Option.isSome_some.{0} (And.intro @List.getElem?_toArray.{0} (And.intro @List.map_toArray.{0,0} (@Nat.min_eq_left))))))))))))))))))))))))
def glBScrTake := And.intro @List.drop_zero.{0} (And.intro @List.drop_succ_cons.{0} (And.intro @List.take_succ_cons.{0} (And.intro @List.take_zero.{0} (@List.take_nil.{0}))))
variable {base : Nat} [Bok base] {s : St} {R : Value → St → Prop}
/-- What was read up to now, in memory. -/
def Sc_ (base lo : Nat) (t : St) (o : Nat) (p : Pl) (l : List Ac) : Prop :=
  ∃ v u, t.heap o = .row (p.c v ++ [u]) ∧ Sl base t 7 v (smL p.xs) ∧ Tight base v ∧ Sl base t 11 u (acL l) ∧ Tight base u ∧ (∀ k, inB v k → lo ≤ k ∧ k ≠ o ∧ ¬ inB u k) ∧ (∀ k, inB u k → lo ≤ k ∧ k ≠ o) ∧ base ≤ lo ∧ lo ≤ o ∧ o < t.next
def headP : Nat → Pl → List Nat → Pl
  | 0, p, ns => { p with no := (ns.getD 0 0 : Nat) }
  | 1, p, ns => { p with len := (ns.getD 0 0 : Nat) }
  | 2, p, ns => { p with rm := (ns.getD 0 0 : Nat) }
  | 3, p, ns => { p with nm := (ns.getD 0 0 : Nat), dr := (ns.getD 1 0 : Nat) }
  | 4, p, ns => { p with tu := (ns.getD 0 0 : Nat) }
  | _, p, ns => { p with ba := (ns.getD 0 0 : Nat), st := (ns.getD 1 0 : Nat), pe := (ns.getD 2 0 : Nat) }
def lineF (at_ : Nat) (p : Pl) (l : List Ac) (x : List UInt8) : Int × Pl × List Ac :=
  if at_ < 6 then (if headB at_ x = true then (0, headP at_ p ((partW 32 x).tail.map valL), l) else (12, p, l))
  else if streamB x = true ∧ l.length = 0 ∧ p.xs.length < 64 then (0, { p with xs := p.xs ++ [streamV x] }, l)
  else if actB x = true ∧ l.length < 1024 then (0, p, l ++ [actA x])
  else if actB x = true ∨ (streamB x = true ∧ l.length = 0) then (11, p, l)
  else (12, p, l)
theorem headP_set {at_ : Nat} {p : Pl} {v u : Value} {ns : List Nat} (h : at_ ≤ 5) (hn : ns.length = (headO at_).length) : setAll (p.c v ++ [u]) (headO at_) ns = (headP at_ p ns).c v ++ [u] := by
  have hc : at_ = 0 ∨ at_ = 1 ∨ at_ = 2 ∨ at_ = 3 ∨ at_ = 4 ∨ at_ = 5 := by omega
  rcases hc with rfl | rfl | rfl | rfl | rfl | rfl
  · match ns, hn with | [a], _ => rfl
  · match ns, hn with | [a], _ => rfl
  · match ns, hn with | [a], _ => rfl
  · match ns, hn with | [a, b], _ => rfl
  · match ns, hn with | [a], _ => rfl
  · match ns, hn with | [a, b, c], _ => rfl
theorem headP_xs (at_ : Nat) (p : Pl) (ns : List Nat) : (headP at_ p ns).xs = p.xs := by
  unfold headP; split <;> rfl
theorem sc_app7 {v : Value} {xs : List Sm} {X : Sm} (hs : Sl base s 7 v (smL xs)) (ht : Tight base v) (hbn : base ≤ s.next) (hl : xs.length ≤ 1000) :
    buildSliceV Tryz.prog s 22 1 [(0, .agg X.c.toArray)] = some (.slice (some ⟨s.next, 0, none⟩) 1 1, s.alloc (.row X.c)) ∧ ∃ va vn vc s', appendB Tryz.prog base (s.alloc (.row X.c)) [22, 22] [v, .slice (some ⟨s.next, 0, none⟩) 1 1] = some (.slice va vn vc, s') ∧ Sl base s' 7 (.slice va vn vc) (smL (xs ++ [X])) ∧ Tight base (.slice va vn vc) ∧ (∀ b, inB (.slice va vn vc) b → s.next ≤ b) ∧ Ch s s' (inB v) ∧ s.next + 1 ≤ s'.next := by
  have hb := build1 (P := Tryz.prog) (s := s) (l := X.c) (zr := [.int .i64 0, .int .i64 0, .int .i64 0, .int .i64 0, .int .i64 0, .int .i64 0, .int .i64 0]) Ty.elem22 Ty.siz58 Ty.zer58 rfl rfl (by omega) (by omega)
  refine ⟨hb, ?_⟩
  have hnew : Sl base (s.alloc (.row X.c)) 7 (.slice (some ⟨s.next, 0, none⟩) 1 1) [X.c] := .newRow (Ab.heap_alloc_new _ _) (by simp) rfl (by simp) (by omega) (by simp only [Ab.next_alloc]; omega)
  obtain ⟨v', s', e1, e2, e3, e4, e5, e6⟩ := appB_ok (P := Tryz.prog) (hs.mild (Mild.alloc s (.row X.c))) ht (by simp only [Ab.next_alloc]; omega) Ty.elem22 Ty.int22 Ty.und22 Ty.siz58 (by decide) Ty.zer58 rfl Ty.byt58 hnew (by simp [smL_len]; omega)
  obtain ⟨va, vn, vc, rfl⟩ := e2.shape
  refine ⟨va, vn, vc, s', e1, by simpa [smL] using e2, e3, fun b hb => ?_, Ch.after (Ch.of_mild (Mild.alloc s _) (inB v)) e4 fun k hk he => he, e4.next⟩
  have := e5 (by simp) b hb
  simp only [Ab.next_alloc] at this; omega
theorem sc_app11 {u : Value} {l : List Ac} {a : Ac} (hs : Sl base s 11 u (acL l)) (ht : Tight base u) (ha : a.good) (hbn : base ≤ s.next) (hl : l.length ≤ 2000) :
    buildSliceV Tryz.prog s 27 1 [(0, .agg a.c.toArray)] = some (.slice (some ⟨s.next, 0, none⟩) 1 1, s.alloc (.row a.c)) ∧ ∃ va vn vc s', appendB Tryz.prog base (s.alloc (.row a.c)) [27, 27] [u, .slice (some ⟨s.next, 0, none⟩) 1 1] = some (.slice va vn vc, s') ∧ Sl base s' 11 (.slice va vn vc) (acL (l ++ [a])) ∧ Tight base (.slice va vn vc) ∧ (∀ b, inB (.slice va vn vc) b → s.next ≤ b) ∧ Ch s s' (inB u) ∧ s.next + 1 ≤ s'.next := by
  have hac : a.c.length = 11 := by simp [Ac.c, actC, bC_len, ha.1]
  have hb := build1 (P := Tryz.prog) (s := s) (l := a.c) (zr := [.int .i64 0, .int .i64 0, .int .i64 0, .int .u8 0, .int .u8 0, .int .u8 0, .int .u8 0, .int .u8 0, .int .u8 0, .int .u8 0, .int .u8 0]) Ty.elem27 Ty.siz33 Ty.zer33 hac rfl (by omega) (by omega)
  refine ⟨hb, ?_⟩
  have hnew : Sl base (s.alloc (.row a.c)) 11 (.slice (some ⟨s.next, 0, none⟩) 1 1) [a.c] := .newRow (Ab.heap_alloc_new _ _) (by simp) rfl (by simp [hac]) (by omega) (by simp only [Ab.next_alloc]; omega)
  obtain ⟨v', s', e1, e2, e3, e4, e5, e6⟩ := appB_ok (P := Tryz.prog) (hs.mild (Mild.alloc s (.row a.c))) ht (by simp only [Ab.next_alloc]; omega) Ty.elem27 Ty.int27 Ty.und27 Ty.siz33 (by decide) Ty.zer33 rfl Ty.byt33 hnew (by simp [acL_len]; omega)
  obtain ⟨va, vn, vc, rfl⟩ := e2.shape
  refine ⟨va, vn, vc, s', e1, by simpa [acL] using e2, e3, fun b hb => ?_, Ch.after (Ch.of_mild (Mild.alloc s _) (inB u)) e4 fun k hk he => he, e4.next⟩
  have := e5 (by simp) b hb
  simp only [Ab.next_alloc] at this; omega
theorem st7 {X : Sm} (hb : base ≤ s.next) : stN base (s.alloc (.row [.int .i64 0, .int .i64 0, .int .i64 0, .int .i64 0, .int .i64 0, .int .i64 0, .int .i64 0])) ⟨s.next, 0, none⟩ X.c = some (s.alloc (.row X.c)) := by
  rw [stN_ownL hb (by show 0 < 7; omega), Ab.heap_alloc_new, show putAt (.row [.int .i64 0, .int .i64 0, .int .i64 0, .int .i64 0, .int .i64 0, .int .i64 0, .int .i64 0]) 0 X.c = some (.row X.c) from rfl, updO_some, alloc_upd]
theorem st11 {a : Ac} (hb : base ≤ s.next) (ha : a.good) : stN base (s.alloc (.row [.int .i64 0, .int .i64 0, .int .i64 0, .int .u8 0, .int .u8 0, .int .u8 0, .int .u8 0, .int .u8 0, .int .u8 0, .int .u8 0, .int .u8 0])) ⟨s.next, 0, none⟩ a.c = some (s.alloc (.row a.c)) := by
  rw [stN_ownL hb (by simp [Ac.c, actC]), Ab.heap_alloc_new, show putAt (.row [.int .i64 0, .int .i64 0, .int .i64 0, .int .u8 0, .int .u8 0, .int .u8 0, .int .u8 0, .int .u8 0, .int .u8 0, .int .u8 0, .int .u8 0]) 0 a.c = some (.row a.c) from putAt_act ha.1, updO_some, alloc_upd]
theorem sline_ok {lo o at_ : Nat} {p : Pl} {l : List Ac} {x : List UInt8} (hs : Sc_ base lo s o p l) (hx : x.length ≤ 1000000) (hL : LaidOk base s) (hnx : p.xs.length ≤ 64) (hnl : l.length ≤ 1024) (hat : at_ ≤ 1000000)
    (hR : ∀ s', s.next ≤ s'.next → (∀ k, k < lo → s'.heap k = s.heap k) → ((lineF at_ p l x).1 = 0 → Sc_ base lo s' o (lineF at_ p l x).2.1 (lineF at_ p l x).2.2) → R (.int .i64 (lineF at_ p l x).1) s') :
    WC Tryz.prog base 32 [.pointer (some ⟨o, 0, none⟩), .int .i64 (at_ : Int), .string (strB x)] s R := by
  refine WC_open Tryz.func32 rfl ?_
  obtain ⟨v, u, k1, k2, k3, k4, k5, k6, k7, k8, k9, k10⟩ := hs
  by_cases h6 : at_ < 6
  · have g6 : (at_ : Int) < 6 := by omega
    simp (disch := first | omega | ((simp only [nxBScrTake]) <;> omega) | decide) only [↓stepPre, stepPost, ↓W_cond, ↓W_block, ↓reduceIte, Nat.reduceEqDiff, Nat.reduceLT, Nat.reduceLeDiff, ret0, stVar, isTup, Value.cells, Nat.reduceAdd, Nat.reduceMul, Nat.reduceSub, env0, binV, intV, reduceCtorEq, pickV, nilCheckV, ptrV, unV, Rt, resultsV, allV, resV, calleeV, builtinV, eqV, fieldAddrV, ldVar, stN_own, stN_ownL, Int.reduceToNat, Int.reducePow, IntKind.bits, convV, Int.reduceNeg, Int.reduceAdd, Int.reduceSub, Int.reduceLT, Int.reduceLE, extractV, Int.reduceEq, mkFuncV, stBScrTake, spBScrTake, beq_self_eq_true, tyB0ScrTake, getL_take, glBScrTake, g6]
    refine head38_ok (L := p.c v ++ [u]) (by omega) hx (by omega) k10 k1 rfl (by omega) fun s1 ns n1 f1 h1 l1 b1 v1 => ?_
    have f1' : ∀ k, k < lo → s1.heap k = s.heap k := fun k hk => f1 k (by omega) (by omega)
    cases hb : headB at_ x with
    | false =>
      have e : lineF at_ p l x = (12, p, l) := by unfold lineF; rw [if_pos h6, hb]; rfl
      have := hR s1 n1 f1'
      rw [e] at this
      simp (disch := first | omega | ((simp only [nxBScrTake]) <;> omega) | decide) only [↓stepPre, stepPost, ↓W_cond, ↓W_block, ↓reduceIte, Nat.reduceEqDiff, Nat.reduceLT, Nat.reduceLeDiff, ret0, stVar, isTup, Value.cells, Nat.reduceAdd, Nat.reduceMul, Nat.reduceSub, env0, binV, intV, reduceCtorEq, pickV, nilCheckV, ptrV, unV, Rt, resultsV, allV, resV, calleeV, builtinV, eqV, fieldAddrV, ldVar, stN_own, stN_ownL, Int.reduceToNat, Int.reducePow, IntKind.bits, convV, Int.reduceNeg, Int.reduceAdd, Int.reduceSub, Int.reduceLT, Int.reduceLE, extractV, Int.reduceEq, mkFuncV, stBScrTake, spBScrTake, beq_self_eq_true, tyB0ScrTake, getL_take, glBScrTake, Tryz.results32]
      exact this (fun h => by cases h)
    | true =>
      have e : lineF at_ p l x = (0, headP at_ p ((partW 32 x).tail.map valL), l) := by unfold lineF; rw [if_pos h6, if_pos hb]
      have := hR s1 n1 f1'
      rw [e] at this
      simp (disch := first | omega | ((simp only [nxBScrTake]) <;> omega) | decide) only [↓stepPre, stepPost, ↓W_cond, ↓W_block, ↓reduceIte, Nat.reduceEqDiff, Nat.reduceLT, Nat.reduceLeDiff, ret0, stVar, isTup, Value.cells, Nat.reduceAdd, Nat.reduceMul, Nat.reduceSub, env0, binV, intV, reduceCtorEq, pickV, nilCheckV, ptrV, unV, Rt, resultsV, allV, resV, calleeV, builtinV, eqV, fieldAddrV, ldVar, stN_own, stN_ownL, Int.reduceToNat, Int.reducePow, IntKind.bits, convV, Int.reduceNeg, Int.reduceAdd, Int.reduceSub, Int.reduceLT, Int.reduceLE, extractV, Int.reduceEq, mkFuncV, stBScrTake, spBScrTake, beq_self_eq_true, tyB0ScrTake, getL_take, glBScrTake, Tryz.results32]
      refine this fun _ => ⟨v, u, ?_, ?_, k3, ?_, k5, k6, k7, k8, k9, by omega⟩
      · rw [h1, headP_set (by omega) l1, v1 hb]
      · rw [headP_xs]; exact k2.frame (fun a n c e => by subst e; exact f1 _ (k2.lt _ rfl) (k6 a.block rfl).2.1) n1
      · exact k4.frame (fun a n c e => by subst e; exact f1 _ (k4.lt _ rfl) (k7 a.block rfl).2) n1
  have g6 : ¬ (at_ : Int) < 6 := by omega
  simp (disch := first | omega | ((simp only [nxBScrTake]) <;> omega) | decide) only [↓stepPre, stepPost, ↓W_cond, ↓W_block, ↓reduceIte, Nat.reduceEqDiff, Nat.reduceLT, Nat.reduceLeDiff, ret0, stVar, isTup, Value.cells, Nat.reduceAdd, Nat.reduceMul, Nat.reduceSub, env0, binV, intV, reduceCtorEq, pickV, nilCheckV, ptrV, unV, Rt, resultsV, allV, resV, calleeV, builtinV, eqV, fieldAddrV, ldVar, stN_own, stN_ownL, Int.reduceToNat, Int.reducePow, IntKind.bits, convV, Int.reduceNeg, Int.reduceAdd, Int.reduceSub, Int.reduceLT, Int.reduceLE, extractV, Int.reduceEq, mkFuncV, stBScrTake, spBScrTake, beq_self_eq_true, tyB0ScrTake, getL_take, glBScrTake, g6]
  refine streamOf_ok hx hL (by omega) fun s1 X m1 hX => ?_
  have n1 := m1.next
  simp (disch := first | omega | ((simp only [nxBScrTake]) <;> omega) | decide) only [↓stepPre, stepPost, ↓W_cond, ↓W_block, ↓reduceIte, Nat.reduceEqDiff, Nat.reduceLT, Nat.reduceLeDiff, ret0, stVar, isTup, Value.cells, Nat.reduceAdd, Nat.reduceMul, Nat.reduceSub, env0, binV, intV, reduceCtorEq, pickV, nilCheckV, ptrV, unV, Rt, resultsV, allV, resV, calleeV, builtinV, eqV, fieldAddrV, ldVar, stN_own, stN_ownL, Int.reduceToNat, Int.reducePow, IntKind.bits, convV, Int.reduceNeg, Int.reduceAdd, Int.reduceSub, Int.reduceLT, Int.reduceLE, extractV, Int.reduceEq, mkFuncV, stBScrTake, spBScrTake, beq_self_eq_true, tyB0ScrTake, getL_take, glBScrTake, st7 (s := s1) (X := X) (show base ≤ s1.next by omega)]
  have m2 : Mild s (s1.alloc (.row X.c)) := m1.alloc'
  have x2 := Ab.heap_alloc_new s1 (.row X.c)
  have n2 := Ab.next_alloc s1 (.row X.c)
  generalize s1.alloc (.row X.c) = s2 at m2 x2 n2 ⊢
  refine actOf_ok hx (hL.mild m2 (by omega)) (by omega) fun s3 a m3 hga ha => ?_
  have n3 := m3.next
  have hac : a.c.length = 11 := by simp [Ac.c, actC, bC_len, hga.1]
  simp (disch := first | omega | ((simp only [nxBScrTake]) <;> omega) | decide) only [↓stepPre, stepPost, ↓W_cond, ↓W_block, ↓reduceIte, Nat.reduceEqDiff, Nat.reduceLT, Nat.reduceLeDiff, ret0, stVar, isTup, Value.cells, Nat.reduceAdd, Nat.reduceMul, Nat.reduceSub, env0, binV, intV, reduceCtorEq, pickV, nilCheckV, ptrV, unV, Rt, resultsV, allV, resV, calleeV, builtinV, eqV, fieldAddrV, ldVar, stN_own, stN_ownL, Int.reduceToNat, Int.reducePow, IntKind.bits, convV, Int.reduceNeg, Int.reduceAdd, Int.reduceSub, Int.reduceLT, Int.reduceLE, extractV, Int.reduceEq, mkFuncV, stBScrTake, spBScrTake, beq_self_eq_true, tyB0ScrTake, getL_take, glBScrTake, st11 (s := s3) (a := a) (show base ≤ s3.next by omega) hga, hac]
  have m4 : Mild s (s3.alloc (.row a.c)) := (m2.trans m3).alloc'
  have a4 := Ab.heap_alloc_new s3 (.row a.c)
  have x4 := (Ab.heap_alloc_ne s3 (.row a.c) (b := s1.next) (by omega)).trans ((m3.heap s1.next (by omega)).trans x2)
  have n4 := Ab.next_alloc s3 (.row a.c)
  generalize s3.alloc (.row a.c) = s4 at m4 a4 x4 n4 ⊢
  have o4 : s4.heap o = .row [.int .i64 p.no, v, .int .i64 p.len, .int .i64 p.rm, .int .i64 p.nm, .int .i64 p.dr, .int .i64 p.tu, .int .i64 p.ba, .int .i64 p.st, .int .i64 p.pe, u] := (m4.heap o k10).trans k1
  have hlv := k2.len (P := Tryz.prog) (ts := []) Ty.elem22 Ty.arr22
  have hlu := k4.len (P := Tryz.prog) (ts := []) Ty.elem27 Ty.arr27
  rw [smL_len] at hlv
  rw [acL_len] at hlu
  cases hS : streamB x with
  | false =>
    cases hA : actB x with
    | false =>
      have e : lineF at_ p l x = (12, p, l) := by unfold lineF; rw [if_neg h6, if_neg (by simp [hS]), if_neg (by simp [hA]), if_neg (by simp [hS, hA])]
      have := hR s4 m4.next (fun k hk => m4.heap k (by omega))
      rw [e] at this
      simp (disch := first | omega | ((simp only [nxBScrTake]) <;> omega) | decide) only [↓stepPre, stepPost, ↓W_cond, ↓W_block, ↓reduceIte, Nat.reduceEqDiff, Nat.reduceLT, Nat.reduceLeDiff, ret0, stVar, isTup, Value.cells, Nat.reduceAdd, Nat.reduceMul, Nat.reduceSub, env0, binV, intV, reduceCtorEq, pickV, nilCheckV, ptrV, unV, Rt, resultsV, allV, resV, calleeV, builtinV, eqV, fieldAddrV, ldVar, stN_own, stN_ownL, Int.reduceToNat, Int.reducePow, IntKind.bits, convV, Int.reduceNeg, Int.reduceAdd, Int.reduceSub, Int.reduceLT, Int.reduceLE, extractV, Int.reduceEq, mkFuncV, stBScrTake, spBScrTake, beq_self_eq_true, tyB0ScrTake, getL_take, glBScrTake, o4, hlv, hlu, hS, hA, Tryz.results32]
      exact this (fun h => by cases h)
    | true =>
      by_cases hn1 : l.length < 1024
      · have g1 : (l.length : Int) < 1024 := by omega
        have e : lineF at_ p l x = (0, p, l ++ [actA x]) := by unfold lineF; rw [if_neg h6, if_neg (by simp [hS]), if_pos ⟨hA, hn1⟩]
        have hXv := ha hA
        subst hXv
        obtain ⟨hb, va, vn, vc, s5, e1, e2, e3, e4, e5, e6⟩ := sc_app11 (a := actA x) (k4.mild m4) k5 hga (by omega) (by omega)
        have n5 := e5.next
        have o5 := (e5.heap o (by omega) (fun h => (k7 o h).2 rfl)).trans o4
        have hgl11 : getL (actA x).c 0 11 = some (actA x).c := getL_act hga.1
        have htk8 : List.take 8 (bC (actA x).ds) = bC (actA x).ds := List.take_of_length_le (by rw [bC_len, hga.1]; omega)
        simp (disch := first | omega | ((simp only [nxBScrTake]) <;> omega) | decide) only [↓stepPre, stepPost, ↓W_cond, ↓W_block, ↓reduceIte, Nat.reduceEqDiff, Nat.reduceLT, Nat.reduceLeDiff, ret0, stVar, isTup, Value.cells, Nat.reduceAdd, Nat.reduceMul, Nat.reduceSub, env0, binV, intV, reduceCtorEq, pickV, nilCheckV, ptrV, unV, Rt, resultsV, allV, resV, calleeV, builtinV, eqV, fieldAddrV, ldVar, stN_own, stN_ownL, Int.reduceToNat, Int.reducePow, IntKind.bits, convV, Int.reduceNeg, Int.reduceAdd, Int.reduceSub, Int.reduceLT, Int.reduceLE, extractV, Int.reduceEq, mkFuncV, stBScrTake, spBScrTake, beq_self_eq_true, tyB0ScrTake, getL_take, glBScrTake, o4, hlv, hlu, hS, hA, g1]
        refine W_draw (fun k => k == 7 || k == 10) (fun _ => false) (fun _ => false) (by kernel_rfl) (by kernel_rfl) ?_
        simp (disch := first | omega | ((simp only [nxBScrTake]) <;> omega) | decide) only [↓stepPre, stepPost, ↓W_cond, ↓W_block, ↓reduceIte, Nat.reduceEqDiff, Nat.reduceLT, Nat.reduceLeDiff, ret0, stVar, isTup, Value.cells, Nat.reduceAdd, Nat.reduceMul, Nat.reduceSub, env0, binV, intV, reduceCtorEq, pickV, nilCheckV, ptrV, unV, Rt, resultsV, allV, resV, calleeV, builtinV, eqV, fieldAddrV, ldVar, stN_own, stN_ownL, Int.reduceToNat, Int.reducePow, IntKind.bits, convV, Int.reduceNeg, Int.reduceAdd, Int.reduceSub, Int.reduceLT, Int.reduceLE, extractV, Int.reduceEq, mkFuncV, stBScrTake, spBScrTake, beq_self_eq_true, tyB0ScrTake, getL_take, glBScrTake, o4, a4, hgl11, htk8, hb, e1]
        refine ⟨.inr ⟨rfl, e6, fun j hj hjn => by cases hj⟩, ?_⟩
        simp (disch := first | omega | ((simp only [nxBScrTake]) <;> omega) | decide) only [↓stepPre, stepPost, ↓W_cond, ↓W_block, ↓reduceIte, Nat.reduceEqDiff, Nat.reduceLT, Nat.reduceLeDiff, ret0, stVar, isTup, Value.cells, Nat.reduceAdd, Nat.reduceMul, Nat.reduceSub, env0, binV, intV, reduceCtorEq, pickV, nilCheckV, ptrV, unV, Rt, resultsV, allV, resV, calleeV, builtinV, eqV, fieldAddrV, ldVar, stN_own, stN_ownL, Int.reduceToNat, Int.reducePow, IntKind.bits, convV, Int.reduceNeg, Int.reduceAdd, Int.reduceSub, Int.reduceLT, Int.reduceLE, extractV, Int.reduceEq, mkFuncV, stBScrTake, spBScrTake, beq_self_eq_true, tyB0ScrTake, getL_take, glBScrTake, o5, putAt_row, setL, Tryz.results32]
        have := hR (s5.upd o (.row (p.c v ++ [.slice va vn vc]))) (by have := m4.next; show s.next ≤ s5.next; omega) (fun k hk => by rw [Ab.heap_upd_ne _ _ (by omega), e5.heap k (by omega) (fun h => by have := (k7 k h).1; omega)]; exact m4.heap k (by omega))
        rw [e] at this
        refine this fun _ => ⟨v, .slice va vn vc, Ab.heap_upd_same _ _ _, ((k2.mild m4).ch e5 (fun b hb h => (k6 b hb).2.2 h)).frame (fun a n c e => Ab.heap_upd_ne _ _ (by subst e; exact (k6 a.block rfl).2.1)) (Nat.le_refl _), k3, e2.frame (fun a n c e => Ab.heap_upd_ne _ _ (by have := e4 a.block (by rw [e]; rfl); omega)) (Nat.le_refl _), e3, fun k hk => ⟨(k6 k hk).1, (k6 k hk).2.1, fun h => by have := k2.lt k hk; have := e4 k h; omega⟩, fun k hk => by have := e4 k hk; omega, k8, k9, by show o < s5.next; omega⟩
      · have g1 : ¬ (l.length : Int) < 1024 := by omega
        have e : lineF at_ p l x = (11, p, l) := by unfold lineF; rw [if_neg h6, if_neg (by simp [hS]), if_neg (by simp [hA, hn1]), if_pos (by simp [hS, hA])]
        have := hR s4 m4.next (fun k hk => m4.heap k (by omega))
        rw [e] at this
        simp (disch := first | omega | ((simp only [nxBScrTake]) <;> omega) | decide) only [↓stepPre, stepPost, ↓W_cond, ↓W_block, ↓reduceIte, Nat.reduceEqDiff, Nat.reduceLT, Nat.reduceLeDiff, ret0, stVar, isTup, Value.cells, Nat.reduceAdd, Nat.reduceMul, Nat.reduceSub, env0, binV, intV, reduceCtorEq, pickV, nilCheckV, ptrV, unV, Rt, resultsV, allV, resV, calleeV, builtinV, eqV, fieldAddrV, ldVar, stN_own, stN_ownL, Int.reduceToNat, Int.reducePow, IntKind.bits, convV, Int.reduceNeg, Int.reduceAdd, Int.reduceSub, Int.reduceLT, Int.reduceLE, extractV, Int.reduceEq, mkFuncV, stBScrTake, spBScrTake, beq_self_eq_true, tyB0ScrTake, getL_take, glBScrTake, o4, hlv, hlu, hS, hA, g1, Tryz.results32]
        exact this (fun h => by cases h)
  | true =>
    by_cases hl0 : l.length = 0
    · have g0 : (l.length : Int) = 0 := by omega
      by_cases hn64 : p.xs.length < 64
      · have g2 : (p.xs.length : Int) < 64 := by omega
        have e : lineF at_ p l x = (0, { p with xs := p.xs ++ [streamV x] }, l) := by unfold lineF; rw [if_neg h6, if_pos ⟨hS, hl0, hn64⟩]
        have hXv := hX hS
        subst hXv
        obtain ⟨hb, va, vn, vc, s5, e1, e2, e3, e4, e5, e6⟩ := sc_app7 (X := streamV x) (k2.mild m4) k3 (by omega) (by omega)
        have n5 := e5.next
        have o5 := (e5.heap o (by omega) (fun h => (k6 o h).2.1 rfl)).trans o4
        have hgl7 : getL (streamV x).c 0 7 = some (streamV x).c := rfl
        simp (disch := first | omega | ((simp only [nxBScrTake]) <;> omega) | decide) only [↓stepPre, stepPost, ↓W_cond, ↓W_block, ↓reduceIte, Nat.reduceEqDiff, Nat.reduceLT, Nat.reduceLeDiff, ret0, stVar, isTup, Value.cells, Nat.reduceAdd, Nat.reduceMul, Nat.reduceSub, env0, binV, intV, reduceCtorEq, pickV, nilCheckV, ptrV, unV, Rt, resultsV, allV, resV, calleeV, builtinV, eqV, fieldAddrV, ldVar, stN_own, stN_ownL, Int.reduceToNat, Int.reducePow, IntKind.bits, convV, Int.reduceNeg, Int.reduceAdd, Int.reduceSub, Int.reduceLT, Int.reduceLE, extractV, Int.reduceEq, mkFuncV, stBScrTake, spBScrTake, beq_self_eq_true, tyB0ScrTake, getL_take, glBScrTake, o4, hlv, hlu, hS, g0, g2, eq_self]
        refine W_draw (fun k => k == 8 || k == 12) (fun _ => false) (fun _ => false) (by kernel_rfl) (by kernel_rfl) ?_
        simp (disch := first | omega | ((simp only [nxBScrTake]) <;> omega) | decide) only [↓stepPre, stepPost, ↓W_cond, ↓W_block, ↓reduceIte, Nat.reduceEqDiff, Nat.reduceLT, Nat.reduceLeDiff, ret0, stVar, isTup, Value.cells, Nat.reduceAdd, Nat.reduceMul, Nat.reduceSub, env0, binV, intV, reduceCtorEq, pickV, nilCheckV, ptrV, unV, Rt, resultsV, allV, resV, calleeV, builtinV, eqV, fieldAddrV, ldVar, stN_own, stN_ownL, Int.reduceToNat, Int.reducePow, IntKind.bits, convV, Int.reduceNeg, Int.reduceAdd, Int.reduceSub, Int.reduceLT, Int.reduceLE, extractV, Int.reduceEq, mkFuncV, stBScrTake, spBScrTake, beq_self_eq_true, tyB0ScrTake, getL_take, glBScrTake, o4, x4, hgl7, hb, e1]
        refine ⟨.inr ⟨rfl, e6, fun j hj hjn => by cases hj⟩, ?_⟩
        simp (disch := first | omega | ((simp only [nxBScrTake]) <;> omega) | decide) only [↓stepPre, stepPost, ↓W_cond, ↓W_block, ↓reduceIte, Nat.reduceEqDiff, Nat.reduceLT, Nat.reduceLeDiff, ret0, stVar, isTup, Value.cells, Nat.reduceAdd, Nat.reduceMul, Nat.reduceSub, env0, binV, intV, reduceCtorEq, pickV, nilCheckV, ptrV, unV, Rt, resultsV, allV, resV, calleeV, builtinV, eqV, fieldAddrV, ldVar, stN_own, stN_ownL, Int.reduceToNat, Int.reducePow, IntKind.bits, convV, Int.reduceNeg, Int.reduceAdd, Int.reduceSub, Int.reduceLT, Int.reduceLE, extractV, Int.reduceEq, mkFuncV, stBScrTake, spBScrTake, beq_self_eq_true, tyB0ScrTake, getL_take, glBScrTake, o5, putAt_row, setL, Tryz.results32]
        have := hR (s5.upd o (.row ((Pl.mk p.no p.len p.rm p.nm p.dr p.tu p.ba p.st p.pe (p.xs ++ [streamV x])).c (.slice va vn vc) ++ [u]))) (by have := m4.next; show s.next ≤ s5.next; omega) (fun k hk => by rw [Ab.heap_upd_ne _ _ (by omega), e5.heap k (by omega) (fun h => by have := (k6 k h).1; omega)]; exact m4.heap k (by omega))
        rw [e] at this
        refine this fun _ => ⟨.slice va vn vc, u, Ab.heap_upd_same _ _ _, e2.frame (fun a n c e => Ab.heap_upd_ne _ _ (by have := e4 a.block (by rw [e]; rfl); omega)) (Nat.le_refl _), e3, ((k4.mild m4).ch e5 (fun b hb h => (k6 b h).2.2 hb)).frame (fun a n c e => Ab.heap_upd_ne _ _ (by subst e; exact (k7 a.block rfl).2)) (Nat.le_refl _), k5, fun k hk => ?_, k7, k8, k9, by show o < s5.next; omega⟩
        have := e4 k hk
        exact ⟨by omega, by omega, fun h => by have := k4.lt k h; omega⟩
      · have g2 : ¬ (p.xs.length : Int) < 64 := by omega
        cases hA : actB x with
        | false =>
          have e : lineF at_ p l x = (11, p, l) := by unfold lineF; rw [if_neg h6, if_neg (by simp [hS, hn64, hl0]), if_neg (by simp [hA]), if_pos (by simp [hS, hA, hn64, hl0])]
          have := hR s4 m4.next (fun k hk => m4.heap k (by omega))
          rw [e] at this
          simp (disch := first | omega | ((simp only [nxBScrTake]) <;> omega) | decide) only [↓stepPre, stepPost, ↓W_cond, ↓W_block, ↓reduceIte, Nat.reduceEqDiff, Nat.reduceLT, Nat.reduceLeDiff, ret0, stVar, isTup, Value.cells, Nat.reduceAdd, Nat.reduceMul, Nat.reduceSub, env0, binV, intV, reduceCtorEq, pickV, nilCheckV, ptrV, unV, Rt, resultsV, allV, resV, calleeV, builtinV, eqV, fieldAddrV, ldVar, stN_own, stN_ownL, Int.reduceToNat, Int.reducePow, IntKind.bits, convV, Int.reduceNeg, Int.reduceAdd, Int.reduceSub, Int.reduceLT, Int.reduceLE, extractV, Int.reduceEq, mkFuncV, stBScrTake, spBScrTake, beq_self_eq_true, tyB0ScrTake, getL_take, glBScrTake, o4, hlv, hlu, hS, hA, g0, g2, eq_self, Tryz.results32]
          exact this (fun h => by cases h)
        | true =>
          have hn1 : l.length < 1024 := by omega
          have g1 : (l.length : Int) < 1024 := by omega
          have g1' : (0 : Int) < 1024 := by omega
          have e : lineF at_ p l x = (0, p, l ++ [actA x]) := by unfold lineF; rw [if_neg h6, if_neg (by simp [hS, hn64, hl0]), if_pos ⟨hA, hn1⟩]
          have hXv := ha hA
          subst hXv
          obtain ⟨hb, va, vn, vc, s5, e1, e2, e3, e4, e5, e6⟩ := sc_app11 (a := actA x) (k4.mild m4) k5 hga (by omega) (by omega)
          have n5 := e5.next
          have o5 := (e5.heap o (by omega) (fun h => (k7 o h).2 rfl)).trans o4
          have hgl11 : getL (actA x).c 0 11 = some (actA x).c := getL_act hga.1
          have htk8 : List.take 8 (bC (actA x).ds) = bC (actA x).ds := List.take_of_length_le (by rw [bC_len, hga.1]; omega)
          simp (disch := first | omega | ((simp only [nxBScrTake]) <;> omega) | decide) only [↓stepPre, stepPost, ↓W_cond, ↓W_block, ↓reduceIte, Nat.reduceEqDiff, Nat.reduceLT, Nat.reduceLeDiff, ret0, stVar, isTup, Value.cells, Nat.reduceAdd, Nat.reduceMul, Nat.reduceSub, env0, binV, intV, reduceCtorEq, pickV, nilCheckV, ptrV, unV, Rt, resultsV, allV, resV, calleeV, builtinV, eqV, fieldAddrV, ldVar, stN_own, stN_ownL, Int.reduceToNat, Int.reducePow, IntKind.bits, convV, Int.reduceNeg, Int.reduceAdd, Int.reduceSub, Int.reduceLT, Int.reduceLE, extractV, Int.reduceEq, mkFuncV, stBScrTake, spBScrTake, beq_self_eq_true, tyB0ScrTake, getL_take, glBScrTake, o4, hlv, hlu, hS, hA, g0, g2, eq_self]
          refine W_draw (fun k => k == 7 || k == 10) (fun _ => false) (fun _ => false) (by kernel_rfl) (by kernel_rfl) ?_
          simp (disch := first | omega | ((simp only [nxBScrTake]) <;> omega) | decide) only [↓stepPre, stepPost, ↓W_cond, ↓W_block, ↓reduceIte, Nat.reduceEqDiff, Nat.reduceLT, Nat.reduceLeDiff, ret0, stVar, isTup, Value.cells, Nat.reduceAdd, Nat.reduceMul, Nat.reduceSub, env0, binV, intV, reduceCtorEq, pickV, nilCheckV, ptrV, unV, Rt, resultsV, allV, resV, calleeV, builtinV, eqV, fieldAddrV, ldVar, stN_own, stN_ownL, Int.reduceToNat, Int.reducePow, IntKind.bits, convV, Int.reduceNeg, Int.reduceAdd, Int.reduceSub, Int.reduceLT, Int.reduceLE, extractV, Int.reduceEq, mkFuncV, stBScrTake, spBScrTake, beq_self_eq_true, tyB0ScrTake, getL_take, glBScrTake, o4, a4, hgl11, htk8, hb, e1]
          refine ⟨.inr ⟨rfl, e6, fun j hj hjn => by cases hj⟩, ?_⟩
          simp (disch := first | omega | ((simp only [nxBScrTake]) <;> omega) | decide) only [↓stepPre, stepPost, ↓W_cond, ↓W_block, ↓reduceIte, Nat.reduceEqDiff, Nat.reduceLT, Nat.reduceLeDiff, ret0, stVar, isTup, Value.cells, Nat.reduceAdd, Nat.reduceMul, Nat.reduceSub, env0, binV, intV, reduceCtorEq, pickV, nilCheckV, ptrV, unV, Rt, resultsV, allV, resV, calleeV, builtinV, eqV, fieldAddrV, ldVar, stN_own, stN_ownL, Int.reduceToNat, Int.reducePow, IntKind.bits, convV, Int.reduceNeg, Int.reduceAdd, Int.reduceSub, Int.reduceLT, Int.reduceLE, extractV, Int.reduceEq, mkFuncV, stBScrTake, spBScrTake, beq_self_eq_true, tyB0ScrTake, getL_take, glBScrTake, o5, putAt_row, setL, Tryz.results32]
          have := hR (s5.upd o (.row (p.c v ++ [.slice va vn vc]))) (by have := m4.next; show s.next ≤ s5.next; omega) (fun k hk => by rw [Ab.heap_upd_ne _ _ (by omega), e5.heap k (by omega) (fun h => by have := (k7 k h).1; omega)]; exact m4.heap k (by omega))
          rw [e] at this
          refine this fun _ => ⟨v, .slice va vn vc, Ab.heap_upd_same _ _ _, ((k2.mild m4).ch e5 (fun b hb h => (k6 b hb).2.2 h)).frame (fun a n c e => Ab.heap_upd_ne _ _ (by subst e; exact (k6 a.block rfl).2.1)) (Nat.le_refl _), k3, e2.frame (fun a n c e => Ab.heap_upd_ne _ _ (by have := e4 a.block (by rw [e]; rfl); omega)) (Nat.le_refl _), e3, fun k hk => ⟨(k6 k hk).1, (k6 k hk).2.1, fun h => by have := k2.lt k hk; have := e4 k h; omega⟩, fun k hk => by have := e4 k hk; omega, k8, k9, by show o < s5.next; omega⟩
    · have g0 : ¬ (l.length : Int) = 0 := by omega
      cases hA : actB x with
      | false =>
        have e : lineF at_ p l x = (12, p, l) := by unfold lineF; rw [if_neg h6, if_neg (by simp [hS, hl0]), if_neg (by simp [hA]), if_neg (by simp [hS, hA, hl0])]
        have := hR s4 m4.next (fun k hk => m4.heap k (by omega))
        rw [e] at this
        simp (disch := first | omega | ((simp only [nxBScrTake]) <;> omega) | decide) only [↓stepPre, stepPost, ↓W_cond, ↓W_block, ↓reduceIte, Nat.reduceEqDiff, Nat.reduceLT, Nat.reduceLeDiff, ret0, stVar, isTup, Value.cells, Nat.reduceAdd, Nat.reduceMul, Nat.reduceSub, env0, binV, intV, reduceCtorEq, pickV, nilCheckV, ptrV, unV, Rt, resultsV, allV, resV, calleeV, builtinV, eqV, fieldAddrV, ldVar, stN_own, stN_ownL, Int.reduceToNat, Int.reducePow, IntKind.bits, convV, Int.reduceNeg, Int.reduceAdd, Int.reduceSub, Int.reduceLT, Int.reduceLE, extractV, Int.reduceEq, mkFuncV, stBScrTake, spBScrTake, beq_self_eq_true, tyB0ScrTake, getL_take, glBScrTake, o4, hlv, hlu, hS, hA, g0, Tryz.results32]
        exact this (fun h => by cases h)
      | true =>
        by_cases hn1 : l.length < 1024
        · have g1 : (l.length : Int) < 1024 := by omega
          have e : lineF at_ p l x = (0, p, l ++ [actA x]) := by unfold lineF; rw [if_neg h6, if_neg (by simp [hS, hl0]), if_pos ⟨hA, hn1⟩]
          have hXv := ha hA
          subst hXv
          obtain ⟨hb, va, vn, vc, s5, e1, e2, e3, e4, e5, e6⟩ := sc_app11 (a := actA x) (k4.mild m4) k5 hga (by omega) (by omega)
          have n5 := e5.next
          have o5 := (e5.heap o (by omega) (fun h => (k7 o h).2 rfl)).trans o4
          have hgl11 : getL (actA x).c 0 11 = some (actA x).c := getL_act hga.1
          have htk8 : List.take 8 (bC (actA x).ds) = bC (actA x).ds := List.take_of_length_le (by rw [bC_len, hga.1]; omega)
          simp (disch := first | omega | ((simp only [nxBScrTake]) <;> omega) | decide) only [↓stepPre, stepPost, ↓W_cond, ↓W_block, ↓reduceIte, Nat.reduceEqDiff, Nat.reduceLT, Nat.reduceLeDiff, ret0, stVar, isTup, Value.cells, Nat.reduceAdd, Nat.reduceMul, Nat.reduceSub, env0, binV, intV, reduceCtorEq, pickV, nilCheckV, ptrV, unV, Rt, resultsV, allV, resV, calleeV, builtinV, eqV, fieldAddrV, ldVar, stN_own, stN_ownL, Int.reduceToNat, Int.reducePow, IntKind.bits, convV, Int.reduceNeg, Int.reduceAdd, Int.reduceSub, Int.reduceLT, Int.reduceLE, extractV, Int.reduceEq, mkFuncV, stBScrTake, spBScrTake, beq_self_eq_true, tyB0ScrTake, getL_take, glBScrTake, o4, hlv, hlu, hS, hA, g0, g1]
          refine W_draw (fun k => k == 7 || k == 10) (fun _ => false) (fun _ => false) (by kernel_rfl) (by kernel_rfl) ?_
          simp (disch := first | omega | ((simp only [nxBScrTake]) <;> omega) | decide) only [↓stepPre, stepPost, ↓W_cond, ↓W_block, ↓reduceIte, Nat.reduceEqDiff, Nat.reduceLT, Nat.reduceLeDiff, ret0, stVar, isTup, Value.cells, Nat.reduceAdd, Nat.reduceMul, Nat.reduceSub, env0, binV, intV, reduceCtorEq, pickV, nilCheckV, ptrV, unV, Rt, resultsV, allV, resV, calleeV, builtinV, eqV, fieldAddrV, ldVar, stN_own, stN_ownL, Int.reduceToNat, Int.reducePow, IntKind.bits, convV, Int.reduceNeg, Int.reduceAdd, Int.reduceSub, Int.reduceLT, Int.reduceLE, extractV, Int.reduceEq, mkFuncV, stBScrTake, spBScrTake, beq_self_eq_true, tyB0ScrTake, getL_take, glBScrTake, o4, a4, hgl11, htk8, hb, e1]
          refine ⟨.inr ⟨rfl, e6, fun j hj hjn => by cases hj⟩, ?_⟩
          simp (disch := first | omega | ((simp only [nxBScrTake]) <;> omega) | decide) only [↓stepPre, stepPost, ↓W_cond, ↓W_block, ↓reduceIte, Nat.reduceEqDiff, Nat.reduceLT, Nat.reduceLeDiff, ret0, stVar, isTup, Value.cells, Nat.reduceAdd, Nat.reduceMul, Nat.reduceSub, env0, binV, intV, reduceCtorEq, pickV, nilCheckV, ptrV, unV, Rt, resultsV, allV, resV, calleeV, builtinV, eqV, fieldAddrV, ldVar, stN_own, stN_ownL, Int.reduceToNat, Int.reducePow, IntKind.bits, convV, Int.reduceNeg, Int.reduceAdd, Int.reduceSub, Int.reduceLT, Int.reduceLE, extractV, Int.reduceEq, mkFuncV, stBScrTake, spBScrTake, beq_self_eq_true, tyB0ScrTake, getL_take, glBScrTake, o5, putAt_row, setL, Tryz.results32]
          have := hR (s5.upd o (.row (p.c v ++ [.slice va vn vc]))) (by have := m4.next; show s.next ≤ s5.next; omega) (fun k hk => by rw [Ab.heap_upd_ne _ _ (by omega), e5.heap k (by omega) (fun h => by have := (k7 k h).1; omega)]; exact m4.heap k (by omega))
          rw [e] at this
          refine this fun _ => ⟨v, .slice va vn vc, Ab.heap_upd_same _ _ _, ((k2.mild m4).ch e5 (fun b hb h => (k6 b hb).2.2 h)).frame (fun a n c e => Ab.heap_upd_ne _ _ (by subst e; exact (k6 a.block rfl).2.1)) (Nat.le_refl _), k3, e2.frame (fun a n c e => Ab.heap_upd_ne _ _ (by have := e4 a.block (by rw [e]; rfl); omega)) (Nat.le_refl _), e3, fun k hk => ⟨(k6 k hk).1, (k6 k hk).2.1, fun h => by have := k2.lt k hk; have := e4 k h; omega⟩, fun k hk => by have := e4 k hk; omega, k8, k9, by show o < s5.next; omega⟩
        · have g1 : ¬ (l.length : Int) < 1024 := by omega
          have e : lineF at_ p l x = (11, p, l) := by unfold lineF; rw [if_neg h6, if_neg (by simp [hS, hl0]), if_neg (by simp [hA, hn1]), if_pos (by simp [hS, hA, hl0])]
          have := hR s4 m4.next (fun k hk => m4.heap k (by omega))
          rw [e] at this
          simp (disch := first | omega | ((simp only [nxBScrTake]) <;> omega) | decide) only [↓stepPre, stepPost, ↓W_cond, ↓W_block, ↓reduceIte, Nat.reduceEqDiff, Nat.reduceLT, Nat.reduceLeDiff, ret0, stVar, isTup, Value.cells, Nat.reduceAdd, Nat.reduceMul, Nat.reduceSub, env0, binV, intV, reduceCtorEq, pickV, nilCheckV, ptrV, unV, Rt, resultsV, allV, resV, calleeV, builtinV, eqV, fieldAddrV, ldVar, stN_own, stN_ownL, Int.reduceToNat, Int.reducePow, IntKind.bits, convV, Int.reduceNeg, Int.reduceAdd, Int.reduceSub, Int.reduceLT, Int.reduceLE, extractV, Int.reduceEq, mkFuncV, stBScrTake, spBScrTake, beq_self_eq_true, tyB0ScrTake, getL_take, glBScrTake, o4, hlv, hlu, hS, hA, g0, g1, Tryz.results32]
          exact this (fun h => by cases h)
end Go.Proofs.YthjpfllmecpliaaGreatDoor
/- A script, read (the package script): as a contract. -/
set_option linter.all false
set_option maxRecDepth 20000
namespace Go.Proofs.YthjpfllmecpliaaGreatDoor
open Go Go.Ab
def spBScrParse := And.intro @Nat.le_refl (And.intro @true_and (And.intro @and_true (And.intro @Nat.add_zero (And.intro @Nat.zero_add (And.intro @Bool.not_true (And.intro @Bool.not_false (And.intro @ne_eq.{1} (And.intro @not_false_eq_true (And.intro @not_true_eq_false (And.intro @decide_true (And.intro @decide_false (@Int.fdiv_eq_ediv_of_nonneg))))))))))))
def nxBScrParse := And.intro @Ab.next_alloc (And.intro @Ab.next_upd (And.intro @List.length_cons.{0} (And.intro @List.length_nil.{0} (And.intro @ne_eq.{1} (And.intro not_true_eq_false not_false_eq_true)))))
def tyB0ScrParse := And.intro @Ty.t9 (And.intro @Tryz.underlying9 (And.intro @Ty.t50 (And.intro @Tryz.underlying50 (And.intro @Ty.t26 (And.intro @Tryz.underlying26 (And.intro @Ty.t41 (And.intro @Tryz.underlying41 (And.intro @Ty.t58 (And.intro @Tryz.underlying58 (And.intro @Ty.t22 (And.intro @Tryz.underlying22 (And.intro @Ty.t33 (And.intro @Tryz.underlying33 (And.intro @Ty.t27 (And.intro @Tryz.underlying27 (And.intro @Ty.t65 (And.intro @Tryz.underlying65 (And.intro @Ty.t98 (And.intro @Tryz.underlying98 (And.intro @Ty.t35 (And.intro @Tryz.underlying35 (And.intro @Ty.t2 (And.intro @Tryz.underlying2 (And.intro @Ty.t3 (And.intro @Tryz.underlying3 (And.intro @Ty.t4 @Tryz.underlying4))))))))))))))))))))))))))
def stBScrParse := And.intro @List.size_toArray.{0} (And.intro @List.length_cons.{0} (And.intro @List.length_nil.{0} (And.intro @List.set_cons_zero.{0} (And.intro @List.set_cons_succ.{0} (And.intro @List.getD_cons_zero.{0} (And.intro @List.getD_cons_succ.{0} (And.intro @List.getElem?_cons_succ.{0} (And.intro @List.getElem?_cons_zero.{0} (And.intro @List.map_cons.{0,0} (And.intro @List.map_nil.{0,0} (And.intro @Option.isNone_none.{0} (And.intro @Option.isNone_some.{0} (And.intro @Option.map_some.{0,0} (And.intro @Option.map_none.{0,0} (And.intro @List.cons_append.{0} (And.intro @List.nil_append.{0} (And.intro @List.append_nil.{0} (And.intro @Array.toList_append.{0} (And.intro @List.toList_toArray.{0} (And.intro @Int.cast_ofNat_Int (And.intro @Option.isSome_some.{0} (And.intro @List.getElem?_toArray.{0} (And.intro @List.map_toArray.{0,0} (@Nat.min_eq_left))))))))))))))))))))))))
def glBScrParse := And.intro @List.drop_zero.{0} (And.intro @List.drop_succ_cons.{0} (And.intro @List.take_succ_cons.{0} (And.intro @List.take_zero.{0} (@List.take_nil.{0}))))
variable {base : Nat} [Bok base] {s : St} {R : Value → St → Prop}
def pl0 : Pl := ⟨0, 0, 0, 0, 0, 0, 0, 0, 0, []⟩
/-- What a text is: what is wrong, where; the network, and the acts. -/
def parseL : Nat → Nat → Pl → List Ac → List UInt8 → Int × Nat × Pl × List Ac
  | 0, at_, p, l, _ => (12, at_, p, l)
  | f + 1, at_, p, l, x =>
    if x = [] ∧ 6 ≤ at_ then (plChk p, at_, p, l)
    else if x.count 10 = 0 then (12, at_, p, l)
    else if (lineF at_ p l (Lib.cut x [10]).1).1 ≠ 0 then ((lineF at_ p l (Lib.cut x [10]).1).1, at_, p, l)
    else parseL f (at_ + 1) (lineF at_ p l (Lib.cut x [10]).1).2.1 (lineF at_ p l (Lib.cut x [10]).1).2.2 (Lib.cut x [10]).2.1
def parseF (x : List UInt8) : Int × Nat × Pl × List Ac := parseL (x.length + 1) 0 pl0 [] x
theorem wrong38_ok {e k : Int} (hbn : base ≤ s.next) (hR : ∀ s', Mild s s' → R (.tuple #[.agg (pl0.c (.slice none 0 0)).toArray, .slice none 0 0, .agg #[.int .i64 e, .int .i64 k]]) s') :
    WC Tryz.prog base 30 [.int .i64 e, .int .i64 k] s R := by
  refine WC_open Tryz.func30 rfl ?_
  simp (disch := first | omega | ((simp only [nxBScrParse]) <;> omega) | decide) only [↓stepPre, stepPost, ↓W_cond, ↓W_block, ↓reduceIte, Nat.reduceEqDiff, Nat.reduceLT, Nat.reduceLeDiff, ret0, stVar, isTup, Value.cells, Nat.reduceAdd, Nat.reduceMul, Nat.reduceSub, env0, binV, intV, reduceCtorEq, pickV, nilCheckV, ptrV, unV, Rt, resultsV, allV, resV, calleeV, builtinV, eqV, fieldAddrV, ldVar, stN_own, stN_ownL, Int.reduceToNat, Int.reducePow, IntKind.bits, convV, Int.reduceNeg, Int.reduceAdd, Int.reduceSub, Int.reduceLT, Int.reduceLE, extractV, Int.reduceEq, mkFuncV, stBScrParse, spBScrParse, beq_self_eq_true, tyB0ScrParse, getL_take, glBScrParse, buildV, fillL, setL, Tryz.results30]
  refine hR _ ?_
  (repeat first | exact Mild.refl _ | assumption | apply Mild.alloc' | (refine Mild.upd' ?_ (by omega)) | (refine Mild.upd' ?_ (by simp only [Ab.next_alloc, Ab.next_upd] at *; omega)))
theorem lineF_keep {at_ : Nat} {p : Pl} {l : List Ac} {x : List UInt8} (h : (lineF at_ p l x).1 = 0) (h1 : p.xs.length ≤ 64) (h2 : l.length ≤ 1024) (h3 : 0 ≤ p.nm) :
    (lineF at_ p l x).2.1.xs.length ≤ 64 ∧ (lineF at_ p l x).2.2.length ≤ 1024 ∧ 0 ≤ (lineF at_ p l x).2.1.nm := by
  unfold lineF at h ⊢
  split at h
  · rename_i c1
    rw [if_pos c1]
    split at h
    · rename_i c2
      rw [if_pos c2]
      refine ⟨by rw [headP_xs]; exact h1, h2, ?_⟩
      unfold headP
      split <;> first | exact h3 | exact Int.natCast_nonneg _
    · cases h
  · rename_i c1
    rw [if_neg c1]
    split at h
    · rename_i c2; rw [if_pos c2]; exact ⟨by simp; omega, h2, h3⟩
    · rename_i c2
      rw [if_neg c2]
      split at h
      · rename_i c3; rw [if_pos c3]; exact ⟨h1, by simp; omega, h3⟩
      · split at h <;> cases h
theorem parse38_ok {x : List UInt8} (hx : x.length ≤ 131072) (hL : LaidOk base s) (hbn : base ≤ s.next)
    (hok : (parseF x).1 = 0 → ∀ s' v u, Mild s s' → Sl base s' 7 v (smL (parseF x).2.2.1.xs) → Sl base s' 11 u (acL (parseF x).2.2.2) → R (.tuple #[.agg ((parseF x).2.2.1.c v).toArray, u, .agg #[.int .i64 0, .int .i64 0]]) s')
    (hno : (parseF x).1 ≠ 0 → ∀ s', Mild s s' → R (.tuple #[.agg (pl0.c (.slice none 0 0)).toArray, .slice none 0 0, .agg #[.int .i64 (parseF x).1, .int .i64 ((parseF x).2.1 : Int)]]) s') :
    WC Tryz.prog base 12 [.string (strB x)] s R := by
  refine WC_open Tryz.func12 rfl ?_
  have hlen : ∀ ts, lenB Tryz.prog (9 :: ts) [.string (strB x)] = some (.int .i64 (x.length : Int)) := fun ts => lenStr Ty.str9 Ty.arr9
  have g0 : ¬ (x.length : Int) > 131072 := by omega
  have g0' : ¬ 131072 < (x.length : Int) := by omega
  simp (disch := first | omega | ((simp only [nxBScrParse]) <;> omega) | decide) only [↓stepPre, stepPost, ↓W_cond, ↓W_block, ↓reduceIte, Nat.reduceEqDiff, Nat.reduceLT, Nat.reduceLeDiff, ret0, stVar, isTup, Value.cells, Nat.reduceAdd, Nat.reduceMul, Nat.reduceSub, env0, binV, intV, reduceCtorEq, pickV, nilCheckV, ptrV, unV, Rt, resultsV, allV, resV, calleeV, builtinV, eqV, fieldAddrV, ldVar, stN_own, stN_ownL, Int.reduceToNat, Int.reducePow, IntKind.bits, convV, Int.reduceNeg, Int.reduceAdd, Int.reduceSub, Int.reduceLT, Int.reduceLE, extractV, Int.reduceEq, mkFuncV, stBScrParse, spBScrParse, beq_self_eq_true, tyB0ScrParse, getL_take, glBScrParse, hlen, g0, g0']
  have M0 : Mild s (((s.alloc (.row [.int .i64 0, .slice none 0 0, .int .i64 0, .int .i64 0, .int .i64 0, .int .i64 0, .int .i64 0, .int .i64 0, .int .i64 0, .int .i64 0])).alloc (.row [.int .i64 0, .int .i64 0])).alloc (.row [.int .i64 0, .slice none 0 0, .int .i64 0, .int .i64 0, .int .i64 0, .int .i64 0, .int .i64 0, .int .i64 0, .int .i64 0, .int .i64 0, .slice none 0 0])) := ((Mild.alloc s _).alloc').alloc'
  have p0 : (((s.alloc (.row [.int .i64 0, .slice none 0 0, .int .i64 0, .int .i64 0, .int .i64 0, .int .i64 0, .int .i64 0, .int .i64 0, .int .i64 0, .int .i64 0])).alloc (.row [.int .i64 0, .int .i64 0])).alloc (.row [.int .i64 0, .slice none 0 0, .int .i64 0, .int .i64 0, .int .i64 0, .int .i64 0, .int .i64 0, .int .i64 0, .int .i64 0, .int .i64 0, .slice none 0 0])).heap s.next = .row [.int .i64 0, .slice none 0 0, .int .i64 0, .int .i64 0, .int .i64 0, .int .i64 0, .int .i64 0, .int .i64 0, .int .i64 0, .int .i64 0] := by
    rw [Ab.heap_alloc_ne _ _ (by simp only [Ab.next_alloc]; omega), Ab.heap_alloc_ne _ _ (by simp only [Ab.next_alloc]; omega)]; exact Ab.heap_alloc_new _ _
  have q0 : (((s.alloc (.row [.int .i64 0, .slice none 0 0, .int .i64 0, .int .i64 0, .int .i64 0, .int .i64 0, .int .i64 0, .int .i64 0, .int .i64 0, .int .i64 0])).alloc (.row [.int .i64 0, .int .i64 0])).alloc (.row [.int .i64 0, .slice none 0 0, .int .i64 0, .int .i64 0, .int .i64 0, .int .i64 0, .int .i64 0, .int .i64 0, .int .i64 0, .int .i64 0, .slice none 0 0])).heap (s.next + 1) = .row [.int .i64 0, .int .i64 0] := by
    rw [Ab.heap_alloc_ne _ _ (by simp only [Ab.next_alloc]; omega)]; exact Ab.heap_alloc_new (s.alloc _) _
  have c0 : Sc_ base (s.next + 2) (((s.alloc (.row [.int .i64 0, .slice none 0 0, .int .i64 0, .int .i64 0, .int .i64 0, .int .i64 0, .int .i64 0, .int .i64 0, .int .i64 0, .int .i64 0])).alloc (.row [.int .i64 0, .int .i64 0])).alloc (.row [.int .i64 0, .slice none 0 0, .int .i64 0, .int .i64 0, .int .i64 0, .int .i64 0, .int .i64 0, .int .i64 0, .int .i64 0, .int .i64 0, .slice none 0 0])) (s.next + 2) pl0 [] := ⟨.slice none 0 0, .slice none 0 0, Ab.heap_alloc_new ((s.alloc _).alloc _) _, .nil, trivial, .nil, trivial, fun k h => h.elim, fun k h => h.elim, by omega, Nat.le_refl _, by show s.next + 2 < s.next + 1 + 1 + 1; omega⟩
  generalize ((s.alloc (.row [.int .i64 0, .slice none 0 0, .int .i64 0, .int .i64 0, .int .i64 0, .int .i64 0, .int .i64 0, .int .i64 0, .int .i64 0, .int .i64 0])).alloc (.row [.int .i64 0, .int .i64 0])).alloc (.row [.int .i64 0, .slice none 0 0, .int .i64 0, .int .i64 0, .int .i64 0, .int .i64 0, .int .i64 0, .int .i64 0, .int .i64 0, .int .i64 0, .slice none 0 0]) = s3 at M0 p0 q0 c0 ⊢
  refine W_loop_inv (x.length + 1) (fun i e1 t => ∃ p l r, Mild s t ∧ Sc_ base (s.next + 2) t (s.next + 2) p l ∧ t.heap s.next = .row [.int .i64 0, .slice none 0 0, .int .i64 0, .int .i64 0, .int .i64 0, .int .i64 0, .int .i64 0, .int .i64 0, .int .i64 0, .int .i64 0] ∧ t.heap (s.next + 1) = .row [.int .i64 0, .int .i64 0] ∧ parseF x = parseL (x.length + 1 - i) i p l r ∧ r.length + i ≤ x.length ∧ p.xs.length ≤ 64 ∧ l.length ≤ 1024 ∧ 0 ≤ p.nm ∧ e1 0 = .string (strB r) ∧ e1 2 = .pointer (some ⟨s.next, 0, none⟩) ∧ e1 3 = .slice none 0 0 ∧ e1 4 = .pointer (some ⟨s.next + 1, 0, none⟩) ∧ e1 5 = .func (.func 30) #[] #[] ∧ e1 6 = .pointer (some ⟨s.next + 2, 0, none⟩) ∧ e1 7 = .int .i64 (i : Int))
    (fun y e1 t => (y = .exit 0 ∧ ∃ p l i, Mild s t ∧ Sc_ base (s.next + 2) t (s.next + 2) p l ∧ t.heap s.next = .row [.int .i64 0, .slice none 0 0, .int .i64 0, .int .i64 0, .int .i64 0, .int .i64 0, .int .i64 0, .int .i64 0, .int .i64 0, .int .i64 0] ∧ t.heap (s.next + 1) = .row [.int .i64 0, .int .i64 0] ∧ parseF x = (plChk p, i, p, l) ∧ i ≤ 200000 ∧ p.xs.length ≤ 64 ∧ 0 ≤ p.nm ∧ e1 2 = .pointer (some ⟨s.next, 0, none⟩) ∧ e1 3 = .slice none 0 0 ∧ e1 4 = .pointer (some ⟨s.next + 1, 0, none⟩) ∧ e1 5 = .func (.func 30) #[] #[] ∧ e1 6 = .pointer (some ⟨s.next + 2, 0, none⟩) ∧ e1 7 = .int .i64 (i : Int))
      ∨ (y = .ret ∧ ∃ (e : Int) (i : Nat), e ≠ 0 ∧ (parseF x).1 = e ∧ (parseF x).2.1 = i ∧ Mild s t ∧ t.heap s.next = .row [.int .i64 0, .slice none 0 0, .int .i64 0, .int .i64 0, .int .i64 0, .int .i64 0, .int .i64 0, .int .i64 0, .int .i64 0, .int .i64 0] ∧ t.heap (s.next + 1) = .row [.int .i64 e, .int .i64 (i : Int)] ∧ e1 2 = .pointer (some ⟨s.next, 0, none⟩) ∧ e1 3 = .slice none 0 0 ∧ e1 4 = .pointer (some ⟨s.next + 1, 0, none⟩))) ?_ ?_ ?_
  rotate_left
  · exact ⟨pl0, [], x, M0, c0, p0, q0, rfl, by omega, by simp [pl0], by simp, by simp [pl0], rfl, rfl, rfl, rfl, rfl, rfl, rfl⟩
  · rintro y e1 t (⟨rfl, p, l, i, M, hc, hp, hq, hF, hi, h64, hnm, e2, e3, e4, e5, e6, e7⟩ | ⟨rfl, e, i, he, hF1, hF2, M, hp, hq, e2, e3, e4⟩)
    rotate_left
    · simp (disch := first | omega | ((simp only [nxBScrParse]) <;> omega) | decide) only [↓stepPre, stepPost, ↓W_cond, ↓W_block, ↓reduceIte, Nat.reduceEqDiff, Nat.reduceLT, Nat.reduceLeDiff, ret0, stVar, isTup, Value.cells, Nat.reduceAdd, Nat.reduceMul, Nat.reduceSub, env0, binV, intV, reduceCtorEq, pickV, nilCheckV, ptrV, unV, Rt, resultsV, allV, resV, calleeV, builtinV, eqV, fieldAddrV, ldVar, stN_own, stN_ownL, Int.reduceToNat, Int.reducePow, IntKind.bits, convV, Int.reduceNeg, Int.reduceAdd, Int.reduceSub, Int.reduceLT, Int.reduceLE, extractV, Int.reduceEq, mkFuncV, stBScrParse, spBScrParse, beq_self_eq_true, tyB0ScrParse, getL_take, glBScrParse, e2, e3, e4, hp, hq, Tryz.results12]
      have := hno (by rw [hF1]; exact he) _ M
      rw [hF1, hF2] at this
      exact this
    obtain ⟨v, u, y1, y2, y3, y4, y5, y6, y7, y8, y9, y10⟩ := hc
    obtain ⟨va, vn, vc, rfl⟩ := y2.shape
    obtain ⟨ua, un, uc, rfl⟩ := y4.shape
    have y1 : t.heap (s.next + 2) = .row [.int .i64 p.no, .slice va vn vc, .int .i64 p.len, .int .i64 p.rm, .int .i64 p.nm, .int .i64 p.dr, .int .i64 p.tu, .int .i64 p.ba, .int .i64 p.st, .int .i64 p.pe, .slice ua un uc] := y1
    simp (disch := first | omega | ((simp only [nxBScrParse]) <;> omega) | decide) only [↓stepPre, stepPost, ↓W_cond, ↓W_block, ↓reduceIte, Nat.reduceEqDiff, Nat.reduceLT, Nat.reduceLeDiff, ret0, stVar, isTup, Value.cells, Nat.reduceAdd, Nat.reduceMul, Nat.reduceSub, env0, binV, intV, reduceCtorEq, pickV, nilCheckV, ptrV, unV, Rt, resultsV, allV, resV, calleeV, builtinV, eqV, fieldAddrV, ldVar, stN_own, stN_ownL, Int.reduceToNat, Int.reducePow, IntKind.bits, convV, Int.reduceNeg, Int.reduceAdd, Int.reduceSub, Int.reduceLT, Int.reduceLE, extractV, Int.reduceEq, mkFuncV, stBScrParse, spBScrParse, beq_self_eq_true, tyB0ScrParse, getL_take, glBScrParse, e2, e3, e4, e5, e6, e7, y1]
    refine check38_ok (v := .slice va vn vc) (p := p) y2 (by omega) (by omega) (by omega) fun t2 M2 => ?_
    have M2' := M.trans M2
    have n2 := M2.next
    have y1' := (M2.heap (s.next + 2) y10).trans y1
    have hp2 := (M2.heap s.next (by omega)).trans hp
    have hq2 := (M2.heap (s.next + 1) (by omega)).trans hq
    by_cases he : plChk p = 0
    · rw [he]
      simp (disch := first | omega | ((simp only [nxBScrParse]) <;> omega) | decide) only [↓stepPre, stepPost, ↓W_cond, ↓W_block, ↓reduceIte, Nat.reduceEqDiff, Nat.reduceLT, Nat.reduceLeDiff, ret0, stVar, isTup, Value.cells, Nat.reduceAdd, Nat.reduceMul, Nat.reduceSub, env0, binV, intV, reduceCtorEq, pickV, nilCheckV, ptrV, unV, Rt, resultsV, allV, resV, calleeV, builtinV, eqV, fieldAddrV, ldVar, stN_own, stN_ownL, Int.reduceToNat, Int.reducePow, IntKind.bits, convV, Int.reduceNeg, Int.reduceAdd, Int.reduceSub, Int.reduceLT, Int.reduceLE, extractV, Int.reduceEq, mkFuncV, stBScrParse, spBScrParse, beq_self_eq_true, tyB0ScrParse, getL_take, glBScrParse, e2, e3, e4, e5, e6, e7, eq_self]
      refine W_draw (fun k => k == 5 || k == 7) (fun k => k == 3) (fun k => k == s.next + 2) (by kernel_rfl) (by kernel_rfl) ?_
      simp (disch := first | omega | ((simp only [nxBScrParse]) <;> omega) | decide) only [↓stepPre, stepPost, ↓W_cond, ↓W_block, ↓reduceIte, Nat.reduceEqDiff, Nat.reduceLT, Nat.reduceLeDiff, ret0, stVar, isTup, Value.cells, Nat.reduceAdd, Nat.reduceMul, Nat.reduceSub, env0, binV, intV, reduceCtorEq, pickV, nilCheckV, ptrV, unV, Rt, resultsV, allV, resV, calleeV, builtinV, eqV, fieldAddrV, ldVar, stN_own, stN_ownL, Int.reduceToNat, Int.reducePow, IntKind.bits, convV, Int.reduceNeg, Int.reduceAdd, Int.reduceSub, Int.reduceLT, Int.reduceLE, extractV, Int.reduceEq, mkFuncV, stBScrParse, spBScrParse, beq_self_eq_true, tyB0ScrParse, getL_take, glBScrParse, e2, e3, e4, e5, e6, e7, y1', hp2, hq2, buildV, fillL, putAt_row, setL]
      refine ⟨fun h => by simp at h, fun _ => ⟨by show (s.next + 2 == s.next + 2) = true; simp, by show s.next + 2 < t2.next; omega⟩, ?_⟩
      refine ⟨.inr ⟨rfl, Nat.le_refl _, fun j hj hjn => Ab.heap_upd_ne _ _ (by have : j = s.next + 2 := (by simpa using hj); omega)⟩, .inr ⟨rfl, Nat.le_refl _, fun j hj hjn => Ab.heap_upd_ne _ _ (by have : j = s.next + 2 := (by simpa using hj); omega)⟩, ?_⟩
      simp (disch := first | omega | ((simp only [nxBScrParse]) <;> omega) | decide) only [↓stepPre, stepPost, ↓W_cond, ↓W_block, ↓reduceIte, Nat.reduceEqDiff, Nat.reduceLT, Nat.reduceLeDiff, ret0, stVar, isTup, Value.cells, Nat.reduceAdd, Nat.reduceMul, Nat.reduceSub, env0, binV, intV, reduceCtorEq, pickV, nilCheckV, ptrV, unV, Rt, resultsV, allV, resV, calleeV, builtinV, eqV, fieldAddrV, ldVar, stN_own, stN_ownL, Int.reduceToNat, Int.reducePow, IntKind.bits, convV, Int.reduceNeg, Int.reduceAdd, Int.reduceSub, Int.reduceLT, Int.reduceLE, extractV, Int.reduceEq, mkFuncV, stBScrParse, spBScrParse, beq_self_eq_true, tyB0ScrParse, getL_take, glBScrParse, e2, e3, e4, hp2, hq2, Tryz.results12]
      have key := hok (by rw [hF]; exact he)
      rw [hF] at key
      exact key _ (.slice va vn vc) (.slice ua un uc) ((M2'.upd' (Nat.le_refl _)).upd' (by omega))
        ((y2.mild M2).frame (fun a n c e => by
          have := (y6 a.block (by rw [e]; rfl)).1
          rw [Ab.heap_upd_ne _ _ (by omega), Ab.heap_upd_ne _ _ (by omega)]) (Nat.le_refl _))
        ((y4.mild M2).frame (fun a n c e => by
          have := (y7 a.block (by rw [e]; rfl)).1
          rw [Ab.heap_upd_ne _ _ (by omega), Ab.heap_upd_ne _ _ (by omega)]) (Nat.le_refl _))
    · simp (disch := first | omega | ((simp only [nxBScrParse]) <;> omega) | decide) only [↓stepPre, stepPost, ↓W_cond, ↓W_block, ↓reduceIte, Nat.reduceEqDiff, Nat.reduceLT, Nat.reduceLeDiff, ret0, stVar, isTup, Value.cells, Nat.reduceAdd, Nat.reduceMul, Nat.reduceSub, env0, binV, intV, reduceCtorEq, pickV, nilCheckV, ptrV, unV, Rt, resultsV, allV, resV, calleeV, builtinV, eqV, fieldAddrV, ldVar, stN_own, stN_ownL, Int.reduceToNat, Int.reducePow, IntKind.bits, convV, Int.reduceNeg, Int.reduceAdd, Int.reduceSub, Int.reduceLT, Int.reduceLE, extractV, Int.reduceEq, mkFuncV, stBScrParse, spBScrParse, beq_self_eq_true, tyB0ScrParse, getL_take, glBScrParse, e2, e3, e4, e5, e6, e7, he]
      refine wrong38_ok (by omega) fun t3 M3 => ?_
      have hp3 := (M3.heap s.next (by omega)).trans hp2
      have hq3 := (M3.heap (s.next + 1) (by omega)).trans hq2
      have n3 := M3.next
      simp (disch := first | omega | ((simp only [nxBScrParse]) <;> omega) | decide) only [↓stepPre, stepPost, ↓W_cond, ↓W_block, ↓reduceIte, Nat.reduceEqDiff, Nat.reduceLT, Nat.reduceLeDiff, ret0, stVar, isTup, Value.cells, Nat.reduceAdd, Nat.reduceMul, Nat.reduceSub, env0, binV, intV, reduceCtorEq, pickV, nilCheckV, ptrV, unV, Rt, resultsV, allV, resV, calleeV, builtinV, eqV, fieldAddrV, ldVar, stN_own, stN_ownL, Int.reduceToNat, Int.reducePow, IntKind.bits, convV, Int.reduceNeg, Int.reduceAdd, Int.reduceSub, Int.reduceLT, Int.reduceLE, extractV, Int.reduceEq, mkFuncV, stBScrParse, spBScrParse, beq_self_eq_true, tyB0ScrParse, getL_take, glBScrParse, e2, e3, e4, e7, hp3, hq3, putAt_row, setL, Tryz.results12]
      have key := hno (by rw [hF]; exact he)
      rw [hF] at key
      exact key _ (((M2'.trans M3).upd' (Nat.le_refl _)).upd' (by omega))
  rintro i e1 t hi ⟨p, l, r, M, hc, hp, hq, hF, hrl, h64, h1024, hnm, e0, e2, e3, e4, e5, e6, e7⟩
  obtain ⟨mx, hmx⟩ := (hL.mild M hbn).most
  simp (disch := first | omega | ((simp only [nxBScrParse]) <;> omega) | decide) only [↓stepPre, stepPost, ↓W_cond, ↓W_block, ↓reduceIte, Nat.reduceEqDiff, Nat.reduceLT, Nat.reduceLeDiff, ret0, stVar, isTup, Value.cells, Nat.reduceAdd, Nat.reduceMul, Nat.reduceSub, env0, binV, intV, reduceCtorEq, pickV, nilCheckV, ptrV, unV, Rt, resultsV, allV, resV, calleeV, builtinV, eqV, fieldAddrV, ldVar, stN_own, stN_ownL, Int.reduceToNat, Int.reducePow, IntKind.bits, convV, Int.reduceNeg, Int.reduceAdd, Int.reduceSub, Int.reduceLT, Int.reduceLE, extractV, Int.reduceEq, mkFuncV, stBScrParse, spBScrParse, beq_self_eq_true, tyB0ScrParse, getL_take, glBScrParse, e0, e2, e3, e4, e5, e6, e7]
  refine cut38_p (b := [10]) (by omega) hmx ?_
  have hon : s.next + 2 < t.next := by obtain ⟨v, u, y1, y2, y3, y4, y5, y6, y7, y8, y9, y10⟩ := hc; exact y10
  obtain ⟨f, hf⟩ : ∃ f, x.length + 1 - i = f + 1 := ⟨x.length - i, by omega⟩
  rw [hf, parseL] at hF
  by_cases hA : r = [] ∧ 6 ≤ i
  · obtain ⟨rfl, hi6⟩ := hA
    rw [if_pos ⟨rfl, hi6⟩] at hF
    rw [cut_out (c := 10) (x := []) rfl]
    have g6 : (i : Int) ≥ 6 := by omega
    have g6' : 6 ≤ (i : Int) := by omega
    simp (disch := first | omega | ((simp only [nxBScrParse]) <;> omega) | decide) only [↓stepPre, stepPost, ↓W_cond, ↓W_block, ↓reduceIte, Nat.reduceEqDiff, Nat.reduceLT, Nat.reduceLeDiff, ret0, stVar, isTup, Value.cells, Nat.reduceAdd, Nat.reduceMul, Nat.reduceSub, env0, binV, intV, reduceCtorEq, pickV, nilCheckV, ptrV, unV, Rt, resultsV, allV, resV, calleeV, builtinV, eqV, fieldAddrV, ldVar, stN_own, stN_ownL, Int.reduceToNat, Int.reducePow, IntKind.bits, convV, Int.reduceNeg, Int.reduceAdd, Int.reduceSub, Int.reduceLT, Int.reduceLE, extractV, Int.reduceEq, mkFuncV, stBScrParse, spBScrParse, beq_self_eq_true, tyB0ScrParse, getL_take, glBScrParse, e0, e2, e3, e4, e5, e6, e7, eqlStrV, eq_self, g6, g6']
    exact .inl ⟨p, l, i, M, hc, hp, hq, hF, by omega, h64, hnm, rfl⟩
  rw [if_neg hA] at hF
  by_cases hB : r.count 10 = 0
  · rw [if_pos hB] at hF
    rw [cut_out hB]
    have fin : ∀ t2, Mild t t2 → Mild s ((t2.upd s.next (.row [.int .i64 0, .slice none 0 0, .int .i64 0, .int .i64 0, .int .i64 0, .int .i64 0, .int .i64 0, .int .i64 0, .int .i64 0, .int .i64 0])).upd (s.next + 1) (.row [.int .i64 12, .int .i64 (i : Int)])) := fun t2 M2 => ((M.trans M2).upd' (Nat.le_refl _)).upd' (by omega)
    by_cases hr0 : r = []
    · have g6 : ¬ (i : Int) ≥ 6 := fun h => hA ⟨hr0, by omega⟩
      have g6' : ¬ 6 ≤ (i : Int) := g6
      simp (disch := first | omega | ((simp only [nxBScrParse]) <;> omega) | decide) only [↓stepPre, stepPost, ↓W_cond, ↓W_block, ↓reduceIte, Nat.reduceEqDiff, Nat.reduceLT, Nat.reduceLeDiff, ret0, stVar, isTup, Value.cells, Nat.reduceAdd, Nat.reduceMul, Nat.reduceSub, env0, binV, intV, reduceCtorEq, pickV, nilCheckV, ptrV, unV, Rt, resultsV, allV, resV, calleeV, builtinV, eqV, fieldAddrV, ldVar, stN_own, stN_ownL, Int.reduceToNat, Int.reducePow, IntKind.bits, convV, Int.reduceNeg, Int.reduceAdd, Int.reduceSub, Int.reduceLT, Int.reduceLE, extractV, Int.reduceEq, mkFuncV, stBScrParse, spBScrParse, beq_self_eq_true, tyB0ScrParse, getL_take, glBScrParse, e0, e2, e3, e4, e5, e6, e7, eqlStrV, hr0, eq_self, g6, g6']
      refine wrong38_ok (by have := M.next; omega) fun t2 M2 => ?_
      have hp2 := (M2.heap s.next (by omega)).trans hp
      have hq2 := (M2.heap (s.next + 1) (by omega)).trans hq
      have n2 := M2.next
      simp (disch := first | omega | ((simp only [nxBScrParse]) <;> omega) | decide) only [↓stepPre, stepPost, ↓W_cond, ↓W_block, ↓reduceIte, Nat.reduceEqDiff, Nat.reduceLT, Nat.reduceLeDiff, ret0, stVar, isTup, Value.cells, Nat.reduceAdd, Nat.reduceMul, Nat.reduceSub, env0, binV, intV, reduceCtorEq, pickV, nilCheckV, ptrV, unV, Rt, resultsV, allV, resV, calleeV, builtinV, eqV, fieldAddrV, ldVar, stN_own, stN_ownL, Int.reduceToNat, Int.reducePow, IntKind.bits, convV, Int.reduceNeg, Int.reduceAdd, Int.reduceSub, Int.reduceLT, Int.reduceLE, extractV, Int.reduceEq, mkFuncV, stBScrParse, spBScrParse, beq_self_eq_true, tyB0ScrParse, getL_take, glBScrParse, e2, e3, e4, e7, hp2, hq2, putAt_row, setL]
      exact .inr ⟨12, i, by decide, by rw [hF], by rw [hF], ((M.trans M2).upd' (Nat.le_refl _)).upd' (by omega), rfl, rfl⟩
    · simp (disch := first | omega | ((simp only [nxBScrParse]) <;> omega) | decide) only [↓stepPre, stepPost, ↓W_cond, ↓W_block, ↓reduceIte, Nat.reduceEqDiff, Nat.reduceLT, Nat.reduceLeDiff, ret0, stVar, isTup, Value.cells, Nat.reduceAdd, Nat.reduceMul, Nat.reduceSub, env0, binV, intV, reduceCtorEq, pickV, nilCheckV, ptrV, unV, Rt, resultsV, allV, resV, calleeV, builtinV, eqV, fieldAddrV, ldVar, stN_own, stN_ownL, Int.reduceToNat, Int.reducePow, IntKind.bits, convV, Int.reduceNeg, Int.reduceAdd, Int.reduceSub, Int.reduceLT, Int.reduceLE, extractV, Int.reduceEq, mkFuncV, stBScrParse, spBScrParse, beq_self_eq_true, tyB0ScrParse, getL_take, glBScrParse, e0, e2, e3, e4, e5, e6, e7, eqlStrV, hr0]
      refine wrong38_ok (by have := M.next; omega) fun t2 M2 => ?_
      have hp2 := (M2.heap s.next (by omega)).trans hp
      have hq2 := (M2.heap (s.next + 1) (by omega)).trans hq
      have n2 := M2.next
      simp (disch := first | omega | ((simp only [nxBScrParse]) <;> omega) | decide) only [↓stepPre, stepPost, ↓W_cond, ↓W_block, ↓reduceIte, Nat.reduceEqDiff, Nat.reduceLT, Nat.reduceLeDiff, ret0, stVar, isTup, Value.cells, Nat.reduceAdd, Nat.reduceMul, Nat.reduceSub, env0, binV, intV, reduceCtorEq, pickV, nilCheckV, ptrV, unV, Rt, resultsV, allV, resV, calleeV, builtinV, eqV, fieldAddrV, ldVar, stN_own, stN_ownL, Int.reduceToNat, Int.reducePow, IntKind.bits, convV, Int.reduceNeg, Int.reduceAdd, Int.reduceSub, Int.reduceLT, Int.reduceLE, extractV, Int.reduceEq, mkFuncV, stBScrParse, spBScrParse, beq_self_eq_true, tyB0ScrParse, getL_take, glBScrParse, e2, e3, e4, e7, hp2, hq2, putAt_row, setL]
      exact .inr ⟨12, i, by decide, by rw [hF], by rw [hF], ((M.trans M2).upd' (Nat.le_refl _)).upd' (by omega), rfl, rfl⟩
  rw [if_neg hB] at hF
  obtain ⟨l1, r1, k1, k2, k3, k4⟩ := cut_in (c := 10) (x := r) (by omega)
  rw [k1] at hF ⊢
  simp only at hF
  have hr0 : ¬ r = [] := fun h => by rw [h] at hB; exact hB rfl
  have hl : r.length = l1.length + 1 + r1.length := by rw [k2]; simp; omega
  simp (disch := first | omega | ((simp only [nxBScrParse]) <;> omega) | decide) only [↓stepPre, stepPost, ↓W_cond, ↓W_block, ↓reduceIte, Nat.reduceEqDiff, Nat.reduceLT, Nat.reduceLeDiff, ret0, stVar, isTup, Value.cells, Nat.reduceAdd, Nat.reduceMul, Nat.reduceSub, env0, binV, intV, reduceCtorEq, pickV, nilCheckV, ptrV, unV, Rt, resultsV, allV, resV, calleeV, builtinV, eqV, fieldAddrV, ldVar, stN_own, stN_ownL, Int.reduceToNat, Int.reducePow, IntKind.bits, convV, Int.reduceNeg, Int.reduceAdd, Int.reduceSub, Int.reduceLT, Int.reduceLE, extractV, Int.reduceEq, mkFuncV, stBScrParse, spBScrParse, beq_self_eq_true, tyB0ScrParse, getL_take, glBScrParse, e0, e2, e3, e4, e5, e6, e7, eqlStrV, hr0]
  refine sline_ok hc (x := l1) (by omega) (hL.mild M hbn) h64 h1024 (by omega) fun t2 n2 f2 c2 => ?_
  have M2 : Mild s t2 := ⟨by have := M.next; omega, fun k hk => by rw [f2 k (by omega)]; exact M.heap k hk⟩
  have hp2 := (f2 s.next (by omega)).trans hp
  have hq2 := (f2 (s.next + 1) (by omega)).trans hq
  by_cases he : (lineF i p l l1).1 = 0
  · rw [if_neg (fun h => h he)] at hF
    have kp := lineF_keep he h64 h1024 hnm
    have hc2 := c2 he
    rw [he]
    simp (disch := first | omega | ((simp only [nxBScrParse]) <;> omega) | decide) only [↓stepPre, stepPost, ↓W_cond, ↓W_block, ↓reduceIte, Nat.reduceEqDiff, Nat.reduceLT, Nat.reduceLeDiff, ret0, stVar, isTup, Value.cells, Nat.reduceAdd, Nat.reduceMul, Nat.reduceSub, env0, binV, intV, reduceCtorEq, pickV, nilCheckV, ptrV, unV, Rt, resultsV, allV, resV, calleeV, builtinV, eqV, fieldAddrV, ldVar, stN_own, stN_ownL, Int.reduceToNat, Int.reducePow, IntKind.bits, convV, Int.reduceNeg, Int.reduceAdd, Int.reduceSub, Int.reduceLT, Int.reduceLE, extractV, Int.reduceEq, mkFuncV, stBScrParse, spBScrParse, beq_self_eq_true, tyB0ScrParse, getL_take, glBScrParse, e0, e2, e3, e4, e5, e6, e7, eq_self]
    exact ⟨by omega, _, _, r1, M2, hc2, hp2, hq2, by rw [hF, show x.length + 1 - (i + 1) = f by omega], by omega, kp.1, kp.2.1, kp.2.2, rfl, by simp⟩
  · rw [if_pos he] at hF
    simp (disch := first | omega | ((simp only [nxBScrParse]) <;> omega) | decide) only [↓stepPre, stepPost, ↓W_cond, ↓W_block, ↓reduceIte, Nat.reduceEqDiff, Nat.reduceLT, Nat.reduceLeDiff, ret0, stVar, isTup, Value.cells, Nat.reduceAdd, Nat.reduceMul, Nat.reduceSub, env0, binV, intV, reduceCtorEq, pickV, nilCheckV, ptrV, unV, Rt, resultsV, allV, resV, calleeV, builtinV, eqV, fieldAddrV, ldVar, stN_own, stN_ownL, Int.reduceToNat, Int.reducePow, IntKind.bits, convV, Int.reduceNeg, Int.reduceAdd, Int.reduceSub, Int.reduceLT, Int.reduceLE, extractV, Int.reduceEq, mkFuncV, stBScrParse, spBScrParse, beq_self_eq_true, tyB0ScrParse, getL_take, glBScrParse, e0, e2, e3, e4, e5, e6, e7, he]
    refine wrong38_ok (by have := M2.next; omega) fun t3 M3 => ?_
    have hp3 := (M3.heap s.next (by omega)).trans hp2
    have hq3 := (M3.heap (s.next + 1) (by omega)).trans hq2
    have n3 := M3.next
    simp (disch := first | omega | ((simp only [nxBScrParse]) <;> omega) | decide) only [↓stepPre, stepPost, ↓W_cond, ↓W_block, ↓reduceIte, Nat.reduceEqDiff, Nat.reduceLT, Nat.reduceLeDiff, ret0, stVar, isTup, Value.cells, Nat.reduceAdd, Nat.reduceMul, Nat.reduceSub, env0, binV, intV, reduceCtorEq, pickV, nilCheckV, ptrV, unV, Rt, resultsV, allV, resV, calleeV, builtinV, eqV, fieldAddrV, ldVar, stN_own, stN_ownL, Int.reduceToNat, Int.reducePow, IntKind.bits, convV, Int.reduceNeg, Int.reduceAdd, Int.reduceSub, Int.reduceLT, Int.reduceLE, extractV, Int.reduceEq, mkFuncV, stBScrParse, spBScrParse, beq_self_eq_true, tyB0ScrParse, getL_take, glBScrParse, e2, e3, e4, e7, hp3, hq3, putAt_row, setL]
    exact .inr ⟨_, i, he, by rw [hF], by rw [hF], ((M2.trans M3).upd' (Nat.le_refl _)).upd' (by omega), rfl, rfl⟩
end Go.Proofs.YthjpfllmecpliaaGreatDoor
