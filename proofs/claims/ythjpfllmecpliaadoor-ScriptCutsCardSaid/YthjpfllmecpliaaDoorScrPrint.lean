/- A network's script (script.Print), as a contract. -/
import Derived.Test.YthjpfllmecpliaaDoorTypes
import Derived.Test.YthjpfllmecpliaaDoorRow0
import Derived.Test.YthjpfllmecpliaaDoorAbC
import Derived.Test.YthjpfllmecpliaaDoorOwnOf
import Derived.Test.YthjpfllmecpliaaDoorAsks
import Derived.Test.YthjpfllmecpliaaDoorPure
import Derived.Test.YthjpfllmecpliaaDoorBoxes
import Derived.Test.YthjpfllmecpliaaDoorScrPlan
set_option linter.all false
set_option maxRecDepth 20000
namespace Go.Proofs.YthjpfllmecpliaaDoor
open Go Go.Ab
def nxBScrPrint := And.intro @Ab.next_alloc (And.intro @Ab.next_upd (And.intro @List.length_cons.{0} (And.intro @List.length_nil.{0} (And.intro @ne_eq.{1} (And.intro not_true_eq_false not_false_eq_true)))))
def tyB0ScrPrint := And.intro @Ty.t26 (And.intro @Tryd.underlying26 (And.intro @Ty.t24 (And.intro @Tryd.underlying24 (And.intro @Ty.t55 (And.intro @Tryd.underlying55 (And.intro @Ty.t22 (And.intro @Tryd.underlying22 (And.intro @Ty.t45 (And.intro @Tryd.underlying45 (And.intro @Ty.t27 (And.intro @Tryd.underlying27 (And.intro @Ty.t53 (And.intro @Tryd.underlying53 (And.intro @Ty.t9 (And.intro @Tryd.underlying9 (And.intro @Ty.t52 (And.intro @Tryd.underlying52 (And.intro @Ty.t68 (And.intro @Tryd.underlying68 (And.intro @Ty.t2 (And.intro @Tryd.underlying2 (And.intro @Ty.t3 (And.intro @Tryd.underlying3 (And.intro @Ty.t4 (And.intro @Tryd.underlying4 (And.intro @Ty.t29 @Tryd.underlying29))))))))))))))))))))))))))
def stBScrPrint := And.intro @List.size_toArray.{0} (And.intro @List.length_cons.{0} (And.intro @List.length_nil.{0} (And.intro @List.set_cons_zero.{0} (And.intro @List.set_cons_succ.{0} (And.intro @List.getD_cons_zero.{0} (And.intro @List.getD_cons_succ.{0} (And.intro @List.getElem?_cons_succ.{0} (And.intro @List.getElem?_cons_zero.{0} (And.intro @List.map_cons.{0,0} (And.intro @List.map_nil.{0,0} (And.intro @Option.isNone_none.{0} (And.intro @Option.isNone_some.{0} (And.intro @Option.map_some.{0,0} (And.intro @Option.map_none.{0,0} (And.intro @List.cons_append.{0} (And.intro @List.nil_append.{0} (And.intro @List.append_nil.{0} (And.intro @Array.toList_append.{0} (And.intro @List.toList_toArray.{0} (And.intro @Int.cast_ofNat_Int (And.intro @Option.isSome_some.{0} (And.intro @List.getElem?_toArray.{0} (And.intro @List.map_toArray.{0,0} (@Nat.min_eq_left))))))))))))))))))))))))
def glBScrPrint := And.intro @List.drop_zero.{0} (And.intro @List.drop_succ_cons.{0} (And.intro @List.take_succ_cons.{0} (And.intro @List.take_zero.{0} (@List.take_nil.{0}))))
variable {base : Nat} [Bok base] {s : St} {R : Value → St → Prop}
structure Ac where
  k : Int
  K : Int
  N : Int
  ds : List Nat
abbrev Ac.c (a : Ac) : List Value := actC a.k a.K a.N a.ds
def Ac.right (a : Ac) : Bool := rightA a.k a.K a.N a.ds
def Ac.line (a : Ac) : List UInt8 := lineA a.k a.K a.N a.ds
def Ac.good (a : Ac) : Prop := a.ds.length = 8 ∧ ∀ y ∈ a.ds, y < 256
def acL (l : List Ac) : List (List Value) := l.map fun a => a.c
theorem acL_len (l : List Ac) : (acL l).length = l.length := by simp [acL]
theorem acL_at {l : List Ac} {i : Nat} (h : i < l.length) : (acL l)[i]? = some l[i].c := by simp [acL, h]
def badI (l : List Ac) (i : Nat) : Int := if h : i < l.length then (if l[i].right then 0 else 1) else 0
theorem badI_eq {l : List Ac} {i : Nat} (h : i < l.length) : badI l i = if l[i].right then 0 else 1 := by unfold badI; rw [dif_pos h]
theorem putAt_act {a0 a1 a2 a3 a4 a5 a6 a7 a8 a9 a10 x y z : Value} {ds : List Nat} (h : ds.length = 8) : putAt (.row [a0, a1, a2, a3, a4, a5, a6, a7, a8, a9, a10]) 0 (x :: y :: z :: bC ds) = some (.row (x :: y :: z :: bC ds)) := by
  simp only [putAt, AObj.cells?, AObj.withCells]
  rw [if_pos (by simp [bC_len, h]), setL_eq _ _ _ (by simp [bC_len, h])]
  simp [bC_len, h]
theorem notRight_ok {a : Ac} (ha : a.good) (hbn : base ≤ s.next) (hR : ∀ s', Mild s s' → R (.bool (!a.right)) s') : WC Tryd.prog base 17 [.agg a.c.toArray] s R := by
  refine WC_open Tryd.func17 rfl ?_
  have key := hR _ (.alloc _ (.row a.c))
  simp (disch := first | omega | ((simp only [nxBScrPrint]) <;> omega) | decide) only [↓stepPre, stepPost, ↓W_cond, ↓W_block, ↓reduceIte, Nat.reduceEqDiff, Nat.reduceLT, Nat.reduceLeDiff, ret0, stVar, isTup, Value.cells, Nat.le_refl, Nat.reduceAdd, Nat.reduceMul, Nat.reduceSub, env0, binV, intV, reduceCtorEq, pickV, nilCheckV, ptrV, unV, true_and, and_true, Nat.add_zero, Nat.zero_add, Rt, resultsV, allV, resV, Bool.not_true, Bool.not_false, calleeV, builtinV, eqV, fieldAddrV, ldVar, stN_own, stN_ownL, Int.fdiv_eq_ediv_of_nonneg, Int.reduceToNat, Int.reducePow, IntKind.bits, convV, ne_eq, not_false_eq_true, not_true_eq_false, Int.reduceNeg, Int.reduceAdd, Int.reduceSub, Int.reduceLT, Int.reduceLE, extractV, decide_true, decide_false, Int.reduceEq, mkFuncV, stBScrPrint, beq_self_eq_true, tyB0ScrPrint, getL_take, glBScrPrint, getL_act ha.1]
  refine right38_p ha.1 ?_
  rw [show rightA a.k a.K a.N a.ds = a.right from rfl]
  cases hr : a.right with
  | false => rw [hr] at key; simp (disch := first | omega | ((simp only [nxBScrPrint]) <;> omega) | decide) only [↓stepPre, stepPost, ↓W_cond, ↓W_block, ↓reduceIte, Nat.reduceEqDiff, Nat.reduceLT, Nat.reduceLeDiff, ret0, stVar, isTup, Value.cells, Nat.le_refl, Nat.reduceAdd, Nat.reduceMul, Nat.reduceSub, env0, binV, intV, reduceCtorEq, pickV, nilCheckV, ptrV, unV, true_and, and_true, Nat.add_zero, Nat.zero_add, Rt, resultsV, allV, resV, Bool.not_true, Bool.not_false, calleeV, builtinV, eqV, fieldAddrV, ldVar, stN_own, stN_ownL, Int.fdiv_eq_ediv_of_nonneg, Int.reduceToNat, Int.reducePow, IntKind.bits, convV, ne_eq, not_false_eq_true, not_true_eq_false, Int.reduceNeg, Int.reduceAdd, Int.reduceSub, Int.reduceLT, Int.reduceLE, extractV, decide_true, decide_false, Int.reduceEq, mkFuncV, stBScrPrint, beq_self_eq_true, tyB0ScrPrint, getL_take, glBScrPrint, Tryd.results17]; exact key
  | true => rw [hr] at key; simp (disch := first | omega | ((simp only [nxBScrPrint]) <;> omega) | decide) only [↓stepPre, stepPost, ↓W_cond, ↓W_block, ↓reduceIte, Nat.reduceEqDiff, Nat.reduceLT, Nat.reduceLeDiff, ret0, stVar, isTup, Value.cells, Nat.le_refl, Nat.reduceAdd, Nat.reduceMul, Nat.reduceSub, env0, binV, intV, reduceCtorEq, pickV, nilCheckV, ptrV, unV, true_and, and_true, Nat.add_zero, Nat.zero_add, Rt, resultsV, allV, resV, Bool.not_true, Bool.not_false, calleeV, builtinV, eqV, fieldAddrV, ldVar, stN_own, stN_ownL, Int.fdiv_eq_ediv_of_nonneg, Int.reduceToNat, Int.reducePow, IntKind.bits, convV, ne_eq, not_false_eq_true, not_true_eq_false, Int.reduceNeg, Int.reduceAdd, Int.reduceSub, Int.reduceLT, Int.reduceLE, extractV, decide_true, decide_false, Int.reduceEq, mkFuncV, stBScrPrint, beq_self_eq_true, tyB0ScrPrint, getL_take, glBScrPrint, Tryd.results17]; exact key
theorem acIdx_ok {v : Value} {l : List Ac} (hs : Sl base s 11 v (acL l)) (hg : ∀ a ∈ l, a.good) (hn : l.length ≤ 2 ^ 62) (hbn : base ≤ s.next) (hR : ∀ s', Mild s s' → R (.int .i64 (match fwd (badI l) 0 l.length with | some i => (i : Int) | none => -1)) s') :
    WC Tryd.prog base 39 [v, .func (.func 17) #[] #[]] s R := by
  refine WC_open Tryd.func39 rfl ?_
  have hlen := hs.len (P := Tryd.prog) (ts := []) Ty.elem27 Ty.arr27
  rw [acL_len] at hlen
  simp (disch := first | omega | ((simp only [nxBScrPrint]) <;> omega) | decide) only [↓stepPre, stepPost, ↓W_cond, ↓W_block, ↓reduceIte, Nat.reduceEqDiff, Nat.reduceLT, Nat.reduceLeDiff, ret0, stVar, isTup, Value.cells, Nat.le_refl, Nat.reduceAdd, Nat.reduceMul, Nat.reduceSub, env0, binV, intV, reduceCtorEq, pickV, nilCheckV, ptrV, unV, true_and, and_true, Nat.add_zero, Nat.zero_add, Rt, resultsV, allV, resV, Bool.not_true, Bool.not_false, calleeV, builtinV, eqV, fieldAddrV, ldVar, stN_own, stN_ownL, Int.fdiv_eq_ediv_of_nonneg, Int.reduceToNat, Int.reducePow, IntKind.bits, convV, ne_eq, not_false_eq_true, not_true_eq_false, Int.reduceNeg, Int.reduceAdd, Int.reduceSub, Int.reduceLT, Int.reduceLE, extractV, decide_true, decide_false, Int.reduceEq, mkFuncV, stBScrPrint, beq_self_eq_true, tyB0ScrPrint, hlen]
  refine W_loop_ind l.length (fun i e s1 => Mild s s1 ∧ fwd (badI l) 0 l.length = fwd (badI l) i (l.length - i) ∧ e 0 = v ∧ e 1 = .func (.func 17) #[] #[] ∧ e 7 = .int .i64 (l.length : Int) ∧ e 8 = .int .i64 (i : Int)) ?_ ⟨.refl _, rfl, rfl, rfl, rfl, rfl⟩
  rintro i e s1 hi ⟨m1, hf, h0, h1, h7, h8⟩
  have n1 := m1.next
  by_cases hil : i < l.length
  rotate_left
  · have g1 : ¬ (i : Int) < (l.length : Int) := by omega
    rw [hf, show l.length - i = 0 by omega] at hR
    simp (disch := first | omega | ((simp only [nxBScrPrint]) <;> omega) | decide) only [↓stepPre, stepPost, ↓W_cond, ↓W_block, ↓reduceIte, Nat.reduceEqDiff, Nat.reduceLT, Nat.reduceLeDiff, ret0, stVar, isTup, Value.cells, Nat.le_refl, Nat.reduceAdd, Nat.reduceMul, Nat.reduceSub, env0, binV, intV, reduceCtorEq, pickV, nilCheckV, ptrV, unV, true_and, and_true, Nat.add_zero, Nat.zero_add, Rt, resultsV, allV, resV, Bool.not_true, Bool.not_false, calleeV, builtinV, eqV, fieldAddrV, ldVar, stN_own, stN_ownL, Int.fdiv_eq_ediv_of_nonneg, Int.reduceToNat, Int.reducePow, IntKind.bits, convV, ne_eq, not_false_eq_true, not_true_eq_false, Int.reduceNeg, Int.reduceAdd, Int.reduceSub, Int.reduceLT, Int.reduceLE, extractV, decide_true, decide_false, Int.reduceEq, mkFuncV, stBScrPrint, beq_self_eq_true, tyB0ScrPrint, h0, h1, h7, h8, g1, Tryd.results39]
    exact hR _ m1
  have g1 : (i : Int) < (l.length : Int) := by omega
  have v2 := hs.mild m1
  have hix := v2.index (P := Tryd.prog) (k := .i64) (i := (i : Int)) Ty.elem27 Ty.siz45 (by omega) (by rw [acL_len]; omega)
  rw [Int.toNat_natCast] at hix
  have hld := v2.loadA (acL_at hil) Ty.agg45 Ty.siz45
  simp (disch := first | omega | ((simp only [nxBScrPrint]) <;> omega) | decide) only [↓stepPre, stepPost, ↓W_cond, ↓W_block, ↓reduceIte, Nat.reduceEqDiff, Nat.reduceLT, Nat.reduceLeDiff, ret0, stVar, isTup, Value.cells, Nat.le_refl, Nat.reduceAdd, Nat.reduceMul, Nat.reduceSub, env0, binV, intV, reduceCtorEq, pickV, nilCheckV, ptrV, unV, true_and, and_true, Nat.add_zero, Nat.zero_add, Rt, resultsV, allV, resV, Bool.not_true, Bool.not_false, calleeV, builtinV, eqV, fieldAddrV, ldVar, stN_own, stN_ownL, Int.fdiv_eq_ediv_of_nonneg, Int.reduceToNat, Int.reducePow, IntKind.bits, convV, ne_eq, not_false_eq_true, not_true_eq_false, Int.reduceNeg, Int.reduceAdd, Int.reduceSub, Int.reduceLT, Int.reduceLE, extractV, decide_true, decide_false, Int.reduceEq, mkFuncV, stBScrPrint, beq_self_eq_true, tyB0ScrPrint, getL_take, glBScrPrint, h0, h1, h7, h8, g1, hix, hld]
  refine notRight_ok (hg _ (List.getElem_mem hil)) (by omega) fun s2 m2 => ?_
  have hb := badI_eq hil
  cases hk : l[i].right
  · rw [hk] at hb
    rw [hf, fwd_hit hil (by rw [hb]; decide)] at hR
    simp (disch := first | omega | ((simp only [nxBScrPrint]) <;> omega) | decide) only [↓stepPre, stepPost, ↓W_cond, ↓W_block, ↓reduceIte, Nat.reduceEqDiff, Nat.reduceLT, Nat.reduceLeDiff, ret0, stVar, isTup, Value.cells, Nat.le_refl, Nat.reduceAdd, Nat.reduceMul, Nat.reduceSub, env0, binV, intV, reduceCtorEq, pickV, nilCheckV, ptrV, unV, true_and, and_true, Nat.add_zero, Nat.zero_add, Rt, resultsV, allV, resV, Bool.not_true, Bool.not_false, calleeV, builtinV, eqV, fieldAddrV, ldVar, stN_own, stN_ownL, Int.fdiv_eq_ediv_of_nonneg, Int.reduceToNat, Int.reducePow, IntKind.bits, convV, ne_eq, not_false_eq_true, not_true_eq_false, Int.reduceNeg, Int.reduceAdd, Int.reduceSub, Int.reduceLT, Int.reduceLE, extractV, decide_true, decide_false, Int.reduceEq, mkFuncV, stBScrPrint, beq_self_eq_true, tyB0ScrPrint, getL_take, glBScrPrint, h0, h1, h7, h8, Tryd.results39]
    exact hR _ (m1.trans m2)
  · rw [hk] at hb
    simp (disch := first | omega | ((simp only [nxBScrPrint]) <;> omega) | decide) only [↓stepPre, stepPost, ↓W_cond, ↓W_block, ↓reduceIte, Nat.reduceEqDiff, Nat.reduceLT, Nat.reduceLeDiff, ret0, stVar, isTup, Value.cells, Nat.le_refl, Nat.reduceAdd, Nat.reduceMul, Nat.reduceSub, env0, binV, intV, reduceCtorEq, pickV, nilCheckV, ptrV, unV, true_and, and_true, Nat.add_zero, Nat.zero_add, Rt, resultsV, allV, resV, Bool.not_true, Bool.not_false, calleeV, builtinV, eqV, fieldAddrV, ldVar, stN_own, stN_ownL, Int.fdiv_eq_ediv_of_nonneg, Int.reduceToNat, Int.reducePow, IntKind.bits, convV, ne_eq, not_false_eq_true, not_true_eq_false, Int.reduceNeg, Int.reduceAdd, Int.reduceSub, Int.reduceLT, Int.reduceLE, extractV, decide_true, decide_false, Int.reduceEq, mkFuncV, stBScrPrint, beq_self_eq_true, tyB0ScrPrint, getL_take, glBScrPrint, h0, h1, h7, h8]
    exact ⟨hil, m1.trans m2, by rw [hf, fwd_skip hil hb], by simp⟩
def row6 (p : Pl) : List (List UInt8) := [rowL [110, 111, 100, 101, 115] [p.no.toNat], rowL [108, 101, 110, 103, 116, 104] [p.len.toNat], rowL [114, 111, 111, 109] [p.rm.toNat], rowL [98, 101, 97, 116] [p.nm.toNat, p.dr.toNat], rowL [116, 117, 110, 101] [p.tu.toNat], rowL [116, 117, 114, 110, 115] [p.ba.toNat, p.st.toNat, p.pe.toNat]]
def allL (p : Pl) (l : List Ac) : List (List UInt8) := row6 p ++ p.xs.map streamL ++ l.map Ac.line
def lfT (xs : List (List UInt8)) : List UInt8 := xs.flatMap fun x => x ++ [10]
def printE (p : Pl) (l : List Ac) : Int := if plChk p ≠ 0 then plChk p else if 1024 < l.length then 11 else if (fwd (badI l) 0 l.length).isSome then 10 else 0
def printT (p : Pl) (l : List Ac) : List UInt8 := if printE p l = 0 then lfT (allL p l) else []
structure plFine (p : Pl) : Prop where
  no : 2 ≤ p.no ∧ p.no ≤ 32
  len : 1 ≤ p.len ∧ p.len ≤ 1073741824
  rm : 1 ≤ p.rm ∧ p.rm ≤ 64
  nm : 1 ≤ p.nm ∧ p.nm ≤ 1048576
  dr : 0 ≤ p.dr ∧ p.dr < p.nm
  tu : 0 ≤ p.tu ∧ p.tu ≤ 4096
  ba : 1 ≤ p.ba ∧ p.ba ≤ 10000
  st : 1 ≤ p.st ∧ p.st ≤ 1000
  pe : 1 ≤ p.pe ∧ p.pe ≤ 1000
  xs : p.xs.length ≤ 64
  fine : ∀ x ∈ p.xs, smFine x
theorem plChk_fine {p : Pl} (h : plChk p = 0) : plFine p := by
  unfold plChk at h
  split at h
  · cases h
  rename_i hok
  split at h
  · rename_i h2; exact absurd h h2
  rename_i h2
  have h2 : (chk p.xs p.len).2 = 0 := Decidable.not_not.1 h2
  have hok : plOk p = true := by simpa using hok
  unfold plOk confB beatB rankB at hok
  simp only [Bool.and_eq_true, decide_eq_true_eq] at hok
  obtain ⟨⟨⟨a1, a2, a3⟩, a4⟩, a5⟩ := hok
  unfold chk at h2
  split at h2
  · cases h2
  rename_i b1
  split at h2
  · cases h2
  rename_i b2
  have b2 : 1 ≤ p.len ∧ p.len ≤ 1073741824 := Decidable.not_not.1 b2
  split at h2
  · rename_i b3; exact absurd h2 b3
  rename_i b3
  have b3 : (fst0 (rl1 p.xs) p.xs.length).2 = 0 := Decidable.not_not.1 b3
  refine ⟨a1, b2, a5, ⟨a2.1, a2.2.1⟩, ⟨a2.2.2.1, a2.2.2.2⟩, a3, ⟨by omega, by omega⟩, ⟨by omega, by omega⟩, ⟨by omega, by omega⟩, by omega, fun x hx => ?_⟩
  obtain ⟨i, hi, rfl⟩ := List.mem_iff_getElem.1 hx
  unfold fst0 at b3
  split at b3
  · rename_i j hj
    exact absurd b3 (fwd_some hj).2.2.1
  · rename_i hj
    have := fwd_none hj i (by omega) (by omega)
    unfold rl1 at this
    rw [atS_eq hi] at this
    exact right_fine this
theorem row6_len {p : Pl} (h : plFine p) : ∀ x ∈ row6 p, x.length ≤ 200 := by
  have := h.no; have := h.len; have := h.rm; have := h.nm; have := h.dr; have := h.tu; have := h.ba; have := h.st; have := h.pe
  intro x hx
  simp only [row6, List.mem_cons, List.not_mem_nil, or_false] at hx
  rcases hx with rfl | rfl | rfl | rfl | rfl | rfl
  all_goals refine Nat.le_trans (rowL_len _ _ (by simp; omega)) (by simp)
theorem streamL_len {x : Sm} (h : smFine x) : (streamL x).length ≤ 200 := by
  obtain ⟨x1, x2, x3, x4, x5, x6, x7, x8, y1, y2, y5, y6, y7, y8⟩ := h
  unfold streamL
  have hr1 := rowL_len streamW [x.id.toNat, x.nd.toNat] (by simp; omega)
  have hr2 := rowL_len (classL x.cl) [x.pe.toNat, x.de.toNat, x.sl.toNat, x.by_.toNat] (by simp; omega)
  have hsw : streamW.length = 6 := rfl
  have hcl := classL_len x.cl
  simp only [List.length_append, List.length_cons, List.length_nil] at *
  omega
theorem line_len {a : Ac} (h : a.good) : a.line.length ≤ 200 := by
  unfold Ac.line lineA
  split
  · rename_i hr
    obtain ⟨k1, k7, K0, K1, N0, N1⟩ := rightA_on hr
    have hw := wordL_len a.k
    have hns : (numsA a.k a.K a.N).length ≤ 2 := by unfold numsA; split <;> split <;> simp
    have hr1 := rowL_len (wordL a.k) (numsA a.k a.K a.N) (fun n hn => by
      unfold numsA at hn
      rcases List.mem_append.1 hn with hn | hn
      · split at hn
        · simp at hn
        · simp only [List.mem_singleton] at hn; omega
      · split at hn
        · simp only [List.mem_singleton] at hn; omega
        · simp at hn)
    have hx := hxT_len a.ds
    have hd := h.1
    rw [List.length_append]
    split
    · simp only [List.length_cons]; omega
    · simp only [List.length_nil]; omega
  · simp
theorem lfT_len : ∀ (xs : List (List UInt8)), (∀ x ∈ xs, x.length ≤ 200) → (lfT xs).length ≤ 201 * xs.length := by
  intro xs
  induction xs with
  | nil => intro _; simp [lfT]
  | cons x xs ih =>
    intro h
    have h1 := ih fun y hy => h y (by simp [hy])
    have h2 := h x (by simp)
    unfold lfT at *
    simp only [List.flatMap_cons, List.length_append, List.length_cons, List.length_nil]
    omega
theorem join_lf (x : List UInt8) (r : List (List UInt8)) : Lib.join (x :: r) [10] ++ [10] = lfT (x :: r) := by
  unfold lfT
  induction r generalizing x with
  | nil => simp [Lib.join, List.intercalate]
  | cons y r ih =>
    have h1 := ih y
    have : Lib.join (x :: y :: r) [10] = x ++ [10] ++ Lib.join (y :: r) [10] := by simp [Lib.join, List.intercalate]
    rw [this, List.append_assoc, h1]; simp
theorem build6t {s : St} {a b c d e f : List UInt8} : buildSliceV Tryd.prog s 52 6 [(0, .string (strB a)), (1, .string (strB b)), (2, .string (strB c)), (3, .string (strB d)), (4, .string (strB e)), (5, .string (strB f))] = some (.slice (some ⟨s.next, 0, none⟩) 6 6, s.alloc (.row [.string (strB a), .string (strB b), .string (strB c), .string (strB d), .string (strB e), .string (strB f)])) := by
  simp [buildSliceV, Ty.elem52, Ty.siz9, Ty.zer9, fillL, isTup, Value.cells, repL, setL]
theorem app_str {v : Value} {xs : List (List UInt8)} {x : List UInt8} (hs : Sl base s 1 v (strL xs)) (ht : Tight base v) (hbn : base ≤ s.next) (hl : xs.length ≤ 2000) :
    ∃ v' s', appendB Tryd.prog base (s.alloc (.row [.string (strB x)])) [52, 52] [v, .slice (some ⟨s.next, 0, none⟩) 1 1] = some (v', s') ∧ Sl base s' 1 v' (strL (xs ++ [x])) ∧ Tight base v' ∧ (∀ b, inB v' b → s.next ≤ b) ∧ Ch s s' (inB v) := by
  have hnew : Sl base (s.alloc (.row [.string (strB x)])) 1 (.slice (some ⟨s.next, 0, none⟩) 1 1) (strL [x]) := .newRow (L := strL [x]) (Ab.heap_alloc_new _ _) rfl rfl (by simp [strL]) (by omega) (by simp only [Ab.next_alloc]; omega)
  obtain ⟨u', s2, e1', e2, e3, e4, e5, e6⟩ := appB_ok (P := Tryd.prog) (hs.mild (Mild.alloc s (.row [.string (strB x)]))) ht (by simp only [Ab.next_alloc]; omega) Ty.elem52 Ty.int52 Ty.und52 Ty.siz9 (by decide) Ty.zer9 rfl Ty.byt9 hnew (by simp [strL_len]; omega)
  refine ⟨u', s2, e1', by rw [strL_app]; exact e2, e3, fun b hb => ?_, Ch.after (Ch.of_mild (Mild.alloc s _) (inB v)) e4 fun k hk he => he⟩
  have := e5 (by simp [strL]) b hb
  simp only [Ab.next_alloc] at this; omega
theorem print38_all {v u : Value} {p : Pl} {l : List Ac} (hs : Sl base s 7 v (smL p.xs)) (ha : Sl base s 11 u (acL l)) (hg : ∀ a ∈ l, a.good) (hn : p.xs.length ≤ 2 ^ 63 - 1) (hln : l.length ≤ 2 ^ 63 - 1) 
    (hnm : -9223372036854775808 ≤ p.nm) (hL : LaidOk base s) (hbn : base ≤ s.next) (hR : ∀ s', Mild s s' → R (.tuple #[.string (strB (printT p l)), .int .i64 (printE p l)]) s') :
    WC Tryd.prog base 6 [.agg (p.c v).toArray, u] s R := by
  refine WC_open Tryd.func6 rfl ?_
  have m0 := Mild.alloc s (.row (p.c v))
  have c0 := Ab.heap_alloc_new s (.row (p.c v))
  have n0 := Ab.next_alloc s (.row (p.c v))
  have hlen := ha.len (P := Tryd.prog) (ts := []) Ty.elem27 Ty.arr27
  rw [acL_len] at hlen
  have hbad : ∀ r, printE p l = r → r ≠ 0 → ∀ s', Mild s s' → R (.tuple #[.string ⟨#[]⟩, .int .i64 r]) s' := fun r h h0 s' m => by
    have := hR s' m
    rw [printT, if_neg (by rw [h]; exact h0), h] at this
    exact this
  simp (disch := first | omega | ((simp only [nxBScrPrint]) <;> omega) | decide) only [↓stepPre, stepPost, ↓W_cond, ↓W_block, ↓reduceIte, Nat.reduceEqDiff, Nat.reduceLT, Nat.reduceLeDiff, ret0, stVar, isTup, Value.cells, Nat.le_refl, Nat.reduceAdd, Nat.reduceMul, Nat.reduceSub, env0, binV, intV, reduceCtorEq, pickV, nilCheckV, ptrV, unV, true_and, and_true, Nat.add_zero, Nat.zero_add, Rt, resultsV, allV, resV, Bool.not_true, Bool.not_false, calleeV, builtinV, eqV, fieldAddrV, ldVar, stN_own, stN_ownL, Int.fdiv_eq_ediv_of_nonneg, Int.reduceToNat, Int.reducePow, IntKind.bits, convV, ne_eq, not_false_eq_true, not_true_eq_false, Int.reduceNeg, Int.reduceAdd, Int.reduceSub, Int.reduceLT, Int.reduceLE, extractV, decide_true, decide_false, Int.reduceEq, mkFuncV, stBScrPrint, beq_self_eq_true, tyB0ScrPrint, getL_take, glBScrPrint]
  generalize s.alloc (.row (p.c v)) = s1 at m0 c0 n0 ⊢
  refine check38_ok (hs.mild m0) hn hnm (by omega) fun s2 m2 => ?_
  have n2 := m2.next
  have c2 := (m2.heap s.next (by omega)).trans c0
  have M2 := m0.trans m2
  by_cases h1 : plChk p = 0
  rotate_left
  · have hE : printE p l = plChk p := if_pos h1
    have key := hbad _ hE h1 _ M2
    generalize plChk p = r at h1 key
    simp (disch := first | omega | ((simp only [nxBScrPrint]) <;> omega) | decide) only [↓stepPre, stepPost, ↓W_cond, ↓W_block, ↓reduceIte, Nat.reduceEqDiff, Nat.reduceLT, Nat.reduceLeDiff, ret0, stVar, isTup, Value.cells, Nat.le_refl, Nat.reduceAdd, Nat.reduceMul, Nat.reduceSub, env0, binV, intV, reduceCtorEq, pickV, nilCheckV, ptrV, unV, true_and, and_true, Nat.add_zero, Nat.zero_add, Rt, resultsV, allV, resV, Bool.not_true, Bool.not_false, calleeV, builtinV, eqV, fieldAddrV, ldVar, stN_own, stN_ownL, Int.fdiv_eq_ediv_of_nonneg, Int.reduceToNat, Int.reducePow, IntKind.bits, convV, ne_eq, not_false_eq_true, not_true_eq_false, Int.reduceNeg, Int.reduceAdd, Int.reduceSub, Int.reduceLT, Int.reduceLE, extractV, decide_true, decide_false, Int.reduceEq, mkFuncV, stBScrPrint, beq_self_eq_true, tyB0ScrPrint, getL_take, glBScrPrint, h1, Tryd.results6]
    exact key
  have hfi := plChk_fine h1
  rw [h1]
  by_cases h2 : 1024 < l.length
  · have hE : printE p l = 11 := by unfold printE; rw [if_neg (fun h => h h1), if_pos h2]
    have g1 : (l.length : Int) > 1024 := by omega
    have g1' : 1024 < (l.length : Int) := by omega
    simp (disch := first | omega | ((simp only [nxBScrPrint]) <;> omega) | decide) only [↓stepPre, stepPost, ↓W_cond, ↓W_block, ↓reduceIte, Nat.reduceEqDiff, Nat.reduceLT, Nat.reduceLeDiff, ret0, stVar, isTup, Value.cells, Nat.le_refl, Nat.reduceAdd, Nat.reduceMul, Nat.reduceSub, env0, binV, intV, reduceCtorEq, pickV, nilCheckV, ptrV, unV, true_and, and_true, Nat.add_zero, Nat.zero_add, Rt, resultsV, allV, resV, Bool.not_true, Bool.not_false, calleeV, builtinV, eqV, fieldAddrV, ldVar, stN_own, stN_ownL, Int.fdiv_eq_ediv_of_nonneg, Int.reduceToNat, Int.reducePow, IntKind.bits, convV, ne_eq, not_false_eq_true, not_true_eq_false, Int.reduceNeg, Int.reduceAdd, Int.reduceSub, Int.reduceLT, Int.reduceLE, extractV, decide_true, decide_false, Int.reduceEq, mkFuncV, stBScrPrint, beq_self_eq_true, tyB0ScrPrint, getL_take, glBScrPrint, eq_self, hlen, g1, g1', Tryd.results6]
    exact hbad _ hE (by omega) _ M2
  have hl100 : l.length ≤ 1024 := by omega
  have hx12 : p.xs.length ≤ 64 := hfi.xs
  have g1 : ¬ (l.length : Int) > 1024 := by omega
  have g1' : ¬ 1024 < (l.length : Int) := by omega
  simp (disch := first | omega | ((simp only [nxBScrPrint]) <;> omega) | decide) only [↓stepPre, stepPost, ↓W_cond, ↓W_block, ↓reduceIte, Nat.reduceEqDiff, Nat.reduceLT, Nat.reduceLeDiff, ret0, stVar, isTup, Value.cells, Nat.le_refl, Nat.reduceAdd, Nat.reduceMul, Nat.reduceSub, env0, binV, intV, reduceCtorEq, pickV, nilCheckV, ptrV, unV, true_and, and_true, Nat.add_zero, Nat.zero_add, Rt, resultsV, allV, resV, Bool.not_true, Bool.not_false, calleeV, builtinV, eqV, fieldAddrV, ldVar, stN_own, stN_ownL, Int.fdiv_eq_ediv_of_nonneg, Int.reduceToNat, Int.reducePow, IntKind.bits, convV, ne_eq, not_false_eq_true, not_true_eq_false, Int.reduceNeg, Int.reduceAdd, Int.reduceSub, Int.reduceLT, Int.reduceLE, extractV, decide_true, decide_false, Int.reduceEq, mkFuncV, stBScrPrint, beq_self_eq_true, tyB0ScrPrint, getL_take, glBScrPrint, eq_self, hlen, g1, g1']
  refine WC_open Tryd.func16 rfl ?_
  simp (disch := first | omega | ((simp only [nxBScrPrint]) <;> omega) | decide) only [↓stepPre, stepPost, ↓W_cond, ↓W_block, ↓reduceIte, Nat.reduceEqDiff, Nat.reduceLT, Nat.reduceLeDiff, ret0, stVar, isTup, Value.cells, Nat.le_refl, Nat.reduceAdd, Nat.reduceMul, Nat.reduceSub, env0, binV, intV, reduceCtorEq, pickV, nilCheckV, ptrV, unV, true_and, and_true, Nat.add_zero, Nat.zero_add, Rt, resultsV, allV, resV, Bool.not_true, Bool.not_false, calleeV, builtinV, eqV, fieldAddrV, ldVar, stN_own, stN_ownL, Int.fdiv_eq_ediv_of_nonneg, Int.reduceToNat, Int.reducePow, IntKind.bits, convV, ne_eq, not_false_eq_true, not_true_eq_false, Int.reduceNeg, Int.reduceAdd, Int.reduceSub, Int.reduceLT, Int.reduceLE, extractV, decide_true, decide_false, Int.reduceEq, mkFuncV, stBScrPrint, beq_self_eq_true, tyB0ScrPrint, getL_take, glBScrPrint]
  refine acIdx_ok (ha.mild M2) hg (by omega) (by omega) fun s3 m3 => ?_
  have n3 := m3.next
  have c3 := (m3.heap s.next (by omega)).trans c2
  have M3 := M2.trans m3
  cases hf : fwd (badI l) 0 l.length with
  | some i =>
    have hE : printE p l = 10 := by unfold printE; rw [if_neg (fun h => h h1), if_neg h2, hf]; rfl
    have hi : (i : Int) ≥ 0 := by omega
    have hi' : 0 ≤ (i : Int) := by omega
    simp (disch := first | omega | ((simp only [nxBScrPrint]) <;> omega) | decide) only [↓stepPre, stepPost, ↓W_cond, ↓W_block, ↓reduceIte, Nat.reduceEqDiff, Nat.reduceLT, Nat.reduceLeDiff, ret0, stVar, isTup, Value.cells, Nat.le_refl, Nat.reduceAdd, Nat.reduceMul, Nat.reduceSub, env0, binV, intV, reduceCtorEq, pickV, nilCheckV, ptrV, unV, true_and, and_true, Nat.add_zero, Nat.zero_add, Rt, resultsV, allV, resV, Bool.not_true, Bool.not_false, calleeV, builtinV, eqV, fieldAddrV, ldVar, stN_own, stN_ownL, Int.fdiv_eq_ediv_of_nonneg, Int.reduceToNat, Int.reducePow, IntKind.bits, convV, ne_eq, not_false_eq_true, not_true_eq_false, Int.reduceNeg, Int.reduceAdd, Int.reduceSub, Int.reduceLT, Int.reduceLE, extractV, decide_true, decide_false, Int.reduceEq, mkFuncV, stBScrPrint, beq_self_eq_true, tyB0ScrPrint, getL_take, glBScrPrint, hi, hi', Tryd.results16, Tryd.results6]
    exact hbad _ hE (by omega) _ M3
  | none =>
    have hE : printE p l = 0 := by unfold printE; rw [if_neg (fun h => h h1), if_neg h2, hf]; rfl
    rw [printT, if_pos hE, hE] at hR
    simp only [allL] at hR
    simp (disch := first | omega | ((simp only [nxBScrPrint]) <;> omega) | decide) only [↓stepPre, stepPost, ↓W_cond, ↓W_block, ↓reduceIte, Nat.reduceEqDiff, Nat.reduceLT, Nat.reduceLeDiff, ret0, stVar, isTup, Value.cells, Nat.le_refl, Nat.reduceAdd, Nat.reduceMul, Nat.reduceSub, env0, binV, intV, reduceCtorEq, pickV, nilCheckV, ptrV, unV, true_and, and_true, Nat.add_zero, Nat.zero_add, Rt, resultsV, allV, resV, Bool.not_true, Bool.not_false, calleeV, builtinV, eqV, fieldAddrV, ldVar, stN_own, stN_ownL, Int.fdiv_eq_ediv_of_nonneg, Int.reduceToNat, Int.reducePow, IntKind.bits, convV, ne_eq, not_false_eq_true, not_true_eq_false, Int.reduceNeg, Int.reduceAdd, Int.reduceSub, Int.reduceLT, Int.reduceLE, extractV, decide_true, decide_false, Int.reduceEq, mkFuncV, stBScrPrint, beq_self_eq_true, tyB0ScrPrint, getL_take, glBScrPrint, Tryd.results16]
    refine W_draw (fun _ => false) (fun _ => false) (fun _ => false) (by kernel_rfl) (by kernel_rfl) ?_
    have f1 := hfi.no; have f2 := hfi.len; have f3 := hfi.rm; have f4 := hfi.nm; have f5 := hfi.dr; have f6 := hfi.tu; have f7 := hfi.ba; have f8 := hfi.st; have f9 := hfi.pe
    obtain ⟨no, eno⟩ : ∃ n : Nat, p.no = n := ⟨p.no.toNat, by omega⟩
    obtain ⟨len, elen⟩ : ∃ n : Nat, p.len = n := ⟨p.len.toNat, by omega⟩
    obtain ⟨rm, erm⟩ : ∃ n : Nat, p.rm = n := ⟨p.rm.toNat, by omega⟩
    obtain ⟨nm, enm⟩ : ∃ n : Nat, p.nm = n := ⟨p.nm.toNat, by omega⟩
    obtain ⟨dr, edr⟩ : ∃ n : Nat, p.dr = n := ⟨p.dr.toNat, by omega⟩
    obtain ⟨tu, etu⟩ : ∃ n : Nat, p.tu = n := ⟨p.tu.toNat, by omega⟩
    obtain ⟨ba, eba⟩ : ∃ n : Nat, p.ba = n := ⟨p.ba.toNat, by omega⟩
    obtain ⟨st, est⟩ : ∃ n : Nat, p.st = n := ⟨p.st.toNat, by omega⟩
    obtain ⟨pe, epe⟩ : ∃ n : Nat, p.pe = n := ⟨p.pe.toNat, by omega⟩
    have hrow6 : row6 p = [rowL [110, 111, 100, 101, 115] [no], rowL [108, 101, 110, 103, 116, 104] [len], rowL [114, 111, 111, 109] [rm], rowL [98, 101, 97, 116] [nm, dr], rowL [116, 117, 110, 101] [tu], rowL [116, 117, 114, 110, 115] [ba, st, pe]] := by
      unfold row6; rw [eno, elen, erm, enm, edr, etu, eba, est, epe]; simp only [Int.toNat_natCast]
    have hpc : p.c v = [.int .i64 (no : Int), v, .int .i64 (len : Int), .int .i64 (rm : Int), .int .i64 (nm : Int), .int .i64 (dr : Int), .int .i64 (tu : Int), .int .i64 (ba : Int), .int .i64 (st : Int), .int .i64 (pe : Int)] := by
      unfold Pl.c; rw [eno, elen, erm, enm, edr, etu, eba, est, epe]
    rw [hpc] at c3
    have b1 : no < 2 ^ 63 ∧ len < 2 ^ 63 ∧ rm < 2 ^ 63 ∧ nm < 2 ^ 63 ∧ dr < 2 ^ 63 ∧ tu < 2 ^ 63 ∧ ba < 2 ^ 63 ∧ st < 2 ^ 63 ∧ pe < 2 ^ 63 := by omega
    obtain ⟨b1, b2, b3, b4, b5, b6, b7, b8, b9⟩ := b1
    simp (disch := first | omega | ((simp only [nxBScrPrint]) <;> omega) | decide) only [↓stepPre, stepPost, ↓W_cond, ↓W_block, ↓reduceIte, Nat.reduceEqDiff, Nat.reduceLT, Nat.reduceLeDiff, ret0, stVar, isTup, Value.cells, Nat.le_refl, Nat.reduceAdd, Nat.reduceMul, Nat.reduceSub, env0, binV, intV, reduceCtorEq, pickV, nilCheckV, ptrV, unV, true_and, and_true, Nat.add_zero, Nat.zero_add, Rt, resultsV, allV, resV, Bool.not_true, Bool.not_false, calleeV, builtinV, eqV, fieldAddrV, ldVar, stN_own, stN_ownL, Int.fdiv_eq_ediv_of_nonneg, Int.reduceToNat, Int.reducePow, IntKind.bits, convV, ne_eq, not_false_eq_true, not_true_eq_false, Int.reduceNeg, Int.reduceAdd, Int.reduceSub, Int.reduceLT, Int.reduceLE, extractV, decide_true, decide_false, Int.reduceEq, mkFuncV, stBScrPrint, beq_self_eq_true, tyB0ScrPrint, getL_take, glBScrPrint, c3, build1i Ty.elem68 Ty.siz2 Ty.zer2]
    have l4 : Sl base (s3.alloc (.row [.int .i64 (no : Int)])) 1 (.slice (some ⟨s3.next, 0, none⟩) 1 1) (i64L [no]) := i64_new (ns := [no]) (Ab.heap_alloc_new _ _) (by omega) (by simp only [Ab.next_alloc]; omega)
    have q4 := M3.alloc' (o := .row [.int .i64 (no : Int)])
    refine row38_ok (w := [110, 111, 100, 101, 115]) l4 (by decide) (by simp) (by simp; omega) (by simp only [Ab.next_alloc]; omega) fun s4 m4 => ?_
    have n4 := m4.next
    simp only [Ab.next_alloc] at n4
    have M4 := q4.trans m4
    have c4 := (m4.heap s.next (by simp only [Ab.next_alloc]; omega)).trans ((Ab.heap_alloc_ne _ _ (by omega)).trans c3)
    refine ⟨.inl m4, ?_⟩
    simp (disch := first | omega | ((simp only [nxBScrPrint]) <;> omega) | decide) only [↓stepPre, stepPost, ↓W_cond, ↓W_block, ↓reduceIte, Nat.reduceEqDiff, Nat.reduceLT, Nat.reduceLeDiff, ret0, stVar, isTup, Value.cells, Nat.le_refl, Nat.reduceAdd, Nat.reduceMul, Nat.reduceSub, env0, binV, intV, reduceCtorEq, pickV, nilCheckV, ptrV, unV, true_and, and_true, Nat.add_zero, Nat.zero_add, Rt, resultsV, allV, resV, Bool.not_true, Bool.not_false, calleeV, builtinV, eqV, fieldAddrV, ldVar, stN_own, stN_ownL, Int.fdiv_eq_ediv_of_nonneg, Int.reduceToNat, Int.reducePow, IntKind.bits, convV, ne_eq, not_false_eq_true, not_true_eq_false, Int.reduceNeg, Int.reduceAdd, Int.reduceSub, Int.reduceLT, Int.reduceLE, extractV, decide_true, decide_false, Int.reduceEq, mkFuncV, stBScrPrint, beq_self_eq_true, tyB0ScrPrint, getL_take, glBScrPrint, c4, build1i Ty.elem68 Ty.siz2 Ty.zer2]
    have l5 : Sl base (s4.alloc (.row [.int .i64 (len : Int)])) 1 (.slice (some ⟨s4.next, 0, none⟩) 1 1) (i64L [len]) := i64_new (ns := [len]) (Ab.heap_alloc_new _ _) (by omega) (by simp only [Ab.next_alloc]; omega)
    have q5 := M4.alloc' (o := .row [.int .i64 (len : Int)])
    refine row38_ok (w := [108, 101, 110, 103, 116, 104]) l5 (by decide) (by simp) (by simp; omega) (by simp only [Ab.next_alloc]; omega) fun s5 m5 => ?_
    have n5 := m5.next
    simp only [Ab.next_alloc] at n5
    have M5 := q5.trans m5
    have c5 := (m5.heap s.next (by simp only [Ab.next_alloc]; omega)).trans ((Ab.heap_alloc_ne _ _ (by omega)).trans c4)
    refine ⟨.inl m5, ?_⟩
    simp (disch := first | omega | ((simp only [nxBScrPrint]) <;> omega) | decide) only [↓stepPre, stepPost, ↓W_cond, ↓W_block, ↓reduceIte, Nat.reduceEqDiff, Nat.reduceLT, Nat.reduceLeDiff, ret0, stVar, isTup, Value.cells, Nat.le_refl, Nat.reduceAdd, Nat.reduceMul, Nat.reduceSub, env0, binV, intV, reduceCtorEq, pickV, nilCheckV, ptrV, unV, true_and, and_true, Nat.add_zero, Nat.zero_add, Rt, resultsV, allV, resV, Bool.not_true, Bool.not_false, calleeV, builtinV, eqV, fieldAddrV, ldVar, stN_own, stN_ownL, Int.fdiv_eq_ediv_of_nonneg, Int.reduceToNat, Int.reducePow, IntKind.bits, convV, ne_eq, not_false_eq_true, not_true_eq_false, Int.reduceNeg, Int.reduceAdd, Int.reduceSub, Int.reduceLT, Int.reduceLE, extractV, decide_true, decide_false, Int.reduceEq, mkFuncV, stBScrPrint, beq_self_eq_true, tyB0ScrPrint, getL_take, glBScrPrint, c5, build1i Ty.elem68 Ty.siz2 Ty.zer2]
    have l6 : Sl base (s5.alloc (.row [.int .i64 (rm : Int)])) 1 (.slice (some ⟨s5.next, 0, none⟩) 1 1) (i64L [rm]) := i64_new (ns := [rm]) (Ab.heap_alloc_new _ _) (by omega) (by simp only [Ab.next_alloc]; omega)
    have q6 := M5.alloc' (o := .row [.int .i64 (rm : Int)])
    refine row38_ok (w := [114, 111, 111, 109]) l6 (by decide) (by simp) (by simp; omega) (by simp only [Ab.next_alloc]; omega) fun s6 m6 => ?_
    have n6 := m6.next
    simp only [Ab.next_alloc] at n6
    have M6 := q6.trans m6
    have c6 := (m6.heap s.next (by simp only [Ab.next_alloc]; omega)).trans ((Ab.heap_alloc_ne _ _ (by omega)).trans c5)
    refine ⟨.inl m6, ?_⟩
    simp (disch := first | omega | ((simp only [nxBScrPrint]) <;> omega) | decide) only [↓stepPre, stepPost, ↓W_cond, ↓W_block, ↓reduceIte, Nat.reduceEqDiff, Nat.reduceLT, Nat.reduceLeDiff, ret0, stVar, isTup, Value.cells, Nat.le_refl, Nat.reduceAdd, Nat.reduceMul, Nat.reduceSub, env0, binV, intV, reduceCtorEq, pickV, nilCheckV, ptrV, unV, true_and, and_true, Nat.add_zero, Nat.zero_add, Rt, resultsV, allV, resV, Bool.not_true, Bool.not_false, calleeV, builtinV, eqV, fieldAddrV, ldVar, stN_own, stN_ownL, Int.fdiv_eq_ediv_of_nonneg, Int.reduceToNat, Int.reducePow, IntKind.bits, convV, ne_eq, not_false_eq_true, not_true_eq_false, Int.reduceNeg, Int.reduceAdd, Int.reduceSub, Int.reduceLT, Int.reduceLE, extractV, decide_true, decide_false, Int.reduceEq, mkFuncV, stBScrPrint, beq_self_eq_true, tyB0ScrPrint, getL_take, glBScrPrint, c6, build2i Ty.elem68 Ty.siz2 Ty.zer2]
    have l7 : Sl base (s6.alloc (.row [.int .i64 (nm : Int), .int .i64 (dr : Int)])) 1 (.slice (some ⟨s6.next, 0, none⟩) 2 2) (i64L [nm, dr]) := i64_new (ns := [nm, dr]) (Ab.heap_alloc_new _ _) (by omega) (by simp only [Ab.next_alloc]; omega)
    have q7 := M6.alloc' (o := .row [.int .i64 (nm : Int), .int .i64 (dr : Int)])
    refine row38_ok (w := [98, 101, 97, 116]) l7 (by decide) (by simp) (by simp; omega) (by simp only [Ab.next_alloc]; omega) fun s7 m7 => ?_
    have n7 := m7.next
    simp only [Ab.next_alloc] at n7
    have M7 := q7.trans m7
    have c7 := (m7.heap s.next (by simp only [Ab.next_alloc]; omega)).trans ((Ab.heap_alloc_ne _ _ (by omega)).trans c6)
    refine ⟨.inl m7, ?_⟩
    simp (disch := first | omega | ((simp only [nxBScrPrint]) <;> omega) | decide) only [↓stepPre, stepPost, ↓W_cond, ↓W_block, ↓reduceIte, Nat.reduceEqDiff, Nat.reduceLT, Nat.reduceLeDiff, ret0, stVar, isTup, Value.cells, Nat.le_refl, Nat.reduceAdd, Nat.reduceMul, Nat.reduceSub, env0, binV, intV, reduceCtorEq, pickV, nilCheckV, ptrV, unV, true_and, and_true, Nat.add_zero, Nat.zero_add, Rt, resultsV, allV, resV, Bool.not_true, Bool.not_false, calleeV, builtinV, eqV, fieldAddrV, ldVar, stN_own, stN_ownL, Int.fdiv_eq_ediv_of_nonneg, Int.reduceToNat, Int.reducePow, IntKind.bits, convV, ne_eq, not_false_eq_true, not_true_eq_false, Int.reduceNeg, Int.reduceAdd, Int.reduceSub, Int.reduceLT, Int.reduceLE, extractV, decide_true, decide_false, Int.reduceEq, mkFuncV, stBScrPrint, beq_self_eq_true, tyB0ScrPrint, getL_take, glBScrPrint, c7, build1i Ty.elem68 Ty.siz2 Ty.zer2]
    have l8 : Sl base (s7.alloc (.row [.int .i64 (tu : Int)])) 1 (.slice (some ⟨s7.next, 0, none⟩) 1 1) (i64L [tu]) := i64_new (ns := [tu]) (Ab.heap_alloc_new _ _) (by omega) (by simp only [Ab.next_alloc]; omega)
    have q8 := M7.alloc' (o := .row [.int .i64 (tu : Int)])
    refine row38_ok (w := [116, 117, 110, 101]) l8 (by decide) (by simp) (by simp; omega) (by simp only [Ab.next_alloc]; omega) fun s8 m8 => ?_
    have n8 := m8.next
    simp only [Ab.next_alloc] at n8
    have M8 := q8.trans m8
    have c8 := (m8.heap s.next (by simp only [Ab.next_alloc]; omega)).trans ((Ab.heap_alloc_ne _ _ (by omega)).trans c7)
    refine ⟨.inl m8, ?_⟩
    simp (disch := first | omega | ((simp only [nxBScrPrint]) <;> omega) | decide) only [↓stepPre, stepPost, ↓W_cond, ↓W_block, ↓reduceIte, Nat.reduceEqDiff, Nat.reduceLT, Nat.reduceLeDiff, ret0, stVar, isTup, Value.cells, Nat.le_refl, Nat.reduceAdd, Nat.reduceMul, Nat.reduceSub, env0, binV, intV, reduceCtorEq, pickV, nilCheckV, ptrV, unV, true_and, and_true, Nat.add_zero, Nat.zero_add, Rt, resultsV, allV, resV, Bool.not_true, Bool.not_false, calleeV, builtinV, eqV, fieldAddrV, ldVar, stN_own, stN_ownL, Int.fdiv_eq_ediv_of_nonneg, Int.reduceToNat, Int.reducePow, IntKind.bits, convV, ne_eq, not_false_eq_true, not_true_eq_false, Int.reduceNeg, Int.reduceAdd, Int.reduceSub, Int.reduceLT, Int.reduceLE, extractV, decide_true, decide_false, Int.reduceEq, mkFuncV, stBScrPrint, beq_self_eq_true, tyB0ScrPrint, getL_take, glBScrPrint, c8, build3i]
    have l9 : Sl base (s8.alloc (.row [.int .i64 (ba : Int), .int .i64 (st : Int), .int .i64 (pe : Int)])) 1 (.slice (some ⟨s8.next, 0, none⟩) 3 3) (i64L [ba, st, pe]) := i64_new (ns := [ba, st, pe]) (Ab.heap_alloc_new _ _) (by omega) (by simp only [Ab.next_alloc]; omega)
    have q9 := M8.alloc' (o := .row [.int .i64 (ba : Int), .int .i64 (st : Int), .int .i64 (pe : Int)])
    refine row38_ok (w := [116, 117, 114, 110, 115]) l9 (by decide) (by simp) (by simp; omega) (by simp only [Ab.next_alloc]; omega) fun s9 m9 => ?_
    have n9 := m9.next
    simp only [Ab.next_alloc] at n9
    have M9 := q9.trans m9
    have c9 := (m9.heap s.next (by simp only [Ab.next_alloc]; omega)).trans ((Ab.heap_alloc_ne _ _ (by omega)).trans c8)
    refine ⟨.inl m9, ?_⟩
    have hlenS := (hs.mild M9).len (P := Tryd.prog) (ts := []) Ty.elem22 Ty.arr22
    rw [smL_len] at hlenS
    have r6 : Sl base (s9.alloc (.row [.string (strB (rowL [110, 111, 100, 101, 115] [no])), .string (strB (rowL [108, 101, 110, 103, 116, 104] [len])), .string (strB (rowL [114, 111, 111, 109] [rm])), .string (strB (rowL [98, 101, 97, 116] [nm, dr])), .string (strB (rowL [116, 117, 110, 101] [tu])), .string (strB (rowL [116, 117, 114, 110, 115] [ba, st, pe]))])) 1 (.slice (some ⟨s9.next, 0, none⟩) 6 6) (strL (row6 p)) := by
      rw [hrow6]
      exact .newRow (L := strL _) (Ab.heap_alloc_new _ _) rfl rfl (by simp [strL]) (by omega) (by simp only [Ab.next_alloc]; omega)
    have q10 := M9.alloc' (o := .row [.string (strB (rowL [110, 111, 100, 101, 115] [no])), .string (strB (rowL [108, 101, 110, 103, 116, 104] [len])), .string (strB (rowL [114, 111, 111, 109] [rm])), .string (strB (rowL [98, 101, 97, 116] [nm, dr])), .string (strB (rowL [116, 117, 110, 101] [tu])), .string (strB (rowL [116, 117, 114, 110, 115] [ba, st, pe]))])
    simp (disch := first | omega | ((simp only [nxBScrPrint]) <;> omega) | decide) only [↓stepPre, stepPost, ↓W_cond, ↓W_block, ↓reduceIte, Nat.reduceEqDiff, Nat.reduceLT, Nat.reduceLeDiff, ret0, stVar, isTup, Value.cells, Nat.le_refl, Nat.reduceAdd, Nat.reduceMul, Nat.reduceSub, env0, binV, intV, reduceCtorEq, pickV, nilCheckV, ptrV, unV, true_and, and_true, Nat.add_zero, Nat.zero_add, Rt, resultsV, allV, resV, Bool.not_true, Bool.not_false, calleeV, builtinV, eqV, fieldAddrV, ldVar, stN_own, stN_ownL, Int.fdiv_eq_ediv_of_nonneg, Int.reduceToNat, Int.reducePow, IntKind.bits, convV, ne_eq, not_false_eq_true, not_true_eq_false, Int.reduceNeg, Int.reduceAdd, Int.reduceSub, Int.reduceLT, Int.reduceLE, extractV, decide_true, decide_false, Int.reduceEq, mkFuncV, stBScrPrint, beq_self_eq_true, tyB0ScrPrint, getL_take, glBScrPrint, c9, build6t, hlenS]
    have h6l : (row6 p).length = 6 := rfl
    have h6s := row6_len hfi
    generalize row6 p = rw6 at r6 h6l h6s hR
    generalize hs10 : s9.alloc _ = s10 at r6 q10 ⊢
    have n10 : s9.next + 1 = s10.next := by rw [← hs10]; rfl
    refine W_loop_inv p.xs.length (fun i e1 t => e1 1 = u ∧ e1 58 = v ∧ e1 59 = .int .i64 (p.xs.length : Int) ∧ e1 60 = .int .i64 (i : Int) ∧ Mild s t ∧ ∃ w, e1 7 = w ∧ Sl base t 1 w (strL (rw6 ++ (p.xs.take i).map streamL)) ∧ Tight base w ∧ ∀ b, inB w b → s.next ≤ b)
      (fun x e1 t => x = .exit 1 ∧ e1 1 = u ∧ Mild s t ∧ ∃ w, e1 7 = w ∧ Sl base t 1 w (strL (rw6 ++ p.xs.map streamL)) ∧ Tight base w ∧ ∀ b, inB w b → s.next ≤ b) ?_ ?_ ?_
    rotate_left
    · exact ⟨rfl, rfl, rfl, rfl, q10, .slice (some ⟨s9.next, 0, none⟩) 6 6, rfl, by simpa using r6, ⟨rfl, show base ≤ s9.next by omega⟩, fun b hb => by have : s9.next = b := hb; omega⟩
    rotate_left
    · rintro i e1 t hi ⟨q1, q58, q59, q60, M, w, q7, lw, tw, ow⟩
      have nt := M.next
      by_cases hil : i < p.xs.length
      rotate_left
      · have k1 : ¬ (i : Int) < (p.xs.length : Int) := by omega
        rw [List.take_of_length_le (by omega)] at lw
        simp (disch := first | omega | ((simp only [nxBScrPrint]) <;> omega) | decide) only [↓stepPre, stepPost, ↓W_cond, ↓W_block, ↓reduceIte, Nat.reduceEqDiff, Nat.reduceLT, Nat.reduceLeDiff, ret0, stVar, isTup, Value.cells, Nat.le_refl, Nat.reduceAdd, Nat.reduceMul, Nat.reduceSub, env0, binV, intV, reduceCtorEq, pickV, nilCheckV, ptrV, unV, true_and, and_true, Nat.add_zero, Nat.zero_add, Rt, resultsV, allV, resV, Bool.not_true, Bool.not_false, calleeV, builtinV, eqV, fieldAddrV, ldVar, stN_own, stN_ownL, Int.fdiv_eq_ediv_of_nonneg, Int.reduceToNat, Int.reducePow, IntKind.bits, convV, ne_eq, not_false_eq_true, not_true_eq_false, Int.reduceNeg, Int.reduceAdd, Int.reduceSub, Int.reduceLT, Int.reduceLE, extractV, decide_true, decide_false, Int.reduceEq, mkFuncV, stBScrPrint, beq_self_eq_true, tyB0ScrPrint, getL_take, glBScrPrint, q1, q58, q59, q60, k1]
        exact ⟨M, w, q7, lw, tw, ow⟩
      have k1 : (i : Int) < (p.xs.length : Int) := by omega
      have hix := (hs.mild M).index (P := Tryd.prog) (k := .i64) (i := (i : Int)) Ty.elem22 Ty.siz55 (by omega) (by rw [smL_len]; omega)
      rw [Int.toNat_natCast] at hix
      have hld := (hs.mild M).loadA (smL_at hil) Ty.agg55 Ty.siz55
      have m11 := M.alloc' (o := .row p.xs[i].c)
      simp (disch := first | omega | ((simp only [nxBScrPrint]) <;> omega) | decide) only [↓stepPre, stepPost, ↓W_cond, ↓W_block, ↓reduceIte, Nat.reduceEqDiff, Nat.reduceLT, Nat.reduceLeDiff, ret0, stVar, isTup, Value.cells, Nat.le_refl, Nat.reduceAdd, Nat.reduceMul, Nat.reduceSub, env0, binV, intV, reduceCtorEq, pickV, nilCheckV, ptrV, unV, true_and, and_true, Nat.add_zero, Nat.zero_add, Rt, resultsV, allV, resV, Bool.not_true, Bool.not_false, calleeV, builtinV, eqV, fieldAddrV, ldVar, stN_own, stN_ownL, Int.fdiv_eq_ediv_of_nonneg, Int.reduceToNat, Int.reducePow, IntKind.bits, convV, ne_eq, not_false_eq_true, not_true_eq_false, Int.reduceNeg, Int.reduceAdd, Int.reduceSub, Int.reduceLT, Int.reduceLE, extractV, decide_true, decide_false, Int.reduceEq, mkFuncV, stBScrPrint, beq_self_eq_true, tyB0ScrPrint, getL_take, glBScrPrint, q1, q58, q59, q60, q7, k1, hix, hld]
      refine streamLine_ok (hfi.fine _ (List.getElem_mem hil)) (hL.mild m11 hbn) (by simp only [Ab.next_alloc]; omega) fun s12 m12 => ?_
      have n12 := m12.next
      simp only [Ab.next_alloc] at n12
      have mt : Mild t s12 := (Mild.alloc t _).trans m12
      obtain ⟨w', s13, e13, l13, t13, o13, ch13⟩ := app_str (x := streamL p.xs[i]) (lw.mild mt) tw (by omega) (by simp; omega)
      simp (disch := first | omega | ((simp only [nxBScrPrint]) <;> omega) | decide) only [↓stepPre, stepPost, ↓W_cond, ↓W_block, ↓reduceIte, Nat.reduceEqDiff, Nat.reduceLT, Nat.reduceLeDiff, ret0, stVar, isTup, Value.cells, Nat.le_refl, Nat.reduceAdd, Nat.reduceMul, Nat.reduceSub, env0, binV, intV, reduceCtorEq, pickV, nilCheckV, ptrV, unV, true_and, and_true, Nat.add_zero, Nat.zero_add, Rt, resultsV, allV, resV, Bool.not_true, Bool.not_false, calleeV, builtinV, eqV, fieldAddrV, ldVar, stN_own, stN_ownL, Int.fdiv_eq_ediv_of_nonneg, Int.reduceToNat, Int.reducePow, IntKind.bits, convV, ne_eq, not_false_eq_true, not_true_eq_false, Int.reduceNeg, Int.reduceAdd, Int.reduceSub, Int.reduceLT, Int.reduceLE, extractV, decide_true, decide_false, Int.reduceEq, mkFuncV, stBScrPrint, beq_self_eq_true, tyB0ScrPrint, getL_take, glBScrPrint, q1, q58, q59, q60, q7, build1t, e13]
      have hch : Ch t s13 (fun b => s.next ≤ b) := Ch.after (Ch.of_mild mt (fun b => s.next ≤ b)) ch13 fun k hk he => ow k he
      refine ⟨hil, by simp, (Ch.after (Ch.of_mild M (fun b => s.next ≤ b)) hch fun k hk he => he).mild fun k hk h => by omega, w', rfl, ?_, t13, fun b hb => by have := o13 b hb; omega⟩
      rw [List.take_succ_eq_append_getElem hil, List.map_append, ← List.append_assoc]; exact l13
    · rintro x e1 t ⟨rfl, q1, M, w, q7, lw, tw, ow⟩
      have nt := M.next
      have hlenA := (ha.mild M).len (P := Tryd.prog) (ts := []) Ty.elem27 Ty.arr27
      rw [acL_len] at hlenA
      simp (disch := first | omega | ((simp only [nxBScrPrint]) <;> omega) | decide) only [↓stepPre, stepPost, ↓W_cond, ↓W_block, ↓reduceIte, Nat.reduceEqDiff, Nat.reduceLT, Nat.reduceLeDiff, ret0, stVar, isTup, Value.cells, Nat.le_refl, Nat.reduceAdd, Nat.reduceMul, Nat.reduceSub, env0, binV, intV, reduceCtorEq, pickV, nilCheckV, ptrV, unV, true_and, and_true, Nat.add_zero, Nat.zero_add, Rt, resultsV, allV, resV, Bool.not_true, Bool.not_false, calleeV, builtinV, eqV, fieldAddrV, ldVar, stN_own, stN_ownL, Int.fdiv_eq_ediv_of_nonneg, Int.reduceToNat, Int.reducePow, IntKind.bits, convV, ne_eq, not_false_eq_true, not_true_eq_false, Int.reduceNeg, Int.reduceAdd, Int.reduceSub, Int.reduceLT, Int.reduceLE, extractV, decide_true, decide_false, Int.reduceEq, mkFuncV, stBScrPrint, beq_self_eq_true, tyB0ScrPrint, getL_take, glBScrPrint, q1, hlenA]
      have hpre : (rw6 ++ p.xs.map streamL).length ≤ 70 := by simp; omega
      have hpres : ∀ x ∈ rw6 ++ p.xs.map streamL, x.length ≤ 200 := fun x hx => by
        rcases List.mem_append.1 hx with hx | hx
        · exact h6s x hx
        · obtain ⟨y, hy, rfl⟩ := List.mem_map.1 hx; exact streamL_len (hfi.fine y hy)
      have hne : ∃ x0 r0, rw6 ++ p.xs.map streamL = x0 :: r0 := by
        cases hq : rw6 ++ p.xs.map streamL with
        | nil => have := congrArg List.length hq; rw [List.length_append, List.length_nil] at this; omega
        | cons x0 r0 => exact ⟨x0, r0, rfl⟩
      have hR' : ∀ s', Mild s s' → R (.tuple #[.string (strB (lfT (rw6 ++ p.xs.map streamL ++ l.map Ac.line))), .int .i64 0]) s' := hR
      generalize rw6 ++ p.xs.map streamL = pre at lw hpre hpres hne hR'
      refine W_loop_inv l.length (fun i e1 t => e1 70 = u ∧ e1 71 = .int .i64 (l.length : Int) ∧ e1 72 = .int .i64 (i : Int) ∧ Mild s t ∧ ∃ w, e1 7 = w ∧ Sl base t 1 w (strL (pre ++ (l.take i).map Ac.line)) ∧ Tight base w ∧ ∀ b, inB w b → s.next ≤ b)
        (fun x e1 t => x = .exit 3 ∧ Mild s t ∧ ∃ w, e1 7 = w ∧ Sl base t 1 w (strL (pre ++ l.map Ac.line))) ?_ ?_ ?_
      rotate_left
      · exact ⟨rfl, rfl, rfl, M, w, q7, by simpa using lw, tw, ow⟩
      rotate_left
      · rintro i e1 t hi ⟨q70, q71, q72, M, w, q7, lw, tw, ow⟩
        have nt := M.next
        by_cases hil : i < l.length
        rotate_left
        · have k1 : ¬ (i : Int) < (l.length : Int) := by omega
          rw [List.take_of_length_le (by omega)] at lw
          simp (disch := first | omega | ((simp only [nxBScrPrint]) <;> omega) | decide) only [↓stepPre, stepPost, ↓W_cond, ↓W_block, ↓reduceIte, Nat.reduceEqDiff, Nat.reduceLT, Nat.reduceLeDiff, ret0, stVar, isTup, Value.cells, Nat.le_refl, Nat.reduceAdd, Nat.reduceMul, Nat.reduceSub, env0, binV, intV, reduceCtorEq, pickV, nilCheckV, ptrV, unV, true_and, and_true, Nat.add_zero, Nat.zero_add, Rt, resultsV, allV, resV, Bool.not_true, Bool.not_false, calleeV, builtinV, eqV, fieldAddrV, ldVar, stN_own, stN_ownL, Int.fdiv_eq_ediv_of_nonneg, Int.reduceToNat, Int.reducePow, IntKind.bits, convV, ne_eq, not_false_eq_true, not_true_eq_false, Int.reduceNeg, Int.reduceAdd, Int.reduceSub, Int.reduceLT, Int.reduceLE, extractV, decide_true, decide_false, Int.reduceEq, mkFuncV, stBScrPrint, beq_self_eq_true, tyB0ScrPrint, getL_take, glBScrPrint, q70, q71, q72, k1]
          exact ⟨M, w, q7, lw⟩
        have k1 : (i : Int) < (l.length : Int) := by omega
        have hix := (ha.mild M).index (P := Tryd.prog) (k := .i64) (i := (i : Int)) Ty.elem27 Ty.siz45 (by omega) (by rw [acL_len]; omega)
        rw [Int.toNat_natCast] at hix
        have hld := (ha.mild M).loadA (acL_at hil) Ty.agg45 Ty.siz45
        have m11 := M.alloc' (o := .row l[i].c)
        have hgi := hg _ (List.getElem_mem hil)
        have gl := fun (a b c : Value) => getL_act (a := a) (b := b) (c := c) hgi.1
        have hpa := putAt_act (a0 := .int .i64 0) (a1 := .int .i64 0) (a2 := .int .i64 0) (a3 := .int .u8 0) (a4 := .int .u8 0) (a5 := .int .u8 0) (a6 := .int .u8 0) (a7 := .int .u8 0) (a8 := .int .u8 0) (a9 := .int .u8 0) (a10 := .int .u8 0) (x := .int .i64 l[i].k) (y := .int .i64 l[i].K) (z := .int .i64 l[i].N) hgi.1
        simp (disch := first | omega | ((simp only [nxBScrPrint]) <;> omega) | decide) only [↓stepPre, stepPost, ↓W_cond, ↓W_block, ↓reduceIte, Nat.reduceEqDiff, Nat.reduceLT, Nat.reduceLeDiff, ret0, stVar, isTup, Value.cells, Nat.le_refl, Nat.reduceAdd, Nat.reduceMul, Nat.reduceSub, env0, binV, intV, reduceCtorEq, pickV, nilCheckV, ptrV, unV, true_and, and_true, Nat.add_zero, Nat.zero_add, Rt, resultsV, allV, resV, Bool.not_true, Bool.not_false, calleeV, builtinV, eqV, fieldAddrV, ldVar, stN_own, stN_ownL, Int.fdiv_eq_ediv_of_nonneg, Int.reduceToNat, Int.reducePow, IntKind.bits, convV, ne_eq, not_false_eq_true, not_true_eq_false, Int.reduceNeg, Int.reduceAdd, Int.reduceSub, Int.reduceLT, Int.reduceLE, extractV, decide_true, decide_false, Int.reduceEq, mkFuncV, stBScrPrint, beq_self_eq_true, tyB0ScrPrint, getL_take, glBScrPrint, q70, q71, q72, q7, k1, hix, hld, gl, hpa, bC_len, hgi.1]
        refine line38_ok hgi.1 hgi.2 (hL.mild m11 hbn) (by simp only [Ab.next_alloc]; omega) fun s12 m12 => ?_
        have n12 := m12.next
        simp only [Ab.next_alloc] at n12
        have mt : Mild t s12 := (Mild.alloc t _).trans m12
        obtain ⟨w', s13, e13, l13, t13, o13, ch13⟩ := app_str (x := lineA l[i].k l[i].K l[i].N l[i].ds) (lw.mild mt) tw (by omega) (by simp; omega)
        simp (disch := first | omega | ((simp only [nxBScrPrint]) <;> omega) | decide) only [↓stepPre, stepPost, ↓W_cond, ↓W_block, ↓reduceIte, Nat.reduceEqDiff, Nat.reduceLT, Nat.reduceLeDiff, ret0, stVar, isTup, Value.cells, Nat.le_refl, Nat.reduceAdd, Nat.reduceMul, Nat.reduceSub, env0, binV, intV, reduceCtorEq, pickV, nilCheckV, ptrV, unV, true_and, and_true, Nat.add_zero, Nat.zero_add, Rt, resultsV, allV, resV, Bool.not_true, Bool.not_false, calleeV, builtinV, eqV, fieldAddrV, ldVar, stN_own, stN_ownL, Int.fdiv_eq_ediv_of_nonneg, Int.reduceToNat, Int.reducePow, IntKind.bits, convV, ne_eq, not_false_eq_true, not_true_eq_false, Int.reduceNeg, Int.reduceAdd, Int.reduceSub, Int.reduceLT, Int.reduceLE, extractV, decide_true, decide_false, Int.reduceEq, mkFuncV, stBScrPrint, beq_self_eq_true, tyB0ScrPrint, getL_take, glBScrPrint, q70, q71, q72, q7, build1t, e13]
        have hch : Ch t s13 (fun b => s.next ≤ b) := Ch.after (Ch.of_mild mt (fun b => s.next ≤ b)) ch13 fun k hk he => ow k he
        refine ⟨hil, by simp, (Ch.after (Ch.of_mild M (fun b => s.next ≤ b)) hch fun k hk he => he).mild fun k hk h => by omega, w', rfl, ?_, t13, fun b hb => by have := o13 b hb; omega⟩
        rw [List.take_succ_eq_append_getElem hil, List.map_append, ← List.append_assoc]; exact l13
      · rintro x e1 t ⟨rfl, M, w, q7, lw⟩
        obtain ⟨x0, r0, hne⟩ := hne
        have hall : ∀ x ∈ pre ++ l.map Ac.line, x.length ≤ 200 := fun x hx => by
          rcases List.mem_append.1 hx with hx | hx
          · exact hpres x hx
          · obtain ⟨y, hy, rfl⟩ := List.mem_map.1 hx; exact line_len (hg y hy)
        have hlf := lfT_len _ hall
        have hcnt : (pre ++ l.map Ac.line).length ≤ 1100 := by simp; omega
        have hj := join_lf x0 (r0 ++ l.map Ac.line)
        rw [← List.cons_append, ← hne] at hj
        have hjl : (Lib.join (pre ++ l.map Ac.line) [10]).length ≤ 1000000 := by
          have := congrArg List.length hj
          rw [List.length_append] at this; omega
        have hpos : 1 ≤ (pre ++ l.map Ac.line).length := by rw [hne]; simp
        have aj := addStrV (l := Lib.join (pre ++ l.map Ac.line) [10]) (m := [10]) (by simp only [List.length_singleton]; have := congrArg List.length hj; rw [List.length_append] at this; omega)
        rw [hj] at aj
        simp (disch := first | omega | ((simp only [nxBScrPrint]) <;> omega) | decide) only [↓stepPre, stepPost, ↓W_cond, ↓W_block, ↓reduceIte, Nat.reduceEqDiff, Nat.reduceLT, Nat.reduceLeDiff, ret0, stVar, isTup, Value.cells, Nat.le_refl, Nat.reduceAdd, Nat.reduceMul, Nat.reduceSub, env0, binV, intV, reduceCtorEq, pickV, nilCheckV, ptrV, unV, true_and, and_true, Nat.add_zero, Nat.zero_add, Rt, resultsV, allV, resV, Bool.not_true, Bool.not_false, calleeV, builtinV, eqV, fieldAddrV, ldVar, stN_own, stN_ownL, Int.fdiv_eq_ediv_of_nonneg, Int.reduceToNat, Int.reducePow, IntKind.bits, convV, ne_eq, not_false_eq_true, not_true_eq_false, Int.reduceNeg, Int.reduceAdd, Int.reduceSub, Int.reduceLT, Int.reduceLE, extractV, decide_true, decide_false, Int.reduceEq, mkFuncV, stBScrPrint, beq_self_eq_true, tyB0ScrPrint, getL_take, glBScrPrint, q7]
        refine join_p (sep := [10]) lw hpos (by omega) hjl ?_
        simp (disch := first | omega | ((simp only [nxBScrPrint]) <;> omega) | decide) only [↓stepPre, stepPost, ↓W_cond, ↓W_block, ↓reduceIte, Nat.reduceEqDiff, Nat.reduceLT, Nat.reduceLeDiff, ret0, stVar, isTup, Value.cells, Nat.le_refl, Nat.reduceAdd, Nat.reduceMul, Nat.reduceSub, env0, binV, intV, reduceCtorEq, pickV, nilCheckV, ptrV, unV, true_and, and_true, Nat.add_zero, Nat.zero_add, Rt, resultsV, allV, resV, Bool.not_true, Bool.not_false, calleeV, builtinV, eqV, fieldAddrV, ldVar, stN_own, stN_ownL, Int.fdiv_eq_ediv_of_nonneg, Int.reduceToNat, Int.reducePow, IntKind.bits, convV, ne_eq, not_false_eq_true, not_true_eq_false, Int.reduceNeg, Int.reduceAdd, Int.reduceSub, Int.reduceLT, Int.reduceLE, extractV, decide_true, decide_false, Int.reduceEq, mkFuncV, stBScrPrint, beq_self_eq_true, tyB0ScrPrint, getL_take, glBScrPrint, aj, Tryd.results6]
        exact hR' _ M
theorem print38_ok {v u : Value} {p : Pl} {l : List Ac} (hs : Sl base s 7 v (smL p.xs)) (ha : Sl base s 11 u (acL l)) (hg : ∀ a ∈ l, a.good) (hn : p.xs.length ≤ 2 ^ 63 - 1) (hln : l.length ≤ 2 ^ 63 - 1) (_ : p.xs.length ≤ 12 ∨ 64 < p.xs.length) (_ : l.length ≤ 100 ∨ 1024 < l.length)
    (hnm : -9223372036854775808 ≤ p.nm) (hL : LaidOk base s) (hbn : base ≤ s.next) (hR : ∀ s', Mild s s' → R (.tuple #[.string (strB (printT p l)), .int .i64 (printE p l)]) s') :
    WC Tryd.prog base 6 [.agg (p.c v).toArray, u] s R := print38_all hs ha hg hn hln hnm hL hbn hR
end Go.Proofs.YthjpfllmecpliaaDoor
