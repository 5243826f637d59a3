/- Texts of our own, one behind the other: ScrPrint, ScrArg, ScrSame, ScrNum. -/
import Derived.Test.YthjpfllmecpliaaGreatDoorMg4
import Derived.Test.YthjpfllmecpliaaGreatDoorMg3
import Derived.Test.YthjpfllmecpliaaGreatDoorMg9
import Derived.Test.YthjpfllmecpliaaGreatDoorMg8
import Derived.Test.YthjpfllmecpliaaGreatDoorMg5
/- A network's script (script.Print), as a contract. -/
set_option linter.all false
set_option maxRecDepth 20000
namespace Go.Proofs.YthjpfllmecpliaaGreatDoor
open Go Go.Ab
def spBScrPrint := And.intro @Nat.le_refl (And.intro @true_and (And.intro @and_true (And.intro @Nat.add_zero (And.intro @Nat.zero_add (And.intro @Bool.not_true (And.intro @Bool.not_false (And.intro @ne_eq.{1} (And.intro @not_false_eq_true (And.intro @not_true_eq_false (And.intro @decide_true (And.intro @decide_false (@Int.fdiv_eq_ediv_of_nonneg))))))))))))
def nxBScrPrint := And.intro @Ab.next_alloc (And.intro @Ab.next_upd (And.intro @List.length_cons.{0} (And.intro @List.length_nil.{0} (And.intro @ne_eq.{1} (And.intro not_true_eq_false not_false_eq_true)))))
def tyB0ScrPrint := And.intro @Ty.t26 (And.intro @Tryz.underlying26 (And.intro @Ty.t24 (And.intro @Tryz.underlying24 (And.intro @Ty.t58 (And.intro @Tryz.underlying58 (And.intro @Ty.t22 (And.intro @Tryz.underlying22 (And.intro @Ty.t33 (And.intro @Tryz.underlying33 (And.intro @Ty.t27 (And.intro @Tryz.underlying27 (And.intro @Ty.t56 (And.intro @Tryz.underlying56 (And.intro @Ty.t9 (And.intro @Tryz.underlying9 (And.intro @Ty.t50 (And.intro @Tryz.underlying50 (And.intro @Ty.t48 (And.intro @Tryz.underlying48 (And.intro @Ty.t2 (And.intro @Tryz.underlying2 (And.intro @Ty.t3 (And.intro @Tryz.underlying3 (And.intro @Ty.t4 (And.intro @Tryz.underlying4 (And.intro @Ty.t35 @Tryz.underlying35))))))))))))))))))))))))))
def stBScrPrint := And.intro @List.size_toArray.{0} (And.intro @List.length_cons.{0} (And.intro @List.length_nil.{0} (And.intro @List.set_cons_zero.{0} (And.intro @List.set_cons_succ.{0} (And.intro @List.getD_cons_zero.{0} (And.intro @List.getD_cons_succ.{0} (And.intro @List.getElem?_cons_succ.{0} (And.intro @List.getElem?_cons_zero.{0} (And.intro @List.map_cons.{0,0} (And.intro @List.map_nil.{0,0} (And.intro @Option.isNone_none.{0} (And.intro @Option.isNone_some.{0} (And.intro @Option.map_some.{0,0} (And.intro @Option.map_none.{0,0} (And.intro @List.cons_append.{0} (And.intro @List.nil_append.{0} (And.intro @List.append_nil.{0} (And.intro @Array.toList_append.{0} (And.intro @List.toList_toArray.{0} (And.intro @Int.cast_ofNat_Int (And.intro @Option.isSome_some.{0} (And.intro @List.getElem?_toArray.{0} (And.intro @List.map_toArray.{0,0} (@Nat.min_eq_left))))))))))))))))))))))))
def glBScrPrint := And.intro @List.drop_zero.{0} (And.intro @List.drop_succ_cons.{0} (And.intro @List.take_succ_cons.{0} (And.intro @List.take_zero.{0} (@List.take_nil.{0}))))
variable {base : Nat} [Bok base] {s : St} {R : Value → St → Prop}
structure Ac where
  k : Int
  K : Int
  N : Int
  ds : List Nat
abbrev Ac.c (a : Ac) : List Value := actC a.k a.K a.N a.ds
def Ac.right (a : Ac) : Bool := rightA a.k a.K a.N a.ds
def Ac.line (a : Ac) : List UInt8 := lineA a.k a.K a.N a.ds
def Ac.good (a : Ac) : Prop := a.ds.length = 8 ∧ ∀ y ∈ a.ds, y < 256
def acL (l : List Ac) : List (List Value) := l.map fun a => a.c
theorem acL_len (l : List Ac) : (acL l).length = l.length := by simp [acL]
theorem acL_at {l : List Ac} {i : Nat} (h : i < l.length) : (acL l)[i]? = some l[i].c := by simp [acL, h]
def badI (l : List Ac) (i : Nat) : Int := if h : i < l.length then (if l[i].right then 0 else 1) else 0
theorem badI_eq {l : List Ac} {i : Nat} (h : i < l.length) : badI l i = if l[i].right then 0 else 1 := by unfold badI; rw [dif_pos h]
theorem putAt_act {a0 a1 a2 a3 a4 a5 a6 a7 a8 a9 a10 x y z : Value} {ds : List Nat} (h : ds.length = 8) : putAt (.row [a0, a1, a2, a3, a4, a5, a6, a7, a8, a9, a10]) 0 (x :: y :: z :: bC ds) = some (.row (x :: y :: z :: bC ds)) := by
  simp only [putAt, AObj.cells?, AObj.withCells]
  rw [if_pos (by simp [bC_len, h]), setL_eq _ _ _ (by simp [bC_len, h])]
  simp [bC_len, h]
theorem notRight_ok {a : Ac} (ha : a.good) (hbn : base ≤ s.next) (hR : ∀ s', Mild s s' → R (.bool (!a.right)) s') : WC Tryz.prog base 24 [.agg a.c.toArray] s R := by
  refine WC_open Tryz.func24 rfl ?_
  have key := hR _ (.alloc _ (.row a.c))
  simp (disch := first | omega | ((simp only [nxBScrPrint]) <;> omega) | decide) only [↓stepPre, stepPost, ↓W_cond, ↓W_block, ↓reduceIte, Nat.reduceEqDiff, Nat.reduceLT, Nat.reduceLeDiff, ret0, stVar, isTup, Value.cells, Nat.reduceAdd, Nat.reduceMul, Nat.reduceSub, env0, binV, intV, reduceCtorEq, pickV, nilCheckV, ptrV, unV, Rt, resultsV, allV, resV, calleeV, builtinV, eqV, fieldAddrV, ldVar, stN_own, stN_ownL, Int.reduceToNat, Int.reducePow, IntKind.bits, convV, Int.reduceNeg, Int.reduceAdd, Int.reduceSub, Int.reduceLT, Int.reduceLE, extractV, Int.reduceEq, mkFuncV, stBScrPrint, spBScrPrint, beq_self_eq_true, tyB0ScrPrint, getL_take, glBScrPrint, getL_act ha.1]
  refine right38_p ha.1 ?_
  rw [show rightA a.k a.K a.N a.ds = a.right from rfl]
  cases hr : a.right with
  | false => rw [hr] at key; simp (disch := first | omega | ((simp only [nxBScrPrint]) <;> omega) | decide) only [↓stepPre, stepPost, ↓W_cond, ↓W_block, ↓reduceIte, Nat.reduceEqDiff, Nat.reduceLT, Nat.reduceLeDiff, ret0, stVar, isTup, Value.cells, Nat.reduceAdd, Nat.reduceMul, Nat.reduceSub, env0, binV, intV, reduceCtorEq, pickV, nilCheckV, ptrV, unV, Rt, resultsV, allV, resV, calleeV, builtinV, eqV, fieldAddrV, ldVar, stN_own, stN_ownL, Int.reduceToNat, Int.reducePow, IntKind.bits, convV, Int.reduceNeg, Int.reduceAdd, Int.reduceSub, Int.reduceLT, Int.reduceLE, extractV, Int.reduceEq, mkFuncV, stBScrPrint, spBScrPrint, beq_self_eq_true, tyB0ScrPrint, getL_take, glBScrPrint, Tryz.results24]; exact key
  | true => rw [hr] at key; simp (disch := first | omega | ((simp only [nxBScrPrint]) <;> omega) | decide) only [↓stepPre, stepPost, ↓W_cond, ↓W_block, ↓reduceIte, Nat.reduceEqDiff, Nat.reduceLT, Nat.reduceLeDiff, ret0, stVar, isTup, Value.cells, Nat.reduceAdd, Nat.reduceMul, Nat.reduceSub, env0, binV, intV, reduceCtorEq, pickV, nilCheckV, ptrV, unV, Rt, resultsV, allV, resV, calleeV, builtinV, eqV, fieldAddrV, ldVar, stN_own, stN_ownL, Int.reduceToNat, Int.reducePow, IntKind.bits, convV, Int.reduceNeg, Int.reduceAdd, Int.reduceSub, Int.reduceLT, Int.reduceLE, extractV, Int.reduceEq, mkFuncV, stBScrPrint, spBScrPrint, beq_self_eq_true, tyB0ScrPrint, getL_take, glBScrPrint, Tryz.results24]; exact key
theorem acIdx_ok {v : Value} {l : List Ac} (hs : Sl base s 11 v (acL l)) (hg : ∀ a ∈ l, a.good) (hn : l.length ≤ 2 ^ 62) (hbn : base ≤ s.next) (hR : ∀ s', Mild s s' → R (.int .i64 (match fwd (badI l) 0 l.length with | some i => (i : Int) | none => -1)) s') :
    WC Tryz.prog base 41 [v, .func (.func 24) #[] #[]] s R := by
  refine WC_open Tryz.func41 rfl ?_
  have hlen := hs.len (P := Tryz.prog) (ts := []) Ty.elem27 Ty.arr27
  rw [acL_len] at hlen
  simp (disch := first | omega | ((simp only [nxBScrPrint]) <;> omega) | decide) only [↓stepPre, stepPost, ↓W_cond, ↓W_block, ↓reduceIte, Nat.reduceEqDiff, Nat.reduceLT, Nat.reduceLeDiff, ret0, stVar, isTup, Value.cells, Nat.reduceAdd, Nat.reduceMul, Nat.reduceSub, env0, binV, intV, reduceCtorEq, pickV, nilCheckV, ptrV, unV, Rt, resultsV, allV, resV, calleeV, builtinV, eqV, fieldAddrV, ldVar, stN_own, stN_ownL, Int.reduceToNat, Int.reducePow, IntKind.bits, convV, Int.reduceNeg, Int.reduceAdd, Int.reduceSub, Int.reduceLT, Int.reduceLE, extractV, Int.reduceEq, mkFuncV, stBScrPrint, spBScrPrint, beq_self_eq_true, tyB0ScrPrint, hlen]
  refine W_loop_ind l.length (fun i e s1 => Mild s s1 ∧ fwd (badI l) 0 l.length = fwd (badI l) i (l.length - i) ∧ e 0 = v ∧ e 1 = .func (.func 24) #[] #[] ∧ e 7 = .int .i64 (l.length : Int) ∧ e 8 = .int .i64 (i : Int)) ?_ ⟨.refl _, rfl, rfl, rfl, rfl, rfl⟩
  rintro i e s1 hi ⟨m1, hf, h0, h1, h7, h8⟩
  have n1 := m1.next
  by_cases hil : i < l.length
  rotate_left
  · have g1 : ¬ (i : Int) < (l.length : Int) := by omega
    rw [hf, show l.length - i = 0 by omega] at hR
    simp (disch := first | omega | ((simp only [nxBScrPrint]) <;> omega) | decide) only [↓stepPre, stepPost, ↓W_cond, ↓W_block, ↓reduceIte, Nat.reduceEqDiff, Nat.reduceLT, Nat.reduceLeDiff, ret0, stVar, isTup, Value.cells, Nat.reduceAdd, Nat.reduceMul, Nat.reduceSub, env0, binV, intV, reduceCtorEq, pickV, nilCheckV, ptrV, unV, Rt, resultsV, allV, resV, calleeV, builtinV, eqV, fieldAddrV, ldVar, stN_own, stN_ownL, Int.reduceToNat, Int.reducePow, IntKind.bits, convV, Int.reduceNeg, Int.reduceAdd, Int.reduceSub, Int.reduceLT, Int.reduceLE, extractV, Int.reduceEq, mkFuncV, stBScrPrint, spBScrPrint, beq_self_eq_true, tyB0ScrPrint, h0, h1, h7, h8, g1, Tryz.results41]
    exact hR _ m1
  have g1 : (i : Int) < (l.length : Int) := by omega
  have v2 := hs.mild m1
  have hix := v2.index (P := Tryz.prog) (k := .i64) (i := (i : Int)) Ty.elem27 Ty.siz33 (by omega) (by rw [acL_len]; omega)
  rw [Int.toNat_natCast] at hix
  have hld := v2.loadA (acL_at hil) Ty.agg33 Ty.siz33
  simp (disch := first | omega | ((simp only [nxBScrPrint]) <;> omega) | decide) only [↓stepPre, stepPost, ↓W_cond, ↓W_block, ↓reduceIte, Nat.reduceEqDiff, Nat.reduceLT, Nat.reduceLeDiff, ret0, stVar, isTup, Value.cells, Nat.reduceAdd, Nat.reduceMul, Nat.reduceSub, env0, binV, intV, reduceCtorEq, pickV, nilCheckV, ptrV, unV, Rt, resultsV, allV, resV, calleeV, builtinV, eqV, fieldAddrV, ldVar, stN_own, stN_ownL, Int.reduceToNat, Int.reducePow, IntKind.bits, convV, Int.reduceNeg, Int.reduceAdd, Int.reduceSub, Int.reduceLT, Int.reduceLE, extractV, Int.reduceEq, mkFuncV, stBScrPrint, spBScrPrint, beq_self_eq_true, tyB0ScrPrint, getL_take, glBScrPrint, h0, h1, h7, h8, g1, hix, hld]
  refine notRight_ok (hg _ (List.getElem_mem hil)) (by omega) fun s2 m2 => ?_
  have hb := badI_eq hil
  cases hk : l[i].right
  · rw [hk] at hb
    rw [hf, fwd_hit hil (by rw [hb]; decide)] at hR
    simp (disch := first | omega | ((simp only [nxBScrPrint]) <;> omega) | decide) only [↓stepPre, stepPost, ↓W_cond, ↓W_block, ↓reduceIte, Nat.reduceEqDiff, Nat.reduceLT, Nat.reduceLeDiff, ret0, stVar, isTup, Value.cells, Nat.reduceAdd, Nat.reduceMul, Nat.reduceSub, env0, binV, intV, reduceCtorEq, pickV, nilCheckV, ptrV, unV, Rt, resultsV, allV, resV, calleeV, builtinV, eqV, fieldAddrV, ldVar, stN_own, stN_ownL, Int.reduceToNat, Int.reducePow, IntKind.bits, convV, Int.reduceNeg, Int.reduceAdd, Int.reduceSub, Int.reduceLT, Int.reduceLE, extractV, Int.reduceEq, mkFuncV, stBScrPrint, spBScrPrint, beq_self_eq_true, tyB0ScrPrint, getL_take, glBScrPrint, h0, h1, h7, h8, Tryz.results41]
    exact hR _ (m1.trans m2)
  · rw [hk] at hb
    simp (disch := first | omega | ((simp only [nxBScrPrint]) <;> omega) | decide) only [↓stepPre, stepPost, ↓W_cond, ↓W_block, ↓reduceIte, Nat.reduceEqDiff, Nat.reduceLT, Nat.reduceLeDiff, ret0, stVar, isTup, Value.cells, Nat.reduceAdd, Nat.reduceMul, Nat.reduceSub, env0, binV, intV, reduceCtorEq, pickV, nilCheckV, ptrV, unV, Rt, resultsV, allV, resV, calleeV, builtinV, eqV, fieldAddrV, ldVar, stN_own, stN_ownL, Int.reduceToNat, Int.reducePow, IntKind.bits, convV, Int.reduceNeg, Int.reduceAdd, Int.reduceSub, Int.reduceLT, Int.reduceLE, extractV, Int.reduceEq, mkFuncV, stBScrPrint, spBScrPrint, beq_self_eq_true, tyB0ScrPrint, getL_take, glBScrPrint, h0, h1, h7, h8]
    exact ⟨hil, m1.trans m2, by rw [hf, fwd_skip hil hb], by simp⟩
def row6 (p : Pl) : List (List UInt8) := [rowL [110, 111, 100, 101, 115] [p.no.toNat], rowL [108, 101, 110, 103, 116, 104] [p.len.toNat], rowL [114, 111, 111, 109] [p.rm.toNat], rowL [98, 101, 97, 116] [p.nm.toNat, p.dr.toNat], rowL [116, 117, 110, 101] [p.tu.toNat], rowL [116, 117, 114, 110, 115] [p.ba.toNat, p.st.toNat, p.pe.toNat]]
def allL (p : Pl) (l : List Ac) : List (List UInt8) := row6 p ++ p.xs.map streamL ++ l.map Ac.line
def lfT (xs : List (List UInt8)) : List UInt8 := xs.flatMap fun x => x ++ [10]
def printE (p : Pl) (l : List Ac) : Int := if plChk p ≠ 0 then plChk p else if 1024 < l.length then 11 else if (fwd (badI l) 0 l.length).isSome then 10 else 0
def printT (p : Pl) (l : List Ac) : List UInt8 := if printE p l = 0 then lfT (allL p l) else []
structure plFine (p : Pl) : Prop where
  no : 2 ≤ p.no ∧ p.no ≤ 32
  len : 1 ≤ p.len ∧ p.len ≤ 1073741824
  rm : 1 ≤ p.rm ∧ p.rm ≤ 64
  nm : 1 ≤ p.nm ∧ p.nm ≤ 1048576
  dr : 0 ≤ p.dr ∧ p.dr < p.nm
  tu : 0 ≤ p.tu ∧ p.tu ≤ 4096
  ba : 1 ≤ p.ba ∧ p.ba ≤ 10000
  st : 1 ≤ p.st ∧ p.st ≤ 1000
  pe : 1 ≤ p.pe ∧ p.pe ≤ 1000
  xs : p.xs.length ≤ 64
  fine : ∀ x ∈ p.xs, smFine x
theorem plChk_fine {p : Pl} (h : plChk p = 0) : plFine p := by
  unfold plChk at h
  split at h
  · cases h
  rename_i hok
  split at h
  · rename_i h2; exact absurd h h2
  rename_i h2
  have h2 : (chk p.xs p.len).2 = 0 := Decidable.not_not.1 h2
  have hok : plOk p = true := by simpa using hok
  unfold plOk confB beatB rankB at hok
  simp only [Bool.and_eq_true, decide_eq_true_eq] at hok
  obtain ⟨⟨⟨a1, a2, a3⟩, a4⟩, a5⟩ := hok
  unfold chk at h2
  split at h2
  · cases h2
  rename_i b1
  split at h2
  · cases h2
  rename_i b2
  have b2 : 1 ≤ p.len ∧ p.len ≤ 1073741824 := Decidable.not_not.1 b2
  split at h2
  · rename_i b3; exact absurd h2 b3
  rename_i b3
  have b3 : (fst0 (rl1 p.xs) p.xs.length).2 = 0 := Decidable.not_not.1 b3
  refine ⟨a1, b2, a5, ⟨a2.1, a2.2.1⟩, ⟨a2.2.2.1, a2.2.2.2⟩, a3, ⟨by omega, by omega⟩, ⟨by omega, by omega⟩, ⟨by omega, by omega⟩, by omega, fun x hx => ?_⟩
  obtain ⟨i, hi, rfl⟩ := List.mem_iff_getElem.1 hx
  unfold fst0 at b3
  split at b3
  · rename_i j hj
    exact absurd b3 (fwd_some hj).2.2.1
  · rename_i hj
    have := fwd_none hj i (by omega) (by omega)
    unfold rl1 at this
    rw [atS_eq hi] at this
    exact right_fine this
theorem row6_len {p : Pl} (h : plFine p) : ∀ x ∈ row6 p, x.length ≤ 200 := by
  have := h.no; have := h.len; have := h.rm; have := h.nm; have := h.dr; have := h.tu; have := h.ba; have := h.st; have := h.pe
  intro x hx
  simp only [row6, List.mem_cons, List.not_mem_nil, or_false] at hx
  rcases hx with rfl | rfl | rfl | rfl | rfl | rfl
  all_goals refine Nat.le_trans (rowL_len _ _ (by simp; omega)) (by simp)
theorem streamL_len {x : Sm} (h : smFine x) : (streamL x).length ≤ 200 := by
  obtain ⟨x1, x2, x3, x4, x5, x6, x7, x8, y1, y2, y5, y6, y7, y8⟩ := h
  unfold streamL
  have hr1 := rowL_len streamW [x.id.toNat, x.nd.toNat] (by simp; omega)
  have hr2 := rowL_len (classL x.cl) [x.pe.toNat, x.de.toNat, x.sl.toNat, x.by_.toNat] (by simp; omega)
  have hsw : streamW.length = 6 := rfl
  have hcl := classL_len x.cl
  simp only [List.length_append, List.length_cons, List.length_nil] at *
  omega
theorem line_len {a : Ac} (h : a.good) : a.line.length ≤ 200 := by
  unfold Ac.line lineA
  split
  · rename_i hr
    obtain ⟨k1, k7, K0, K1, N0, N1⟩ := rightA_on hr
    have hw := wordL_len a.k
    have hns : (numsA a.k a.K a.N).length ≤ 2 := by unfold numsA; split <;> split <;> simp
    have hr1 := rowL_len (wordL a.k) (numsA a.k a.K a.N) (fun n hn => by
      unfold numsA at hn
      rcases List.mem_append.1 hn with hn | hn
      · split at hn
        · simp at hn
        · simp only [List.mem_singleton] at hn; omega
      · split at hn
        · simp only [List.mem_singleton] at hn; omega
        · simp at hn)
    have hx := hxT_len a.ds
    have hd := h.1
    rw [List.length_append]
    split
    · simp only [List.length_cons]; omega
    · simp only [List.length_nil]; omega
  · simp
theorem lfT_len : ∀ (xs : List (List UInt8)), (∀ x ∈ xs, x.length ≤ 200) → (lfT xs).length ≤ 201 * xs.length := by
  intro xs
  induction xs with
  | nil => intro _; simp [lfT]
  | cons x xs ih =>
    intro h
    have h1 := ih fun y hy => h y (by simp [hy])
    have h2 := h x (by simp)
    unfold lfT at *
    simp only [List.flatMap_cons, List.length_append, List.length_cons, List.length_nil]
    omega
theorem join_lf (x : List UInt8) (r : List (List UInt8)) : Lib.join (x :: r) [10] ++ [10] = lfT (x :: r) := by
  unfold lfT
  induction r generalizing x with
  | nil => simp [Lib.join, List.intercalate]
  | cons y r ih =>
    have h1 := ih y
    have : Lib.join (x :: y :: r) [10] = x ++ [10] ++ Lib.join (y :: r) [10] := by simp [Lib.join, List.intercalate]
    rw [this, List.append_assoc, h1]; simp
theorem build6t {s : St} {a b c d e f : List UInt8} : buildSliceV Tryz.prog s 50 6 [(0, .string (strB a)), (1, .string (strB b)), (2, .string (strB c)), (3, .string (strB d)), (4, .string (strB e)), (5, .string (strB f))] = some (.slice (some ⟨s.next, 0, none⟩) 6 6, s.alloc (.row [.string (strB a), .string (strB b), .string (strB c), .string (strB d), .string (strB e), .string (strB f)])) := by
  simp [buildSliceV, Ty.elem50, Ty.siz9, Ty.zer9, fillL, isTup, Value.cells, repL, setL]
theorem app_str {v : Value} {xs : List (List UInt8)} {x : List UInt8} (hs : Sl base s 1 v (strL xs)) (ht : Tight base v) (hbn : base ≤ s.next) (hl : xs.length ≤ 2000) :
    ∃ v' s', appendB Tryz.prog base (s.alloc (.row [.string (strB x)])) [50, 50] [v, .slice (some ⟨s.next, 0, none⟩) 1 1] = some (v', s') ∧ Sl base s' 1 v' (strL (xs ++ [x])) ∧ Tight base v' ∧ (∀ b, inB v' b → s.next ≤ b) ∧ Ch s s' (inB v) := by
  have hnew : Sl base (s.alloc (.row [.string (strB x)])) 1 (.slice (some ⟨s.next, 0, none⟩) 1 1) (strL [x]) := .newRow (L := strL [x]) (Ab.heap_alloc_new _ _) rfl rfl (by simp [strL]) (by omega) (by simp only [Ab.next_alloc]; omega)
  obtain ⟨u', s2, e1', e2, e3, e4, e5, e6⟩ := appB_ok (P := Tryz.prog) (hs.mild (Mild.alloc s (.row [.string (strB x)]))) ht (by simp only [Ab.next_alloc]; omega) Ty.elem50 Ty.int50 Ty.und50 Ty.siz9 (by decide) Ty.zer9 rfl Ty.byt9 hnew (by simp [strL_len]; omega)
  refine ⟨u', s2, e1', by rw [strL_app]; exact e2, e3, fun b hb => ?_, Ch.after (Ch.of_mild (Mild.alloc s _) (inB v)) e4 fun k hk he => he⟩
  have := e5 (by simp [strL]) b hb
  simp only [Ab.next_alloc] at this; omega
theorem print38_all {v u : Value} {p : Pl} {l : List Ac} (hs : Sl base s 7 v (smL p.xs)) (ha : Sl base s 11 u (acL l)) (hg : ∀ a ∈ l, a.good) (hn : p.xs.length ≤ 2 ^ 63 - 1) (hln : l.length ≤ 2 ^ 63 - 1) 
    (hnm : -9223372036854775808 ≤ p.nm) (hL : LaidOk base s) (hbn : base ≤ s.next) (hR : ∀ s', Mild s s' → R (.tuple #[.string (strB (printT p l)), .int .i64 (printE p l)]) s') :
    WC Tryz.prog base 9 [.agg (p.c v).toArray, u] s R := by
  refine WC_open Tryz.func9 rfl ?_
  have m0 := Mild.alloc s (.row (p.c v))
  have c0 := Ab.heap_alloc_new s (.row (p.c v))
  have n0 := Ab.next_alloc s (.row (p.c v))
  have hlen := ha.len (P := Tryz.prog) (ts := []) Ty.elem27 Ty.arr27
  rw [acL_len] at hlen
  have hbad : ∀ r, printE p l = r → r ≠ 0 → ∀ s', Mild s s' → R (.tuple #[.string ⟨#[]⟩, .int .i64 r]) s' := fun r h h0 s' m => by
    have := hR s' m
    rw [printT, if_neg (by rw [h]; exact h0), h] at this
    exact this
  simp (disch := first | omega | ((simp only [nxBScrPrint]) <;> omega) | decide) only [↓stepPre, stepPost, ↓W_cond, ↓W_block, ↓reduceIte, Nat.reduceEqDiff, Nat.reduceLT, Nat.reduceLeDiff, ret0, stVar, isTup, Value.cells, Nat.reduceAdd, Nat.reduceMul, Nat.reduceSub, env0, binV, intV, reduceCtorEq, pickV, nilCheckV, ptrV, unV, Rt, resultsV, allV, resV, calleeV, builtinV, eqV, fieldAddrV, ldVar, stN_own, stN_ownL, Int.reduceToNat, Int.reducePow, IntKind.bits, convV, Int.reduceNeg, Int.reduceAdd, Int.reduceSub, Int.reduceLT, Int.reduceLE, extractV, Int.reduceEq, mkFuncV, stBScrPrint, spBScrPrint, beq_self_eq_true, tyB0ScrPrint, getL_take, glBScrPrint]
  generalize s.alloc (.row (p.c v)) = s1 at m0 c0 n0 ⊢
  refine check38_ok (hs.mild m0) hn hnm (by omega) fun s2 m2 => ?_
  have n2 := m2.next
  have c2 := (m2.heap s.next (by omega)).trans c0
  have M2 := m0.trans m2
  by_cases h1 : plChk p = 0
  rotate_left
  · have hE : printE p l = plChk p := if_pos h1
    have key := hbad _ hE h1 _ M2
    generalize plChk p = r at h1 key
    simp (disch := first | omega | ((simp only [nxBScrPrint]) <;> omega) | decide) only [↓stepPre, stepPost, ↓W_cond, ↓W_block, ↓reduceIte, Nat.reduceEqDiff, Nat.reduceLT, Nat.reduceLeDiff, ret0, stVar, isTup, Value.cells, Nat.reduceAdd, Nat.reduceMul, Nat.reduceSub, env0, binV, intV, reduceCtorEq, pickV, nilCheckV, ptrV, unV, Rt, resultsV, allV, resV, calleeV, builtinV, eqV, fieldAddrV, ldVar, stN_own, stN_ownL, Int.reduceToNat, Int.reducePow, IntKind.bits, convV, Int.reduceNeg, Int.reduceAdd, Int.reduceSub, Int.reduceLT, Int.reduceLE, extractV, Int.reduceEq, mkFuncV, stBScrPrint, spBScrPrint, beq_self_eq_true, tyB0ScrPrint, getL_take, glBScrPrint, h1, Tryz.results9]
    exact key
  have hfi := plChk_fine h1
  rw [h1]
  by_cases h2 : 1024 < l.length
  · have hE : printE p l = 11 := by unfold printE; rw [if_neg (fun h => h h1), if_pos h2]
    have g1 : (l.length : Int) > 1024 := by omega
    have g1' : 1024 < (l.length : Int) := by omega
    simp (disch := first | omega | ((simp only [nxBScrPrint]) <;> omega) | decide) only [↓stepPre, stepPost, ↓W_cond, ↓W_block, ↓reduceIte, Nat.reduceEqDiff, Nat.reduceLT, Nat.reduceLeDiff, ret0, stVar, isTup, Value.cells, Nat.reduceAdd, Nat.reduceMul, Nat.reduceSub, env0, binV, intV, reduceCtorEq, pickV, nilCheckV, ptrV, unV, Rt, resultsV, allV, resV, calleeV, builtinV, eqV, fieldAddrV, ldVar, stN_own, stN_ownL, Int.reduceToNat, Int.reducePow, IntKind.bits, convV, Int.reduceNeg, Int.reduceAdd, Int.reduceSub, Int.reduceLT, Int.reduceLE, extractV, Int.reduceEq, mkFuncV, stBScrPrint, spBScrPrint, beq_self_eq_true, tyB0ScrPrint, getL_take, glBScrPrint, eq_self, hlen, g1, g1', Tryz.results9]
    exact hbad _ hE (by omega) _ M2
  have hl100 : l.length ≤ 1024 := by omega
  have hx12 : p.xs.length ≤ 64 := hfi.xs
  have g1 : ¬ (l.length : Int) > 1024 := by omega
  have g1' : ¬ 1024 < (l.length : Int) := by omega
  simp (disch := first | omega | ((simp only [nxBScrPrint]) <;> omega) | decide) only [↓stepPre, stepPost, ↓W_cond, ↓W_block, ↓reduceIte, Nat.reduceEqDiff, Nat.reduceLT, Nat.reduceLeDiff, ret0, stVar, isTup, Value.cells, Nat.reduceAdd, Nat.reduceMul, Nat.reduceSub, env0, binV, intV, reduceCtorEq, pickV, nilCheckV, ptrV, unV, Rt, resultsV, allV, resV, calleeV, builtinV, eqV, fieldAddrV, ldVar, stN_own, stN_ownL, Int.reduceToNat, Int.reducePow, IntKind.bits, convV, Int.reduceNeg, Int.reduceAdd, Int.reduceSub, Int.reduceLT, Int.reduceLE, extractV, Int.reduceEq, mkFuncV, stBScrPrint, spBScrPrint, beq_self_eq_true, tyB0ScrPrint, getL_take, glBScrPrint, eq_self, hlen, g1, g1']
  refine WC_open Tryz.func23 rfl ?_
  simp (disch := first | omega | ((simp only [nxBScrPrint]) <;> omega) | decide) only [↓stepPre, stepPost, ↓W_cond, ↓W_block, ↓reduceIte, Nat.reduceEqDiff, Nat.reduceLT, Nat.reduceLeDiff, ret0, stVar, isTup, Value.cells, Nat.reduceAdd, Nat.reduceMul, Nat.reduceSub, env0, binV, intV, reduceCtorEq, pickV, nilCheckV, ptrV, unV, Rt, resultsV, allV, resV, calleeV, builtinV, eqV, fieldAddrV, ldVar, stN_own, stN_ownL, Int.reduceToNat, Int.reducePow, IntKind.bits, convV, Int.reduceNeg, Int.reduceAdd, Int.reduceSub, Int.reduceLT, Int.reduceLE, extractV, Int.reduceEq, mkFuncV, stBScrPrint, spBScrPrint, beq_self_eq_true, tyB0ScrPrint, getL_take, glBScrPrint]
  refine acIdx_ok (ha.mild M2) hg (by omega) (by omega) fun s3 m3 => ?_
  have n3 := m3.next
  have c3 := (m3.heap s.next (by omega)).trans c2
  have M3 := M2.trans m3
  cases hf : fwd (badI l) 0 l.length with
  | some i =>
    have hE : printE p l = 10 := by unfold printE; rw [if_neg (fun h => h h1), if_neg h2, hf]; rfl
    have hi : (i : Int) ≥ 0 := by omega
    have hi' : 0 ≤ (i : Int) := by omega
    simp (disch := first | omega | ((simp only [nxBScrPrint]) <;> omega) | decide) only [↓stepPre, stepPost, ↓W_cond, ↓W_block, ↓reduceIte, Nat.reduceEqDiff, Nat.reduceLT, Nat.reduceLeDiff, ret0, stVar, isTup, Value.cells, Nat.reduceAdd, Nat.reduceMul, Nat.reduceSub, env0, binV, intV, reduceCtorEq, pickV, nilCheckV, ptrV, unV, Rt, resultsV, allV, resV, calleeV, builtinV, eqV, fieldAddrV, ldVar, stN_own, stN_ownL, Int.reduceToNat, Int.reducePow, IntKind.bits, convV, Int.reduceNeg, Int.reduceAdd, Int.reduceSub, Int.reduceLT, Int.reduceLE, extractV, Int.reduceEq, mkFuncV, stBScrPrint, spBScrPrint, beq_self_eq_true, tyB0ScrPrint, getL_take, glBScrPrint, hi, hi', Tryz.results23, Tryz.results9]
    exact hbad _ hE (by omega) _ M3
  | none =>
    have hE : printE p l = 0 := by unfold printE; rw [if_neg (fun h => h h1), if_neg h2, hf]; rfl
    rw [printT, if_pos hE, hE] at hR
    simp only [allL] at hR
    simp (disch := first | omega | ((simp only [nxBScrPrint]) <;> omega) | decide) only [↓stepPre, stepPost, ↓W_cond, ↓W_block, ↓reduceIte, Nat.reduceEqDiff, Nat.reduceLT, Nat.reduceLeDiff, ret0, stVar, isTup, Value.cells, Nat.reduceAdd, Nat.reduceMul, Nat.reduceSub, env0, binV, intV, reduceCtorEq, pickV, nilCheckV, ptrV, unV, Rt, resultsV, allV, resV, calleeV, builtinV, eqV, fieldAddrV, ldVar, stN_own, stN_ownL, Int.reduceToNat, Int.reducePow, IntKind.bits, convV, Int.reduceNeg, Int.reduceAdd, Int.reduceSub, Int.reduceLT, Int.reduceLE, extractV, Int.reduceEq, mkFuncV, stBScrPrint, spBScrPrint, beq_self_eq_true, tyB0ScrPrint, getL_take, glBScrPrint, Tryz.results23]
    refine W_draw (fun _ => false) (fun _ => false) (fun _ => false) (by kernel_rfl) (by kernel_rfl) ?_
    have f1 := hfi.no; have f2 := hfi.len; have f3 := hfi.rm; have f4 := hfi.nm; have f5 := hfi.dr; have f6 := hfi.tu; have f7 := hfi.ba; have f8 := hfi.st; have f9 := hfi.pe
    obtain ⟨no, eno⟩ : ∃ n : Nat, p.no = n := ⟨p.no.toNat, by omega⟩
    obtain ⟨len, elen⟩ : ∃ n : Nat, p.len = n := ⟨p.len.toNat, by omega⟩
    obtain ⟨rm, erm⟩ : ∃ n : Nat, p.rm = n := ⟨p.rm.toNat, by omega⟩
    obtain ⟨nm, enm⟩ : ∃ n : Nat, p.nm = n := ⟨p.nm.toNat, by omega⟩
    obtain ⟨dr, edr⟩ : ∃ n : Nat, p.dr = n := ⟨p.dr.toNat, by omega⟩
    obtain ⟨tu, etu⟩ : ∃ n : Nat, p.tu = n := ⟨p.tu.toNat, by omega⟩
    obtain ⟨ba, eba⟩ : ∃ n : Nat, p.ba = n := ⟨p.ba.toNat, by omega⟩
    obtain ⟨st, est⟩ : ∃ n : Nat, p.st = n := ⟨p.st.toNat, by omega⟩
    obtain ⟨pe, epe⟩ : ∃ n : Nat, p.pe = n := ⟨p.pe.toNat, by omega⟩
    have hrow6 : row6 p = [rowL [110, 111, 100, 101, 115] [no], rowL [108, 101, 110, 103, 116, 104] [len], rowL [114, 111, 111, 109] [rm], rowL [98, 101, 97, 116] [nm, dr], rowL [116, 117, 110, 101] [tu], rowL [116, 117, 114, 110, 115] [ba, st, pe]] := by
      unfold row6; rw [eno, elen, erm, enm, edr, etu, eba, est, epe]; simp only [Int.toNat_natCast]
    have hpc : p.c v = [.int .i64 (no : Int), v, .int .i64 (len : Int), .int .i64 (rm : Int), .int .i64 (nm : Int), .int .i64 (dr : Int), .int .i64 (tu : Int), .int .i64 (ba : Int), .int .i64 (st : Int), .int .i64 (pe : Int)] := by
      unfold Pl.c; rw [eno, elen, erm, enm, edr, etu, eba, est, epe]
    rw [hpc] at c3
    have b1 : no < 2 ^ 63 ∧ len < 2 ^ 63 ∧ rm < 2 ^ 63 ∧ nm < 2 ^ 63 ∧ dr < 2 ^ 63 ∧ tu < 2 ^ 63 ∧ ba < 2 ^ 63 ∧ st < 2 ^ 63 ∧ pe < 2 ^ 63 := by omega
    obtain ⟨b1, b2, b3, b4, b5, b6, b7, b8, b9⟩ := b1
    simp (disch := first | omega | ((simp only [nxBScrPrint]) <;> omega) | decide) only [↓stepPre, stepPost, ↓W_cond, ↓W_block, ↓reduceIte, Nat.reduceEqDiff, Nat.reduceLT, Nat.reduceLeDiff, ret0, stVar, isTup, Value.cells, Nat.reduceAdd, Nat.reduceMul, Nat.reduceSub, env0, binV, intV, reduceCtorEq, pickV, nilCheckV, ptrV, unV, Rt, resultsV, allV, resV, calleeV, builtinV, eqV, fieldAddrV, ldVar, stN_own, stN_ownL, Int.reduceToNat, Int.reducePow, IntKind.bits, convV, Int.reduceNeg, Int.reduceAdd, Int.reduceSub, Int.reduceLT, Int.reduceLE, extractV, Int.reduceEq, mkFuncV, stBScrPrint, spBScrPrint, beq_self_eq_true, tyB0ScrPrint, getL_take, glBScrPrint, c3, build1i Ty.elem48 Ty.siz2 Ty.zer2]
    have l4 : Sl base (s3.alloc (.row [.int .i64 (no : Int)])) 1 (.slice (some ⟨s3.next, 0, none⟩) 1 1) (i64L [no]) := i64_new (ns := [no]) (Ab.heap_alloc_new _ _) (by omega) (by simp only [Ab.next_alloc]; omega)
    have q4 := M3.alloc' (o := .row [.int .i64 (no : Int)])
    refine row38_ok (w := [110, 111, 100, 101, 115]) l4 (by decide) (by simp) (by simp; omega) (by simp only [Ab.next_alloc]; omega) fun s4 m4 => ?_
    have n4 := m4.next
    simp only [Ab.next_alloc] at n4
    have M4 := q4.trans m4
    have c4 := (m4.heap s.next (by simp only [Ab.next_alloc]; omega)).trans ((Ab.heap_alloc_ne _ _ (by omega)).trans c3)
    refine ⟨.inl m4, ?_⟩
    simp (disch := first | omega | ((simp only [nxBScrPrint]) <;> omega) | decide) only [↓stepPre, stepPost, ↓W_cond, ↓W_block, ↓reduceIte, Nat.reduceEqDiff, Nat.reduceLT, Nat.reduceLeDiff, ret0, stVar, isTup, Value.cells, Nat.reduceAdd, Nat.reduceMul, Nat.reduceSub, env0, binV, intV, reduceCtorEq, pickV, nilCheckV, ptrV, unV, Rt, resultsV, allV, resV, calleeV, builtinV, eqV, fieldAddrV, ldVar, stN_own, stN_ownL, Int.reduceToNat, Int.reducePow, IntKind.bits, convV, Int.reduceNeg, Int.reduceAdd, Int.reduceSub, Int.reduceLT, Int.reduceLE, extractV, Int.reduceEq, mkFuncV, stBScrPrint, spBScrPrint, beq_self_eq_true, tyB0ScrPrint, getL_take, glBScrPrint, c4, build1i Ty.elem48 Ty.siz2 Ty.zer2]
    have l5 : Sl base (s4.alloc (.row [.int .i64 (len : Int)])) 1 (.slice (some ⟨s4.next, 0, none⟩) 1 1) (i64L [len]) := i64_new (ns := [len]) (Ab.heap_alloc_new _ _) (by omega) (by simp only [Ab.next_alloc]; omega)
    have q5 := M4.alloc' (o := .row [.int .i64 (len : Int)])
    refine row38_ok (w := [108, 101, 110, 103, 116, 104]) l5 (by decide) (by simp) (by simp; omega) (by simp only [Ab.next_alloc]; omega) fun s5 m5 => ?_
    have n5 := m5.next
    simp only [Ab.next_alloc] at n5
    have M5 := q5.trans m5
    have c5 := (m5.heap s.next (by simp only [Ab.next_alloc]; omega)).trans ((Ab.heap_alloc_ne _ _ (by omega)).trans c4)
    refine ⟨.inl m5, ?_⟩
    simp (disch := first | omega | ((simp only [nxBScrPrint]) <;> omega) | decide) only [↓stepPre, stepPost, ↓W_cond, ↓W_block, ↓reduceIte, Nat.reduceEqDiff, Nat.reduceLT, Nat.reduceLeDiff, ret0, stVar, isTup, Value.cells, Nat.reduceAdd, Nat.reduceMul, Nat.reduceSub, env0, binV, intV, reduceCtorEq, pickV, nilCheckV, ptrV, unV, Rt, resultsV, allV, resV, calleeV, builtinV, eqV, fieldAddrV, ldVar, stN_own, stN_ownL, Int.reduceToNat, Int.reducePow, IntKind.bits, convV, Int.reduceNeg, Int.reduceAdd, Int.reduceSub, Int.reduceLT, Int.reduceLE, extractV, Int.reduceEq, mkFuncV, stBScrPrint, spBScrPrint, beq_self_eq_true, tyB0ScrPrint, getL_take, glBScrPrint, c5, build1i Ty.elem48 Ty.siz2 Ty.zer2]
    have l6 : Sl base (s5.alloc (.row [.int .i64 (rm : Int)])) 1 (.slice (some ⟨s5.next, 0, none⟩) 1 1) (i64L [rm]) := i64_new (ns := [rm]) (Ab.heap_alloc_new _ _) (by omega) (by simp only [Ab.next_alloc]; omega)
    have q6 := M5.alloc' (o := .row [.int .i64 (rm : Int)])
    refine row38_ok (w := [114, 111, 111, 109]) l6 (by decide) (by simp) (by simp; omega) (by simp only [Ab.next_alloc]; omega) fun s6 m6 => ?_
    have n6 := m6.next
    simp only [Ab.next_alloc] at n6
    have M6 := q6.trans m6
    have c6 := (m6.heap s.next (by simp only [Ab.next_alloc]; omega)).trans ((Ab.heap_alloc_ne _ _ (by omega)).trans c5)
    refine ⟨.inl m6, ?_⟩
    simp (disch := first | omega | ((simp only [nxBScrPrint]) <;> omega) | decide) only [↓stepPre, stepPost, ↓W_cond, ↓W_block, ↓reduceIte, Nat.reduceEqDiff, Nat.reduceLT, Nat.reduceLeDiff, ret0, stVar, isTup, Value.cells, Nat.reduceAdd, Nat.reduceMul, Nat.reduceSub, env0, binV, intV, reduceCtorEq, pickV, nilCheckV, ptrV, unV, Rt, resultsV, allV, resV, calleeV, builtinV, eqV, fieldAddrV, ldVar, stN_own, stN_ownL, Int.reduceToNat, Int.reducePow, IntKind.bits, convV, Int.reduceNeg, Int.reduceAdd, Int.reduceSub, Int.reduceLT, Int.reduceLE, extractV, Int.reduceEq, mkFuncV, stBScrPrint, spBScrPrint, beq_self_eq_true, tyB0ScrPrint, getL_take, glBScrPrint, c6, build2i Ty.elem48 Ty.siz2 Ty.zer2]
    have l7 : Sl base (s6.alloc (.row [.int .i64 (nm : Int), .int .i64 (dr : Int)])) 1 (.slice (some ⟨s6.next, 0, none⟩) 2 2) (i64L [nm, dr]) := i64_new (ns := [nm, dr]) (Ab.heap_alloc_new _ _) (by omega) (by simp only [Ab.next_alloc]; omega)
    have q7 := M6.alloc' (o := .row [.int .i64 (nm : Int), .int .i64 (dr : Int)])
    refine row38_ok (w := [98, 101, 97, 116]) l7 (by decide) (by simp) (by simp; omega) (by simp only [Ab.next_alloc]; omega) fun s7 m7 => ?_
    have n7 := m7.next
    simp only [Ab.next_alloc] at n7
    have M7 := q7.trans m7
    have c7 := (m7.heap s.next (by simp only [Ab.next_alloc]; omega)).trans ((Ab.heap_alloc_ne _ _ (by omega)).trans c6)
    refine ⟨.inl m7, ?_⟩
    simp (disch := first | omega | ((simp only [nxBScrPrint]) <;> omega) | decide) only [↓stepPre, stepPost, ↓W_cond, ↓W_block, ↓reduceIte, Nat.reduceEqDiff, Nat.reduceLT, Nat.reduceLeDiff, ret0, stVar, isTup, Value.cells, Nat.reduceAdd, Nat.reduceMul, Nat.reduceSub, env0, binV, intV, reduceCtorEq, pickV, nilCheckV, ptrV, unV, Rt, resultsV, allV, resV, calleeV, builtinV, eqV, fieldAddrV, ldVar, stN_own, stN_ownL, Int.reduceToNat, Int.reducePow, IntKind.bits, convV, Int.reduceNeg, Int.reduceAdd, Int.reduceSub, Int.reduceLT, Int.reduceLE, extractV, Int.reduceEq, mkFuncV, stBScrPrint, spBScrPrint, beq_self_eq_true, tyB0ScrPrint, getL_take, glBScrPrint, c7, build1i Ty.elem48 Ty.siz2 Ty.zer2]
    have l8 : Sl base (s7.alloc (.row [.int .i64 (tu : Int)])) 1 (.slice (some ⟨s7.next, 0, none⟩) 1 1) (i64L [tu]) := i64_new (ns := [tu]) (Ab.heap_alloc_new _ _) (by omega) (by simp only [Ab.next_alloc]; omega)
    have q8 := M7.alloc' (o := .row [.int .i64 (tu : Int)])
    refine row38_ok (w := [116, 117, 110, 101]) l8 (by decide) (by simp) (by simp; omega) (by simp only [Ab.next_alloc]; omega) fun s8 m8 => ?_
    have n8 := m8.next
    simp only [Ab.next_alloc] at n8
    have M8 := q8.trans m8
    have c8 := (m8.heap s.next (by simp only [Ab.next_alloc]; omega)).trans ((Ab.heap_alloc_ne _ _ (by omega)).trans c7)
    refine ⟨.inl m8, ?_⟩
    simp (disch := first | omega | ((simp only [nxBScrPrint]) <;> omega) | decide) only [↓stepPre, stepPost, ↓W_cond, ↓W_block, ↓reduceIte, Nat.reduceEqDiff, Nat.reduceLT, Nat.reduceLeDiff, ret0, stVar, isTup, Value.cells, Nat.reduceAdd, Nat.reduceMul, Nat.reduceSub, env0, binV, intV, reduceCtorEq, pickV, nilCheckV, ptrV, unV, Rt, resultsV, allV, resV, calleeV, builtinV, eqV, fieldAddrV, ldVar, stN_own, stN_ownL, Int.reduceToNat, Int.reducePow, IntKind.bits, convV, Int.reduceNeg, Int.reduceAdd, Int.reduceSub, Int.reduceLT, Int.reduceLE, extractV, Int.reduceEq, mkFuncV, stBScrPrint, spBScrPrint, beq_self_eq_true, tyB0ScrPrint, getL_take, glBScrPrint, c8, build3i]
    have l9 : Sl base (s8.alloc (.row [.int .i64 (ba : Int), .int .i64 (st : Int), .int .i64 (pe : Int)])) 1 (.slice (some ⟨s8.next, 0, none⟩) 3 3) (i64L [ba, st, pe]) := i64_new (ns := [ba, st, pe]) (Ab.heap_alloc_new _ _) (by omega) (by simp only [Ab.next_alloc]; omega)
    have q9 := M8.alloc' (o := .row [.int .i64 (ba : Int), .int .i64 (st : Int), .int .i64 (pe : Int)])
    refine row38_ok (w := [116, 117, 114, 110, 115]) l9 (by decide) (by simp) (by simp; omega) (by simp only [Ab.next_alloc]; omega) fun s9 m9 => ?_
    have n9 := m9.next
    simp only [Ab.next_alloc] at n9
    have M9 := q9.trans m9
    have c9 := (m9.heap s.next (by simp only [Ab.next_alloc]; omega)).trans ((Ab.heap_alloc_ne _ _ (by omega)).trans c8)
    refine ⟨.inl m9, ?_⟩
    have hlenS := (hs.mild M9).len (P := Tryz.prog) (ts := []) Ty.elem22 Ty.arr22
    rw [smL_len] at hlenS
    have r6 : Sl base (s9.alloc (.row [.string (strB (rowL [110, 111, 100, 101, 115] [no])), .string (strB (rowL [108, 101, 110, 103, 116, 104] [len])), .string (strB (rowL [114, 111, 111, 109] [rm])), .string (strB (rowL [98, 101, 97, 116] [nm, dr])), .string (strB (rowL [116, 117, 110, 101] [tu])), .string (strB (rowL [116, 117, 114, 110, 115] [ba, st, pe]))])) 1 (.slice (some ⟨s9.next, 0, none⟩) 6 6) (strL (row6 p)) := by
      rw [hrow6]
      exact .newRow (L := strL _) (Ab.heap_alloc_new _ _) rfl rfl (by simp [strL]) (by omega) (by simp only [Ab.next_alloc]; omega)
    have q10 := M9.alloc' (o := .row [.string (strB (rowL [110, 111, 100, 101, 115] [no])), .string (strB (rowL [108, 101, 110, 103, 116, 104] [len])), .string (strB (rowL [114, 111, 111, 109] [rm])), .string (strB (rowL [98, 101, 97, 116] [nm, dr])), .string (strB (rowL [116, 117, 110, 101] [tu])), .string (strB (rowL [116, 117, 114, 110, 115] [ba, st, pe]))])
    simp (disch := first | omega | ((simp only [nxBScrPrint]) <;> omega) | decide) only [↓stepPre, stepPost, ↓W_cond, ↓W_block, ↓reduceIte, Nat.reduceEqDiff, Nat.reduceLT, Nat.reduceLeDiff, ret0, stVar, isTup, Value.cells, Nat.reduceAdd, Nat.reduceMul, Nat.reduceSub, env0, binV, intV, reduceCtorEq, pickV, nilCheckV, ptrV, unV, Rt, resultsV, allV, resV, calleeV, builtinV, eqV, fieldAddrV, ldVar, stN_own, stN_ownL, Int.reduceToNat, Int.reducePow, IntKind.bits, convV, Int.reduceNeg, Int.reduceAdd, Int.reduceSub, Int.reduceLT, Int.reduceLE, extractV, Int.reduceEq, mkFuncV, stBScrPrint, spBScrPrint, beq_self_eq_true, tyB0ScrPrint, getL_take, glBScrPrint, c9, build6t, hlenS]
    have h6l : (row6 p).length = 6 := rfl
    have h6s := row6_len hfi
    generalize row6 p = rw6 at r6 h6l h6s hR
    generalize hs10 : s9.alloc _ = s10 at r6 q10 ⊢
    have n10 : s9.next + 1 = s10.next := by rw [← hs10]; rfl
    refine W_loop_inv p.xs.length (fun i e1 t => e1 1 = u ∧ e1 58 = v ∧ e1 59 = .int .i64 (p.xs.length : Int) ∧ e1 60 = .int .i64 (i : Int) ∧ Mild s t ∧ ∃ w, e1 7 = w ∧ Sl base t 1 w (strL (rw6 ++ (p.xs.take i).map streamL)) ∧ Tight base w ∧ ∀ b, inB w b → s.next ≤ b)
      (fun x e1 t => x = .exit 1 ∧ e1 1 = u ∧ Mild s t ∧ ∃ w, e1 7 = w ∧ Sl base t 1 w (strL (rw6 ++ p.xs.map streamL)) ∧ Tight base w ∧ ∀ b, inB w b → s.next ≤ b) ?_ ?_ ?_
    rotate_left
    · exact ⟨rfl, rfl, rfl, rfl, q10, .slice (some ⟨s9.next, 0, none⟩) 6 6, rfl, by simpa using r6, ⟨rfl, show base ≤ s9.next by omega⟩, fun b hb => by have : s9.next = b := hb; omega⟩
    rotate_left
    · rintro i e1 t hi ⟨q1, q58, q59, q60, M, w, q7, lw, tw, ow⟩
      have nt := M.next
      by_cases hil : i < p.xs.length
      rotate_left
      · have k1 : ¬ (i : Int) < (p.xs.length : Int) := by omega
        rw [List.take_of_length_le (by omega)] at lw
        simp (disch := first | omega | ((simp only [nxBScrPrint]) <;> omega) | decide) only [↓stepPre, stepPost, ↓W_cond, ↓W_block, ↓reduceIte, Nat.reduceEqDiff, Nat.reduceLT, Nat.reduceLeDiff, ret0, stVar, isTup, Value.cells, Nat.reduceAdd, Nat.reduceMul, Nat.reduceSub, env0, binV, intV, reduceCtorEq, pickV, nilCheckV, ptrV, unV, Rt, resultsV, allV, resV, calleeV, builtinV, eqV, fieldAddrV, ldVar, stN_own, stN_ownL, Int.reduceToNat, Int.reducePow, IntKind.bits, convV, Int.reduceNeg, Int.reduceAdd, Int.reduceSub, Int.reduceLT, Int.reduceLE, extractV, Int.reduceEq, mkFuncV, stBScrPrint, spBScrPrint, beq_self_eq_true, tyB0ScrPrint, getL_take, glBScrPrint, q1, q58, q59, q60, k1]
        exact ⟨M, w, q7, lw, tw, ow⟩
      have k1 : (i : Int) < (p.xs.length : Int) := by omega
      have hix := (hs.mild M).index (P := Tryz.prog) (k := .i64) (i := (i : Int)) Ty.elem22 Ty.siz58 (by omega) (by rw [smL_len]; omega)
      rw [Int.toNat_natCast] at hix
      have hld := (hs.mild M).loadA (smL_at hil) Ty.agg58 Ty.siz58
      have m11 := M.alloc' (o := .row p.xs[i].c)
      simp (disch := first | omega | ((simp only [nxBScrPrint]) <;> omega) | decide) only [↓stepPre, stepPost, ↓W_cond, ↓W_block, ↓reduceIte, Nat.reduceEqDiff, Nat.reduceLT, Nat.reduceLeDiff, ret0, stVar, isTup, Value.cells, Nat.reduceAdd, Nat.reduceMul, Nat.reduceSub, env0, binV, intV, reduceCtorEq, pickV, nilCheckV, ptrV, unV, Rt, resultsV, allV, resV, calleeV, builtinV, eqV, fieldAddrV, ldVar, stN_own, stN_ownL, Int.reduceToNat, Int.reducePow, IntKind.bits, convV, Int.reduceNeg, Int.reduceAdd, Int.reduceSub, Int.reduceLT, Int.reduceLE, extractV, Int.reduceEq, mkFuncV, stBScrPrint, spBScrPrint, beq_self_eq_true, tyB0ScrPrint, getL_take, glBScrPrint, q1, q58, q59, q60, q7, k1, hix, hld]
      refine streamLine_ok (hfi.fine _ (List.getElem_mem hil)) (hL.mild m11 hbn) (by simp only [Ab.next_alloc]; omega) fun s12 m12 => ?_
      have n12 := m12.next
      simp only [Ab.next_alloc] at n12
      have mt : Mild t s12 := (Mild.alloc t _).trans m12
      obtain ⟨w', s13, e13, l13, t13, o13, ch13⟩ := app_str (x := streamL p.xs[i]) (lw.mild mt) tw (by omega) (by simp; omega)
      simp (disch := first | omega | ((simp only [nxBScrPrint]) <;> omega) | decide) only [↓stepPre, stepPost, ↓W_cond, ↓W_block, ↓reduceIte, Nat.reduceEqDiff, Nat.reduceLT, Nat.reduceLeDiff, ret0, stVar, isTup, Value.cells, Nat.reduceAdd, Nat.reduceMul, Nat.reduceSub, env0, binV, intV, reduceCtorEq, pickV, nilCheckV, ptrV, unV, Rt, resultsV, allV, resV, calleeV, builtinV, eqV, fieldAddrV, ldVar, stN_own, stN_ownL, Int.reduceToNat, Int.reducePow, IntKind.bits, convV, Int.reduceNeg, Int.reduceAdd, Int.reduceSub, Int.reduceLT, Int.reduceLE, extractV, Int.reduceEq, mkFuncV, stBScrPrint, spBScrPrint, beq_self_eq_true, tyB0ScrPrint, getL_take, glBScrPrint, q1, q58, q59, q60, q7, build1t, e13]
      have hch : Ch t s13 (fun b => s.next ≤ b) := Ch.after (Ch.of_mild mt (fun b => s.next ≤ b)) ch13 fun k hk he => ow k he
      refine ⟨hil, by simp, (Ch.after (Ch.of_mild M (fun b => s.next ≤ b)) hch fun k hk he => he).mild fun k hk h => by omega, w', rfl, ?_, t13, fun b hb => by have := o13 b hb; omega⟩
      rw [List.take_succ_eq_append_getElem hil, List.map_append, ← List.append_assoc]; exact l13
    · rintro x e1 t ⟨rfl, q1, M, w, q7, lw, tw, ow⟩
      have nt := M.next
      have hlenA := (ha.mild M).len (P := Tryz.prog) (ts := []) Ty.elem27 Ty.arr27
      rw [acL_len] at hlenA
      simp (disch := first | omega | ((simp only [nxBScrPrint]) <;> omega) | decide) only [↓stepPre, stepPost, ↓W_cond, ↓W_block, ↓reduceIte, Nat.reduceEqDiff, Nat.reduceLT, Nat.reduceLeDiff, ret0, stVar, isTup, Value.cells, Nat.reduceAdd, Nat.reduceMul, Nat.reduceSub, env0, binV, intV, reduceCtorEq, pickV, nilCheckV, ptrV, unV, Rt, resultsV, allV, resV, calleeV, builtinV, eqV, fieldAddrV, ldVar, stN_own, stN_ownL, Int.reduceToNat, Int.reducePow, IntKind.bits, convV, Int.reduceNeg, Int.reduceAdd, Int.reduceSub, Int.reduceLT, Int.reduceLE, extractV, Int.reduceEq, mkFuncV, stBScrPrint, spBScrPrint, beq_self_eq_true, tyB0ScrPrint, getL_take, glBScrPrint, q1, hlenA]
      have hpre : (rw6 ++ p.xs.map streamL).length ≤ 70 := by simp; omega
      have hpres : ∀ x ∈ rw6 ++ p.xs.map streamL, x.length ≤ 200 := fun x hx => by
        rcases List.mem_append.1 hx with hx | hx
        · exact h6s x hx
        · obtain ⟨y, hy, rfl⟩ := List.mem_map.1 hx; exact streamL_len (hfi.fine y hy)
      have hne : ∃ x0 r0, rw6 ++ p.xs.map streamL = x0 :: r0 := by
        cases hq : rw6 ++ p.xs.map streamL with
        | nil => have := congrArg List.length hq; rw [List.length_append, List.length_nil] at this; omega
        | cons x0 r0 => exact ⟨x0, r0, rfl⟩
      have hR' : ∀ s', Mild s s' → R (.tuple #[.string (strB (lfT (rw6 ++ p.xs.map streamL ++ l.map Ac.line))), .int .i64 0]) s' := hR
      generalize rw6 ++ p.xs.map streamL = pre at lw hpre hpres hne hR'
      refine W_loop_inv l.length (fun i e1 t => e1 70 = u ∧ e1 71 = .int .i64 (l.length : Int) ∧ e1 72 = .int .i64 (i : Int) ∧ Mild s t ∧ ∃ w, e1 7 = w ∧ Sl base t 1 w (strL (pre ++ (l.take i).map Ac.line)) ∧ Tight base w ∧ ∀ b, inB w b → s.next ≤ b)
        (fun x e1 t => x = .exit 3 ∧ Mild s t ∧ ∃ w, e1 7 = w ∧ Sl base t 1 w (strL (pre ++ l.map Ac.line))) ?_ ?_ ?_
      rotate_left
      · exact ⟨rfl, rfl, rfl, M, w, q7, by simpa using lw, tw, ow⟩
      rotate_left
      · rintro i e1 t hi ⟨q70, q71, q72, M, w, q7, lw, tw, ow⟩
        have nt := M.next
        by_cases hil : i < l.length
        rotate_left
        · have k1 : ¬ (i : Int) < (l.length : Int) := by omega
          rw [List.take_of_length_le (by omega)] at lw
          simp (disch := first | omega | ((simp only [nxBScrPrint]) <;> omega) | decide) only [↓stepPre, stepPost, ↓W_cond, ↓W_block, ↓reduceIte, Nat.reduceEqDiff, Nat.reduceLT, Nat.reduceLeDiff, ret0, stVar, isTup, Value.cells, Nat.reduceAdd, Nat.reduceMul, Nat.reduceSub, env0, binV, intV, reduceCtorEq, pickV, nilCheckV, ptrV, unV, Rt, resultsV, allV, resV, calleeV, builtinV, eqV, fieldAddrV, ldVar, stN_own, stN_ownL, Int.reduceToNat, Int.reducePow, IntKind.bits, convV, Int.reduceNeg, Int.reduceAdd, Int.reduceSub, Int.reduceLT, Int.reduceLE, extractV, Int.reduceEq, mkFuncV, stBScrPrint, spBScrPrint, beq_self_eq_true, tyB0ScrPrint, getL_take, glBScrPrint, q70, q71, q72, k1]
          exact ⟨M, w, q7, lw⟩
        have k1 : (i : Int) < (l.length : Int) := by omega
        have hix := (ha.mild M).index (P := Tryz.prog) (k := .i64) (i := (i : Int)) Ty.elem27 Ty.siz33 (by omega) (by rw [acL_len]; omega)
        rw [Int.toNat_natCast] at hix
        have hld := (ha.mild M).loadA (acL_at hil) Ty.agg33 Ty.siz33
        have m11 := M.alloc' (o := .row l[i].c)
        have hgi := hg _ (List.getElem_mem hil)
        have gl := fun (a b c : Value) => getL_act (a := a) (b := b) (c := c) hgi.1
        have hpa := putAt_act (a0 := .int .i64 0) (a1 := .int .i64 0) (a2 := .int .i64 0) (a3 := .int .u8 0) (a4 := .int .u8 0) (a5 := .int .u8 0) (a6 := .int .u8 0) (a7 := .int .u8 0) (a8 := .int .u8 0) (a9 := .int .u8 0) (a10 := .int .u8 0) (x := .int .i64 l[i].k) (y := .int .i64 l[i].K) (z := .int .i64 l[i].N) hgi.1
        simp (disch := first | omega | ((simp only [nxBScrPrint]) <;> omega) | decide) only [↓stepPre, stepPost, ↓W_cond, ↓W_block, ↓reduceIte, Nat.reduceEqDiff, Nat.reduceLT, Nat.reduceLeDiff, ret0, stVar, isTup, Value.cells, Nat.reduceAdd, Nat.reduceMul, Nat.reduceSub, env0, binV, intV, reduceCtorEq, pickV, nilCheckV, ptrV, unV, Rt, resultsV, allV, resV, calleeV, builtinV, eqV, fieldAddrV, ldVar, stN_own, stN_ownL, Int.reduceToNat, Int.reducePow, IntKind.bits, convV, Int.reduceNeg, Int.reduceAdd, Int.reduceSub, Int.reduceLT, Int.reduceLE, extractV, Int.reduceEq, mkFuncV, stBScrPrint, spBScrPrint, beq_self_eq_true, tyB0ScrPrint, getL_take, glBScrPrint, q70, q71, q72, q7, k1, hix, hld, gl, hpa, bC_len, hgi.1]
        refine line38_ok hgi.1 hgi.2 (hL.mild m11 hbn) (by simp only [Ab.next_alloc]; omega) fun s12 m12 => ?_
        have n12 := m12.next
        simp only [Ab.next_alloc] at n12
        have mt : Mild t s12 := (Mild.alloc t _).trans m12
        obtain ⟨w', s13, e13, l13, t13, o13, ch13⟩ := app_str (x := lineA l[i].k l[i].K l[i].N l[i].ds) (lw.mild mt) tw (by omega) (by simp; omega)
        simp (disch := first | omega | ((simp only [nxBScrPrint]) <;> omega) | decide) only [↓stepPre, stepPost, ↓W_cond, ↓W_block, ↓reduceIte, Nat.reduceEqDiff, Nat.reduceLT, Nat.reduceLeDiff, ret0, stVar, isTup, Value.cells, Nat.reduceAdd, Nat.reduceMul, Nat.reduceSub, env0, binV, intV, reduceCtorEq, pickV, nilCheckV, ptrV, unV, Rt, resultsV, allV, resV, calleeV, builtinV, eqV, fieldAddrV, ldVar, stN_own, stN_ownL, Int.reduceToNat, Int.reducePow, IntKind.bits, convV, Int.reduceNeg, Int.reduceAdd, Int.reduceSub, Int.reduceLT, Int.reduceLE, extractV, Int.reduceEq, mkFuncV, stBScrPrint, spBScrPrint, beq_self_eq_true, tyB0ScrPrint, getL_take, glBScrPrint, q70, q71, q72, q7, build1t, e13]
        have hch : Ch t s13 (fun b => s.next ≤ b) := Ch.after (Ch.of_mild mt (fun b => s.next ≤ b)) ch13 fun k hk he => ow k he
        refine ⟨hil, by simp, (Ch.after (Ch.of_mild M (fun b => s.next ≤ b)) hch fun k hk he => he).mild fun k hk h => by omega, w', rfl, ?_, t13, fun b hb => by have := o13 b hb; omega⟩
        rw [List.take_succ_eq_append_getElem hil, List.map_append, ← List.append_assoc]; exact l13
      · rintro x e1 t ⟨rfl, M, w, q7, lw⟩
        obtain ⟨x0, r0, hne⟩ := hne
        have hall : ∀ x ∈ pre ++ l.map Ac.line, x.length ≤ 200 := fun x hx => by
          rcases List.mem_append.1 hx with hx | hx
          · exact hpres x hx
          · obtain ⟨y, hy, rfl⟩ := List.mem_map.1 hx; exact line_len (hg y hy)
        have hlf := lfT_len _ hall
        have hcnt : (pre ++ l.map Ac.line).length ≤ 1100 := by simp; omega
        have hj := join_lf x0 (r0 ++ l.map Ac.line)
        rw [← List.cons_append, ← hne] at hj
        have hjl : (Lib.join (pre ++ l.map Ac.line) [10]).length ≤ 1000000 := by
          have := congrArg List.length hj
          rw [List.length_append] at this; omega
        have hpos : 1 ≤ (pre ++ l.map Ac.line).length := by rw [hne]; simp
        have aj := addStrV (l := Lib.join (pre ++ l.map Ac.line) [10]) (m := [10]) (by simp only [List.length_singleton]; have := congrArg List.length hj; rw [List.length_append] at this; omega)
        rw [hj] at aj
        simp (disch := first | omega | ((simp only [nxBScrPrint]) <;> omega) | decide) only [↓stepPre, stepPost, ↓W_cond, ↓W_block, ↓reduceIte, Nat.reduceEqDiff, Nat.reduceLT, Nat.reduceLeDiff, ret0, stVar, isTup, Value.cells, Nat.reduceAdd, Nat.reduceMul, Nat.reduceSub, env0, binV, intV, reduceCtorEq, pickV, nilCheckV, ptrV, unV, Rt, resultsV, allV, resV, calleeV, builtinV, eqV, fieldAddrV, ldVar, stN_own, stN_ownL, Int.reduceToNat, Int.reducePow, IntKind.bits, convV, Int.reduceNeg, Int.reduceAdd, Int.reduceSub, Int.reduceLT, Int.reduceLE, extractV, Int.reduceEq, mkFuncV, stBScrPrint, spBScrPrint, beq_self_eq_true, tyB0ScrPrint, getL_take, glBScrPrint, q7]
        refine join_p (sep := [10]) lw hpos (by omega) hjl ?_
        simp (disch := first | omega | ((simp only [nxBScrPrint]) <;> omega) | decide) only [↓stepPre, stepPost, ↓W_cond, ↓W_block, ↓reduceIte, Nat.reduceEqDiff, Nat.reduceLT, Nat.reduceLeDiff, ret0, stVar, isTup, Value.cells, Nat.reduceAdd, Nat.reduceMul, Nat.reduceSub, env0, binV, intV, reduceCtorEq, pickV, nilCheckV, ptrV, unV, Rt, resultsV, allV, resV, calleeV, builtinV, eqV, fieldAddrV, ldVar, stN_own, stN_ownL, Int.reduceToNat, Int.reducePow, IntKind.bits, convV, Int.reduceNeg, Int.reduceAdd, Int.reduceSub, Int.reduceLT, Int.reduceLE, extractV, Int.reduceEq, mkFuncV, stBScrPrint, spBScrPrint, beq_self_eq_true, tyB0ScrPrint, getL_take, glBScrPrint, aj, Tryz.results9]
        exact hR' _ M
theorem print38_ok {v u : Value} {p : Pl} {l : List Ac} (hs : Sl base s 7 v (smL p.xs)) (ha : Sl base s 11 u (acL l)) (hg : ∀ a ∈ l, a.good) (hn : p.xs.length ≤ 2 ^ 63 - 1) (hln : l.length ≤ 2 ^ 63 - 1) (_ : p.xs.length ≤ 12 ∨ 64 < p.xs.length) (_ : l.length ≤ 100 ∨ 1024 < l.length)
    (hnm : -9223372036854775808 ≤ p.nm) (hL : LaidOk base s) (hbn : base ≤ s.next) (hR : ∀ s', Mild s s' → R (.tuple #[.string (strB (printT p l)), .int .i64 (printE p l)]) s') :
    WC Tryz.prog base 9 [.agg (p.c v).toArray, u] s R := print38_all hs ha hg hn hln hnm hL hbn hR
end Go.Proofs.YthjpfllmecpliaaGreatDoor
/- A network, and acts, as arguments. -/
set_option linter.all false
set_option maxRecDepth 20000
namespace Go.Proofs.YthjpfllmecpliaaGreatDoor
open Go Go.Ab
theorem flatPlant : flat Tryz.prog 16 26 = some [.int .i64, .sl [.int .i64, .int .i64, .int .i64, .int .i64, .int .i64, .int .i64, .int .i64], .int .i64, .int .i64, .int .i64, .int .i64, .int .i64, .int .i64, .int .i64, .int .i64] := by kernel_rfl
theorem flatActs : flat Tryz.prog 16 27 = some [.sl [.int .i64, .int .i64, .int .i64, .int .u8, .int .u8, .int .u8, .int .u8, .int .u8, .int .u8, .int .u8, .int .u8]] := by kernel_rfl
theorem sm38_list {W : World} : ∀ {Ls : List (List Value)}, (∀ l ∈ Ls, okCells W [.int .i64, .int .i64, .int .i64, .int .i64, .int .i64, .int .i64, .int .i64] l) → ∃ xs : List Sm, Ls = smL xs := by
  intro Ls
  induction Ls with
  | nil => intro _; exact ⟨[], rfl⟩
  | cons l Ls ih =>
    intro hok
    obtain ⟨xs, h1⟩ := ih fun m hm => hok m (by simp [hm])
    have h := hok l (by simp)
    simp only [okCells, okCell] at h
    obtain ⟨_, _, rfl, ⟨a, rfl, wa⟩, _, _, rfl, ⟨b, rfl, wb⟩, _, _, rfl, ⟨c, rfl, wc⟩, _, _, rfl, ⟨d, rfl, wd⟩, _, _, rfl, ⟨e, rfl, we⟩, _, _, rfl, ⟨f, rfl, wf⟩, _, _, rfl, ⟨g, rfl, wg⟩, rfl⟩ := h
    exact ⟨⟨a, b, c, d, e, f, g⟩ :: xs, by rw [h1]; rfl⟩
theorem u8_nat {n : Int} (h : (Lit.int .u8 n).wf = true) : ∃ m : Nat, n = m ∧ m < 256 := by
  have := wf_int h
  have h1 : IntKind.u8.min = 0 := rfl
  have h2 : IntKind.u8.max = 255 := rfl
  rw [h1, h2] at this
  exact ⟨n.toNat, by omega, by omega⟩
theorem ac38_list {W : World} : ∀ {Ls : List (List Value)}, (∀ l ∈ Ls, okCells W [.int .i64, .int .i64, .int .i64, .int .u8, .int .u8, .int .u8, .int .u8, .int .u8, .int .u8, .int .u8, .int .u8] l) → ∃ xs : List Ac, Ls = acL xs ∧ ∀ a ∈ xs, a.good := by
  intro Ls
  induction Ls with
  | nil => intro _; exact ⟨[], rfl, by simp⟩
  | cons l Ls ih =>
    intro hok
    obtain ⟨xs, h1, h2⟩ := ih fun m hm => hok m (by simp [hm])
    have h := hok l (by simp)
    simp only [okCells, okCell] at h
    obtain ⟨_, _, rfl, ⟨a, rfl, wa⟩, _, _, rfl, ⟨b, rfl, wb⟩, _, _, rfl, ⟨c, rfl, wc⟩, _, _, rfl, ⟨d0, rfl, w0⟩, _, _, rfl, ⟨d1, rfl, w1⟩, _, _, rfl, ⟨d2, rfl, w2⟩, _, _, rfl, ⟨d3, rfl, w3⟩, _, _, rfl, ⟨d4, rfl, w4⟩, _, _, rfl, ⟨d5, rfl, w5⟩, _, _, rfl, ⟨d6, rfl, w6⟩, _, _, rfl, ⟨d7, rfl, w7⟩, rfl⟩ := h
    obtain ⟨d0, rfl, w0⟩ := u8_nat w0
    obtain ⟨d1, rfl, w1⟩ := u8_nat w1
    obtain ⟨d2, rfl, w2⟩ := u8_nat w2
    obtain ⟨d3, rfl, w3⟩ := u8_nat w3
    obtain ⟨d4, rfl, w4⟩ := u8_nat w4
    obtain ⟨d5, rfl, w5⟩ := u8_nat w5
    obtain ⟨d6, rfl, w6⟩ := u8_nat w6
    obtain ⟨d7, rfl, w7⟩ := u8_nat w7
    refine ⟨⟨a, b, c, [d0, d1, d2, d3, d4, d5, d6, d7]⟩ :: xs, by rw [h1]; rfl, fun y hy => ?_⟩
    rcases List.mem_cons.1 hy with rfl | hy
    · exact ⟨rfl, by simp; omega⟩
    · exact h2 y hy
theorem plant_arg {W : World} {v : Value} (h : ArgR Tryz.prog W 26 v) : ∃ (p : Pl) (u : Value), v = .agg (p.c u).toArray ∧ Sl W.heap.size (St0 W) 7 u (smL p.xs) ∧ p.xs.length ≤ 2 ^ 63 - 1 ∧ -9223372036854775808 ≤ p.nm := by
  obtain ⟨l, rfl, h1, h2⟩ := arg_agg h flatPlant (by kernel_rfl)
  simp only [okCells] at h1
  obtain ⟨_, _, rfl, ha, x, _, rfl, hx, h1⟩ := h1
  simp only [okCell] at ha h1
  obtain ⟨a, rfl, wa⟩ := ha
  obtain ⟨_, _, rfl, ⟨b, rfl, wb⟩, _, _, rfl, ⟨c, rfl, wc⟩, _, _, rfl, ⟨d, rfl, wd⟩, _, _, rfl, ⟨e, rfl, we⟩, _, _, rfl, ⟨f, rfl, wf⟩, _, _, rfl, ⟨g, rfl, wg⟩, _, _, rfl, ⟨i, rfl, wi⟩, _, _, rfl, ⟨j, rfl, wj⟩, rfl⟩ := h1
  obtain ⟨Ls, hs, hok, hmax, -⟩ := sl_arg hx (h2 x (by simp)) (by simp) (by rfl)
  obtain ⟨xs, rfl⟩ := sm38_list hok
  refine ⟨⟨a, b, c, d, e, f, g, i, j, xs⟩, x, rfl, hs, by rw [smL_len] at hmax; exact hmax, (wf_int wd).1⟩
theorem acts_arg {W : World} {v : Value} (h : ArgR Tryz.prog W 27 v) : ∃ l : List Ac, Sl W.heap.size (St0 W) 11 v (acL l) ∧ l.length ≤ 2 ^ 63 - 1 ∧ ∀ a ∈ l, a.good := by
  obtain ⟨f1, f2⟩ := arg_one h flatActs (by kernel_rfl)
  obtain ⟨Ls, hs, hok, hmax, hold⟩ := sl_arg f1 f2 (by simp) (by rfl)
  obtain ⟨l, rfl, hg⟩ := ac38_list hok
  exact ⟨l, hs, by rw [acL_len] at hmax; exact hmax, hg⟩
end Go.Proofs.YthjpfllmecpliaaGreatDoor
/- Networks that are the same (the document of the package script): as a contract. -/
set_option linter.all false
set_option maxRecDepth 20000
namespace Go.Proofs.YthjpfllmecpliaaGreatDoor
open Go Go.Ab
def spBScrSame := And.intro @Nat.le_refl (And.intro @true_and (And.intro @and_true (And.intro @Nat.add_zero (And.intro @Nat.zero_add (And.intro @Bool.not_true (And.intro @Bool.not_false (And.intro @ne_eq.{1} (And.intro @not_false_eq_true (And.intro @not_true_eq_false (And.intro @decide_true (And.intro @decide_false (@Int.fdiv_eq_ediv_of_nonneg))))))))))))
def nxBScrSame := And.intro @Ab.next_alloc (And.intro @Ab.next_upd (And.intro @List.length_cons.{0} (And.intro @List.length_nil.{0} (And.intro @ne_eq.{1} (And.intro not_true_eq_false not_false_eq_true)))))
def tyB0ScrSame := And.intro @Ty.t58 (And.intro @Tryz.underlying58 (And.intro @Ty.t22 (And.intro @Tryz.underlying22 (And.intro @Ty.t56 (And.intro @Tryz.underlying56 (And.intro @Ty.t26 (And.intro @Tryz.underlying26 (And.intro @Ty.t24 (And.intro @Tryz.underlying24 (And.intro @Ty.t3 (And.intro @Tryz.underlying3 (And.intro @Ty.t2 (And.intro @Tryz.underlying2 (And.intro @Ty.t4 (And.intro @Tryz.underlying4 (And.intro @Ty.t35 @Tryz.underlying35))))))))))))))))
def stBScrSame := And.intro @List.size_toArray.{0} (And.intro @List.length_cons.{0} (And.intro @List.length_nil.{0} (And.intro @List.set_cons_zero.{0} (And.intro @List.set_cons_succ.{0} (And.intro @List.getD_cons_zero.{0} (And.intro @List.getD_cons_succ.{0} (And.intro @List.getElem?_cons_succ.{0} (And.intro @List.getElem?_cons_zero.{0} (And.intro @List.map_cons.{0,0} (And.intro @List.map_nil.{0,0} (And.intro @Option.isNone_none.{0} (And.intro @Option.isNone_some.{0} (And.intro @Option.map_some.{0,0} (And.intro @Option.map_none.{0,0} (And.intro @List.cons_append.{0} (And.intro @List.nil_append.{0} (And.intro @List.append_nil.{0} (And.intro @Array.toList_append.{0} (And.intro @List.toList_toArray.{0} (And.intro @Int.cast_ofNat_Int (And.intro @Option.isSome_some.{0} (And.intro @List.getElem?_toArray.{0} (And.intro @List.map_toArray.{0,0} (@Nat.min_eq_left))))))))))))))))))))))))
variable {base : Nat} [Bok base] {s : St} {R : Value → St → Prop}
theorem same25_ok {v w : Value} {xs : List Sm} (hs : Sl base s 7 v (smL xs)) (hs' : Sl base s 7 w (smL xs)) (hn : xs.length ≤ 100000) (hR : R (.bool true) s) :
    WC Tryz.prog base 33 [v, w] s R := by
  refine WC_open Tryz.func33 rfl ?_
  have hlen := hs.len (P := Tryz.prog) (ts := []) Ty.elem22 Ty.arr22
  have hlen' := hs'.len (P := Tryz.prog) (ts := []) Ty.elem22 Ty.arr22
  rw [smL_len] at hlen hlen'
  simp (disch := first | omega | ((simp only [nxBScrSame]) <;> omega) | decide) only [↓stepPre, stepPost, ↓W_cond, ↓W_block, ↓reduceIte, Nat.reduceEqDiff, Nat.reduceLT, Nat.reduceLeDiff, ret0, stVar, isTup, Value.cells, Nat.reduceAdd, Nat.reduceMul, Nat.reduceSub, env0, binV, intV, reduceCtorEq, pickV, nilCheckV, ptrV, unV, Rt, resultsV, allV, resV, calleeV, builtinV, eqV, fieldAddrV, ldVar, stN_own, stN_ownL, Int.reduceToNat, Int.reducePow, IntKind.bits, convV, Int.reduceNeg, Int.reduceAdd, Int.reduceSub, Int.reduceLT, Int.reduceLE, extractV, Int.reduceEq, mkFuncV, stBScrSame, spBScrSame, beq_self_eq_true, tyB0ScrSame, hlen, hlen', eq_self]
  refine W_loop_ind xs.length (fun i e t => t = s ∧ e 0 = v ∧ e 1 = w ∧ e 5 = .int .i64 (i : Int)) ?_ ⟨rfl, rfl, rfl, rfl⟩
  rintro i e _ hi ⟨rfl, h0, h1, h5⟩
  by_cases hil : i < xs.length
  rotate_left
  · have g1 : ¬ (i : Int) < (xs.length : Int) := by omega
    simp (disch := first | omega | ((simp only [nxBScrSame]) <;> omega) | decide) only [↓stepPre, stepPost, ↓W_cond, ↓W_block, ↓reduceIte, Nat.reduceEqDiff, Nat.reduceLT, Nat.reduceLeDiff, ret0, stVar, isTup, Value.cells, Nat.reduceAdd, Nat.reduceMul, Nat.reduceSub, env0, binV, intV, reduceCtorEq, pickV, nilCheckV, ptrV, unV, Rt, resultsV, allV, resV, calleeV, builtinV, eqV, fieldAddrV, ldVar, stN_own, stN_ownL, Int.reduceToNat, Int.reducePow, IntKind.bits, convV, Int.reduceNeg, Int.reduceAdd, Int.reduceSub, Int.reduceLT, Int.reduceLE, extractV, Int.reduceEq, mkFuncV, stBScrSame, spBScrSame, beq_self_eq_true, tyB0ScrSame, h0, h1, h5, hlen, g1, Tryz.results33]
    exact hR
  have g1 : (i : Int) < (xs.length : Int) := by omega
  have hix := hs.index (P := Tryz.prog) (k := .i64) (i := (i : Int)) Ty.elem22 Ty.siz58 (by omega) (by rw [smL_len]; omega)
  have hix' := hs'.index (P := Tryz.prog) (k := .i64) (i := (i : Int)) Ty.elem22 Ty.siz58 (by omega) (by rw [smL_len]; omega)
  rw [Int.toNat_natCast] at hix hix'
  have hld := hs.loadA (smL_at hil) Ty.agg58 Ty.siz58
  have hld' := hs'.loadA (smL_at hil) Ty.agg58 Ty.siz58
  have heq := eqV_same (P := Tryz.prog) (t := 58) (l := xs[i].c) Ty.kd58 Ty.eqg58 Ty.agg58 rfl
  simp (disch := first | omega | ((simp only [nxBScrSame]) <;> omega) | decide) only [↓stepPre, stepPost, ↓W_cond, ↓W_block, ↓reduceIte, Nat.reduceEqDiff, Nat.reduceLT, Nat.reduceLeDiff, ret0, stVar, isTup, Value.cells, Nat.reduceAdd, Nat.reduceMul, Nat.reduceSub, env0, binV, intV, reduceCtorEq, pickV, nilCheckV, ptrV, unV, Rt, resultsV, allV, resV, calleeV, builtinV, eqV, fieldAddrV, ldVar, stN_own, stN_ownL, Int.reduceToNat, Int.reducePow, IntKind.bits, convV, Int.reduceNeg, Int.reduceAdd, Int.reduceSub, Int.reduceLT, Int.reduceLE, extractV, Int.reduceEq, mkFuncV, stBScrSame, spBScrSame, beq_self_eq_true, tyB0ScrSame, h0, h1, h5, hlen, g1]
  refine W_draw (fun _ => false) (fun _ => false) (fun _ => false) (by kernel_rfl) (by kernel_rfl) ?_
  simp (disch := first | omega | ((simp only [nxBScrSame]) <;> omega) | decide) only [↓stepPre, stepPost, ↓W_cond, ↓W_block, ↓reduceIte, Nat.reduceEqDiff, Nat.reduceLT, Nat.reduceLeDiff, ret0, stVar, isTup, Value.cells, Nat.reduceAdd, Nat.reduceMul, Nat.reduceSub, env0, binV, intV, reduceCtorEq, pickV, nilCheckV, ptrV, unV, Rt, resultsV, allV, resV, calleeV, builtinV, eqV, fieldAddrV, ldVar, stN_own, stN_ownL, Int.reduceToNat, Int.reducePow, IntKind.bits, convV, Int.reduceNeg, Int.reduceAdd, Int.reduceSub, Int.reduceLT, Int.reduceLE, extractV, Int.reduceEq, mkFuncV, stBScrSame, spBScrSame, beq_self_eq_true, -eqV, tyB0ScrSame, h0, h1, h5, hix, hix', hld, hld', heq]
  exact ⟨hil, by simp⟩
theorem same38_ok {v w : Value} {p : Pl} (hs : Sl base s 7 v (smL p.xs)) (hs' : Sl base s 7 w (smL p.xs)) (hn : p.xs.length ≤ 100000) (hbn : base ≤ s.next) (hR : ∀ s', Mild s s' → R (.bool true) s') :
    WC Tryz.prog base 13 [.agg (p.c v).toArray, .agg (p.c w).toArray] s R := by
  refine WC_open Tryz.func13 rfl ?_
  have heq := eqV_same (P := Tryz.prog) (t := 24) (l := [.int .i64 p.nm, .int .i64 p.dr]) Ty.kd24 Ty.eqg24 Ty.agg24 rfl
  have m0 : Mild s ((s.alloc (.row (p.c v))).alloc (.row (p.c w))) := (Mild.alloc s _).alloc'
  have c0 : ((s.alloc (.row (p.c v))).alloc (.row (p.c w))).heap s.next = .row (p.c v) := by rw [Ab.heap_alloc_ne _ _ (by simp only [Ab.next_alloc]; omega)]; exact Ab.heap_alloc_new _ _
  have c1 : ((s.alloc (.row (p.c v))).alloc (.row (p.c w))).heap (s.next + 1) = .row (p.c w) := Ab.heap_alloc_new (s.alloc _) _
  have n0 : ((s.alloc (.row (p.c v))).alloc (.row (p.c w))).next = s.next + 2 := rfl
  simp (disch := first | omega | ((simp only [nxBScrSame]) <;> omega) | decide) only [↓stepPre, stepPost, ↓W_cond, ↓W_block, ↓reduceIte, Nat.reduceEqDiff, Nat.reduceLT, Nat.reduceLeDiff, ret0, stVar, isTup, Value.cells, Nat.reduceAdd, Nat.reduceMul, Nat.reduceSub, env0, binV, intV, reduceCtorEq, pickV, nilCheckV, ptrV, unV, Rt, resultsV, allV, resV, calleeV, builtinV, eqV, fieldAddrV, ldVar, stN_own, stN_ownL, Int.reduceToNat, Int.reducePow, IntKind.bits, convV, Int.reduceNeg, Int.reduceAdd, Int.reduceSub, Int.reduceLT, Int.reduceLE, extractV, Int.reduceEq, mkFuncV, stBScrSame, spBScrSame, beq_self_eq_true, tyB0ScrSame, getL_take, List.drop_zero, List.drop_succ_cons, List.take_succ_cons, List.take_zero, List.take_nil]
  generalize (s.alloc (.row (p.c v))).alloc (.row (p.c w)) = s1 at m0 c0 c1 n0 ⊢
  refine same25_ok (hs.mild m0) (hs'.mild m0) hn ?_
  simp (disch := first | omega | ((simp only [nxBScrSame]) <;> omega) | decide) only [↓stepPre, stepPost, ↓W_cond, ↓W_block, ↓reduceIte, Nat.reduceEqDiff, Nat.reduceLT, Nat.reduceLeDiff, ret0, stVar, isTup, Value.cells, Nat.reduceAdd, Nat.reduceMul, Nat.reduceSub, env0, binV, intV, reduceCtorEq, pickV, nilCheckV, ptrV, unV, Rt, resultsV, allV, resV, calleeV, builtinV, eqV, fieldAddrV, ldVar, stN_own, stN_ownL, Int.reduceToNat, Int.reducePow, IntKind.bits, convV, Int.reduceNeg, Int.reduceAdd, Int.reduceSub, Int.reduceLT, Int.reduceLE, extractV, Int.reduceEq, mkFuncV, stBScrSame, spBScrSame, beq_self_eq_true, -eqV, tyB0ScrSame, getL_take, List.drop_zero, List.drop_succ_cons, List.take_succ_cons, List.take_zero, List.take_nil, Dok_same, c0, c1, eq_self, heq, Tryz.results13]
  exact hR _ m0
end Go.Proofs.YthjpfllmecpliaaGreatDoor
/- A word as a number (the package script): as a contract. -/
set_option linter.all false
set_option maxRecDepth 20000
namespace Go.Proofs.YthjpfllmecpliaaGreatDoor
open Go Go.Ab
def spBScrNum := And.intro @Nat.le_refl (And.intro @true_and (And.intro @and_true (And.intro @Nat.add_zero (And.intro @Nat.zero_add (And.intro @Bool.not_true (And.intro @Bool.not_false (And.intro @ne_eq.{1} (And.intro @not_false_eq_true (And.intro @not_true_eq_false (And.intro @decide_true (And.intro @decide_false (@Int.fdiv_eq_ediv_of_nonneg))))))))))))
def nxBScrNum := And.intro @Ab.next_alloc (And.intro @Ab.next_upd (And.intro @List.length_cons.{0} (And.intro @List.length_nil.{0} (And.intro @ne_eq.{1} (And.intro not_true_eq_false not_false_eq_true)))))
def tyB0ScrNum := And.intro @Ty.t9 (And.intro @Tryz.underlying9 (And.intro @Ty.t5 (And.intro @Tryz.underlying5 (And.intro @Ty.t2 (And.intro @Tryz.underlying2 (And.intro @Ty.t3 (And.intro @Tryz.underlying3 (And.intro @Ty.t4 @Tryz.underlying4))))))))
def stBScrNum := And.intro @List.size_toArray.{0} (And.intro @List.length_cons.{0} (And.intro @List.length_nil.{0} (And.intro @List.set_cons_zero.{0} (And.intro @List.set_cons_succ.{0} (And.intro @List.getD_cons_zero.{0} (And.intro @List.getD_cons_succ.{0} (And.intro @List.getElem?_cons_succ.{0} (And.intro @List.getElem?_cons_zero.{0} (And.intro @List.map_cons.{0,0} (And.intro @List.map_nil.{0,0} (And.intro @Option.isNone_none.{0} (And.intro @Option.isNone_some.{0} (And.intro @Option.map_some.{0,0} (And.intro @Option.map_none.{0,0} (And.intro @List.cons_append.{0} (And.intro @List.nil_append.{0} (And.intro @List.append_nil.{0} (And.intro @Array.toList_append.{0} (And.intro @List.toList_toArray.{0} (And.intro @Int.cast_ofNat_Int (And.intro @Option.isSome_some.{0} (And.intro @List.getElem?_toArray.{0} (And.intro @List.map_toArray.{0,0} (@Nat.min_eq_left))))))))))))))))))))))))
def glBScrNum := And.intro @List.drop_zero.{0} (And.intro @List.drop_succ_cons.{0} (And.intro @List.take_succ_cons.{0} (And.intro @List.take_zero.{0} (@List.take_nil.{0}))))
variable {base : Nat} [Bok base] {s : St} {R : Value → St → Prop}
theorem body_indexB : ∃ fn c, Tryz.prog.funcs[78]? = some fn ∧ fn.body = some c ∧ fn.name ≠ "runtime.NumGoroutine" := by
  refine ⟨_, _, Tryz.func78, rfl, ?_⟩
  decide
theorem indexB_p {a : List UInt8} {c : Nat} (hR : R (.int .i64 (Lib.indexByte a c.toUInt8)) s) :
    WC Tryz.prog base 78 [.string (strB a), .int .u8 (c : Int)] s R := by
  refine ⟨_, _, given_ev body_indexB rfl rfl (fun w hw => ?_), hR⟩
  have := Tryz.strings_IndexByte (strB a) (c : Int) w
  intro cs
  obtain ⟨e, w', fr, ⟨h1, h2⟩, rest⟩ := this cs
  exact ⟨e, w', fr, ⟨h1, 0, h2⟩, rest⟩
def isDig (c : UInt8) : Bool := decide (48 ≤ c.toNat) && decide (c.toNat ≤ 57)
theorem index_dig (c : UInt8) : Lib.indexByte (hxD.take 10) c.toNat.toUInt8 = if isDig c = true then ((c.toNat - 48 : Nat) : Int) else -1 := by
  have : ∀ k : Fin 256, Lib.indexByte (hxD.take 10) k.val.toUInt8 = if isDig k.val.toUInt8 = true then ((k.val.toUInt8.toNat - 48 : Nat) : Int) else -1 := by decide
  have h := this ⟨c.toNat, c.toNat_lt⟩
  simp only at h
  have e : c.toNat.toUInt8 = c := by simp
  rw [e] at h ⊢
  exact h
def valL (w : List UInt8) : Nat := w.foldl (fun n c => n * 10 + (c.toNat - 48)) 0
theorem valL_snoc (w : List UInt8) (c : UInt8) : valL (w ++ [c]) = valL w * 10 + (c.toNat - 48) := by simp [valL]
theorem valL_le : ∀ (b a : List UInt8), valL a ≤ valL (a ++ b) := by
  intro b
  induction b with
  | nil => intro a; simp
  | cons c b ih =>
    intro a
    have h1 := ih (a ++ [c])
    rw [valL_snoc, List.append_assoc, List.singleton_append] at h1
    omega
theorem valL_take (w : List UInt8) (i : Nat) : valL (w.take i) ≤ valL w := by
  have := valL_le (w.drop i) (w.take i)
  rwa [List.take_append_drop] at this
theorem hxAt_dig {d : Nat} (h : d < 10) : isDig (hxAt d) = true ∧ (hxAt d).toNat - 48 = d := by
  have : ∀ i : Fin 10, isDig (hxAt i.val) = true ∧ (hxAt i.val).toNat - 48 = i.val := by decide
  exact this ⟨d, h⟩
theorem digL_dig : ∀ (n : Nat), ∀ c ∈ digL n, isDig c = true := by
  intro n
  induction n using Nat.strongRecOn with
  | ind n ih =>
    intro c hc
    by_cases h : n < 10
    · rw [digL_small h] at hc
      obtain rfl := List.mem_singleton.1 hc
      exact (hxAt_dig h).1
    · rw [digL_big h] at hc
      rcases List.mem_append.1 hc with hc | hc
      · exact ih (n / 10) (by omega) c hc
      · obtain rfl := List.mem_singleton.1 hc
        exact (hxAt_dig (by omega)).1
def isNum (w : List UInt8) : Bool := decide (valL w ≤ 2147483647) && decide (w = digL (valL w))
theorem isNum_on {w : List UInt8} (h : isNum w = true) : valL w ≤ 2147483647 ∧ w = digL (valL w) := by
  unfold isNum at h
  simpa only [Bool.and_eq_true, decide_eq_true_eq] using h
theorem num38_ok {w : List UInt8} (hw : w.length ≤ 1000000) (hR : ∀ n : Nat, n ≤ 2147483647 → (isNum w = true → n = valL w) → R (.tuple #[.int .i64 (n : Int), .bool (isNum w)]) s) :
    WC Tryz.prog base 93 [.string (strB w)] s R := by
  refine WC_open Tryz.func93 rfl ?_
  have hlen : ∀ ts, lenB Tryz.prog (9 :: ts) [.string (strB w)] = some (.int .i64 (w.length : Int)) := fun ts => lenStr Ty.str9 Ty.arr9
  simp (disch := first | omega | ((simp only [nxBScrNum]) <;> omega) | decide) only [↓stepPre, stepPost, ↓W_cond, ↓W_block, ↓reduceIte, Nat.reduceEqDiff, Nat.reduceLT, Nat.reduceLeDiff, ret0, stVar, isTup, Value.cells, Nat.reduceAdd, Nat.reduceMul, Nat.reduceSub, env0, binV, intV, reduceCtorEq, pickV, nilCheckV, ptrV, unV, Rt, resultsV, allV, resV, calleeV, builtinV, eqV, fieldAddrV, ldVar, stN_own, stN_ownL, Int.reduceToNat, Int.reducePow, IntKind.bits, convV, Int.reduceNeg, Int.reduceAdd, Int.reduceSub, Int.reduceLT, Int.reduceLE, extractV, Int.reduceEq, mkFuncV, stBScrNum, spBScrNum, beq_self_eq_true, tyB0ScrNum, getL_take, glBScrNum, hlen]
  refine W_loop_inv w.length (fun i e1 s1 => s1 = s ∧ e1 0 = .string (strB w) ∧ e1 4 = .int .i64 (valL (w.take i) : Int) ∧ e1 8 = .int .i64 (w.length : Int) ∧ e1 9 = .int .i64 (i : Int) ∧ valL (w.take i) ≤ 2147483647)
    (fun x e1 s1 => s1 = s ∧ ((x = .exit 0 ∧ e1 0 = .string (strB w) ∧ e1 4 = .int .i64 (valL w : Int) ∧ valL w ≤ 2147483647) ∨ (x = .ret ∧ e1 2 = .int .i64 0 ∧ e1 3 = .bool false ∧ isNum w = false))) ?_ ?_ ?_
  rotate_left
  · exact ⟨rfl, rfl, rfl, rfl, rfl, by simp [valL]⟩
  · rintro x e1 s1 ⟨rfl, ⟨rfl, h0, h4, hv⟩ | ⟨rfl, h2, h3, hb⟩⟩
    · simp (disch := first | omega | ((simp only [nxBScrNum]) <;> omega) | decide) only [↓stepPre, stepPost, ↓W_cond, ↓W_block, ↓reduceIte, Nat.reduceEqDiff, Nat.reduceLT, Nat.reduceLeDiff, ret0, stVar, isTup, Value.cells, Nat.reduceAdd, Nat.reduceMul, Nat.reduceSub, env0, binV, intV, reduceCtorEq, pickV, nilCheckV, ptrV, unV, Rt, resultsV, allV, resV, calleeV, builtinV, eqV, fieldAddrV, ldVar, stN_own, stN_ownL, Int.reduceToNat, Int.reducePow, IntKind.bits, convV, Int.reduceNeg, Int.reduceAdd, Int.reduceSub, Int.reduceLT, Int.reduceLE, extractV, Int.reduceEq, mkFuncV, stBScrNum, spBScrNum, beq_self_eq_true, tyB0ScrNum, getL_take, glBScrNum, h0, h4]
      refine digits_ok (by omega) ?_
      simp (disch := first | omega | ((simp only [nxBScrNum]) <;> omega) | decide) only [↓stepPre, stepPost, ↓W_cond, ↓W_block, ↓reduceIte, Nat.reduceEqDiff, Nat.reduceLT, Nat.reduceLeDiff, ret0, stVar, isTup, Value.cells, Nat.reduceAdd, Nat.reduceMul, Nat.reduceSub, env0, binV, intV, reduceCtorEq, pickV, nilCheckV, ptrV, unV, Rt, resultsV, allV, resV, calleeV, builtinV, eqV, fieldAddrV, ldVar, stN_own, stN_ownL, Int.reduceToNat, Int.reducePow, IntKind.bits, convV, Int.reduceNeg, Int.reduceAdd, Int.reduceSub, Int.reduceLT, Int.reduceLE, extractV, Int.reduceEq, mkFuncV, stBScrNum, spBScrNum, beq_self_eq_true, tyB0ScrNum, getL_take, glBScrNum, h0, h4, eqlStr, eqlStrV, Tryz.results93]
      have : isNum w = decide (w = digL (valL w)) := by unfold isNum; simp [hv]
      rw [← this]
      exact hR _ hv fun _ => rfl
    · simp (disch := first | omega | ((simp only [nxBScrNum]) <;> omega) | decide) only [↓stepPre, stepPost, ↓W_cond, ↓W_block, ↓reduceIte, Nat.reduceEqDiff, Nat.reduceLT, Nat.reduceLeDiff, ret0, stVar, isTup, Value.cells, Nat.reduceAdd, Nat.reduceMul, Nat.reduceSub, env0, binV, intV, reduceCtorEq, pickV, nilCheckV, ptrV, unV, Rt, resultsV, allV, resV, calleeV, builtinV, eqV, fieldAddrV, ldVar, stN_own, stN_ownL, Int.reduceToNat, Int.reducePow, IntKind.bits, convV, Int.reduceNeg, Int.reduceAdd, Int.reduceSub, Int.reduceLT, Int.reduceLE, extractV, Int.reduceEq, mkFuncV, stBScrNum, spBScrNum, beq_self_eq_true, tyB0ScrNum, getL_take, glBScrNum, h2, h3, Tryz.results93]
      have := hR 0 (by omega) (fun h => by rw [hb] at h; cases h)
      rw [hb] at this
      exact this
  rintro i e1 s1 hi ⟨rfl, h0, h4, h8, h9, hv⟩
  by_cases hil : i < w.length
  rotate_left
  · have g1 : ¬ (i : Int) < (w.length : Int) := by omega
    rw [List.take_of_length_le (by omega)] at h4 hv
    simp (disch := first | omega | ((simp only [nxBScrNum]) <;> omega) | decide) only [↓stepPre, stepPost, ↓W_cond, ↓W_block, ↓reduceIte, Nat.reduceEqDiff, Nat.reduceLT, Nat.reduceLeDiff, ret0, stVar, isTup, Value.cells, Nat.reduceAdd, Nat.reduceMul, Nat.reduceSub, env0, binV, intV, reduceCtorEq, pickV, nilCheckV, ptrV, unV, Rt, resultsV, allV, resV, calleeV, builtinV, eqV, fieldAddrV, ldVar, stN_own, stN_ownL, Int.reduceToNat, Int.reducePow, IntKind.bits, convV, Int.reduceNeg, Int.reduceAdd, Int.reduceSub, Int.reduceLT, Int.reduceLE, extractV, Int.reduceEq, mkFuncV, stBScrNum, spBScrNum, beq_self_eq_true, tyB0ScrNum, getL_take, glBScrNum, h0, h4, h8, h9, g1]
    exact .inl hv
  have g1 : (i : Int) < (w.length : Int) := by omega
  have hsl : ∀ {s : St}, sliceV Tryz.prog s 9 (.string ⟨#[48, 49, 50, 51, 52, 53, 54, 55, 56, 57, 97, 98, 99, 100, 101, 102]⟩) none (some (.int .i64 10)) none = some (.string (strB (hxD.take 10))) := fun {s} => slcStrHi (l := hxD) Ty.str9 (by omega) (by simp [hxD])
  have hix := idxStr (P := Tryz.prog) (l := w) (k := .i64) (i := (i : Int)) Ty.str9 (by omega) (by omega)
  rw [Int.toNat_natCast, List.getD_eq_getElem?_getD, List.getElem?_eq_getElem hil, Option.getD_some] at hix
  have htk : w.take (i + 1) = w.take i ++ [w[i]] := List.take_succ_eq_append_getElem hil
  have hval : valL (w.take (i + 1)) = valL (w.take i) * 10 + (w[i].toNat - 48) := by rw [htk, valL_snoc]
  have hle := valL_take w (i + 1)
  have hc := w[i].toNat_lt
  have hdg : isDig w[i] = true → 48 ≤ w[i].toNat ∧ w[i].toNat ≤ 57 := fun h => by unfold isDig at h; simpa using h
  have hbad : isDig w[i] = false → isNum w = false := fun h => by
    cases hn : isNum w with
    | false => rfl
    | true =>
      have := digL_dig (valL w) w[i] (by rw [← (isNum_on hn).2]; exact List.getElem_mem hil)
      rw [h] at this; cases this
  have hbig : 2147483647 < valL (w.take (i + 1)) → isNum w = false := fun h => by
    cases hn : isNum w with
    | false => rfl
    | true => have := (isNum_on hn).1; omega
  simp (disch := first | omega | ((simp only [nxBScrNum]) <;> omega) | decide) only [↓stepPre, stepPost, ↓W_cond, ↓W_block, ↓reduceIte, Nat.reduceEqDiff, Nat.reduceLT, Nat.reduceLeDiff, ret0, stVar, isTup, Value.cells, Nat.reduceAdd, Nat.reduceMul, Nat.reduceSub, env0, binV, intV, reduceCtorEq, pickV, nilCheckV, ptrV, unV, Rt, resultsV, allV, resV, calleeV, builtinV, eqV, fieldAddrV, ldVar, stN_own, stN_ownL, Int.reduceToNat, Int.reducePow, IntKind.bits, convV, Int.reduceNeg, Int.reduceAdd, Int.reduceSub, Int.reduceLT, Int.reduceLE, extractV, Int.reduceEq, mkFuncV, stBScrNum, spBScrNum, beq_self_eq_true, tyB0ScrNum, getL_take, glBScrNum, h0, h4, h8, h9, g1]
  refine W_draw (fun _ => false) (fun _ => false) (fun _ => false) (by kernel_rfl) (by kernel_rfl) ?_
  simp (disch := first | omega | ((simp only [nxBScrNum]) <;> omega) | decide) only [↓stepPre, stepPost, ↓W_cond, ↓W_block, ↓reduceIte, Nat.reduceEqDiff, Nat.reduceLT, Nat.reduceLeDiff, ret0, stVar, isTup, Value.cells, Nat.reduceAdd, Nat.reduceMul, Nat.reduceSub, env0, binV, intV, reduceCtorEq, pickV, nilCheckV, ptrV, unV, Rt, resultsV, allV, resV, calleeV, builtinV, eqV, fieldAddrV, ldVar, stN_own, stN_ownL, Int.reduceToNat, Int.reducePow, IntKind.bits, convV, Int.reduceNeg, Int.reduceAdd, Int.reduceSub, Int.reduceLT, Int.reduceLE, extractV, Int.reduceEq, mkFuncV, stBScrNum, spBScrNum, beq_self_eq_true, tyB0ScrNum, getL_take, glBScrNum, h0, h4, h8, h9, hsl, hix]
  refine indexB_p ?_
  rw [index_dig]
  cases hd : isDig w[i] with
  | false =>
    rw [if_neg (by decide)]
    have k1 : (-1 : Int) < 0 := by omega
    have := hbad hd
    simp (disch := first | omega | ((simp only [nxBScrNum]) <;> omega) | decide) only [↓stepPre, stepPost, ↓W_cond, ↓W_block, ↓reduceIte, Nat.reduceEqDiff, Nat.reduceLT, Nat.reduceLeDiff, ret0, stVar, isTup, Value.cells, Nat.reduceAdd, Nat.reduceMul, Nat.reduceSub, env0, binV, intV, reduceCtorEq, pickV, nilCheckV, ptrV, unV, Rt, resultsV, allV, resV, calleeV, builtinV, eqV, fieldAddrV, ldVar, stN_own, stN_ownL, Int.reduceToNat, Int.reducePow, IntKind.bits, convV, Int.reduceNeg, Int.reduceAdd, Int.reduceSub, Int.reduceLT, Int.reduceLE, extractV, Int.reduceEq, mkFuncV, stBScrNum, spBScrNum, beq_self_eq_true, tyB0ScrNum, getL_take, glBScrNum, Dok_same, h0, h4, h8, h9, k1]
    exact .inr this
  | true =>
    rw [if_pos rfl]
    have := hdg hd
    generalize hD : w[i].toNat - 48 = D at hval
    have hD9 : D ≤ 9 := by omega
    have k1 : ¬ (D : Int) < 0 := by omega
    by_cases k2 : 2147483647 < valL (w.take (i + 1))
    · have k3 : (valL (w.take i) : Int) * 10 + (D : Int) > 2147483647 := by omega
      have k3' : 2147483647 < (valL (w.take i) : Int) * 10 + (D : Int) := by omega
      have := hbig k2
      simp (disch := first | omega | ((simp only [nxBScrNum]) <;> omega) | decide) only [↓stepPre, stepPost, ↓W_cond, ↓W_block, ↓reduceIte, Nat.reduceEqDiff, Nat.reduceLT, Nat.reduceLeDiff, ret0, stVar, isTup, Value.cells, Nat.reduceAdd, Nat.reduceMul, Nat.reduceSub, env0, binV, intV, reduceCtorEq, pickV, nilCheckV, ptrV, unV, Rt, resultsV, allV, resV, calleeV, builtinV, eqV, fieldAddrV, ldVar, stN_own, stN_ownL, Int.reduceToNat, Int.reducePow, IntKind.bits, convV, Int.reduceNeg, Int.reduceAdd, Int.reduceSub, Int.reduceLT, Int.reduceLE, extractV, Int.reduceEq, mkFuncV, stBScrNum, spBScrNum, beq_self_eq_true, tyB0ScrNum, getL_take, glBScrNum, Dok_same, h0, h4, h8, h9, k1, k3, k3']
      exact .inr this
    · have k3 : ¬ (valL (w.take i) : Int) * 10 + (D : Int) > 2147483647 := by omega
      have k3' : ¬ 2147483647 < (valL (w.take i) : Int) * 10 + (D : Int) := by omega
      simp (disch := first | omega | ((simp only [nxBScrNum]) <;> omega) | decide) only [↓stepPre, stepPost, ↓W_cond, ↓W_block, ↓reduceIte, Nat.reduceEqDiff, Nat.reduceLT, Nat.reduceLeDiff, ret0, stVar, isTup, Value.cells, Nat.reduceAdd, Nat.reduceMul, Nat.reduceSub, env0, binV, intV, reduceCtorEq, pickV, nilCheckV, ptrV, unV, Rt, resultsV, allV, resV, calleeV, builtinV, eqV, fieldAddrV, ldVar, stN_own, stN_ownL, Int.reduceToNat, Int.reducePow, IntKind.bits, convV, Int.reduceNeg, Int.reduceAdd, Int.reduceSub, Int.reduceLT, Int.reduceLE, extractV, Int.reduceEq, mkFuncV, stBScrNum, spBScrNum, beq_self_eq_true, tyB0ScrNum, getL_take, glBScrNum, Dok_same, h0, h4, h8, h9, k1, k3, k3']
      exact ⟨hil, by rw [hval]; simp, by simp, by omega⟩
end Go.Proofs.YthjpfllmecpliaaGreatDoor
