/- Numbers read into places (the package script): as contracts. -/
import Derived.Test.YthjpfllmecpliaaDoorTypes
import Derived.Test.YthjpfllmecpliaaDoorRow0
import Derived.Test.YthjpfllmecpliaaDoorAbC
import Derived.Test.YthjpfllmecpliaaDoorPure
import Derived.Test.YthjpfllmecpliaaDoorBoxes
import Derived.Test.YthjpfllmecpliaaDoorScrRead
set_option linter.all false
set_option maxRecDepth 20000
namespace Go.Proofs.YthjpfllmecpliaaDoor
open Go Go.Ab
def nxBScrNums := And.intro @Ab.next_alloc (And.intro @Ab.next_upd (And.intro @List.length_cons.{0} (And.intro @List.length_nil.{0} (And.intro @ne_eq.{1} (And.intro not_true_eq_false not_false_eq_true)))))
def tyB0ScrNums := And.intro @Ty.t9 (And.intro @Tryd.underlying9 (And.intro @Ty.t52 (And.intro @Tryd.underlying52 (And.intro @Ty.t128 (And.intro @Tryd.underlying128 (And.intro @Ty.t118 (And.intro @Tryd.underlying118 (And.intro @Ty.t141 (And.intro @Tryd.underlying141 (And.intro @Ty.t144 (And.intro @Tryd.underlying144 (And.intro @Ty.t122 (And.intro @Tryd.underlying122 (And.intro @Ty.t124 (And.intro @Tryd.underlying124 (And.intro @Ty.t5 (And.intro @Tryd.underlying5 (And.intro @Ty.t2 (And.intro @Tryd.underlying2 (And.intro @Ty.t3 (And.intro @Tryd.underlying3 (And.intro @Ty.t4 @Tryd.underlying4))))))))))))))))))))))
def stBScrNums := And.intro @List.size_toArray.{0} (And.intro @List.length_cons.{0} (And.intro @List.length_nil.{0} (And.intro @List.set_cons_zero.{0} (And.intro @List.set_cons_succ.{0} (And.intro @List.getD_cons_zero.{0} (And.intro @List.getD_cons_succ.{0} (And.intro @List.getElem?_cons_succ.{0} (And.intro @List.getElem?_cons_zero.{0} (And.intro @List.map_cons.{0,0} (And.intro @List.map_nil.{0,0} (And.intro @Option.isNone_none.{0} (And.intro @Option.isNone_some.{0} (And.intro @Option.map_some.{0,0} (And.intro @Option.map_none.{0,0} (And.intro @List.cons_append.{0} (And.intro @List.nil_append.{0} (And.intro @List.append_nil.{0} (And.intro @Array.toList_append.{0} (And.intro @List.toList_toArray.{0} (And.intro @Int.cast_ofNat_Int (And.intro @Option.isSome_some.{0} (And.intro @List.getElem?_toArray.{0} (And.intro @List.map_toArray.{0,0} (@Nat.min_eq_left))))))))))))))))))))))))
def glBScrNums := And.intro @List.drop_zero.{0} (And.intro @List.drop_succ_cons.{0} (And.intro @List.take_succ_cons.{0} (And.intro @List.take_zero.{0} (@List.take_nil.{0}))))
variable {base : Nat} [Bok base] {s : St} {R : Value → St → Prop}
def okW (ws : List (List UInt8)) (i : Nat) : Bool := decide (i ≤ ws.length) && (ws.take i).all isNum
theorem isNum_nil : isNum [] = false := by decide
theorem okW_succ (ws : List (List UInt8)) (i : Nat) : okW ws (i + 1) = (okW ws i && isNum ((ws.drop i).headD [])) := by
  unfold okW
  by_cases h : i < ws.length
  · rw [List.take_succ_eq_append_getElem h, List.all_append, List.drop_eq_getElem_cons h]
    have : decide (i + 1 ≤ ws.length) = decide (i ≤ ws.length) := by simp; omega
    rw [this, List.headD_cons]; simp [Bool.and_assoc]
  · rw [List.drop_of_length_le (by omega), List.headD_nil, isNum_nil]
    simp; omega
def setAll : List Value → List Nat → List Nat → List Value
  | L, o :: os, n :: ns => setAll (L.set o (.int .i64 (n : Int))) os ns
  | L, _, _ => L
theorem setAll_snoc : ∀ (os ns : List Nat) (L : List Value) (o n : Nat), os.length = ns.length → setAll L (os ++ [o]) (ns ++ [n]) = (setAll L os ns).set o (.int .i64 (n : Int)) := by
  intro os
  induction os with
  | nil => intro ns L o n h; cases ns with
    | nil => rfl
    | cons => cases h
  | cons a os ih => intro ns L o n h; cases ns with
    | nil => cases h
    | cons m ns => exact ih ns _ o n (by simpa using h)
theorem setAll_len : ∀ (os ns : List Nat) (L : List Value), (setAll L os ns).length = L.length := by
  intro os
  induction os with
  | nil => intro ns L; cases ns <;> rfl
  | cons a os ih => intro ns L; cases ns with
    | nil => rfl
    | cons m ns => rw [setAll, ih]; simp
def ptrL (c : Nat) (offs : List Nat) : List (List Value) := offs.map fun o => [.pointer (some ⟨c, o, none⟩)]
theorem ptrL_len (c : Nat) (offs : List Nat) : (ptrL c offs).length = offs.length := by simp [ptrL]
theorem ptrL_at {c : Nat} {offs : List Nat} {i : Nat} (h : i < offs.length) : (ptrL c offs)[i]? = some [.pointer (some ⟨c, offs[i], none⟩)] := by simp [ptrL, h]
theorem headD_mem {ws : List (List UInt8)} (h : ∀ w ∈ ws, w.length ≤ 1000000) : (ws.headD []).length ≤ 1000000 := by
  cases ws with
  | nil => simp
  | cons w ws => exact h w (by simp)
theorem put1 {M : List Value} {o : Nat} {x : Value} (h : o < M.length) : putAt (.row M) o [x] = some (.row (M.set o x)) := by
  rw [putAt_row (by simp; omega)]; rfl
theorem read38_ok {lo hi b c : Nat} {ws : List (List UInt8)} {wr : Bool} {L : List Value} {offs : List Nat} {v : Value}
    (hr : Rd base lo hi s b ws wr) (hc : base ≤ c) (hcn : c < s.next) (hcF : c < lo ∨ hi ≤ c) (hL : s.heap c = .row L) (ho : ∀ o ∈ offs, o < L.length) (hlo : offs.length ≤ 1000000)
    (hto : Sl base s 1 v (ptrL c offs)) (hv : ∀ k, inB v k → k ≠ c ∧ (k < lo ∨ hi ≤ k))
    (hR : ∀ s' ns, s'.next = s.next → (∀ k, k ≠ b → k ≠ c → s'.heap k = s.heap k) → Rd base lo hi s' b (ws.drop offs.length) (wr || !okW ws offs.length) → s'.heap c = .row (setAll L offs ns) → ns.length = offs.length → (∀ n ∈ ns, n ≤ 2147483647) → (okW ws offs.length = true → ns = (ws.take offs.length).map valL) → R (.tuple #[]) s') :
    WC Tryd.prog base 66 [.pointer (some ⟨b, 0, none⟩), v] s R := by
  refine WC_open Tryd.func66 rfl ?_
  have hb2 : lo ≤ b ∧ b < hi ∧ base ≤ lo := by obtain ⟨v, h1, h2, h3, h4, h5, h6, h7, h8⟩ := hr; exact ⟨h4, h5, h3⟩
  have hbc : b ≠ c := by omega
  have hlen := hto.len (P := Tryd.prog) (ts := []) Ty.elem141 Ty.arr141
  rw [ptrL_len] at hlen
  simp (disch := first | omega | ((simp only [nxBScrNums]) <;> omega) | decide) only [↓stepPre, stepPost, ↓W_cond, ↓W_block, ↓reduceIte, Nat.reduceEqDiff, Nat.reduceLT, Nat.reduceLeDiff, ret0, stVar, isTup, Value.cells, Nat.le_refl, Nat.reduceAdd, Nat.reduceMul, Nat.reduceSub, env0, binV, intV, reduceCtorEq, pickV, nilCheckV, ptrV, unV, true_and, and_true, Nat.add_zero, Nat.zero_add, Rt, resultsV, allV, resV, Bool.not_true, Bool.not_false, calleeV, builtinV, eqV, fieldAddrV, ldVar, stN_own, stN_ownL, Int.fdiv_eq_ediv_of_nonneg, Int.reduceToNat, Int.reducePow, IntKind.bits, convV, ne_eq, not_false_eq_true, not_true_eq_false, Int.reduceNeg, Int.reduceAdd, Int.reduceSub, Int.reduceLT, Int.reduceLE, extractV, decide_true, decide_false, Int.reduceEq, mkFuncV, stBScrNums, beq_self_eq_true, tyB0ScrNums, getL_take, glBScrNums, hlen]
  refine W_loop_inv offs.length (fun i e1 t => ∃ ns, t.next = s.next ∧ (∀ k, k ≠ b → k ≠ c → t.heap k = s.heap k) ∧ Rd base lo hi t b (ws.drop i) (wr || !okW ws i) ∧ t.heap c = .row (setAll L (offs.take i) ns) ∧ ns.length = i ∧ (∀ n ∈ ns, n ≤ 2147483647) ∧ (okW ws i = true → ns = (ws.take i).map valL) ∧ e1 0 = .pointer (some ⟨b, 0, none⟩) ∧ e1 8 = v ∧ e1 9 = .int .i64 (offs.length : Int) ∧ e1 10 = .int .i64 (i : Int))
    (fun x e1 t => x = .exit 0 ∧ ∃ ns, t.next = s.next ∧ (∀ k, k ≠ b → k ≠ c → t.heap k = s.heap k) ∧ Rd base lo hi t b (ws.drop offs.length) (wr || !okW ws offs.length) ∧ t.heap c = .row (setAll L offs ns) ∧ ns.length = offs.length ∧ (∀ n ∈ ns, n ≤ 2147483647) ∧ (okW ws offs.length = true → ns = (ws.take offs.length).map valL)) ?_ ?_ ?_
  rotate_left
  · exact ⟨[], rfl, fun _ _ _ => rfl, by simpa [okW] using hr, by rw [hL]; rfl, rfl, by simp, fun _ => rfl, rfl, rfl, rfl, rfl⟩
  · rintro x e1 t ⟨rfl, ns, k1, k2, k3, k4, k5, k6, k7⟩
    simp (disch := first | omega | ((simp only [nxBScrNums]) <;> omega) | decide) only [↓stepPre, stepPost, ↓W_cond, ↓W_block, ↓reduceIte, Nat.reduceEqDiff, Nat.reduceLT, Nat.reduceLeDiff, ret0, stVar, isTup, Value.cells, Nat.le_refl, Nat.reduceAdd, Nat.reduceMul, Nat.reduceSub, env0, binV, intV, reduceCtorEq, pickV, nilCheckV, ptrV, unV, true_and, and_true, Nat.add_zero, Nat.zero_add, Rt, resultsV, allV, resV, Bool.not_true, Bool.not_false, calleeV, builtinV, eqV, fieldAddrV, ldVar, stN_own, stN_ownL, Int.fdiv_eq_ediv_of_nonneg, Int.reduceToNat, Int.reducePow, IntKind.bits, convV, ne_eq, not_false_eq_true, not_true_eq_false, Int.reduceNeg, Int.reduceAdd, Int.reduceSub, Int.reduceLT, Int.reduceLE, extractV, decide_true, decide_false, Int.reduceEq, mkFuncV, stBScrNums, beq_self_eq_true, tyB0ScrNums, getL_take, glBScrNums, Tryd.results66]
    exact hR t ns k1 k2 k3 k4 k5 k6 k7
  rintro i e1 t hi' ⟨ns, k1, k2, k3, k4, k5, k6, k7, q0, q8, q9, q10⟩
  by_cases hil : i < offs.length
  rotate_left
  · have g1 : ¬ (i : Int) < (offs.length : Int) := by omega
    obtain rfl : i = offs.length := by omega
    rw [List.take_length] at k4
    simp (disch := first | omega | ((simp only [nxBScrNums]) <;> omega) | decide) only [↓stepPre, stepPost, ↓W_cond, ↓W_block, ↓reduceIte, Nat.reduceEqDiff, Nat.reduceLT, Nat.reduceLeDiff, ret0, stVar, isTup, Value.cells, Nat.le_refl, Nat.reduceAdd, Nat.reduceMul, Nat.reduceSub, env0, binV, intV, reduceCtorEq, pickV, nilCheckV, ptrV, unV, true_and, and_true, Nat.add_zero, Nat.zero_add, Rt, resultsV, allV, resV, Bool.not_true, Bool.not_false, calleeV, builtinV, eqV, fieldAddrV, ldVar, stN_own, stN_ownL, Int.fdiv_eq_ediv_of_nonneg, Int.reduceToNat, Int.reducePow, IntKind.bits, convV, ne_eq, not_false_eq_true, not_true_eq_false, Int.reduceNeg, Int.reduceAdd, Int.reduceSub, Int.reduceLT, Int.reduceLE, extractV, decide_true, decide_false, Int.reduceEq, mkFuncV, stBScrNums, beq_self_eq_true, tyB0ScrNums, getL_take, glBScrNums, q0, q8, q9, q10, g1]
    exact ⟨ns, k1, k2, k3, k4, k5, k6, k7⟩
  have g1 : (i : Int) < (offs.length : Int) := by omega
  have hto' : Sl base t 1 v (ptrL c offs) := hto.frame (fun a n cc e => by subst e; have := hv a.block rfl; exact k2 _ (by omega) this.1) (by omega)
  have hix := hto'.index (P := Tryd.prog) (k := .i64) (i := (i : Int)) Ty.elem141 Ty.siz122 (by omega) (by rw [ptrL_len]; omega)
  rw [Int.toNat_natCast] at hix
  have hld := hto'.load1 (P := Tryd.prog) (ptrL_at hil) Ty.agg122 Ty.siz122
  have hoi := ho _ (List.getElem_mem hil)
  have htk : offs.take (i + 1) = offs.take i ++ [offs[i]] := List.take_succ_eq_append_getElem hil
  generalize offs[i] = o at hld hoi htk
  simp (disch := first | omega | ((simp only [nxBScrNums]) <;> omega) | decide) only [↓stepPre, stepPost, ↓W_cond, ↓W_block, ↓reduceIte, Nat.reduceEqDiff, Nat.reduceLT, Nat.reduceLeDiff, ret0, stVar, isTup, Value.cells, Nat.le_refl, Nat.reduceAdd, Nat.reduceMul, Nat.reduceSub, env0, binV, intV, reduceCtorEq, pickV, nilCheckV, ptrV, unV, true_and, and_true, Nat.add_zero, Nat.zero_add, Rt, resultsV, allV, resV, Bool.not_true, Bool.not_false, calleeV, builtinV, eqV, fieldAddrV, ldVar, stN_own, stN_ownL, Int.fdiv_eq_ediv_of_nonneg, Int.reduceToNat, Int.reducePow, IntKind.bits, convV, ne_eq, not_false_eq_true, not_true_eq_false, Int.reduceNeg, Int.reduceAdd, Int.reduceSub, Int.reduceLT, Int.reduceLE, extractV, decide_true, decide_false, Int.reduceEq, mkFuncV, stBScrNums, beq_self_eq_true, tyB0ScrNums, getL_take, glBScrNums, q0, q8, q9, q10, g1, hix, hld]
  have hwl := k3.choose_spec.2.2.2.2.2.2.2
  refine next38_ok k3 fun t1 n1 f1 r1 => ?_
  simp (disch := first | omega | ((simp only [nxBScrNums]) <;> omega) | decide) only [↓stepPre, stepPost, ↓W_cond, ↓W_block, ↓reduceIte, Nat.reduceEqDiff, Nat.reduceLT, Nat.reduceLeDiff, ret0, stVar, isTup, Value.cells, Nat.le_refl, Nat.reduceAdd, Nat.reduceMul, Nat.reduceSub, env0, binV, intV, reduceCtorEq, pickV, nilCheckV, ptrV, unV, true_and, and_true, Nat.add_zero, Nat.zero_add, Rt, resultsV, allV, resV, Bool.not_true, Bool.not_false, calleeV, builtinV, eqV, fieldAddrV, ldVar, stN_own, stN_ownL, Int.fdiv_eq_ediv_of_nonneg, Int.reduceToNat, Int.reducePow, IntKind.bits, convV, ne_eq, not_false_eq_true, not_true_eq_false, Int.reduceNeg, Int.reduceAdd, Int.reduceSub, Int.reduceLT, Int.reduceLE, extractV, decide_true, decide_false, Int.reduceEq, mkFuncV, stBScrNums, beq_self_eq_true, tyB0ScrNums, getL_take, glBScrNums]
  refine num38_ok (headD_mem hwl) fun n hn hnv => ?_
  obtain ⟨v', z1, z2, z3, z4, z5, z6, z7, z8⟩ := r1
  have hflag : ((wr || !okW ws i) || (ws.drop i).isEmpty || !isNum ((ws.drop i).headD [])) = (wr || !okW ws (i + 1)) := by
    rw [okW_succ]
    cases hd : ws.drop i with
    | nil => rw [List.headD_nil, isNum_nil]; simp
    | cons w r => cases wr <;> cases okW ws i <;> simp
  have hheap : t1.heap c = .row (setAll L (offs.take i) ns) := (f1 c (by omega)).trans k4
  have hput := put1 (M := setAll L (offs.take i) ns) (o := o) (x := .int .i64 (n : Int)) (by rw [setAll_len]; exact hoi)
  have hsn := setAll_snoc (offs.take i) ns L o n (by rw [List.length_take]; omega)
  rw [← htk] at hsn
  rw [← hsn] at hput
  have hval : okW ws (i + 1) = true → ns ++ [n] = (ws.take (i + 1)).map valL := fun h => by
    have h' := h
    rw [okW_succ, Bool.and_eq_true] at h
    unfold okW at h'
    simp only [Bool.and_eq_true, decide_eq_true_eq] at h'
    have hi2 : i < ws.length := by omega
    have e : (ws.drop i).headD [] = ws[i] := by rw [List.drop_eq_getElem_cons hi2]; rfl
    rw [k7 h.1, hnv h.2, e, List.take_succ_eq_append_getElem hi2]; simp only [List.map_append, List.map_cons, List.map_nil]
  have hall : ∀ x ∈ ns ++ [n], x ≤ 2147483647 := fun x hx => by
    rcases List.mem_append.1 hx with hx | hx
    · exact k6 x hx
    · obtain rfl := List.mem_singleton.1 hx; exact hn
  have fin : ∀ B, B = (wr || !okW ws (i + 1)) → ∀ t3, t3 = ((t1.upd b (.row [v', .bool B])).upd c (.row (setAll L (offs.take (i + 1)) (ns ++ [n])))) → t3.next = s.next ∧ (∀ k, k ≠ b → k ≠ c → t3.heap k = s.heap k) ∧ Rd base lo hi t3 b (ws.drop (i + 1)) (wr || !okW ws (i + 1)) ∧ t3.heap c = .row (setAll L (offs.take (i + 1)) (ns ++ [n])) := by
    rintro B rfl t3 rfl
    refine ⟨by show t1.next = _; omega, fun k hk1 hk2 => ?_, ⟨v', ?_, ?_, z3, z4, z5, z6, z7, ?_⟩, Ab.heap_upd_same _ _ _⟩
    · rw [Ab.heap_upd_ne _ _ hk2, Ab.heap_upd_ne _ _ hk1, f1 k hk1, k2 k hk1 hk2]
    · rw [Ab.heap_upd_ne _ _ hbc, Ab.heap_upd_same]
    · rw [← List.tail_drop]
      refine z2.frame (fun a m cc e => ?_) (Nat.le_refl _)
      subst e
      have := z7 a.block rfl
      rw [Ab.heap_upd_ne _ _ (by omega), Ab.heap_upd_ne _ _ this.2.2]
    · rw [← List.tail_drop]; exact z8
  generalize ((wr || !okW ws i) || (ws.drop i).isEmpty) = B at z1 hflag
  generalize isNum ((ws.drop i).headD []) = N at hflag hnv
  have cne : c ≠ b := fun e => hbc e.symm
  cases B with
  | true =>
    obtain ⟨y1, y2, y3, y4⟩ := fin true (by rw [← hflag]; rfl) _ rfl
    simp (disch := first | omega | ((simp only [nxBScrNums]) <;> omega) | decide) only [↓stepPre, stepPost, ↓W_cond, ↓W_block, ↓reduceIte, Nat.reduceEqDiff, Nat.reduceLT, Nat.reduceLeDiff, ret0, stVar, isTup, Value.cells, Nat.le_refl, Nat.reduceAdd, Nat.reduceMul, Nat.reduceSub, env0, binV, intV, reduceCtorEq, pickV, nilCheckV, ptrV, unV, true_and, and_true, Nat.add_zero, Nat.zero_add, Rt, resultsV, allV, resV, Bool.not_true, Bool.not_false, calleeV, builtinV, eqV, fieldAddrV, ldVar, stN_own, stN_ownL, Int.fdiv_eq_ediv_of_nonneg, Int.reduceToNat, Int.reducePow, IntKind.bits, convV, ne_eq, not_false_eq_true, not_true_eq_false, Int.reduceNeg, Int.reduceAdd, Int.reduceSub, Int.reduceLT, Int.reduceLE, extractV, decide_true, decide_false, Int.reduceEq, mkFuncV, stBScrNums, beq_self_eq_true, tyB0ScrNums, getL_take, glBScrNums, q0, q8, q9, q10, z1, hheap, hput, putAt_row, setL]
    exact ⟨hil, ns ++ [n], y1, y2, y3, rfl, by simp [k5], hall, hval, by simp⟩
  | false =>
    cases N with
    | true =>
      obtain ⟨y1, y2, y3, y4⟩ := fin false (by rw [← hflag]; rfl) _ rfl
      simp (disch := first | omega | ((simp only [nxBScrNums]) <;> omega) | decide) only [↓stepPre, stepPost, ↓W_cond, ↓W_block, ↓reduceIte, Nat.reduceEqDiff, Nat.reduceLT, Nat.reduceLeDiff, ret0, stVar, isTup, Value.cells, Nat.le_refl, Nat.reduceAdd, Nat.reduceMul, Nat.reduceSub, env0, binV, intV, reduceCtorEq, pickV, nilCheckV, ptrV, unV, true_and, and_true, Nat.add_zero, Nat.zero_add, Rt, resultsV, allV, resV, Bool.not_true, Bool.not_false, calleeV, builtinV, eqV, fieldAddrV, ldVar, stN_own, stN_ownL, Int.fdiv_eq_ediv_of_nonneg, Int.reduceToNat, Int.reducePow, IntKind.bits, convV, ne_eq, not_false_eq_true, not_true_eq_false, Int.reduceNeg, Int.reduceAdd, Int.reduceSub, Int.reduceLT, Int.reduceLE, extractV, decide_true, decide_false, Int.reduceEq, mkFuncV, stBScrNums, beq_self_eq_true, tyB0ScrNums, getL_take, glBScrNums, q0, q8, q9, q10, z1, hheap, hput, putAt_row, setL]
      exact ⟨hil, ns ++ [n], y1, y2, y3, rfl, by simp [k5], hall, hval, by simp⟩
    | false =>
      obtain ⟨y1, y2, y3, y4⟩ := fin true (by rw [← hflag]; rfl) _ rfl
      simp (disch := first | omega | ((simp only [nxBScrNums]) <;> omega) | decide) only [↓stepPre, stepPost, ↓W_cond, ↓W_block, ↓reduceIte, Nat.reduceEqDiff, Nat.reduceLT, Nat.reduceLeDiff, ret0, stVar, isTup, Value.cells, Nat.le_refl, Nat.reduceAdd, Nat.reduceMul, Nat.reduceSub, env0, binV, intV, reduceCtorEq, pickV, nilCheckV, ptrV, unV, true_and, and_true, Nat.add_zero, Nat.zero_add, Rt, resultsV, allV, resV, Bool.not_true, Bool.not_false, calleeV, builtinV, eqV, fieldAddrV, ldVar, stN_own, stN_ownL, Int.fdiv_eq_ediv_of_nonneg, Int.reduceToNat, Int.reducePow, IntKind.bits, convV, ne_eq, not_false_eq_true, not_true_eq_false, Int.reduceNeg, Int.reduceAdd, Int.reduceSub, Int.reduceLT, Int.reduceLE, extractV, decide_true, decide_false, Int.reduceEq, mkFuncV, stBScrNums, beq_self_eq_true, tyB0ScrNums, getL_take, glBScrNums, q0, q8, q9, q10, z1, hheap, hput, putAt_row, setL]
      exact ⟨hil, ns ++ [n], y1, y2, y3, rfl, by simp [k5], hall, hval, by simp⟩
theorem build1p {s : St} {a : Addr} : buildSliceV Tryd.prog s 141 1 [(0, .pointer (some a))] = some (.slice (some ⟨s.next, 0, none⟩) 1 1, s.alloc (.row [.pointer (some a)])) := by
  simp [buildSliceV, Ty.elem141, Ty.siz122, Ty.zer122, fillL, isTup, Value.cells, repL, setL]
theorem long38_ok {lo hi b c : Nat} {ws : List (List UInt8)} {wr : Bool} {L : List Value} {offs : List Nat} {v : Value}
    (hr : Rd base lo hi s b ws wr) (hc : base ≤ c) (hcn : c < s.next) (hcF : c < lo ∨ hi ≤ c) (hL : s.heap c = .row L) (ho : ∀ o ∈ offs, o < L.length) (hlo : offs.length ≤ 1000000)
    (hto : Sl base s 1 v (ptrL c offs)) (hv : ∀ k, inB v k → k ≠ c ∧ (k < lo ∨ hi ≤ k))
    (hR : ∀ s' ns, s.next ≤ s'.next → (∀ k, k < s.next → k ≠ b → k ≠ c → s'.heap k = s.heap k) → Rd base lo hi s' b (ws.drop offs.length) (wr || !okW ws offs.length) → s'.heap c = .row (setAll L offs ns) → ns.length = offs.length → (∀ n ∈ ns, n ≤ 2147483647) → (okW ws offs.length = true → ns = (ws.take offs.length).map valL) → R (.tuple #[]) s') :
    WC Tryd.prog base 67 [.pointer (some ⟨b, 0, none⟩), v] s R := by
  refine WC_open Tryd.func67 rfl ?_
  have hb2 : lo ≤ b ∧ b < hi ∧ base ≤ lo ∧ hi ≤ s.next := by obtain ⟨v, h1, h2, h3, h4, h5, h6, h7, h8⟩ := hr; exact ⟨h4, h5, h3, h6⟩
  have hbc : b ≠ c := by omega
  have hvn := hto.lt
  have hlen := hto.len (P := Tryd.prog) (ts := []) Ty.elem144 Ty.arr144
  rw [ptrL_len] at hlen
  simp (disch := first | omega | ((simp only [nxBScrNums]) <;> omega) | decide) only [↓stepPre, stepPost, ↓W_cond, ↓W_block, ↓reduceIte, Nat.reduceEqDiff, Nat.reduceLT, Nat.reduceLeDiff, ret0, stVar, isTup, Value.cells, Nat.le_refl, Nat.reduceAdd, Nat.reduceMul, Nat.reduceSub, env0, binV, intV, reduceCtorEq, pickV, nilCheckV, ptrV, unV, true_and, and_true, Nat.add_zero, Nat.zero_add, Rt, resultsV, allV, resV, Bool.not_true, Bool.not_false, calleeV, builtinV, eqV, fieldAddrV, ldVar, stN_own, stN_ownL, Int.fdiv_eq_ediv_of_nonneg, Int.reduceToNat, Int.reducePow, IntKind.bits, convV, ne_eq, not_false_eq_true, not_true_eq_false, Int.reduceNeg, Int.reduceAdd, Int.reduceSub, Int.reduceLT, Int.reduceLE, extractV, decide_true, decide_false, Int.reduceEq, mkFuncV, stBScrNums, beq_self_eq_true, tyB0ScrNums, getL_take, glBScrNums, hlen]
  refine W_loop_inv offs.length (fun i e1 t => ∃ ns, s.next ≤ t.next ∧ (∀ k, k < s.next → k ≠ b → k ≠ c → t.heap k = s.heap k) ∧ Rd base lo hi t b (ws.drop i) (wr || !okW ws i) ∧ t.heap c = .row (setAll L (offs.take i) ns) ∧ ns.length = i ∧ (∀ n ∈ ns, n ≤ 2147483647) ∧ (okW ws i = true → ns = (ws.take i).map valL) ∧ e1 0 = .pointer (some ⟨b, 0, none⟩) ∧ e1 7 = v ∧ e1 8 = .int .i64 (offs.length : Int) ∧ e1 9 = .int .i64 (i : Int))
    (fun x e1 t => x = .exit 0 ∧ ∃ ns, s.next ≤ t.next ∧ (∀ k, k < s.next → k ≠ b → k ≠ c → t.heap k = s.heap k) ∧ Rd base lo hi t b (ws.drop offs.length) (wr || !okW ws offs.length) ∧ t.heap c = .row (setAll L offs ns) ∧ ns.length = offs.length ∧ (∀ n ∈ ns, n ≤ 2147483647) ∧ (okW ws offs.length = true → ns = (ws.take offs.length).map valL)) ?_ ?_ ?_
  rotate_left
  · exact ⟨[], Nat.le_refl _, fun _ _ _ _ => rfl, by simpa [okW] using hr, by rw [hL]; rfl, rfl, by simp, fun _ => rfl, rfl, rfl, rfl, rfl⟩
  · rintro x e1 t ⟨rfl, ns, k1, k2, k3, k4, k5, k6, k7⟩
    simp (disch := first | omega | ((simp only [nxBScrNums]) <;> omega) | decide) only [↓stepPre, stepPost, ↓W_cond, ↓W_block, ↓reduceIte, Nat.reduceEqDiff, Nat.reduceLT, Nat.reduceLeDiff, ret0, stVar, isTup, Value.cells, Nat.le_refl, Nat.reduceAdd, Nat.reduceMul, Nat.reduceSub, env0, binV, intV, reduceCtorEq, pickV, nilCheckV, ptrV, unV, true_and, and_true, Nat.add_zero, Nat.zero_add, Rt, resultsV, allV, resV, Bool.not_true, Bool.not_false, calleeV, builtinV, eqV, fieldAddrV, ldVar, stN_own, stN_ownL, Int.fdiv_eq_ediv_of_nonneg, Int.reduceToNat, Int.reducePow, IntKind.bits, convV, ne_eq, not_false_eq_true, not_true_eq_false, Int.reduceNeg, Int.reduceAdd, Int.reduceSub, Int.reduceLT, Int.reduceLE, extractV, decide_true, decide_false, Int.reduceEq, mkFuncV, stBScrNums, beq_self_eq_true, tyB0ScrNums, getL_take, glBScrNums, Tryd.results67]
    exact hR t ns k1 k2 k3 k4 k5 k6 k7
  rintro i e1 t hi' ⟨ns, k1, k2, k3, k4, k5, k6, k7, q0, q7, q8, q9⟩
  by_cases hil : i < offs.length
  rotate_left
  · have g1 : ¬ (i : Int) < (offs.length : Int) := by omega
    obtain rfl : i = offs.length := by omega
    rw [List.take_length] at k4
    simp (disch := first | omega | ((simp only [nxBScrNums]) <;> omega) | decide) only [↓stepPre, stepPost, ↓W_cond, ↓W_block, ↓reduceIte, Nat.reduceEqDiff, Nat.reduceLT, Nat.reduceLeDiff, ret0, stVar, isTup, Value.cells, Nat.le_refl, Nat.reduceAdd, Nat.reduceMul, Nat.reduceSub, env0, binV, intV, reduceCtorEq, pickV, nilCheckV, ptrV, unV, true_and, and_true, Nat.add_zero, Nat.zero_add, Rt, resultsV, allV, resV, Bool.not_true, Bool.not_false, calleeV, builtinV, eqV, fieldAddrV, ldVar, stN_own, stN_ownL, Int.fdiv_eq_ediv_of_nonneg, Int.reduceToNat, Int.reducePow, IntKind.bits, convV, ne_eq, not_false_eq_true, not_true_eq_false, Int.reduceNeg, Int.reduceAdd, Int.reduceSub, Int.reduceLT, Int.reduceLE, extractV, decide_true, decide_false, Int.reduceEq, mkFuncV, stBScrNums, beq_self_eq_true, tyB0ScrNums, getL_take, glBScrNums, q0, q7, q8, q9, g1]
    exact ⟨ns, k1, k2, k3, k4, k5, k6, k7⟩
  have g1 : (i : Int) < (offs.length : Int) := by omega
  have hto' : Sl base t 1 v (ptrL c offs) := hto.frame (fun a n cc e => by subst e; have := hv a.block rfl; exact k2 _ (hvn a.block rfl) (by omega) this.1) (by omega)
  have hix := hto'.index (P := Tryd.prog) (k := .i64) (i := (i : Int)) Ty.elem144 Ty.siz124 (by omega) (by rw [ptrL_len]; omega)
  rw [Int.toNat_natCast] at hix
  have hld := hto'.load1 (P := Tryd.prog) (ptrL_at hil) Ty.agg124 Ty.siz124
  have hoi := ho _ (List.getElem_mem hil)
  have htk : offs.take (i + 1) = offs.take i ++ [offs[i]] := List.take_succ_eq_append_getElem hil
  generalize offs[i] = o at hld hoi htk
  simp (disch := first | omega | ((simp only [nxBScrNums]) <;> omega) | decide) only [↓stepPre, stepPost, ↓W_cond, ↓W_block, ↓reduceIte, Nat.reduceEqDiff, Nat.reduceLT, Nat.reduceLeDiff, ret0, stVar, isTup, Value.cells, Nat.le_refl, Nat.reduceAdd, Nat.reduceMul, Nat.reduceSub, env0, binV, intV, reduceCtorEq, pickV, nilCheckV, ptrV, unV, true_and, and_true, Nat.add_zero, Nat.zero_add, Rt, resultsV, allV, resV, Bool.not_true, Bool.not_false, calleeV, builtinV, eqV, fieldAddrV, ldVar, stN_own, stN_ownL, Int.fdiv_eq_ediv_of_nonneg, Int.reduceToNat, Int.reducePow, IntKind.bits, convV, ne_eq, not_false_eq_true, not_true_eq_false, Int.reduceNeg, Int.reduceAdd, Int.reduceSub, Int.reduceLT, Int.reduceLE, extractV, decide_true, decide_false, Int.reduceEq, mkFuncV, stBScrNums, beq_self_eq_true, tyB0ScrNums, getL_take, glBScrNums, q0, q7, q8, q9, g1, hix, hld, build1p]
  have k3' : Rd base lo hi ((t.alloc (.row [.int .i64 0])).alloc (.row [.pointer (some ⟨t.next, 0, none⟩)])) b (ws.drop i) (wr || !okW ws i) := k3.keep (fun k h1 h2 => by rw [Ab.heap_alloc_ne _ _ (by simp only [Ab.next_alloc]; omega), Ab.heap_alloc_ne _ _ (by omega)]) (by simp only [Ab.next_alloc]; omega)
  have hm0 : ((t.alloc (.row [.int .i64 0])).alloc (.row [.pointer (some ⟨t.next, 0, none⟩)])).heap t.next = .row [.int .i64 0] := by rw [Ab.heap_alloc_ne _ _ (by simp only [Ab.next_alloc]; omega)]; exact Ab.heap_alloc_new _ _
  have hp0 : Sl base ((t.alloc (.row [.int .i64 0])).alloc (.row [.pointer (some ⟨t.next, 0, none⟩)])) 1 (.slice (some ⟨t.next + 1, 0, none⟩) 1 1) (ptrL t.next [0]) := .newRow (Ab.heap_alloc_new _ _) rfl rfl (by simp [ptrL]) (by omega) (by simp only [Ab.next_alloc]; omega)
  have fr0 : ∀ k, k < t.next → ((t.alloc (.row [.int .i64 0])).alloc (.row [.pointer (some ⟨t.next, 0, none⟩)])).heap k = t.heap k := fun k hk => by rw [Ab.heap_alloc_ne _ _ (by simp only [Ab.next_alloc]; omega), Ab.heap_alloc_ne _ _ (by omega)]
  have nx0 : ((t.alloc (.row [.int .i64 0])).alloc (.row [.pointer (some ⟨t.next, 0, none⟩)])).next = t.next + 2 := rfl
  generalize (t.alloc (.row [.int .i64 0])).alloc (.row [.pointer (some ⟨t.next, 0, none⟩)]) = t0 at k3' hm0 hp0 fr0 nx0 ⊢
  refine read38_ok (offs := [0]) k3' (by omega) (by omega) (.inr (by omega)) hm0 (by simp) (by simp) hp0 (fun k hk => by simp only [inB] at hk; omega) fun t1 ms n1 f1 r1 h1 l1 b1 v1 => ?_
  obtain ⟨n, rfl⟩ : ∃ n, ms = [n] := by
    match ms, l1 with
    | [n], _ => exact ⟨n, rfl⟩
  have hn : n ≤ 2147483647 := b1 n (by simp)
  have h1 : t1.heap t.next = .row [.int .i64 (n : Int)] := h1
  have hN : okW (ws.drop i) 1 = isNum ((ws.drop i).headD []) := by rw [okW_succ]; simp [okW]
  have r1 : Rd base lo hi t1 b (ws.drop (i + 1)) (wr || !okW ws (i + 1)) := by
    have : (wr || !okW ws (i + 1)) = (wr || !okW ws i || !okW (ws.drop i) [0].length) := by
      show _ = (wr || !okW ws i || !okW (ws.drop i) 1)
      rw [hN, okW_succ]; cases wr <;> cases okW ws i <;> simp
    rw [this]
    have := r1
    rw [List.drop_drop] at this
    exact this
  have hheap : t1.heap c = .row (setAll L (offs.take i) ns) := by rw [f1 c (by omega) (by omega), fr0 c (by omega)]; exact k4
  have hput := put1 (M := setAll L (offs.take i) ns) (o := o) (x := .int .i64 (n : Int)) (by rw [setAll_len]; exact hoi)
  have hsn := setAll_snoc (offs.take i) ns L o n (by rw [List.length_take]; omega)
  rw [← htk] at hsn
  rw [← hsn] at hput
  have hval : okW ws (i + 1) = true → ns ++ [n] = (ws.take (i + 1)).map valL := fun h => by
    have h' := h
    rw [okW_succ, Bool.and_eq_true] at h
    unfold okW at h'
    simp only [Bool.and_eq_true, decide_eq_true_eq] at h'
    have hi2 : i < ws.length := by omega
    have e : ws.drop i = ws[i] :: ws.drop (i + 1) := List.drop_eq_getElem_cons hi2
    have hn2 := v1 (by show okW (ws.drop i) 1 = true; rw [hN]; exact h.2)
    rw [e] at hn2
    have hn2 : n = valL ws[i] := (List.cons.inj hn2).1
    rw [k7 h.1, hn2, List.take_succ_eq_append_getElem hi2]; simp only [List.map_append, List.map_cons, List.map_nil]
  have hall : ∀ x ∈ ns ++ [n], x ≤ 2147483647 := fun x hx => by
    rcases List.mem_append.1 hx with hx | hx
    · exact k6 x hx
    · obtain rfl := List.mem_singleton.1 hx; exact hn
  have r2 : Rd base lo hi (t1.upd c (.row (setAll L (offs.take (i + 1)) (ns ++ [n])))) b (ws.drop (i + 1)) (wr || !okW ws (i + 1)) := r1.keep (fun k hk1 hk2 => Ab.heap_upd_ne _ _ (by omega)) (Nat.le_refl _)
  simp (disch := first | omega | ((simp only [nxBScrNums]) <;> omega) | decide) only [↓stepPre, stepPost, ↓W_cond, ↓W_block, ↓reduceIte, Nat.reduceEqDiff, Nat.reduceLT, Nat.reduceLeDiff, ret0, stVar, isTup, Value.cells, Nat.le_refl, Nat.reduceAdd, Nat.reduceMul, Nat.reduceSub, env0, binV, intV, reduceCtorEq, pickV, nilCheckV, ptrV, unV, true_and, and_true, Nat.add_zero, Nat.zero_add, Rt, resultsV, allV, resV, Bool.not_true, Bool.not_false, calleeV, builtinV, eqV, fieldAddrV, ldVar, stN_own, stN_ownL, Int.fdiv_eq_ediv_of_nonneg, Int.reduceToNat, Int.reducePow, IntKind.bits, convV, ne_eq, not_false_eq_true, not_true_eq_false, Int.reduceNeg, Int.reduceAdd, Int.reduceSub, Int.reduceLT, Int.reduceLE, extractV, decide_true, decide_false, Int.reduceEq, mkFuncV, stBScrNums, beq_self_eq_true, tyB0ScrNums, getL_take, glBScrNums, q0, q7, q8, q9, h1, hheap, hput]
  exact ⟨hil, ns ++ [n], by omega, fun k a1 a2 a3 => by rw [Ab.heap_upd_ne _ _ a3, f1 k a2 (by omega), fr0 k (by omega)]; exact k2 k a1 a2 a3, r2, rfl, by simp [k5], hall, hval, by simp⟩
end Go.Proofs.YthjpfllmecpliaaDoor
