/- How many bits come within a span, and the steps; as contracts. -/
import Derived.Test.YtfdpegnbbphhhaaDoorTypes
import Derived.Test.YtfdpegnbbphhhaaDoorRow0
import Derived.Test.YtfdpegnbbphhhaaDoorAbC
import Derived.Test.YtfdpegnbbphhhaaDoorBits
import Derived.Test.YtfdpegnbbphhhaaDoorPure
import Derived.Test.YtfdpegnbbphhhaaDoorBoxes
import Derived.Test.YtfdpegnbbphhhaaDoorStreamJob
import Derived.Test.YtfdpegnbbphhhaaDoorStreamCheck
set_option linter.all false
set_option maxRecDepth 20000
namespace Go.Proofs.YtfdpegnbbphhhaaDoor
open Go Go.Ab
variable {base : Nat} [Bok base] {s : St} {R : Value → St → Prop}
def cdv (a p : Int) : Int := (a + p - 1) / p
theorem cdv_up {a p : Int} (ha : 0 ≤ a) (hp : 1 ≤ p) : cdv a p = a / p + if 0 < a % p then 1 else 0 := by
  unfold cdv
  have h := Int.mul_ediv_add_emod a p
  have h1 := Int.emod_nonneg a (show p ≠ 0 by omega)
  have h2 := Int.emod_lt_of_pos a (show 0 < p by omega)
  have e : a + p - 1 = (a % p + p - 1) + p * (a / p) := by omega
  rw [e, Int.add_mul_ediv_left _ _ (by omega)]
  split
  · have : (a % p + p - 1) / p = 1 := by
      rw [show a % p + p - 1 = (a % p - 1) + p * 1 by omega, Int.add_mul_ediv_left _ _ (by omega), Int.ediv_eq_zero_of_lt (by omega) (by omega)]; omega
    omega
  · have : (a % p + p - 1) / p = 0 := Int.ediv_eq_zero_of_lt (by omega) (by omega)
    omega
theorem cdv_in {a p : Int} (ha : 0 ≤ a) (hp : 1 ≤ p) : 0 ≤ cdv a p ∧ cdv a p ≤ a + 1 := by
  rw [cdv_up ha hp]
  have h1 : 0 ≤ a / p := Int.ediv_nonneg ha (by omega)
  have h2 : a / p ≤ a := Int.ediv_le_self _ ha
  split <;> omega
theorem cdv_mono {a b p : Int} (h : a ≤ b) (hp : 1 ≤ p) : cdv a p ≤ cdv b p := Int.ediv_le_ediv (by omega) (by omega)
theorem cdv_pos {a p : Int} (h : 1 ≤ a) (hp : 1 ≤ p) : 1 ≤ cdv a p := by
  have : cdv 1 p = 1 := by unfold cdv; rw [show 1 + p - 1 = p by omega]; exact Int.ediv_self (by omega)
  have := cdv_mono (p := p) h hp
  omega
def camN (xs : List Sm) (a : Int) : Int := (xs.map fun x => cdv a x.pe * x.cost).sum
def AllR (xs : List Sm) : Prop := ∀ x ∈ xs, x.right = 0
theorem allR_pe {xs : List Sm} (h : AllR xs) {x : Sm} (hx : x ∈ xs) : 1 ≤ x.pe ∧ x.pe ≤ 1073741824 := by
  have := (right_by (h x hx)).2.1; omega
theorem allR_cost {xs : List Sm} (h : AllR xs) {x : Sm} (hx : x ∈ xs) : 1 ≤ x.cost ∧ x.cost ≤ 1000 := by
  have h1 := (right_by (h x hx)).1
  have h2 := cost_lt x
  unfold Sm.cost at h2 ⊢
  rw [if_pos (h x hx)] at h2 ⊢
  unfold costN at h2 ⊢
  omega
theorem camN_in : ∀ {xs : List Sm}, AllR xs → ∀ {a : Int}, 0 ≤ a → 0 ≤ camN xs a ∧ camN xs a ≤ (xs.length : Int) * ((a + 1) * 1000) := by
  intro xs
  induction xs with
  | nil => intro _ a _; simp [camN]
  | cons x xs ih =>
    intro h a ha
    have h1 := ih (fun y hy => h y (by simp [hy])) ha
    have h2 := allR_pe h (x := x) (by simp)
    have h3 := allR_cost h (x := x) (by simp)
    have h4 := cdv_in ha h2.1
    have h5 : 0 ≤ cdv a x.pe * x.cost := Int.mul_nonneg h4.1 (by omega)
    have h6 : cdv a x.pe * x.cost ≤ (a + 1) * 1000 := Int.mul_le_mul h4.2 h3.2 (by omega) (by omega)
    have e : camN (x :: xs) a = cdv a x.pe * x.cost + camN xs a := by simp [camN]
    have e2 : ((x :: xs).length : Int) * ((a + 1) * 1000) = (xs.length : Int) * ((a + 1) * 1000) + (a + 1) * 1000 := by
      rw [List.length_cons, Int.natCast_add, Int.add_mul]; simp
    rw [e, e2]; omega
theorem camN_mono : ∀ {xs : List Sm}, AllR xs → ∀ {a b : Int}, a ≤ b → camN xs a ≤ camN xs b := by
  intro xs
  induction xs with
  | nil => intro _ a b _; simp [camN]
  | cons x xs ih =>
    intro h a b hab
    have h1 := ih (fun y hy => h y (by simp [hy])) hab
    have h2 := cdv_mono hab (allR_pe h (x := x) (by simp)).1
    have h3 := allR_cost h (x := x) (by simp)
    have h4 : cdv a x.pe * x.cost ≤ cdv b x.pe * x.cost := Int.mul_le_mul_of_nonneg_right h2 (by omega)
    simp only [camN, List.map_cons, List.sum_cons] at h1 ⊢
    omega
theorem camN_pos {xs : List Sm} (h : AllR xs) (h0 : xs ≠ []) {a : Int} (ha : 1 ≤ a) : 1 ≤ camN xs a := by
  cases xs with
  | nil => exact absurd rfl h0
  | cons x xs =>
    have h1 := (camN_in (xs := xs) (fun y hy => h y (by simp [hy])) (a := a) (by omega)).1
    have h2 := cdv_pos ha (allR_pe h (x := x) (by simp)).1
    have h3 := allR_cost h (x := x) (by simp)
    have h4 : 1 * 1 ≤ cdv a x.pe * x.cost := Int.mul_le_mul h2 h3.1 (by omega) (by omega)
    simp only [camN, List.map_cons, List.sum_cons] at h1 ⊢
    omega
theorem camN_snoc {xs : List Sm} {i : Nat} (h : i < xs.length) (a : Int) : camN (xs.take (i + 1)) a = camN (xs.take i) a + cdv a xs[i].pe * xs[i].cost := by
  unfold camN
  rw [List.take_succ_eq_append_getElem h, List.map_append, List.sum_append]
  simp only [List.map_cons, List.map_nil, List.sum_cons, List.sum_nil, Int.add_zero]
theorem allR_take {xs : List Sm} (h : AllR xs) (i : Nat) : AllR (xs.take i) := fun x hx => h x (List.mem_of_mem_take hx)
theorem term_in {xs : List Sm} (h : AllR xs) {i : Nat} (hi : i < xs.length) {a : Int} (ha : 0 ≤ a ∧ a ≤ 1099511627776) : 0 ≤ cdv a xs[i].pe * xs[i].cost ∧ cdv a xs[i].pe * xs[i].cost ≤ 1099511628777000 := by
  have h2 := allR_pe h (x := xs[i]) (List.getElem_mem hi)
  have h3 := allR_cost h (x := xs[i]) (List.getElem_mem hi)
  have h4 := cdv_in ha.1 h2.1
  have h5 : 0 ≤ cdv a xs[i].pe * xs[i].cost := Int.mul_nonneg h4.1 (by omega)
  have h6 : cdv a xs[i].pe * xs[i].cost ≤ (a + 1) * 1000 := Int.mul_le_mul h4.2 h3.2 (by omega) (by omega)
  omega
theorem camN_big {xs : List Sm} (h : AllR xs) (hn : xs.length ≤ 64) {a : Int} (ha : 0 ≤ a ∧ a ≤ 1099511627776) : 0 ≤ camN xs a ∧ camN xs a ≤ 70368744241728000 := by
  have h1 := camN_in h ha.1
  have h2 : (xs.length : Int) * ((a + 1) * 1000) ≤ 64 * ((a + 1) * 1000) := Int.mul_le_mul_of_nonneg_right (by omega) (by omega)
  omega
theorem came_ok {v : Value} {xs : List Sm} {a : Int} (hs : Sl base s 7 v (smL xs)) (h : AllR xs) (hn : xs.length ≤ 64) (ha : 0 ≤ a ∧ a ≤ 1099511627776) (hbn : base ≤ s.next) (hg : s.heap 0 = .row divC) (hR : ∀ s', Mild s s' → R (.int .i64 (camN xs a)) s') :
    WC Tryd.prog base 22 [v, .int .i64 a] s R := by
  refine WC_open Tryd.func22 rfl ?_
  have hb1 : 1 ≤ base := Bok.le (base := base)
  have hlen := hs.len (P := Tryd.prog) (ts := []) Ty.elem22 Ty.arr22
  rw [smL_len] at hlen
  simp (disch := first | omega | ((simp only [Ab.next_alloc, Ab.next_upd, List.length_cons, List.length_nil, ne_eq, not_true_eq_false, not_false_eq_true]) <;> omega) | decide) only [↓stepPre, stepPost, ↓W_cond, ↓W_block, ↓reduceIte, Nat.reduceEqDiff, Nat.reduceLT, Nat.reduceLeDiff, List.size_toArray, List.length_cons, List.length_nil, ret0, stVar, isTup, Value.cells, List.set_cons_zero, List.set_cons_succ, Nat.le_refl, Nat.reduceAdd, Nat.reduceMul, Nat.reduceSub, env0, List.getD_cons_zero, List.getD_cons_succ, binV, intV, reduceCtorEq, List.getElem?_cons_succ, List.getElem?_cons_zero, pickV, nilCheckV, ptrV, unV, true_and, and_true, List.map_cons, List.map_nil, Nat.add_zero, Nat.zero_add, Option.isNone_none, Option.isNone_some, Rt, resultsV, allV, resV, Bool.not_true, Bool.not_false, calleeV, builtinV, Option.map_some, Option.map_none, List.cons_append, List.nil_append, List.append_nil, Array.toList_append, List.toList_toArray, eqV, fieldAddrV, ldVar, stN_own, stN_ownL, Int.cast_ofNat_Int, Int.fdiv_eq_ediv_of_nonneg, Int.reduceToNat, Nat.min_eq_left, Int.reducePow, IntKind.bits, convV, ne_eq, not_false_eq_true, not_true_eq_false, Int.reduceNeg, Int.reduceAdd, Int.reduceSub, Int.reduceLT, Int.reduceLE, Option.isSome_some, extractV, decide_true, decide_false, Int.reduceEq, List.getElem?_toArray, mkFuncV, List.map_toArray, beq_self_eq_true, Ty.t30, Tryd.underlying30, Ty.t22, Tryd.underlying22, Ty.t3, Tryd.underlying3, Ty.t2, Tryd.underlying2, Ty.t4, Tryd.underlying4, Ty.t57, Tryd.underlying57, hlen]
  refine W_loop_ind xs.length (fun i e t => Mild s t ∧ e 1 = .int .i64 a ∧ e 5 = .int .i64 (camN (xs.take i) a) ∧ e 9 = v ∧ e 10 = .int .i64 (xs.length : Int) ∧ e 11 = .int .i64 (i : Int)) ?_ ⟨.refl _, rfl, rfl, rfl, rfl, rfl⟩
  rintro i e t hi ⟨m1, q1, q5, q9, q10, q11⟩
  have n1 := m1.next
  by_cases hil : i < xs.length
  rotate_left
  · have c1 : ¬ (i : Int) < (xs.length : Int) := by omega
    rw [List.take_of_length_le (by omega)] at q5
    simp (disch := first | omega | ((simp only [Ab.next_alloc, Ab.next_upd, List.length_cons, List.length_nil, ne_eq, not_true_eq_false, not_false_eq_true]) <;> omega) | decide) only [↓stepPre, stepPost, ↓W_cond, ↓W_block, ↓reduceIte, Nat.reduceEqDiff, Nat.reduceLT, Nat.reduceLeDiff, List.size_toArray, List.length_cons, List.length_nil, ret0, stVar, isTup, Value.cells, List.set_cons_zero, List.set_cons_succ, Nat.le_refl, Nat.reduceAdd, Nat.reduceMul, Nat.reduceSub, env0, List.getD_cons_zero, List.getD_cons_succ, binV, intV, reduceCtorEq, List.getElem?_cons_succ, List.getElem?_cons_zero, pickV, nilCheckV, ptrV, unV, true_and, and_true, List.map_cons, List.map_nil, Nat.add_zero, Nat.zero_add, Option.isNone_none, Option.isNone_some, Rt, resultsV, allV, resV, Bool.not_true, Bool.not_false, calleeV, builtinV, Option.map_some, Option.map_none, List.cons_append, List.nil_append, List.append_nil, Array.toList_append, List.toList_toArray, eqV, fieldAddrV, ldVar, stN_own, stN_ownL, Int.cast_ofNat_Int, Int.fdiv_eq_ediv_of_nonneg, Int.reduceToNat, Nat.min_eq_left, Int.reducePow, IntKind.bits, convV, ne_eq, not_false_eq_true, not_true_eq_false, Int.reduceNeg, Int.reduceAdd, Int.reduceSub, Int.reduceLT, Int.reduceLE, Option.isSome_some, extractV, decide_true, decide_false, Int.reduceEq, List.getElem?_toArray, mkFuncV, List.map_toArray, beq_self_eq_true, Ty.t30, Tryd.underlying30, Ty.t22, Tryd.underlying22, Ty.t3, Tryd.underlying3, Ty.t2, Tryd.underlying2, Ty.t4, Tryd.underlying4, Ty.t57, Tryd.underlying57, q1, q5, q9, q10, q11, c1, Tryd.results22]
    exact hR _ m1
  have c1 : (i : Int) < (xs.length : Int) := by omega
  have v2 := hs.mild m1
  have hix := v2.index (P := Tryd.prog) (k := .i64) (i := (i : Int)) Ty.elem22 Ty.siz30 (by omega) (by rw [smL_len]; omega)
  rw [Int.toNat_natCast] at hix
  have hld := v2.loadA (smL_at hil) Ty.agg30 Ty.siz30
  have hpe := allR_pe h (x := xs[i]) (List.getElem_mem hil)
  have hco := allR_cost h (x := xs[i]) (List.getElem_mem hil)
  have hp0 : ¬ xs[i].pe = 0 := by omega
  have hqu : IntKind.i64.wrap (a.tdiv xs[i].pe) = a / xs[i].pe := IntWalk.i64_quo _ _ (by omega)
  have hmo : a.tmod xs[i].pe = a % xs[i].pe := Int.tmod_eq_emod_of_nonneg ha.1
  have hup := cdv_up ha.1 hpe.1
  have hti := term_in h hil ha
  have hsum := camN_big (allR_take h i) (by simp; omega) ha
  have hq := cdv_in ha.1 hpe.1
  have hgt : (t.alloc (.row xs[i].c)).heap 0 = .row divC := by rw [Ab.heap_alloc_ne _ _ (by omega), m1.heap 0 (by omega)]; exact hg
  have hsn := camN_snoc hil a
  by_cases hr : 0 < a % xs[i].pe
  · rw [if_pos hr] at hup
    have hr' : a % xs[i].pe > 0 := hr
    have he : a / xs[i].pe + 1 = cdv a xs[i].pe := hup.symm
    simp (disch := first | omega | ((simp only [Ab.next_alloc, Ab.next_upd, List.length_cons, List.length_nil, ne_eq, not_true_eq_false, not_false_eq_true]) <;> omega) | decide) only [↓stepPre, stepPost, ↓W_cond, ↓W_block, ↓reduceIte, Nat.reduceEqDiff, Nat.reduceLT, Nat.reduceLeDiff, List.size_toArray, List.length_cons, List.length_nil, ret0, stVar, isTup, Value.cells, List.set_cons_zero, List.set_cons_succ, Nat.le_refl, Nat.reduceAdd, Nat.reduceMul, Nat.reduceSub, env0, List.getD_cons_zero, List.getD_cons_succ, binV, intV, reduceCtorEq, List.getElem?_cons_succ, List.getElem?_cons_zero, pickV, nilCheckV, ptrV, unV, true_and, and_true, List.map_cons, List.map_nil, Nat.add_zero, Nat.zero_add, Option.isNone_none, Option.isNone_some, Rt, resultsV, allV, resV, Bool.not_true, Bool.not_false, calleeV, builtinV, Option.map_some, Option.map_none, List.cons_append, List.nil_append, List.append_nil, Array.toList_append, List.toList_toArray, eqV, fieldAddrV, ldVar, stN_own, stN_ownL, Int.cast_ofNat_Int, Int.fdiv_eq_ediv_of_nonneg, Int.reduceToNat, Nat.min_eq_left, Int.reducePow, IntKind.bits, convV, ne_eq, not_false_eq_true, not_true_eq_false, Int.reduceNeg, Int.reduceAdd, Int.reduceSub, Int.reduceLT, Int.reduceLE, Option.isSome_some, extractV, decide_true, decide_false, Int.reduceEq, List.getElem?_toArray, mkFuncV, List.map_toArray, beq_self_eq_true, Ty.t30, Tryd.underlying30, Ty.t22, Tryd.underlying22, Ty.t3, Tryd.underlying3, Ty.t2, Tryd.underlying2, Ty.t4, Tryd.underlying4, Ty.t57, Tryd.underlying57, getL_take, List.drop_zero, List.drop_succ_cons, List.take_succ_cons, List.take_zero, List.take_nil, q1, q5, q9, q10, q11, c1, hix, hld, hp0, hqu, hmo, hr, hr', he]
    refine cost_p hgt ?_
    simp (disch := first | omega | ((simp only [Ab.next_alloc, Ab.next_upd, List.length_cons, List.length_nil, ne_eq, not_true_eq_false, not_false_eq_true]) <;> omega) | decide) only [↓stepPre, stepPost, ↓W_cond, ↓W_block, ↓reduceIte, Nat.reduceEqDiff, Nat.reduceLT, Nat.reduceLeDiff, List.size_toArray, List.length_cons, List.length_nil, ret0, stVar, isTup, Value.cells, List.set_cons_zero, List.set_cons_succ, Nat.le_refl, Nat.reduceAdd, Nat.reduceMul, Nat.reduceSub, env0, List.getD_cons_zero, List.getD_cons_succ, binV, intV, reduceCtorEq, List.getElem?_cons_succ, List.getElem?_cons_zero, pickV, nilCheckV, ptrV, unV, true_and, and_true, List.map_cons, List.map_nil, Nat.add_zero, Nat.zero_add, Option.isNone_none, Option.isNone_some, Rt, resultsV, allV, resV, Bool.not_true, Bool.not_false, calleeV, builtinV, Option.map_some, Option.map_none, List.cons_append, List.nil_append, List.append_nil, Array.toList_append, List.toList_toArray, eqV, fieldAddrV, ldVar, stN_own, stN_ownL, Int.cast_ofNat_Int, Int.fdiv_eq_ediv_of_nonneg, Int.reduceToNat, Nat.min_eq_left, Int.reducePow, IntKind.bits, convV, ne_eq, not_false_eq_true, not_true_eq_false, Int.reduceNeg, Int.reduceAdd, Int.reduceSub, Int.reduceLT, Int.reduceLE, Option.isSome_some, extractV, decide_true, decide_false, Int.reduceEq, List.getElem?_toArray, mkFuncV, List.map_toArray, beq_self_eq_true, Ty.t30, Tryd.underlying30, Ty.t22, Tryd.underlying22, Ty.t3, Tryd.underlying3, Ty.t2, Tryd.underlying2, Ty.t4, Tryd.underlying4, Ty.t57, Tryd.underlying57, getL_take, List.drop_zero, List.drop_succ_cons, List.take_succ_cons, List.take_zero, List.take_nil, q1, q5, q9, q10, q11]
    exact ⟨hil, m1.alloc', by rw [hsn], by simp⟩
  · rw [if_neg hr] at hup
    have hr' : ¬ a % xs[i].pe > 0 := hr
    have he : a / xs[i].pe = cdv a xs[i].pe := by omega
    simp (disch := first | omega | ((simp only [Ab.next_alloc, Ab.next_upd, List.length_cons, List.length_nil, ne_eq, not_true_eq_false, not_false_eq_true]) <;> omega) | decide) only [↓stepPre, stepPost, ↓W_cond, ↓W_block, ↓reduceIte, Nat.reduceEqDiff, Nat.reduceLT, Nat.reduceLeDiff, List.size_toArray, List.length_cons, List.length_nil, ret0, stVar, isTup, Value.cells, List.set_cons_zero, List.set_cons_succ, Nat.le_refl, Nat.reduceAdd, Nat.reduceMul, Nat.reduceSub, env0, List.getD_cons_zero, List.getD_cons_succ, binV, intV, reduceCtorEq, List.getElem?_cons_succ, List.getElem?_cons_zero, pickV, nilCheckV, ptrV, unV, true_and, and_true, List.map_cons, List.map_nil, Nat.add_zero, Nat.zero_add, Option.isNone_none, Option.isNone_some, Rt, resultsV, allV, resV, Bool.not_true, Bool.not_false, calleeV, builtinV, Option.map_some, Option.map_none, List.cons_append, List.nil_append, List.append_nil, Array.toList_append, List.toList_toArray, eqV, fieldAddrV, ldVar, stN_own, stN_ownL, Int.cast_ofNat_Int, Int.fdiv_eq_ediv_of_nonneg, Int.reduceToNat, Nat.min_eq_left, Int.reducePow, IntKind.bits, convV, ne_eq, not_false_eq_true, not_true_eq_false, Int.reduceNeg, Int.reduceAdd, Int.reduceSub, Int.reduceLT, Int.reduceLE, Option.isSome_some, extractV, decide_true, decide_false, Int.reduceEq, List.getElem?_toArray, mkFuncV, List.map_toArray, beq_self_eq_true, Ty.t30, Tryd.underlying30, Ty.t22, Tryd.underlying22, Ty.t3, Tryd.underlying3, Ty.t2, Tryd.underlying2, Ty.t4, Tryd.underlying4, Ty.t57, Tryd.underlying57, getL_take, List.drop_zero, List.drop_succ_cons, List.take_succ_cons, List.take_zero, List.take_nil, q1, q5, q9, q10, q11, c1, hix, hld, hp0, hqu, hmo, hr, hr', he]
    refine cost_p hgt ?_
    simp (disch := first | omega | ((simp only [Ab.next_alloc, Ab.next_upd, List.length_cons, List.length_nil, ne_eq, not_true_eq_false, not_false_eq_true]) <;> omega) | decide) only [↓stepPre, stepPost, ↓W_cond, ↓W_block, ↓reduceIte, Nat.reduceEqDiff, Nat.reduceLT, Nat.reduceLeDiff, List.size_toArray, List.length_cons, List.length_nil, ret0, stVar, isTup, Value.cells, List.set_cons_zero, List.set_cons_succ, Nat.le_refl, Nat.reduceAdd, Nat.reduceMul, Nat.reduceSub, env0, List.getD_cons_zero, List.getD_cons_succ, binV, intV, reduceCtorEq, List.getElem?_cons_succ, List.getElem?_cons_zero, pickV, nilCheckV, ptrV, unV, true_and, and_true, List.map_cons, List.map_nil, Nat.add_zero, Nat.zero_add, Option.isNone_none, Option.isNone_some, Rt, resultsV, allV, resV, Bool.not_true, Bool.not_false, calleeV, builtinV, Option.map_some, Option.map_none, List.cons_append, List.nil_append, List.append_nil, Array.toList_append, List.toList_toArray, eqV, fieldAddrV, ldVar, stN_own, stN_ownL, Int.cast_ofNat_Int, Int.fdiv_eq_ediv_of_nonneg, Int.reduceToNat, Nat.min_eq_left, Int.reducePow, IntKind.bits, convV, ne_eq, not_false_eq_true, not_true_eq_false, Int.reduceNeg, Int.reduceAdd, Int.reduceSub, Int.reduceLT, Int.reduceLE, Option.isSome_some, extractV, decide_true, decide_false, Int.reduceEq, List.getElem?_toArray, mkFuncV, List.map_toArray, beq_self_eq_true, Ty.t30, Tryd.underlying30, Ty.t22, Tryd.underlying22, Ty.t3, Tryd.underlying3, Ty.t2, Tryd.underlying2, Ty.t4, Tryd.underlying4, Ty.t57, Tryd.underlying57, getL_take, List.drop_zero, List.drop_succ_cons, List.take_succ_cons, List.take_zero, List.take_nil, q1, q5, q9, q10, q11]
    exact ⟨hil, m1.alloc', by rw [hsn], by simp⟩
/-- May streams be? -/
def okS (xs : List Sm) : Prop := (chk xs 1).2 = 0
theorem fst0_zero {f : Nat → Int} {n : Nat} (h : (fst0 f n).2 = 0) : ∀ i, i < n → f i = 0 := by
  unfold fst0 at h
  split at h
  · rename_i i hi
    exact absurd h (fwd_some hi).2.2.1
  · rename_i hi
    exact fun i hin => fwd_none hi i (by omega) (by omega)
theorem fst0_of {f : Nat → Int} {n : Nat} (h : ∀ i, i < n → f i = 0) : fst0 f n = (0, 0) := by
  unfold fst0
  split
  · rename_i i hi
    have := fwd_some hi
    exact absurd (h i (by omega)) this.2.2.1
  · rfl
theorem okS_all {xs : List Sm} (h : okS xs) : AllR xs ∧ xs.length ≤ 64 := by
  unfold okS chk at h
  split at h
  · simp at h
  rename_i h1
  rw [if_neg (by omega)] at h
  split at h
  · rename_i h2; exact absurd h h2
  rename_i h2
  refine ⟨fun x hx => ?_, by omega⟩
  obtain ⟨i, hi, rfl⟩ := List.mem_iff_getElem.1 hx
  have := fst0_zero (by simpa using h2) i hi
  simpa [rl1, atS_eq hi] using this
theorem bright_ok {v : Value} {xs : List Sm} (hs : Sl base s 7 v (smL xs)) (hxn : xs.length ≤ 2 ^ 63 - 1) (hbn : base ≤ s.next) (hR : ∀ s', Mild s s' → R (.bool (decide ((chk xs 1).2 = 0))) s') : WC Tryd.prog base 21 [v] s R := by
  refine WC_open Tryd.func21 rfl ?_
  simp (disch := first | omega | ((simp only [Ab.next_alloc, Ab.next_upd, List.length_cons, List.length_nil, ne_eq, not_true_eq_false, not_false_eq_true]) <;> omega) | decide) only [↓stepPre, stepPost, ↓W_cond, ↓W_block, ↓reduceIte, Nat.reduceEqDiff, Nat.reduceLT, Nat.reduceLeDiff, List.size_toArray, List.length_cons, List.length_nil, ret0, stVar, isTup, Value.cells, List.set_cons_zero, List.set_cons_succ, Nat.le_refl, Nat.reduceAdd, Nat.reduceMul, Nat.reduceSub, env0, List.getD_cons_zero, List.getD_cons_succ, binV, intV, reduceCtorEq, List.getElem?_cons_succ, List.getElem?_cons_zero, pickV, nilCheckV, ptrV, unV, true_and, and_true, List.map_cons, List.map_nil, Nat.add_zero, Nat.zero_add, Option.isNone_none, Option.isNone_some, Rt, resultsV, allV, resV, Bool.not_true, Bool.not_false, calleeV, builtinV, Option.map_some, Option.map_none, List.cons_append, List.nil_append, List.append_nil, Array.toList_append, List.toList_toArray, eqV, fieldAddrV, ldVar, stN_own, stN_ownL, Int.cast_ofNat_Int, Int.fdiv_eq_ediv_of_nonneg, Int.reduceToNat, Nat.min_eq_left, Int.reducePow, IntKind.bits, convV, ne_eq, not_false_eq_true, not_true_eq_false, Int.reduceNeg, Int.reduceAdd, Int.reduceSub, Int.reduceLT, Int.reduceLE, Option.isSome_some, extractV, decide_true, decide_false, Int.reduceEq, List.getElem?_toArray, mkFuncV, List.map_toArray, beq_self_eq_true, Ty.t30, Tryd.underlying30, Ty.t22, Tryd.underlying22, Ty.t3, Tryd.underlying3, Ty.t2, Tryd.underlying2, Ty.t4, Tryd.underlying4, Ty.t57, Tryd.underlying57]
  refine scheck_ok hs hxn hbn fun s' m' => ?_
  simp (disch := first | omega | ((simp only [Ab.next_alloc, Ab.next_upd, List.length_cons, List.length_nil, ne_eq, not_true_eq_false, not_false_eq_true]) <;> omega) | decide) only [↓stepPre, stepPost, ↓W_cond, ↓W_block, ↓reduceIte, Nat.reduceEqDiff, Nat.reduceLT, Nat.reduceLeDiff, List.size_toArray, List.length_cons, List.length_nil, ret0, stVar, isTup, Value.cells, List.set_cons_zero, List.set_cons_succ, Nat.le_refl, Nat.reduceAdd, Nat.reduceMul, Nat.reduceSub, env0, List.getD_cons_zero, List.getD_cons_succ, binV, intV, reduceCtorEq, List.getElem?_cons_succ, List.getElem?_cons_zero, pickV, nilCheckV, ptrV, unV, true_and, and_true, List.map_cons, List.map_nil, Nat.add_zero, Nat.zero_add, Option.isNone_none, Option.isNone_some, Rt, resultsV, allV, resV, Bool.not_true, Bool.not_false, calleeV, builtinV, Option.map_some, Option.map_none, List.cons_append, List.nil_append, List.append_nil, Array.toList_append, List.toList_toArray, eqV, fieldAddrV, ldVar, stN_own, stN_ownL, Int.cast_ofNat_Int, Int.fdiv_eq_ediv_of_nonneg, Int.reduceToNat, Nat.min_eq_left, Int.reducePow, IntKind.bits, convV, ne_eq, not_false_eq_true, not_true_eq_false, Int.reduceNeg, Int.reduceAdd, Int.reduceSub, Int.reduceLT, Int.reduceLE, Option.isSome_some, extractV, decide_true, decide_false, Int.reduceEq, List.getElem?_toArray, mkFuncV, List.map_toArray, beq_self_eq_true, Ty.t30, Tryd.underlying30, Ty.t22, Tryd.underlying22, Ty.t3, Tryd.underlying3, Ty.t2, Tryd.underlying2, Ty.t4, Tryd.underlying4, Ty.t57, Tryd.underlying57, Tryd.results21]
  exact hR _ m'
theorem bsteps_p {v : Value} {xs : List Sm} {b : Int} (hs : Sl base s 7 v (smL xs)) (hR : R (.func (.func 20) #[] #[.pointer (some ⟨s.next, 0, none⟩), .pointer (some ⟨s.next + 1, 0, none⟩)]) ((s.alloc (.row [v])).alloc (.row [.int .i64 b]))) :
    WC Tryd.prog base 11 [v, .int .i64 b] s R := by
  refine WC_open Tryd.func11 rfl ?_
  obtain ⟨a, n, c, rfl⟩ := hs.shape
  simp (disch := first | omega | ((simp only [Ab.next_alloc, Ab.next_upd, List.length_cons, List.length_nil, ne_eq, not_true_eq_false, not_false_eq_true]) <;> omega) | decide) only [↓stepPre, stepPost, ↓W_cond, ↓W_block, ↓reduceIte, Nat.reduceEqDiff, Nat.reduceLT, Nat.reduceLeDiff, List.size_toArray, List.length_cons, List.length_nil, ret0, stVar, isTup, Value.cells, List.set_cons_zero, List.set_cons_succ, Nat.le_refl, Nat.reduceAdd, Nat.reduceMul, Nat.reduceSub, env0, List.getD_cons_zero, List.getD_cons_succ, binV, intV, reduceCtorEq, List.getElem?_cons_succ, List.getElem?_cons_zero, pickV, nilCheckV, ptrV, unV, true_and, and_true, List.map_cons, List.map_nil, Nat.add_zero, Nat.zero_add, Option.isNone_none, Option.isNone_some, Rt, resultsV, allV, resV, Bool.not_true, Bool.not_false, calleeV, builtinV, Option.map_some, Option.map_none, List.cons_append, List.nil_append, List.append_nil, Array.toList_append, List.toList_toArray, eqV, fieldAddrV, ldVar, stN_own, stN_ownL, Int.cast_ofNat_Int, Int.fdiv_eq_ediv_of_nonneg, Int.reduceToNat, Nat.min_eq_left, Int.reducePow, IntKind.bits, convV, ne_eq, not_false_eq_true, not_true_eq_false, Int.reduceNeg, Int.reduceAdd, Int.reduceSub, Int.reduceLT, Int.reduceLE, Option.isSome_some, extractV, decide_true, decide_false, Int.reduceEq, List.getElem?_toArray, mkFuncV, List.map_toArray, beq_self_eq_true, Ty.t30, Tryd.underlying30, Ty.t22, Tryd.underlying22, Ty.t3, Tryd.underlying3, Ty.t2, Tryd.underlying2, Ty.t4, Tryd.underlying4, Ty.t57, Tryd.underlying57, Tryd.results11]
  exact hR
theorem steps_range {pl pb : Nat} {v : Value} {xs : List Sm} {b : Int} {e : Env} {f : Operand} {ps : Array Tmp} {asg body : Code} {Q : Exit → Env → St → Prop} (he : ev e f = .func (.func 20) #[] #[.pointer (some ⟨pl, 0, none⟩), .pointer (some ⟨pb, 0, none⟩)])
    (hps : ps.size = 2) (hbn : base ≤ s.next) (hpl : base ≤ pl) (hpb : base ≤ pb) (hok : okS xs) (hne : xs ≠ []) (hb : 1 ≤ b ∧ b ≤ 1073741824) (I : Int → St → Prop)
    (facts : ∀ sp t, I sp t → t.heap pl = .row [v] ∧ t.heap pb = .row [.int .i64 b] ∧ Sl base t 7 v (smL xs) ∧ s.next < t.next ∧ t.heap 0 = .row divC ∧ 1 ≤ sp ∧ sp ≤ camN xs sp)
    (quiet : ∀ sp t t', I sp t → Mild t t' → I sp t')
    (h0 : I 1 (s.alloc (.loop ⟨e, ps, asg, body, .ready, none⟩)))
    (step : ∀ sp t, sp ≤ b → I sp t → t.heap s.next = .loop ⟨e, ps, asg, body, .ready, none⟩ → W Tryd.prog base asg (putAll e (ps.toList.zip [.int .i64 sp, .bool (decide (camN xs sp = sp))])) t (fun x e1 t1 => x = .normal ∧ t1.heap s.next = .loop ⟨e, ps, asg, body, .ready, none⟩ ∧
      W Tryd.prog base body e1 (t1.upd s.next (.loop ⟨e, ps, asg, body, .busy, none⟩)) (fun x e2 t2 => t2.heap s.next = .loop ⟨e, ps, asg, body, .busy, none⟩ ∧ ((x = .normal ∧ ((camN xs sp ≠ sp ∧ I (camN xs sp) (t2.upd s.next (.loop ⟨e, ps, asg, body, .ready, none⟩))) ∨ (camN xs sp = sp ∧ Q .normal e (t2.upd s.next .gone)))) ∨ (x = .ret ∧ Q .ret e (t2.upd s.next .gone))))))
    (post : ∀ sp t, b < sp → I sp t → Q .normal e (t.upd s.next .gone)) : W Tryd.prog base (.rangeFunc f ps asg body) e s Q := by
  obtain ⟨hal, hn⟩ := okS_all hok
  refine W_rangeFuncG he ?_
  obtain ⟨f1, f2, f3, f4, f5, f6, f7⟩ := facts 1 _ h0
  refine WC_open Tryd.func20 rfl ?_
  have hlen := f3.len (P := Tryd.prog) (ts := []) Ty.elem22 Ty.arr22
  rw [smL_len] at hlen
  have hl0 : ¬ (xs.length : Int) = 0 := by have := List.length_pos_iff.2 hne; omega
  have hb1 : ¬ b < 1 := by omega
  have hb2 : ¬ 1073741824 < b := by omega
  simp (disch := first | omega | ((simp only [Ab.next_alloc, Ab.next_upd, List.length_cons, List.length_nil, ne_eq, not_true_eq_false, not_false_eq_true]) <;> omega) | decide) only [↓stepPre, stepPost, ↓W_cond, ↓W_block, ↓reduceIte, Nat.reduceEqDiff, Nat.reduceLT, Nat.reduceLeDiff, List.size_toArray, List.length_cons, List.length_nil, ret0, stVar, isTup, Value.cells, List.set_cons_zero, List.set_cons_succ, Nat.le_refl, Nat.reduceAdd, Nat.reduceMul, Nat.reduceSub, env0, List.getD_cons_zero, List.getD_cons_succ, binV, intV, reduceCtorEq, List.getElem?_cons_succ, List.getElem?_cons_zero, pickV, nilCheckV, ptrV, unV, true_and, and_true, List.map_cons, List.map_nil, Nat.add_zero, Nat.zero_add, Option.isNone_none, Option.isNone_some, Rt, resultsV, allV, resV, Bool.not_true, Bool.not_false, calleeV, builtinV, Option.map_some, Option.map_none, List.cons_append, List.nil_append, List.append_nil, Array.toList_append, List.toList_toArray, eqV, fieldAddrV, ldVar, stN_own, stN_ownL, Int.cast_ofNat_Int, Int.fdiv_eq_ediv_of_nonneg, Int.reduceToNat, Nat.min_eq_left, Int.reducePow, IntKind.bits, convV, ne_eq, not_false_eq_true, not_true_eq_false, Int.reduceNeg, Int.reduceAdd, Int.reduceSub, Int.reduceLT, Int.reduceLE, Option.isSome_some, extractV, decide_true, decide_false, Int.reduceEq, List.getElem?_toArray, mkFuncV, List.map_toArray, beq_self_eq_true, Ty.t30, Tryd.underlying30, Ty.t22, Tryd.underlying22, Ty.t3, Tryd.underlying3, Ty.t2, Tryd.underlying2, Ty.t4, Tryd.underlying4, Ty.t57, Tryd.underlying57, f1, f2, hlen, hl0]
  refine bright_ok f3 (by omega) (by simp only [Ab.next_alloc]; omega) fun s1 m1 => ?_
  have hdec : decide ((chk xs 1).2 = 0) = true := decide_eq_true hok
  have i1 := quiet 1 _ s1 h0 m1
  have g1 := (m1.heap s.next (by simp only [Ab.next_alloc]; omega)).trans (Ab.heap_alloc_new _ _)
  obtain ⟨k1, k2, k3, k4, k5, k6, k7⟩ := facts 1 _ i1
  rw [hdec]
  simp (disch := first | omega | ((simp only [Ab.next_alloc, Ab.next_upd, List.length_cons, List.length_nil, ne_eq, not_true_eq_false, not_false_eq_true]) <;> omega) | decide) only [↓stepPre, stepPost, ↓W_cond, ↓W_block, ↓reduceIte, Nat.reduceEqDiff, Nat.reduceLT, Nat.reduceLeDiff, List.size_toArray, List.length_cons, List.length_nil, ret0, stVar, isTup, Value.cells, List.set_cons_zero, List.set_cons_succ, Nat.le_refl, Nat.reduceAdd, Nat.reduceMul, Nat.reduceSub, env0, List.getD_cons_zero, List.getD_cons_succ, binV, intV, reduceCtorEq, List.getElem?_cons_succ, List.getElem?_cons_zero, pickV, nilCheckV, ptrV, unV, true_and, and_true, List.map_cons, List.map_nil, Nat.add_zero, Nat.zero_add, Option.isNone_none, Option.isNone_some, Rt, resultsV, allV, resV, Bool.not_true, Bool.not_false, calleeV, builtinV, Option.map_some, Option.map_none, List.cons_append, List.nil_append, List.append_nil, Array.toList_append, List.toList_toArray, eqV, fieldAddrV, ldVar, stN_own, stN_ownL, Int.cast_ofNat_Int, Int.fdiv_eq_ediv_of_nonneg, Int.reduceToNat, Nat.min_eq_left, Int.reducePow, IntKind.bits, convV, ne_eq, not_false_eq_true, not_true_eq_false, Int.reduceNeg, Int.reduceAdd, Int.reduceSub, Int.reduceLT, Int.reduceLE, Option.isSome_some, extractV, decide_true, decide_false, Int.reduceEq, List.getElem?_toArray, mkFuncV, List.map_toArray, beq_self_eq_true, Ty.t30, Tryd.underlying30, Ty.t22, Tryd.underlying22, Ty.t3, Tryd.underlying3, Ty.t2, Tryd.underlying2, Ty.t4, Tryd.underlying4, Ty.t57, Tryd.underlying57, k1, k2, hb1, hb2]
  refine W_loop_dec (fun d e' t => ∃ sp : Int, d = (b + 1 - sp).toNat ∧ I sp t ∧ t.heap s.next = .loop ⟨e, ps, asg, body, .ready, none⟩ ∧ e' 0 = .func (.yield s.next) #[] #[] ∧ e' 1 = .pointer (some ⟨pl, 0, none⟩) ∧ e' 2 = .pointer (some ⟨pb, 0, none⟩) ∧ e' 4 = .int .i64 sp) ?_ ⟨1, rfl, i1, g1, rfl, rfl, rfl, rfl⟩
  rintro d e' t ⟨sp, rfl, hI, hl, q0, q1, q2, q4⟩
  obtain ⟨k1, k2, k3, k4, k5, k6, k7⟩ := facts sp t hI
  by_cases hsb : sp ≤ b
  rotate_left
  · simp (disch := first | omega | ((simp only [Ab.next_alloc, Ab.next_upd, List.length_cons, List.length_nil, ne_eq, not_true_eq_false, not_false_eq_true]) <;> omega) | decide) only [↓stepPre, stepPost, ↓W_cond, ↓W_block, ↓reduceIte, Nat.reduceEqDiff, Nat.reduceLT, Nat.reduceLeDiff, List.size_toArray, List.length_cons, List.length_nil, ret0, stVar, isTup, Value.cells, List.set_cons_zero, List.set_cons_succ, Nat.le_refl, Nat.reduceAdd, Nat.reduceMul, Nat.reduceSub, env0, List.getD_cons_zero, List.getD_cons_succ, binV, intV, reduceCtorEq, List.getElem?_cons_succ, List.getElem?_cons_zero, pickV, nilCheckV, ptrV, unV, true_and, and_true, List.map_cons, List.map_nil, Nat.add_zero, Nat.zero_add, Option.isNone_none, Option.isNone_some, Rt, resultsV, allV, resV, Bool.not_true, Bool.not_false, calleeV, builtinV, Option.map_some, Option.map_none, List.cons_append, List.nil_append, List.append_nil, Array.toList_append, List.toList_toArray, eqV, fieldAddrV, ldVar, stN_own, stN_ownL, Int.cast_ofNat_Int, Int.fdiv_eq_ediv_of_nonneg, Int.reduceToNat, Nat.min_eq_left, Int.reducePow, IntKind.bits, convV, ne_eq, not_false_eq_true, not_true_eq_false, Int.reduceNeg, Int.reduceAdd, Int.reduceSub, Int.reduceLT, Int.reduceLE, Option.isSome_some, extractV, decide_true, decide_false, Int.reduceEq, List.getElem?_toArray, mkFuncV, List.map_toArray, beq_self_eq_true, Ty.t30, Tryd.underlying30, Ty.t22, Tryd.underlying22, Ty.t3, Tryd.underlying3, Ty.t2, Tryd.underlying2, Ty.t4, Tryd.underlying4, Ty.t57, Tryd.underlying57, q0, q1, q2, q4, k2, hsb, Tryd.results20]
    exact ⟨_, .normal, hl, by simp, rfl, post sp t (by omega) hI⟩
  simp (disch := first | omega | ((simp only [Ab.next_alloc, Ab.next_upd, List.length_cons, List.length_nil, ne_eq, not_true_eq_false, not_false_eq_true]) <;> omega) | decide) only [↓stepPre, stepPost, ↓W_cond, ↓W_block, ↓reduceIte, Nat.reduceEqDiff, Nat.reduceLT, Nat.reduceLeDiff, List.size_toArray, List.length_cons, List.length_nil, ret0, stVar, isTup, Value.cells, List.set_cons_zero, List.set_cons_succ, Nat.le_refl, Nat.reduceAdd, Nat.reduceMul, Nat.reduceSub, env0, List.getD_cons_zero, List.getD_cons_succ, binV, intV, reduceCtorEq, List.getElem?_cons_succ, List.getElem?_cons_zero, pickV, nilCheckV, ptrV, unV, true_and, and_true, List.map_cons, List.map_nil, Nat.add_zero, Nat.zero_add, Option.isNone_none, Option.isNone_some, Rt, resultsV, allV, resV, Bool.not_true, Bool.not_false, calleeV, builtinV, Option.map_some, Option.map_none, List.cons_append, List.nil_append, List.append_nil, Array.toList_append, List.toList_toArray, eqV, fieldAddrV, ldVar, stN_own, stN_ownL, Int.cast_ofNat_Int, Int.fdiv_eq_ediv_of_nonneg, Int.reduceToNat, Nat.min_eq_left, Int.reducePow, IntKind.bits, convV, ne_eq, not_false_eq_true, not_true_eq_false, Int.reduceNeg, Int.reduceAdd, Int.reduceSub, Int.reduceLT, Int.reduceLE, Option.isSome_some, extractV, decide_true, decide_false, Int.reduceEq, List.getElem?_toArray, mkFuncV, List.map_toArray, beq_self_eq_true, Ty.t30, Tryd.underlying30, Ty.t22, Tryd.underlying22, Ty.t3, Tryd.underlying3, Ty.t2, Tryd.underlying2, Ty.t4, Tryd.underlying4, Ty.t57, Tryd.underlying57, q0, q1, q2, q4, k1, k2, hsb]
  refine came_ok k3 hal hn (by omega) (by omega) k5 fun t1 m1 => ?_
  have hI1 := quiet sp t t1 hI m1
  have hl1 := (m1.heap s.next (by omega)).trans hl
  simp (disch := first | omega | ((simp only [Ab.next_alloc, Ab.next_upd, List.length_cons, List.length_nil, ne_eq, not_true_eq_false, not_false_eq_true]) <;> omega) | decide) only [↓stepPre, stepPost, ↓W_cond, ↓W_block, ↓reduceIte, Nat.reduceEqDiff, Nat.reduceLT, Nat.reduceLeDiff, List.size_toArray, List.length_cons, List.length_nil, ret0, stVar, isTup, Value.cells, List.set_cons_zero, List.set_cons_succ, Nat.le_refl, Nat.reduceAdd, Nat.reduceMul, Nat.reduceSub, env0, List.getD_cons_zero, List.getD_cons_succ, binV, intV, reduceCtorEq, List.getElem?_cons_succ, List.getElem?_cons_zero, pickV, nilCheckV, ptrV, unV, true_and, and_true, List.map_cons, List.map_nil, Nat.add_zero, Nat.zero_add, Option.isNone_none, Option.isNone_some, Rt, resultsV, allV, resV, Bool.not_true, Bool.not_false, calleeV, builtinV, Option.map_some, Option.map_none, List.cons_append, List.nil_append, List.append_nil, Array.toList_append, List.toList_toArray, eqV, fieldAddrV, ldVar, stN_own, stN_ownL, Int.cast_ofNat_Int, Int.fdiv_eq_ediv_of_nonneg, Int.reduceToNat, Nat.min_eq_left, Int.reducePow, IntKind.bits, convV, ne_eq, not_false_eq_true, not_true_eq_false, Int.reduceNeg, Int.reduceAdd, Int.reduceSub, Int.reduceLT, Int.reduceLE, Option.isSome_some, extractV, decide_true, decide_false, Int.reduceEq, List.getElem?_toArray, mkFuncV, List.map_toArray, beq_self_eq_true, Ty.t30, Tryd.underlying30, Ty.t22, Tryd.underlying22, Ty.t3, Tryd.underlying3, Ty.t2, Tryd.underlying2, Ty.t4, Tryd.underlying4, Ty.t57, Tryd.underlying57, q0, q1, q2, q4]
  refine WF_yieldG hl1 hps hbn (W_mono (step sp t1 hsb hI1 hl1) fun x e1 t3 ⟨r1, r2, r3⟩ => ⟨r1, r2, W_mono r3 fun x e2 t4 ⟨r4, r5⟩ => ⟨r4, ?_⟩⟩)
  rcases r5 with ⟨rfl, r5⟩ | ⟨rfl, r5⟩
  · refine ⟨none, rfl, ?_⟩
    rcases r5 with ⟨r5, r6⟩ | ⟨r5, r6⟩
    · have hlt : sp < camN xs sp := by omega
      simp (disch := first | omega | ((simp only [Ab.next_alloc, Ab.next_upd, List.length_cons, List.length_nil, ne_eq, not_true_eq_false, not_false_eq_true]) <;> omega) | decide) only [↓stepPre, stepPost, ↓W_cond, ↓W_block, ↓reduceIte, Nat.reduceEqDiff, Nat.reduceLT, Nat.reduceLeDiff, List.size_toArray, List.length_cons, List.length_nil, ret0, stVar, isTup, Value.cells, List.set_cons_zero, List.set_cons_succ, Nat.le_refl, Nat.reduceAdd, Nat.reduceMul, Nat.reduceSub, env0, List.getD_cons_zero, List.getD_cons_succ, binV, intV, reduceCtorEq, List.getElem?_cons_succ, List.getElem?_cons_zero, pickV, nilCheckV, ptrV, unV, true_and, and_true, List.map_cons, List.map_nil, Nat.add_zero, Nat.zero_add, Option.isNone_none, Option.isNone_some, Rt, resultsV, allV, resV, Bool.not_true, Bool.not_false, calleeV, builtinV, Option.map_some, Option.map_none, List.cons_append, List.nil_append, List.append_nil, Array.toList_append, List.toList_toArray, eqV, fieldAddrV, ldVar, stN_own, stN_ownL, Int.cast_ofNat_Int, Int.fdiv_eq_ediv_of_nonneg, Int.reduceToNat, Nat.min_eq_left, Int.reducePow, IntKind.bits, convV, ne_eq, not_false_eq_true, not_true_eq_false, Int.reduceNeg, Int.reduceAdd, Int.reduceSub, Int.reduceLT, Int.reduceLE, Option.isSome_some, extractV, decide_true, decide_false, Int.reduceEq, List.getElem?_toArray, mkFuncV, List.map_toArray, beq_self_eq_true, Ty.t30, Tryd.underlying30, Ty.t22, Tryd.underlying22, Ty.t3, Tryd.underlying3, Ty.t2, Tryd.underlying2, Ty.t4, Tryd.underlying4, Ty.t57, Tryd.underlying57, q0, q1, q2, q4, r5]
      exact ⟨(b + 1 - camN xs sp).toNat, by omega, camN xs sp, rfl, r6, rfl, rfl⟩
    · simp (disch := first | omega | ((simp only [Ab.next_alloc, Ab.next_upd, List.length_cons, List.length_nil, ne_eq, not_true_eq_false, not_false_eq_true]) <;> omega) | decide) only [↓stepPre, stepPost, ↓W_cond, ↓W_block, ↓reduceIte, Nat.reduceEqDiff, Nat.reduceLT, Nat.reduceLeDiff, List.size_toArray, List.length_cons, List.length_nil, ret0, stVar, isTup, Value.cells, List.set_cons_zero, List.set_cons_succ, Nat.le_refl, Nat.reduceAdd, Nat.reduceMul, Nat.reduceSub, env0, List.getD_cons_zero, List.getD_cons_succ, binV, intV, reduceCtorEq, List.getElem?_cons_succ, List.getElem?_cons_zero, pickV, nilCheckV, ptrV, unV, true_and, and_true, List.map_cons, List.map_nil, Nat.add_zero, Nat.zero_add, Option.isNone_none, Option.isNone_some, Rt, resultsV, allV, resV, Bool.not_true, Bool.not_false, calleeV, builtinV, Option.map_some, Option.map_none, List.cons_append, List.nil_append, List.append_nil, Array.toList_append, List.toList_toArray, eqV, fieldAddrV, ldVar, stN_own, stN_ownL, Int.cast_ofNat_Int, Int.fdiv_eq_ediv_of_nonneg, Int.reduceToNat, Nat.min_eq_left, Int.reducePow, IntKind.bits, convV, ne_eq, not_false_eq_true, not_true_eq_false, Int.reduceNeg, Int.reduceAdd, Int.reduceSub, Int.reduceLT, Int.reduceLE, Option.isSome_some, extractV, decide_true, decide_false, Int.reduceEq, List.getElem?_toArray, mkFuncV, List.map_toArray, beq_self_eq_true, Ty.t30, Tryd.underlying30, Ty.t22, Tryd.underlying22, Ty.t3, Tryd.underlying3, Ty.t2, Tryd.underlying2, Ty.t4, Tryd.underlying4, Ty.t57, Tryd.underlying57, q0, q1, q2, q4, r5, Tryd.results20]
      exact ⟨⟨e, ps, asg, body, .ready, none⟩, .normal, rfl, by simp, rfl, r6⟩
  · refine ⟨some .ret, rfl, ?_⟩
    simp (disch := first | omega | ((simp only [Ab.next_alloc, Ab.next_upd, List.length_cons, List.length_nil, ne_eq, not_true_eq_false, not_false_eq_true]) <;> omega) | decide) only [↓stepPre, stepPost, ↓W_cond, ↓W_block, ↓reduceIte, Nat.reduceEqDiff, Nat.reduceLT, Nat.reduceLeDiff, List.size_toArray, List.length_cons, List.length_nil, ret0, stVar, isTup, Value.cells, List.set_cons_zero, List.set_cons_succ, Nat.le_refl, Nat.reduceAdd, Nat.reduceMul, Nat.reduceSub, env0, List.getD_cons_zero, List.getD_cons_succ, binV, intV, reduceCtorEq, List.getElem?_cons_succ, List.getElem?_cons_zero, pickV, nilCheckV, ptrV, unV, true_and, and_true, List.map_cons, List.map_nil, Nat.add_zero, Nat.zero_add, Option.isNone_none, Option.isNone_some, Rt, resultsV, allV, resV, Bool.not_true, Bool.not_false, calleeV, builtinV, Option.map_some, Option.map_none, List.cons_append, List.nil_append, List.append_nil, Array.toList_append, List.toList_toArray, eqV, fieldAddrV, ldVar, stN_own, stN_ownL, Int.cast_ofNat_Int, Int.fdiv_eq_ediv_of_nonneg, Int.reduceToNat, Nat.min_eq_left, Int.reducePow, IntKind.bits, convV, ne_eq, not_false_eq_true, not_true_eq_false, Int.reduceNeg, Int.reduceAdd, Int.reduceSub, Int.reduceLT, Int.reduceLE, Option.isSome_some, extractV, decide_true, decide_false, Int.reduceEq, List.getElem?_toArray, mkFuncV, List.map_toArray, beq_self_eq_true, Ty.t30, Tryd.underlying30, Ty.t22, Tryd.underlying22, Ty.t3, Tryd.underlying3, Ty.t2, Tryd.underlying2, Ty.t4, Tryd.underlying4, Ty.t57, Tryd.underlying57, q0, q1, q2, q4, Tryd.results20]
    exact ⟨⟨e, ps, asg, body, .done, some .ret⟩, .ret, rfl, by simp, rfl, by simpa only [upd_upd] using r5⟩
def jL (ts : List Int) : List (List Value) := ts.map fun t => [.int .i64 t]
/-- A chain of spans: the first is 1, each is what comes within the one ahead. -/
structure Chn (c : Int → Int) (zs : List Int) : Prop where
  hd : zs[0]? = some 1
  nx : ∀ i (h : i + 1 < zs.length), zs[i + 1] = c zs[i] ∧ zs[i] < zs[i + 1]
theorem Chn.one (c : Int → Int) : Chn c [1] := ⟨rfl, fun i h => by simp at h⟩
theorem Chn.snoc {c : Int → Int} {ys : List Int} {sp : Int} (h : Chn c (ys ++ [sp])) (hlt : sp < c sp) : Chn c (ys ++ [sp] ++ [c sp]) := by
  refine ⟨?_, fun i hi => ?_⟩
  · rw [List.getElem?_append_left (by simp)]; exact h.hd
  · by_cases h1 : i + 1 < (ys ++ [sp]).length
    · have h2 : i < (ys ++ [sp]).length := by omega
      rw [List.getElem_append_left h1, List.getElem_append_left h2]
      exact h.nx i h1
    · have e : i = ys.length := by simp at hi h1; omega
      subst e
      simp [hlt]
theorem Chn.init {c : Int → Int} {ys : List Int} {sp : Int} (h : Chn c (ys ++ [sp])) (h0 : ys ≠ []) : Chn c ys := by
  have hl := List.length_pos_iff.2 h0
  refine ⟨?_, fun i hi => ?_⟩
  · have := h.hd
    rw [List.getElem?_append_left hl] at this; exact this
  · have h2 : i < ys.length := by omega
    have := h.nx i (by simp; omega)
    rw [List.getElem_append_left hi, List.getElem_append_left h2] at this
    exact this
theorem Chn.up {c : Int → Int} {ys : List Int} {sp : Int} (h : Chn c (ys ++ [sp])) (h1 : 1 ≤ c 1) (hm : ∀ a b, a ≤ b → c a ≤ c b) : sp ≤ c sp := by
  cases hy : ys.length with
  | zero =>
    have : ys = [] := List.length_eq_zero_iff.1 hy
    subst this
    have := h.hd
    simp at this; subst this; exact h1
  | succ n =>
    obtain ⟨e1, e2⟩ := h.nx n (by simp; omega)
    have e3 : (ys ++ [sp])[n + 1]'(by simp; omega) = sp := by
      rw [List.getElem_append_right (by omega)]; simp
    rw [e3] at e1 e2
    have := hm _ _ (Int.le_of_lt e2)
    omega
/-- The steps up to a bound. -/
structure StpL (c : Int → Int) (b : Int) (ys : List Int) : Prop where
  ch : Chn c ys
  le : ∀ y ∈ ys, 1 ≤ y ∧ y ≤ b
  lst : ∃ l, ys.getLast? = some l ∧ (c l = l ∨ b < c l)
theorem Q2_ex {x : Option (Value × St)} {K : Value → St → Prop} {p : Value → St → Prop} (h : ∃ v s', x = some (v, s') ∧ p v s') (k : ∀ v s', p v s' → K v s') : Q2 x K := by
  obtain ⟨v, s', rfl, hp⟩ := h
  exact k v s' hp
end Go.Proofs.YtfdpegnbbphhhaaDoor
