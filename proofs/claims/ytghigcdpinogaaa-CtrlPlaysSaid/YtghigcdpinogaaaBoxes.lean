import Derived.Test.YtghigcdpinogaaaTypes
import Derived.Test.YtghigcdpinogaaaRow0
import Derived.Test.YtghigcdpinogaaaAbC
import Derived.Test.YtghigcdpinogaaaBits
import Derived.Test.YtghigcdpinogaaaPure
import Derived.Test.YtghigcdpinogaaaRight
import Derived.Test.YtghigcdpinogaaaFive
/- Mailboxes (the package boxes), as contracts. -/
set_option linter.all false
set_option maxRecDepth 20000
namespace Go.Proofs.Ytghigcdpinogaaa
open Go Go.Ab
def stBBoxes := And.intro @List.size_toArray.{0} (And.intro @List.length_cons.{0} (And.intro @List.length_nil.{0} (And.intro @List.set_cons_zero.{0} (And.intro @List.set_cons_succ.{0} (And.intro @List.getD_cons_zero.{0} (And.intro @List.getD_cons_succ.{0} (And.intro @List.getElem?_cons_succ.{0} (And.intro @List.getElem?_cons_zero.{0} (And.intro @List.map_cons.{0,0} (And.intro @List.map_nil.{0,0} (And.intro @Option.isNone_none.{0} (And.intro @Option.isNone_some.{0} (And.intro @Option.map_some.{0,0} (And.intro @Option.map_none.{0,0} (And.intro @List.cons_append.{0} (And.intro @List.nil_append.{0} (And.intro @List.append_nil.{0} (And.intro @Array.toList_append.{0} (And.intro @List.toList_toArray.{0} (And.intro @Int.cast_ofNat_Int (And.intro @Option.isSome_some.{0} (And.intro @List.getElem?_toArray.{0} (And.intro @List.map_toArray.{0,0} (@Nat.min_eq_left))))))))))))))))))))))))
def glBBoxes := And.intro @List.drop_zero.{0} (And.intro @List.drop_succ_cons.{0} (And.intro @List.take_succ_cons.{0} (And.intro @List.take_zero.{0} (@List.take_nil.{0}))))
def tyB0Boxes := And.intro @Ty.t34 (And.intro @Try.underlying34 (And.intro @Ty.t107 (And.intro @Try.underlying107 (And.intro @Ty.t110 (And.intro @Try.underlying110 (And.intro @Ty.t68 (And.intro @Try.underlying68 (And.intro @Ty.t108 (And.intro @Try.underlying108 (And.intro @Ty.t124 (And.intro @Try.underlying124 (And.intro @Ty.t32 (And.intro @Try.underlying32 (And.intro @Ty.t29 (And.intro @Try.underlying29 (And.intro @Ty.t3 (And.intro @Try.underlying3 (And.intro @Ty.t4 (And.intro @Try.underlying4 (And.intro @Ty.t27 (And.intro @Try.underlying27 (And.intro @Ty.t121 (And.intro @Try.underlying121 (And.intro @Ty.t5 (And.intro @Try.underlying5 (And.intro @Ty.t30 (And.intro @Try.underlying30 (And.intro @Ty.t135 (And.intro @Try.underlying135 (And.intro @Ty.t24 @Try.underlying24))))))))))))))))))))))))))))))
variable {base : Nat} [Bok base] {s : St} {R : Value → St → Prop}
/-! ### The first place of which something holds -/
def fidx (q : Nat → Bool) (n : Nat) : Int := match (List.range n).find? q with | some i => (i : Int) | none => -1
theorem fidx_some {q : Nat → Bool} {n i : Nat} (hi : i < n) (h : q i = true) (hj : ∀ j, j < i → q j = false) : fidx q n = i := by
  have : (List.range n).find? q = some i := by
    rw [List.find?_range_eq_some]
    exact ⟨h, by simpa using hi, fun j hji => by simp [hj j hji]⟩
  simp [fidx, this]
theorem fidx_none {q : Nat → Bool} {n : Nat} (h : ∀ i, i < n → q i = false) : fidx q n = -1 := by
  have : (List.range n).find? q = none := by
    rw [List.find?_range_eq_none]
    exact fun i hi => by simp [h i hi]
  simp [fidx, this]
theorem first_ex {q : Nat → Bool} : ∀ {n : Nat}, (∃ i, i < n ∧ q i = true) → ∃ i, i < n ∧ q i = true ∧ ∀ j, j < i → q j = false := by
  intro n
  induction n with
  | zero => rintro ⟨i, h, _⟩; omega
  | succ n ih =>
    rintro ⟨i, h, hq⟩
    by_cases hx : ∃ i, i < n ∧ q i = true
    · obtain ⟨j, h1, h2, h3⟩ := ih hx; exact ⟨j, by omega, h2, h3⟩
    · have hin : i = n := by
        by_cases hi : i < n
        · exact absurd ⟨i, hi, hq⟩ hx
        · omega
      exact ⟨i, h, hq, fun j hj => by
        cases hqj : q j with
        | false => rfl
        | true => exact absurd ⟨j, by omega, hqj⟩ hx⟩
theorem fidx_cases (q : Nat → Bool) (n : Nat) : (∃ i, i < n ∧ q i = true ∧ (∀ j, j < i → q j = false) ∧ fidx q n = i) ∨ ((∀ i, i < n → q i = false) ∧ fidx q n = -1) := by
  by_cases h : ∃ i, i < n ∧ q i = true
  · obtain ⟨i, h1, h2, h3⟩ := first_ex h
    exact .inl ⟨i, h1, h2, h3, fidx_some h1 h2 h3⟩
  · refine .inr ⟨fun i hi => ?_, fidx_none fun i hi => ?_⟩ <;>
    · cases hq : q i with
      | false => rfl
      | true => exact absurd ⟨i, hi, hq⟩ h
/-! ### Posts -/
structure Po where
  e : Bool
  n : Nat
  r : Bool
  l : Int
  d0 : Nat
  d1 : Nat
  d2 : Nat
  d3 : Nat
  d4 : Nat
  d5 : Nat
  d6 : Nat
  d7 : Nat
  o : Bool
  t : Int
  deriving DecidableEq
def Po.ds (p : Po) : List Nat := [p.d0, p.d1, p.d2, p.d3, p.d4, p.d5, p.d6, p.d7]
abbrev Po.c (p : Po) : List Value := [.bool p.e, .int .u32 (p.n : Int), .bool p.r, .int .i64 p.l, .int .u8 (p.d0 : Int), .int .u8 (p.d1 : Int), .int .u8 (p.d2 : Int), .int .u8 (p.d3 : Int), .int .u8 (p.d4 : Int), .int .u8 (p.d5 : Int), .int .u8 (p.d6 : Int), .int .u8 (p.d7 : Int), .bool p.o, .int .i64 p.t]
def Po.zero : Po := ⟨false, 0, false, 0, 0, 0, 0, 0, 0, 0, 0, 0, false, 0⟩
def Po.right (p : Po) : Int := rightF p.e p.n p.r p.l p.ds
def Po.key (p : Po) : Nat := keyN p.e p.n p.r
def Po.good (p : Po) : Prop := p.n < 2 ^ 32 ∧ p.right = 0
theorem right_id {e : Bool} {n : Nat} {r : Bool} {l : Int} {ds : List Nat} (h : rightF e n r l ds = 0) : idOk e n = true := by
  cases hi : idOk e n
  · simp [rightF, hi] at h
  · rfl
theorem Po.good.id {p : Po} (h : p.good) : idOk p.e p.n = true := right_id h.2
abbrev Bx := List (Option Po)
def tagO (t : Int) : Option Po → Bool
  | some p => decide (p.t = t)
  | none => false
def tagAt (L : Bx) (t : Int) (i : Nat) : Bool := tagO t (L.getD i none)
def freeAt (L : Bx) (i : Nat) : Bool := (L.getD i none).isNone
def keyO : Option Po → Nat
  | some p => p.key
  | none => 4294967296
def keyAt (L : Bx) (i : Nat) : Nat := keyO (L.getD i none)
def findT (L : Bx) (t : Int) : Int := fidx (tagAt L t) L.length
def freeI (L : Bx) : Int := fidx (freeAt L) L.length
def cntB (L : Bx) : Nat := L.countP Option.isSome
/-! ### The own boxes -/
def CellB (base : Nat) (s : St) (p : Nat) (X : Nat → Prop) : Option Po → Value → Prop
  | none, v => v = .pointer none
  | some po, v => ∃ q, v = .pointer (some ⟨q, 0, none⟩) ∧ X q ∧ q ≠ p ∧ s.heap q = .row po.c
structure OwnB (base : Nat) (s : St) (p : Nat) (L : Bx) (X : Nat → Prop) : Prop where
  hb : base ≤ p
  hp : p < s.next
  hX : X p
  low : ∀ b, X b → base ≤ b ∧ b < s.next
  room : 1 ≤ L.length ∧ L.length ≤ 8
  good : ∀ po, some po ∈ L → po.good
  row : ∃ qs : List Value, qs.length = 8 ∧ s.heap p = .row (.int .i64 (L.length : Nat) :: qs) ∧ ∀ i, i < 8 → ∃ v, qs[i]? = some v ∧ CellB base s p X (L.getD i none) v
theorem CellB.ch {p : Nat} {X Y : Nat → Prop} {s s' : St} {o : Option Po} {v : Value} (h : CellB base s p X o v) (hl : ∀ b, X b → b < s.next) (hc : Ch s s' Y) (hd : ∀ b, Y b → ¬ X b ∨ b = p) : CellB base s' p X o v := by
  cases o with
  | none => exact h
  | some po =>
    obtain ⟨q, h1, h2, h3, h4⟩ := h
    refine ⟨q, h1, h2, h3, ?_⟩
    rw [hc.heap _ (hl q h2) fun hy => (hd q hy).elim (fun h => h h2) h3]; exact h4
theorem OwnB.ch {p : Nat} {L : Bx} {X Y : Nat → Prop} {s s' : St} (h : OwnB base s p L X) (hc : Ch s s' Y) (hd : ∀ b, Y b → ¬ X b) : OwnB base s' p L X := by
  have hn := hc.next
  obtain ⟨qs, h1, h2, h3⟩ := h.row
  refine ⟨h.hb, Nat.lt_of_lt_of_le h.hp hn, h.hX, fun b hb => ⟨(h.low b hb).1, Nat.lt_of_lt_of_le (h.low b hb).2 hn⟩, h.room, h.good, qs, h1, ?_, fun i hi => ?_⟩
  · rw [hc.heap _ h.hp fun hy => hd _ hy h.hX]; exact h2
  · obtain ⟨v, e1, e2⟩ := h3 i hi
    exact ⟨v, e1, e2.ch (fun b hb => (h.low b hb).2) hc fun b hy => .inl (hd b hy)⟩
theorem OwnB.mild {p : Nat} {L : Bx} {X : Nat → Prop} {s s' : St} (h : OwnB base s p L X) (hm : Mild s s') : OwnB base s' p L X := h.ch (Ch.of_mild hm (fun _ => False)) fun _ h => h.elim
theorem bnew_bad {n : Int} (hn : n < 1 ∨ 8 < n) (hR : R (.tuple #[.pointer none, .int .i64 1]) s) : WC Try.prog base 20 [.int .i64 n] s R := by
  refine WC_open Try.func20 rfl ?_
  (repeat' (first | (simp (disch := first | omega | ((simp only [Ab.next_alloc, Ab.next_upd, List.length_cons, List.length_nil, ne_eq, not_true_eq_false, not_false_eq_true]) <;> omega) | decide) only [↓stepPre, stepPost, ↓W_cond, ↓W_block, ↓reduceIte, Nat.reduceEqDiff, Nat.reduceLT, Nat.reduceLeDiff, ret0, stVar, isTup, Value.cells, Nat.le_refl, Nat.reduceAdd, Nat.reduceMul, Nat.reduceSub, env0, binV, intV, reduceCtorEq, pickV, nilCheckV, ptrV, unV, true_and, and_true, Nat.add_zero, Nat.zero_add, Rt, resultsV, allV, resV, Bool.not_true, Bool.not_false, calleeV, builtinV, eqV, fieldAddrV, ldVar, stN_own, stN_ownL, Int.fdiv_eq_ediv_of_nonneg, Int.reduceToNat, Int.reducePow, IntKind.bits, convV, ne_eq, not_false_eq_true, not_true_eq_false, Int.reduceNeg, Int.reduceAdd, Int.reduceSub, Int.reduceLT, Int.reduceLE, extractV, decide_true, decide_false, Int.reduceEq, mkFuncV, stBBoxes, beq_self_eq_true, tyB0Boxes, getL_take, glBBoxes, Try.results20, Dok_free, Dok_alloc, eq_self, Int.toNat_natCast, *]) | (refine Gif_dt (fun _ => ?_) (fun _ => ?_)) | (refine Gif_df (fun _ => ?_) (fun _ => ?_)) | (refine Wif_dec (fun _ => ?_) (fun _ => ?_)) | (refine Gif_bt (fun _ => ?_) (fun _ => ?_)) | (refine Gif_bf (fun _ => ?_) (fun _ => ?_)) | (refine Wif_bool (fun _ => ?_) (fun _ => ?_)) | (exfalso; omega)))
theorem bnew_ok {n : Nat} (hn : 1 ≤ n ∧ n ≤ 8) (hbn : base ≤ s.next) (hR : ∀ s' p, Mild s s' → OwnB base s' p (List.replicate n none) (fun b => b = p) → p = s.next → R (.tuple #[.pointer (some ⟨p, 0, none⟩), .int .i64 0]) s') : WC Try.prog base 20 [.int .i64 (n : Int)] s R := by
  refine WC_open Try.func20 rfl ?_
  (repeat' (first | (simp (disch := first | omega | ((simp only [Ab.next_alloc, Ab.next_upd, List.length_cons, List.length_nil, ne_eq, not_true_eq_false, not_false_eq_true]) <;> omega) | decide) only [↓stepPre, stepPost, ↓W_cond, ↓W_block, ↓reduceIte, Nat.reduceEqDiff, Nat.reduceLT, Nat.reduceLeDiff, ret0, stVar, isTup, Value.cells, Nat.le_refl, Nat.reduceAdd, Nat.reduceMul, Nat.reduceSub, env0, binV, intV, reduceCtorEq, pickV, nilCheckV, ptrV, unV, true_and, and_true, Nat.add_zero, Nat.zero_add, Rt, resultsV, allV, resV, Bool.not_true, Bool.not_false, calleeV, builtinV, eqV, fieldAddrV, ldVar, stN_own, stN_ownL, Int.fdiv_eq_ediv_of_nonneg, Int.reduceToNat, Int.reducePow, IntKind.bits, convV, ne_eq, not_false_eq_true, not_true_eq_false, Int.reduceNeg, Int.reduceAdd, Int.reduceSub, Int.reduceLT, Int.reduceLE, extractV, decide_true, decide_false, Int.reduceEq, mkFuncV, stBBoxes, beq_self_eq_true, tyB0Boxes, getL_take, glBBoxes, buildV, fillL, Try.results20, Dok_free, Dok_alloc, eq_self, Int.toNat_natCast, *]) | (refine Gif_dt (fun _ => ?_) (fun _ => ?_)) | (refine Gif_df (fun _ => ?_) (fun _ => ?_)) | (refine Wif_dec (fun _ => ?_) (fun _ => ?_)) | (refine Gif_bt (fun _ => ?_) (fun _ => ?_)) | (refine Gif_bf (fun _ => ?_) (fun _ => ?_)) | (refine Wif_bool (fun _ => ?_) (fun _ => ?_)) | (exfalso; omega)))
  refine hR _ s.next (.alloc _ _) ⟨hbn, by simp only [Ab.next_alloc]; omega, rfl, fun b hb => ?_, by simp; omega, fun po h => by simp at h, [.pointer none, .pointer none, .pointer none, .pointer none, .pointer none, .pointer none, .pointer none, .pointer none], rfl, by rw [Ab.heap_alloc_new]; simp, fun i hi => ?_⟩ rfl
  · simp only [Ab.next_alloc]; omega
  · have : (List.replicate n (none : Option Po)).getD i none = none := by rw [List.getD_eq_getElem?_getD, List.getElem?_replicate]; split <;> rfl
    rw [this]
    have hc : i = 0 ∨ i = 1 ∨ i = 2 ∨ i = 3 ∨ i = 4 ∨ i = 5 ∨ i = 6 ∨ i = 7 := by omega
    rcases hc with rfl | rfl | rfl | rfl | rfl | rfl | rfl | rfl <;> exact ⟨_, rfl, rfl⟩
theorem row_p {p : Nat} {L : Bx} {X : Nat → Prop} (h : OwnB base s p L X) (hR : R (.slice (some ⟨p, 1, none⟩) L.length L.length) s) : WC Try.prog base 55 [.pointer (some ⟨p, 0, none⟩)] s R := by
  refine WC_open Try.func55 rfl ?_
  obtain ⟨qs, h1, h2, h3⟩ := h.row
  have hb := h.hb
  have hr := h.room
  (repeat' (first | (simp (disch := first | omega | ((simp only [Ab.next_alloc, Ab.next_upd, List.length_cons, List.length_nil, ne_eq, not_true_eq_false, not_false_eq_true]) <;> omega) | decide) only [↓stepPre, stepPost, ↓W_cond, ↓W_block, ↓reduceIte, Nat.reduceEqDiff, Nat.reduceLT, Nat.reduceLeDiff, ret0, stVar, isTup, Value.cells, Nat.le_refl, Nat.reduceAdd, Nat.reduceMul, Nat.reduceSub, env0, binV, intV, reduceCtorEq, pickV, nilCheckV, ptrV, unV, true_and, and_true, Nat.add_zero, Nat.zero_add, Rt, resultsV, allV, resV, Bool.not_true, Bool.not_false, calleeV, builtinV, eqV, fieldAddrV, ldVar, stN_own, stN_ownL, Int.fdiv_eq_ediv_of_nonneg, Int.reduceToNat, Int.reducePow, IntKind.bits, convV, ne_eq, not_false_eq_true, not_true_eq_false, Int.reduceNeg, Int.reduceAdd, Int.reduceSub, Int.reduceLT, Int.reduceLE, extractV, decide_true, decide_false, Int.reduceEq, mkFuncV, stBBoxes, beq_self_eq_true, tyB0Boxes, getL_take, glBBoxes, sliceArr3 Ty.arr108 Ty.siz107, Try.results55, Dok_free, Dok_alloc, eq_self, Int.toNat_natCast, *]) | (refine Gif_dt (fun _ => ?_) (fun _ => ?_)) | (refine Gif_df (fun _ => ?_) (fun _ => ?_)) | (refine Wif_dec (fun _ => ?_) (fun _ => ?_)) | (refine Gif_bt (fun _ => ?_) (fun _ => ?_)) | (refine Gif_bf (fun _ => ?_) (fun _ => ?_)) | (refine Wif_bool (fun _ => ?_) (fun _ => ?_)) | (refine W_draw (fun _ => false) (fun _ => false) (fun _ => false) (by kernel_rfl) (by kernel_rfl) ?_) | (exfalso; omega)))
theorem room_p {p : Nat} {L : Bx} {X : Nat → Prop} (h : OwnB base s p L X) (hR : R (.int .i64 (L.length : Nat)) s) : WC Try.prog base 30 [.pointer (some ⟨p, 0, none⟩)] s R := by
  refine WC_open Try.func30 rfl ?_
  (repeat' (first | (simp (disch := first | omega | ((simp only [Ab.next_alloc, Ab.next_upd, List.length_cons, List.length_nil, ne_eq, not_true_eq_false, not_false_eq_true]) <;> omega) | decide) only [↓stepPre, stepPost, ↓W_cond, ↓W_block, ↓reduceIte, Nat.reduceEqDiff, Nat.reduceLT, Nat.reduceLeDiff, ret0, stVar, isTup, Value.cells, Nat.le_refl, Nat.reduceAdd, Nat.reduceMul, Nat.reduceSub, env0, binV, intV, reduceCtorEq, pickV, nilCheckV, ptrV, unV, true_and, and_true, Nat.add_zero, Nat.zero_add, Rt, resultsV, allV, resV, Bool.not_true, Bool.not_false, calleeV, builtinV, eqV, fieldAddrV, ldVar, stN_own, stN_ownL, Int.fdiv_eq_ediv_of_nonneg, Int.reduceToNat, Int.reducePow, IntKind.bits, convV, ne_eq, not_false_eq_true, not_true_eq_false, Int.reduceNeg, Int.reduceAdd, Int.reduceSub, Int.reduceLT, Int.reduceLE, extractV, decide_true, decide_false, Int.reduceEq, mkFuncV, stBBoxes, beq_self_eq_true, tyB0Boxes, getL_take, glBBoxes, lenB, Try.results30, Dok_free, Dok_alloc, eq_self, Int.toNat_natCast, *]) | (refine Gif_dt (fun _ => ?_) (fun _ => ?_)) | (refine Gif_df (fun _ => ?_) (fun _ => ?_)) | (refine Wif_dec (fun _ => ?_) (fun _ => ?_)) | (refine Gif_bt (fun _ => ?_) (fun _ => ?_)) | (refine Gif_bf (fun _ => ?_) (fun _ => ?_)) | (refine Wif_bool (fun _ => ?_) (fun _ => ?_)) | (refine row_p h ?_) | (exfalso; omega)))
/-- The first cell of which something holds. -/
theorem pIndexFunc_ok {p : Nat} {L : Bx} {X : Nat → Prop} {g : FuncId} {ca : Array Value} {q : Nat → Bool} (h : OwnB base s p L X)
    (hcl : ∀ i v, i < L.length → CellB base s p X (L.getD i none) v → ∀ (R' : Value → St → Prop), R' (.bool (q i)) s → WC Try.prog base g (v :: ca.toList) s R')
    (hR : R (.int .i64 (fidx q L.length)) s) :
    WC Try.prog base 76 [.slice (some ⟨p, 1, none⟩) L.length L.length, .func (.func g) #[] ca] s R := by
  refine WC_open Try.func76 rfl ?_
  obtain ⟨qs, k1, k2, k3⟩ := h.row
  have hb := h.hb
  have hr := h.room
  simp (disch := first | omega | ((simp only [Ab.next_alloc, Ab.next_upd, List.length_cons, List.length_nil, ne_eq, not_true_eq_false, not_false_eq_true]) <;> omega) | decide) only [↓stepPre, stepPost, ↓W_cond, ↓W_block, ↓reduceIte, Nat.reduceEqDiff, Nat.reduceLT, Nat.reduceLeDiff, ret0, stVar, isTup, Value.cells, Nat.le_refl, Nat.reduceAdd, Nat.reduceMul, Nat.reduceSub, env0, binV, intV, reduceCtorEq, pickV, nilCheckV, ptrV, unV, true_and, and_true, Nat.add_zero, Nat.zero_add, Rt, resultsV, allV, resV, Bool.not_true, Bool.not_false, calleeV, builtinV, eqV, fieldAddrV, ldVar, stN_own, stN_ownL, Int.fdiv_eq_ediv_of_nonneg, Int.reduceToNat, Int.reducePow, IntKind.bits, convV, ne_eq, not_false_eq_true, not_true_eq_false, Int.reduceNeg, Int.reduceAdd, Int.reduceSub, Int.reduceLT, Int.reduceLE, extractV, decide_true, decide_false, Int.reduceEq, mkFuncV, stBBoxes, beq_self_eq_true, tyB0Boxes, lenB]
  refine W_loop_ind L.length (fun i e s1 => s1 = s ∧ e 0 = .slice (some ⟨p, 1, none⟩) L.length L.length ∧ e 1 = .func (.func g) #[] ca ∧ e 7 = .int .i64 L.length ∧ e 8 = .int .i64 i ∧ ∀ j, j < i → q j = false) ?_ ⟨rfl, rfl, rfl, rfl, rfl, fun j hj => by omega⟩
  rintro i e s1 hi ⟨rfl, h0, h1, h7, h8, hq⟩
  simp (disch := first | omega | ((simp only [Ab.next_alloc, Ab.next_upd, List.length_cons, List.length_nil, ne_eq, not_true_eq_false, not_false_eq_true]) <;> omega) | decide) only [↓stepPre, stepPost, ↓W_cond, ↓W_block, ↓reduceIte, Nat.reduceEqDiff, Nat.reduceLT, Nat.reduceLeDiff, ret0, stVar, isTup, Value.cells, Nat.le_refl, Nat.reduceAdd, Nat.reduceMul, Nat.reduceSub, env0, binV, intV, reduceCtorEq, pickV, nilCheckV, ptrV, unV, true_and, and_true, Nat.add_zero, Nat.zero_add, Rt, resultsV, allV, resV, Bool.not_true, Bool.not_false, calleeV, builtinV, eqV, fieldAddrV, ldVar, stN_own, stN_ownL, Int.fdiv_eq_ediv_of_nonneg, Int.reduceToNat, Int.reducePow, IntKind.bits, convV, ne_eq, not_false_eq_true, not_true_eq_false, Int.reduceNeg, Int.reduceAdd, Int.reduceSub, Int.reduceLT, Int.reduceLE, extractV, decide_true, decide_false, Int.reduceEq, mkFuncV, stBBoxes, beq_self_eq_true, tyB0Boxes, h0, h1, h7, h8]
  refine Wif_dec (fun hlt => ?_) (fun hge => ?_)
  · have hlt : i < L.length := by omega
    obtain ⟨v, g1, g2⟩ := k3 i (by omega)
    have g3 : (Value.int .i64 (L.length : Nat) :: qs)[1 + i * 1]? = some v := by rw [Nat.mul_one, Nat.add_comm, List.getElem?_cons_succ]; exact g1
    simp (disch := first | omega | ((simp only [Ab.next_alloc, Ab.next_upd, List.length_cons, List.length_nil, ne_eq, not_true_eq_false, not_false_eq_true]) <;> omega) | decide) only [↓stepPre, stepPost, ↓W_cond, ↓W_block, ↓reduceIte, Nat.reduceEqDiff, Nat.reduceLT, Nat.reduceLeDiff, ret0, stVar, isTup, Value.cells, Nat.le_refl, Nat.reduceAdd, Nat.reduceMul, Nat.reduceSub, env0, binV, intV, reduceCtorEq, pickV, nilCheckV, ptrV, unV, true_and, and_true, Nat.add_zero, Nat.zero_add, Rt, resultsV, allV, resV, Bool.not_true, Bool.not_false, calleeV, builtinV, eqV, fieldAddrV, ldVar, stN_own, stN_ownL, Int.fdiv_eq_ediv_of_nonneg, Int.reduceToNat, Int.reducePow, IntKind.bits, convV, ne_eq, not_false_eq_true, not_true_eq_false, Int.reduceNeg, Int.reduceAdd, Int.reduceSub, Int.reduceLT, Int.reduceLE, extractV, decide_true, decide_false, Int.reduceEq, mkFuncV, stBBoxes, beq_self_eq_true, tyB0Boxes, h0, h1, h7, h8, k2, g3, idxSl Ty.elem124 Ty.siz107, Int.toNat_natCast]
    refine hcl i v hlt g2 _ ?_
    cases hqi : q i with
    | true =>
      simp (disch := first | omega | ((simp only [Ab.next_alloc, Ab.next_upd, List.length_cons, List.length_nil, ne_eq, not_true_eq_false, not_false_eq_true]) <;> omega) | decide) only [↓stepPre, stepPost, ↓W_cond, ↓W_block, ↓reduceIte, Nat.reduceEqDiff, Nat.reduceLT, Nat.reduceLeDiff, ret0, stVar, isTup, Value.cells, Nat.le_refl, Nat.reduceAdd, Nat.reduceMul, Nat.reduceSub, env0, binV, intV, reduceCtorEq, pickV, nilCheckV, ptrV, unV, true_and, and_true, Nat.add_zero, Nat.zero_add, Rt, resultsV, allV, resV, Bool.not_true, Bool.not_false, calleeV, builtinV, eqV, fieldAddrV, ldVar, stN_own, stN_ownL, Int.fdiv_eq_ediv_of_nonneg, Int.reduceToNat, Int.reducePow, IntKind.bits, convV, ne_eq, not_false_eq_true, not_true_eq_false, Int.reduceNeg, Int.reduceAdd, Int.reduceSub, Int.reduceLT, Int.reduceLE, extractV, decide_true, decide_false, Int.reduceEq, mkFuncV, stBBoxes, beq_self_eq_true, tyB0Boxes, h0, h1, h7, h8, Try.results76]
      rw [fidx_some hlt hqi hq] at hR; exact hR
    | false =>
      simp (disch := first | omega | ((simp only [Ab.next_alloc, Ab.next_upd, List.length_cons, List.length_nil, ne_eq, not_true_eq_false, not_false_eq_true]) <;> omega) | decide) only [↓stepPre, stepPost, ↓W_cond, ↓W_block, ↓reduceIte, Nat.reduceEqDiff, Nat.reduceLT, Nat.reduceLeDiff, ret0, stVar, isTup, Value.cells, Nat.le_refl, Nat.reduceAdd, Nat.reduceMul, Nat.reduceSub, env0, binV, intV, reduceCtorEq, pickV, nilCheckV, ptrV, unV, true_and, and_true, Nat.add_zero, Nat.zero_add, Rt, resultsV, allV, resV, Bool.not_true, Bool.not_false, calleeV, builtinV, eqV, fieldAddrV, ldVar, stN_own, stN_ownL, Int.fdiv_eq_ediv_of_nonneg, Int.reduceToNat, Int.reducePow, IntKind.bits, convV, ne_eq, not_false_eq_true, not_true_eq_false, Int.reduceNeg, Int.reduceAdd, Int.reduceSub, Int.reduceLT, Int.reduceLE, extractV, decide_true, decide_false, Int.reduceEq, mkFuncV, stBBoxes, beq_self_eq_true, tyB0Boxes, h0, h1, h7, h8]
      refine ⟨by omega, rfl, fun j hj => ?_⟩
      by_cases hji : j = i
      · rw [hji]; exact hqi
      · exact hq j (by omega)
  · simp (disch := first | omega | ((simp only [Ab.next_alloc, Ab.next_upd, List.length_cons, List.length_nil, ne_eq, not_true_eq_false, not_false_eq_true]) <;> omega) | decide) only [↓stepPre, stepPost, ↓W_cond, ↓W_block, ↓reduceIte, Nat.reduceEqDiff, Nat.reduceLT, Nat.reduceLeDiff, ret0, stVar, isTup, Value.cells, Nat.le_refl, Nat.reduceAdd, Nat.reduceMul, Nat.reduceSub, env0, binV, intV, reduceCtorEq, pickV, nilCheckV, ptrV, unV, true_and, and_true, Nat.add_zero, Nat.zero_add, Rt, resultsV, allV, resV, Bool.not_true, Bool.not_false, calleeV, builtinV, eqV, fieldAddrV, ldVar, stN_own, stN_ownL, Int.fdiv_eq_ediv_of_nonneg, Int.reduceToNat, Int.reducePow, IntKind.bits, convV, ne_eq, not_false_eq_true, not_true_eq_false, Int.reduceNeg, Int.reduceAdd, Int.reduceSub, Int.reduceLT, Int.reduceLE, extractV, decide_true, decide_false, Int.reduceEq, mkFuncV, stBBoxes, beq_self_eq_true, tyB0Boxes, h0, h1, h7, h8, Try.results76]
    rw [fidx_none fun j hj => hq j (by omega)] at hR; exact hR
theorem bfirst_ok {p : Nat} {L : Bx} {X : Nat → Prop} {g : FuncId} {ca : Array Value} {q : Nat → Bool} (h : OwnB base s p L X)
    (hcl : ∀ i v, i < L.length → CellB base s p X (L.getD i none) v → ∀ (R' : Value → St → Prop), R' (.bool (q i)) s → WC Try.prog base g (v :: ca.toList) s R')
    (hR : R (.int .i64 (fidx q L.length)) s) :
    WC Try.prog base 48 [.pointer (some ⟨p, 0, none⟩), .func (.func g) #[] ca] s R := by
  refine WC_open Try.func48 rfl ?_
  (repeat' (first | (simp (disch := first | omega | ((simp only [Ab.next_alloc, Ab.next_upd, List.length_cons, List.length_nil, ne_eq, not_true_eq_false, not_false_eq_true]) <;> omega) | decide) only [↓stepPre, stepPost, ↓W_cond, ↓W_block, ↓reduceIte, Nat.reduceEqDiff, Nat.reduceLT, Nat.reduceLeDiff, ret0, stVar, isTup, Value.cells, Nat.le_refl, Nat.reduceAdd, Nat.reduceMul, Nat.reduceSub, env0, binV, intV, reduceCtorEq, pickV, nilCheckV, ptrV, unV, true_and, and_true, Nat.add_zero, Nat.zero_add, Rt, resultsV, allV, resV, Bool.not_true, Bool.not_false, calleeV, builtinV, eqV, fieldAddrV, ldVar, stN_own, stN_ownL, Int.fdiv_eq_ediv_of_nonneg, Int.reduceToNat, Int.reducePow, IntKind.bits, convV, ne_eq, not_false_eq_true, not_true_eq_false, Int.reduceNeg, Int.reduceAdd, Int.reduceSub, Int.reduceLT, Int.reduceLE, extractV, decide_true, decide_false, Int.reduceEq, mkFuncV, stBBoxes, beq_self_eq_true, tyB0Boxes, getL_take, glBBoxes, Try.results48, Dok_free, Dok_alloc, eq_self, Int.toNat_natCast, *]) | (refine Gif_dt (fun _ => ?_) (fun _ => ?_)) | (refine Gif_df (fun _ => ?_) (fun _ => ?_)) | (refine Wif_dec (fun _ => ?_) (fun _ => ?_)) | (refine Gif_bt (fun _ => ?_) (fun _ => ?_)) | (refine Gif_bf (fun _ => ?_) (fun _ => ?_)) | (refine Wif_bool (fun _ => ?_) (fun _ => ?_)) | (refine row_p h ?_) | (refine pIndexFunc_ok h hcl ?_) | (exfalso; omega)))
theorem find1_p {p q0 : Nat} {X : Nat → Prop} {o : Option Po} {v : Value} {t : Int} (hv : CellB base s p X o v) (ht : s.heap q0 = .row [.int .i64 t]) (hq : base ≤ q0) (hl : ∀ b, X b → base ≤ b)
    (hR : R (.bool (tagO t o)) s) : WC Try.prog base 50 [v, .pointer (some ⟨q0, 0, none⟩)] s R := by
  refine WC_open Try.func50 rfl ?_
  cases o with
  | none =>
    have hv : v = .pointer none := hv
    subst hv
    (repeat' (first | (simp (disch := first | omega | ((simp only [Ab.next_alloc, Ab.next_upd, List.length_cons, List.length_nil, ne_eq, not_true_eq_false, not_false_eq_true]) <;> omega) | decide) only [↓stepPre, stepPost, ↓W_cond, ↓W_block, ↓reduceIte, Nat.reduceEqDiff, Nat.reduceLT, Nat.reduceLeDiff, ret0, stVar, isTup, Value.cells, Nat.le_refl, Nat.reduceAdd, Nat.reduceMul, Nat.reduceSub, env0, binV, intV, reduceCtorEq, pickV, nilCheckV, ptrV, unV, true_and, and_true, Nat.add_zero, Nat.zero_add, Rt, resultsV, allV, resV, Bool.not_true, Bool.not_false, calleeV, builtinV, eqV, fieldAddrV, ldVar, stN_own, stN_ownL, Int.fdiv_eq_ediv_of_nonneg, Int.reduceToNat, Int.reducePow, IntKind.bits, convV, ne_eq, not_false_eq_true, not_true_eq_false, Int.reduceNeg, Int.reduceAdd, Int.reduceSub, Int.reduceLT, Int.reduceLE, extractV, decide_true, decide_false, Int.reduceEq, mkFuncV, stBBoxes, beq_self_eq_true, tyB0Boxes, getL_take, glBBoxes, tagO, Try.results50, Dok_free, Dok_alloc, eq_self, Int.toNat_natCast, *]) | (refine Gif_dt (fun _ => ?_) (fun _ => ?_)) | (refine Gif_df (fun _ => ?_) (fun _ => ?_)) | (refine Wif_dec (fun _ => ?_) (fun _ => ?_)) | (refine Gif_bt (fun _ => ?_) (fun _ => ?_)) | (refine Gif_bf (fun _ => ?_) (fun _ => ?_)) | (refine Wif_bool (fun _ => ?_) (fun _ => ?_)) | (refine W_draw (fun _ => false) (fun _ => false) (fun _ => false) (by kernel_rfl) (by kernel_rfl) ?_) | (exfalso; omega)))
    exact hR
  | some po =>
    obtain ⟨q, rfl, h2, h3, h4⟩ := hv
    have hbq := hl q h2
    simp only [Po.c] at h4
    (repeat' (first | (simp (disch := first | omega | ((simp only [Ab.next_alloc, Ab.next_upd, List.length_cons, List.length_nil, ne_eq, not_true_eq_false, not_false_eq_true]) <;> omega) | decide) only [↓stepPre, stepPost, ↓W_cond, ↓W_block, ↓reduceIte, Nat.reduceEqDiff, Nat.reduceLT, Nat.reduceLeDiff, ret0, stVar, isTup, Value.cells, Nat.le_refl, Nat.reduceAdd, Nat.reduceMul, Nat.reduceSub, env0, binV, intV, reduceCtorEq, pickV, nilCheckV, ptrV, unV, true_and, and_true, Nat.add_zero, Nat.zero_add, Rt, resultsV, allV, resV, Bool.not_true, Bool.not_false, calleeV, builtinV, eqV, fieldAddrV, ldVar, stN_own, stN_ownL, Int.fdiv_eq_ediv_of_nonneg, Int.reduceToNat, Int.reducePow, IntKind.bits, convV, ne_eq, not_false_eq_true, not_true_eq_false, Int.reduceNeg, Int.reduceAdd, Int.reduceSub, Int.reduceLT, Int.reduceLE, extractV, decide_true, decide_false, Int.reduceEq, mkFuncV, stBBoxes, beq_self_eq_true, tyB0Boxes, getL_take, glBBoxes, tagO, Try.results50, Dok_free, Dok_alloc, eq_self, Int.toNat_natCast, *]) | (refine Gif_dt (fun _ => ?_) (fun _ => ?_)) | (refine Gif_df (fun _ => ?_) (fun _ => ?_)) | (refine Wif_dec (fun _ => ?_) (fun _ => ?_)) | (refine Gif_bt (fun _ => ?_) (fun _ => ?_)) | (refine Gif_bf (fun _ => ?_) (fun _ => ?_)) | (refine Wif_bool (fun _ => ?_) (fun _ => ?_)) | (refine W_draw (fun _ => false) (fun _ => false) (fun _ => false) (by kernel_rfl) (by kernel_rfl) ?_) | (exfalso; omega)))
    exact hR
theorem find_ok {p : Nat} {L : Bx} {X : Nat → Prop} {t : Int} (h : OwnB base s p L X) (hbn : base ≤ s.next) (hR : ∀ s', Mild s s' → R (.int .i64 (findT L t)) s') : WC Try.prog base 23 [.pointer (some ⟨p, 0, none⟩), .int .i64 t] s R := by
  refine WC_open Try.func23 rfl ?_
  simp (disch := first | omega | ((simp only [Ab.next_alloc, Ab.next_upd, List.length_cons, List.length_nil, ne_eq, not_true_eq_false, not_false_eq_true]) <;> omega) | decide) only [↓stepPre, stepPost, ↓W_cond, ↓W_block, ↓reduceIte, Nat.reduceEqDiff, Nat.reduceLT, Nat.reduceLeDiff, ret0, stVar, isTup, Value.cells, Nat.le_refl, Nat.reduceAdd, Nat.reduceMul, Nat.reduceSub, env0, binV, intV, reduceCtorEq, pickV, nilCheckV, ptrV, unV, true_and, and_true, Nat.add_zero, Nat.zero_add, Rt, resultsV, allV, resV, Bool.not_true, Bool.not_false, calleeV, builtinV, eqV, fieldAddrV, ldVar, stN_own, stN_ownL, Int.fdiv_eq_ediv_of_nonneg, Int.reduceToNat, Int.reducePow, IntKind.bits, convV, ne_eq, not_false_eq_true, not_true_eq_false, Int.reduceNeg, Int.reduceAdd, Int.reduceSub, Int.reduceLT, Int.reduceLE, extractV, decide_true, decide_false, Int.reduceEq, mkFuncV, stBBoxes, beq_self_eq_true, tyB0Boxes]
  have hm := Mild.alloc s (.row [.int .i64 t])
  refine bfirst_ok (q := tagAt L t) (h.mild hm) (fun i v hi hv R' hR' => find1_p hv (Ab.heap_alloc_new _ _) hbn (fun b hb => (h.low b hb).1) hR') ?_
  simp (disch := first | omega | ((simp only [Ab.next_alloc, Ab.next_upd, List.length_cons, List.length_nil, ne_eq, not_true_eq_false, not_false_eq_true]) <;> omega) | decide) only [↓stepPre, stepPost, ↓W_cond, ↓W_block, ↓reduceIte, Nat.reduceEqDiff, Nat.reduceLT, Nat.reduceLeDiff, ret0, stVar, isTup, Value.cells, Nat.le_refl, Nat.reduceAdd, Nat.reduceMul, Nat.reduceSub, env0, binV, intV, reduceCtorEq, pickV, nilCheckV, ptrV, unV, true_and, and_true, Nat.add_zero, Nat.zero_add, Rt, resultsV, allV, resV, Bool.not_true, Bool.not_false, calleeV, builtinV, eqV, fieldAddrV, ldVar, stN_own, stN_ownL, Int.fdiv_eq_ediv_of_nonneg, Int.reduceToNat, Int.reducePow, IntKind.bits, convV, ne_eq, not_false_eq_true, not_true_eq_false, Int.reduceNeg, Int.reduceAdd, Int.reduceSub, Int.reduceLT, Int.reduceLE, extractV, decide_true, decide_false, Int.reduceEq, mkFuncV, stBBoxes, beq_self_eq_true, tyB0Boxes, Try.results23]
  exact hR _ hm
theorem put1_p {p : Nat} {X : Nat → Prop} {o : Option Po} {v : Value} (hv : CellB base s p X o v) (hR : R (.bool o.isNone) s) : WC Try.prog base 49 [v] s R := by
  refine WC_open Try.func49 rfl ?_
  cases o with
  | none =>
    have hv : v = .pointer none := hv
    subst hv
    (repeat' (first | (simp (disch := first | omega | ((simp only [Ab.next_alloc, Ab.next_upd, List.length_cons, List.length_nil, ne_eq, not_true_eq_false, not_false_eq_true]) <;> omega) | decide) only [↓stepPre, stepPost, ↓W_cond, ↓W_block, ↓reduceIte, Nat.reduceEqDiff, Nat.reduceLT, Nat.reduceLeDiff, ret0, stVar, isTup, Value.cells, Nat.le_refl, Nat.reduceAdd, Nat.reduceMul, Nat.reduceSub, env0, binV, intV, reduceCtorEq, pickV, nilCheckV, ptrV, unV, true_and, and_true, Nat.add_zero, Nat.zero_add, Rt, resultsV, allV, resV, Bool.not_true, Bool.not_false, calleeV, builtinV, eqV, fieldAddrV, ldVar, stN_own, stN_ownL, Int.fdiv_eq_ediv_of_nonneg, Int.reduceToNat, Int.reducePow, IntKind.bits, convV, ne_eq, not_false_eq_true, not_true_eq_false, Int.reduceNeg, Int.reduceAdd, Int.reduceSub, Int.reduceLT, Int.reduceLE, extractV, decide_true, decide_false, Int.reduceEq, mkFuncV, stBBoxes, beq_self_eq_true, tyB0Boxes, getL_take, glBBoxes, Option.isNone_none, Try.results49, Dok_free, Dok_alloc, eq_self, Int.toNat_natCast, *]) | (refine Gif_dt (fun _ => ?_) (fun _ => ?_)) | (refine Gif_df (fun _ => ?_) (fun _ => ?_)) | (refine Wif_dec (fun _ => ?_) (fun _ => ?_)) | (refine Gif_bt (fun _ => ?_) (fun _ => ?_)) | (refine Gif_bf (fun _ => ?_) (fun _ => ?_)) | (refine Wif_bool (fun _ => ?_) (fun _ => ?_)) | (exfalso; omega)))
    exact hR
  | some po =>
    obtain ⟨q, rfl, h2, h3, h4⟩ := hv
    (repeat' (first | (simp (disch := first | omega | ((simp only [Ab.next_alloc, Ab.next_upd, List.length_cons, List.length_nil, ne_eq, not_true_eq_false, not_false_eq_true]) <;> omega) | decide) only [↓stepPre, stepPost, ↓W_cond, ↓W_block, ↓reduceIte, Nat.reduceEqDiff, Nat.reduceLT, Nat.reduceLeDiff, ret0, stVar, isTup, Value.cells, Nat.le_refl, Nat.reduceAdd, Nat.reduceMul, Nat.reduceSub, env0, binV, intV, reduceCtorEq, pickV, nilCheckV, ptrV, unV, true_and, and_true, Nat.add_zero, Nat.zero_add, Rt, resultsV, allV, resV, Bool.not_true, Bool.not_false, calleeV, builtinV, eqV, fieldAddrV, ldVar, stN_own, stN_ownL, Int.fdiv_eq_ediv_of_nonneg, Int.reduceToNat, Int.reducePow, IntKind.bits, convV, ne_eq, not_false_eq_true, not_true_eq_false, Int.reduceNeg, Int.reduceAdd, Int.reduceSub, Int.reduceLT, Int.reduceLE, extractV, decide_true, decide_false, Int.reduceEq, mkFuncV, stBBoxes, beq_self_eq_true, tyB0Boxes, getL_take, glBBoxes, Option.isNone_some, Try.results49, Dok_free, Dok_alloc, eq_self, Int.toNat_natCast, *]) | (refine Gif_dt (fun _ => ?_) (fun _ => ?_)) | (refine Gif_df (fun _ => ?_) (fun _ => ?_)) | (refine Wif_dec (fun _ => ?_) (fun _ => ?_)) | (refine Gif_bt (fun _ => ?_) (fun _ => ?_)) | (refine Gif_bf (fun _ => ?_) (fun _ => ?_)) | (refine Wif_bool (fun _ => ?_) (fun _ => ?_)) | (exfalso; omega)))
    exact hR
/-- What putting answers, and what there is behind it. -/
def putI (L : Bx) (p : Po) : Int := if p.right = 0 ∧ findT L p.t < 0 then freeI L else -1
def putE (L : Bx) (p : Po) : Int := if p.right = 0 then (if 0 ≤ findT L p.t then 13 else if freeI L < 0 then 6 else 0) else p.right
def putL (L : Bx) (p : Po) : Bx := if p.right = 0 ∧ findT L p.t < 0 ∧ 0 ≤ freeI L then L.set (freeI L).toNat (some p) else L
theorem put_ok {p : Nat} {L : Bx} {X : Nat → Prop} {po : Po} (h : OwnB base s p L X) (hn : po.n < 2 ^ 32) (hbn : base ≤ s.next)
    (hR : ∀ s' X', Ch s s' X → (∀ b, X' b → X b ∨ s.next ≤ b) → OwnB base s' p (putL L po) X' → R (.tuple #[.int .i64 (putI L po), .int .i64 (putE L po)]) s') :
    WC Try.prog base 22 [.pointer (some ⟨p, 0, none⟩), .agg po.c.toArray] s R := by
  refine WC_open Try.func22 rfl ?_
  have hb := h.hb
  have hp := h.hp
  have hm := Mild.alloc s (.row po.c)
  have h1 := h.mild hm
  simp (disch := first | omega | ((simp only [Ab.next_alloc, Ab.next_upd, List.length_cons, List.length_nil, ne_eq, not_true_eq_false, not_false_eq_true]) <;> omega) | decide) only [↓stepPre, stepPost, ↓W_cond, ↓W_block, ↓reduceIte, Nat.reduceEqDiff, Nat.reduceLT, Nat.reduceLeDiff, ret0, stVar, isTup, Value.cells, Nat.le_refl, Nat.reduceAdd, Nat.reduceMul, Nat.reduceSub, env0, binV, intV, reduceCtorEq, pickV, nilCheckV, ptrV, unV, true_and, and_true, Nat.add_zero, Nat.zero_add, Rt, resultsV, allV, resV, Bool.not_true, Bool.not_false, calleeV, builtinV, eqV, fieldAddrV, ldVar, stN_own, stN_ownL, Int.fdiv_eq_ediv_of_nonneg, Int.reduceToNat, Int.reducePow, IntKind.bits, convV, ne_eq, not_false_eq_true, not_true_eq_false, Int.reduceNeg, Int.reduceAdd, Int.reduceSub, Int.reduceLT, Int.reduceLE, extractV, decide_true, decide_false, Int.reduceEq, mkFuncV, stBBoxes, beq_self_eq_true, tyB0Boxes, getL_take, glBBoxes]
  refine frameRight_p (ds := po.ds) rfl ?_
  by_cases hr : po.right = 0
  rotate_left
  · have hr' : ¬ rightF po.e po.n po.r po.l po.ds = 0 := hr
    (repeat' (first | (simp (disch := first | omega | ((simp only [Ab.next_alloc, Ab.next_upd, List.length_cons, List.length_nil, ne_eq, not_true_eq_false, not_false_eq_true]) <;> omega) | decide) only [↓stepPre, stepPost, ↓W_cond, ↓W_block, ↓reduceIte, Nat.reduceEqDiff, Nat.reduceLT, Nat.reduceLeDiff, ret0, stVar, isTup, Value.cells, Nat.le_refl, Nat.reduceAdd, Nat.reduceMul, Nat.reduceSub, env0, binV, intV, reduceCtorEq, pickV, nilCheckV, ptrV, unV, true_and, and_true, Nat.add_zero, Nat.zero_add, Rt, resultsV, allV, resV, Bool.not_true, Bool.not_false, calleeV, builtinV, eqV, fieldAddrV, ldVar, stN_own, stN_ownL, Int.fdiv_eq_ediv_of_nonneg, Int.reduceToNat, Int.reducePow, IntKind.bits, convV, ne_eq, not_false_eq_true, not_true_eq_false, Int.reduceNeg, Int.reduceAdd, Int.reduceSub, Int.reduceLT, Int.reduceLE, extractV, decide_true, decide_false, Int.reduceEq, mkFuncV, stBBoxes, beq_self_eq_true, tyB0Boxes, getL_take, glBBoxes, Try.results22, Dok_free, Dok_alloc, eq_self, Int.toNat_natCast, *]) | (refine Gif_dt (fun _ => ?_) (fun _ => ?_)) | (refine Gif_df (fun _ => ?_) (fun _ => ?_)) | (refine Wif_dec (fun _ => ?_) (fun _ => ?_)) | (refine Gif_bt (fun _ => ?_) (fun _ => ?_)) | (refine Gif_bf (fun _ => ?_) (fun _ => ?_)) | (refine Wif_bool (fun _ => ?_) (fun _ => ?_)) | (exfalso; omega)))
    have := hR _ X (.of_mild hm _) (fun b hb => .inl hb) (by simpa only [putL, hr, false_and, if_false] using h1)
    simp only [putI, putE, hr, false_and, if_false] at this
    exact this
  have hr' : rightF po.e po.n po.r po.l po.ds = 0 := hr
  simp (disch := first | omega | ((simp only [Ab.next_alloc, Ab.next_upd, List.length_cons, List.length_nil, ne_eq, not_true_eq_false, not_false_eq_true]) <;> omega) | decide) only [↓stepPre, stepPost, ↓W_cond, ↓W_block, ↓reduceIte, Nat.reduceEqDiff, Nat.reduceLT, Nat.reduceLeDiff, ret0, stVar, isTup, Value.cells, Nat.le_refl, Nat.reduceAdd, Nat.reduceMul, Nat.reduceSub, env0, binV, intV, reduceCtorEq, pickV, nilCheckV, ptrV, unV, true_and, and_true, Nat.add_zero, Nat.zero_add, Rt, resultsV, allV, resV, Bool.not_true, Bool.not_false, calleeV, builtinV, eqV, fieldAddrV, ldVar, stN_own, stN_ownL, Int.fdiv_eq_ediv_of_nonneg, Int.reduceToNat, Int.reducePow, IntKind.bits, convV, ne_eq, not_false_eq_true, not_true_eq_false, Int.reduceNeg, Int.reduceAdd, Int.reduceSub, Int.reduceLT, Int.reduceLE, extractV, decide_true, decide_false, Int.reduceEq, mkFuncV, stBBoxes, beq_self_eq_true, tyB0Boxes, getL_take, glBBoxes, hr']
  refine find_ok h1 (by simp only [Ab.next_alloc]; omega) fun s1 m1 => ?_
  have n1 := m1.next
  simp only [Ab.next_alloc] at n1
  have h2 := h1.mild m1
  have m01 := hm.trans m1
  have kq : s1.heap s.next = .row po.c := (m1.heap _ (by simp only [Ab.next_alloc]; omega)).trans (Ab.heap_alloc_new _ _)
  by_cases hf : 0 ≤ findT L po.t
  · simp (disch := first | omega | ((simp only [Ab.next_alloc, Ab.next_upd, List.length_cons, List.length_nil, ne_eq, not_true_eq_false, not_false_eq_true]) <;> omega) | decide) only [↓stepPre, stepPost, ↓W_cond, ↓W_block, ↓reduceIte, Nat.reduceEqDiff, Nat.reduceLT, Nat.reduceLeDiff, ret0, stVar, isTup, Value.cells, Nat.le_refl, Nat.reduceAdd, Nat.reduceMul, Nat.reduceSub, env0, binV, intV, reduceCtorEq, pickV, nilCheckV, ptrV, unV, true_and, and_true, Nat.add_zero, Nat.zero_add, Rt, resultsV, allV, resV, Bool.not_true, Bool.not_false, calleeV, builtinV, eqV, fieldAddrV, ldVar, stN_own, stN_ownL, Int.fdiv_eq_ediv_of_nonneg, Int.reduceToNat, Int.reducePow, IntKind.bits, convV, ne_eq, not_false_eq_true, not_true_eq_false, Int.reduceNeg, Int.reduceAdd, Int.reduceSub, Int.reduceLT, Int.reduceLE, extractV, decide_true, decide_false, Int.reduceEq, mkFuncV, stBBoxes, beq_self_eq_true, tyB0Boxes, getL_take, glBBoxes, hf, Try.results22]
    have := hR _ X (.of_mild m01 _) (fun b hb => .inl hb) (by simpa only [putL, Int.not_lt.2 hf, and_false, false_and, if_false] using h2)
    simpa only [putI, putE, hr, hf, if_true, Int.not_lt.2 hf, and_false, if_false] using this
  have hf' : findT L po.t < 0 := by omega
  simp (disch := first | omega | ((simp only [Ab.next_alloc, Ab.next_upd, List.length_cons, List.length_nil, ne_eq, not_true_eq_false, not_false_eq_true]) <;> omega) | decide) only [↓stepPre, stepPost, ↓W_cond, ↓W_block, ↓reduceIte, Nat.reduceEqDiff, Nat.reduceLT, Nat.reduceLeDiff, ret0, stVar, isTup, Value.cells, Nat.le_refl, Nat.reduceAdd, Nat.reduceMul, Nat.reduceSub, env0, binV, intV, reduceCtorEq, pickV, nilCheckV, ptrV, unV, true_and, and_true, Nat.add_zero, Nat.zero_add, Rt, resultsV, allV, resV, Bool.not_true, Bool.not_false, calleeV, builtinV, eqV, fieldAddrV, ldVar, stN_own, stN_ownL, Int.fdiv_eq_ediv_of_nonneg, Int.reduceToNat, Int.reducePow, IntKind.bits, convV, ne_eq, not_false_eq_true, not_true_eq_false, Int.reduceNeg, Int.reduceAdd, Int.reduceSub, Int.reduceLT, Int.reduceLE, extractV, decide_true, decide_false, Int.reduceEq, mkFuncV, stBBoxes, beq_self_eq_true, tyB0Boxes, getL_take, glBBoxes, hf]
  refine bfirst_ok (q := freeAt L) h2 (fun i v hi hv R' hR' => put1_p hv hR') ?_
  have hi2 : fidx (freeAt L) L.length = freeI L := rfl
  rw [hi2]
  by_cases hfr : freeI L < 0
  · simp (disch := first | omega | ((simp only [Ab.next_alloc, Ab.next_upd, List.length_cons, List.length_nil, ne_eq, not_true_eq_false, not_false_eq_true]) <;> omega) | decide) only [↓stepPre, stepPost, ↓W_cond, ↓W_block, ↓reduceIte, Nat.reduceEqDiff, Nat.reduceLT, Nat.reduceLeDiff, ret0, stVar, isTup, Value.cells, Nat.le_refl, Nat.reduceAdd, Nat.reduceMul, Nat.reduceSub, env0, binV, intV, reduceCtorEq, pickV, nilCheckV, ptrV, unV, true_and, and_true, Nat.add_zero, Nat.zero_add, Rt, resultsV, allV, resV, Bool.not_true, Bool.not_false, calleeV, builtinV, eqV, fieldAddrV, ldVar, stN_own, stN_ownL, Int.fdiv_eq_ediv_of_nonneg, Int.reduceToNat, Int.reducePow, IntKind.bits, convV, ne_eq, not_false_eq_true, not_true_eq_false, Int.reduceNeg, Int.reduceAdd, Int.reduceSub, Int.reduceLT, Int.reduceLE, extractV, decide_true, decide_false, Int.reduceEq, mkFuncV, stBBoxes, beq_self_eq_true, tyB0Boxes, getL_take, glBBoxes, hfr, Try.results22]
    have := hR _ X (.of_mild m01 _) (fun b hb => .inl hb) (by simpa only [putL, Int.not_le.2 hfr, and_false, if_false] using h2)
    simp only [putI, putE, hr, hf, hf', hfr, and_self, if_true, if_false] at this
    rcases fidx_cases (freeAt L) L.length with ⟨i, -, -, -, h6⟩ | ⟨-, h6⟩
    · rw [hi2] at h6; omega
    · rw [hi2] at h6; rw [h6] at this; exact this
  obtain ⟨i, hi, g1, g2, g3⟩ : ∃ i, i < L.length ∧ freeAt L i = true ∧ (∀ j, j < i → freeAt L j = false) ∧ freeI L = i := by
    rcases fidx_cases (freeAt L) L.length with h | ⟨-, h6⟩
    · exact h
    · rw [hi2] at h6; omega
  have hroom := h.room
  obtain ⟨qs, k1, k2, k3⟩ := h2.row
  have hset : setL (Value.int .i64 (L.length : Nat) :: qs) (1 + i * 1) [.pointer (some ⟨s.next, 0, none⟩)] = .int .i64 (L.length : Nat) :: qs.set i (.pointer (some ⟨s.next, 0, none⟩)) := by
    rw [Nat.mul_one, Nat.add_comm]; rfl
  rw [g3]
  have hni : ¬ ((i : Int) < 0) := by omega
  simp (disch := first | omega | ((simp only [Ab.next_alloc, Ab.next_upd, List.length_cons, List.length_nil, ne_eq, not_true_eq_false, not_false_eq_true]) <;> omega) | decide) only [↓stepPre, stepPost, ↓W_cond, ↓W_block, ↓reduceIte, Nat.reduceEqDiff, Nat.reduceLT, Nat.reduceLeDiff, ret0, stVar, isTup, Value.cells, Nat.le_refl, Nat.reduceAdd, Nat.reduceMul, Nat.reduceSub, env0, binV, intV, reduceCtorEq, pickV, nilCheckV, ptrV, unV, true_and, and_true, Nat.add_zero, Nat.zero_add, Rt, resultsV, allV, resV, Bool.not_true, Bool.not_false, calleeV, builtinV, eqV, fieldAddrV, ldVar, stN_own, stN_ownL, Int.fdiv_eq_ediv_of_nonneg, Int.reduceToNat, Int.reducePow, IntKind.bits, convV, ne_eq, not_false_eq_true, not_true_eq_false, Int.reduceNeg, Int.reduceAdd, Int.reduceSub, Int.reduceLT, Int.reduceLE, extractV, decide_true, decide_false, Int.reduceEq, mkFuncV, stBBoxes, beq_self_eq_true, tyB0Boxes, getL_take, glBBoxes, k2, hset, k1, hni, idxArr Ty.arr108 Ty.siz107, Int.toNat_natCast, Try.results22]
  have hg : po.good := ⟨hn, hr⟩
  have := hR (s1.upd p (.row (.int .i64 (L.length : Nat) :: qs.set i (.pointer (some ⟨s.next, 0, none⟩))))) (fun b => X b ∨ b = s.next) (Ch.upd' (.of_mild m01 _) fun _ => h.hX) (fun b hb => hb.imp id fun e => by omega)
    (by
      simp only [putL, hr, hf', g3, true_and]
      rw [if_pos (by omega), Int.toNat_natCast]
      refine ⟨hb, by simp only [Ab.next_upd]; omega, .inl h.hX, fun b hx => ?_, by simpa using hroom, fun po' hpo => ?_, qs.set i (.pointer (some ⟨s.next, 0, none⟩)), by simpa using k1, by rw [Ab.heap_upd_same]; simp, fun j hj => ?_⟩
      · simp only [Ab.next_upd]
        rcases hx with hx | hx
        · have := h.low b hx; omega
        · omega
      · rcases List.mem_or_eq_of_mem_set hpo with h | h
        · exact h2.good _ h
        · cases h; exact hg
      · by_cases hji : j = i
        · subst hji
          refine ⟨_, List.getElem?_set_self (by omega), ?_⟩
          have : (L.set j (some po)).getD j none = some po := by rw [List.getD_eq_getElem?_getD, List.getElem?_set_self hi]; rfl
          rw [this]
          exact ⟨s.next, rfl, .inr rfl, by omega, by rw [Ab.heap_upd_ne _ _ (by omega)]; exact kq⟩
        · obtain ⟨v, e1, e2⟩ := k3 j hj
          refine ⟨v, by rw [List.getElem?_set_ne (Ne.symm hji)]; exact e1, ?_⟩
          have : (L.set i (some po)).getD j none = L.getD j none := by rw [List.getD_eq_getElem?_getD, List.getElem?_set_ne (Ne.symm hji), List.getD_eq_getElem?_getD]
          rw [this]
          revert e2
          cases L.getD j none with
          | none => exact id
          | some po' =>
            rintro ⟨q, e1, e2, e3, e4⟩
            exact ⟨q, e1, .inl e2, e3, by rw [Ab.heap_upd_ne _ _ e3]; exact e4⟩)
  simp only [putI, putE, hr, hf, hf', hfr, g3, and_self, if_true, if_false] at this
  rw [if_neg (by omega)] at this
  exact this
/-! ### Taking out, and looking in -/
def atO (L : Bx) (i : Int) : Option Po := if 0 ≤ i then L.getD i.toNat none else none
def poV (o : Option Po) : Value := .agg (o.getD Po.zero).c.toArray
theorem atO_big {L : Bx} {i : Int} (h : i < 0 ∨ L.length ≤ i) : atO L i = none := by
  unfold atO
  split
  · rw [List.getD_eq_getElem?_getD, List.getElem?_eq_none (by omega)]; rfl
  · rfl
theorem atO_nat (L : Bx) (i : Nat) : atO L i = L.getD i none := by simp [atO]
def takeE (L : Bx) (i : Int) : Int := if i < 0 ∨ L.length ≤ i then 1 else if (atO L i).isNone then 7 else 0
def takeL (L : Bx) (i : Int) : Bx := if (atO L i).isSome then L.set i.toNat none else L
theorem OwnB.cell {p : Nat} {L : Bx} {X : Nat → Prop} (h : OwnB base s p L X) {i : Nat} (hi : i < L.length) : ∃ qs v, qs.length = 8 ∧ s.heap p = .row (.int .i64 (L.length : Nat) :: qs) ∧ (Value.int .i64 (L.length : Nat) :: qs)[1 + i * 1]? = some v ∧ CellB base s p X (L.getD i none) v ∧ (∀ j, j < 8 → ∃ v, qs[j]? = some v ∧ CellB base s p X (L.getD j none) v) := by
  obtain ⟨qs, k1, k2, k3⟩ := h.row
  have hr := h.room
  obtain ⟨v, e1, e2⟩ := k3 i (by omega)
  exact ⟨qs, v, k1, k2, by rw [Nat.mul_one, Nat.add_comm, List.getElem?_cons_succ]; exact e1, e2, k3⟩
theorem get_ok {p : Nat} {L : Bx} {X : Nat → Prop} {i : Int} (h : OwnB base s p L X) (hbn : base ≤ s.next) (hR : ∀ s', Mild s s' → R (.tuple #[poV (atO L i), .bool (atO L i).isSome]) s') :
    WC Try.prog base 31 [.pointer (some ⟨p, 0, none⟩), .int .i64 i] s R := by
  refine WC_open Try.func31 rfl ?_
  have hm := Mild.alloc s (.row Po.zero.c)
  have h1 := h.mild hm
  have hb := h.hb
  have hp := h.hp
  simp (disch := first | omega | ((simp only [Ab.next_alloc, Ab.next_upd, List.length_cons, List.length_nil, ne_eq, not_true_eq_false, not_false_eq_true]) <;> omega) | decide) only [↓stepPre, stepPost, ↓W_cond, ↓W_block, ↓reduceIte, Nat.reduceEqDiff, Nat.reduceLT, Nat.reduceLeDiff, ret0, stVar, isTup, Value.cells, Nat.le_refl, Nat.reduceAdd, Nat.reduceMul, Nat.reduceSub, env0, binV, intV, reduceCtorEq, pickV, nilCheckV, ptrV, unV, true_and, and_true, Nat.add_zero, Nat.zero_add, Rt, resultsV, allV, resV, Bool.not_true, Bool.not_false, calleeV, builtinV, eqV, fieldAddrV, ldVar, stN_own, stN_ownL, Int.fdiv_eq_ediv_of_nonneg, Int.reduceToNat, Int.reducePow, IntKind.bits, convV, ne_eq, not_false_eq_true, not_true_eq_false, Int.reduceNeg, Int.reduceAdd, Int.reduceSub, Int.reduceLT, Int.reduceLE, extractV, decide_true, decide_false, Int.reduceEq, mkFuncV, stBBoxes, beq_self_eq_true, tyB0Boxes]
  refine row_p h1 ?_
  by_cases hi : i < 0 ∨ L.length ≤ i
  · have ha := atO_big hi
    have : ¬ (0 ≤ i ∧ i < (L.length : Int)) := by omega
    (repeat' (first | (simp (disch := first | omega | ((simp only [Ab.next_alloc, Ab.next_upd, List.length_cons, List.length_nil, ne_eq, not_true_eq_false, not_false_eq_true]) <;> omega) | decide) only [↓stepPre, stepPost, ↓W_cond, ↓W_block, ↓reduceIte, Nat.reduceEqDiff, Nat.reduceLT, Nat.reduceLeDiff, ret0, stVar, isTup, Value.cells, Nat.le_refl, Nat.reduceAdd, Nat.reduceMul, Nat.reduceSub, env0, binV, intV, reduceCtorEq, pickV, nilCheckV, ptrV, unV, true_and, and_true, Nat.add_zero, Nat.zero_add, Rt, resultsV, allV, resV, Bool.not_true, Bool.not_false, calleeV, builtinV, eqV, fieldAddrV, ldVar, stN_own, stN_ownL, Int.fdiv_eq_ediv_of_nonneg, Int.reduceToNat, Int.reducePow, IntKind.bits, convV, ne_eq, not_false_eq_true, not_true_eq_false, Int.reduceNeg, Int.reduceAdd, Int.reduceSub, Int.reduceLT, Int.reduceLE, extractV, decide_true, decide_false, Int.reduceEq, mkFuncV, stBBoxes, beq_self_eq_true, tyB0Boxes, getL_take, glBBoxes, lenB, buildV, fillL, Try.results31, Dok_free, Dok_alloc, eq_self, Int.toNat_natCast, *]) | (refine Gif_dt (fun _ => ?_) (fun _ => ?_)) | (refine Gif_df (fun _ => ?_) (fun _ => ?_)) | (refine Wif_dec (fun _ => ?_) (fun _ => ?_)) | (refine Gif_bt (fun _ => ?_) (fun _ => ?_)) | (refine Gif_bf (fun _ => ?_) (fun _ => ?_)) | (refine Wif_bool (fun _ => ?_) (fun _ => ?_)) | (exfalso; omega)))
    all_goals (have := hR _ hm; rw [ha] at this; exact this)
  obtain ⟨j, rfl⟩ : ∃ j : Nat, i = j := ⟨i.toNat, by omega⟩
  have hj : j < L.length := by omega
  obtain ⟨qs, v, k1, k2, k3, k4, -⟩ := h.cell hj
  have ha := atO_nat L j
  cases ho : L.getD j none with
  | none =>
    rw [ho] at k4 ha
    have hv : v = .pointer none := k4
    subst hv
    (repeat' (first | (simp (disch := first | omega | ((simp only [Ab.next_alloc, Ab.next_upd, List.length_cons, List.length_nil, ne_eq, not_true_eq_false, not_false_eq_true]) <;> omega) | decide) only [↓stepPre, stepPost, ↓W_cond, ↓W_block, ↓reduceIte, Nat.reduceEqDiff, Nat.reduceLT, Nat.reduceLeDiff, ret0, stVar, isTup, Value.cells, Nat.le_refl, Nat.reduceAdd, Nat.reduceMul, Nat.reduceSub, env0, binV, intV, reduceCtorEq, pickV, nilCheckV, ptrV, unV, true_and, and_true, Nat.add_zero, Nat.zero_add, Rt, resultsV, allV, resV, Bool.not_true, Bool.not_false, calleeV, builtinV, eqV, fieldAddrV, ldVar, stN_own, stN_ownL, Int.fdiv_eq_ediv_of_nonneg, Int.reduceToNat, Int.reducePow, IntKind.bits, convV, ne_eq, not_false_eq_true, not_true_eq_false, Int.reduceNeg, Int.reduceAdd, Int.reduceSub, Int.reduceLT, Int.reduceLE, extractV, decide_true, decide_false, Int.reduceEq, mkFuncV, stBBoxes, beq_self_eq_true, tyB0Boxes, getL_take, glBBoxes, lenB, buildV, fillL, idxSl Ty.elem124 Ty.siz107, Option.isNone_none, Try.results31, Dok_free, Dok_alloc, eq_self, Int.toNat_natCast, *]) | (refine Gif_dt (fun _ => ?_) (fun _ => ?_)) | (refine Gif_df (fun _ => ?_) (fun _ => ?_)) | (refine Wif_dec (fun _ => ?_) (fun _ => ?_)) | (refine Gif_bt (fun _ => ?_) (fun _ => ?_)) | (refine Gif_bf (fun _ => ?_) (fun _ => ?_)) | (refine Wif_bool (fun _ => ?_) (fun _ => ?_)) | (exfalso; omega)))
    have := hR _ hm; rw [ha] at this; exact this
  | some po =>
    rw [ho] at k4 ha
    obtain ⟨q, rfl, e2, e3, e4⟩ := k4
    have hq := h.low q e2
    simp only [Po.c] at e4
    (repeat' (first | (simp (disch := first | omega | ((simp only [Ab.next_alloc, Ab.next_upd, List.length_cons, List.length_nil, ne_eq, not_true_eq_false, not_false_eq_true]) <;> omega) | decide) only [↓stepPre, stepPost, ↓W_cond, ↓W_block, ↓reduceIte, Nat.reduceEqDiff, Nat.reduceLT, Nat.reduceLeDiff, ret0, stVar, isTup, Value.cells, Nat.le_refl, Nat.reduceAdd, Nat.reduceMul, Nat.reduceSub, env0, binV, intV, reduceCtorEq, pickV, nilCheckV, ptrV, unV, true_and, and_true, Nat.add_zero, Nat.zero_add, Rt, resultsV, allV, resV, Bool.not_true, Bool.not_false, calleeV, builtinV, eqV, fieldAddrV, ldVar, stN_own, stN_ownL, Int.fdiv_eq_ediv_of_nonneg, Int.reduceToNat, Int.reducePow, IntKind.bits, convV, ne_eq, not_false_eq_true, not_true_eq_false, Int.reduceNeg, Int.reduceAdd, Int.reduceSub, Int.reduceLT, Int.reduceLE, extractV, decide_true, decide_false, Int.reduceEq, mkFuncV, stBBoxes, beq_self_eq_true, tyB0Boxes, getL_take, glBBoxes, lenB, buildV, fillL, idxSl Ty.elem124 Ty.siz107, Option.isNone_none, Try.results31, Dok_free, Dok_alloc, eq_self, Int.toNat_natCast, *]) | (refine Gif_dt (fun _ => ?_) (fun _ => ?_)) | (refine Gif_df (fun _ => ?_) (fun _ => ?_)) | (refine Wif_dec (fun _ => ?_) (fun _ => ?_)) | (refine Gif_bt (fun _ => ?_) (fun _ => ?_)) | (refine Gif_bf (fun _ => ?_) (fun _ => ?_)) | (refine Wif_bool (fun _ => ?_) (fun _ => ?_)) | (exfalso; omega)))
    have := hR _ (Mild.alloc s (.row po.c)); rw [ha] at this; exact this
theorem OwnB.clear {p i : Nat} {L : Bx} {X : Nat → Prop} {qs : List Value} {s' : St} (h : OwnB base s p L X) (hi : i < L.length) (k1 : qs.length = 8) (k3 : ∀ j, j < 8 → ∃ v, qs[j]? = some v ∧ CellB base s p X (L.getD j none) v)
    (hc : Ch s s' (fun b => b = p)) (hrow : s'.heap p = .row (.int .i64 (L.length : Nat) :: qs.set i (.pointer none))) : OwnB base s' p (L.set i none) X := by
  have hn := hc.next
  refine ⟨h.hb, Nat.lt_of_lt_of_le h.hp hn, h.hX, fun b hb => ⟨(h.low b hb).1, Nat.lt_of_lt_of_le (h.low b hb).2 hn⟩, by simpa using h.room, fun po hpo => ?_, qs.set i (.pointer none), by simpa using k1, by rw [hrow]; simp, fun j hj => ?_⟩
  · rcases List.mem_or_eq_of_mem_set hpo with h' | h'
    · exact h.good _ h'
    · cases h'
  · by_cases hji : j = i
    · subst hji
      refine ⟨_, List.getElem?_set_self (by omega), ?_⟩
      have : (L.set j none).getD j none = none := by rw [List.getD_eq_getElem?_getD, List.getElem?_set_self hi]; rfl
      rw [this]
      rfl
    · obtain ⟨v, e1, e2⟩ := k3 j hj
      refine ⟨v, by rw [List.getElem?_set_ne (Ne.symm hji)]; exact e1, ?_⟩
      have : (L.set i none).getD j none = L.getD j none := by rw [List.getD_eq_getElem?_getD, List.getElem?_set_ne (Ne.symm hji), List.getD_eq_getElem?_getD]
      rw [this]
      exact e2.ch (fun b hb => (h.low b hb).2) hc fun b hy => .inr hy
theorem take_nil {i : Int} (hbn : base ≤ s.next) (hR : ∀ s', Mild s s' → R (.tuple #[poV none, .int .i64 7]) s') : WC Try.prog base 51 [.pointer none, .int .i64 i] s R := by
  refine WC_open Try.func51 rfl ?_
  have hm := Mild.alloc s (.row Po.zero.c)
  (repeat' (first | (simp (disch := first | omega | ((simp only [Ab.next_alloc, Ab.next_upd, List.length_cons, List.length_nil, ne_eq, not_true_eq_false, not_false_eq_true]) <;> omega) | decide) only [↓stepPre, stepPost, ↓W_cond, ↓W_block, ↓reduceIte, Nat.reduceEqDiff, Nat.reduceLT, Nat.reduceLeDiff, ret0, stVar, isTup, Value.cells, Nat.le_refl, Nat.reduceAdd, Nat.reduceMul, Nat.reduceSub, env0, binV, intV, reduceCtorEq, pickV, nilCheckV, ptrV, unV, true_and, and_true, Nat.add_zero, Nat.zero_add, Rt, resultsV, allV, resV, Bool.not_true, Bool.not_false, calleeV, builtinV, eqV, fieldAddrV, ldVar, stN_own, stN_ownL, Int.fdiv_eq_ediv_of_nonneg, Int.reduceToNat, Int.reducePow, IntKind.bits, convV, ne_eq, not_false_eq_true, not_true_eq_false, Int.reduceNeg, Int.reduceAdd, Int.reduceSub, Int.reduceLT, Int.reduceLE, extractV, decide_true, decide_false, Int.reduceEq, mkFuncV, stBBoxes, beq_self_eq_true, tyB0Boxes, getL_take, glBBoxes, buildV, fillL, Option.isNone_none, Try.results51, Dok_free, Dok_alloc, eq_self, Int.toNat_natCast, *]) | (refine Gif_dt (fun _ => ?_) (fun _ => ?_)) | (refine Gif_df (fun _ => ?_) (fun _ => ?_)) | (refine Wif_dec (fun _ => ?_) (fun _ => ?_)) | (refine Gif_bt (fun _ => ?_) (fun _ => ?_)) | (refine Gif_bf (fun _ => ?_) (fun _ => ?_)) | (refine Wif_bool (fun _ => ?_) (fun _ => ?_)) | (exfalso; omega)))
  exact hR _ hm
theorem take_ok {p : Nat} {L : Bx} {X : Nat → Prop} {i : Int} (h : OwnB base s p L X) (hbn : base ≤ s.next) (hR : ∀ s', Ch s s' (fun b => b = p) → OwnB base s' p (takeL L i) X → R (.tuple #[poV (atO L i), .int .i64 (takeE L i)]) s') :
    WC Try.prog base 51 [.pointer (some ⟨p, 0, none⟩), .int .i64 i] s R := by
  refine WC_open Try.func51 rfl ?_
  have hm := Mild.alloc s (.row Po.zero.c)
  have h1 := h.mild hm
  have hb := h.hb
  have hp := h.hp
  by_cases hi : i < 0 ∨ L.length ≤ i
  · obtain ⟨qs0, -, k20, -⟩ := h.row
    have ha := atO_big hi
    have hE : takeE L i = 1 := by simp only [takeE, hi, if_true]
    have hL : takeL L i = L := by simp [takeL, ha]
    have key := hR _ (Ch.of_mild hm _) (by rw [hL]; exact h1)
    rw [ha, hE] at key
    have hif : (L.length : Int) ≤ i ↔ ¬ i < 0 := by omega
    (repeat' (first | (simp (disch := first | omega | ((simp only [Ab.next_alloc, Ab.next_upd, List.length_cons, List.length_nil, ne_eq, not_true_eq_false, not_false_eq_true]) <;> omega) | decide) only [↓stepPre, stepPost, ↓W_cond, ↓W_block, ↓reduceIte, Nat.reduceEqDiff, Nat.reduceLT, Nat.reduceLeDiff, ret0, stVar, isTup, Value.cells, Nat.le_refl, Nat.reduceAdd, Nat.reduceMul, Nat.reduceSub, env0, binV, intV, reduceCtorEq, pickV, nilCheckV, ptrV, unV, true_and, and_true, Nat.add_zero, Nat.zero_add, Rt, resultsV, allV, resV, Bool.not_true, Bool.not_false, calleeV, builtinV, eqV, fieldAddrV, ldVar, stN_own, stN_ownL, Int.fdiv_eq_ediv_of_nonneg, Int.reduceToNat, Int.reducePow, IntKind.bits, convV, ne_eq, not_false_eq_true, not_true_eq_false, Int.reduceNeg, Int.reduceAdd, Int.reduceSub, Int.reduceLT, Int.reduceLE, extractV, decide_true, decide_false, Int.reduceEq, mkFuncV, stBBoxes, beq_self_eq_true, tyB0Boxes, getL_take, glBBoxes, buildV, fillL, Option.isNone_some, Try.results51, Dok_free, Dok_alloc, eq_self, Int.toNat_natCast, *]) | (refine Gif_dt (fun _ => ?_) (fun _ => ?_)) | (refine Gif_df (fun _ => ?_) (fun _ => ?_)) | (refine Wif_dec (fun _ => ?_) (fun _ => ?_)) | (refine Gif_bt (fun _ => ?_) (fun _ => ?_)) | (refine Gif_bf (fun _ => ?_) (fun _ => ?_)) | (refine Wif_bool (fun _ => ?_) (fun _ => ?_)) | (exfalso; omega)))
    all_goals exact key
  obtain ⟨j, rfl⟩ : ∃ j : Nat, i = j := ⟨i.toNat, by omega⟩
  have hj : j < L.length := by omega
  obtain ⟨qs, v, k1, k2, k3, k4, k5⟩ := h.cell hj
  have hroom := h.room
  have ha := atO_nat L j
  cases ho : L.getD j none with
  | none =>
    rw [ho] at k4 ha
    have hE : takeE L j = 7 := by simp only [takeE, hi, if_false, ha]; rfl
    have hL : takeL L j = L := by simp [takeL, ha]
    have key := hR _ (Ch.of_mild hm _) (by rw [hL]; exact h1)
    rw [ha, hE] at key
    have hv : v = .pointer none := k4
    subst hv
    (repeat' (first | (simp (disch := first | omega | ((simp only [Ab.next_alloc, Ab.next_upd, List.length_cons, List.length_nil, ne_eq, not_true_eq_false, not_false_eq_true]) <;> omega) | decide) only [↓stepPre, stepPost, ↓W_cond, ↓W_block, ↓reduceIte, Nat.reduceEqDiff, Nat.reduceLT, Nat.reduceLeDiff, ret0, stVar, isTup, Value.cells, Nat.le_refl, Nat.reduceAdd, Nat.reduceMul, Nat.reduceSub, env0, binV, intV, reduceCtorEq, pickV, nilCheckV, ptrV, unV, true_and, and_true, Nat.add_zero, Nat.zero_add, Rt, resultsV, allV, resV, Bool.not_true, Bool.not_false, calleeV, builtinV, eqV, fieldAddrV, ldVar, stN_own, stN_ownL, Int.fdiv_eq_ediv_of_nonneg, Int.reduceToNat, Int.reducePow, IntKind.bits, convV, ne_eq, not_false_eq_true, not_true_eq_false, Int.reduceNeg, Int.reduceAdd, Int.reduceSub, Int.reduceLT, Int.reduceLE, extractV, decide_true, decide_false, Int.reduceEq, mkFuncV, stBBoxes, beq_self_eq_true, tyB0Boxes, getL_take, glBBoxes, buildV, fillL, Option.isNone_some, Option.isNone_none, idxArr Ty.arr108 Ty.siz107, Try.results51, Dok_free, Dok_alloc, eq_self, Int.toNat_natCast, *]) | (refine Gif_dt (fun _ => ?_) (fun _ => ?_)) | (refine Gif_df (fun _ => ?_) (fun _ => ?_)) | (refine Wif_dec (fun _ => ?_) (fun _ => ?_)) | (refine Gif_bt (fun _ => ?_) (fun _ => ?_)) | (refine Gif_bf (fun _ => ?_) (fun _ => ?_)) | (refine Wif_bool (fun _ => ?_) (fun _ => ?_)) | (exfalso; omega)))
    exact key
  | some po =>
    rw [ho] at k4 ha
    have hE : takeE L j = 0 := by simp only [takeE, hi, if_false, ha]; rfl
    have hL : takeL L j = L.set j none := by simp [takeL, ha]
    obtain ⟨q, rfl, e2, e3, e4⟩ := k4
    have hq := h.low q e2
    simp only [Po.c] at e4
    have hset : setL (Value.int .i64 (L.length : Nat) :: qs) (1 + j * 1) [.pointer none] = .int .i64 (L.length : Nat) :: qs.set j (.pointer none) := by
      rw [Nat.mul_one, Nat.add_comm]; rfl
    (repeat' (first | (simp (disch := first | omega | ((simp only [Ab.next_alloc, Ab.next_upd, List.length_cons, List.length_nil, ne_eq, not_true_eq_false, not_false_eq_true]) <;> omega) | decide) only [↓stepPre, stepPost, ↓W_cond, ↓W_block, ↓reduceIte, Nat.reduceEqDiff, Nat.reduceLT, Nat.reduceLeDiff, ret0, stVar, isTup, Value.cells, Nat.le_refl, Nat.reduceAdd, Nat.reduceMul, Nat.reduceSub, env0, binV, intV, reduceCtorEq, pickV, nilCheckV, ptrV, unV, true_and, and_true, Nat.add_zero, Nat.zero_add, Rt, resultsV, allV, resV, Bool.not_true, Bool.not_false, calleeV, builtinV, eqV, fieldAddrV, ldVar, stN_own, stN_ownL, Int.fdiv_eq_ediv_of_nonneg, Int.reduceToNat, Int.reducePow, IntKind.bits, convV, ne_eq, not_false_eq_true, not_true_eq_false, Int.reduceNeg, Int.reduceAdd, Int.reduceSub, Int.reduceLT, Int.reduceLE, extractV, decide_true, decide_false, Int.reduceEq, mkFuncV, stBBoxes, beq_self_eq_true, tyB0Boxes, getL_take, glBBoxes, buildV, fillL, Option.isNone_some, Option.isNone_none, idxArr Ty.arr108 Ty.siz107, Try.results51, Dok_free, Dok_alloc, eq_self, Int.toNat_natCast, *]) | (refine Gif_dt (fun _ => ?_) (fun _ => ?_)) | (refine Gif_df (fun _ => ?_) (fun _ => ?_)) | (refine Wif_dec (fun _ => ?_) (fun _ => ?_)) | (refine Gif_bt (fun _ => ?_) (fun _ => ?_)) | (refine Gif_bf (fun _ => ?_) (fun _ => ?_)) | (refine Wif_bool (fun _ => ?_) (fun _ => ?_)) | (exfalso; omega)))
    have hch : Ch s (((((s.alloc (.row Po.zero.c)).alloc (.row po.c)).upd p (.row (.int .i64 (L.length : Nat) :: qs.set j (.pointer none)))).upd s.next (.row po.c))) (fun b => b = p) :=
      Ch.upd' (Ch.upd' (.of_mild (Mild.alloc _ _).alloc' _) fun _ => rfl) fun hlt => absurd hlt (Nat.lt_irrefl _)
    have key := hR ((((s.alloc (.row Po.zero.c)).alloc (.row po.c)).upd p (.row (.int .i64 (L.length : Nat) :: qs.set j (.pointer none)))).upd s.next (.row po.c)) hch (by
      rw [hL]
      refine h.clear hj k1 k5 hch ?_
      rw [Ab.heap_upd_ne _ _ (by omega), Ab.heap_upd_same])
    rw [ha, hE] at key
    exact key
/-! ### The best one -/
theorem bkey_p {p : Nat} {X : Nat → Prop} {o : Option Po} {v : Value} (hv : CellB base s p X o v) (hl : ∀ b, X b → base ≤ b) (hg : ∀ p, o = some p → p.good) (hR : R (.int .u64 (keyO o : Nat)) s) : WC Try.prog base 53 [v] s R := by
  refine WC_open Try.func53 rfl ?_
  cases o with
  | none =>
    have hv : v = .pointer none := hv
    subst hv
    (repeat' (first | (simp (disch := first | omega | ((simp only [Ab.next_alloc, Ab.next_upd, List.length_cons, List.length_nil, ne_eq, not_true_eq_false, not_false_eq_true]) <;> omega) | decide) only [↓stepPre, stepPost, ↓W_cond, ↓W_block, ↓reduceIte, Nat.reduceEqDiff, Nat.reduceLT, Nat.reduceLeDiff, ret0, stVar, isTup, Value.cells, Nat.le_refl, Nat.reduceAdd, Nat.reduceMul, Nat.reduceSub, env0, binV, intV, reduceCtorEq, pickV, nilCheckV, ptrV, unV, true_and, and_true, Nat.add_zero, Nat.zero_add, Rt, resultsV, allV, resV, Bool.not_true, Bool.not_false, calleeV, builtinV, eqV, fieldAddrV, ldVar, stN_own, stN_ownL, Int.fdiv_eq_ediv_of_nonneg, Int.reduceToNat, Int.reducePow, IntKind.bits, convV, ne_eq, not_false_eq_true, not_true_eq_false, Int.reduceNeg, Int.reduceAdd, Int.reduceSub, Int.reduceLT, Int.reduceLE, extractV, decide_true, decide_false, Int.reduceEq, mkFuncV, stBBoxes, beq_self_eq_true, tyB0Boxes, getL_take, glBBoxes, Option.isNone_none, Try.results53, Dok_free, Dok_alloc, eq_self, Int.toNat_natCast, *]) | (refine Gif_dt (fun _ => ?_) (fun _ => ?_)) | (refine Gif_df (fun _ => ?_) (fun _ => ?_)) | (refine Wif_dec (fun _ => ?_) (fun _ => ?_)) | (refine Gif_bt (fun _ => ?_) (fun _ => ?_)) | (refine Gif_bf (fun _ => ?_) (fun _ => ?_)) | (refine Wif_bool (fun _ => ?_) (fun _ => ?_)) | (exfalso; omega)))
    exact hR
  | some po =>
    obtain ⟨q, rfl, h2, h3, h4⟩ := hv
    have hbq := hl q h2
    have hn := (hg po rfl).1
    have hk := keyN_lt po.e po.n po.r
    simp only [Po.c] at h4
    (repeat' (first | (simp (disch := first | omega | ((simp only [Ab.next_alloc, Ab.next_upd, List.length_cons, List.length_nil, ne_eq, not_true_eq_false, not_false_eq_true]) <;> omega) | decide) only [↓stepPre, stepPost, ↓W_cond, ↓W_block, ↓reduceIte, Nat.reduceEqDiff, Nat.reduceLT, Nat.reduceLeDiff, ret0, stVar, isTup, Value.cells, Nat.le_refl, Nat.reduceAdd, Nat.reduceMul, Nat.reduceSub, env0, binV, intV, reduceCtorEq, pickV, nilCheckV, ptrV, unV, true_and, and_true, Nat.add_zero, Nat.zero_add, Rt, resultsV, allV, resV, Bool.not_true, Bool.not_false, calleeV, builtinV, eqV, fieldAddrV, ldVar, stN_own, stN_ownL, Int.fdiv_eq_ediv_of_nonneg, Int.reduceToNat, Int.reducePow, IntKind.bits, convV, ne_eq, not_false_eq_true, not_true_eq_false, Int.reduceNeg, Int.reduceAdd, Int.reduceSub, Int.reduceLT, Int.reduceLE, extractV, decide_true, decide_false, Int.reduceEq, mkFuncV, stBBoxes, beq_self_eq_true, tyB0Boxes, getL_take, glBBoxes, Option.isNone_some, Try.results53, Dok_free, Dok_alloc, eq_self, Int.toNat_natCast, *]) | (refine Gif_dt (fun _ => ?_) (fun _ => ?_)) | (refine Gif_df (fun _ => ?_) (fun _ => ?_)) | (refine Wif_dec (fun _ => ?_) (fun _ => ?_)) | (refine Gif_bt (fun _ => ?_) (fun _ => ?_)) | (refine Gif_bf (fun _ => ?_) (fun _ => ?_)) | (refine Wif_bool (fun _ => ?_) (fun _ => ?_)) | (refine W_draw (fun _ => false) (fun _ => false) (fun _ => false) (by kernel_rfl) (by kernel_rfl) ?_) | (refine ownKey_p hn ?_) | (exfalso; omega)))
    exact hR
theorem best1_p {p : Nat} {X : Nat → Prop} {o o' : Option Po} {v v' : Value} (hv : CellB base s p X o v) (hv' : CellB base s p X o' v') (hl : ∀ b, X b → base ≤ b) (hg : ∀ p, o = some p → p.good) (hg' : ∀ p, o' = some p → p.good)
    (hR : R (.int .i64 (if keyO o < keyO o' then -1 else if keyO o' < keyO o then 1 else 0)) s) : WC Try.prog base 56 [v, v'] s R := by
  refine WC_open Try.func56 rfl ?_
  simp (disch := first | omega | ((simp only [Ab.next_alloc, Ab.next_upd, List.length_cons, List.length_nil, ne_eq, not_true_eq_false, not_false_eq_true]) <;> omega) | decide) only [↓stepPre, stepPost, ↓W_cond, ↓W_block, ↓reduceIte, Nat.reduceEqDiff, Nat.reduceLT, Nat.reduceLeDiff, ret0, stVar, isTup, Value.cells, Nat.le_refl, Nat.reduceAdd, Nat.reduceMul, Nat.reduceSub, env0, binV, intV, reduceCtorEq, pickV, nilCheckV, ptrV, unV, true_and, and_true, Nat.add_zero, Nat.zero_add, Rt, resultsV, allV, resV, Bool.not_true, Bool.not_false, calleeV, builtinV, eqV, fieldAddrV, ldVar, stN_own, stN_ownL, Int.fdiv_eq_ediv_of_nonneg, Int.reduceToNat, Int.reducePow, IntKind.bits, convV, ne_eq, not_false_eq_true, not_true_eq_false, Int.reduceNeg, Int.reduceAdd, Int.reduceSub, Int.reduceLT, Int.reduceLE, extractV, decide_true, decide_false, Int.reduceEq, mkFuncV, stBBoxes, beq_self_eq_true, tyB0Boxes]
  refine bkey_p hv hl hg ?_
  simp (disch := first | omega | ((simp only [Ab.next_alloc, Ab.next_upd, List.length_cons, List.length_nil, ne_eq, not_true_eq_false, not_false_eq_true]) <;> omega) | decide) only [↓stepPre, stepPost, ↓W_cond, ↓W_block, ↓reduceIte, Nat.reduceEqDiff, Nat.reduceLT, Nat.reduceLeDiff, ret0, stVar, isTup, Value.cells, Nat.le_refl, Nat.reduceAdd, Nat.reduceMul, Nat.reduceSub, env0, binV, intV, reduceCtorEq, pickV, nilCheckV, ptrV, unV, true_and, and_true, Nat.add_zero, Nat.zero_add, Rt, resultsV, allV, resV, Bool.not_true, Bool.not_false, calleeV, builtinV, eqV, fieldAddrV, ldVar, stN_own, stN_ownL, Int.fdiv_eq_ediv_of_nonneg, Int.reduceToNat, Int.reducePow, IntKind.bits, convV, ne_eq, not_false_eq_true, not_true_eq_false, Int.reduceNeg, Int.reduceAdd, Int.reduceSub, Int.reduceLT, Int.reduceLE, extractV, decide_true, decide_false, Int.reduceEq, mkFuncV, stBBoxes, beq_self_eq_true, tyB0Boxes]
  refine bkey_p hv' hl hg' ?_
  simp (disch := first | omega | ((simp only [Ab.next_alloc, Ab.next_upd, List.length_cons, List.length_nil, ne_eq, not_true_eq_false, not_false_eq_true]) <;> omega) | decide) only [↓stepPre, stepPost, ↓W_cond, ↓W_block, ↓reduceIte, Nat.reduceEqDiff, Nat.reduceLT, Nat.reduceLeDiff, ret0, stVar, isTup, Value.cells, Nat.le_refl, Nat.reduceAdd, Nat.reduceMul, Nat.reduceSub, env0, binV, intV, reduceCtorEq, pickV, nilCheckV, ptrV, unV, true_and, and_true, Nat.add_zero, Nat.zero_add, Rt, resultsV, allV, resV, Bool.not_true, Bool.not_false, calleeV, builtinV, eqV, fieldAddrV, ldVar, stN_own, stN_ownL, Int.fdiv_eq_ediv_of_nonneg, Int.reduceToNat, Int.reducePow, IntKind.bits, convV, ne_eq, not_false_eq_true, not_true_eq_false, Int.reduceNeg, Int.reduceAdd, Int.reduceSub, Int.reduceLT, Int.reduceLE, extractV, decide_true, decide_false, Int.reduceEq, mkFuncV, stBBoxes, beq_self_eq_true, tyB0Boxes]
  refine cmp64_p ?_
  simp (disch := first | omega | ((simp only [Ab.next_alloc, Ab.next_upd, List.length_cons, List.length_nil, ne_eq, not_true_eq_false, not_false_eq_true]) <;> omega) | decide) only [↓stepPre, stepPost, ↓W_cond, ↓W_block, ↓reduceIte, Nat.reduceEqDiff, Nat.reduceLT, Nat.reduceLeDiff, ret0, stVar, isTup, Value.cells, Nat.le_refl, Nat.reduceAdd, Nat.reduceMul, Nat.reduceSub, env0, binV, intV, reduceCtorEq, pickV, nilCheckV, ptrV, unV, true_and, and_true, Nat.add_zero, Nat.zero_add, Rt, resultsV, allV, resV, Bool.not_true, Bool.not_false, calleeV, builtinV, eqV, fieldAddrV, ldVar, stN_own, stN_ownL, Int.fdiv_eq_ediv_of_nonneg, Int.reduceToNat, Int.reducePow, IntKind.bits, convV, ne_eq, not_false_eq_true, not_true_eq_false, Int.reduceNeg, Int.reduceAdd, Int.reduceSub, Int.reduceLT, Int.reduceLE, extractV, decide_true, decide_false, Int.reduceEq, mkFuncV, stBBoxes, beq_self_eq_true, tyB0Boxes, Try.results56]
  have e1 : ((keyO o : Nat) : Int) < ((keyO o' : Nat) : Int) ↔ keyO o < keyO o' := by omega
  have e2 : ((keyO o' : Nat) : Int) < ((keyO o : Nat) : Int) ↔ keyO o' < keyO o := by omega
  simpa only [e1, e2] using hR
theorem best2_p {p q0 : Nat} {X : Nat → Prop} {o : Option Po} {v : Value} {m : Nat} (hv : CellB base s p X o v) (hl : ∀ b, X b → base ≤ b) (hg : ∀ p, o = some p → p.good) (ht : s.heap q0 = .row [.int .u64 (m : Int)]) (hq : base ≤ q0)
    (hR : R (.bool (decide (keyO o = m))) s) : WC Try.prog base 58 [v, .pointer (some ⟨q0, 0, none⟩)] s R := by
  refine WC_open Try.func58 rfl ?_
  simp (disch := first | omega | ((simp only [Ab.next_alloc, Ab.next_upd, List.length_cons, List.length_nil, ne_eq, not_true_eq_false, not_false_eq_true]) <;> omega) | decide) only [↓stepPre, stepPost, ↓W_cond, ↓W_block, ↓reduceIte, Nat.reduceEqDiff, Nat.reduceLT, Nat.reduceLeDiff, ret0, stVar, isTup, Value.cells, Nat.le_refl, Nat.reduceAdd, Nat.reduceMul, Nat.reduceSub, env0, binV, intV, reduceCtorEq, pickV, nilCheckV, ptrV, unV, true_and, and_true, Nat.add_zero, Nat.zero_add, Rt, resultsV, allV, resV, Bool.not_true, Bool.not_false, calleeV, builtinV, eqV, fieldAddrV, ldVar, stN_own, stN_ownL, Int.fdiv_eq_ediv_of_nonneg, Int.reduceToNat, Int.reducePow, IntKind.bits, convV, ne_eq, not_false_eq_true, not_true_eq_false, Int.reduceNeg, Int.reduceAdd, Int.reduceSub, Int.reduceLT, Int.reduceLE, extractV, decide_true, decide_false, Int.reduceEq, mkFuncV, stBBoxes, beq_self_eq_true, tyB0Boxes]
  refine W_draw (fun _ => false) (fun _ => false) (fun _ => false) (by kernel_rfl) (by kernel_rfl) ?_
  simp (disch := first | omega | ((simp only [Ab.next_alloc, Ab.next_upd, List.length_cons, List.length_nil, ne_eq, not_true_eq_false, not_false_eq_true]) <;> omega) | decide) only [↓stepPre, stepPost, ↓W_cond, ↓W_block, ↓reduceIte, Nat.reduceEqDiff, Nat.reduceLT, Nat.reduceLeDiff, ret0, stVar, isTup, Value.cells, Nat.le_refl, Nat.reduceAdd, Nat.reduceMul, Nat.reduceSub, env0, binV, intV, reduceCtorEq, pickV, nilCheckV, ptrV, unV, true_and, and_true, Nat.add_zero, Nat.zero_add, Rt, resultsV, allV, resV, Bool.not_true, Bool.not_false, calleeV, builtinV, eqV, fieldAddrV, ldVar, stN_own, stN_ownL, Int.fdiv_eq_ediv_of_nonneg, Int.reduceToNat, Int.reducePow, IntKind.bits, convV, ne_eq, not_false_eq_true, not_true_eq_false, Int.reduceNeg, Int.reduceAdd, Int.reduceSub, Int.reduceLT, Int.reduceLE, extractV, decide_true, decide_false, Int.reduceEq, mkFuncV, stBBoxes, beq_self_eq_true, tyB0Boxes]
  refine bkey_p hv hl hg ?_
  simp (disch := first | omega | ((simp only [Ab.next_alloc, Ab.next_upd, List.length_cons, List.length_nil, ne_eq, not_true_eq_false, not_false_eq_true]) <;> omega) | decide) only [↓stepPre, stepPost, ↓W_cond, ↓W_block, ↓reduceIte, Nat.reduceEqDiff, Nat.reduceLT, Nat.reduceLeDiff, ret0, stVar, isTup, Value.cells, Nat.le_refl, Nat.reduceAdd, Nat.reduceMul, Nat.reduceSub, env0, binV, intV, reduceCtorEq, pickV, nilCheckV, ptrV, unV, true_and, and_true, Nat.add_zero, Nat.zero_add, Rt, resultsV, allV, resV, Bool.not_true, Bool.not_false, calleeV, builtinV, eqV, fieldAddrV, ldVar, stN_own, stN_ownL, Int.fdiv_eq_ediv_of_nonneg, Int.reduceToNat, Int.reducePow, IntKind.bits, convV, ne_eq, not_false_eq_true, not_true_eq_false, Int.reduceNeg, Int.reduceAdd, Int.reduceSub, Int.reduceLT, Int.reduceLE, extractV, decide_true, decide_false, Int.reduceEq, mkFuncV, stBBoxes, beq_self_eq_true, tyB0Boxes, ht, Try.results58]
  have e1 : ((keyO o : Nat) : Int) = (m : Int) ↔ keyO o = m := by omega
  simpa only [e1] using hR
theorem len_p {p : Nat} {L : Bx} {X : Nat → Prop} (h : OwnB base s p L X) (hR : R (.int .i64 (cntB L : Nat)) s) : WC Try.prog base 52 [.pointer (some ⟨p, 0, none⟩)] s R := by
  refine WC_open Try.func52 rfl ?_
  simp (disch := first | omega | ((simp only [Ab.next_alloc, Ab.next_upd, List.length_cons, List.length_nil, ne_eq, not_true_eq_false, not_false_eq_true]) <;> omega) | decide) only [↓stepPre, stepPost, ↓W_cond, ↓W_block, ↓reduceIte, Nat.reduceEqDiff, Nat.reduceLT, Nat.reduceLeDiff, ret0, stVar, isTup, Value.cells, Nat.le_refl, Nat.reduceAdd, Nat.reduceMul, Nat.reduceSub, env0, binV, intV, reduceCtorEq, pickV, nilCheckV, ptrV, unV, true_and, and_true, Nat.add_zero, Nat.zero_add, Rt, resultsV, allV, resV, Bool.not_true, Bool.not_false, calleeV, builtinV, eqV, fieldAddrV, ldVar, stN_own, stN_ownL, Int.fdiv_eq_ediv_of_nonneg, Int.reduceToNat, Int.reducePow, IntKind.bits, convV, ne_eq, not_false_eq_true, not_true_eq_false, Int.reduceNeg, Int.reduceAdd, Int.reduceSub, Int.reduceLT, Int.reduceLE, extractV, decide_true, decide_false, Int.reduceEq, mkFuncV, stBBoxes, beq_self_eq_true, tyB0Boxes]
  refine row_p h ?_
  have hb := h.hb
  have hr := h.room
  simp (disch := first | omega | ((simp only [Ab.next_alloc, Ab.next_upd, List.length_cons, List.length_nil, ne_eq, not_true_eq_false, not_false_eq_true]) <;> omega) | decide) only [↓stepPre, stepPost, ↓W_cond, ↓W_block, ↓reduceIte, Nat.reduceEqDiff, Nat.reduceLT, Nat.reduceLeDiff, ret0, stVar, isTup, Value.cells, Nat.le_refl, Nat.reduceAdd, Nat.reduceMul, Nat.reduceSub, env0, binV, intV, reduceCtorEq, pickV, nilCheckV, ptrV, unV, true_and, and_true, Nat.add_zero, Nat.zero_add, Rt, resultsV, allV, resV, Bool.not_true, Bool.not_false, calleeV, builtinV, eqV, fieldAddrV, ldVar, stN_own, stN_ownL, Int.fdiv_eq_ediv_of_nonneg, Int.reduceToNat, Int.reducePow, IntKind.bits, convV, ne_eq, not_false_eq_true, not_true_eq_false, Int.reduceNeg, Int.reduceAdd, Int.reduceSub, Int.reduceLT, Int.reduceLE, extractV, decide_true, decide_false, Int.reduceEq, mkFuncV, stBBoxes, beq_self_eq_true, tyB0Boxes, lenB]
  refine W_loop_ind L.length (fun i e s1 => s1 = s ∧ e 3 = .int .i64 (cntB (L.take i) : Nat) ∧ e 7 = .slice (some ⟨p, 1, none⟩) L.length L.length ∧ e 8 = .int .i64 L.length ∧ e 9 = .int .i64 i) ?_ ⟨rfl, rfl, rfl, rfl, rfl⟩
  rintro i e s1 hi ⟨rfl, h3, h7, h8, h9⟩
  simp (disch := first | omega | ((simp only [Ab.next_alloc, Ab.next_upd, List.length_cons, List.length_nil, ne_eq, not_true_eq_false, not_false_eq_true]) <;> omega) | decide) only [↓stepPre, stepPost, ↓W_cond, ↓W_block, ↓reduceIte, Nat.reduceEqDiff, Nat.reduceLT, Nat.reduceLeDiff, ret0, stVar, isTup, Value.cells, Nat.le_refl, Nat.reduceAdd, Nat.reduceMul, Nat.reduceSub, env0, binV, intV, reduceCtorEq, pickV, nilCheckV, ptrV, unV, true_and, and_true, Nat.add_zero, Nat.zero_add, Rt, resultsV, allV, resV, Bool.not_true, Bool.not_false, calleeV, builtinV, eqV, fieldAddrV, ldVar, stN_own, stN_ownL, Int.fdiv_eq_ediv_of_nonneg, Int.reduceToNat, Int.reducePow, IntKind.bits, convV, ne_eq, not_false_eq_true, not_true_eq_false, Int.reduceNeg, Int.reduceAdd, Int.reduceSub, Int.reduceLT, Int.reduceLE, extractV, decide_true, decide_false, Int.reduceEq, mkFuncV, stBBoxes, beq_self_eq_true, tyB0Boxes, h3, h7, h8, h9]
  refine Wif_dec (fun hlt => ?_) (fun hge => ?_)
  · have hlt : i < L.length := by omega
    obtain ⟨qs, v, k1, k2, k3, k4, -⟩ := h.cell hlt
    have hle : cntB (L.take i) ≤ 8 := by have := List.countP_le_length (p := Option.isSome) (l := L.take i); simp at this; unfold cntB; omega
    have hsucc : L.take (i + 1) = L.take i ++ [L[i]] := List.take_succ_eq_append_getElem hlt
    have hgd : L.getD i none = L[i] := by simp [hlt]
    rw [hgd] at k4
    cases ho : L[i] with
    | none =>
      rw [ho] at k4 hsucc
      have hv : v = .pointer none := k4
      subst hv
      simp (disch := first | omega | ((simp only [Ab.next_alloc, Ab.next_upd, List.length_cons, List.length_nil, ne_eq, not_true_eq_false, not_false_eq_true]) <;> omega) | decide) only [↓stepPre, stepPost, ↓W_cond, ↓W_block, ↓reduceIte, Nat.reduceEqDiff, Nat.reduceLT, Nat.reduceLeDiff, ret0, stVar, isTup, Value.cells, Nat.le_refl, Nat.reduceAdd, Nat.reduceMul, Nat.reduceSub, env0, binV, intV, reduceCtorEq, pickV, nilCheckV, ptrV, unV, true_and, and_true, Nat.add_zero, Nat.zero_add, Rt, resultsV, allV, resV, Bool.not_true, Bool.not_false, calleeV, builtinV, eqV, fieldAddrV, ldVar, stN_own, stN_ownL, Int.fdiv_eq_ediv_of_nonneg, Int.reduceToNat, Int.reducePow, IntKind.bits, convV, ne_eq, not_false_eq_true, not_true_eq_false, Int.reduceNeg, Int.reduceAdd, Int.reduceSub, Int.reduceLT, Int.reduceLE, extractV, decide_true, decide_false, Int.reduceEq, mkFuncV, stBBoxes, beq_self_eq_true, tyB0Boxes, h3, h7, h8, h9, k2, k3, idxSl Ty.elem124 Ty.siz107, Int.toNat_natCast, Option.isNone_none]
      refine ⟨by omega, ?_, rfl⟩
      rw [hsucc]; simp [cntB]
    | some po =>
      rw [ho] at k4 hsucc
      obtain ⟨q, rfl, e2, e3, e4⟩ := k4
      simp (disch := first | omega | ((simp only [Ab.next_alloc, Ab.next_upd, List.length_cons, List.length_nil, ne_eq, not_true_eq_false, not_false_eq_true]) <;> omega) | decide) only [↓stepPre, stepPost, ↓W_cond, ↓W_block, ↓reduceIte, Nat.reduceEqDiff, Nat.reduceLT, Nat.reduceLeDiff, ret0, stVar, isTup, Value.cells, Nat.le_refl, Nat.reduceAdd, Nat.reduceMul, Nat.reduceSub, env0, binV, intV, reduceCtorEq, pickV, nilCheckV, ptrV, unV, true_and, and_true, Nat.add_zero, Nat.zero_add, Rt, resultsV, allV, resV, Bool.not_true, Bool.not_false, calleeV, builtinV, eqV, fieldAddrV, ldVar, stN_own, stN_ownL, Int.fdiv_eq_ediv_of_nonneg, Int.reduceToNat, Int.reducePow, IntKind.bits, convV, ne_eq, not_false_eq_true, not_true_eq_false, Int.reduceNeg, Int.reduceAdd, Int.reduceSub, Int.reduceLT, Int.reduceLE, extractV, decide_true, decide_false, Int.reduceEq, mkFuncV, stBBoxes, beq_self_eq_true, tyB0Boxes, h3, h7, h8, h9, k2, k3, idxSl Ty.elem124 Ty.siz107, Int.toNat_natCast, Option.isNone_some]
      refine ⟨by omega, ?_, rfl⟩
      rw [hsucc]; simp [cntB]
  · simp (disch := first | omega | ((simp only [Ab.next_alloc, Ab.next_upd, List.length_cons, List.length_nil, ne_eq, not_true_eq_false, not_false_eq_true]) <;> omega) | decide) only [↓stepPre, stepPost, ↓W_cond, ↓W_block, ↓reduceIte, Nat.reduceEqDiff, Nat.reduceLT, Nat.reduceLeDiff, ret0, stVar, isTup, Value.cells, Nat.le_refl, Nat.reduceAdd, Nat.reduceMul, Nat.reduceSub, env0, binV, intV, reduceCtorEq, pickV, nilCheckV, ptrV, unV, true_and, and_true, Nat.add_zero, Nat.zero_add, Rt, resultsV, allV, resV, Bool.not_true, Bool.not_false, calleeV, builtinV, eqV, fieldAddrV, ldVar, stN_own, stN_ownL, Int.fdiv_eq_ediv_of_nonneg, Int.reduceToNat, Int.reducePow, IntKind.bits, convV, ne_eq, not_false_eq_true, not_true_eq_false, Int.reduceNeg, Int.reduceAdd, Int.reduceSub, Int.reduceLT, Int.reduceLE, extractV, decide_true, decide_false, Int.reduceEq, mkFuncV, stBBoxes, beq_self_eq_true, tyB0Boxes, h3, h7, h8, h9, Try.results52]
    rw [List.take_of_length_le (by omega)]; exact hR
/-! ### Which one is the best -/
/-- What the best one among the first so many is. -/
def BestAt (L : Bx) (n : Nat) (a : Int) : Prop :=
  (a = -1 ∧ ∀ j, j < n → L.getD j none = none) ∨ ∃ i, i < n ∧ a = (i : Int) ∧ (L.getD i none).isSome = true ∧ (∀ j, j < n → keyAt L i ≤ keyAt L j) ∧ ∀ j, j < i → keyAt L i < keyAt L j
theorem BestAt.unique {L : Bx} {n : Nat} {a b : Int} (h : BestAt L n a) (h' : BestAt L n b) : a = b := by
  rcases h with ⟨rfl, h1⟩ | ⟨i, i1, rfl, i2, i3, i4⟩
  · rcases h' with ⟨rfl, -⟩ | ⟨i, i1, rfl, i2, -⟩
    · rfl
    · rw [h1 i i1] at i2; cases i2
  · rcases h' with ⟨rfl, h1⟩ | ⟨k, k1, rfl, k2, k3, k4⟩
    · rw [h1 i i1] at i2; cases i2
    · rcases Nat.lt_trichotomy i k with h | h | h
      · have := k4 i h; have := i3 k k1; omega
      · rw [h]
      · have := i4 k h; have := k3 i i1; omega
def bestI (L : Bx) : Int := if ∀ j, j < L.length → L.getD j none = none then -1 else fidx (fun i => (L.getD i none).isSome && decide (∀ j, j < L.length → keyAt L i ≤ keyAt L j)) L.length
theorem best_ex (L : Bx) : ∀ n, (∃ i, i < n ∧ (L.getD i none).isSome = true) → (∀ p, some p ∈ L → p.good) → ∃ i, i < n ∧ (L.getD i none).isSome = true ∧ ∀ j, j < n → keyAt L i ≤ keyAt L j := by
  intro n
  induction n with
  | zero => rintro ⟨i, h, _⟩; omega
  | succ n ih =>
    intro hx hg
    have hk : ∀ i, (L.getD i none).isSome = true → keyAt L i < 4294967296 := fun i hi => by
      unfold keyAt
      cases ho : L.getD i none with
      | none => rw [ho] at hi; cases hi
      | some p => exact keyN_lt p.e p.n p.r
    have hnone : ∀ i, L.getD i none = none → keyAt L i = 4294967296 := fun i hi => by unfold keyAt; rw [hi]; rfl
    by_cases hx2 : ∃ i, i < n ∧ (L.getD i none).isSome = true
    · obtain ⟨i, h1, h2, h3⟩ := ih hx2 hg
      by_cases hn : keyAt L n < keyAt L i
      · have : (L.getD n none).isSome = true := by
          cases ho : L.getD n none with
          | none => have := hnone n ho; have := hk i h2; omega
          | some p => rfl
        refine ⟨n, by omega, this, fun j hj => ?_⟩
        by_cases hjn : j = n
        · rw [hjn]; exact Nat.le_refl _
        · have := h3 j (by omega); omega
      · refine ⟨i, by omega, h2, fun j hj => ?_⟩
        by_cases hjn : j = n
        · rw [hjn]; omega
        · exact h3 j (by omega)
    · obtain ⟨i, h1, h2⟩ := hx
      have hin : i = n := by
        by_cases hi : i < n
        · exact absurd ⟨i, hi, h2⟩ hx2
        · omega
      subst hin
      refine ⟨i, by omega, h2, fun j hj => ?_⟩
      by_cases hjn : j = i
      · rw [hjn]; exact Nat.le_refl _
      · have : L.getD j none = none := by
          cases ho : L.getD j none with
          | none => rfl
          | some p => exact absurd ⟨j, by omega, by rw [ho]; rfl⟩ hx2
        have := hnone j this
        have := hk i h2; omega
/-- The place of the least key is the best one. -/
theorem best_least {L : Bx} {m : Nat} (hg : ∀ p, some p ∈ L → p.good) (hx : ∃ i, i < L.length ∧ (L.getD i none).isSome = true) (hm : ∃ i, i < L.length ∧ keyAt L i = m) (hle : ∀ j, j < L.length → m ≤ keyAt L j) : BestAt L L.length (fidx (fun i => decide (keyO (L.getD i none) = m)) L.length) := by
  rcases fidx_cases (fun i => decide (keyO (L.getD i none) = m)) L.length with ⟨i, h1, h2, h3, h4⟩ | ⟨h1, -⟩
  · rw [h4]
    have h2' : keyAt L i = m := of_decide_eq_true h2
    refine .inr ⟨i, h1, rfl, ?_, fun j hj => by rw [h2']; exact hle j hj, fun j hj => ?_⟩
    · obtain ⟨k, k1, k2⟩ := hx
      cases ho : L.getD i none with
      | some p => rfl
      | none =>
        have e1 : keyAt L i = 4294967296 := by unfold keyAt; rw [ho]; rfl
        have e2 := hle k k1
        have e3 : keyAt L k < 4294967296 := by
          unfold keyAt
          cases hk : L.getD k none with
          | none => rw [hk] at k2; cases k2
          | some p => exact keyN_lt p.e p.n p.r
        omega
    · have := hle j (by omega)
      have h5 : ¬ keyAt L j = m := of_decide_eq_false (h3 j hj)
      omega
  · obtain ⟨i, i1, i2⟩ := hm
    have := h1 i i1
    exact absurd i2 (of_decide_eq_false this)
theorem cnt_zero {L : Bx} : cntB L = 0 ↔ ∀ j, j < L.length → L.getD j none = none := by
  unfold cntB
  rw [List.countP_eq_zero]
  constructor
  · intro h j hj
    have := h L[j] (by simp)
    simp only [List.getD_eq_getElem?_getD, List.getElem?_eq_getElem hj, Option.getD_some]
    cases ho : L[j] with
    | none => rfl
    | some p => rw [ho] at this; simp at this
  · intro h o ho
    obtain ⟨j, hj, rfl⟩ := List.mem_iff_getElem.1 ho
    have := h j hj
    simp only [List.getD_eq_getElem?_getD, List.getElem?_eq_getElem hj, Option.getD_some] at this
    rw [this]; simp
theorem good_at {L : Bx} (hg : ∀ p, some p ∈ L → p.good) (i : Nat) : ∀ p, L.getD i none = some p → p.good := by
  intro p h
  rw [List.getD_eq_getElem?_getD] at h
  cases ho : L[i]? with
  | none => rw [ho] at h; cases h
  | some o =>
    rw [ho] at h
    simp only [Option.getD_some] at h
    subst h
    exact hg p (List.mem_of_getElem? ho)
theorem minFunc_ok {p : Nat} {L : Bx} {X : Nat → Prop} (h : OwnB base s p L X) (hR : ∀ i v, i < L.length → CellB base s p X (L.getD i none) v → (∀ j, j < L.length → keyAt L i ≤ keyAt L j) → R v s) :
    WC Try.prog base 54 [.slice (some ⟨p, 1, none⟩) L.length L.length, .func (.func 56) #[] #[]] s R := by
  refine WC_open Try.func54 rfl ?_
  obtain ⟨qs, k1, k2, k3⟩ := h.row
  have hb := h.hb
  have hr := h.room
  have hl : ∀ b, X b → base ≤ b := fun b hb => (h.low b hb).1
  have hg := good_at h.good
  have hnn : ¬ ((L.length : Int) < 1) := by omega
  obtain ⟨v0, g1, g2⟩ := k3 0 (by omega)
  have g3 : (Value.int .i64 (L.length : Nat) :: qs)[1]? = some v0 := by rw [List.getElem?_cons_succ]; exact g1
  simp (disch := first | omega | ((simp only [Ab.next_alloc, Ab.next_upd, List.length_cons, List.length_nil, ne_eq, not_true_eq_false, not_false_eq_true]) <;> omega) | decide) only [↓stepPre, stepPost, ↓W_cond, ↓W_block, ↓reduceIte, Nat.reduceEqDiff, Nat.reduceLT, Nat.reduceLeDiff, ret0, stVar, isTup, Value.cells, Nat.le_refl, Nat.reduceAdd, Nat.reduceMul, Nat.reduceSub, env0, binV, intV, reduceCtorEq, pickV, nilCheckV, ptrV, unV, true_and, and_true, Nat.add_zero, Nat.zero_add, Rt, resultsV, allV, resV, Bool.not_true, Bool.not_false, calleeV, builtinV, eqV, fieldAddrV, ldVar, stN_own, stN_ownL, Int.fdiv_eq_ediv_of_nonneg, Int.reduceToNat, Int.reducePow, IntKind.bits, convV, ne_eq, not_false_eq_true, not_true_eq_false, Int.reduceNeg, Int.reduceAdd, Int.reduceSub, Int.reduceLT, Int.reduceLE, extractV, decide_true, decide_false, Int.reduceEq, mkFuncV, stBBoxes, beq_self_eq_true, tyB0Boxes, lenB, hnn, k2, g3, idxSl Ty.elem124 Ty.siz107, Int.toNat_zero, Nat.zero_mul]
  refine W_loop_ind (L.length - 1) (fun k e s1 => s1 = s ∧ e 0 = .slice (some ⟨p, 1, none⟩) L.length L.length ∧ e 1 = .func (.func 56) #[] #[] ∧ e 6 = .int .i64 ((k + 1 : Nat) : Int) ∧ ∃ i v, e 5 = v ∧ i < k + 1 ∧ CellB base s p X (L.getD i none) v ∧ ∀ j, j < k + 1 → keyAt L i ≤ keyAt L j) ?_ ⟨rfl, rfl, rfl, rfl, 0, v0, rfl, by omega, g2, fun j hj => by rw [show j = 0 by omega]; exact Nat.le_refl _⟩
  rintro k e s1 hk ⟨rfl, h0, h1, h6, i, v, h5, hi, hv, hm⟩
  simp (disch := first | omega | ((simp only [Ab.next_alloc, Ab.next_upd, List.length_cons, List.length_nil, ne_eq, not_true_eq_false, not_false_eq_true]) <;> omega) | decide) only [↓stepPre, stepPost, ↓W_cond, ↓W_block, ↓reduceIte, Nat.reduceEqDiff, Nat.reduceLT, Nat.reduceLeDiff, ret0, stVar, isTup, Value.cells, Nat.le_refl, Nat.reduceAdd, Nat.reduceMul, Nat.reduceSub, env0, binV, intV, reduceCtorEq, pickV, nilCheckV, ptrV, unV, true_and, and_true, Nat.add_zero, Nat.zero_add, Rt, resultsV, allV, resV, Bool.not_true, Bool.not_false, calleeV, builtinV, eqV, fieldAddrV, ldVar, stN_own, stN_ownL, Int.fdiv_eq_ediv_of_nonneg, Int.reduceToNat, Int.reducePow, IntKind.bits, convV, ne_eq, not_false_eq_true, not_true_eq_false, Int.reduceNeg, Int.reduceAdd, Int.reduceSub, Int.reduceLT, Int.reduceLE, extractV, decide_true, decide_false, Int.reduceEq, mkFuncV, stBBoxes, beq_self_eq_true, tyB0Boxes, lenB, h0, h1, h5, h6]
  refine Wif_dec (fun hlt => ?_) (fun hge => ?_)
  · obtain ⟨w, w1, w2⟩ := k3 (k + 1) (by omega)
    have w3 : (Value.int .i64 (L.length : Nat) :: qs)[1 + (k + 1) * 1]? = some w := by rw [Nat.mul_one, Nat.add_comm 1, List.getElem?_cons_succ]; exact w1
    simp (disch := first | omega | ((simp only [Ab.next_alloc, Ab.next_upd, List.length_cons, List.length_nil, ne_eq, not_true_eq_false, not_false_eq_true]) <;> omega) | decide) only [↓stepPre, stepPost, ↓W_cond, ↓W_block, ↓reduceIte, Nat.reduceEqDiff, Nat.reduceLT, Nat.reduceLeDiff, ret0, stVar, isTup, Value.cells, Nat.le_refl, Nat.reduceAdd, Nat.reduceMul, Nat.reduceSub, env0, binV, intV, reduceCtorEq, pickV, nilCheckV, ptrV, unV, true_and, and_true, Nat.add_zero, Nat.zero_add, Rt, resultsV, allV, resV, Bool.not_true, Bool.not_false, calleeV, builtinV, eqV, fieldAddrV, ldVar, stN_own, stN_ownL, Int.fdiv_eq_ediv_of_nonneg, Int.reduceToNat, Int.reducePow, IntKind.bits, convV, ne_eq, not_false_eq_true, not_true_eq_false, Int.reduceNeg, Int.reduceAdd, Int.reduceSub, Int.reduceLT, Int.reduceLE, extractV, decide_true, decide_false, Int.reduceEq, mkFuncV, stBBoxes, beq_self_eq_true, tyB0Boxes, lenB, h0, h1, h5, h6, k2, w3, idxSl Ty.elem124 Ty.siz107, Int.toNat_natCast]
    refine best1_p w2 hv hl (hg _) (hg _) ?_
    by_cases hkk : keyO (L.getD (k + 1) none) < keyO (L.getD i none)
    · simp (disch := first | omega | ((simp only [Ab.next_alloc, Ab.next_upd, List.length_cons, List.length_nil, ne_eq, not_true_eq_false, not_false_eq_true]) <;> omega) | decide) only [↓stepPre, stepPost, ↓W_cond, ↓W_block, ↓reduceIte, Nat.reduceEqDiff, Nat.reduceLT, Nat.reduceLeDiff, ret0, stVar, isTup, Value.cells, Nat.le_refl, Nat.reduceAdd, Nat.reduceMul, Nat.reduceSub, env0, binV, intV, reduceCtorEq, pickV, nilCheckV, ptrV, unV, true_and, and_true, Nat.add_zero, Nat.zero_add, Rt, resultsV, allV, resV, Bool.not_true, Bool.not_false, calleeV, builtinV, eqV, fieldAddrV, ldVar, stN_own, stN_ownL, Int.fdiv_eq_ediv_of_nonneg, Int.reduceToNat, Int.reducePow, IntKind.bits, convV, ne_eq, not_false_eq_true, not_true_eq_false, Int.reduceNeg, Int.reduceAdd, Int.reduceSub, Int.reduceLT, Int.reduceLE, extractV, decide_true, decide_false, Int.reduceEq, mkFuncV, stBBoxes, beq_self_eq_true, tyB0Boxes, lenB, h0, h1, h5, h6, k2, w3, hkk, idxSl Ty.elem124 Ty.siz107, Int.toNat_natCast]
      refine ⟨by omega, rfl, k + 1, w, rfl, by omega, w2, fun j hj => ?_⟩
      by_cases hjk : j = k + 1
      · rw [hjk]; exact Nat.le_refl _
      · have := hm j (by omega); unfold keyAt at *; omega
    · have hneg : ¬ ((if keyO (L.getD i none) < keyO (L.getD (k + 1) none) then (1 : Int) else 0) < 0) := by split <;> omega
      simp (disch := first | omega | ((simp only [Ab.next_alloc, Ab.next_upd, List.length_cons, List.length_nil, ne_eq, not_true_eq_false, not_false_eq_true]) <;> omega) | decide) only [↓stepPre, stepPost, ↓W_cond, ↓W_block, ↓reduceIte, Nat.reduceEqDiff, Nat.reduceLT, Nat.reduceLeDiff, ret0, stVar, isTup, Value.cells, Nat.le_refl, Nat.reduceAdd, Nat.reduceMul, Nat.reduceSub, env0, binV, intV, reduceCtorEq, pickV, nilCheckV, ptrV, unV, true_and, and_true, Nat.add_zero, Nat.zero_add, Rt, resultsV, allV, resV, Bool.not_true, Bool.not_false, calleeV, builtinV, eqV, fieldAddrV, ldVar, stN_own, stN_ownL, Int.fdiv_eq_ediv_of_nonneg, Int.reduceToNat, Int.reducePow, IntKind.bits, convV, ne_eq, not_false_eq_true, not_true_eq_false, Int.reduceNeg, Int.reduceAdd, Int.reduceSub, Int.reduceLT, Int.reduceLE, extractV, decide_true, decide_false, Int.reduceEq, mkFuncV, stBBoxes, beq_self_eq_true, tyB0Boxes, lenB, h0, h1, h5, h6, hkk, hneg]
      refine ⟨by omega, rfl, i, v, rfl, by omega, hv, fun j hj => ?_⟩
      by_cases hjk : j = k + 1
      · rw [hjk]; unfold keyAt; omega
      · exact hm j (by omega)
  · simp (disch := first | omega | ((simp only [Ab.next_alloc, Ab.next_upd, List.length_cons, List.length_nil, ne_eq, not_true_eq_false, not_false_eq_true]) <;> omega) | decide) only [↓stepPre, stepPost, ↓W_cond, ↓W_block, ↓reduceIte, Nat.reduceEqDiff, Nat.reduceLT, Nat.reduceLeDiff, ret0, stVar, isTup, Value.cells, Nat.le_refl, Nat.reduceAdd, Nat.reduceMul, Nat.reduceSub, env0, binV, intV, reduceCtorEq, pickV, nilCheckV, ptrV, unV, true_and, and_true, Nat.add_zero, Nat.zero_add, Rt, resultsV, allV, resV, Bool.not_true, Bool.not_false, calleeV, builtinV, eqV, fieldAddrV, ldVar, stN_own, stN_ownL, Int.fdiv_eq_ediv_of_nonneg, Int.reduceToNat, Int.reducePow, IntKind.bits, convV, ne_eq, not_false_eq_true, not_true_eq_false, Int.reduceNeg, Int.reduceAdd, Int.reduceSub, Int.reduceLT, Int.reduceLE, extractV, decide_true, decide_false, Int.reduceEq, mkFuncV, stBBoxes, beq_self_eq_true, tyB0Boxes, lenB, h0, h1, h5, h6, Try.results54]
    exact hR i v (by omega) hv fun j hj => hm j (by omega)
theorem best_ok {p : Nat} {L : Bx} {X : Nat → Prop} (h : OwnB base s p L X) (hbn : base ≤ s.next) (hR : ∀ s' a, Mild s s' → BestAt L L.length a → R (.int .i64 a) s') : WC Try.prog base 26 [.pointer (some ⟨p, 0, none⟩)] s R := by
  refine WC_open Try.func26 rfl ?_
  have hl : ∀ b, X b → base ≤ b := fun b hb => (h.low b hb).1
  have hg := good_at h.good
  simp (disch := first | omega | ((simp only [Ab.next_alloc, Ab.next_upd, List.length_cons, List.length_nil, ne_eq, not_true_eq_false, not_false_eq_true]) <;> omega) | decide) only [↓stepPre, stepPost, ↓W_cond, ↓W_block, ↓reduceIte, Nat.reduceEqDiff, Nat.reduceLT, Nat.reduceLeDiff, ret0, stVar, isTup, Value.cells, Nat.le_refl, Nat.reduceAdd, Nat.reduceMul, Nat.reduceSub, env0, binV, intV, reduceCtorEq, pickV, nilCheckV, ptrV, unV, true_and, and_true, Nat.add_zero, Nat.zero_add, Rt, resultsV, allV, resV, Bool.not_true, Bool.not_false, calleeV, builtinV, eqV, fieldAddrV, ldVar, stN_own, stN_ownL, Int.fdiv_eq_ediv_of_nonneg, Int.reduceToNat, Int.reducePow, IntKind.bits, convV, ne_eq, not_false_eq_true, not_true_eq_false, Int.reduceNeg, Int.reduceAdd, Int.reduceSub, Int.reduceLT, Int.reduceLE, extractV, decide_true, decide_false, Int.reduceEq, mkFuncV, stBBoxes, beq_self_eq_true, tyB0Boxes]
  refine len_p h ?_
  by_cases hc : cntB L = 0
  · have hci : ((cntB L : Nat) : Int) = 0 := by omega
    simp (disch := first | omega | ((simp only [Ab.next_alloc, Ab.next_upd, List.length_cons, List.length_nil, ne_eq, not_true_eq_false, not_false_eq_true]) <;> omega) | decide) only [↓stepPre, stepPost, ↓W_cond, ↓W_block, ↓reduceIte, Nat.reduceEqDiff, Nat.reduceLT, Nat.reduceLeDiff, ret0, stVar, isTup, Value.cells, Nat.le_refl, Nat.reduceAdd, Nat.reduceMul, Nat.reduceSub, env0, binV, intV, reduceCtorEq, pickV, nilCheckV, ptrV, unV, true_and, and_true, Nat.add_zero, Nat.zero_add, Rt, resultsV, allV, resV, Bool.not_true, Bool.not_false, calleeV, builtinV, eqV, fieldAddrV, ldVar, stN_own, stN_ownL, Int.fdiv_eq_ediv_of_nonneg, Int.reduceToNat, Int.reducePow, IntKind.bits, convV, ne_eq, not_false_eq_true, not_true_eq_false, Int.reduceNeg, Int.reduceAdd, Int.reduceSub, Int.reduceLT, Int.reduceLE, extractV, decide_true, decide_false, Int.reduceEq, mkFuncV, stBBoxes, beq_self_eq_true, tyB0Boxes, hci, Try.results26]
    exact hR _ _ (.refl _) (.inl ⟨rfl, cnt_zero.1 hc⟩)
  have hci : ¬ ((cntB L : Nat) : Int) = 0 := by omega
  simp (disch := first | omega | ((simp only [Ab.next_alloc, Ab.next_upd, List.length_cons, List.length_nil, ne_eq, not_true_eq_false, not_false_eq_true]) <;> omega) | decide) only [↓stepPre, stepPost, ↓W_cond, ↓W_block, ↓reduceIte, Nat.reduceEqDiff, Nat.reduceLT, Nat.reduceLeDiff, ret0, stVar, isTup, Value.cells, Nat.le_refl, Nat.reduceAdd, Nat.reduceMul, Nat.reduceSub, env0, binV, intV, reduceCtorEq, pickV, nilCheckV, ptrV, unV, true_and, and_true, Nat.add_zero, Nat.zero_add, Rt, resultsV, allV, resV, Bool.not_true, Bool.not_false, calleeV, builtinV, eqV, fieldAddrV, ldVar, stN_own, stN_ownL, Int.fdiv_eq_ediv_of_nonneg, Int.reduceToNat, Int.reducePow, IntKind.bits, convV, ne_eq, not_false_eq_true, not_true_eq_false, Int.reduceNeg, Int.reduceAdd, Int.reduceSub, Int.reduceLT, Int.reduceLE, extractV, decide_true, decide_false, Int.reduceEq, mkFuncV, stBBoxes, beq_self_eq_true, tyB0Boxes, hci]
  refine row_p h ?_
  simp (disch := first | omega | ((simp only [Ab.next_alloc, Ab.next_upd, List.length_cons, List.length_nil, ne_eq, not_true_eq_false, not_false_eq_true]) <;> omega) | decide) only [↓stepPre, stepPost, ↓W_cond, ↓W_block, ↓reduceIte, Nat.reduceEqDiff, Nat.reduceLT, Nat.reduceLeDiff, ret0, stVar, isTup, Value.cells, Nat.le_refl, Nat.reduceAdd, Nat.reduceMul, Nat.reduceSub, env0, binV, intV, reduceCtorEq, pickV, nilCheckV, ptrV, unV, true_and, and_true, Nat.add_zero, Nat.zero_add, Rt, resultsV, allV, resV, Bool.not_true, Bool.not_false, calleeV, builtinV, eqV, fieldAddrV, ldVar, stN_own, stN_ownL, Int.fdiv_eq_ediv_of_nonneg, Int.reduceToNat, Int.reducePow, IntKind.bits, convV, ne_eq, not_false_eq_true, not_true_eq_false, Int.reduceNeg, Int.reduceAdd, Int.reduceSub, Int.reduceLT, Int.reduceLE, extractV, decide_true, decide_false, Int.reduceEq, mkFuncV, stBBoxes, beq_self_eq_true, tyB0Boxes, hci]
  refine minFunc_ok h fun i v hi hv hm => ?_
  simp (disch := first | omega | ((simp only [Ab.next_alloc, Ab.next_upd, List.length_cons, List.length_nil, ne_eq, not_true_eq_false, not_false_eq_true]) <;> omega) | decide) only [↓stepPre, stepPost, ↓W_cond, ↓W_block, ↓reduceIte, Nat.reduceEqDiff, Nat.reduceLT, Nat.reduceLeDiff, ret0, stVar, isTup, Value.cells, Nat.le_refl, Nat.reduceAdd, Nat.reduceMul, Nat.reduceSub, env0, binV, intV, reduceCtorEq, pickV, nilCheckV, ptrV, unV, true_and, and_true, Nat.add_zero, Nat.zero_add, Rt, resultsV, allV, resV, Bool.not_true, Bool.not_false, calleeV, builtinV, eqV, fieldAddrV, ldVar, stN_own, stN_ownL, Int.fdiv_eq_ediv_of_nonneg, Int.reduceToNat, Int.reducePow, IntKind.bits, convV, ne_eq, not_false_eq_true, not_true_eq_false, Int.reduceNeg, Int.reduceAdd, Int.reduceSub, Int.reduceLT, Int.reduceLE, extractV, decide_true, decide_false, Int.reduceEq, mkFuncV, stBBoxes, beq_self_eq_true, tyB0Boxes, hci]
  refine bkey_p hv hl (hg i) ?_
  simp (disch := first | omega | ((simp only [Ab.next_alloc, Ab.next_upd, List.length_cons, List.length_nil, ne_eq, not_true_eq_false, not_false_eq_true]) <;> omega) | decide) only [↓stepPre, stepPost, ↓W_cond, ↓W_block, ↓reduceIte, Nat.reduceEqDiff, Nat.reduceLT, Nat.reduceLeDiff, ret0, stVar, isTup, Value.cells, Nat.le_refl, Nat.reduceAdd, Nat.reduceMul, Nat.reduceSub, env0, binV, intV, reduceCtorEq, pickV, nilCheckV, ptrV, unV, true_and, and_true, Nat.add_zero, Nat.zero_add, Rt, resultsV, allV, resV, Bool.not_true, Bool.not_false, calleeV, builtinV, eqV, fieldAddrV, ldVar, stN_own, stN_ownL, Int.fdiv_eq_ediv_of_nonneg, Int.reduceToNat, Int.reducePow, IntKind.bits, convV, ne_eq, not_false_eq_true, not_true_eq_false, Int.reduceNeg, Int.reduceAdd, Int.reduceSub, Int.reduceLT, Int.reduceLE, extractV, decide_true, decide_false, Int.reduceEq, mkFuncV, stBBoxes, beq_self_eq_true, tyB0Boxes, hci]
  have hmd := Mild.alloc s (.row [.int .u64 ((keyO (L.getD i none) : Nat) : Int)])
  refine bfirst_ok (q := fun j => decide (keyO (L.getD j none) = keyO (L.getD i none))) (h.mild hmd) (fun j w hj hw R' hR' => best2_p hw hl (hg j) (Ab.heap_alloc_new _ _) hbn hR') ?_
  simp (disch := first | omega | ((simp only [Ab.next_alloc, Ab.next_upd, List.length_cons, List.length_nil, ne_eq, not_true_eq_false, not_false_eq_true]) <;> omega) | decide) only [↓stepPre, stepPost, ↓W_cond, ↓W_block, ↓reduceIte, Nat.reduceEqDiff, Nat.reduceLT, Nat.reduceLeDiff, ret0, stVar, isTup, Value.cells, Nat.le_refl, Nat.reduceAdd, Nat.reduceMul, Nat.reduceSub, env0, binV, intV, reduceCtorEq, pickV, nilCheckV, ptrV, unV, true_and, and_true, Nat.add_zero, Nat.zero_add, Rt, resultsV, allV, resV, Bool.not_true, Bool.not_false, calleeV, builtinV, eqV, fieldAddrV, ldVar, stN_own, stN_ownL, Int.fdiv_eq_ediv_of_nonneg, Int.reduceToNat, Int.reducePow, IntKind.bits, convV, ne_eq, not_false_eq_true, not_true_eq_false, Int.reduceNeg, Int.reduceAdd, Int.reduceSub, Int.reduceLT, Int.reduceLE, extractV, decide_true, decide_false, Int.reduceEq, mkFuncV, stBBoxes, beq_self_eq_true, tyB0Boxes, Try.results26]
  refine hR _ _ hmd (best_least h.good ?_ ⟨i, hi, rfl⟩ hm)
  rcases Classical.em (∃ i, i < L.length ∧ (L.getD i none).isSome = true) with hx | hx
  · exact hx
  · exact absurd (cnt_zero.2 fun j hj => by
      cases ho : L.getD j none with
      | none => rfl
      | some p => exact absurd ⟨j, hj, by rw [ho]; rfl⟩ hx) hc
/-! ### No boxes at all -/
end Go.Proofs.Ytghigcdpinogaaa
