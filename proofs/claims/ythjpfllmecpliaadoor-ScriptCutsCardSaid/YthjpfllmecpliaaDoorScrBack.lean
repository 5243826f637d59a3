/- Scripts' texts: what is written is read as it was; what is read is written so again (plain). -/
import Derived.Test.YthjpfllmecpliaaDoorTypes
import Derived.Test.YthjpfllmecpliaaDoorRow0
import Derived.Test.YthjpfllmecpliaaDoorAbC
import Derived.Test.YthjpfllmecpliaaDoorScrParse
import Derived.Test.YthjpfllmecpliaaDoorScrPrint
set_option linter.all false
set_option maxRecDepth 20000
namespace Go.Proofs.YthjpfllmecpliaaDoor
open Go Go.Ab
/-! ### Words -/
theorem partW_app {c : UInt8} (b : List UInt8) : ∀ {a : List UInt8}, a.count c = 0 → partW c (a ++ c :: b) = a :: partW c b := by
  intro a
  induction a with
  | nil => intro _; simp [partW]
  | cons d a ih =>
    intro h
    by_cases hd : d = c
    · subst hd; simp at h
    · rw [List.count_cons_of_ne (by simpa using hd)] at h
      rw [List.cons_append, partW, if_neg hd, ih h]
theorem split_uniq {c : UInt8} : ∀ {a a' b b' : List UInt8}, a.count c = 0 → a'.count c = 0 → a ++ c :: b = a' ++ c :: b' → a = a' ∧ b = b' := by
  intro a
  induction a with
  | nil =>
    intro a' b b' _ h2 h
    cases a' with
    | nil => exact ⟨rfl, by simpa using h⟩
    | cons d a' =>
      rw [List.nil_append, List.cons_append] at h
      obtain ⟨h3, -⟩ := List.cons.inj h
      subst h3; simp at h2
  | cons d a ih =>
    intro a' b b' h1 h2 h
    cases a' with
    | nil =>
      rw [List.nil_append, List.cons_append] at h
      obtain ⟨h3, -⟩ := List.cons.inj h
      subst h3; simp at h1
    | cons d' a' =>
      rw [List.cons_append, List.cons_append] at h
      obtain ⟨h3, h4⟩ := List.cons.inj h
      subst h3
      have e1 : a.count c = 0 := by rw [List.count_cons] at h1; omega
      have e2 : a'.count c = 0 := by rw [List.count_cons] at h2; omega
      obtain ⟨h5, h6⟩ := ih e1 e2 h4
      exact ⟨by rw [h5], h6⟩
theorem cut_app {c : UInt8} {x : List UInt8} (r : List UInt8) (h : x.count c = 0) : Lib.cut (x ++ c :: r) [c] = (x, r, true) := by
  obtain ⟨l, r', h1, h2, h3, -⟩ := cut_in (c := c) (x := x ++ c :: r) (by simp; omega)
  obtain ⟨rfl, rfl⟩ := split_uniq h h3 h2
  exact h1
/-! ### Numbers -/
theorem digL_no {c : UInt8} (h : isDig c = false) (n : Nat) : (digL n).count c = 0 :=
  List.count_eq_zero.2 fun hm => by have := digL_dig n c hm; rw [h] at this; cases this
theorem rowL_cons (w : List UInt8) (n : Nat) (ns : List Nat) : rowL w (n :: ns) = w ++ 32 :: rowL (digL n) ns := by simp [rowL]
theorem partW_row : ∀ (ns : List Nat) (w : List UInt8), w.count 32 = 0 → partW 32 (rowL w ns) = w :: ns.map digL := by
  intro ns
  induction ns with
  | nil => intro w h; simp only [rowL, List.flatMap_nil, List.append_nil, List.map_nil]; exact partW_none h
  | cons n ns ih => intro w h; rw [rowL_cons, partW_app _ h, ih _ (digL_no (by decide) n)]; rfl
theorem partW_rowT (t : List UInt8) : ∀ (ns : List Nat) (w : List UInt8), w.count 32 = 0 → partW 32 (rowL w ns ++ 32 :: t) = w :: (ns.map digL ++ partW 32 t) := by
  intro ns
  induction ns with
  | nil => intro w h; simp only [rowL, List.flatMap_nil, List.append_nil, List.map_nil, List.nil_append]; exact partW_app _ h
  | cons n ns ih =>
    intro w h
    rw [rowL_cons, List.append_assoc, List.cons_append, partW_app _ h, ih _ (digL_no (by decide) n)]; rfl
theorem rowL_no {c : UInt8} (h : isDig c = false) (h32 : c ≠ 32) (ns : List Nat) : ∀ {w : List UInt8}, w.count c = 0 → (rowL w ns).count c = 0 := by
  induction ns with
  | nil => intro w hw; simpa [rowL] using hw
  | cons n ns ih =>
    intro w hw
    rw [rowL_cons, List.count_append, List.count_cons_of_ne (by simpa using fun h => h32 h.symm), ih (digL_no h n), hw]
theorem okW_map (ns : List Nat) (r : List (List UInt8)) (h : ∀ n ∈ ns, n ≤ 2147483647) : okW (ns.map digL ++ r) ns.length = true := by
  unfold okW
  rw [Bool.and_eq_true, decide_eq_true_eq]
  refine ⟨by simp, ?_⟩
  rw [List.take_append_of_le_length (by simp), List.take_of_length_le (by simp), List.all_eq_true]
  intro w hw
  obtain ⟨n, hn, rfl⟩ := List.mem_map.1 hw
  exact isNum_dig (h n hn)
/-! ### The lines ahead -/
theorem lineB_row {w : List UInt8} {ns : List Nat} (hw : w.count 32 = 0) (hn : ∀ n ∈ ns, n ≤ 2147483647) : lineB w ns.length (rowL w ns) = true := by
  unfold lineB
  rw [partW_row _ _ hw]
  have := okW_map ns [] hn
  rw [List.append_nil] at this
  simp [this]
/-! ### Streams' lines -/
theorem class_place {c : Int} (h1 : 1 ≤ c) (h3 : c ≤ 3) : (placeN classesL (classL c) : Int) = c := by
  have : c = 1 ∨ c = 2 ∨ c = 3 := by omega
  rcases this with rfl | rfl | rfl <;> decide
theorem stream_part {x : Sm} : partW 32 (streamL x) = streamW :: digL x.id.toNat :: digL x.nd.toNat :: classL x.cl :: [digL x.pe.toNat, digL x.de.toNat, digL x.sl.toNat, digL x.by_.toNat] := by
  have hc : (classL x.cl).count 32 = 0 := by
    unfold classL
    repeat' split
    all_goals decide
  unfold streamL
  rw [partW_rowT _ _ _ (by decide), partW_row _ _ hc]
  rfl
theorem okW_two {a b : Nat} {r : List (List UInt8)} (ha : a ≤ 2147483647) (hb : b ≤ 2147483647) : okW (digL a :: digL b :: r) 2 = true :=
  okW_map [a, b] r (by intro n hn; simp only [List.mem_cons, List.not_mem_nil, or_false] at hn; omega)
theorem stream_back {x : Sm} (h : smFine x) : streamB (streamL x) = true ∧ streamV (streamL x) = x := by
  obtain ⟨x1, x2, x3, x4, x5, x6, x7, x8, y1, y2, y5, y6, y7, y8⟩ := h
  have hcl := class_place x3 x4
  constructor
  · unfold streamB
    rw [stream_part]
    simp only [List.tail_cons, List.headD_cons, List.drop_succ_cons, List.drop_zero, List.isEmpty_cons, List.isEmpty_nil]
    rw [okW_two (by omega) (by omega), okW_two (by omega) (by omega), okW_two (by omega) (by omega)]
    simp only [not_true_eq_false, decide_false, Bool.not_true, Bool.or_false, Bool.not_false, Bool.true_and, decide_eq_true_eq]
    omega
  · unfold streamV
    rw [stream_part]
    simp only [List.tail_cons, List.headD_cons, List.drop_succ_cons, List.drop_zero, List.getD_cons_zero, List.getD_cons_succ, valL_digL, hcl]
    obtain ⟨a, b, c, d, e, f, g⟩ := x
    simp only at *
    rw [Int.toNat_of_nonneg x1, Int.toNat_of_nonneg x2, Int.toNat_of_nonneg x5, Int.toNat_of_nonneg x6, Int.toNat_of_nonneg x7, Int.toNat_of_nonneg x8]
end Go.Proofs.YthjpfllmecpliaaDoor
