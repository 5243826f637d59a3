import Derived.Test.YtdhmjnpaoacpfaaDoorTypes
import Derived.Test.YtdhmjnpaoacpfaaDoorRow0
import Derived.Test.YtdhmjnpaoacpfaaDoorAbC
import Derived.Test.YtdhmjnpaoacpfaaDoorBits
import Derived.Test.YtdhmjnpaoacpfaaDoorPure
import Derived.Test.YtdhmjnpaoacpfaaDoorRight
import Derived.Test.YtdhmjnpaoacpfaaDoorFive
/- Mailboxes (the package boxes), as contracts. -/
set_option linter.all false
set_option maxRecDepth 20000
namespace Go.Proofs.YtdhmjnpaoacpfaaDoor
open Go Go.Ab
variable {base : Nat} [Bok base] {s : St} {R : Value → St → Prop}
/-! ### The first place of which something holds -/
def fidx (q : Nat → Bool) (n : Nat) : Int := match (List.range n).find? q with | some i => (i : Int) | none => -1
theorem fidx_some {q : Nat → Bool} {n i : Nat} (hi : i < n) (h : q i = true) (hj : ∀ j, j < i → q j = false) : fidx q n = i := by
  have : (List.range n).find? q = some i := by
    rw [List.find?_range_eq_some]
    exact ⟨h, by simpa using hi, fun j hji => by simp [hj j hji]⟩
  simp [fidx, this]
theorem fidx_none {q : Nat → Bool} {n : Nat} (h : ∀ i, i < n → q i = false) : fidx q n = -1 := by
  have : (List.range n).find? q = none := by
    rw [List.find?_range_eq_none]
    exact fun i hi => by simp [h i hi]
  simp [fidx, this]
theorem first_ex {q : Nat → Bool} : ∀ {n : Nat}, (∃ i, i < n ∧ q i = true) → ∃ i, i < n ∧ q i = true ∧ ∀ j, j < i → q j = false := by
  intro n
  induction n with
  | zero => rintro ⟨i, h, _⟩; omega
  | succ n ih =>
    rintro ⟨i, h, hq⟩
    by_cases hx : ∃ i, i < n ∧ q i = true
    · obtain ⟨j, h1, h2, h3⟩ := ih hx; exact ⟨j, by omega, h2, h3⟩
    · have hin : i = n := by
        by_cases hi : i < n
        · exact absurd ⟨i, hi, hq⟩ hx
        · omega
      exact ⟨i, h, hq, fun j hj => by
        cases hqj : q j with
        | false => rfl
        | true => exact absurd ⟨j, by omega, hqj⟩ hx⟩
theorem fidx_cases (q : Nat → Bool) (n : Nat) : (∃ i, i < n ∧ q i = true ∧ (∀ j, j < i → q j = false) ∧ fidx q n = i) ∨ ((∀ i, i < n → q i = false) ∧ fidx q n = -1) := by
  by_cases h : ∃ i, i < n ∧ q i = true
  · obtain ⟨i, h1, h2, h3⟩ := first_ex h
    exact .inl ⟨i, h1, h2, h3, fidx_some h1 h2 h3⟩
  · refine .inr ⟨fun i hi => ?_, fidx_none fun i hi => ?_⟩ <;>
    · cases hq : q i with
      | false => rfl
      | true => exact absurd ⟨i, hi, hq⟩ h
theorem fidx_congr {q q' : Nat → Bool} {n : Nat} (h : ∀ i, i < n → q i = q' i) : fidx q n = fidx q' n := by
  rcases fidx_cases q n with ⟨i, h1, h2, h3, h4⟩ | ⟨h1, h2⟩
  · rw [h4, fidx_some h1 ((h i h1).symm.trans h2) fun j hj => (h j (by omega)).symm.trans (h3 j hj)]
  · rw [h2, fidx_none fun i hi => (h i hi).symm.trans (h1 i hi)]
/-! ### Posts -/
structure Po where
  e : Bool
  n : Nat
  r : Bool
  l : Int
  d0 : Nat
  d1 : Nat
  d2 : Nat
  d3 : Nat
  d4 : Nat
  d5 : Nat
  d6 : Nat
  d7 : Nat
  o : Bool
  t : Int
  deriving DecidableEq
def Po.ds (p : Po) : List Nat := [p.d0, p.d1, p.d2, p.d3, p.d4, p.d5, p.d6, p.d7]
abbrev Po.c (p : Po) : List Value := [.bool p.e, .int .u32 (p.n : Int), .bool p.r, .int .i64 p.l, .int .u8 (p.d0 : Int), .int .u8 (p.d1 : Int), .int .u8 (p.d2 : Int), .int .u8 (p.d3 : Int), .int .u8 (p.d4 : Int), .int .u8 (p.d5 : Int), .int .u8 (p.d6 : Int), .int .u8 (p.d7 : Int), .bool p.o, .int .i64 p.t]
def Po.zero : Po := ⟨false, 0, false, 0, 0, 0, 0, 0, 0, 0, 0, 0, false, 0⟩
def Po.right (p : Po) : Int := rightF p.e p.n p.r p.l p.ds
def Po.key (p : Po) : Nat := keyN p.e p.n p.r
def Po.good (p : Po) : Prop := p.n < 2 ^ 32 ∧ p.right = 0
theorem right_id {e : Bool} {n : Nat} {r : Bool} {l : Int} {ds : List Nat} (h : rightF e n r l ds = 0) : idOk e n = true := by
  cases hi : idOk e n
  · simp [rightF, hi] at h
  · rfl
theorem Po.good.id {p : Po} (h : p.good) : idOk p.e p.n = true := right_id h.2
abbrev Bx := List (Option Po)
def tagO (t : Int) : Option Po → Bool
  | some p => decide (p.t = t)
  | none => false
def tagAt (L : Bx) (t : Int) (i : Nat) : Bool := tagO t (L.getD i none)
def freeAt (L : Bx) (i : Nat) : Bool := (L.getD i none).isNone
def keyO : Option Po → Nat
  | some p => p.key
  | none => 4294967296
def keyAt (L : Bx) (i : Nat) : Nat := keyO (L.getD i none)
def findT (L : Bx) (t : Int) : Int := fidx (tagAt L t) L.length
def freeI (L : Bx) : Int := fidx (freeAt L) L.length
def cntB (L : Bx) : Nat := L.countP Option.isSome
theorem keyO_le {o : Option Po} (h : ∀ p, o = some p → p.good) : keyO o ≤ 4294967296 := by
  cases o with
  | none => exact Nat.le_refl _
  | some p => have := keyN_lt p.e p.n p.r; simp only [keyO, Po.key]; omega
/-! ### The own boxes -/
def CellB (base : Nat) (s : St) (p : Nat) (X : Nat → Prop) : Option Po → Value → Prop
  | none, v => v = .pointer none
  | some po, v => ∃ q, v = .pointer (some ⟨q, 0, none⟩) ∧ X q ∧ q ≠ p ∧ s.heap q = .row po.c
structure OwnB (base : Nat) (s : St) (p : Nat) (L : Bx) (X : Nat → Prop) : Prop where
  hb : base ≤ p
  hp : p < s.next
  hX : X p
  low : ∀ b, X b → base ≤ b ∧ b < s.next
  room : 1 ≤ L.length ∧ L.length ≤ 8
  good : ∀ po, some po ∈ L → po.good
  row : ∃ qs : List Value, qs.length = 8 ∧ s.heap p = .row (.int .i64 (L.length : Nat) :: qs) ∧ ∀ i, i < 8 → ∃ v, qs[i]? = some v ∧ CellB base s p X (L.getD i none) v
theorem CellB.ch {p : Nat} {X Y : Nat → Prop} {s s' : St} {o : Option Po} {v : Value} (h : CellB base s p X o v) (hl : ∀ b, X b → b < s.next) (hc : Ch s s' Y) (hd : ∀ b, Y b → ¬ X b ∨ b = p) : CellB base s' p X o v := by
  cases o with
  | none => exact h
  | some po =>
    obtain ⟨q, h1, h2, h3, h4⟩ := h
    refine ⟨q, h1, h2, h3, ?_⟩
    rw [hc.heap _ (hl q h2) fun hy => (hd q hy).elim (fun h => h h2) h3]; exact h4
theorem OwnB.ch {p : Nat} {L : Bx} {X Y : Nat → Prop} {s s' : St} (h : OwnB base s p L X) (hc : Ch s s' Y) (hd : ∀ b, Y b → ¬ X b) : OwnB base s' p L X := by
  have hn := hc.next
  obtain ⟨qs, h1, h2, h3⟩ := h.row
  refine ⟨h.hb, Nat.lt_of_lt_of_le h.hp hn, h.hX, fun b hb => ⟨(h.low b hb).1, Nat.lt_of_lt_of_le (h.low b hb).2 hn⟩, h.room, h.good, qs, h1, ?_, fun i hi => ?_⟩
  · rw [hc.heap _ h.hp fun hy => hd _ hy h.hX]; exact h2
  · obtain ⟨v, e1, e2⟩ := h3 i hi
    exact ⟨v, e1, e2.ch (fun b hb => (h.low b hb).2) hc fun b hy => .inl (hd b hy)⟩
theorem OwnB.mild {p : Nat} {L : Bx} {X : Nat → Prop} {s s' : St} (h : OwnB base s p L X) (hm : Mild s s') : OwnB base s' p L X := h.ch (Ch.of_mild hm (fun _ => False)) fun _ h => h.elim
def putI (L : Bx) (p : Po) : Int := if p.right = 0 ∧ findT L p.t < 0 then freeI L else -1
def putE (L : Bx) (p : Po) : Int := if p.right = 0 then (if 0 ≤ findT L p.t then 13 else if freeI L < 0 then 6 else 0) else p.right
def putL (L : Bx) (p : Po) : Bx := if p.right = 0 ∧ findT L p.t < 0 ∧ 0 ≤ freeI L then L.set (freeI L).toNat (some p) else L
/-! ### Taking out, and looking in -/
def atO (L : Bx) (i : Int) : Option Po := if 0 ≤ i then L.getD i.toNat none else none
def poV (o : Option Po) : Value := .agg (o.getD Po.zero).c.toArray
theorem atO_big {L : Bx} {i : Int} (h : i < 0 ∨ L.length ≤ i) : atO L i = none := by
  unfold atO
  split
  · rw [List.getD_eq_getElem?_getD, List.getElem?_eq_none (by omega)]; rfl
  · rfl
theorem atO_nat (L : Bx) (i : Nat) : atO L i = L.getD i none := by simp [atO]
def takeE (L : Bx) (i : Int) : Int := if i < 0 ∨ L.length ≤ i then 1 else if (atO L i).isNone then 7 else 0
def takeL (L : Bx) (i : Int) : Bx := if (atO L i).isSome then L.set i.toNat none else L
theorem OwnB.cell {p : Nat} {L : Bx} {X : Nat → Prop} (h : OwnB base s p L X) {i : Nat} (hi : i < L.length) : ∃ qs v, qs.length = 8 ∧ s.heap p = .row (.int .i64 (L.length : Nat) :: qs) ∧ (Value.int .i64 (L.length : Nat) :: qs)[1 + i * 1]? = some v ∧ CellB base s p X (L.getD i none) v ∧ (∀ j, j < 8 → ∃ v, qs[j]? = some v ∧ CellB base s p X (L.getD j none) v) := by
  obtain ⟨qs, k1, k2, k3⟩ := h.row
  have hr := h.room
  obtain ⟨v, e1, e2⟩ := k3 i (by omega)
  exact ⟨qs, v, k1, k2, by rw [Nat.mul_one, Nat.add_comm, List.getElem?_cons_succ]; exact e1, e2, k3⟩
theorem OwnB.clear {p i : Nat} {L : Bx} {X : Nat → Prop} {qs : List Value} {s' : St} (h : OwnB base s p L X) (hi : i < L.length) (k1 : qs.length = 8) (k3 : ∀ j, j < 8 → ∃ v, qs[j]? = some v ∧ CellB base s p X (L.getD j none) v)
    (hc : Ch s s' (fun b => b = p)) (hrow : s'.heap p = .row (.int .i64 (L.length : Nat) :: qs.set i (.pointer none))) : OwnB base s' p (L.set i none) X := by
  have hn := hc.next
  refine ⟨h.hb, Nat.lt_of_lt_of_le h.hp hn, h.hX, fun b hb => ⟨(h.low b hb).1, Nat.lt_of_lt_of_le (h.low b hb).2 hn⟩, by simpa using h.room, fun po hpo => ?_, qs.set i (.pointer none), by simpa using k1, by rw [hrow]; simp, fun j hj => ?_⟩
  · rcases List.mem_or_eq_of_mem_set hpo with h' | h'
    · exact h.good _ h'
    · cases h'
  · by_cases hji : j = i
    · subst hji
      refine ⟨_, List.getElem?_set_self (by omega), ?_⟩
      have : (L.set j none).getD j none = none := by rw [List.getD_eq_getElem?_getD, List.getElem?_set_self hi]; rfl
      rw [this]
      rfl
    · obtain ⟨v, e1, e2⟩ := k3 j hj
      refine ⟨v, by rw [List.getElem?_set_ne (Ne.symm hji)]; exact e1, ?_⟩
      have : (L.set i none).getD j none = L.getD j none := by rw [List.getD_eq_getElem?_getD, List.getElem?_set_ne (Ne.symm hji), List.getD_eq_getElem?_getD]
      rw [this]
      exact e2.ch (fun b hb => (h.low b hb).2) hc fun b hy => .inr hy
/-! ### The best one -/
/-! ### Which one is the best -/
/-- What the best one among the first so many is. -/
def BestAt (L : Bx) (n : Nat) (a : Int) : Prop :=
  (a = -1 ∧ ∀ j, j < n → L.getD j none = none) ∨ ∃ i, i < n ∧ a = (i : Int) ∧ (L.getD i none).isSome = true ∧ (∀ j, j < n → keyAt L i ≤ keyAt L j) ∧ ∀ j, j < i → keyAt L i < keyAt L j
theorem BestAt.unique {L : Bx} {n : Nat} {a b : Int} (h : BestAt L n a) (h' : BestAt L n b) : a = b := by
  rcases h with ⟨rfl, h1⟩ | ⟨i, i1, rfl, i2, i3, i4⟩
  · rcases h' with ⟨rfl, -⟩ | ⟨i, i1, rfl, i2, -⟩
    · rfl
    · rw [h1 i i1] at i2; cases i2
  · rcases h' with ⟨rfl, h1⟩ | ⟨k, k1, rfl, k2, k3, k4⟩
    · rw [h1 i i1] at i2; cases i2
    · rcases Nat.lt_trichotomy i k with h | h | h
      · have := k4 i h; have := i3 k k1; omega
      · rw [h]
      · have := i4 k h; have := k3 i i1; omega
def bestI (L : Bx) : Int := if ∀ j, j < L.length → L.getD j none = none then -1 else fidx (fun i => (L.getD i none).isSome && decide (∀ j, j < L.length → keyAt L i ≤ keyAt L j)) L.length
theorem best_ex (L : Bx) : ∀ n, (∃ i, i < n ∧ (L.getD i none).isSome = true) → (∀ p, some p ∈ L → p.good) → ∃ i, i < n ∧ (L.getD i none).isSome = true ∧ ∀ j, j < n → keyAt L i ≤ keyAt L j := by
  intro n
  induction n with
  | zero => rintro ⟨i, h, _⟩; omega
  | succ n ih =>
    intro hx hg
    have hk : ∀ i, (L.getD i none).isSome = true → keyAt L i < 4294967296 := fun i hi => by
      unfold keyAt
      cases ho : L.getD i none with
      | none => rw [ho] at hi; cases hi
      | some p => exact keyN_lt p.e p.n p.r
    have hnone : ∀ i, L.getD i none = none → keyAt L i = 4294967296 := fun i hi => by unfold keyAt; rw [hi]; rfl
    by_cases hx2 : ∃ i, i < n ∧ (L.getD i none).isSome = true
    · obtain ⟨i, h1, h2, h3⟩ := ih hx2 hg
      by_cases hn : keyAt L n < keyAt L i
      · have : (L.getD n none).isSome = true := by
          cases ho : L.getD n none with
          | none => have := hnone n ho; have := hk i h2; omega
          | some p => rfl
        refine ⟨n, by omega, this, fun j hj => ?_⟩
        by_cases hjn : j = n
        · rw [hjn]; exact Nat.le_refl _
        · have := h3 j (by omega); omega
      · refine ⟨i, by omega, h2, fun j hj => ?_⟩
        by_cases hjn : j = n
        · rw [hjn]; omega
        · exact h3 j (by omega)
    · obtain ⟨i, h1, h2⟩ := hx
      have hin : i = n := by
        by_cases hi : i < n
        · exact absurd ⟨i, hi, h2⟩ hx2
        · omega
      subst hin
      refine ⟨i, by omega, h2, fun j hj => ?_⟩
      by_cases hjn : j = i
      · rw [hjn]; exact Nat.le_refl _
      · have : L.getD j none = none := by
          cases ho : L.getD j none with
          | none => rfl
          | some p => exact absurd ⟨j, by omega, by rw [ho]; rfl⟩ hx2
        have := hnone j this
        have := hk i h2; omega
/-- The place of the least key is the best one. -/
theorem best_least {L : Bx} {m : Nat} (hg : ∀ p, some p ∈ L → p.good) (hx : ∃ i, i < L.length ∧ (L.getD i none).isSome = true) (hm : ∃ i, i < L.length ∧ keyAt L i = m) (hle : ∀ j, j < L.length → m ≤ keyAt L j) : BestAt L L.length (fidx (fun i => decide (keyO (L.getD i none) = m)) L.length) := by
  rcases fidx_cases (fun i => decide (keyO (L.getD i none) = m)) L.length with ⟨i, h1, h2, h3, h4⟩ | ⟨h1, -⟩
  · rw [h4]
    have h2' : keyAt L i = m := of_decide_eq_true h2
    refine .inr ⟨i, h1, rfl, ?_, fun j hj => by rw [h2']; exact hle j hj, fun j hj => ?_⟩
    · obtain ⟨k, k1, k2⟩ := hx
      cases ho : L.getD i none with
      | some p => rfl
      | none =>
        have e1 : keyAt L i = 4294967296 := by unfold keyAt; rw [ho]; rfl
        have e2 := hle k k1
        have e3 : keyAt L k < 4294967296 := by
          unfold keyAt
          cases hk : L.getD k none with
          | none => rw [hk] at k2; cases k2
          | some p => exact keyN_lt p.e p.n p.r
        omega
    · have := hle j (by omega)
      have h5 : ¬ keyAt L j = m := of_decide_eq_false (h3 j hj)
      omega
  · obtain ⟨i, i1, i2⟩ := hm
    have := h1 i i1
    exact absurd i2 (of_decide_eq_false this)
theorem cnt_zero {L : Bx} : cntB L = 0 ↔ ∀ j, j < L.length → L.getD j none = none := by
  unfold cntB
  rw [List.countP_eq_zero]
  constructor
  · intro h j hj
    have := h L[j] (by simp)
    simp only [List.getD_eq_getElem?_getD, List.getElem?_eq_getElem hj, Option.getD_some]
    cases ho : L[j] with
    | none => rfl
    | some p => rw [ho] at this; simp at this
  · intro h o ho
    obtain ⟨j, hj, rfl⟩ := List.mem_iff_getElem.1 ho
    have := h j hj
    simp only [List.getD_eq_getElem?_getD, List.getElem?_eq_getElem hj, Option.getD_some] at this
    rw [this]; simp
theorem good_at {L : Bx} (hg : ∀ p, some p ∈ L → p.good) (i : Nat) : ∀ p, L.getD i none = some p → p.good := by
  intro p h
  rw [List.getD_eq_getElem?_getD] at h
  cases ho : L[i]? with
  | none => rw [ho] at h; cases h
  | some o =>
    rw [ho] at h
    simp only [Option.getD_some] at h
    subst h
    exact hg p (List.mem_of_getElem? ho)
/-! ### No boxes at all -/
end Go.Proofs.YtdhmjnpaoacpfaaDoor
