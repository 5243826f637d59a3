import Derived.Test.YthjpfllmecpliaaDoorTypes
import Derived.Test.YthjpfllmecpliaaDoorRow0
import Derived.Test.YthjpfllmecpliaaDoorAbC
import Derived.Test.YthjpfllmecpliaaDoorBits
import Derived.Test.YthjpfllmecpliaaDoorPure
import Derived.Test.YthjpfllmecpliaaDoorRight
import Derived.Test.YthjpfllmecpliaaDoorFive
/- Mailboxes (the package boxes), as contracts. -/
set_option linter.all false
set_option maxRecDepth 20000
namespace Go.Proofs.YthjpfllmecpliaaDoor
open Go Go.Ab
variable {base : Nat} [Bok base] {s : St} {R : Value → St → Prop}
/-! ### The first place of which something holds -/
/-! ### Posts -/
structure Po where
  e : Bool
  n : Nat
  r : Bool
  l : Int
  d0 : Nat
  d1 : Nat
  d2 : Nat
  d3 : Nat
  d4 : Nat
  d5 : Nat
  d6 : Nat
  d7 : Nat
  o : Bool
  t : Int
  deriving DecidableEq
def Po.ds (p : Po) : List Nat := [p.d0, p.d1, p.d2, p.d3, p.d4, p.d5, p.d6, p.d7]
abbrev Po.c (p : Po) : List Value := [.bool p.e, .int .u32 (p.n : Int), .bool p.r, .int .i64 p.l, .int .u8 (p.d0 : Int), .int .u8 (p.d1 : Int), .int .u8 (p.d2 : Int), .int .u8 (p.d3 : Int), .int .u8 (p.d4 : Int), .int .u8 (p.d5 : Int), .int .u8 (p.d6 : Int), .int .u8 (p.d7 : Int), .bool p.o, .int .i64 p.t]
def Po.zero : Po := ⟨false, 0, false, 0, 0, 0, 0, 0, 0, 0, 0, 0, false, 0⟩
def Po.right (p : Po) : Int := rightF p.e p.n p.r p.l p.ds
def Po.key (p : Po) : Nat := keyN p.e p.n p.r
def Po.good (p : Po) : Prop := p.n < 2 ^ 32 ∧ p.right = 0
theorem right_id {e : Bool} {n : Nat} {r : Bool} {l : Int} {ds : List Nat} (h : rightF e n r l ds = 0) : idOk e n = true := by
  cases hi : idOk e n
  · simp [rightF, hi] at h
  · rfl
theorem Po.good.id {p : Po} (h : p.good) : idOk p.e p.n = true := right_id h.2
abbrev Bx := List (Option Po)
/-! ### The own boxes -/
def CellB (base : Nat) (s : St) (p : Nat) (X : Nat → Prop) : Option Po → Value → Prop
  | none, v => v = .pointer none
  | some po, v => ∃ q, v = .pointer (some ⟨q, 0, none⟩) ∧ X q ∧ q ≠ p ∧ s.heap q = .row po.c
structure OwnB (base : Nat) (s : St) (p : Nat) (L : Bx) (X : Nat → Prop) : Prop where
  hb : base ≤ p
  hp : p < s.next
  hX : X p
  low : ∀ b, X b → base ≤ b ∧ b < s.next
  room : 1 ≤ L.length ∧ L.length ≤ 8
  good : ∀ po, some po ∈ L → po.good
  row : ∃ qs : List Value, qs.length = 8 ∧ s.heap p = .row (.int .i64 (L.length : Nat) :: qs) ∧ ∀ i, i < 8 → ∃ v, qs[i]? = some v ∧ CellB base s p X (L.getD i none) v
theorem CellB.ch {p : Nat} {X Y : Nat → Prop} {s s' : St} {o : Option Po} {v : Value} (h : CellB base s p X o v) (hl : ∀ b, X b → b < s.next) (hc : Ch s s' Y) (hd : ∀ b, Y b → ¬ X b ∨ b = p) : CellB base s' p X o v := by
  cases o with
  | none => exact h
  | some po =>
    obtain ⟨q, h1, h2, h3, h4⟩ := h
    refine ⟨q, h1, h2, h3, ?_⟩
    rw [hc.heap _ (hl q h2) fun hy => (hd q hy).elim (fun h => h h2) h3]; exact h4
theorem OwnB.ch {p : Nat} {L : Bx} {X Y : Nat → Prop} {s s' : St} (h : OwnB base s p L X) (hc : Ch s s' Y) (hd : ∀ b, Y b → ¬ X b) : OwnB base s' p L X := by
  have hn := hc.next
  obtain ⟨qs, h1, h2, h3⟩ := h.row
  refine ⟨h.hb, Nat.lt_of_lt_of_le h.hp hn, h.hX, fun b hb => ⟨(h.low b hb).1, Nat.lt_of_lt_of_le (h.low b hb).2 hn⟩, h.room, h.good, qs, h1, ?_, fun i hi => ?_⟩
  · rw [hc.heap _ h.hp fun hy => hd _ hy h.hX]; exact h2
  · obtain ⟨v, e1, e2⟩ := h3 i hi
    exact ⟨v, e1, e2.ch (fun b hb => (h.low b hb).2) hc fun b hy => .inl (hd b hy)⟩
theorem OwnB.mild {p : Nat} {L : Bx} {X : Nat → Prop} {s s' : St} (h : OwnB base s p L X) (hm : Mild s s') : OwnB base s' p L X := h.ch (Ch.of_mild hm (fun _ => False)) fun _ h => h.elim
/-! ### Taking out, and looking in -/
theorem OwnB.cell {p : Nat} {L : Bx} {X : Nat → Prop} (h : OwnB base s p L X) {i : Nat} (hi : i < L.length) : ∃ qs v, qs.length = 8 ∧ s.heap p = .row (.int .i64 (L.length : Nat) :: qs) ∧ (Value.int .i64 (L.length : Nat) :: qs)[1 + i * 1]? = some v ∧ CellB base s p X (L.getD i none) v ∧ (∀ j, j < 8 → ∃ v, qs[j]? = some v ∧ CellB base s p X (L.getD j none) v) := by
  obtain ⟨qs, k1, k2, k3⟩ := h.row
  have hr := h.room
  obtain ⟨v, e1, e2⟩ := k3 i (by omega)
  exact ⟨qs, v, k1, k2, by rw [Nat.mul_one, Nat.add_comm, List.getElem?_cons_succ]; exact e1, e2, k3⟩
theorem OwnB.clear {p i : Nat} {L : Bx} {X : Nat → Prop} {qs : List Value} {s' : St} (h : OwnB base s p L X) (hi : i < L.length) (k1 : qs.length = 8) (k3 : ∀ j, j < 8 → ∃ v, qs[j]? = some v ∧ CellB base s p X (L.getD j none) v)
    (hc : Ch s s' (fun b => b = p)) (hrow : s'.heap p = .row (.int .i64 (L.length : Nat) :: qs.set i (.pointer none))) : OwnB base s' p (L.set i none) X := by
  have hn := hc.next
  refine ⟨h.hb, Nat.lt_of_lt_of_le h.hp hn, h.hX, fun b hb => ⟨(h.low b hb).1, Nat.lt_of_lt_of_le (h.low b hb).2 hn⟩, by simpa using h.room, fun po hpo => ?_, qs.set i (.pointer none), by simpa using k1, by rw [hrow]; simp, fun j hj => ?_⟩
  · rcases List.mem_or_eq_of_mem_set hpo with h' | h'
    · exact h.good _ h'
    · cases h'
  · by_cases hji : j = i
    · subst hji
      refine ⟨_, List.getElem?_set_self (by omega), ?_⟩
      have : (L.set j none).getD j none = none := by rw [List.getD_eq_getElem?_getD, List.getElem?_set_self hi]; rfl
      rw [this]
      rfl
    · obtain ⟨v, e1, e2⟩ := k3 j hj
      refine ⟨v, by rw [List.getElem?_set_ne (Ne.symm hji)]; exact e1, ?_⟩
      have : (L.set i none).getD j none = L.getD j none := by rw [List.getD_eq_getElem?_getD, List.getElem?_set_ne (Ne.symm hji), List.getD_eq_getElem?_getD]
      rw [this]
      exact e2.ch (fun b hb => (h.low b hb).2) hc fun b hy => .inr hy
/-! ### The best one -/
/-! ### Which one is the best -/
/-! ### No boxes at all -/
end Go.Proofs.YthjpfllmecpliaaDoor
