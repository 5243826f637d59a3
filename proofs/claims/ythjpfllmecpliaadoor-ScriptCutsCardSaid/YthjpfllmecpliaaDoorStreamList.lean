/- Lists of streams: a few, a copy, a field of one is written; as contracts. -/
import Derived.Test.YthjpfllmecpliaaDoorTypes
import Derived.Test.YthjpfllmecpliaaDoorRow0
import Derived.Test.YthjpfllmecpliaaDoorAbC
import Derived.Test.YthjpfllmecpliaaDoorBits
import Derived.Test.YthjpfllmecpliaaDoorStream
set_option linter.all false
set_option maxRecDepth 20000
namespace Go.Proofs.YthjpfllmecpliaaDoor
open Go Go.Ab
variable {base : Nat} {s : St} {R : Value → St → Prop}
theorem flat_set {z k : Nat} {x : Value} (hk : k < z) : ∀ {L : List (List Value)} {i : Nat} (hi : i < L.length), (∀ l ∈ L, l.length = z) → L.flatten.set (i * z + k) x = (L.set i (L[i].set k x)).flatten := by
  intro L
  induction L with
  | nil => intro i hi; simp at hi
  | cons l L ih =>
    intro i hi h
    have hl := h l (by simp)
    cases i with
    | zero =>
      simp only [Nat.zero_mul, Nat.zero_add, List.flatten_cons, List.set_cons_zero, List.getElem_cons_zero]
      rw [List.set_append_left _ _ (by omega)]
    | succ i =>
      simp only [List.flatten_cons, List.set_cons_succ, List.getElem_cons_succ]
      rw [List.set_append_right _ _ (by rw [Nat.succ_mul]; omega), ← ih (by simpa using hi) fun m hm => h m (by simp [hm])]
      congr 2
      rw [Nat.succ_mul]; omega
/-- One cell of an element is written. -/
theorem Sl.putF {z b o n c i k : Nat} {x : Value} {L : List (List Value)} (h : Sl base s z (.slice (some ⟨b, o, none⟩) n c) L) (hb : base ≤ b) (hi : i < L.length) (hk : k < z) :
    ∃ s', stN base s ⟨b, o + i * z + k, none⟩ [x] = some s' ∧ Sl base s' z (.slice (some ⟨b, o, none⟩) n c) (L.set i (L[i].set k x)) ∧ Ch s s' (fun j => j = b) ∧ s'.next = s.next := by
  cases h with
  | mk h1 h2 h3 h4 h5 h6 =>
    obtain ⟨g1, g2, g3, cs, g4, g5⟩ := h4 (.inr hb)
    have hlen := flat_len' h3
    have hle := (getL_some g5).1
    have hmul : i * z + z ≤ L.length * z := by
      have := Nat.mul_le_mul_right z (show i + 1 ≤ L.length by omega)
      rw [Nat.succ_mul] at this; exact this
    simp only at g4 hle
    refine ⟨s.upd b ((s.heap b).withCells (setL cs (o + i * z + k) [x])), ?_, ?_, Ch.upd' (.refl _ _) fun _ => rfl, rfl⟩
    · unfold stN
      rw [if_neg (by simp)]
      simp only [g4]
      rw [if_pos ⟨trivial, hb, by simp only [List.length_cons, List.length_nil]; omega⟩]
    · have hcells : ((s.upd b ((s.heap b).withCells (setL cs (o + i * z + k) [x]))).heap b).cells? = some (cs.set (o + i * z + k) x) := by
        rw [Ab.heap_upd_same]
        cases hh : s.heap b <;> rw [hh] at g4 <;> first | (cases g4; done) | rfl
      have hL3 : ∀ l ∈ L.set i (L[i].set k x), l.length = z := fun l hl => by
        rcases List.mem_or_eq_of_mem_set hl with h | h
        · exact h3 l h
        · rw [h, List.length_set]; exact h3 _ (List.getElem_mem hi)
      refine .mk (by rw [List.length_set]; exact h1) h2 hL3 (fun _ => ⟨g1, h6, .inl hb, _, hcells, ?_⟩) ?_ h6
      · rw [← flat_set hk hi h3, List.length_set]
        have e := (getL_some g5).2.1
        simp only at e ⊢
        unfold getL
        rw [if_pos (by rw [List.length_set]; exact hle)]
        congr 1
        conv => rhs; rw [e]
        apply List.ext_getElem
        · simp
        · intro j hj1 hj2
          simp only [List.getElem_take, List.getElem_drop, List.getElem_set]
          by_cases hj : i * z + k = j
          · rw [if_pos (by omega), if_pos hj]
          · rw [if_neg (by omega), if_neg hj]
            try simp only [List.getElem_take, List.getElem_drop]
      · unfold kindB at h5 ⊢
        rw [Ab.heap_upd_same]
        cases hh : s.heap b <;> simp only [hh] at h5 ⊢ <;> first | (cases h5; done) | exact h5 | rfl
abbrev smL (xs : List Sm) : List (List Value) := xs.map Sm.c
theorem smL_len (xs : List Sm) : (smL xs).length = xs.length := by simp
theorem smL_at {xs : List Sm} {i : Nat} (h : i < xs.length) : (smL xs)[i]? = some xs[i].c := by simp [h]
end Go.Proofs.YthjpfllmecpliaaDoor
