/- More equations. -/
import Derived.Test.YtoldihdlpdccnaaAb29
set_option linter.unusedVariables false
set_option linter.unusedSimpArgs false
namespace Go.Ab
open Go Go.RowKit
theorem sliceArr {P : Program} {s : St} {t e : TypeId} {k n b o : Nat} (ha : arrT P t = some (k, e)) (hz : sizT P e = some n) : sliceV P s t (.pointer (some ⟨b, o, none⟩)) none none none = some (.slice (some ⟨b, o, none⟩) k k) := by
  simp only [sliceV, ha, hz, cutV, Option.isSome_none, Bool.false_eq_true, if_false]
  rw [if_pos ⟨by omega, by omega, by omega, by omega⟩]
  simp [add_lit]
/-- A slice that holds something leads to a place. -/
theorem Sl.conc {base z : Nat} {s : St} {v : Value} {L : List (List Value)} (h : Sl base s z v L) (hL : L ≠ []) : ∃ b o n c, v = .slice (some ⟨b, o, none⟩) n c := by
  cases h with
  | nil => exact absurd rfl hL
  | @mk a len cap L h1 h2 h3 h4 h5 h6 =>
    have := (h4 (.inl hL)).1
    obtain ⟨b, o, sp⟩ := a
    simp only at this
    subst this
    exact ⟨b, o, _, _, rfl⟩
theorem atP_conc {b o n c k : Nat} : atP (.slice (some ⟨b, o, none⟩) n c) k = .pointer (some ⟨b, o + k, none⟩) := by simp only [atP, add_lit]
theorem Sl.place {base z b o n c i : Nat} {s : St} {L : List (List Value)} {l : List Value} (h : Sl base s z (.slice (some ⟨b, o, none⟩) n c) L) (hl : L[i]? = some l) : Mem base s ⟨b, o + i * z, none⟩ l := by
  obtain ⟨a, e1, e2, _⟩ := h.mem hl
  rw [atP_conc] at e1
  cases e1; exact e2
theorem Sl.lds {base z b o n c i k : Nat} {s : St} {L : List (List Value)} {l : List Value} {x : Value} (h : Sl base s z (.slice (some ⟨b, o, none⟩) n c) L) (hl : L[i]? = some l) (hx : l[k]? = some x) : Ab.ld1 base s ⟨b, o + i * z + k, none⟩ = some x := by
  have hlt : k < l.length := (List.getElem?_eq_some_iff.1 hx).1
  have := (h.place hl).sub (k := k) (m := 1) (by omega)
  rw [add_lit] at this
  have e : (l.drop k).take 1 = [x] := by
    rw [List.drop_eq_getElem_cons hlt, List.take_succ_cons, List.take_zero]
    rw [List.getElem?_eq_getElem hlt] at hx; cases hx; rfl
  rw [e] at this
  exact this.ld1
theorem Sl.lds0 {base z b o n c i : Nat} {s : St} {L : List (List Value)} {l : List Value} {x : Value} (h : Sl base s z (.slice (some ⟨b, o, none⟩) n c) L) (hl : L[i]? = some l) (hx : l[0]? = some x) : Ab.ld1 base s ⟨b, o + i * z, none⟩ = some x := h.lds (k := 0) hl hx
theorem Sl.ldsN {base z b o n c i k m : Nat} {s : St} {L : List (List Value)} {l : List Value} (h : Sl base s z (.slice (some ⟨b, o, none⟩) n c) L) (hl : L[i]? = some l) (hm : k + m ≤ l.length) : Ab.ldN base s ⟨b, o + i * z + k, none⟩ m = some ((l.drop k).take m) := by
  have := (h.place hl).sub (k := k) (m := m) hm
  rw [add_lit] at this
  have hlen : ((l.drop k).take m).length = m := by simp; omega
  have h2 := this.ldN
  rw [hlen] at h2; exact h2
theorem Sl.ldsN0 {base z b o n c i m : Nat} {s : St} {L : List (List Value)} {l : List Value} (h : Sl base s z (.slice (some ⟨b, o, none⟩) n c) L) (hl : L[i]? = some l) (hm : m ≤ l.length) : Ab.ldN base s ⟨b, o + i * z, none⟩ m = some (l.take m) := by
  have := h.ldsN (k := 0) (m := m) hl (by omega)
  simpa using this
theorem build1i {P : Program} {s : St} {t e : TypeId} {z : Value} {k : IntKind} {x : Int} (he : elemT P t = some e) (hz : sizT P e = some 1) (hzr : zerT P e = some [z]) :
    buildSliceV P s t 1 [(0, .int k x)] = some (.slice (some ⟨s.next, 0, none⟩) 1 1, s.alloc (.row [.int k x])) := by
  simp [buildSliceV, he, hz, hzr, fillL, isTup, Value.cells, repL, setL]
theorem build2i {P : Program} {s : St} {t e : TypeId} {z : Value} {k k' : IntKind} {x y : Int} (he : elemT P t = some e) (hz : sizT P e = some 1) (hzr : zerT P e = some [z]) :
    buildSliceV P s t 2 [(0, .int k x), (1, .int k' y)] = some (.slice (some ⟨s.next, 0, none⟩) 2 2, s.alloc (.row [.int k x, .int k' y])) := by
  simp [buildSliceV, he, hz, hzr, fillL, isTup, Value.cells, repL, setL]
/-- A call whose arguments and answer lead nowhere: what it does in the empty heap is what it does. -/
theorem WC_pure {P : Program} {base : Nat} {f : FuncId} {args : List Value} {s : St} {R : Value → St → Prop} {r : Value} (hP : progOk 0 P = true) (ha : args.all bareV = true) (hv : bareV r = true)
    (h : WC P 0 f args St.none (fun v _ => v = r)) (hR : R r s) : WC P base f args s R := by
  obtain ⟨v, s', hE, rfl⟩ := h
  exact ⟨_, s, .closed (Nat.zero_le _) hP ha hv rfl (fun b hb => absurd hb (Nat.not_lt_zero _)) hE, hR⟩
/-- The same, where the first rows are there. -/
theorem WC_pureAt {P : Program} {base g : Nat} {t : St} {f : FuncId} {args : List Value} {s : St} {R : Value → St → Prop} {r : Value} (hg : g ≤ base) (hP : progOk g P = true) (ha : args.all bareV = true) (hv : bareV r = true) (htn : t.next = g) (hth : ∀ b, b < g → t.heap b = s.heap b)
    (h : WC P g f args t (fun v _ => v = r)) (hR : R r s) : WC P base f args s R := by
  obtain ⟨v, s', hE, rfl⟩ := h
  exact ⟨_, s, .closed hg hP ha hv htn hth hE, hR⟩
end Go.Ab
