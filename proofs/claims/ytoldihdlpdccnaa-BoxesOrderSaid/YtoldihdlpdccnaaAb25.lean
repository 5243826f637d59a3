/- Memory and slices, as the contracts speak of them. -/
import Derived.Test.YtoldihdlpdccnaaAb24
set_option linter.unusedVariables false
set_option linter.unusedSimpArgs false
namespace Go.Ab
open Go Go.RowKit

theorem getL_sub {c cs : List Value} {off n k m : Nat} (h : getL c off n = some cs) (hk : k + m ≤ n) : getL c (off + k) m = some ((cs.drop k).take m) := by
  obtain ⟨h1, h2, h3, h4⟩ := getL_some h
  unfold getL
  rw [if_pos (by omega), h2]
  congr 1
  rw [← List.drop_drop, List.drop_take, List.take_take, Nat.min_eq_left (by omega)]
theorem getL_at {c cs : List Value} {off n k : Nat} {v : Value} (h : getL c off n = some cs) (hk : cs[k]? = some v) : c[off + k]? = some v := by
  obtain ⟨h1, h2, h3, h4⟩ := getL_some h
  have : k < n := by rw [← h3]; exact (List.getElem?_eq_some_iff.1 hk).1
  rw [← h4 k this]; exact hk

/-- The cells from an address on. -/
def Mem (base : Nat) (s : St) (a : Addr) (cs : List Value) : Prop :=
  a.spot = none ∧ a.block < s.next ∧ (base ≤ a.block ∨ cs.all (oldOk base) = true) ∧ ∃ c, (s.heap a.block).cells? = some c ∧ getL c a.off cs.length = some cs
theorem Mem.frame {base : Nat} {s s' : St} {a : Addr} {cs : List Value} (h : Mem base s a cs) (hh : s'.heap a.block = s.heap a.block) (hn : s.next ≤ s'.next) : Mem base s' a cs :=
  ⟨h.1, by have := h.2.1; omega, h.2.2.1, by rw [hh]; exact h.2.2.2⟩
theorem Mem.mild {base : Nat} {s s' : St} {a : Addr} {cs : List Value} (h : Mem base s a cs) (hm : Mild s s') : Mem base s' a cs := h.frame (hm.heap _ h.2.1) hm.next
theorem add_spot (a : Addr) (k : Nat) (h : a.spot = none) : (a.add k).spot = none := by
  unfold Addr.add; split
  · exact h
  · rfl
theorem add_off (a : Addr) (k : Nat) : (a.add k).off = a.off + k := by
  unfold Addr.add; split
  · rename_i h; subst h; rfl
  · rfl
theorem Mem.sub {base : Nat} {s : St} {a : Addr} {cs : List Value} (h : Mem base s a cs) {k m : Nat} (hk : k + m ≤ cs.length) : Mem base s (a.add k) ((cs.drop k).take m) := by
  obtain ⟨h1, h2, h3, c, h4, h5⟩ := h
  refine ⟨add_spot a k h1, by rw [add_block]; exact h2, ?_, c, by rw [add_block]; exact h4, ?_⟩
  · rw [add_block]
    refine h3.imp_right fun h => ?_
    rw [List.all_eq_true] at *
    exact fun v hv => h v (List.mem_of_mem_drop (List.mem_of_mem_take hv))
  · rw [add_off, List.length_take, List.length_drop, Nat.min_eq_left (by omega)]
    exact getL_sub h5 hk
theorem Mem.ldN {base : Nat} {s : St} {a : Addr} {cs : List Value} (h : Mem base s a cs) : ldN base s a cs.length = some cs := by
  obtain ⟨h1, h2, h3, c, h4, h5⟩ := h
  unfold Ab.ldN
  split
  · rename_i h0; rw [List.eq_nil_of_length_eq_zero h0]
  · rw [h4]; simp only [h1, if_true, h5]; rw [if_pos h3]
theorem Mem.ld1 {base : Nat} {s : St} {a : Addr} {v : Value} (h : Mem base s a [v]) : ld1 base s a = some v := by
  obtain ⟨h1, h2, h3, c, h4, h5⟩ := h
  unfold Ab.ld1
  have := getL_at (k := 0) h5 rfl
  rw [h4]; simp only [h1, if_true]
  rw [Nat.add_zero] at this
  rw [this]; simp only
  rw [if_pos (by rcases h3 with h | h; exact .inl h; exact .inr (by simpa using h))]

/-- A value of a type, out of its cells. -/
def valOf (agg : Bool) (l : List Value) : Value := if agg then .agg l.toArray else l.headD undef
theorem Mem.load {P : Program} {base : Nat} {s : St} {a : Addr} {l : List Value} {t : TypeId} {g : Bool} (h : Mem base s a l) (hg : aggT P t = some g) (hz : sizT P t = some l.length) (h1 : g = false → l.length = 1) : loadV P base s t (.pointer (some a)) = some (valOf g l) := by
  simp only [loadV, ptrV, ldVar, hg]
  cases g with
  | true => simp only [hz, h.ldN, valOf, if_true]
  | false =>
    have := h1 rfl
    match l, this with
    | [v], _ => simp only [h.ld1, valOf]; rfl
theorem Mem.row {base : Nat} {s : St} {b : Nat} {c : List Value} (h : s.heap b = .row c) (hb : base ≤ b) (hn : b < s.next) : Mem base s ⟨b, 0, none⟩ c :=
  ⟨rfl, hn, .inl hb, c, by rw [h]; rfl, by unfold getL; simp⟩

/-! ### Slices -/
inductive Sl (base : Nat) (s : St) (z : Nat) : Value → List (List Value) → Prop
  | nil : Sl base s z (.slice none 0 0) []
  | mk {a len cap L} (h1 : L.length = len) (h2 : len ≤ cap) (h3 : ∀ l ∈ L, l.length = z) (h4 : (L ≠ [] ∨ base ≤ a.block) → Mem base s a L.flatten) (h5 : kindB s a.block z = true) (h6 : a.block < s.next) : Sl base s z (.slice (some a) len cap) L
theorem Sl.frame {base z : Nat} {s s' : St} {v : Value} {L : List (List Value)} (h : Sl base s z v L) (hh : ∀ a n c, v = .slice (some a) n c → s'.heap a.block = s.heap a.block) (hn : s.next ≤ s'.next) : Sl base s' z v L := by
  cases h with
  | nil => exact .nil
  | mk h1 h2 h3 h4 h5 h6 =>
    have e := hh _ _ _ rfl
    exact .mk h1 h2 h3 (fun hL => (h4 hL).frame e hn) (by unfold kindB at *; rw [e]; exact h5) (by omega)
theorem Sl.mild {base z : Nat} {s s' : St} {v : Value} {L : List (List Value)} (h : Sl base s z v L) (hm : Mild s s') : Sl base s' z v L :=
  h.frame (fun a n c e => by subst e; cases h with | mk _ _ _ _ _ h6 => exact hm.heap _ h6) hm.next
theorem flat_len' {z : Nat} : ∀ {L : List (List Value)}, (∀ l ∈ L, l.length = z) → L.flatten.length = L.length * z := by
  intro L
  induction L with
  | nil => intro _; simp
  | cons l L ih =>
    intro h
    simp only [List.flatten_cons, List.length_append, List.length_cons, Nat.add_mul, Nat.one_mul]
    rw [ih fun x hx => h x (by simp [hx]), h l (by simp)]; omega
theorem flat_get {z : Nat} : ∀ {L : List (List Value)}, (∀ l ∈ L, l.length = z) → ∀ {i : Nat} {l : List Value}, L[i]? = some l → (L.flatten.drop (i * z)).take z = l := by
  intro L
  induction L with
  | nil => intro _ i l h; simp at h
  | cons x L ih =>
    intro h i l hl
    have hx := h x (by simp)
    cases i with
    | zero =>
      simp at hl; subst hl
      simp only [Nat.zero_mul, List.drop_zero, List.flatten_cons]
      rw [List.take_append_of_le_length (by omega), List.take_of_length_le (by omega)]
    | succ i =>
      have := ih (fun y hy => h y (by simp [hy])) (i := i) (by simpa using hl)
      rw [← this, List.flatten_cons, Nat.add_mul, Nat.one_mul, Nat.add_comm, ← List.drop_drop]
      congr 2
      rw [List.drop_append_of_le_length (by omega), List.drop_eq_nil_of_le (by omega : x.length ≤ z)]; rfl

/-- 'k' cells behind where a slice, or a pointer, leads. -/
def atP : Value → Nat → Value
  | .slice (some a) _ _, k => .pointer (some (a.add k))
  | .pointer (some a), k => .pointer (some (a.add k))
  | _, _ => .pointer none
theorem Sl.len {P : Program} {base z : Nat} {s : St} {v : Value} {L : List (List Value)} (h : Sl base s z v L) {t e : TypeId} {ts : List TypeId} (he : elemT P t = some e) (ha : arrT P t = none) : lenB P (t :: ts) [v] = some (.int .i64 L.length) := by
  cases h with
  | nil => simp [lenB, ha, he]
  | mk h1 => simp [lenB, ha, he, h1]
theorem Sl.index {P : Program} {base z : Nat} {s : St} {v : Value} {L : List (List Value)} (h : Sl base s z v L) {t e : TypeId} {k : IntKind} {i : Int} (he : elemT P t = some e) (hz : sizT P e = some z) (h0 : 0 ≤ i) (hi : i < L.length) :
    indexAddrV P t v (.int k i) = some (atP v (i.toNat * z)) := by
  cases h with
  | nil => simp at hi; omega
  | mk h1 => simp only [indexAddrV, intOf?, he, hz]; rw [if_pos ⟨h0, by omega⟩]; rfl
theorem Sl.mem {base z : Nat} {s : St} {v : Value} {L : List (List Value)} (h : Sl base s z v L) {i : Nat} {l : List Value} (hl : L[i]? = some l) : ∃ a, atP v (i * z) = .pointer (some a) ∧ Mem base s a l ∧ l.length = z := by
  cases h with
  | nil => simp at hl
  | @mk a len cap L h1 h2 h3 h4 h5 h6 =>
    have hlt : i < L.length := (List.getElem?_eq_some_iff.1 hl).1
    have hm := h4 (.inl fun e => by rw [e] at hl; simp at hl)
    have hz := h3 l (List.mem_of_getElem? hl)
    have hf := flat_len' h3
    have := hm.sub (k := i * z) (m := z) (by rw [hf, ← Nat.succ_mul]; exact Nat.mul_le_mul_right _ hlt)
    rw [flat_get h3 hl] at this
    exact ⟨_, rfl, this, hz⟩
theorem Sl.load {P : Program} {base z : Nat} {s : St} {v : Value} {L : List (List Value)} (h : Sl base s z v L) {i : Nat} {l : List Value} (hl : L[i]? = some l) {e : TypeId} {g : Bool} (hg : aggT P e = some g) (hz : sizT P e = some z) (h1 : g = false → z = 1) :
    loadV P base s e (atP v (i * z)) = some (valOf g l) := by
  obtain ⟨a, e1, e2, e3⟩ := h.mem hl
  rw [e1]
  exact e2.load hg (by rw [e3]; exact hz) (fun h => by rw [e3]; exact h1 h)

/-! ### Loads and stores, as equations -/
theorem ld1R {base : Nat} {s : St} {b o : Nat} {c : List Value} (h : s.heap b = .row c) (hb : base ≤ b) : ld1 base s ⟨b, o, none⟩ = c[o]? := by
  simp only [ld1, h, AObj.cells?, if_true]
  cases c[o]? with
  | none => rfl
  | some v => simp [hb]
theorem ldNR {base : Nat} {s : St} {b o n : Nat} {c : List Value} (h : s.heap b = .row c) (hb : base ≤ b) (hn : 0 < n) (hl : o + n ≤ c.length) : Ab.ldN base s ⟨b, o, none⟩ n = some ((c.drop o).take n) := by
  simp only [Ab.ldN, h, AObj.cells?, if_true]
  rw [if_neg (by omega)]
  simp [getL, hl, hb]
theorem st1R {base : Nat} {s : St} {b o : Nat} {c : List Value} {v : Value} (h : s.heap b = .row c) (hb : base ≤ b) (hl : o < c.length) : stN base s ⟨b, o, none⟩ [v] = some (s.upd b (.row (c.set o v))) := st1_row h hl hb
theorem stNR {base : Nat} {s : St} {b o : Nat} {c vs : List Value} (h : s.heap b = .row c) (hb : base ≤ b) (hn : vs ≠ []) (hl : o + vs.length ≤ c.length) : stN base s ⟨b, o, none⟩ vs = some (s.upd b (.row (setL c o vs))) := by
  simp [stN, h, AObj.cells?, AObj.withCells, hb, hn, hl]
end Go.Ab
