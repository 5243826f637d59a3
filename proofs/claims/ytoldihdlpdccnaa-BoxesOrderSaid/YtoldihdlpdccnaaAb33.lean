/- Arrays that are cut, and walks' closers. -/
import Derived.Test.YtoldihdlpdccnaaAb32
set_option linter.unusedVariables false
set_option linter.unusedSimpArgs false
namespace Go.Ab
open Go Go.RowKit
theorem sliceArrLo {P : Program} {s : St} {t e : TypeId} {k n b o : Nat} {kk : IntKind} {l : Int} (ha : arrT P t = some (k, e)) (hz : sizT P e = some n) (h0 : 0 ≤ l) (h1 : l ≤ k) :
    sliceV P s t (.pointer (some ⟨b, o, none⟩)) (some (.int kk l)) none none = some (.slice (some ⟨b, o + l.toNat * n, none⟩) (k - l.toNat) (k - l.toNat)) := by
  simp only [sliceV, ha, hz, cutV, intOf?, Option.isSome_none, Bool.false_eq_true, if_false]
  rw [if_pos ⟨h0, by omega, by omega, by omega⟩]
  simp [add_lit]
theorem sliceArrHi {P : Program} {s : St} {t e : TypeId} {k n b o : Nat} {kk : IntKind} {h : Int} (ha : arrT P t = some (k, e)) (hz : sizT P e = some n) (h0 : 0 ≤ h) (h1 : h ≤ k) :
    sliceV P s t (.pointer (some ⟨b, o, none⟩)) none (some (.int kk h)) none = some (.slice (some ⟨b, o, none⟩) h.toNat k) := by
  simp only [sliceV, ha, hz, cutV, intOf?, Option.isSome_none, Bool.false_eq_true, if_false]
  rw [if_pos ⟨by omega, by omega, by omega, by omega⟩]
  simp [add_lit]
theorem setL_eq : ∀ (vs c : List Value) (o : Nat), o + vs.length ≤ c.length → setL c o vs = c.take o ++ (vs ++ c.drop (o + vs.length)) := by
  intro vs
  induction vs with
  | nil => intro c o h; simp [setL]
  | cons v vs ih =>
    intro c o h
    simp only [List.length_cons] at h
    simp only [setL]
    rw [ih _ _ (by rw [List.length_set]; omega), List.take_succ_eq_append_getElem (by rw [List.length_set]; omega), List.take_set_of_le (by omega), List.getElem_set_self, List.drop_set_of_lt (by omega)]
    simp only [List.append_assoc, List.cons_append, List.nil_append, List.length_cons]
    congr 4; omega
theorem sliceArr3 {P : Program} {s : St} {t e : TypeId} {k n b o : Nat} {k1 k2 : IntKind} {h m : Int} (ha : arrT P t = some (k, e)) (hz : sizT P e = some n) (h0 : 0 ≤ h) (h1 : h ≤ m) (h2 : m ≤ k) :
    sliceV P s t (.pointer (some ⟨b, o, none⟩)) none (some (.int k1 h)) (some (.int k2 m)) = some (.slice (some ⟨b, o, none⟩) h.toNat m.toNat) := by
  simp only [sliceV, ha, hz, cutV, intOf?, Option.isSome_some]
  rw [if_pos ⟨by omega, by omega, by omega, by omega⟩]
  simp [add_lit]
theorem Dok_free {eff lite : Nat → Bool} {k n0 : Nat} {s s' : St} (he : eff k = true) (hn : s.next ≤ s'.next) : Dok (some ⟨eff, lite, fun _ => false, n0⟩) k s s' = True := by
  simp only [Dok, eq_iff_iff, iff_true]
  exact .inr ⟨he, hn, fun b h => by cases h⟩
theorem idxArr {P : Program} {t e : TypeId} {k n b o : Nat} {kk : IntKind} {i : Int} (ha : arrT P t = some (k, e)) (hz : sizT P e = some n) (h0 : 0 ≤ i) (h1 : i < k) :
    indexAddrV P t (.pointer (some ⟨b, o, none⟩)) (.int kk i) = some (.pointer (some ⟨b, o + i.toNat * n, none⟩)) := by
  simp only [indexAddrV, ha, hz, intOf?]
  rw [if_pos ⟨h0, h1⟩]
  simp [add_lit]
theorem idxSl {P : Program} {t e : TypeId} {n b o len cap : Nat} {kk : IntKind} {i : Int} (ht : elemT P t = some e) (hz : sizT P e = some n) (h0 : 0 ≤ i) (h1 : i < len) :
    indexAddrV P t (.slice (some ⟨b, o, none⟩) len cap) (.int kk i) = some (.pointer (some ⟨b, o + i.toNat * n, none⟩)) := by
  simp only [indexAddrV, ht, hz, intOf?]
  rw [if_pos ⟨h0, h1⟩]
  simp [add_lit]
theorem flat_at {z : Nat} : ∀ {L : List (List Value)}, (∀ l ∈ L, l.length = z) → ∀ {i : Nat} {l : List Value}, L[i]? = some l → ∀ {k : Nat}, k < z → L.flatten[i * z + k]? = l[k]? := by
  intro L h i l hl k hk
  have hf := flat_get h hl
  have hlen := h l (List.mem_of_getElem? hl)
  rw [← hf, List.getElem?_take_of_lt hk, List.getElem?_drop]
theorem flat_at0 {z : Nat} {L : List (List Value)} (h : ∀ l ∈ L, l.length = z) {i : Nat} {l : List Value} (hl : L[i]? = some l) (hz : 0 < z) : L.flatten[i * z]? = l[0]? := by
  have := flat_at h hl hz
  simpa using this
theorem getL_flat {z : Nat} {L : List (List Value)} (h : ∀ l ∈ L, l.length = z) {i : Nat} {l : List Value} (hl : L[i]? = some l) {k m : Nat} (hk : k + m ≤ z) : getL L.flatten (i * z + k) m = some ((l.drop k).take m) := by
  have hf := flat_get h hl
  have hlt : i < L.length := (List.getElem?_eq_some_iff.1 hl).1
  have hlen := flat_len' h
  have hm : (i + 1) * z ≤ L.length * z := Nat.mul_le_mul_right _ hlt
  rw [Nat.add_mul, Nat.one_mul] at hm
  rw [getL_take (by omega), ← hf, List.drop_take, List.take_take, List.drop_drop, Nat.min_eq_left (by omega)]
theorem getL_flat0 {z : Nat} {L : List (List Value)} (h : ∀ l ∈ L, l.length = z) {i : Nat} {l : List Value} (hl : L[i]? = some l) {m : Nat} (hk : m ≤ z) : getL L.flatten (i * z) m = some (l.take m) := by
  have := getL_flat h hl (k := 0) (m := m) (by omega)
  simpa using this
theorem setL_flat {z : Nat} {L : List (List Value)} (h : ∀ l ∈ L, l.length = z) {i : Nat} (hi : i < L.length) {l : List Value} (hl : l.length = z) : setL L.flatten (i * z) l = (L.set i l).flatten := by
  have hlen := flat_len' h
  have hm : (i + 1) * z ≤ L.length * z := Nat.mul_le_mul_right _ hi
  rw [Nat.add_mul, Nat.one_mul] at hm
  rw [setL_eq _ _ _ (by omega), List.set_eq_take_append_cons_drop, if_pos hi, List.flatten_append, List.flatten_cons]
  have ht : ∀ (L : List (List Value)), (∀ l ∈ L, l.length = z) → ∀ j, j ≤ L.length → L.flatten.take (j * z) = (L.take j).flatten ∧ L.flatten.drop (j * z) = (L.drop j).flatten := by
    intro L
    induction L with
    | nil => intro _ j hj; simp
    | cons x L ih =>
      intro h j hj
      cases j with
      | zero => simp
      | succ j =>
        have hx := h x (by simp)
        have := ih (fun l hl => h l (by simp [hl])) j (by simpa using hj)
        simp only [List.flatten_cons, List.take_succ_cons, List.drop_succ_cons]
        rw [show (j + 1) * z = x.length + j * z by rw [hx, Nat.add_mul]; omega, List.take_length_add_append, List.drop_length_add_append, this.1, this.2]
        exact ⟨rfl, rfl⟩
  have e : i * z + l.length = (i + 1) * z := by rw [hl, Nat.add_mul]; omega
  rw [(ht L h i (by omega)).1, e, (ht L h (i + 1) hi).2]
theorem putAt_flat {z : Nat} {L : List (List Value)} (h : ∀ l ∈ L, l.length = z) {i : Nat} (hi : i < L.length) {l : List Value} (hl : l.length = z) : putAt (.row L.flatten) (i * z) l = some (.row (L.set i l).flatten) := by
  have hlen := flat_len' h
  have hm : (i + 1) * z ≤ L.length * z := Nat.mul_le_mul_right _ hi
  rw [Nat.add_mul, Nat.one_mul] at hm
  simp only [putAt, AObj.cells?, AObj.withCells]
  rw [if_pos (by omega), setL_flat h hi hl]
theorem Gif_dt {p : Prop} [Decidable p] {A B : Prop} (h1 : p → A) (h2 : ¬p → B) : Gif (some (some (decide p))) true A B := by
  by_cases h : p <;> simp_all [Gif]
theorem Gif_df {p : Prop} [Decidable p] {A B : Prop} (h1 : ¬p → A) (h2 : p → B) : Gif (some (some (decide p))) false A B := by
  by_cases h : p <;> simp_all [Gif]
theorem Gif_bt {b : Bool} {A B : Prop} (h1 : b = true → A) (h2 : b = false → B) : Gif (some (some b)) true A B := by cases b <;> simp_all [Gif]
theorem Gif_bf {b : Bool} {A B : Prop} (h1 : b = false → A) (h2 : b = true → B) : Gif (some (some b)) false A B := by cases b <;> simp_all [Gif]
end Go.Ab
