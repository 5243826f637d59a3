/- Arrays that are cut, and walks' closers. -/
import Derived.Test.YtnhedpdemmbfnaaAb32
set_option linter.unusedVariables false
set_option linter.unusedSimpArgs false
namespace Go.Ab
open Go Go.RowKit
theorem sliceArrLo {P : Program} {s : St} {t e : TypeId} {k n b o : Nat} {kk : IntKind} {l : Int} (ha : arrT P t = some (k, e)) (hz : sizT P e = some n) (h0 : 0 ≤ l) (h1 : l ≤ k) :
    sliceV P s t (.pointer (some ⟨b, o, none⟩)) (some (.int kk l)) none none = some (.slice (some ⟨b, o + l.toNat * n, none⟩) (k - l.toNat) (k - l.toNat)) := by
  simp only [sliceV, ha, hz, cutV, intOf?, Option.isSome_none, Bool.false_eq_true, if_false]
  rw [if_pos ⟨h0, by omega, by omega, by omega⟩]
  simp [add_lit]
theorem sliceArrHi {P : Program} {s : St} {t e : TypeId} {k n b o : Nat} {kk : IntKind} {h : Int} (ha : arrT P t = some (k, e)) (hz : sizT P e = some n) (h0 : 0 ≤ h) (h1 : h ≤ k) :
    sliceV P s t (.pointer (some ⟨b, o, none⟩)) none (some (.int kk h)) none = some (.slice (some ⟨b, o, none⟩) h.toNat k) := by
  simp only [sliceV, ha, hz, cutV, intOf?, Option.isSome_none, Bool.false_eq_true, if_false]
  rw [if_pos ⟨by omega, by omega, by omega, by omega⟩]
  simp [add_lit]
theorem setL_eq : ∀ (vs c : List Value) (o : Nat), o + vs.length ≤ c.length → setL c o vs = c.take o ++ (vs ++ c.drop (o + vs.length)) := by
  intro vs
  induction vs with
  | nil => intro c o h; simp [setL]
  | cons v vs ih =>
    intro c o h
    simp only [List.length_cons] at h
    simp only [setL]
    rw [ih _ _ (by rw [List.length_set]; omega), List.take_succ_eq_append_getElem (by rw [List.length_set]; omega), List.take_set_of_le (by omega), List.getElem_set_self, List.drop_set_of_lt (by omega)]
    simp only [List.append_assoc, List.cons_append, List.nil_append, List.length_cons]
    congr 4; omega
theorem Dok_free {eff lite : Nat → Bool} {k n0 : Nat} {s s' : St} (he : eff k = true) (hn : s.next ≤ s'.next) : Dok (some ⟨eff, lite, fun _ => false, n0⟩) k s s' = True := by
  simp only [Dok, eq_iff_iff, iff_true]
  exact .inr ⟨he, hn, fun b h => by cases h⟩
theorem idxArr {P : Program} {t e : TypeId} {k n b o : Nat} {kk : IntKind} {i : Int} (ha : arrT P t = some (k, e)) (hz : sizT P e = some n) (h0 : 0 ≤ i) (h1 : i < k) :
    indexAddrV P t (.pointer (some ⟨b, o, none⟩)) (.int kk i) = some (.pointer (some ⟨b, o + i.toNat * n, none⟩)) := by
  simp only [indexAddrV, ha, hz, intOf?]
  rw [if_pos ⟨h0, h1⟩]
  simp [add_lit]
theorem Gif_dt {p : Prop} [Decidable p] {A B : Prop} (h1 : p → A) (h2 : ¬p → B) : Gif (some (some (decide p))) true A B := by
  by_cases h : p <;> simp_all [Gif]
theorem Gif_df {p : Prop} [Decidable p] {A B : Prop} (h1 : ¬p → A) (h2 : p → B) : Gif (some (some (decide p))) false A B := by
  by_cases h : p <;> simp_all [Gif]
theorem Gif_bt {b : Bool} {A B : Prop} (h1 : b = true → A) (h2 : b = false → B) : Gif (some (some b)) true A B := by cases b <;> simp_all [Gif]
theorem Gif_bf {b : Bool} {A B : Prop} (h1 : b = false → A) (h2 : b = true → B) : Gif (some (some b)) false A B := by cases b <;> simp_all [Gif]
end Go.Ab
