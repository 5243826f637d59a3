/- What the reading of a row's arguments tells of the cells. -/
import Derived.Test.YtoldihdlpdccnaaAb21
import Derived.ChangeArms
import Derived.OpenShut
set_option linter.unusedVariables false
set_option linter.unusedSimpArgs false
namespace Go.Ab
open Go Go.RowKit

inductive CK where
  | int (k : IntKind)
  | bool
  | str
  | sl (es : List CK)

/-- The fields of a struct lie one behind the other. -/
def offsOk (P : Program) : List Field → Nat → Bool
  | [], _ => true
  | f :: r, o => decide (f.offset = o) && offsOk P r (o + P.cellsOf f.type)
def flat (P : Program) : Nat → TypeId → Option (List CK)
  | 0, _ => none
  | n + 1, t =>
    let all : Option (List CK) := match P.underlying t with
      | some .bool => some [.bool]
      | some (.int k) => some [.int k]
      | some .string => some [.str]
      | some (.slice e) => (flat P n e).map fun l => [.sl l]
      | some (.struct fs) => if offsOk P fs.toList 0 = true then fs.toList.foldr (fun f acc => match flat P n f.type, acc with | some l, some r => some (l ++ r) | _, _ => none) (some []) else none
      | some (.array k e) => (flat P n e).map fun l => (List.replicate k l).flatten
      | _ => none
    match all with
    | some l => if l.length = P.cellsOf t then some l else none
    | none => none
mutual
def okCell (w : World) : CK → Value → Prop
  | .int k, v => ∃ n, v = .int k n ∧ (Lit.int k n).wf = true
  | .bool, v => ∃ b, v = .bool b
  | .str, v => ∃ s, v = .string s ∧ s.size ≤ maxLen
  | .sl es, v => v = .slice none 0 0 ∨ ∃ a len cap, v = .slice (some a) len cap ∧ len ≤ cap ∧ cap ≤ maxLen ∧
      ∀ i, i < cap → ∃ l, w.cells? 0 (a.add (i * es.length)) es.length = some l ∧ okCells w es l
def okCells (w : World) : List CK → List Value → Prop
  | [], vs => vs = []
  | k :: ks, vs => ∃ v r, vs = v :: r ∧ okCell w k v ∧ okCells w ks r
end

theorem okCells_append {w : World} : ∀ {a b : List CK} {l m : List Value}, okCells w a l → okCells w b m → okCells w (a ++ b) (l ++ m) := by
  intro a
  induction a with
  | nil => intro b l m h1 h2; simp only [okCells] at h1; subst h1; exact h2
  | cons k a ih =>
    intro b l m h1 h2
    simp only [okCells] at h1
    obtain ⟨v, r, rfl, h3, h4⟩ := h1
    simp only [List.cons_append, okCells]
    exact ⟨v, r ++ m, rfl, h3, ih h4 h2⟩
theorem okCells_length {w : World} : ∀ {a : List CK} {l : List Value}, okCells w a l → l.length = a.length := by
  intro a
  induction a with
  | nil => intro l h; simp only [okCells] at h; subst h; rfl
  | cons k a ih =>
    intro l h
    simp only [okCells] at h
    obtain ⟨v, r, rfl, _, h4⟩ := h
    simp [ih h4]
theorem okCells_one {w : World} {k : CK} {v : Value} (h : okCell w k v) : okCells w [k] [v] := by
  simp only [okCells]; exact ⟨v, [], rfl, h, rfl⟩

theorem mapM_some {α β : Type} {f : α → Option β} : ∀ {l : List α} {ys : List β}, l.mapM f = some ys → ∀ x ∈ l, ∃ y, f x = some y := by
  intro l
  induction l with
  | nil => intro ys _ x hx; cases hx
  | cons a l ih =>
    intro ys h x hx
    rw [List.mapM_cons] at h
    cases hfa : f a with
    | none => rw [hfa] at h; cases h
    | some y =>
      rw [hfa] at h
      cases hl : l.mapM f with
      | none => simp [hl] at h
      | some zs =>
        rcases List.mem_cons.1 hx with rfl | hx
        · exact ⟨y, hfa⟩
        · exact ih hl x hx

theorem flat_len {P : Program} {m : Nat} {t : TypeId} {l : List CK} (h : flat P m t = some l) : l.length = P.cellsOf t := by
  cases m with
  | zero => cases h
  | succ m =>
    simp only [flat] at h
    split at h
    · split at h
      · cases h; assumption
      · cases h
    · cases h

theorem trod_ok {H : Type} {enc : TypeId × Value → H} {P : Program} {w : World} {held : Bool} : ∀ (n fuel : Nat) (t : TypeId) (ks : List CK) (cs : List Value) (x : DataW H × List MemPlace),
    flat P n t = some ks → DataW.trod enc P w 0 (fun _ => true) held fuel t cs = some x → okCells w ks cs := by
  intro n
  induction n with
  | zero => intro fuel t ks cs x h; cases h
  | succ n ih =>
    intro fuel t ks cs x hf h
    have hkl := flat_len hf
    simp only [flat] at hf
    split at hf
    · rename_i l hl
      split at hf
      · cases hf
        cases hu : P.underlying t with
        | none => rw [hu] at hl; cases hl
        | some D =>
          rw [hu] at hl
          cases D with
          | bool =>
            cases hl
            obtain ⟨b, rfl, _⟩ := DataW.trod_bool hu h
            exact okCells_one ⟨b, rfl⟩
          | int k =>
            cases hl
            obtain ⟨b, rfl, _, hw⟩ := DataW.trod_int hu h
            exact okCells_one ⟨b, rfl, hw⟩
          | string =>
            cases hl
            obtain ⟨b, rfl, _, hw⟩ := DataW.trod_string hu h
            exact okCells_one ⟨b, rfl, hw⟩
          | slice e =>
            simp only [Option.map_eq_some_iff] at hl
            obtain ⟨es, he, rfl⟩ := hl
            have hel := flat_len he
            rcases DataW.trod_slice hu h with ⟨rfl, _⟩ | ⟨a, len, cap, elems, rest, m, rfl, rfl, _, _, h2, h3, h4, h5, h6, _⟩
            · exact okCells_one (.inl rfl)
            · refine okCells_one (.inr ⟨a, len, cap, rfl, h2, h3, fun i hi => ?_⟩)
              rw [hel]
              obtain ⟨h6, h7⟩ := h6 rfl
              have main : ∀ y, (w.cells? 0 (a.add (i * P.cellsOf e)) (P.cellsOf e)).bind (DataW.trod enc P w 0 (fun _ => true) held m e) = some y → ∃ l, w.cells? 0 (a.add (i * P.cellsOf e)) (P.cellsOf e) = some l ∧ okCells w es l := fun y hy => by
                obtain ⟨l, hl, hy⟩ := Option.bind_eq_some_iff.1 hy
                exact ⟨l, hl, ih _ _ _ _ _ he hy⟩
              rcases Nat.lt_or_ge i len with hil | hil
              · exact main elems[i] (by rw [h5 i hil, List.getElem?_eq_getElem (by omega)])
              · have := h7 (i - len) (by omega)
                rw [show len + (i - len) = i by omega] at this
                exact main rest[i - len] (by rw [this, List.getElem?_eq_getElem (by omega)])
          | struct fs =>
            obtain ⟨xs, m, rfl, _, h1, h2, h3⟩ := DataW.trod_struct hu h
            have hoff : offsOk P fs.toList 0 = true := by
              simp only at hl; split at hl
              · assumption
              · cases hl
            simp only [hoff, if_true] at hl
            have key : ∀ (r : List Field) (o : Nat) (ls : List CK), (∃ i, r = fs.toList.drop i) → offsOk P r o = true → r.foldr (fun f acc => match flat P n f.type, acc with | some l, some r => some (l ++ r) | _, _ => none) (some []) = some ls →
                cs.length = o + ls.length → okCells w ls (cs.drop o) := by
              intro r
              induction r with
              | nil =>
                intro o ls _ _ hls hlen
                cases hls
                simp only [okCells]
                exact List.drop_eq_nil_of_le (by simp at hlen; omega)
              | cons f r ihr =>
                rintro o ls ⟨i, hi⟩ ho hls hlen
                simp only [offsOk, Bool.and_eq_true, decide_eq_true_eq] at ho
                simp only [List.foldr_cons] at hls
                split at hls
                · rename_i l1 r1 hl1 hr1
                  cases hls
                  have hfi : fs[i]? = some f := by
                    have : (fs.toList.drop i)[0]? = some f := by rw [← hi]; rfl
                    simpa using this
                  have hr' : r = fs.toList.drop (i + 1) := by
                    have : (fs.toList.drop i).tail = r := by rw [← hi]; rfl
                    rw [← this, List.tail_drop]
                  have hx := h3 i f hfi
                  have hlt : i < xs.length := by rw [h2]; exact (Array.getElem?_eq_some_iff.1 hfi).1
                  rw [List.getElem?_eq_getElem hlt, ho.1] at hx
                  have hk := ih _ _ _ _ _ hl1 hx
                  have hl1' := flat_len hl1
                  have := ihr (o + P.cellsOf f.type) r1 ⟨i + 1, hr'⟩ ho.2 hr1 (by simp at hlen; omega)
                  have e : cs.drop o = (cs.drop o).take (P.cellsOf f.type) ++ cs.drop (o + P.cellsOf f.type) := by
                    rw [← List.drop_drop, List.take_append_drop]
                  rw [e]
                  exact okCells_append hk this
                · cases hls
            have := key fs.toList 0 ks ⟨0, rfl⟩ hoff hl (by rw [h1, hkl]; omega)
            simpa using this
          | array k e =>
            simp only [Option.map_eq_some_iff] at hl
            obtain ⟨es, he, rfl⟩ := hl
            have hel := flat_len he
            obtain ⟨xs, m, rfl, _, h1, h2, h3⟩ := DataW.trod_array hu h
            have key : ∀ (r o : Nat), o + r = k → cs.length = o * P.cellsOf e + r * P.cellsOf e → okCells w (List.replicate r es).flatten (cs.drop (o * P.cellsOf e)) := by
              intro r
              induction r with
              | zero =>
                intro o _ hlen
                simp only [List.replicate_zero, List.flatten_nil, okCells]
                exact List.drop_eq_nil_of_le (by omega)
              | succ r ihr =>
                intro o ho hlen
                have hx := h3 o (by omega)
                rw [List.getElem?_eq_getElem (by omega)] at hx
                have hk := ih _ _ _ _ _ he hx
                have := ihr (o + 1) (by omega) (by rw [Nat.add_mul] at *; omega)
                have e1 : cs.drop (o * P.cellsOf e) = (cs.drop (o * P.cellsOf e)).take (P.cellsOf e) ++ cs.drop ((o + 1) * P.cellsOf e) := by
                  rw [Nat.add_mul, Nat.one_mul, ← List.drop_drop, List.take_append_drop]
                rw [e1, List.replicate_succ, List.flatten_cons]
                exact okCells_append hk this
            have := key k 0 (by omega) (by rw [h1, ← hkl]; simp [hel])
            simpa using this
          | _ => cases hl
      · cases hf
    · cases hf
end Go.Ab
