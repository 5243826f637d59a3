/- The simulation: cuts, appends, copies, comparisons. -/
import Derived.Test.YtoldihdlpdccnaaAb7
set_option linter.unusedVariables false
set_option linter.unusedSimpArgs false
namespace Go.Ab
open Go Go.RowKit
theorem extract_dt {α : Type} {l : List α} {a b : Nat} : l.extract a b = (l.drop a).take (b - a) := by
  rw [List.extract_eq_take_drop]

section
variable {P : Program} {w0 : World} {M : Mp} {s : St} {w : World}

theorem AR.add {a a' : Addr} (h : AR M a a') (n : Nat) : AR M (a.add n) (a'.add n) := by
  obtain ⟨B, d, hb, rfl⟩ := h
  unfold Addr.add
  split
  · exact ⟨B, d, hb, rfl⟩
  · exact ⟨B, d, hb, by simp; omega⟩
theorem add_block (a : Addr) (n : Nat) : (a.add n).block = a.block := by unfold Addr.add; split <;> rfl
theorem AR.off_add {a' : Addr} (n : Nat) : (a'.add n).off = a'.off + n ∧ (a'.add n).block = a'.block := by unfold Addr.add; split <;> simp_all

theorem intOf_run {v v' : Value} {n : Int} (h : intOf? v = some n) (hv : VR M v v') (w : World) : ∃ k, v' = .int k n ∧ (asIntOf v').run P w = .ok (k, n) w := by
  cases hv <;> simp [intOf?] at h
  subst h
  exact ⟨_, rfl, rfl⟩
def OVR (M : Mp) (o o' : Option Value) : Prop := match o, o' with
  | some v, some v' => VR M v v'
  | none, none => True
  | _, _ => False
theorem bound_run {v v' : Value} {n : Int} (h : intOf? v = some n) (hv : VR M v v') (y : Nat) (code : BoundsCode) (h0 : 0 ≤ n) (h1 : n ≤ y) (w : World) :
    (Instr.sliceBound v' y code).run P w = .ok n.toNat w := by
  obtain ⟨k, rfl, hr⟩ := intOf_run (P := P) h hv w
  simp only [Instr.sliceBound, Sem.run_bind, hr, Result.andThen_ok, Sem.run_ite]
  rw [if_pos ⟨h0, h1⟩]; rfl

theorem low_run {lo lo' : Option Value} (h1 : OVR M lo lo') {li : Int} (hl : (match (generalizing := false) lo with | some v => intOf? v | none => some 0) = some li) (y : Nat) (c1 : 0 ≤ li) (c2 : li ≤ y) (code : BoundsCode) (a b : Nat) (w : World) :
    (match (generalizing := false) lo' with | some v => (do let l ← Instr.sliceBound v y code; pure (l, a, b)) | none => (do let l ← pure 0; pure (l, a, b)) : Sem (Nat × Nat × Nat)).run P w = .ok (li.toNat, a, b) w := by
  cases lo with
  | none =>
    cases lo' with
    | none => simp at hl; subst hl; rfl
    | some _ => exact h1.elim
  | some v =>
    cases lo' with
    | none => exact h1.elim
    | some v' => simp only [Sem.run_bind, bound_run (P := P) hl h1 y code c1 c2 w, Result.andThen_ok]; rfl
theorem cut_run {len cap cap' : Nat} {lo hi mx lo' hi' mx' : Option Value} (h1 : OVR M lo lo') (h2 : OVR M hi hi') (h3 : OVR M mx mx') {l h m : Nat} (hc : cutV len cap lo hi mx = some (l, h, m)) (hcap : cap ≤ cap') (b : Bool) (w : World) :
    (Instr.sliceBounds b len cap' lo' hi' mx').run P w = .ok (l, h, if mx.isSome = true then m else cap') w ∧ l ≤ h ∧ h ≤ m ∧ m ≤ cap ∧ (mx = none → m = cap) := by
  unfold cutV at hc
  split at hc
  · cases hc
  · rename_i mi hm
    split at hc
    · cases hc
    · rename_i hhi hh
      split at hc
      · cases hc
      · rename_i li hl
        split at hc
        · rename_i hcond
          obtain ⟨c1, c2, c3, c4⟩ := hcond
          cases hc
          refine ⟨?_, by omega, by omega, by omega, fun e => by subst e; simp at hm; omega⟩
          cases mx with
          | some v =>
            cases mx' with
            | none => exact h3.elim
            | some v' =>
              cases hi with
              | none => simp at hh
              | some u =>
                cases hi' with
                | none => exact h2.elim
                | some u' =>
                  have e1 := fun code => bound_run (P := P) hm h3 cap' code (by omega) (by omega) w
                  have e2 := fun code => bound_run (P := P) hh h2 mi.toNat code (by omega) (by omega) w
                  simp only [Instr.sliceBounds, Sem.run_bind, e1, Result.andThen_ok, e2, Option.isSome_some, if_true]
                  exact low_run h1 hl _ c1 (by omega) _ _ _ w
          | none =>
            cases mx' with
            | some _ => exact h3.elim
            | none =>
              simp at hm
              cases hi with
              | none =>
                cases hi' with
                | some _ => exact h2.elim
                | none =>
                  simp at hh
                  simp only [Instr.sliceBounds, Sem.run_bind, Sem.run_pure, Result.andThen_ok, Option.isSome_none, Bool.false_eq_true, if_false]
                  rw [show hhi.toNat = len from by omega]
                  exact low_run h1 hl _ c1 (by omega) _ _ _ w
              | some u =>
                cases hi' with
                | none => exact h2.elim
                | some u' =>
                  have e2 := fun code => bound_run (P := P) hh h2 cap' code (by omega) (by omega) w
                  simp only [Instr.sliceBounds, Sem.run_bind, Sem.run_pure, e2, Result.andThen_ok, Option.isSome_none, Bool.false_eq_true, if_false]
                  exact low_run h1 hl _ c1 (by omega) _ _ _ w
        · cases hc

theorem kind_gr (h : Sm w0 M s w) {a a' : Addr} (ha : AR M a a') {n z : Nat} (hk : kindB s a.block n = true) (hg : M.gr a.block = some z) : z = n := by
  obtain ⟨B, d, hb, rfl⟩ := ha
  by_cases hlt : a.block < w0.heap.size
  · rw [(h.old _ hlt).2] at hg; cases hg
  · obtain ⟨_, _, o, _, hor⟩ := h.new _ _ hb (by omega)
    unfold kindB at hk
    cases hh : s.heap a.block with
    | row c => rw [hh] at hor; rw [hor.1] at hg; cases hg
    | grown c z' => rw [hh] at hor hk; rw [hor.1] at hg; cases hg; simpa using hk
    | _ => rw [hh] at hk; cases hk

theorem slice_sim (h : Sm w0 M s w) {t : TypeId} {x x' : Value} {lo hi mx lo' hi' mx' : Option Value} (hx : VR M x x') (h1 : OVR M lo lo') (h2 : OVR M hi hi') (h3 : OVR M mx mx') {v : Value} (hv : sliceV P s t x lo hi mx = some v) :
    ∃ v', (Instr.sliceAt t x' lo' hi' mx').run P w = .ok v' w ∧ VR M v v' := by
  cases hx with
  | sliN len cap =>
    simp only [sliceV] at hv
    split at hv
    · rename_i e he
      split at hv
      · rename_i n l hh m hn hc
        cases hv
        obtain ⟨e1, c1, c2, c3, c4⟩ := cut_run (P := P) h1 h2 h3 hc (Nat.le_refl cap) true w
        refine ⟨.slice none (hh - l) (m - l), ?_, .sliN _ _⟩
        have hm : (if mx.isSome = true then m else cap) = m := by
          cases mx with
          | none => simp [c4 rfl]
          | some _ => rfl
        rw [hm] at e1
        simp only [Instr.sliceAt, Instr.slice, Sem.run_bind, run_underlying (elemT_u he), Result.andThen_ok, e1, sizT_run hn, Sem.run_pure, Option.map_none, ite_self]
      · cases hv
    · cases hv
  | sli0 a a' hb0 =>
    simp only [sliceV] at hv
    split at hv
    · rename_i e he
      split at hv
      · rename_i n l hh m hn hc
        split at hv
        · rename_i hk
          cases hv
          obtain ⟨e1, c1, c2, c3, c4⟩ := cut_run (P := P) h1 h2 h3 hc (Nat.le_refl 0) true w
          have hm : (if mx.isSome = true then m else 0) = 0 := by split <;> omega
          rw [hm] at e1
          have hl : l = 0 := by omega
          have hhh : hh = 0 := by omega
          have hmm : m = 0 := by omega
          subst hl; subst hhh; subst hmm
          refine ⟨.slice (some a') 0 0, ?_, .sli0 _ _ (by rw [add_block]; exact hb0)⟩
          simp only [Instr.sliceAt, Instr.slice, Sem.run_bind, run_underlying (elemT_u he), Result.andThen_ok, e1, sizT_run hn, Sem.run_pure, if_true]
        · cases hv
      · cases hv
    · cases hv
  | @sli a a' len cap cap' ha hx =>
    simp only [sliceV] at hv
    split at hv
    · rename_i e he
      split at hv
      · rename_i n l hh m hn hc
        split at hv
        · rename_i hk
          cases hv
          have hcap : cap ≤ cap' := by rcases hx with rfl | ⟨_, _, h, _⟩ <;> omega
          obtain ⟨e1, c1, c2, c3, c4⟩ := cut_run (P := P) h1 h2 h3 hc hcap true w
          obtain ⟨m', hm'⟩ : ∃ m', m' = if mx.isSome = true then m else cap' := ⟨_, rfl⟩
          rw [← hm'] at e1
          have hmm : m ≤ m' := by rw [hm']; split <;> omega
          have hmc : m' ≤ cap' := by rw [hm']; split <;> omega
          refine ⟨.slice (if m' = l then some a' else (some a').map (·.add (l * n))) (hh - l) (m' - l), ?_, ?_⟩
          · simp only [Instr.sliceAt, Instr.slice, Sem.run_bind, run_underlying (elemT_u he), Result.andThen_ok, e1, sizT_run hn, Sem.run_pure]
          · by_cases hml : m' = l
            · rw [if_pos hml]
              have : hh - l = 0 := by omega
              rw [this, show m - l = 0 from by omega, show m' - l = 0 from by omega]
              exact .sli0 _ _ (by rw [add_block]; exact ha.choose_spec.choose_spec.1)
            · rw [if_neg hml]
              refine .sli (ha.add _) ?_
              rcases hx with hx | ⟨z, g1, g2, g3⟩
              · left
                rw [hm']
                cases mx with
                | none => have := c4 rfl; simp; omega
                | some _ => rfl
              · right
                have hz := kind_gr h ha hk g1
                subst hz
                refine ⟨z, by rw [add_block]; exact g1, by omega, ?_⟩
                rw [(AR.off_add _).1, (AR.off_add _).2]
                have e3 : l * z + (m' - l) * z = m' * z := by rw [← Nat.add_mul]; congr 1; omega
                have e4 : m' * z ≤ cap' * z := Nat.mul_le_mul_right _ hmc
                omega
        · cases hv
      · cases hv
    · cases hv
  | @ptr a a' ha =>
    simp only [sliceV] at hv
    split at hv
    · rename_i k e he
      split at hv
      · rename_i n l hh m hn hc
        cases hv
        obtain ⟨e1, c1, c2, c3, c4⟩ := cut_run (P := P) h1 h2 h3 hc (Nat.le_refl k) false w
        have hm : (if mx.isSome = true then m else k) = m := by
          cases mx with
          | none => simp [c4 rfl]
          | some _ => rfl
        rw [hm] at e1
        refine ⟨.slice (some (if m = l then a' else a'.add (l * n))) (hh - l) (m - l), ?_, ?_⟩
        · simp only [Instr.sliceAt, Instr.sureAddr, Sem.run_bind, run_underlying (arrT_u he), Result.andThen_ok, Sem.run_pure, e1, sizT_run hn]
        · by_cases hml : m = l
          · rw [if_pos hml, show hh - l = 0 from by omega, show m - l = 0 from by omega]
            exact .sli0 _ _ (by rw [add_block]; exact ha.choose_spec.choose_spec.1)
          · rw [if_neg hml]; exact .sli (ha.add _) (.inl rfl)
      · cases hv
    · cases hv
  | str b =>
    simp only [sliceV] at hv
    split at hv
    · rename_i hc0
      obtain ⟨ht, rfl⟩ := hc0
      split at hv
      · rename_i l hh m hc
        cases hv
        cases mx' with
        | some _ => exact h3.elim
        | none =>
          obtain ⟨e1, c1, c2, c3, c4⟩ := cut_run (P := P) (mx := none) (mx' := none) h1 h2 trivial hc (Nat.le_refl b.size) false w
          refine ⟨.string (b.extract l hh), ?_, .str _⟩
          simp only [Instr.sliceAt, Instr.slice, Sem.run_bind, run_underlying (strT_u ht), Result.andThen_ok, Option.isSome_none, Bool.false_eq_true, if_false, e1, Sem.run_pure, Sem.run_ite]
      · cases hv
    · cases hv
  | _ => simp [sliceV] at hv

/-! ### What is appended -/
/-- The cells of a source, here and there, behind a draw too. -/
def Src (P : Program) (w : World) (z n : Nat) (x : Value) (l : List Value) : Prop :=
  (Builtin.lenOf x).run P w = .ok n w ∧ (Builtin.firstCells z n x).run P w = .ok l.toArray w ∧ (Builtin.firstCells z n x).run P w.drew = .ok l.toArray w.drew
theorem cell_drew (w : World) (a : Addr) : w.drew.cell? a = w.cell? a := rfl
theorem first_sim (h : Sm w0 M s w) {x x' : Value} (hx : VR M x x') {z n : Nat} {news : List Value} (hn : newsV w0.heap.size s z n x = some news) :
    news.length = n * z ∧ ∃ news', LR M news news' ∧ (∀ v ∈ news, oneB v = true) ∧ (Builtin.firstCells z n x').run P w = .ok news'.toArray w ∧ (Builtin.firstCells z n x').run P w.drew = .ok news'.toArray w.drew := by
  cases hx with
  | sliN l c =>
    simp only [newsV] at hn
    split at hn
    · rename_i h0; cases hn; subst h0
      exact ⟨by simp, [], .nil M, by simp, rfl, rfl⟩
    · cases hn
  | sli0 a a' hb0 =>
    simp only [newsV] at hn
    split at hn
    · rename_i h0
      have : n = 0 := by omega
      subst this
      simp only [Nat.zero_mul] at hn
      obtain ⟨h1, l', h2, h3, h4⟩ := ldN_sim h (a' := a') (fun e => absurd rfl e) hn
      have hl : l' = [] := List.eq_nil_of_length_eq_zero (by rw [← h2.1, h1])
      subst hl
      refine ⟨by rw [h1]; simp, [], h2, h3, ?_, ?_⟩ <;> simp [Builtin.firstCells, loadCells, loadCellsFrom]
    · cases hn
  | @sli a a' len cap cap' ha hx =>
    simp only [newsV] at hn
    split at hn
    · obtain ⟨h1, l', h2, h3, h4⟩ := ldN_sim h (fun _ => ha) hn
      refine ⟨h1, l', h2, h3, ?_, ?_⟩
      · have := run_loadCells_list (P := P) w a' l' h4
        rw [← h2.1, h1] at this
        exact this
      · have := run_loadCells_list (P := P) w.drew a' l' (fun j v hv => by rw [cell_drew]; exact h4 j v hv)
        rw [← h2.1, h1] at this
        exact this
    · cases hn
  | str b =>
    simp only [newsV] at hn
    split at hn
    · rename_i hc
      obtain ⟨h1, rfl⟩ := hc
      cases hn
      have hb : b.data.size = b.size := rfl
      refine ⟨by simp; omega, _, ⟨rfl, fun i v v' e1 e2 => ?_⟩, fun v hv => ?_, ?_, ?_⟩
      · rw [e1] at e2; cases e2
        obtain ⟨x, _, rfl⟩ := List.mem_map.1 (List.mem_of_getElem? e1)
        exact .int _ _
      · obtain ⟨x, _, rfl⟩ := List.mem_map.1 hv; rfl
      all_goals
        simp only [Builtin.firstCells, Sem.run_pure]
        congr 1
        apply Array.ext'
        simp [ByteArray.data_extract, Array.toList_extract, extract_dt]
    · cases hn
  | _ => simp [newsV] at hn
theorem len_sim {x x' : Value} (hx : VR M x x') {n : Nat} (h : lenV? x = some n) (w : World) : (Builtin.lenOf x').run P w = .ok n w := by
  cases hx <;> simp [lenV?] at h <;> subst h <;> rfl
end
end Go.Ab
