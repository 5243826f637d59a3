/- The simulation: what loops over functions lay on the heap; frames at a call. -/
import Derived.Test.YtoldihdlpdccnaaAb18
import Derived.RangeFuncLeaves
import Derived.RangeFuncRecord
import Derived.RangeFuncIn
import Derived.LoopNIn
set_option linter.unusedVariables false
set_option linter.unusedSimpArgs false
namespace Go.Ab
open Go Go.RowKit

theorem opdOk_mono {G G' N N' : Nat} (hG : G ≤ G') (hN : N ≤ N') {x : Operand} (h : opdOk G N x = true) : opdOk G' N' x = true := by
  cases x with
  | tmp t => simp only [opdOk, decide_eq_true_eq] at *; exact Nat.lt_of_lt_of_le h hN
  | const v => exact h
  | global g => simp only [opdOk, decide_eq_true_eq] at *; omega
  | func f => rfl
theorem operOk_mono {G G' N N' : Nat} (hG : G ≤ G') (hN : N ≤ N') {o : Oper} (h : operOk G N o = true) : operOk G' N' o = true := by
  simp only [operOk, Bool.and_eq_true, List.all_eq_true] at *
  refine ⟨?_, fun x hx => opdOk_mono hG hN (h.2 x hx)⟩
  cases hd : o.dst with
  | none => rfl
  | some t => have := h.1; rw [hd] at this; simp only [decide_eq_true_eq] at *; exact Nat.lt_of_lt_of_le this hN
theorem codeOk_mono {G G' N N' : Nat} (hG : G ≤ G') (hN : N ≤ N') : ∀ {c : Code}, codeOk G N c = true → codeOk G' N' c = true := by
  intro c
  induction c with
  | region i ops d => intro h; simp only [codeOk, List.all_eq_true] at *; exact fun x hx => operOk_mono hG hN (h x hx)
  | seq a b iha ihb => intro h; simp only [codeOk, Bool.and_eq_true] at *; exact ⟨iha h.1, ihb h.2⟩
  | cond c a b iha ihb => intro h; simp only [codeOk, Bool.and_eq_true] at *; exact ⟨⟨opdOk_mono hG hN h.1.1, iha h.1.2⟩, ihb h.2⟩
  | block i a ih => intro h; exact ih h
  | loop a ih => intro h; exact ih h
  | scope a ih => intro h; exact ih h
  | rangeFunc f ps a b iha ihb =>
    intro h
    simp only [codeOk, Bool.and_eq_true, List.all_eq_true, decide_eq_true_eq] at *
    obtain ⟨⟨⟨⟨⟨h1, h2⟩, h3⟩, h4⟩, h5⟩, h6⟩ := h
    exact ⟨⟨⟨⟨⟨opdOk_mono hG hN h1, fun t ht => Nat.lt_of_lt_of_le (h2 t ht) hN⟩, iha h3⟩, ihb h4⟩, h5⟩, h6⟩
  | _ => intro _; rfl

section
variable {P : Program} {w0 : World} {M : Mp} {s : St} {w : World}

/-! ### Blocks -/
theorem alloc_un (h : Sm w0 M s w) (O : Obj) : Sm w0 M s (w.alloc O) ∧ Gr M s w M s (w.alloc O) := by
  have hsz := h.size
  refine ⟨⟨⟨h.below.os, h.below.tape, h.below.output, by simp; omega, fun k hk => ?_⟩, h.nxt, h.old, h.olds, fun b y hb hge => ?_, h.inj⟩, ⟨.refl M, Nat.le_refl _, fun _ _ h _ => h, fun b y hb => .inl ⟨b, y, hb, rfl⟩, fun b y hb hg => .inl ⟨b, y, hb, hg, rfl⟩, fun B hB _ => heap_alloc_old w O B hB, by simp⟩⟩
  · rw [heap_alloc_old w O k (by omega)]; exact h.below.block k hk
  · obtain ⟨g1, g2, o', g3, g4⟩ := h.new b y hb hge
    exact ⟨g1, g2, o', by rw [heap_alloc_old w O y.1 (h.img_lt hb)]; exact g3, g4⟩

theorem put_sim (h : Sm w0 M s w) {b : Nat} {x : Nat × Nat} (hb : M.blk b = some x) (hge : w0.heap.size ≤ b) (hl : goneB (s.heap b) = false) (o' : AObj) (O : Obj) (ho : OR w0.heap.size M b x o' O) :
    Sm w0 M (s.upd b o') (w.putObj x.1 O) ∧ Gr M s w M (s.upd b o') (w.putObj x.1 O) := by
  obtain ⟨hlt, hbase, o, hO, hor⟩ := h.new b x hb hge
  have hxlt : x.1 < w.heap.size := (Array.getElem?_eq_some_iff.1 hO).1
  have hsame := World.putObj_heap_same (o := O) hxlt
  have hoth : ∀ k, k ≠ x.1 → (w.putObj x.1 O).heap[k]? = w.heap[k]? := fun k hk => World.putObj_heap_other hk
  have hsz : (w.putObj x.1 O).heap.size = w.heap.size := by simp [World.putObj]
  have e : ∀ j, goneB ((s.upd b o').heap j) = false → goneB (s.heap j) = false := fun j hj => by
    by_cases hjb : j = b
    · subst hjb; exact hl
    · rw [heap_upd_ne _ _ hjb] at hj; exact hj
  refine ⟨⟨⟨h.below.os, h.below.tape, h.below.output, by rw [hsz]; exact h.below.size, fun k hk => ?_⟩, h.nxt, h.old, fun k hk => ?_, fun k y hk hkb => ?_, fun k k' y y' h1 h2 h3 h4 h5 h6 h7 => h.inj k k' y y' h1 h2 h3 h4 h5 (e _ h6) (e _ h7)⟩,
    ⟨.refl M, Nat.le_refl _, fun _ _ h _ => h, fun k y hk => .inl ⟨k, y, hk, rfl⟩, fun k y hk hg => .inl ⟨k, y, hk, e _ hg, rfl⟩, fun B hB hn => hoth B fun e => hn b x hb hl e.symm, by rw [hsz]; exact Nat.le_refl _⟩⟩
  · rw [hoth k (by omega)]; exact h.below.block k hk
  · rw [heap_upd_ne _ _ (by omega)]; exact h.olds k hk
  · obtain ⟨g1, g2, o1, g3, g4⟩ := h.new k y hk hkb
    by_cases hkb' : k = b
    · subst hkb'
      rw [hb] at hk; cases hk
      exact ⟨g1, g2, O, hsame, by rw [heap_upd_same]; exact ho⟩
    · rw [heap_upd_ne _ _ hkb']
      by_cases hy : y.1 = x.1
      · cases hg : goneB (s.heap k) with
        | true =>
          refine ⟨g1, g2, O, by rw [hy]; exact hsame, ?_⟩
          cases hh : s.heap k <;> first | trivial | (rw [hh] at hg; simp [goneB] at hg)
        | false => exact absurd (h.inj k b y x hkb hge hk hb hy hg hl) hkb'
      · exact ⟨g1, g2, o1, by rw [hoth _ hy]; exact g3, g4⟩

theorem put_free (h : Sm w0 M s w) {D : Nat} (hD : ∀ b x, M.blk b = some x → x.1 ≠ D) (hge : w0.heap.size ≤ D) (O : Obj) : Sm w0 M s (w.putObj D O) := by
  have hoth : ∀ k, k ≠ D → (w.putObj D O).heap[k]? = w.heap[k]? := fun k hk => World.putObj_heap_other hk
  have hsz : (w.putObj D O).heap.size = w.heap.size := by simp [World.putObj]
  refine ⟨⟨h.below.os, h.below.tape, h.below.output, by rw [hsz]; exact h.below.size, fun k hk => ?_⟩, h.nxt, h.old, h.olds, fun k y hk hkb => ?_, h.inj⟩
  · rw [hoth k (by omega)]; exact h.below.block k hk
  · obtain ⟨g1, g2, o1, g3, g4⟩ := h.new k y hk hkb
    exact ⟨g1, g2, o1, by rw [hoth _ (hD k y hk)]; exact g3, g4⟩
theorem Gr.put_free {M' : Mp} {s' : St} {w' : World} (h : Gr M s w M' s' w') {D : Nat} (hD : w.heap.size ≤ D) (O : Obj) : Gr M s w M' s' (w'.putObj D O) :=
  ⟨h.le, h.nxt, h.dom, h.img, h.live, fun B hB hn => by rw [World.putObj_heap_other (by omega)]; exact h.fr B hB hn, by simp [World.putObj]; exact h.size⟩
theorem loop_sim (h : Sm w0 M s w) {l l' : Nat} (hb : M.blk l = some (l', 0)) (hge : w0.heap.size ≤ l) {r : LoopRec} (hl : s.heap l = .loop r) :
    ∃ R G, w.heap[l']? = some (.loop R) ∧ LoopR G M r R ∧ G ≤ w0.heap.size ∧ R.tmps.size = M.sz l' := by
  obtain ⟨_, _, o, h3, h4⟩ := h.new l _ hb hge
  rw [hl] at h4
  obtain ⟨_, R, G, rfl, hR, hG, hz⟩ := h4
  exact ⟨R, G, h3, hR, hG, hz⟩

/-! ### Frames -/
theorem ER.args {M : Mp} {args : List Value} {args' : Array Value} (h : LR M args args'.toList) (k : Nat) : ER M (env0 args) (args' ++ Array.replicate k undef) := by
  intro t ht
  simp only [env0]
  rcases Nat.lt_or_ge t args.length with hlt | hge
  · have h1 : args[t]? = some args[t] := List.getElem?_eq_getElem hlt
    obtain ⟨v', e1, e2⟩ := h.at h1
    have h2 : args'[t]? = some v' := by simpa using e1
    have hlt' : t < args'.size := (Array.getElem?_eq_some_iff.1 h2).1
    rw [List.getD_eq_getElem?_getD, h1, Array.getD_eq_getD_getElem?, Array.getElem?_append_left hlt', h2]
    exact e2
  · have hsz : args.length = args'.size := by simpa using h.1
    rw [List.getD_eq_getElem?_getD, List.getElem?_eq_none hge, Array.getD_eq_getD_getElem?, Array.getElem?_append_right (by omega)]
    have : ((Array.replicate k undef)[t - args'.size]?).getD undef = undef := by
      simp only [Array.getElem?_replicate]; split <;> rfl
    rw [this]; exact VR_undef M
theorem fold_putAll {M : Mp} : ∀ (ps : List Tmp) (args args' : List Value) (e : Env) (tmps : Array Value), LR M args args' → ER M e tmps →
    ER M (putAll e (ps.zip args)) ((ps.zip args').foldl (fun t p => t.setIfInBounds p.1 p.2) tmps) ∧ ((ps.zip args').foldl (fun t p => t.setIfInBounds p.1 p.2) tmps).size = tmps.size := by
  intro ps
  induction ps with
  | nil => intro args args' e tmps _ h; exact ⟨h, rfl⟩
  | cons p ps ih =>
    intro args args' e tmps hl h
    cases args with
    | nil => rw [hl.inv_nil]; exact ⟨h, rfl⟩
    | cons v args =>
      obtain ⟨v', r, rfl, hv, hr⟩ := hl.inv_cons
      obtain ⟨a, b⟩ := ih args r (Ab.put e (some p) v) (tmps.setIfInBounds p v') hr (h.put hv (some p))
      exact ⟨a, by simpa using b⟩
theorem round_tmps {M : Mp} {ps : Array Tmp} {args : List Value} {args' : Array Value} {e : Env} {tmps : Array Value} (hl : LR M args args'.toList) (h : ER M e tmps) :
    ER M (putAll e (ps.toList.zip args)) ((ps.zip args').foldl (fun tmps (t, a) => tmps.setIfInBounds t a) tmps) ∧ ((ps.zip args').foldl (fun tmps (t, a) => tmps.setIfInBounds t a) tmps).size = tmps.size := by
  rw [← Array.foldl_toList, Array.toList_zip]
  exact fold_putAll ps.toList args args'.toList e tmps hl h

/-! ### Results -/
theorem res_sim (h : Sm w0 M s w) {e : Env} {tmps : Array Value} (he : ER M e tmps) {r : ResultVar} (hr : (match r with | .tmp t => decide (t < tmps.size) | .cell a _ => decide (a < tmps.size)) = true) {v : Value}
    (hv : resV P w0.heap.size e s r = some v) : ∃ v', ((match r with | .tmp t => pure (tmps.getD t undef) | .cell a t => do loadVar t (← asAddr (tmps.getD a undef))) : Sem Value).run P w = .ok v' w ∧ VR M v v' := by
  cases r with
  | tmp t =>
    simp only [decide_eq_true_eq] at hr
    simp only [resV, Option.some.injEq] at hv
    subst hv
    exact ⟨_, by simp only [Sem.run_pure], he t hr⟩
  | cell a t =>
    simp only [decide_eq_true_eq] at hr
    simp only [resV] at hv
    split at hv
    · rename_i ad had
      have hva := he a hr
      have hp : e a = .pointer (some ad) := by
        unfold ptrV at had
        split at had <;> first | (cases had; assumption) | cases had
      rw [hp] at hva
      obtain ⟨ad', hx, hA⟩ : ∃ ad', tmps.getD a undef = .pointer (some ad') ∧ AR M ad ad' := by
        cases hx : tmps.getD a undef <;> rw [hx] at hva <;> cases hva
        exact ⟨_, rfl, by assumption⟩
      obtain ⟨v', e1, e2⟩ := ldVar_sim (P := P) h hA hv
      refine ⟨v', ?_, e2⟩
      simp only [hx, Sem.run_bind, asAddr, Sem.run_pure, Result.andThen_ok, e1]
    · cases hv
theorem all_sim {e : Env} {f : ResultVar → Sem Value} : ∀ {rs : List ResultVar}, (∀ r ∈ rs, ∀ v, resV P w0.heap.size e s r = some v → ∃ v', (f r).run P w = .ok v' w ∧ VR M v v') → ∀ {vs : List Value}, allV P w0.heap.size e s rs = some vs →
    ∃ vs', LR M vs vs' ∧ (rs.mapM f).run P w = .ok vs' w := by
  intro rs
  induction rs with
  | nil =>
    intro _ vs hv
    simp only [allV, Option.some.injEq] at hv
    subst hv
    exact ⟨[], .nil M, by simp only [List.mapM_nil, Sem.run_pure]⟩
  | cons r rs ih =>
    intro hr vs hv
    simp only [allV] at hv
    split at hv
    · rename_i v vs' h1 h2
      cases hv
      obtain ⟨v', e1, e2⟩ := hr r (by simp) v h1
      obtain ⟨us, f1, f2⟩ := ih (fun r' hr' => hr r' (by simp [hr'])) h2
      refine ⟨v' :: us, .cons e2 f1, ?_⟩
      rw [List.mapM_cons]
      simp only [Sem.run_bind, e1, Result.andThen_ok, f2, Sem.run_pure]
    · cases hv
theorem results_sim (h : Sm w0 M s w) {fn : Func} {e : Env} {tmps : Array Value} (he : ER M e tmps) (hr : ∀ r ∈ fn.results.toList, (match r with | .tmp t => decide (t < tmps.size) | .cell a _ => decide (a < tmps.size)) = true) {v : Value} (hv : resultsV P w0.heap.size fn e s = some v) :
    ∃ v', (results fn tmps).run P w = .ok v' w ∧ VR M v v' := by
  have key : ∀ f : ResultVar → Sem Value, (∀ r ∈ fn.results.toList, ∀ v, resV P w0.heap.size e s r = some v → ∃ v', (f r).run P w = .ok v' w ∧ VR M v v') →
      ∃ v', (do let vs ← fn.results.mapM f; pure (if h : vs.size = 1 then vs[0] else .tuple vs) : Sem Value).run P w = .ok v' w ∧ VR M v v' := fun f hf => by
    unfold resultsV at hv
    cases ha : allV P w0.heap.size e s fn.results.toList with
    | none => rw [ha] at hv; cases hv
    | some vs =>
      obtain ⟨vs', hl, hrun⟩ := all_sim hf ha
      have hrun' : (fn.results.mapM f).run P w = .ok vs'.toArray w := by
        rw [Array.mapM_eq_mapM_toList, Sem.run_map, hrun]; rfl
      rw [ha] at hv
      simp only [Sem.run_bind, hrun', Result.andThen_ok, Sem.run_pure]
      cases vs with
      | nil =>
        obtain rfl := hl.inv_nil
        cases hv
        exact ⟨_, rfl, LR.tuple (by simpa using hl)⟩
      | cons u us =>
        obtain ⟨u', us', rfl, hu, hus⟩ := hl.inv_cons
        cases us with
        | nil =>
          obtain rfl := hus.inv_nil
          cases hv
          exact ⟨_, rfl, by simpa using hu⟩
        | cons u2 us =>
          obtain ⟨u2', us2, rfl, hu2, hus2⟩ := hus.inv_cons
          cases hv
          exact ⟨_, rfl, by simpa using LR.tuple (c := (u :: u2 :: us).toArray) (c' := (u' :: u2' :: us2).toArray) (by simpa using hl)⟩
  unfold results
  refine key _ fun r hrm v hrv => ?_
  have := res_sim (P := P) h he (hr r hrm) hrv
  cases r <;> exact this
end
end Go.Ab
