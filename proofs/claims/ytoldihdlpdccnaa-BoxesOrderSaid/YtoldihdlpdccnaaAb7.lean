/- The simulation: what is built, made and cut. -/
import Derived.Test.YtoldihdlpdccnaaAb6
import Derived.Laws.MakeOwn
set_option linter.unusedVariables false
set_option linter.unusedSimpArgs false
namespace Go.Ab
open Go Go.RowKit

section
variable {P : Program} {w0 : World} {M : Mp} {s : St} {w : World}

theorem run_mapM {α β : Type} (f : α → Sem β) (g : α → β) (w : World) (xs : Array α) (h : ∀ x ∈ xs.toList, (f x).run P w = .ok (g x) w) : (xs.mapM f).run P w = .ok (xs.map g) w := by
  rw [Array.mapM_eq_mapM_toList, Sem.run_map]
  have key : ∀ l : List α, (∀ x ∈ l, (f x).run P w = .ok (g x) w) → (l.mapM f).run P w = .ok (l.map g) w := by
    intro l
    induction l with
    | nil => intro _; rfl
    | cons x l ih =>
      intro h
      rw [List.mapM_cons]
      simp only [Sem.run_bind, h x (by simp), Result.andThen_ok, ih fun y hy => h y (by simp [hy]), Sem.run_pure, List.map_cons]
  rw [key _ h]
  simp only [Result.andThen, ← Array.toList_map, Array.toArray_toList]

theorem rz0 : Array.range 0 = #[] := rfl
/-! ### Filling -/
theorem foldl_set (off : Nat) : ∀ (vs : List Value) (k : Nat) (C : Array Value), ((vs.zipIdx k).foldl (fun cs p => cs.setIfInBounds (off + p.2) p.1) C).toList = setL C.toList (off + k) vs
  | [], _, _ => rfl
  | v :: vs, k, C => by
    simp only [List.zipIdx_cons, List.foldl_cons, setL]
    rw [foldl_set off vs (k + 1) _]
    simp [Nat.add_assoc]
theorem setL_LR {c c' vs vs' : List Value} (hc : LR M c c') (hv : LR M vs vs') (off : Nat) (hl : off + vs.length ≤ c.length) : LR M (setL c off vs) (setL c' off vs') := by
  refine ⟨by rw [setL_length, setL_length]; exact hc.1, fun i v v' a b => ?_⟩
  rw [setL_get vs c off i hl] at a
  rw [setL_get vs' c' off i (by rw [← hv.1, ← hc.1]; exact hl), ← hv.1] at b
  split at a
  · rename_i hi; rw [if_pos hi] at b; exact hv.2 _ v v' a b
  · rename_i hi; rw [if_neg hi] at b; exact hc.2 _ v v' a b
theorem setL_mem {c vs : List Value} {off : Nat} (hl : off + vs.length ≤ c.length) {v : Value} (h : v ∈ setL c off vs) : v ∈ vs ∨ v ∈ c := by
  obtain ⟨i, hi⟩ := List.mem_iff_getElem?.1 h
  rw [setL_get vs c off i hl] at hi
  split at hi
  · exact .inl (List.mem_of_getElem? hi)
  · exact .inr (List.mem_of_getElem? hi)
/-- Parts of what is built. -/
def PR (M : Mp) (ps ps' : List (Nat × Value)) : Prop := ps.map (·.1) = ps'.map (·.1) ∧ LR M (ps.map (·.2)) (ps'.map (·.2))
theorem fill_sim (place place' : Nat → Option (Nat × Nat)) (hp : ∀ i x, place i = some x → place' i = some x) : ∀ (ps ps' : List (Nat × Value)) (c : List Value) (C : Array Value) (l : List Value), PR M ps ps' → LR M c C.toList → (∀ v ∈ c, oneB v = true) →
    fillL place c ps = some l → ∃ C', Instr.fill place' C ps' = some C' ∧ LR M l C'.toList ∧ ∀ v ∈ l, oneB v = true
  | [], ps', c, C, l, hps, hc, h1, hf => by
    obtain rfl : ps' = [] := by have := hps.1; simpa using this.symm
    simp only [fillL, Option.some.injEq] at hf
    subst hf
    exact ⟨C, rfl, hc, h1⟩
  | (i, v) :: ps, ps', c, C, l, hps, hc, h1, hf => by
    cases ps' with
    | nil => have := hps.1; simp at this
    | cons q ps' =>
      obtain ⟨i', v'⟩ := q
      have hii : i = i' := by have := hps.1; simp at this; exact this.1
      subst hii
      have hvv : VR M v v' := hps.2.head
      have hrest : PR M ps ps' := ⟨by have := hps.1; simp at this; exact this, hps.2.tail⟩
      simp only [fillL] at hf
      split at hf
      · cases hf
      · rename_i off size hpl
        split at hf
        · rename_i hcond
          obtain ⟨ht, hsz, hle⟩ := hcond
          obtain ⟨hcl, ho⟩ := hvv.cells ht
          have hsz' : v'.cells.size = size := by rw [← hsz]; have := hcl.1; simpa using this.symm
          have hCl : C.size = c.length := by have := hc.1; simpa using this.symm
          have hlen : v.cells.toList.length = size := by simpa using hsz
          have heq : (v'.cells.zipIdx.foldl (fun cs (x : Value × Nat) => cs.setIfInBounds (off + x.2) x.1) C).toList = setL C.toList off v'.cells.toList := by
            have := foldl_set off v'.cells.toList 0 C
            rw [Nat.add_zero] at this
            rw [← this, ← Array.foldl_toList, Array.toList_zipIdx]
          obtain ⟨C', e1, e2⟩ := fill_sim place place' hp ps ps' (setL c off v.cells.toList) _ l hrest (by rw [heq]; exact setL_LR hc hcl off (by omega))
            (fun u hu => by rcases setL_mem (by omega) hu with hu | hu; exact ho u hu; exact h1 u hu) hf
          refine ⟨C', ?_, e2⟩
          simp only [Instr.fill, hp i _ hpl]
          rw [if_neg (by simp [hsz']; omega)]
          exact e1
        · cases hf

theorem build_sim (h : Sm w0 M s w) {t : TypeId} {ps ps' : List (Nat × Value)} (hps : PR M ps ps') {v : Value} (hv : buildV P t ps = some v) : ∃ v', (Instr.build t ps'.toArray).run P w = .ok v' w ∧ VR M v v' := by
  unfold buildV at hv
  split at hv
  · rename_i hc
    obtain ⟨ha, hso⟩ := hc
    split at hv
    · rename_i z hz
      split at hv
      · rename_i l hl
        cases hv
        obtain ⟨i, zv, hi, hzz, hzl, hfree, _⟩ := zerT_info hz
        have hzr : (zeroValue t).run P w = .ok zv w := by simp [zeroValue, typeInfo, hi, hzz]
        obtain ⟨hzLR, hz1⟩ := free_LR h hfree
        have hzc : LR M z zv.cells.toList := by rw [hzl]; exact hzLR
        unfold aggT at ha
        cases hu : P.underlying t with
        | none => rw [hu] at ha; cases ha
        | some d =>
          rw [hu] at ha
          cases d with
          | struct fs =>
            have hpl : ∀ k x, placeT P t k = some x → (fs.map fun f => (f.offset, (sizT P f.type).getD 0))[k]? = some x := fun k x hx => by
              simp only [placeT, hu] at hx
              split at hx
              · rename_i f hf
                split at hx
                · rename_i n hn; cases hx; simp [hf, hn]
                · cases hx
              · cases hx
            obtain ⟨C', e1, e2, e3⟩ := fill_sim (placeT P t) _ hpl ps ps' z zv.cells l hps hzc hz1 hl
            refine ⟨.agg C', ?_, LR.agg (by simpa using e2) (by simpa using e3)⟩
            have hmap : (fs.mapM fun f => do pure (f.offset, ← sizeOf f.type) : Sem (Array (Nat × Nat))).run P w = .ok (fs.map fun f => (f.offset, (sizT P f.type).getD 0)) w := by
              refine run_mapM _ _ w fs fun f hf => ?_
              simp only [sizesOk, hu] at hso
              have := List.all_eq_true.1 hso f hf
              obtain ⟨n, hn⟩ := Option.isSome_iff_exists.1 this
              simp [sizT_run hn, hn]
            simp only [Instr.build, Sem.run_bind, hzr, Result.andThen_ok, run_underlying hu, hmap, e1, Sem.run_pure]
          | array n e =>
            have hso' : (sizT P e).isSome = true := by simpa [sizesOk, hu] using hso
            obtain ⟨m, hm⟩ := Option.isSome_iff_exists.1 hso'
            have hpl : ∀ k x, placeT P t k = some x → (fun i => some (i * m, m)) k = some x := fun k x hx => by
              simp only [placeT, hu, hm] at hx; exact hx
            obtain ⟨C', e1, e2, e3⟩ := fill_sim (placeT P t) _ hpl ps ps' z zv.cells l hps hzc hz1 hl
            refine ⟨.agg C', ?_, LR.agg (by simpa using e2) (by simpa using e3)⟩
            simp only [Instr.build, Sem.run_bind, hzr, Result.andThen_ok, run_underlying hu, sizT_run hm, e1, Sem.run_pure]
          | _ => simp at ha
      · cases hv
    · cases hv
  · cases hv

/-! ### Rows of zeros -/
theorem repL_length (z : List Value) (n : Nat) : (repL z n).length = n * z.length := by simp [repL]
theorem repL_get (z : List Value) (hz : 0 < z.length) : ∀ (n i : Nat), (repL z n)[i]? = if i < n * z.length then z[i % z.length]? else none
  | 0, i => by simp [repL]
  | n + 1, i => by
    have hcons : repL z (n + 1) = z ++ repL z n := by simp [repL, List.replicate_succ]
    rw [hcons]
    by_cases hi : i < z.length
    · rw [List.getElem?_append_left hi, if_pos (by rw [Nat.add_mul]; omega), Nat.mod_eq_of_lt hi]
    · rw [List.getElem?_append_right (by omega), repL_get z hz n (i - z.length)]
      have : i % z.length = (i - z.length) % z.length := Nat.mod_eq_sub_mod (by omega)
      rw [this]
      simp only [Nat.add_mul, Nat.one_mul]
      by_cases h2 : i - z.length < n * z.length
      · rw [if_pos h2, if_pos (by omega)]
      · rw [if_neg h2, if_neg (by omega)]
theorem made_eq (z : Array Value) (hz : 0 < z.size) (n : Nat) : (Array.range (n * z.size)).map (fun i => z[i % z.size]!) = (repL z.toList n).toArray := by
  apply Array.ext'
  apply List.ext_getElem?
  intro i
  simp only [Array.toList_map, Array.toList_range, List.getElem?_map]
  rw [repL_get z.toList (by simpa using hz)]
  simp only [Array.length_toList]
  by_cases hi : i < n * z.size
  · rw [List.getElem?_range hi, if_pos hi]
    have : i % z.size < z.size := Nat.mod_lt _ hz
    simp [this]
  · rw [if_neg hi, List.getElem?_eq_none (by simpa using hi)]; rfl
theorem repL_LR {z z' : List Value} (h : LR M z z') : ∀ n, LR M (repL z n) (repL z' n)
  | 0 => .nil M
  | n + 1 => by
    have e : ∀ y : List Value, repL y (n + 1) = y ++ repL y n := fun y => by simp [repL, List.replicate_succ]
    rw [e, e]; exact h.append (repL_LR h n)
theorem repL_mem {z : List Value} {n : Nat} {v : Value} (h : v ∈ repL z n) : v ∈ z := by
  simp only [repL, List.mem_flatten, List.mem_replicate] at h
  obtain ⟨l, ⟨_, rfl⟩, h⟩ := h; exact h

theorem buildSlice_sim (h : Sm w0 M s w) {t : TypeId} {len : Nat} {ps ps' : List (Nat × Value)} (hps : PR M ps ps') {v : Value} {s' : St} (hv : buildSliceV P s t len ps = some (v, s')) :
    ∃ v' w' M', (Instr.buildSlice t len ps'.toArray).run P w = .ok v' w' ∧ Sm w0 M' s' w' ∧ Gr M s w M' s' w' ∧ VR M' v v' := by
  unfold buildSliceV at hv
  split at hv
  · rename_i e he
    split at hv
    · rename_i n z hn hz
      split at hv
      · rename_i hc
        obtain ⟨hzl, hpos, hbig⟩ := hc
        split at hv
        · rename_i l hl
          cases hv
          obtain ⟨i, zv, hi, hzz, hzc, hfree, _⟩ := zerT_info hz
          have hzr : (zeroValue e).run P w = .ok zv w := by simp [zeroValue, typeInfo, hi, hzz]
          obtain ⟨hzLR, hz1⟩ := free_LR h hfree
          have hzs : zv.cells.size = n := by rw [← hzl, ← hzc]; simp
          have hmade : (Array.range (len * n)).map (fun i => zv.cells[i % zv.cells.size]!) = (repL z len).toArray := by
            rw [← hzs, made_eq _ (by omega), hzc]
          obtain ⟨C', e1, e2, e3⟩ := fill_sim (fun i => some (i * n, n)) (fun i => some (i * n, n)) (fun _ _ h => h) ps ps' (repL z len) (repL z len).toArray l hps
            (by simpa using repL_LR hzLR len) (fun v hv => hz1 v (repL_mem hv)) hl
          obtain ⟨M', a1, a2, a3, a4, a5⟩ := allocRow_sim h (l' := C'.toList) e2 e3 e
          refine ⟨.slice (some ⟨w.heap.size, 0, none⟩) len len, _, M', ?_, a1, a2, ?_⟩
          · by_cases h0 : len * n = 0
            · have hl0 : len = 0 := by
                rcases Nat.mul_eq_zero.1 h0 with h | h
                · exact h
                · omega
              subst hl0
              simp only [Nat.zero_mul] at hmade
              have hnil : (repL z 0).toArray = #[] := rfl
              rw [hnil] at e1 hmade
              simp only [Instr.buildSlice, Sem.run_bind, run_underlying (elemT_u he), Result.andThen_ok, sizT_run hn, Nat.zero_mul, Sem.run_ite, Sem.run_pure, if_true]
              simp [e1, newRow, rz0]
            · simp only [Instr.buildSlice, Sem.run_bind, run_underlying (elemT_u he), Result.andThen_ok, sizT_run hn, Sem.run_ite, Sem.run_pure, if_neg (show ¬ (len * n > 2 ^ 24) by omega), if_neg h0, hzr, hmade]
              simp [e1, newRow]
          · exact .sli ⟨_, 0, a3, rfl⟩ (.inl rfl)
        · cases hv
      · cases hv
    · cases hv
  · cases hv

theorem make_sim (h : Sm w0 M s w) {t : TypeId} {x y x' y' : Value} (hx : VR M x x') (hy : VR M y y') {v : Value} {s' : St} (hv : makeV P s t x y = some (v, s')) :
    ∃ v' w' M', (Instr.makeSlice t x' y').run P w = .ok v' w' ∧ Sm w0 M' s' w' ∧ Gr M s w M' s' w' ∧ VR M' v v' := by
  unfold makeV at hv
  split at hv
  · rename_i e k1 l k2 c he
    cases hx; cases hy
    split at hv
    · rename_i n z b hn hz hb
      split at hv
      · rename_i hc
        obtain ⟨hzl, hpos, hl0, hlc, hbig, hbig2⟩ := hc
        cases hv
        obtain ⟨i, zv, hi, hzz, hzc, hfree, _⟩ := zerT_info hz
        obtain ⟨hzLR, hz1⟩ := free_LR h hfree
        obtain ⟨i', hi', hin⟩ := sizT_info hn
        rw [hi] at hi'; cases hi'
        have hbb : i.bytes = b := by unfold bytT at hb; rw [hi] at hb; simpa using hb
        have hrun := run_make (P := P) w t e i zv (elemT_u he) hi hzz k1 k2 l c hl0 hlc (by rw [hbb, Int.mul_comm]; omega) (by omega)
        have hzs : zv.cells.size = n := by rw [← hzl, ← hzc]; simp
        have hmade : madeCells zv.cells (c.toNat * i.size) = (repL z c.toNat).toArray := by
          rw [hin, ← hzs, ← hzc, ← made_eq _ (by omega)]; rfl
        rw [hmade] at hrun
        obtain ⟨M', a1, a2, a3, a4, a5⟩ := allocRow_sim h (l := repL z c.toNat) (l' := repL z c.toNat) (repL_LR hzLR _) (fun v hv => hz1 v (repL_mem hv)) e
        exact ⟨_, _, M', hrun, a1, a2, .sli ⟨_, 0, a3, rfl⟩ (.inl rfl)⟩
      · cases hv
    · cases hv
  · cases hv

end
end Go.Ab
