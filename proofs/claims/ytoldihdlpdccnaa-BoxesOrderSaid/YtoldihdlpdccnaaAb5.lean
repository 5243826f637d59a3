/- The simulation: memory. -/
import Derived.Test.YtoldihdlpdccnaaAb4
import Derived.Laws.CopyRow
import Derived.Laws.Cells
set_option linter.unusedVariables false
namespace Go.Ab
open Go Go.RowKit

theorem getL_some {c l : List Value} {off n : Nat} (h : getL c off n = some l) : off + n ≤ c.length ∧ l = (c.drop off).take n ∧ l.length = n ∧ ∀ i, i < n → l[i]? = c[off + i]? := by
  unfold getL at h
  split at h
  · rename_i hl
    cases h
    refine ⟨hl, rfl, by simp; omega, fun i hi => ?_⟩
    rw [List.getElem?_take_of_lt hi, List.getElem?_drop]
  · cases h
theorem setL_length : ∀ (vs : List Value) (c : List Value) (off : Nat), (setL c off vs).length = c.length
  | [], _, _ => rfl
  | v :: vs, c, off => by simp only [setL]; rw [setL_length vs]; simp
theorem setL_get : ∀ (vs : List Value) (c : List Value) (off i : Nat), off + vs.length ≤ c.length → (setL c off vs)[i]? = if off ≤ i ∧ i < off + vs.length then vs[i - off]? else c[i]?
  | [], c, off, i, _ => by simp only [setL, List.length_nil]; rw [if_neg (by omega)]
  | v :: vs, c, off, i, h => by
    simp only [List.length_cons] at h
    simp only [setL]
    rw [setL_get vs (c.set off v) (off + 1) i (by simp; omega)]
    simp only [List.length_cons]
    by_cases h1 : off + 1 ≤ i ∧ i < off + 1 + vs.length
    · rw [if_pos h1, if_pos (by omega)]
      have : i - off = (i - (off + 1)) + 1 := by omega
      rw [this, List.getElem?_cons_succ]
    · rw [if_neg h1]
      by_cases h2 : i = off
      · subst h2
        rw [if_pos (by omega), List.getElem?_set_self (by omega), Nat.sub_self]; rfl
      · rw [List.getElem?_set_ne (fun h => h2 h.symm), if_neg (by omega)]

section
variable {P : Program} {w0 : World} {M : Mp} {s : St} {w : World}

theorem Sm.size (h : Sm w0 M s w) : w0.heap.size ≤ w.heap.size := h.below.size
theorem oldVR (h : Sm w0 M s w) {v : Value} (hv : oldOk w0.heap.size v = true) : VR M v v ∧ oneB v = true := by
  have ar : ∀ a : Addr, a.block < w0.heap.size → AR M a a := fun a ha => ⟨a.block, 0, (h.old _ ha).1, by simp⟩
  cases v with
  | bool b => exact ⟨.bool b, rfl⟩
  | int k n => exact ⟨.int k n, rfl⟩
  | float k n => exact ⟨.float k n, rfl⟩
  | complex k x y => exact ⟨.complex k x y, rfl⟩
  | string b => exact ⟨.str b, rfl⟩
  | pointer a => cases a with
    | none => exact ⟨.ptrN, rfl⟩
    | some a => exact ⟨.ptr (ar a (by simpa [oldOk, oldA] using hv)), rfl⟩
  | slice a l c => cases a with
    | none => exact ⟨.sliN l c, rfl⟩
    | some a =>
      have ha : a.block < w0.heap.size := by simpa [oldOk, oldA] using hv
      exact ⟨.sli (ar a ha) (.inl rfl), rfl⟩
  | nilFunc => exact ⟨.funcN, rfl⟩
  | nilIface => exact ⟨.ifaceN, rfl⟩
  | map r => cases r with
    | none => exact ⟨.mapN, rfl⟩
    | some _ => cases hv
  | chan r => cases r with
    | none => exact ⟨.chanN, rfl⟩
    | some _ => cases hv
  | func => cases hv
  | iface => cases hv
  | agg => cases hv
  | tuple => cases hv

/-- A row's cells, there and here. -/
theorem cells_at (h : Sm w0 M s w) {a a' : Addr} (ha : AR M a a') {c : List Value} (hc : (s.heap a.block).cells? = some c) (hsp : a.spot = none) {i : Nat} {v : Value} (hv : c[a.off + i]? = some v)
    (ho : w0.heap.size ≤ a.block ∨ oldOk w0.heap.size v = true) : ∃ v', w.cell? (a'.add i) = some v' ∧ VR M v v' ∧ oneB v = true := by
  obtain ⟨B, d, hb, rfl⟩ := ha
  have hadd : (⟨B, a.off + d, a.spot⟩ : Addr).add i = ⟨B, a.off + d + i, none⟩ := by rw [hsp]; exact add_lit _ _ _
  rw [hadd]
  by_cases hlt : a.block < w0.heap.size
  · have ho' : oldOk w0.heap.size v = true := by rcases ho with ho | ho; omega; exact ho
    have hold := h.old _ hlt
    rw [hold.1] at hb
    simp only [Option.some.injEq, Prod.mk.injEq] at hb
    obtain ⟨rfl, rfl⟩ := hb
    rw [h.olds _ hlt] at hc
    refine ⟨v, ?_, oldVR h ho'⟩
    simp only [oldObj] at hc
    have hbl := h.below.block a.block hlt
    cases hw : w0.heap[a.block]? with
    | none => rw [hw] at hc; simp [AObj.cells?] at hc
    | some o =>
      rw [hw] at hc hbl
      cases o with
      | cells C t fr =>
        simp only [AObj.cells?, Option.some.injEq] at hc
        subst hc
        simp only [World.cell?, hbl]
        simpa using hv
      | _ => simp [AObj.cells?] at hc
  · obtain ⟨_, _, o, ho', hor⟩ := h.new _ _ hb (by omega)
    have key : RowR M (B, d) c o := by
      cases hh : s.heap a.block with
      | row c' => rw [hh] at hc hor; simp only [AObj.cells?, Option.some.injEq] at hc; subst hc; exact hor.2
      | grown c' z => rw [hh] at hc hor; simp only [AObj.cells?, Option.some.injEq] at hc; subst hc; exact hor.2
      | _ => rw [hh] at hc; simp [AObj.cells?] at hc
    obtain ⟨C, t, rfl, hs, hcc⟩ := key
    obtain ⟨h1, v', h2, h3⟩ := hcc _ v hv
    refine ⟨v', ?_, h3, h1⟩
    have e : a.off + d + i = d + (a.off + i) := by omega
    rw [e]
    simp only [World.cell?, ho']
    simpa using h2

theorem ld1_sim (h : Sm w0 M s w) {a a' : Addr} (ha : AR M a a') {v : Value} (hv : ld1 w0.heap.size s a = some v) : ∃ v', w.cell? a' = some v' ∧ VR M v v' ∧ oneB v = true := by
  unfold ld1 at hv
  split at hv
  · rename_i c hc
    split at hv
    · rename_i hsp
      split at hv
      · rename_i u hu
        split at hv
        · rename_i ho
          cases hv
          obtain ⟨v', h1, h2⟩ := cells_at h ha hc hsp (i := 0) (by simpa using hu) ho
          exact ⟨v', by simpa [Addr.add] using h1, h2⟩
        · cases hv
      · cases hv
    · cases hv
  · cases hv

theorem ldN_sim (h : Sm w0 M s w) {a a' : Addr} {n : Nat} (ha : n ≠ 0 → AR M a a') {l : List Value} (hl : ldN w0.heap.size s a n = some l) :
    l.length = n ∧ ∃ l', LR M l l' ∧ (∀ v ∈ l, oneB v = true) ∧ ∀ (j : Nat) v, l'[j]? = some v → w.cell? (a'.add j) = some v := by
  unfold ldN at hl
  split at hl
  · rename_i hn
    cases hl
    exact ⟨hn.symm, [], .nil M, by simp, by simp⟩
  · rename_i hn
    have ha := ha hn
    split at hl
    · rename_i c hc
      split at hl
      · rename_i hsp
        split at hl
        · rename_i u hu
          split at hl
          · rename_i ho
            cases hl
            obtain ⟨h1, h2, h3, h4⟩ := getL_some hu
            have each : ∀ i v, l[i]? = some v → ∃ v', w.cell? (a'.add i) = some v' ∧ VR M v v' ∧ oneB v = true := fun i v hv => by
              have hi : i < n := by rw [← h3]; exact (List.getElem?_eq_some_iff.1 hv).1
              refine cells_at h ha hc hsp (by rw [← h4 i hi]; exact hv) ?_
              rcases ho with ho | ho
              · exact .inl ho
              · exact .inr (List.all_eq_true.1 ho v (List.mem_of_getElem? hv))
            refine ⟨h3, (List.range n).map fun i => (w.cell? (a'.add i)).getD undef, ⟨by simp [h3], fun i v v' e1 e2 => ?_⟩, fun v hv => ?_, fun j v hv => ?_⟩
            · obtain ⟨u', e3, e4, _⟩ := each i v e1
              have hi : i < n := by rw [← h3]; exact (List.getElem?_eq_some_iff.1 e1).1
              rw [List.getElem?_map, List.getElem?_range hi] at e2
              simp only [Option.map_some, e3, Option.getD_some, Option.some.injEq] at e2
              exact e2 ▸ e4
            · obtain ⟨i, hi⟩ := List.mem_iff_getElem?.1 hv
              exact (each i v hi).choose_spec.2.2
            · have hj : j < n := by have := (List.getElem?_eq_some_iff.1 hv).1; simpa using this
              rw [List.getElem?_map, List.getElem?_range hj] at hv
              have hj2 : j < l.length := by omega
              obtain ⟨u', e3, _, _⟩ := each j l[j] (List.getElem?_eq_getElem hj2)
              simp only [Option.map_some, e3, Option.getD_some, Option.some.injEq] at hv
              rw [e3, hv]
          · cases hl
        · cases hl
      · cases hl
    · cases hl

/-- An own block's row is another one. -/
theorem setRow_sim (h : Sm w0 M s w) {b : Nat} {x : Nat × Nat} (hb : M.blk b = some x) (hge : w0.heap.size ≤ b) {c c' : List Value} (hc : (s.heap b).cells? = some c)
    {C : Array Value} {t : TypeId} (hC : w.heap[x.1]? = some (.cells C t (0, 0))) {C' : Array Value} (hs : C'.size = C.size)
    (hcc : ∀ (i : Nat) v, c'[i]? = some v → oneB v = true ∧ ∃ v', C'[x.2 + i]? = some v' ∧ VR M v v') :
    Sm w0 M (s.upd b ((s.heap b).withCells c')) (w.setRow x.1 C') ∧ Gr M s w M (s.upd b ((s.heap b).withCells c')) (w.setRow x.1 C') := by
  obtain ⟨hlt, hbase, o, ho, hor⟩ := h.new b x hb hge
  have hng : goneB (s.heap b) = false := by cases hh : s.heap b <;> first | rfl | (rw [hh] at hc; simp [AObj.cells?] at hc)
  have hset := setRow_heap w x.1 C C' t (0, 0) hC
  have hxlt : x.1 < w.heap.size := (Array.getElem?_eq_some_iff.1 hC).1
  have hsz : (w.setRow x.1 C').heap.size = w.heap.size := by simp [World.setRow]
  refine ⟨⟨⟨h.below.os, h.below.tape, h.below.output, by rw [hsz]; exact h.below.size, fun k hk => ?_⟩, h.nxt, h.old, fun k hk => ?_, fun k y hk hkb => ?_, fun k k' y y' h1 h2 h3 h4 h5 h6 h7 => ?_⟩, ⟨.refl M, Nat.le_refl _, fun _ _ h _ => h, fun k y hk => .inl ⟨k, y, hk, rfl⟩, fun k y hk hg => .inl ⟨k, y, hk, ?_, rfl⟩, fun B hB hn => ?_, by rw [hsz]; exact Nat.le_refl _⟩⟩
  · rw [setRow_other w x.1 k C' (by omega)]; exact h.below.block k hk
  · rw [heap_upd_ne _ _ (by omega)]; exact h.olds k hk
  · obtain ⟨g1, g2, o', g3, g4⟩ := h.new k y hk hkb
    by_cases hkb' : k = b
    · subst hkb'
      rw [hb] at hk; cases hk
      refine ⟨g1, g2, _, hset, ?_⟩
      rw [heap_upd_same]
      rw [hC] at g3; cases g3
      cases hh : s.heap k with
      | row c0 =>
        rw [hh] at g4
        obtain ⟨e1, C0, t0, e2, e3, e4⟩ := g4
        cases e2
        exact ⟨e1, C', _, rfl, hs.trans e3, hcc⟩
      | grown c0 z =>
        rw [hh] at g4
        obtain ⟨e1, C0, t0, e2, e3, e4⟩ := g4
        cases e2
        exact ⟨e1, C', _, rfl, hs.trans e3, hcc⟩
      | _ => rw [hh] at hc; simp [AObj.cells?] at hc
    · rw [heap_upd_ne _ _ hkb']
      by_cases hy : y.1 = x.1
      · cases hg : goneB (s.heap k) with
        | true => 
          refine ⟨g1, g2, .cells C' t (0, 0), by rw [hy]; exact hset, ?_⟩
          cases hh : s.heap k <;> first | trivial | (rw [hh] at hg; simp [goneB] at hg)
        | false => exact absurd (h.inj k b y x hkb hge hk hb hy hg hng) hkb'
      · refine ⟨g1, g2, o', ?_, g4⟩
        rw [setRow_other w x.1 y.1 C' hy]; exact g3
  · have e : ∀ j, goneB ((s.upd b ((s.heap b).withCells c')).heap j) = false → goneB (s.heap j) = false := fun j hj => by
      by_cases hjb : j = b
      · subst hjb; exact hng
      · rw [heap_upd_ne _ _ hjb] at hj; exact hj
    exact h.inj k k' y y' h1 h2 h3 h4 h5 (e _ h6) (e _ h7)
  · by_cases hjb : k = b
    · subst hjb; exact hng
    · rw [heap_upd_ne _ _ hjb] at hg; exact hg
  · rw [setRow_other w x.1 B C' (fun e => hn b x hb hng e.symm)]

theorem stN_sim (h : Sm w0 M s w) {a a' : Addr} {vs vs' : List Value} (ha : vs ≠ [] → AR M a a') (hv : LR M vs vs') (h1 : ∀ v ∈ vs, oneB v = true) {s' : St} (hs : stN w0.heap.size s a vs = some s') :
    ∃ w', (storeCells a' vs').run P w = .ok () w' ∧ Sm w0 M s' w' ∧ Gr M s w M s' w' := by
  unfold stN at hs
  split at hs
  · rename_i hn
    cases hs
    subst hn
    rw [hv.inv_nil]
    exact ⟨w, rfl, h, .refl M _ w⟩
  · rename_i hn
    have ha := ha hn
    split at hs
    · rename_i c hc
      split at hs
      · rename_i hcond
        obtain ⟨hsp, hge, hlen⟩ := hcond
        cases hs
        obtain ⟨B, d, hb, rfl⟩ := ha
        obtain ⟨g1, g2, o, g3, g4⟩ := h.new _ _ hb hge
        have key : RowR M (B, d) c o := by
          cases hh : s.heap a.block with
          | row c' => rw [hh] at hc g4; simp only [AObj.cells?, Option.some.injEq] at hc; subst hc; exact g4.2
          | grown c' z => rw [hh] at hc g4; simp only [AObj.cells?, Option.some.injEq] at hc; subst hc; exact g4.2
          | _ => rw [hh] at hc; simp [AObj.cells?] at hc
        obtain ⟨C, t, rfl, hsz, hcc⟩ := key
        have hlast : d + (c.length - 1) < C.size := by
          have hpos : 0 < c.length := by
            cases vs with
            | nil => exact absurd rfl hn
            | cons v vs => simp at hlen; omega
          obtain ⟨_, v', e, _⟩ := hcc (c.length - 1) c[c.length - 1] (List.getElem?_eq_getElem (by omega))
          exact (Array.getElem?_eq_some_iff.1 e).1
        have h1' : ∀ v ∈ vs', v.oneCell' = true := fun v hv' => by
          obtain ⟨i, hi⟩ := List.mem_iff_getElem?.1 hv'
          have hi2 : i < vs.length := by rw [hv.1]; exact (List.getElem?_eq_some_iff.1 hi).1
          have := hv.2 i vs[i] v (List.getElem?_eq_getElem hi2) hi
          rw [oneB_eq, this.oneB]
          exact h1 _ (List.getElem_mem _)
        have hlen' : vs'.length = vs.length := hv.1.symm
        have hpos : 0 < vs.length := List.length_pos_iff.2 hn
        have hst := run_storeCells_at P B (a.off + d) t vs' 0 C w g3 (by omega) h1'
        simp only [Nat.add_zero] at hst
        have ea : (⟨B, a.off + d, a.spot⟩ : Addr) = ⟨B, a.off + d, none⟩ := by rw [hsp]
        refine ⟨_, by rw [ea]; exact hst, ?_⟩
        refine setRow_sim h hb hge hc g3 (by simp; omega) fun i v hi => ?_
        rw [setL_get vs c a.off i hlen] at hi
        have hCget : ∀ k, ((C.toList.take (a.off + d) ++ vs' ++ C.toList.drop (a.off + d + vs'.length)).toArray)[k]? = if a.off + d ≤ k ∧ k < a.off + d + vs'.length then vs'[k - (a.off + d)]? else C[k]? := fun k => by
          simp only [List.getElem?_toArray, List.append_assoc]
          have hA : a.off + d + vs'.length ≤ C.size := by omega
          by_cases k1 : k < a.off + d
          · rw [List.getElem?_append_left (by simp; omega), List.getElem?_take_of_lt k1, if_neg (by omega), Array.getElem?_toList]
          · rw [List.getElem?_append_right (by simp; omega)]
            simp only [List.length_take, Array.length_toList, Nat.min_eq_left (show a.off + d ≤ C.size by omega)]
            by_cases k2 : k < a.off + d + vs'.length
            · rw [List.getElem?_append_left (by omega), if_pos (by omega)]
            · rw [List.getElem?_append_right (by omega), List.getElem?_drop, if_neg (by omega), Array.getElem?_toList]
              congr 1; omega
        simp only [hCget]
        by_cases hr : a.off ≤ i ∧ i < a.off + vs.length
        · rw [if_pos hr] at hi
          rw [if_pos (by omega)]
          obtain ⟨v', e1, e2⟩ := hv.at hi
          refine ⟨h1 v (List.mem_of_getElem? hi), v', ?_, e2⟩
          have : d + i - (a.off + d) = i - a.off := by omega
          rw [this]; exact e1
        · rw [if_neg hr] at hi
          rw [if_neg (by omega)]
          exact hcc i v hi
      · cases hs
    · cases hs

def Mp.ext (M : Mp) (b : Nat) (x : Nat × Nat) (g : Option Nat) (n : Nat) : Mp :=
  ⟨fun k => if k = b then some x else M.blk k, fun k => if k = b then g else M.gr k, fun k => if k = x.1 then n else M.sz k⟩
theorem Mp.ext_blk (M : Mp) (b : Nat) (x : Nat × Nat) (g : Option Nat) (n : Nat) : (M.ext b x g n).blk b = some x := by simp [Mp.ext]
theorem Mp.ext_gr (M : Mp) (b : Nat) (x : Nat × Nat) (g : Option Nat) (n : Nat) : (M.ext b x g n).gr b = g := by simp [Mp.ext]
theorem Mp.ext_sz (M : Mp) (b : Nat) (x : Nat × Nat) (g : Option Nat) (n : Nat) : (M.ext b x g n).sz x.1 = n := by simp [Mp.ext]
theorem Sm.next_free (h : Sm w0 M s w) : M.blk s.next = none := by
  cases hb : M.blk s.next with
  | none => rfl
  | some x => have := (h.new _ _ hb h.nxt).1; omega
theorem Sm.img_lt (h : Sm w0 M s w) {b : Nat} {x : Nat × Nat} (hb : M.blk b = some x) : x.1 < w.heap.size := by
  by_cases hlt : b < w0.heap.size
  · rw [(h.old b hlt).1] at hb; cases hb; have := h.size; simp only; omega
  · obtain ⟨_, _, o, ho, _⟩ := h.new b x hb (by omega)
    exact (Array.getElem?_eq_some_iff.1 ho).1
theorem Mle.ext (h : Sm w0 M s w) (x : Nat × Nat) (g : Option Nat) (n : Nat) (hx : ∀ b y, M.blk b = some y → y.1 = x.1 → n = M.sz x.1) : Mle M (M.ext s.next x g n) := by
  refine ⟨fun b y hb => ?_, fun b y hb => ?_, fun b y hb => ?_⟩
  · have : b ≠ s.next := fun e => by rw [e, h.next_free] at hb; cases hb
    simp [Mp.ext, this, hb]
  · have : b ≠ s.next := fun e => by rw [e, h.next_free] at hb; cases hb
    simp [Mp.ext, this]
  · simp only [Mp.ext]
    split
    · rename_i e; rw [hx b y hb e, e]
    · rfl

/-- A new block. -/
theorem alloc_sim (h : Sm w0 M s w) (o : AObj) (O : Obj) (g : Option Nat) (n : Nat) (ho : OR w0.heap.size (M.ext s.next (w.heap.size, 0) g n) s.next (w.heap.size, 0) o O) :
    Sm w0 (M.ext s.next (w.heap.size, 0) g n) (s.alloc o) (w.alloc O) ∧ Gr M s w (M.ext s.next (w.heap.size, 0) g n) (s.alloc o) (w.alloc O) := by
  have hle : Mle M (M.ext s.next (w.heap.size, 0) g n) := Mle.ext h _ g n fun b y hb e => by have := h.img_lt hb; simp only at e; omega
  have hsz := h.size
  have hnx := h.nxt
  refine ⟨⟨⟨h.below.os, h.below.tape, h.below.output, by simp; omega, fun k hk => ?_⟩, by rw [next_alloc]; omega, fun b hb => ?_, fun b hb => ?_, fun b y hb hge => ?_, fun b b' y y' h1 h2 h3 h4 h5 h6 h7 => ?_⟩, ⟨hle, by rw [next_alloc]; omega, fun b y hb hlt => ?_, fun b y hb => ?_, fun b y hb hg => ?_, fun B hB hn => ?_, by simp⟩⟩
  · rw [heap_alloc_old w O k (by omega)]; exact h.below.block k hk
  · have := h.old b hb
    have hne : b ≠ s.next := by omega
    exact ⟨hle.blk _ _ this.1, by simp [Mp.ext, hne, this.2]⟩
  · rw [heap_alloc_ne _ _ (by omega)]; exact h.olds b hb
  · by_cases hbn : b = s.next
    · subst hbn
      rw [Mp.ext_blk] at hb; cases hb
      exact ⟨by rw [next_alloc]; omega, hsz, O, Go.heap_alloc_new w O, by rw [heap_alloc_new]; exact ho⟩
    · have hb0 : M.blk b = some y := by simpa [Mp.ext, hbn] using hb
      obtain ⟨g1, g2, o', g3, g4⟩ := h.new b y hb0 hge
      refine ⟨by rw [next_alloc]; omega, g2, o', ?_, ?_⟩
      · rw [heap_alloc_old w O y.1 (h.img_lt hb0)]; exact g3
      · rw [heap_alloc_ne _ _ hbn]; exact g4.mono hle hb0
  · by_cases e1 : b = s.next
    · by_cases e2 : b' = s.next
      · rw [e1, e2]
      · subst e1
        rw [Mp.ext_blk] at h3; cases h3
        have h4' : M.blk b' = some y' := by simpa [Mp.ext, e2] using h4
        have := h.img_lt h4'; simp only at h5; omega
    · have h3' : M.blk b = some y := by simpa [Mp.ext, e1] using h3
      by_cases e2 : b' = s.next
      · subst e2
        rw [Mp.ext_blk] at h4; cases h4
        have := h.img_lt h3'; simp only at h5; omega
      · have h4' : M.blk b' = some y' := by simpa [Mp.ext, e2] using h4
        rw [heap_alloc_ne _ _ e1] at h6
        rw [heap_alloc_ne _ _ e2] at h7
        exact h.inj b b' y y' h1 h2 h3' h4' h5 h6 h7
  · have hbn : b ≠ s.next := by omega
    simpa [Mp.ext, hbn] using hb
  · by_cases hbn : b = s.next
    · subst hbn; rw [Mp.ext_blk] at hb; cases hb; exact .inr (Nat.le_refl _)
    · exact .inl ⟨b, y, by simpa [Mp.ext, hbn] using hb, rfl⟩
  · by_cases hbn : b = s.next
    · subst hbn; rw [Mp.ext_blk] at hb; cases hb; exact .inr (Nat.le_refl _)
    · rw [heap_alloc_ne _ _ hbn] at hg
      exact .inl ⟨b, y, by simpa [Mp.ext, hbn] using hb, hg, rfl⟩
  · exact heap_alloc_old w O B hB

theorem rowR_new (h : Sm w0 M s w) {l l' : List Value} (hl : LR M l l') (h1 : ∀ v ∈ l, oneB v = true) (r : Array Value) (g : Option Nat) (n : Nat) (hn : (l'.toArray ++ r).size = n) (t : TypeId) :
    RowR (M.ext s.next (w.heap.size, 0) g n) (w.heap.size, 0) l (.cells (l'.toArray ++ r) t) := by
  have hle : Mle M (M.ext s.next (w.heap.size, 0) g n) := Mle.ext h _ g n fun b y hb e => by have := h.img_lt hb; simp only at e; omega
  refine ⟨_, t, rfl, by rw [hn, Mp.ext_sz], fun i v hv => ⟨h1 v (List.mem_of_getElem? hv), ?_⟩⟩
  obtain ⟨v', e1, e2⟩ := hl.at hv
  refine ⟨v', ?_, e2.mono hle⟩
  have hi : i < l'.length := (List.getElem?_eq_some_iff.1 e1).1
  simp only [Nat.zero_add]
  rw [Array.getElem?_append_left (by simpa using hi)]
  simpa using e1
theorem allocRow_sim (h : Sm w0 M s w) {l l' : List Value} (hl : LR M l l') (h1 : ∀ v ∈ l, oneB v = true) (t : TypeId) :
    ∃ M', Sm w0 M' (s.alloc (.row l)) (w.alloc (.cells l'.toArray t)) ∧ Gr M s w M' (s.alloc (.row l)) (w.alloc (.cells l'.toArray t)) ∧ M'.blk s.next = some (w.heap.size, 0) ∧ M'.gr s.next = none ∧ M'.sz w.heap.size = l.length := by
  have hr := rowR_new h hl h1 #[] none l.length (by simp [hl.1]) t
  simp only [Array.append_empty] at hr
  obtain ⟨a, b⟩ := alloc_sim h (.row l) (.cells l'.toArray t) none l.length ⟨Mp.ext_gr .., hr⟩
  exact ⟨_, a, b, Mp.ext_blk .., Mp.ext_gr .., Mp.ext_sz ..⟩
theorem Sm.drew (h : Sm w0 M s w) : Sm w0 M s w.drew := ⟨h.below.drew, h.nxt, h.old, h.olds, h.new, h.inj⟩
theorem Gr.drew {M' : Mp} {s' : St} {w' : World} (h : Gr M s w.drew M' s' w') : Gr M s w M' s' w' := ⟨h.le, h.nxt, h.dom, h.img, h.live, h.fr, h.size⟩
end
end Go.Ab
