/- The simulation: append and copy. -/
import Derived.Test.YtoldihdlpdccnaaAb8
set_option linter.unusedVariables false
set_option linter.unusedSimpArgs false
namespace Go.Ab
open Go Go.RowKit

section
variable {P : Program} {w0 : World} {M : Mp} {s : St} {w : World}

/-- What append comes to where there is room. -/
def Placed (P : Program) (w : World) (base : Option Addr) (off need cap : Nat) (news : List Value) : Result Value :=
  match base with
  | some a => ((storeCells (a.add off) news).run P w).andThen fun _ w' => .ok (.slice (some a) need cap) w'
  | none => .ok (.slice none need cap) w
theorem app_place {t t' ty e : TypeId} {i : TypeInfo} {d : TypeDesc} (hu : P.underlying t = some (.slice e)) (hi : P.info? e = some i) (hu' : P.underlying t' = some d) (hd : ∀ k, d ≠ .int k)
    {base : Option Addr} {len cap n : Nat} {x : Value} (hn : (Builtin.lenOf x).run P w = .ok n w) {news : List Value} (ha : (Builtin.firstCells i.size n x).run P w = .ok news.toArray w) (hc : len + n ≤ cap) :
    (Builtin.append_ #[t, t'] ty #[.slice base len cap, x]).run P w = Placed P w base (len * i.size) (len + n) cap news := by
  have hm : (match (generalizing := false) d with | .int _ => true | _ => false) = false := by cases d <;> first | rfl | exact absurd rfl (hd _)
  cases base <;> simp [Builtin.append_, Placed, run_underlying hu, run_underlying hu', hm, sizeOf, typeInfo, hi, hn, hc, ha]
theorem app_grow {t t' ty e : TypeId} {i : TypeInfo} {d : TypeDesc} (hu : P.underlying t = some (.slice e)) (hi : P.info? e = some i) (hu' : P.underlying t' = some d) (hd : ∀ k, d ≠ .int k) {z : Value} (hz : i.zero = some z)
    {base : Option Addr} {len cap n : Nat} {x : Value} (hn : (Builtin.lenOf x).run P w = .ok n w) {news olds : List Value} (ha : (Builtin.firstCells i.size n x).run P w.drew = .ok news.toArray w.drew)
    (ho : (Builtin.firstCells i.size len (.slice base len cap)).run P w.drew = .ok olds.toArray w.drew) (hc : cap < len + n) (h63 : ((len + n : Nat) : Int) ≤ 9223372036854775807)
    (hfit : Builtin.nextslicecap (len + n) cap * i.bytes ≤ 281474976710656) :
    (Builtin.append_ #[t, t'] ty #[.slice base len cap, x]).run P w =
      .ok (.slice (some ⟨w.heap.size, 0, none⟩) (len + n) (grownCap w (len + n) cap e)) (w.drew.alloc (.cells ((olds ++ news).toArray ++ Builtin.zeroCells z.cells (grownCap w (len + n) cap e - (len + n))) e)) := by
  have hn' : ¬ (len + n ≤ cap) := by omega
  have h63' : ¬ (9223372036854775807 < ((len : Int) + (n : Int))) := by omega
  have h48' : ¬ (281474976710656 < Builtin.nextslicecap (len + n) cap * i.bytes) := by omega
  have hm : (match (generalizing := false) d with | .int _ => true | _ => false) = false := by cases d <;> first | rfl | exact absurd rfl (hd _)
  simp [Builtin.append_, run_underlying hu, run_underlying hu', hm, sizeOf, typeInfo, hi, hn, hn', h63', h48', Question.forced, ha, ho, zeroValue, hz, newRow, grownCap]
  congr 2
  apply Array.ext'
  simp [List.append_assoc]
theorem zapp_place {t t' ty e : TypeId} {i : TypeInfo} {k k2 : IntKind} (hu : P.underlying t = some (.slice e)) (hi : P.info? e = some i) (hu' : P.underlying t' = some (.int k)) {z : Value} (hz : i.zero = some z) (hzs : z.cells.size = i.size) (hpos : 0 < i.size)
    {base : Option Addr} {len cap : Nat} {l : Int} (h0 : 0 ≤ l) (h1 : l ≤ 2 ^ 44) (h2 : l * i.bytes ≤ 2 ^ 44) (hc : len + l.toNat ≤ cap) :
    (Builtin.append_ #[t, t'] ty #[.slice base len cap, .int k2 l]).run P w = Placed P w base (len * i.size) (len + l.toNat) cap (repL z.cells.toList l.toNat) := by
  have wl : IntKind.i64.wrap l = l := by rw [IntKind.wrap_i64]; omega
  have n1 : ¬ l < 0 := by omega
  have n2 : ¬ (281474976710656 < l * (i.bytes : Int)) := by omega
  have hm := made_eq z.cells (by omega) l.toNat
  by_cases hn : l.toNat = 0
  · have hl : l = 0 := by omega
    subst hl
    simp at hc
    cases base <;> simp [Builtin.append_, Placed, run_underlying hu, run_underlying hu', sizeOf, typeInfo, hi, asInt, asIntOf, IntKind.wrap_i64, repL, hc]
  · have hs0 : ¬ i.size = 0 := by omega
    have hl1 : ¬ l ≤ 0 := by omega
    have hz0 : ¬ l.toNat * i.size = 0 := by
      intro h; rcases Nat.mul_eq_zero.1 h with h | h <;> omega
    cases base <;> simp [hz0, Builtin.append_, Placed, run_underlying hu, run_underlying hu', sizeOf, typeInfo, hi, asInt, asIntOf, wl, n1, n2, hn, hs0, hl1, zeroValue, hz, Builtin.zeroCells, hm, hc]
theorem zapp_grow {t t' ty e : TypeId} {i : TypeInfo} {k k2 : IntKind} (hu : P.underlying t = some (.slice e)) (hi : P.info? e = some i) (hu' : P.underlying t' = some (.int k)) {z : Value} (hz : i.zero = some z) (hzs : z.cells.size = i.size) (hpos : 0 < i.size)
    {base : Option Addr} {len cap : Nat} {l : Int} (h0 : 0 ≤ l) (h1 : l ≤ 2 ^ 44) (h2 : l * i.bytes ≤ 2 ^ 44) {olds : List Value}
    (ho : (Builtin.firstCells i.size len (.slice base len cap)).run P w.drew = .ok olds.toArray w.drew) (hc : cap < len + l.toNat) (hne : 0 < l) (h63 : ((len + l.toNat : Nat) : Int) ≤ 9223372036854775807)
    (hfit : Builtin.nextslicecap (len + l.toNat) cap * i.bytes ≤ 281474976710656) :
    (Builtin.append_ #[t, t'] ty #[.slice base len cap, .int k2 l]).run P w =
      .ok (.slice (some ⟨w.heap.size, 0, none⟩) (len + l.toNat) (grownCap w (len + l.toNat) cap e)) (w.drew.alloc (.cells ((olds ++ repL z.cells.toList l.toNat).toArray ++ Builtin.zeroCells z.cells (grownCap w (len + l.toNat) cap e - (len + l.toNat))) e)) := by
  have wl : IntKind.i64.wrap l = l := by rw [IntKind.wrap_i64]; omega
  have n1 : ¬ l < 0 := by omega
  have n2 : ¬ (281474976710656 < l * (i.bytes : Int)) := by omega
  have hm := made_eq z.cells (by omega) l.toNat
  have hn' : ¬ (len + l.toNat ≤ cap) := by omega
  have h63' : ¬ (9223372036854775807 < ((len : Int) + (l.toNat : Int))) := by omega
  have h63'' : ¬ (9223372036854775807 < ((len : Int) + max l 0)) := by omega
  have h48' : ¬ (281474976710656 < Builtin.nextslicecap (len + l.toNat) cap * i.bytes) := by omega
  have hs0 : ¬ i.size = 0 := by omega
  have hl1 : ¬ l ≤ 0 := by omega
  have hz0 : ¬ l.toNat * i.size = 0 := by
    intro h; rcases Nat.mul_eq_zero.1 h with h | h <;> omega
  simp [hz0, Builtin.append_, run_underlying hu, run_underlying hu', sizeOf, typeInfo, hi, asInt, asIntOf, wl, n1, n2, hs0, hl1, hn', h63', h63'', h48', Question.forced, ho, zeroValue, hz, newRow, grownCap]
  simp only [Builtin.zeroCells, hm]
  congr 2
  apply Array.ext'
  simp

theorem upd_gone_sim (h : Sm w0 M s w) {b : Nat} (hge : w0.heap.size ≤ b) : Sm w0 M (s.upd b .gone) w := by
  refine ⟨h.below, h.nxt, h.old, fun k hk => ?_, fun k y hk hkb => ?_, fun k k' y y' h1 h2 h3 h4 h5 h6 h7 => ?_⟩
  · rw [heap_upd_ne _ _ (by omega)]; exact h.olds k hk
  · obtain ⟨g1, g2, o, g3, g4⟩ := h.new k y hk hkb
    by_cases e : k = b
    · subst e; exact ⟨g1, g2, o, g3, by rw [heap_upd_same]; trivial⟩
    · exact ⟨g1, g2, o, g3, by rw [heap_upd_ne _ _ e]; exact g4⟩
  · have e1 : k ≠ b := fun e => by rw [e, heap_upd_same] at h6; cases h6
    have e2 : k' ≠ b := fun e => by rw [e, heap_upd_same] at h7; cases h7
    rw [heap_upd_ne _ _ e1] at h6
    rw [heap_upd_ne _ _ e2] at h7
    exact h.inj k k' y y' h1 h2 h3 h4 h5 h6 h7

/-- The row has grown where it lay: its abstract block is a new one. -/
theorem regrow_sim (h : Sm w0 M s w) {b z len : Nat} {c olds news : List Value} {x : Nat × Nat} (hb : M.blk b = some x) (hge : w0.heap.size ≤ b) (hh : s.heap b = .grown c z) {off : Nat} (hold : getL c off (len * z) = some olds)
    {news' : List Value} (hn : LR M news news') (h1 : ∀ v ∈ news, oneB v = true) {C : Array Value} {t : TypeId} (hC : w.heap[x.1]? = some (.cells C t (0, 0))) (hCs : C.size = M.sz x.1)
    (hcc : ∀ (i : Nat) v, c[i]? = some v → oneB v = true ∧ ∃ v', C[x.2 + i]? = some v' ∧ VR M v v') (hroom : x.2 + off + len * z + news.length ≤ C.size) :
    ∃ M' C', Sm w0 M' ((s.upd b .gone).alloc (.grown (olds ++ news) z)) (w.setRow x.1 C') ∧ Gr M s w M' ((s.upd b .gone).alloc (.grown (olds ++ news) z)) (w.setRow x.1 C') ∧ M'.blk s.next = some (x.1, x.2 + off) ∧ M'.gr s.next = some z ∧ M'.sz x.1 = M.sz x.1 ∧
      C' = (C.toList.take (x.2 + off + len * z) ++ news' ++ C.toList.drop (x.2 + off + len * z + news'.length)).toArray := by
  obtain ⟨C', hC'⟩ : ∃ C', C' = (C.toList.take (x.2 + off + len * z) ++ news' ++ C.toList.drop (x.2 + off + len * z + news'.length)).toArray := ⟨_, rfl⟩
  have hnl : news'.length = news.length := hn.1.symm
  have hCget : ∀ k, C'[k]? = if x.2 + off + len * z ≤ k ∧ k < x.2 + off + len * z + news'.length then news'[k - (x.2 + off + len * z)]? else C[k]? := fun k => by
    rw [hC']
    simp only [List.getElem?_toArray, List.append_assoc]
    by_cases k1 : k < x.2 + off + len * z
    · rw [List.getElem?_append_left (by simp; omega), List.getElem?_take_of_lt k1, if_neg (by omega), Array.getElem?_toList]
    · rw [List.getElem?_append_right (by simp; omega)]
      simp only [List.length_take, Array.length_toList, Nat.min_eq_left (show x.2 + off + len * z ≤ C.size by omega)]
      by_cases k2 : k < x.2 + off + len * z + news'.length
      · rw [List.getElem?_append_left (by omega), if_pos (by omega)]
      · rw [List.getElem?_append_right (by omega), List.getElem?_drop, if_neg (by omega), Array.getElem?_toList]
        congr 1; omega
  have hC's : C'.size = C.size := by rw [hC']; simp; omega
  have h' := upd_gone_sim h hge (b := b)
  have hle : Mle M (M.ext s.next (x.1, x.2 + off) (some z) (M.sz x.1)) := Mle.ext h _ _ _ fun b' y hb' e => rfl
  have hset := setRow_heap w x.1 C C' t (0, 0) hC
  have hsz : (w.setRow x.1 C').heap.size = w.heap.size := by simp [World.setRow]
  obtain ⟨hb1, hb2, _⟩ := h.new b x hb hge
  obtain ⟨g1, g2, g3, g4⟩ := getL_some hold
  refine ⟨M.ext s.next (x.1, x.2 + off) (some z) (M.sz x.1), C', ⟨⟨h.below.os, h.below.tape, h.below.output, by rw [hsz]; exact h.size, fun k hk => ?_⟩, by rw [next_alloc, next_upd]; have := h.nxt; omega, fun k hk => ?_, fun k hk => ?_, fun k y hk hkb => ?_, fun k k' y y' p1 p2 p3 p4 p5 p6 p7 => ?_⟩,
    ⟨hle, by rw [next_alloc, next_upd]; omega, fun k y hk hlt => ?_, fun k y hk => ?_, fun k y hk hg => ?_, fun B hB hnn => ?_, by rw [hsz]; exact Nat.le_refl _⟩, Mp.ext_blk .., Mp.ext_gr .., Mp.ext_sz .., hC'⟩
  · rw [setRow_other w x.1 k C' (by omega)]; exact h.below.block k hk
  · have := h.old k hk
    have hne : k ≠ s.next := by have := h.nxt; omega
    exact ⟨hle.blk _ _ this.1, by simp [Mp.ext, hne, this.2]⟩
  · rw [heap_alloc_ne _ _ (by rw [next_upd]; have := h.nxt; omega), heap_upd_ne _ _ (by omega)]; exact h.olds k hk
  · by_cases hkn : k = s.next
    · subst hkn
      rw [Mp.ext_blk] at hk; cases hk
      refine ⟨by rw [next_alloc, next_upd]; omega, hb2, _, hset, ?_⟩
      have e : ((s.upd b .gone).alloc (.grown (olds ++ news) z)).heap s.next = .grown (olds ++ news) z := by
        have := heap_alloc_new (s.upd b .gone) (.grown (olds ++ news) z); rw [next_upd] at this; exact this
      rw [e]
      refine ⟨Mp.ext_gr .., C', t, rfl, by rw [Mp.ext_sz, hC's, hCs], fun i v hv => ?_⟩
      simp only [hCget]
      by_cases hi : i < olds.length
      · rw [List.getElem?_append_left hi, g4 i (by omega)] at hv
        obtain ⟨q1, v', q2, q3⟩ := hcc _ v hv
        refine ⟨q1, v', ?_, q3.mono hle⟩
        rw [if_neg (by omega)]
        rw [← q2]; congr 1; omega
      · rw [List.getElem?_append_right (by omega)] at hv
        obtain ⟨v', q2, q3⟩ := hn.at hv
        have hi2 : i - olds.length < news'.length := (List.getElem?_eq_some_iff.1 q2).1
        refine ⟨h1 v (List.mem_of_getElem? hv), v', ?_, q3.mono hle⟩
        rw [if_pos (by omega)]
        rw [← q2]; congr 1; omega
    · have hk0 : M.blk k = some y := by simpa [Mp.ext, hkn] using hk
      obtain ⟨q1, q2, o, q3, q4⟩ := h.new k y hk0 hkb
      rw [heap_alloc_ne _ _ (by rw [next_upd]; exact hkn)]
      by_cases hkb' : k = b
      · subst hkb'
        rw [hb] at hk0; cases hk0
        exact ⟨by rw [next_alloc, next_upd]; omega, q2, _, hset, by rw [heap_upd_same]; trivial⟩
      · rw [heap_upd_ne _ _ hkb']
        by_cases hy : y.1 = x.1
        · cases hg : goneB (s.heap k) with
          | true =>
            refine ⟨by rw [next_alloc, next_upd]; omega, q2, .cells C' t (0, 0), by rw [hy]; exact hset, ?_⟩
            cases hs : s.heap k <;> first | trivial | (rw [hs] at hg; simp [goneB] at hg)
          | false => exact absurd (h.inj k b y x hkb hge hk0 hb hy hg (by rw [hh]; rfl)) hkb'
        · refine ⟨by rw [next_alloc, next_upd]; omega, q2, o, ?_, q4.mono hle hk0⟩
          rw [setRow_other w x.1 y.1 C' hy]; exact q3
  · have ge : ∀ j, j ≠ s.next → goneB (((s.upd b .gone).alloc (.grown (olds ++ news) z)).heap j) = false → j ≠ b ∧ goneB (s.heap j) = false := fun j hj hg => by
      rw [heap_alloc_ne _ _ (by rw [next_upd]; exact hj)] at hg
      have hjb : j ≠ b := fun e => by rw [e, heap_upd_same] at hg; cases hg
      rw [heap_upd_ne _ _ hjb] at hg
      exact ⟨hjb, hg⟩
    by_cases e1 : k = s.next
    · by_cases e2 : k' = s.next
      · rw [e1, e2]
      · exfalso
        subst e1
        rw [Mp.ext_blk] at p3; cases p3
        obtain ⟨r1, r2⟩ := ge k' e2 p7
        have p4' : M.blk k' = some y' := by simpa [Mp.ext, e2] using p4
        exact r1 (h.inj k' b y' x p2 hge p4' hb p5.symm r2 (by rw [hh]; rfl))
    · obtain ⟨r1, r2⟩ := ge k e1 p6
      have p3' : M.blk k = some y := by simpa [Mp.ext, e1] using p3
      by_cases e2 : k' = s.next
      · exfalso
        subst e2
        rw [Mp.ext_blk] at p4; cases p4
        exact r1 (h.inj k b y x p1 hge p3' hb p5 r2 (by rw [hh]; rfl))
      · obtain ⟨r3, r4⟩ := ge k' e2 p7
        have p4' : M.blk k' = some y' := by simpa [Mp.ext, e2] using p4
        exact h.inj k k' y y' p1 p2 p3' p4' p5 r2 r4
  · have hkn : k ≠ s.next := by omega
    simpa [Mp.ext, hkn] using hk
  · by_cases hkn : k = s.next
    · subst hkn; rw [Mp.ext_blk] at hk; cases hk; exact .inl ⟨b, x, hb, rfl⟩
    · exact .inl ⟨k, y, by simpa [Mp.ext, hkn] using hk, rfl⟩
  · by_cases hkn : k = s.next
    · subst hkn; rw [Mp.ext_blk] at hk; cases hk; exact .inl ⟨b, x, hb, by rw [hh]; rfl, rfl⟩
    · rw [heap_alloc_ne _ _ (by rw [next_upd]; exact hkn)] at hg
      have hkb : k ≠ b := fun e => by rw [e, heap_upd_same] at hg; cases hg
      rw [heap_upd_ne _ _ hkb] at hg
      exact .inl ⟨k, y, by simpa [Mp.ext, hkn] using hk, hg, rfl⟩
  · rw [setRow_other w x.1 B C' (fun e => hnn b x hb (by rw [hh]; rfl) e.symm)]
end
end Go.Ab
