/- The simulation: append, copy, comparison; all operations that call nothing. -/
import Derived.Test.YtoldihdlpdccnaaAb9
set_option linter.unusedVariables false
set_option linter.unusedSimpArgs false
namespace Go.Ab
open Go Go.RowKit

section
variable {P : Program} {w0 : World} {M : Mp} {s : St} {w : World}

theorem Gr.refl' {s : St} {w : World} (M : Mp) : Gr M s w M s w := .refl M _ w

theorem Gr.of_gone {b : Nat} {M' : Mp} {s' : St} {w' : World} (h : Gr M (s.upd b .gone) w M' s' w') : Gr M s w M' s' w' := by
  have e : ∀ k, goneB ((s.upd b .gone).heap k) = false → goneB (s.heap k) = false := fun k hk => by
    have hkb : k ≠ b := fun e => by rw [e, heap_upd_same] at hk; cases hk
    rw [heap_upd_ne _ _ hkb] at hk; exact hk
  refine ⟨h.le, h.nxt, h.dom, h.img, fun k y hk hg => ?_, fun B hB hn => h.fr B hB fun k y hk hg => hn k y hk (e k hg), h.size⟩
  rcases h.live k y hk hg with ⟨b', x', h1, h2, h3⟩ | h1
  · exact .inl ⟨b', x', h1, e _ h2, h3⟩
  · exact .inr h1

/-- A new row that may grow: its cells are 'l', and more. -/
theorem allocGrown_sim (h : Sm w0 M s w) {l l' : List Value} (hl : LR M l l') (h1 : ∀ v ∈ l, oneB v = true) (r : Array Value) (z : Nat) (t : TypeId) :
    ∃ M', Sm w0 M' (s.alloc (.grown l z)) (w.drew.alloc (.cells (l'.toArray ++ r) t)) ∧ Gr M s w M' (s.alloc (.grown l z)) (w.drew.alloc (.cells (l'.toArray ++ r) t)) ∧ M'.blk s.next = some (w.heap.size, 0) ∧ M'.gr s.next = some z ∧ M'.sz w.heap.size = (l'.toArray ++ r).size := by
  have hr := rowR_new h.drew hl h1 r (some z) (l'.toArray ++ r).size rfl t
  obtain ⟨a, b⟩ := alloc_sim h.drew (.grown l z) (.cells (l'.toArray ++ r) t) (some z) (l'.toArray ++ r).size ⟨Mp.ext_gr .., hr⟩
  exact ⟨_, a, b.drew, Mp.ext_blk .., Mp.ext_gr .., Mp.ext_sz ..⟩

theorem rep_size (z : Array Value) (n : Nat) : (Builtin.zeroCells z n).size = n * z.size := size_zeroCells z n

theorem append_sim (h : Sm w0 M s w) {t : TypeId} {v v' : Value} (hv : VR M v v') {n : Nat} {news news' : List Value} (hn : LR M news news') (h1 : ∀ u ∈ news, oneB u = true) {r : Value} {s' : St}
    (hr : appendV P w0.heap.size s t v n news = some (r, s')) {run : Result Value}
    (hplace : ∀ (e : TypeId) (i : TypeInfo) b len cap, P.underlying t = some (.slice e) → P.info? e = some i → v' = .slice b len cap → len + n ≤ cap → run = Placed P w b (len * i.size) (len + n) cap news')
    (hgrow : ∀ (e : TypeId) (i : TypeInfo) z b len cap olds, P.underlying t = some (.slice e) → P.info? e = some i → i.zero = some z → z.cells.size = i.size → 0 < i.size → v' = .slice b len cap →
      (Builtin.firstCells i.size len v').run P w.drew = .ok olds.toArray w.drew → cap < len + n → 0 < n → ((len + n : Nat) : Int) ≤ 9223372036854775807 → Builtin.nextslicecap (len + n) cap * i.bytes ≤ 281474976710656 →
      run = .ok (.slice (some ⟨w.heap.size, 0, none⟩) (len + n) (grownCap w (len + n) cap e)) (w.drew.alloc (.cells ((olds ++ news').toArray ++ Builtin.zeroCells z.cells (grownCap w (len + n) cap e - (len + n))) e))) :
    ∃ r' w' M', run = .ok r' w' ∧ Sm w0 M' s' w' ∧ Gr M s w M' s' w' ∧ VR M' r r' := by
  unfold appendV at hr
  split at hr
  · rename_i e b len cap he
    split at hr
    · rename_i z zr by_ hz hzr hby
      split at hr
      · rename_i hc
        obtain ⟨c1, c2, c3, c4⟩ := hc
        obtain ⟨i, hi, hiz⟩ := sizT_info hz
        obtain ⟨i2, zv, hi2, hzz, hzc, hfree, _⟩ := zerT_info hzr
        rw [hi] at hi2; cases hi2
        have hbb : i.bytes = by_ := by unfold bytT at hby; rw [hi] at hby; simpa using hby
        have hzs : zv.cells.size = i.size := by rw [hiz, ← c1, ← hzc]; simp
        have hu := elemT_u he
        have hnl : news'.length = n * z := by rw [← hn.1, c3]
        split at hr
        · -- nothing
          rename_i hn0
          cases hr
          have hnil : news' = [] := List.eq_nil_of_length_eq_zero (by rw [hnl, hn0]; simp)
          cases hv with
          | sliN => exact ⟨_, w, M, by rw [hplace e i none len cap hu hi rfl (by omega)]; rfl, h, .refl M _ w, by rw [hn0]; exact .sliN _ _⟩
          | sli0 a a' hb0 => exact ⟨_, w, M, by rw [hplace e i (some a') 0 0 hu hi rfl (by omega), hnil]; rfl, h, .refl M _ w, by rw [hn0]; exact .sli0 _ _ hb0⟩
          | @sli a a' _ _ cap' ha hx =>
            have hcap : cap ≤ cap' := by rcases hx with rfl | ⟨_, _, h, _⟩ <;> omega
            exact ⟨_, w, M, by rw [hplace e i (some a') len cap' hu hi rfl (by omega), hnil]; rfl, h, .refl M _ w, by rw [hn0]; exact .sli ha hx⟩
        · rename_i hn0
          split at hr
          · -- in place
            rename_i hroom
            split at hr
            · rename_i a
              split at hr
              · rename_i s1 hst
                cases hr
                cases hv with
                | sli0 a a' _ => omega
                | @sli _ a' _ _ cap' ha hx =>
                  have hcap : cap ≤ cap' := by rcases hx with rfl | ⟨_, _, h, _⟩ <;> omega
                  obtain ⟨w', e1, e2, e3⟩ := stN_sim (P := P) h (fun _ => ha.add _) hn h1 hst
                  refine ⟨.slice (some a') (len + n) cap', w', M, ?_, e2, e3, .sli ha hx⟩
                  rw [hplace e i (some a') len cap' hu hi rfl (by omega)]
                  simp only [Placed, hiz, e1, Result.andThen_ok]
              · cases hr
            · cases hr
          · rename_i hroom
            split at hr
            · -- a new row
              rename_i hbig
              obtain ⟨b1, b2, b3⟩ := hbig
              have hfit : ∀ cap', cap' < len + n → Builtin.nextslicecap (len + n) cap' * i.bytes ≤ 281474976710656 := fun cap' hlt => by
                have := nextslicecap_le hlt
                have h2 : Builtin.nextslicecap (len + n) cap' * i.bytes ≤ 2 * (len + n) * i.bytes := Nat.mul_le_mul_right _ this
                rw [hbb] at h2 ⊢
                have h3 : 2 * (len + n) * by_ = 2 * ((len + n) * by_) := Nat.mul_assoc ..
                omega
              have h63 : ((len + n : Nat) : Int) ≤ 9223372036854775807 := by omega
              have hge := grownCap_ge w (len + n)
              have hzpos : 0 < i.size := by omega
              -- the new row here, where it is copied
              have fresh : ∀ (olds olds' : List Value) (cap' : Nat), LR M olds olds' → (∀ u ∈ olds, oneB u = true) → olds.length = len * z →
                  ∃ M', Sm w0 M' (s.alloc (.grown (olds ++ news) z)) (w.drew.alloc (.cells ((olds' ++ news').toArray ++ Builtin.zeroCells zv.cells (grownCap w (len + n) cap' e - (len + n))) e)) ∧
                    Gr M s w M' (s.alloc (.grown (olds ++ news) z)) (w.drew.alloc (.cells ((olds' ++ news').toArray ++ Builtin.zeroCells zv.cells (grownCap w (len + n) cap' e - (len + n))) e)) ∧
                    VR M' (.slice (some ⟨s.next, 0, none⟩) (len + n) (len + n)) (.slice (some ⟨w.heap.size, 0, none⟩) (len + n) (grownCap w (len + n) cap' e)) := fun olds olds' cap' ho ho1 hol => by
                have hg := hge cap' e
                obtain ⟨M', a1, a2, a3, a4, a5⟩ := allocGrown_sim h (ho.append hn) (fun u hu => by rcases List.mem_append.1 hu with hu | hu; exact ho1 u hu; exact h1 u hu) (Builtin.zeroCells zv.cells (grownCap w (len + n) cap' e - (len + n))) z e
                refine ⟨M', a1, a2, .sli ⟨_, 0, a3, rfl⟩ (.inr ⟨z, a4, hg, ?_⟩)⟩
                simp only [a5]
                have hsz : ((olds' ++ news').toArray ++ Builtin.zeroCells zv.cells (grownCap w (len + n) cap' e - (len + n))).size = len * z + n * z + (grownCap w (len + n) cap' e - (len + n)) * z := by
                  rw [Array.size_append, rep_size, hzs, hiz]
                  simp only [List.size_toArray, List.length_append, ← ho.1, ← hn.1, hol, c3]
                rw [hsz, ← Nat.add_mul, ← Nat.add_mul, Nat.zero_add]
                exact Nat.mul_le_mul_right _ (by omega)
              split at hr
              · split at hr
                · rename_i hl0
                  cases hr
                  subst hl0
                  cases hv with
                  | sliN =>
                    obtain ⟨M', a1, a2, a3⟩ := fresh [] [] cap (.nil M) (by simp) (by simp)
                    have e0 := hgrow e i zv none 0 cap [] hu hi hzz hzs hzpos rfl (by rfl) (by omega) (by omega) h63 (hfit cap (by omega))
                    simp only [List.nil_append, Nat.zero_add] at a1 a2 a3 e0
                    exact ⟨_, _, M', e0, a1, a2, a3⟩
                · cases hr
              · rename_i a
                split at hr
                · -- a row of its own size
                  rename_i c hh
                  split at hr
                  · rename_i olds hol
                    cases hr
                    have src : ∃ b' cap' olds', v' = .slice (some b') len cap' ∧ cap' < len + n ∧ LR M olds olds' ∧ (∀ u ∈ olds, oneB u = true) ∧ olds.length = len * z ∧ (Builtin.firstCells i.size len v').run P w.drew = .ok olds'.toArray w.drew := by
                      cases hv with
                      | sli0 _ a' _ =>
                        simp only [Nat.zero_mul] at hol
                        obtain ⟨q1, l', q2, q3, q4⟩ := ldN_sim h (a' := a') (fun e => absurd rfl e) hol
                        have hl : l' = [] := List.eq_nil_of_length_eq_zero (by rw [← q2.1, q1])
                        subst hl
                        exact ⟨a', 0, [], rfl, by omega, q2, q3, by rw [q1]; simp, by simp [Builtin.firstCells, loadCells, loadCellsFrom]⟩
                      | @sli _ a' _ _ cap' ha hx =>
                        have hcap : cap' = cap := by
                          rcases hx with hx | ⟨z', g1, g2, g3⟩
                          · exact hx
                          · exfalso
                            obtain ⟨B, d, hb, rfl⟩ := ha
                            by_cases hlt : a.block < w0.heap.size
                            · rw [(h.old _ hlt).2] at g1; cases g1
                            · obtain ⟨_, _, o, _, hor⟩ := h.new _ _ hb (by omega)
                              rw [hh] at hor; rw [hor.1] at g1; cases g1
                        subst hcap
                        obtain ⟨q1, l', q2, q3, q4⟩ := ldN_sim h (fun _ => ha) hol
                        refine ⟨a', cap', l', rfl, by omega, q2, q3, q1, ?_⟩
                        have := run_loadCells_list (P := P) w.drew a' l' (fun j v hv => by rw [cell_drew]; exact q4 j v hv)
                        rw [← q2.1, q1, ← hiz] at this
                        exact this
                    obtain ⟨b', cap', olds', e1, e2, e3, e4, e5, e6⟩ := src
                    obtain ⟨M', a1, a2, a3⟩ := fresh olds olds' cap' e3 e4 e5
                    exact ⟨_, _, M', hgrow e i zv (some b') len cap' olds' hu hi hzz hzs hzpos e1 e6 e2 (by omega) h63 (hfit cap' e2), a1, a2, a3⟩
                  · cases hr
                · -- a row that may have room
                  rename_i c z' hh
                  split at hr
                  · rename_i olds hol
                    split at hr
                    · rename_i hcond
                      obtain ⟨rfl, hge2, hsp, hoffc⟩ := hcond
                      cases hr
                      have hnx : (s.upd a.block .gone).next = s.next := rfl
                      have again : ∀ b' cap' olds', v' = .slice (some b') len cap' → cap' < len + n → LR M olds olds' → (∀ u ∈ olds, oneB u = true) → olds.length = len * z' → (Builtin.firstCells i.size len v').run P w.drew = .ok olds'.toArray w.drew →
                          ∃ r' w' M', run = .ok r' w' ∧ Sm w0 M' ((s.upd a.block .gone).alloc (.grown (olds ++ news) z')) w' ∧ Gr M s w M' ((s.upd a.block .gone).alloc (.grown (olds ++ news) z')) w' ∧ VR M' (.slice (some ⟨s.next, 0, none⟩) (len + n) (len + n)) r' := fun b' cap' olds' e1 e2 e3 e4 e5 e6 => by
                        have hg := hge cap' e
                        obtain ⟨M', a1, a2, a3, a4, a5⟩ := allocGrown_sim (upd_gone_sim h hge2) (e3.append hn) (fun u hu => by rcases List.mem_append.1 hu with hu | hu; exact e4 u hu; exact h1 u hu) (Builtin.zeroCells zv.cells (grownCap w (len + n) cap' e - (len + n))) z' e
                        refine ⟨_, _, M', hgrow e i zv (some b') len cap' olds' hu hi hzz hzs hzpos e1 e6 e2 (by omega) h63 (hfit cap' e2), a1, a2.of_gone, .sli ⟨_, 0, a3, rfl⟩ (.inr ⟨z', a4, hg, ?_⟩)⟩
                        simp only [a5]
                        have hsz : ((olds' ++ news').toArray ++ Builtin.zeroCells zv.cells (grownCap w (len + n) cap' e - (len + n))).size = len * z' + n * z' + (grownCap w (len + n) cap' e - (len + n)) * z' := by
                          rw [Array.size_append, rep_size, hzs, hiz]
                          simp only [List.size_toArray, List.length_append, ← e3.1, ← hn.1, e5, c3]
                        rw [hsz, ← Nat.add_mul, ← Nat.add_mul, Nat.zero_add]
                        exact Nat.mul_le_mul_right _ (by omega)
                      cases hv with
                      | sli0 _ a' _ =>
                        simp only [Nat.zero_mul] at hol
                        obtain ⟨q1, l', q2, q3, q4⟩ := ldN_sim h (a' := a') (fun e => absurd rfl e) hol
                        have hl : l' = [] := List.eq_nil_of_length_eq_zero (by rw [← q2.1, q1])
                        subst hl
                        exact again a' 0 [] rfl (by omega) q2 q3 (by rw [q1]; simp) (by simp [Builtin.firstCells, loadCells, loadCellsFrom])
                      | @sli _ a' _ _ cap' ha hx =>
                        obtain ⟨q1, l', q2, q3, q4⟩ := ldN_sim h (fun _ => ha) hol
                        by_cases hplc : len + n ≤ cap'
                        · -- there is room
                          rcases hx with hx | ⟨z2, g1, g2, g3⟩
                          · omega
                          · have ha' := ha
                            obtain ⟨B, d, hb, rfl⟩ := ha'
                            obtain ⟨k1, k2, o, k3, k4⟩ := h.new _ _ hb hge2
                            rw [hh] at k4
                            obtain ⟨k5, C, ty, rfl, k6, k7⟩ := k4
                            rw [k5] at g1; cases g1
                            have hgetL : getL c a.off (len * z') = some olds := by
                              unfold ldN at hol
                              split at hol
                              · rename_i hz0
                                cases hol
                                simp only [getL]
                                rw [if_pos hoffc, hz0]
                                simp
                              · simp only [hh, AObj.cells?, hsp, if_true] at hol
                                split at hol
                                · rename_i u hu2
                                  split at hol
                                  · cases hol; exact hu2
                                  · cases hol
                                · cases hol
                            simp only at g3 k6 k3
                            have hroom2 : d + a.off + len * z' + news.length ≤ C.size := by
                              have : (len + n) * z' ≤ cap' * z' := Nat.mul_le_mul_right _ hplc
                              rw [Nat.add_mul] at this
                              rw [k6, c3]; omega
                            obtain ⟨M', C', m1, m2, m3, m4, m5, m6⟩ := regrow_sim h hb hge2 hh hgetL hn h1 k3 k6 k7 hroom2
                            have h1' : ∀ v ∈ news', v.oneCell' = true := fun v hv' => by
                              obtain ⟨j, hj⟩ := List.mem_iff_getElem?.1 hv'
                              have hj2 : j < news.length := by rw [hn.1]; exact (List.getElem?_eq_some_iff.1 hj).1
                              have := hn.2 j news[j] v (List.getElem?_eq_getElem hj2) hj
                              rw [oneB_eq, this.oneB]
                              exact h1 _ (List.getElem_mem _)
                            have hst := run_storeCells_at P B (a.off + d + len * z') ty news' 0 C w k3 (by rw [← hn.1]; omega) h1'
                            simp only [Nat.add_zero] at hst
                            refine ⟨.slice (some ⟨B, a.off + d, a.spot⟩) (len + n) cap', _, M', ?_, m1, m2, .sli ⟨B, d + a.off, m3, by simp [hsp]; omega⟩ (.inr ⟨z', m4, hplc, by simp only at m5 ⊢; rw [m5]; exact g3⟩)⟩
                            rw [hplace e i _ len cap' hu hi rfl hplc]
                            have hadd : (⟨B, a.off + d, a.spot⟩ : Addr).add (len * i.size) = ⟨B, a.off + d + len * z', none⟩ := by rw [hsp, hiz]; exact add_lit _ _ _
                            simp only [Placed, hadd, hst, Result.andThen_ok, m6]
                            congr 3
                            simp [Nat.add_comm d a.off]
                        · have := run_loadCells_list (P := P) w.drew a' l' (fun j v hv => by rw [cell_drew]; exact q4 j v hv)
                          rw [← q2.1, q1, ← hiz] at this
                          exact again a' cap' l' rfl (by omega) q2 q3 q1 this
                    · cases hr
                  · cases hr
                · cases hr
            · cases hr
      · cases hr
    · cases hr
  · cases hr
end
end Go.Ab
