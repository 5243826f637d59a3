/- The simulation: every operation that calls nothing: the theorem. -/
import Derived.Test.YtoldihdlpdccnaaAb12
set_option linter.unusedVariables false
set_option linter.unusedSimpArgs false
namespace Go.Ab
open Go Go.RowKit

section
variable {P : Program} {w0 : World} {M : Mp} {s : St} {w : World}

theorem copy_sim (h : Sm w0 M s w) {t t2 ty e : TypeId} {z n : Nat} {d x d' x' : Value} (hd : VR M d d') (hx : VR M x x') (he : elemT P t = some e) (hz : sizT P e = some z) (hn : lenV? x = some n) {b : Option Addr} {dl dc : Nat} (hdd : d = .slice b dl dc)
    {news : List Value} (hnew : newsV w0.heap.size s z (Nat.min n dl) x = some news) {s' : St}
    (hst : (∃ a, b = some a ∧ stN w0.heap.size s a news = some s') ∨ (b = none ∧ dl = 0 ∧ s' = s)) :
    ∃ w', (Builtin.copy_ #[t, t2] ty #[d', x']).run P w = .ok (.int .i64 (Nat.min n dl : Nat)) w' ∧ Sm w0 M s' w' ∧ Gr M s w M s' w' := by
  obtain ⟨q1, news', q2, q3, q4, q5⟩ := first_sim (P := P) h hx hnew
  have hl := len_sim (P := P) hx hn w
  subst hdd
  rcases hst with ⟨a, rfl, hst⟩ | ⟨rfl, h0, rfl⟩
  · have main : ∀ a' dc', (news ≠ [] → AR M a a') → d' = .slice (some a') dl dc' → ∃ w', (Builtin.copy_ #[t, t2] ty #[d', x']).run P w = .ok (.int .i64 (Nat.min n dl : Nat)) w' ∧ Sm w0 M s' w' ∧ Gr M s w M s' w' := fun a' dc' ha e => by
      obtain ⟨w', e1, e2, e3⟩ := stN_sim (P := P) h ha q2 q3 hst
      refine ⟨w', ?_, e2, e3⟩
      subst e
      simp [Builtin.copy_, run_underlying (elemT_u he), hl, sizT_run hz, q4, e1, goInt]
    cases hd with
    | sli0 _ a' _ =>
      refine main a' 0 (fun hne => absurd ?_ hne) rfl
      exact List.eq_nil_of_length_eq_zero (by rw [q1]; simp)
    | @sli _ a' _ _ cap' ha hx => exact main a' cap' (fun _ => ha) rfl
  · cases hd
    refine ⟨w, ?_, h, .refl M _ w⟩
    simp [Builtin.copy_, run_underlying (elemT_u he), hl, sizT_run hz, q4, goInt]

theorem foldV_sim {f : Value → Value → Option Value} {g : Value → Value → Sem Value} (hfg : ∀ x y z x' y', VR M x x' → VR M y y' → f x y = some z → (g x' y').run P w = .ok z w ∧ VR M z z) :
    ∀ (l l' : List Value) (x x' v : Value), VR M x x' → LR M l l' → foldV f x l = some v → ∃ v', (l'.foldlM g x').run P w = .ok v' w ∧ VR M v v'
  | [], l', x, x', v, hx, hl, h => by
    rw [hl.inv_nil]
    simp only [foldV, Option.some.injEq] at h
    subst h
    exact ⟨x', rfl, hx⟩
  | y :: r, l', x, x', v, hx, hl, h => by
    obtain ⟨y', r', rfl, hy, hr⟩ := hl.inv_cons
    simp only [foldV] at h
    split at h
    · rename_i z hz
      obtain ⟨e1, e2⟩ := hfg _ _ _ _ _ hx hy hz
      obtain ⟨v', e3, e4⟩ := foldV_sim hfg r r' z z v e2 hr h
      exact ⟨v', by simp only [List.foldlM_cons, Sem.run_bind, e1, Result.andThen_ok]; exact e3, e4⟩
    · cases h
theorem minV_run {x y z x' y' : Value} (hx : VR M x x') (hy : VR M y y') (h : minV x y = some z) : (Builtin.min2 x' y').run P w = .ok z w ∧ VR M z z := by
  cases hx <;> cases hy <;> simp [minV] at h
  subst h; exact ⟨rfl, .int _ _⟩
theorem maxV_run {x y z x' y' : Value} (hx : VR M x x') (hy : VR M y y') (h : maxV x y = some z) : (Builtin.max2 x' y').run P w = .ok z w ∧ VR M z z := by
  cases hx <;> cases hy <;> simp [maxV] at h
  subst h; exact ⟨rfl, .int _ _⟩

theorem ret1_some' {o : Option Value} {v : Value} {s s' : St} (h : ret1 o s = some (v, s')) : o = some v ∧ s' = s := by
  cases o with
  | none => cases h
  | some u => simp only [ret1, Option.some.injEq, Prod.mk.injEq] at h; exact ⟨by rw [h.1], h.2.symm⟩
theorem builtin_sim (h : Sm w0 M s w) {b : Builtin} {ts : Array TypeId} {ty : TypeId} {cs : Array Bool} {as as' : Array Value} (ha : LR M as.toList as'.toList) {v : Value} {s' : St}
    (hv : builtinV P w0.heap.size s b ts.toList as.toList = some (v, s')) :
    ∃ v' w' M', (builtin b ts ty cs as').run P w = .ok (.value v') w' ∧ Sm w0 M' s' w' ∧ Gr M s w M' s' w' ∧ VR M' v v' := by
  obtain ⟨T, rfl⟩ : ∃ T, ts = List.toArray T := ⟨ts.toList, by simp⟩
  obtain ⟨A, rfl⟩ : ∃ A, as = List.toArray A := ⟨as.toList, by simp⟩
  obtain ⟨A', rfl⟩ : ∃ A', as' = List.toArray A' := ⟨as'.toList, by simp⟩
  simp only [List.toList_toArray] at ha hv
  cases b <;> simp only [builtinV, reduceCtorEq] at hv
  case len =>
    have hq := ret1_some' hv; clear hv; obtain ⟨hv, hss⟩ := hq
    unfold lenB at hv
    split at hv
    case h_2 => cases hv
    rename_i t tt x xx
    obtain ⟨x', r', rfl, hx, hxr⟩ := ha.inv_cons
    refine ⟨v, w, M, ?_⟩
    have fin : VR M v v → (Builtin.len_ (t :: tt).toArray ty (x' :: r').toArray).run P w = .ok v w → (builtin .len (t :: tt).toArray ty cs (x' :: r').toArray).run P w = .ok (.value v) w ∧ Sm w0 M s' w ∧ Gr M s w M s' w ∧ VR M v v := fun e2 e3 => by
      subst hss
      exact ⟨by simp only [builtin, Sem.run_bind, e3, Result.andThen_ok, Sem.run_pure], h, .refl M _ w, e2⟩
    split at hv
    · rename_i n e hn
      cases hv
      refine fin (.int _ _) ?_
      simp [Builtin.len_, run_underlying (arrT_u hn), goInt]
    · split at hv
      · rename_i n _
        split at hv
        · rename_i he
          obtain ⟨e, he⟩ := Option.isSome_iff_exists.1 he
          cases hv
          have : ∃ b' c', x' = .slice b' n c' := by cases hx <;> exact ⟨_, _, rfl⟩
          obtain ⟨b', c', rfl⟩ := this
          exact fin (.int _ _) (by simp [Builtin.len_, run_underlying (elemT_u he), goInt])
        · cases hv
      · split at hv
        · rename_i hs
          cases hv
          cases hx
          exact fin (.int _ _) (by simp [Builtin.len_, run_underlying (strT_u hs), goInt])
        · cases hv
      · cases hv
  case append =>
    unfold appendB at hv
    split at hv
    case h_2 => cases hv
    rename_i t t' d x
    obtain ⟨d', r1, rfl, hd, hr1⟩ := ha.inv_cons
    obtain ⟨x', r2, rfl, hx, hr2⟩ := hr1.inv_cons
    obtain rfl := hr2.inv_nil
    have fin : ∀ {r' w' M'}, (Builtin.append_ #[t, t'] ty #[d', x']).run P w = .ok r' w' → Sm w0 M' s' w' → Gr M s w M' s' w' → VR M' v r' → ∃ v' w' M', (builtin .append (List.toArray [t, t']) ty cs (List.toArray [d', x'])).run P w = .ok (.value v') w' ∧ Sm w0 M' s' w' ∧ Gr M s w M' s' w' ∧ VR M' v v' := fun e1 e2 e3 e4 =>
      ⟨_, _, _, by simp only [builtin, Sem.run_bind, e1, Result.andThen_ok, Sem.run_pure], e2, e3, e4⟩
    split at hv
    · rename_i hund
      obtain ⟨D, hD⟩ := Option.isSome_iff_exists.1 hund
      split at hv
      · -- noughts
        rename_i k e hk he
        split at hv
        · rename_i k2 l zr hzr
          split at hv
          · rename_i bb hbb
            split at hv
            · rename_i hc
              obtain ⟨c1, c2, c3⟩ := hc
              cases hx
              obtain ⟨i, zv, hi, hzz, hzc, hfree, _⟩ := zerT_info hzr
              obtain ⟨hzLR, hz1⟩ := free_LR h hfree
              have hby : i.bytes = bb := by unfold bytT at hbb; rw [hi] at hbb; simpa using hbb
              have hdsl : ∃ b len cap, d' = .slice b len cap := by
                unfold appendV at hv
                split at hv
                · cases hd <;> exact ⟨_, _, _, rfl⟩
                · cases hv
              obtain ⟨r', w', M', e1, e2, e3, e4⟩ := append_sim h hd (n := l.toNat) (repL_LR hzLR l.toNat) (fun u hu => hz1 u (repL_mem hu)) hv
                (run := (Builtin.append_ #[t, t'] ty #[d', .int k2 l]).run P w)
                (fun e' i' b len cap g1 g2 g3 g4 => by
                  subst g3
                  rw [elemT_u he] at g1; cases g1
                  rw [hi] at g2; cases g2
                  have hzs : 0 < i.size ∧ zv.cells.size = i.size := by
                    unfold appendV at hv
                    split at hv
                    · rename_i e2 _ _ _ he2
                      rw [he] at he2; cases he2
                      split at hv
                      · rename_i z zr2 by2 hz2 hzr2 _
                        split at hv
                        · rename_i hcc
                          obtain ⟨i2, hi2, hi3⟩ := sizT_info hz2
                          rw [hi] at hi2; cases hi2
                          rw [hzr] at hzr2; cases hzr2
                          exact ⟨by omega, by rw [hi3, ← hcc.1, ← hzc]; simp⟩
                        · cases hv
                      · cases hv
                    · cases hv
                  rw [zapp_place (elemT_u he) hi (intT_u hk) hzz hzs.2 hzs.1 c1 c2 (by rw [hby]; exact c3) g4, hzc])
                (fun e' i' z' b len cap olds g1 g2 g3 g4 g5 g6 g7 g8 g9 g10 g11 => by
                  subst g6
                  rw [elemT_u he] at g1; cases g1
                  rw [hi] at g2; cases g2
                  rw [hzz] at g3; cases g3
                  rw [zapp_grow (elemT_u he) hi (intT_u hk) hzz g4 g5 c1 c2 (by rw [hby]; exact c3) g7 g8 (by omega) g10 g11, hzc])
              exact fin e1 e2 e3 e4
            · cases hv
          · cases hv
        · cases hv
      · -- a row, or a text
        rename_i e hk he
        have hDi : ∀ k, D ≠ .int k := fun k e => by subst e; simp [intT, hD] at hk
        split at hv
        · rename_i z n hz hn
          split at hv
          · rename_i news hnew
            obtain ⟨q1, news', q2, q3, q4, q5⟩ := first_sim (P := P) h hx hnew
            have hl := len_sim (P := P) hx hn w
            obtain ⟨i, hi, hiz⟩ := sizT_info hz
            obtain ⟨r', w', M', e1, e2, e3, e4⟩ := append_sim h hd q2 q3 hv (run := (Builtin.append_ #[t, t'] ty #[d', x']).run P w)
              (fun e' i' b len cap g1 g2 g3 g4 => by
                subst g3
                rw [elemT_u he] at g1; cases g1
                rw [hi] at g2; cases g2
                exact app_place (elemT_u he) hi hD hDi hl (by rw [hiz]; exact q4) g4)
              (fun e' i' z' b len cap olds g1 g2 g3 g4 g5 g6 g7 g8 g9 g10 g11 => by
                subst g6
                rw [elemT_u he] at g1; cases g1
                rw [hi] at g2; cases g2
                exact app_grow (elemT_u he) hi hD hDi g3 hl (by rw [hiz]; exact q5) g7 g8 g10 g11)
            exact fin e1 e2 e3 e4
          · cases hv
        · cases hv
      · cases hv
    · cases hv
  case copy =>
    unfold copyB at hv
    split at hv
    case h_2 => cases hv
    rename_i t tr d x
    obtain ⟨d', r1, rfl, hd, hr1⟩ := ha.inv_cons
    obtain ⟨x', r2, rfl, hx, hr2⟩ := hr1.inv_cons
    obtain rfl := hr2.inv_nil
    split at hv
    · rename_i e b dl dc he
      split at hv
      · rename_i z n hz hn
        split at hv
        · rename_i news hnew
          have key : ∀ {s1}, ((∃ a, b = some a ∧ stN w0.heap.size s a news = some s1) ∨ (b = none ∧ dl = 0 ∧ s1 = s)) → v = .int .i64 (Nat.min n dl : Nat) → s' = s1 → ∃ v' w' M', (builtin .copy (List.toArray (t :: tr)) ty cs (List.toArray [d', x'])).run P w = .ok (.value v') w' ∧ Sm w0 M' s' w' ∧ Gr M s w M' s' w' ∧ VR M' v v' := fun h1 h2 h3 => by
            subst h2; subst h3
            have cc : ∀ T' : List TypeId, (Builtin.copy_ (List.toArray (t :: T')) ty #[d', x']).run P w = (Builtin.copy_ #[t, t] ty #[d', x']).run P w := fun T' => by simp [Builtin.copy_]
            obtain ⟨w', e1, e2, e3⟩ := copy_sim (t2 := t) (ty := ty) h hd hx he hz hn rfl hnew h1
            exact ⟨_, w', M, by simp only [builtin, Sem.run_bind, cc, e1, Result.andThen_ok, Sem.run_pure], e2, e3, .int _ _⟩
          split at hv
          · rename_i a
            split at hv
            · rename_i s1 hst
              cases hv
              exact key (.inl ⟨a, rfl, hst⟩) rfl rfl
            · cases hv
          · split at hv
            · rename_i h0
              cases hv
              exact key (.inr ⟨rfl, h0, rfl⟩) rfl rfl
            · cases hv
        · cases hv
      · cases hv
    · cases hv
  case min =>
    have hq := ret1_some' hv; clear hv; obtain ⟨hv, hss⟩ := hq
    subst hss
    unfold minB at hv
    split at hv
    case h_2 => cases hv
    rename_i x r
    obtain ⟨x', r1, rfl, hx, hr1⟩ := ha.inv_cons
    obtain ⟨v', e1, e2⟩ := foldV_sim (P := P) (w := w) (f := minV) (g := Builtin.min2) (fun _ _ _ _ _ => minV_run) r r1 x x' v hx hr1 hv
    exact ⟨v', w, M, by simp only [builtin, Builtin.min_, Sem.run_bind, List.toList_toArray, e1, Result.andThen_ok, Sem.run_pure], h, .refl M _ w, e2⟩
  case max =>
    have hq := ret1_some' hv; clear hv; obtain ⟨hv, hss⟩ := hq
    subst hss
    unfold maxB at hv
    split at hv
    case h_2 => cases hv
    rename_i x r
    obtain ⟨x', r1, rfl, hx, hr1⟩ := ha.inv_cons
    obtain ⟨v', e1, e2⟩ := foldV_sim (P := P) (w := w) (f := maxV) (g := Builtin.max2) (fun _ _ _ _ _ => maxV_run) r r1 x x' v hx hr1 hv
    exact ⟨v', w, M, by simp only [builtin, Builtin.max_, Sem.run_bind, List.toList_toArray, e1, Result.andThen_ok, Sem.run_pure], h, .refl M _ w, e2⟩
end
end Go.Ab
