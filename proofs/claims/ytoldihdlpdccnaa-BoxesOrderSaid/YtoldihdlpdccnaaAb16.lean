/- The simulation: a map cut at a time; regions whose order is drawn. -/
import Derived.Test.YtoldihdlpdccnaaAb15
import Derived.OrdersIn
set_option linter.unusedVariables false
set_option linter.unusedSimpArgs false
namespace Go.Ab
open Go Go.RowKit

section
variable {P : Program} {w0 : World} {M : Mp} {s : St} {w : World} {G : Nat}

/-! ### Operations in order -/
theorem plain_ops {F : Fence} {n : Nat} {all : Array Oper} {D : Option Drw} {N : Nat} {e' : Env} {s' : St} {Q : Exit → Act → World → Prop} (hF : Fwide F) (hG : G ≤ w0.heap.size) (hok : ∀ o ∈ all.toList, operOk G N o = true) :
    ∀ (l : List Oper) (k : Nat) (e : Env) (s : St) (M : Mp) (w : World) (a : Act), Tr P w0 all D k l e s e' s' → l = all.toList.drop k → Sm w0 M s w → ER M e a.tmps → a.tmps.size = N →
      (∀ a' w' M', Gr M s w M' s' w' → Sm w0 M' s' w' → ER M' e' a'.tmps → a'.tmps.size = N → a'.defers = a.defers → Q .normal a' w') → wpOpsIn F n P all Q (List.range' k l.length) a w := by
  intro l
  induction l with
  | nil =>
    intro k e s M w a hT hl hS hE hN hQ
    obtain ⟨rfl, rfl⟩ := hT
    exact hQ a w M (.refl M _ w) hS hE hN rfl
  | cons o l ih =>
    intro k e s M w a hT hl hS hE hN hQ
    have hk : all[k]? = some o := by
      have : (all.toList.drop k)[0]? = some o := by rw [← hl]; rfl
      simpa using this
    have hl' : l = all.toList.drop (k + 1) := by
      have : (all.toList.drop k).tail = l := by rw [← hl]; rfl
      rw [← this, List.tail_drop]
    have hmem : o ∈ all.toList := by have := Array.mem_of_getElem? hk; simpa using this
    obtain ⟨hdst, hopd⟩ := oper_ok (hok o hmem)
    rw [List.length_cons, List.range'_succ, wpOpsIn_cons, wpOpIn, hk]
    simp only
    rcases hT with ⟨j, g, b, h1, h2, h3, hT⟩ | ⟨v, s1, h1, hop, _, _, _, hT⟩
    · have hy := guard_sim (G := G) hE (fun o ho => by rw [hN]; exact hok o ho) h2
      rw [if_neg (by simp only [Region.wanted, h1, hy]; simp [h3])]
      refine ⟨fun f _ => hF.1 f, ih (k + 1) _ s M w _ hT hl' hS ?_ ?_ ?_⟩
      · exact hE.act (VR_undef M) o.dst
      · rw [act_size]; exact hN
      · intro a' w' M' q1 q2 q3 q4 q5
        exact hQ a' w' M' q1 q2 q3 q4 (by rw [q5, act_defers])
    · rw [if_pos (by
        unfold Region.wanted
        cases hg : o.guard with
        | none => rfl
        | some jg =>
          obtain ⟨j, g⟩ := jg
          simp only [guard_sim (G := G) hE (fun o ho => by rw [hN]; exact hok o ho) (h1 j g hg), beq_self_eq_true])]
      refine hop M w a F n hF hS (fun x hx => ev_VR hS hG hE (by rw [hN]; exact hopd x hx)) _ _ fun v' w' M' q1 q2 q3 => ?_
      refine ih (k + 1) _ s1 M' w' _ hT hl' q2 ((hE.mono q1.le).act q3 o.dst) (by rw [act_size]; exact hN) ?_
      intro a'' w'' M'' r1 r2 r3 r4 r5
      exact hQ a'' w'' M'' (q1.trans r1) r2 r3 r4 (by rw [r5, act_defers])

/-! ### What was related stays so -/
theorem VR.back {M M' : Mp} (hm : Mle M M') {v v1 : Value} (h : VR M v v1) : ∀ {v2}, VR M' v v2 → VR M v v2 := by
  have elems : ∀ {c c1 c2 : Array Value}, c.size = c1.size → (∀ (i : Nat) v v', c[i]? = some v → c1[i]? = some v' → ∀ {v2}, VR M' v v2 → VR M v v2) →
      (∀ (i : Nat) v v', c[i]? = some v → c2[i]? = some v' → VR M' v v') → ∀ (i : Nat) v v', c[i]? = some v → c2[i]? = some v' → VR M v v' := fun s1 ih h2 i v v' hv hv' => by
    obtain ⟨u, hu⟩ : ∃ u, _[i]? = some u := ⟨_, Array.getElem?_eq_getElem (by rw [← s1]; exact (Array.getElem?_eq_some_iff.1 hv).1)⟩
    exact ih i v u hv hu (h2 i v v' hv hv')
  induction h with
  | bool => intro v2 h2; cases h2; exact .bool _
  | int => intro v2 h2; cases h2; exact .int _ _
  | float => intro v2 h2; cases h2; exact .float _ _
  | complex => intro v2 h2; cases h2; exact .complex _ _ _
  | str => intro v2 h2; cases h2; exact .str _
  | ptrN => intro v2 h2; cases h2; exact .ptrN
  | ptr h =>
    intro v2 h2
    cases h2 with
    | ptr h2 =>
      obtain ⟨B, d, e1, _⟩ := h
      obtain ⟨B2, d2, e3, e4⟩ := h2
      have := hm.blk _ _ e1
      rw [this] at e3; cases e3
      exact .ptr ⟨B, d, e1, e4⟩
  | sliN l c => intro v2 h2; cases h2; exact .sliN _ _
  | sli0 a a' h =>
    intro v2 h2
    cases h2 with
    | sli0 => exact .sli0 _ _ h
    | sli h2 hx2 =>
      obtain ⟨B2, d2, e3, rfl⟩ := h2
      have e1 := h
      have := hm.blk _ _ e1
      rw [this] at e3; cases e3
      refine .sli ⟨B2, d2, e1, rfl⟩ ?_
      rcases hx2 with hx2 | ⟨z, h1, h2, h3⟩
      · exact .inl hx2
      · have hgr := hm.gr _ _ e1
        have hsz := hm.sz _ _ e1
        exact .inr ⟨z, by rw [← hgr]; exact h1, h2, by simp only at hsz h3 ⊢; rw [← hsz]; exact h3⟩
  | @sli a a' len cap cap' h hx =>
    intro v2 h2
    cases h2 with
    | sli0 => exact .sli0 _ _ h.choose_spec.choose_spec.1
    | sli h2 hx2 =>
      obtain ⟨B, d, e1, _⟩ := h
      obtain ⟨B2, d2, e3, rfl⟩ := h2
      have := hm.blk _ _ e1
      rw [this] at e3; cases e3
      refine .sli ⟨B, d, e1, rfl⟩ ?_
      rcases hx2 with hx2 | ⟨z, h1, h2, h3⟩
      · exact .inl hx2
      · have hgr := hm.gr _ _ e1
        have hsz := hm.sz _ _ e1
        exact .inr ⟨z, by rw [← hgr]; exact h1, h2, by simp only at hsz h3 ⊢; rw [← hsz]; exact h3⟩
  | mapN => intro v2 h2; cases h2; exact .mapN
  | map h =>
    intro v2 h2
    cases h2 with
    | map h2 =>
      have := hm.blk _ _ h
      rw [this] at h2; cases h2
      exact .map h
  | chanN => intro v2 h2; cases h2; exact .chanN
  | funcN => intro v2 h2; cases h2; exact .funcN
  | ifaceN => intro v2 h2; cases h2; exact .ifaceN
  | func h s1 _ s2 _ ih1 ih2 =>
    intro v2 h2
    cases h2 with
    | func g t1 k1 t2 k2 =>
      refine .func ?_ t1 (elems s1 ih1 k1) t2 (elems s2 ih2 k2)
      cases h with
      | yield h =>
        cases g with
        | yield g =>
          have := hm.blk _ _ h
          rw [this] at g; cases g
          exact .yield h
        | other g => exact absurd rfl (g _)
      | other h =>
        cases g with
        | yield g => exact absurd rfl (h _)
        | other g => exact .other g
  | iface t _ ih =>
    intro v2 h2
    cases h2 with
    | iface _ h2 => exact .iface t (ih h2)
  | agg s1 _ o ih =>
    intro v2 h2
    cases h2 with
    | agg t1 k1 _ => exact .agg t1 (elems s1 ih k1) o
  | tuple s1 _ ih =>
    intro v2 h2
    cases h2 with
    | tuple t1 k1 => exact .tuple t1 (elems s1 ih k1)

theorem OR.back {G0 : Nat} {M M' : Mp} (hm : Mle M M') {b : Nat} {x : Nat × Nat} (hb : M.blk b = some x) {a : AObj} {o o2 : Obj} (h : OR G0 M b x a o) (h2 : OR G0 M' b x a o2) : OR G0 M b x a o2 := by
  have row : ∀ c, RowR M x c o → RowR M' x c o2 → RowR M x c o2 := by
    rintro c ⟨C, t, rfl, hs, hc⟩ ⟨C2, t2, rfl, hs2, hc2⟩
    refine ⟨C2, t2, rfl, by rw [hs2, hm.sz _ _ hb], fun i v hv => ?_⟩
    obtain ⟨h1, v1, _, h3⟩ := hc i v hv
    obtain ⟨_, v2, g2, g3⟩ := hc2 i v hv
    exact ⟨h1, v2, g2, h3.back hm g3⟩
  cases a with
  | row c => exact ⟨h.1, row _ h.2 h2.2⟩
  | grown c z => exact ⟨h.1, row _ h.2 h2.2⟩
  | iter s p => exact h2
  | loop r =>
    obtain ⟨h0, R, G, rfl, hR, hG, hz⟩ := h
    obtain ⟨_, R2, G2, rfl, hR2, hG2, hz2⟩ := h2
    refine ⟨h0, R2, G2, rfl, ⟨fun t ht => (hR.env t ?_).back hm (hR2.env t ht), hR2.params, hR2.assign, hR2.body, hR2.state, hR2.pending, hR2.okA, hR2.okB, hR2.okP, hR2.rfA, hR2.rfB⟩, hG2, by rw [hz2, hm.sz _ _ hb]⟩
    rw [hz, ← hm.sz _ _ hb, ← hz2]; exact ht
  | map _ => exact h.elim
  | gone => trivial

/-! ### A map cut at a time -/
def Mp.cut (M : Mp) (n : Nat) : Mp := ⟨fun b => if b < n then M.blk b else none, M.gr, M.sz⟩
theorem Mp.cut_some {n b : Nat} {x : Nat × Nat} : (M.cut n).blk b = some x ↔ b < n ∧ M.blk b = some x := by
  simp only [Mp.cut]; split <;> simp [*]
theorem Mp.cut_le {n m : Nat} (h : n ≤ m) : Mle (M.cut n) (M.cut m) :=
  ⟨fun b x hb => by rw [Mp.cut_some] at *; exact ⟨by omega, hb.2⟩, fun _ _ _ => rfl, fun _ _ _ => rfl⟩
theorem Mp.cut_all {n : Nat} (h : ∀ b x, M.blk b = some x → b < n) : M.cut n = M := by
  have : (M.cut n).blk = M.blk := funext fun b => by
    simp only [Mp.cut]
    split
    · rfl
    · cases hb : M.blk b with
      | none => rfl
      | some x => exact absurd (h b x hb) (by assumption)
  cases M; simp only [Mp.cut] at this ⊢; rw [this]
theorem Sm.blk_lt (h : Sm w0 M s w) {b : Nat} {x : Nat × Nat} (hb : M.blk b = some x) : b < s.next := by
  by_cases hlt : b < w0.heap.size
  · have := h.nxt; omega
  · exact (h.new b x hb (by omega)).1
theorem Sm.mild {s' : St} (h : Sm w0 M s w) (hm : Mild s s') : Sm w0 M s' w := by
  have hh : ∀ b x, M.blk b = some x → s'.heap b = s.heap b := fun b x hb => hm.heap b (h.blk_lt hb)
  refine ⟨h.below, Nat.le_trans h.nxt hm.next, h.old, fun b hb => ?_, fun b x hb hge => ?_, fun b b' x x' h1 h2 h3 h4 h5 h6 h7 => ?_⟩
  · rw [hm.heap b (Nat.lt_of_lt_of_le hb h.nxt)]; exact h.olds b hb
  · obtain ⟨g1, g2, o, g3, g4⟩ := h.new b x hb hge
    exact ⟨Nat.lt_of_lt_of_le g1 hm.next, g2, o, g3, by rw [hh b x hb]; exact g4⟩
  · rw [hh b x h3] at h6; rw [hh b' x' h4] at h7
    exact h.inj b b' x x' h1 h2 h3 h4 h5 h6 h7
theorem Gr.mild {M' : Mp} {s' s'' : St} {w' : World} (h : Gr M s w M' s' w') (hS : Sm w0 M' s' w') (hm : Mild s' s'') : Gr M s w M' s'' w' :=
  ⟨h.le, Nat.le_trans h.nxt hm.next, h.dom, h.img, fun b x hb hg => h.live b x hb (by rw [hm.heap b (hS.blk_lt hb)] at hg; exact hg), h.fr, h.size⟩

/-- A step that was made ahead of others, or behind them. -/
theorem absorb {ss : Nat → St} {lo hi p p' : Nat} {Mf M' M0 : Mp} {w' wi : World} {si : St}
    (hSm : ∀ j, lo ≤ j → j ≤ hi → Sm w0 (Mf.cut (ss j).next) (ss j) w) (hmild : ∀ i j, lo ≤ i → i ≤ j → j ≤ hi → Mild (ss i) (ss j))
    (h1 : lo ≤ p) (h2 : p ≤ p') (h3 : p' ≤ hi) (h4 : p' ≤ p + 1) (hfree : ∀ b, (ss p).next ≤ b → b < (ss p').next → Mf.blk b = none) (hdom : ∀ b x, Mf.blk b = some x → b < (ss hi).next)
    (hg : Gr (Mf.cut (ss p).next) (ss p) w M' (ss p') w') (hS' : Sm w0 M' (ss p') w') (hG0 : Gr M0 si wi Mf (ss hi) w) (hi0 : si.next ≤ (ss p).next) :
    ∃ Mf', (∀ j, lo ≤ j → j ≤ hi → Mle (Mf.cut (ss j).next) (Mf'.cut (ss j).next)) ∧ Mle M' (Mf'.cut (ss p').next) ∧ (∀ j, lo ≤ j → j ≤ hi → Sm w0 (Mf'.cut (ss j).next) (ss j) w') ∧
      Gr M0 si wi Mf' (ss hi) w' ∧ (∀ b x, Mf'.blk b = some x → Mf.blk b = some x ∨ ((ss p).next ≤ b ∧ b < (ss p').next)) := by
  have hn0 : (ss p).next ≤ (ss p').next := (hmild p p' h1 h2 h3).next
  have hnh : (ss p').next ≤ (ss hi).next := (hmild p' hi (by omega) h3 (Nat.le_refl _)).next
  have hpS := hSm p h1 (by omega)
  have hhS := hSm hi (by omega) (Nat.le_refl _)
  have hag : ∀ b x, b < (ss p).next → (M'.blk b = some x ↔ Mf.blk b = some x) := fun b x hb => by
    constructor
    · intro h; exact (Mp.cut_some.1 (hg.dom b x h hb)).2
    · intro h; exact hg.le.blk b x (Mp.cut_some.2 ⟨hb, h⟩)
  have him : ∀ b x, Mf.blk b = some x → x.1 < w.heap.size := fun b x hb => hhS.img_lt (Mp.cut_some.2 ⟨hdom b x hb, hb⟩)
  have hM'lt : ∀ b x, M'.blk b = some x → b < (ss p').next := fun b x hb => hS'.blk_lt hb
  have hMf : ∀ b x, Mf.blk b = some x → b < (ss p').next → b < (ss p).next := fun b x hb hlt => by
    rcases Nat.lt_or_ge b (ss p).next with h | h
    · exact h
    · rw [hfree b h hlt] at hb; cases hb
  obtain ⟨Mf', rfl⟩ : ∃ Mf' : Mp, Mf' = ⟨fun b => if b < (ss p').next then M'.blk b else Mf.blk b, fun b => if b < (ss p').next then M'.gr b else Mf.gr b, fun B => if B < w.heap.size then Mf.sz B else M'.sz B⟩ := ⟨_, rfl⟩
  have hle0 : Mle Mf ⟨fun b => if b < (ss p').next then M'.blk b else Mf.blk b, fun b => if b < (ss p').next then M'.gr b else Mf.gr b, fun B => if B < w.heap.size then Mf.sz B else M'.sz B⟩ := by
    refine ⟨fun b x hb => ?_, fun b x hb => ?_, fun b x hb => ?_⟩
    · simp only
      split
      · rename_i hlt; exact (hag b x (hMf b x hb hlt)).2 hb
      · exact hb
    · simp only
      split
      · rename_i hlt; exact hg.le.gr b x (Mp.cut_some.2 ⟨hMf b x hb hlt, hb⟩)
      · rfl
    · simp only [him b x hb, if_true]
  have hle1 : Mle M' ⟨fun b => if b < (ss p').next then M'.blk b else Mf.blk b, fun b => if b < (ss p').next then M'.gr b else Mf.gr b, fun B => if B < w.heap.size then Mf.sz B else M'.sz B⟩ := by
    refine ⟨fun b x hb => ?_, fun b x hb => ?_, fun b x hb => ?_⟩
    · simp only [hM'lt b x hb, if_true]; exact hb
    · simp only [hM'lt b x hb, if_true]
    · simp only
      split
      · rename_i hlt
        rcases hg.img b x hb with ⟨b', x', q1, q2⟩ | q
        · have := hg.le.sz b' x' q1
          rw [q2] at this
          exact this.symm
        · omega
      · rfl
  generalize hMd : (⟨fun b => if b < (ss p').next then M'.blk b else Mf.blk b, fun b => if b < (ss p').next then M'.gr b else Mf.gr b, fun B => if B < w.heap.size then Mf.sz B else M'.sz B⟩ : Mp) = Mf' at hle0 hle1
  have hbl : ∀ b, b < (ss p').next → Mf'.blk b = M'.blk b := fun b hb => by rw [← hMd]; simp only [hb, if_true]
  have hbg : ∀ b, (ss p').next ≤ b → Mf'.blk b = Mf.blk b := fun b hb => by rw [← hMd]; simp only [show ¬ b < (ss p').next by omega, if_false]
  have cutle : ∀ {A B : Mp} (n : Nat), Mle A B → Mle (A.cut n) (B.cut n) := fun {A B} n h =>
    ⟨fun b x hb => by rw [Mp.cut_some] at *; exact ⟨hb.1, h.blk _ _ hb.2⟩, fun b x hb => h.gr b x (Mp.cut_some.1 hb).2, fun b x hb => h.sz b x (Mp.cut_some.1 hb).2⟩
  have hle : ∀ j, lo ≤ j → j ≤ hi → Mle (Mf.cut (ss j).next) (Mf'.cut (ss j).next) := fun j _ _ => cutle _ hle0
  have hleM : Mle M' (Mf'.cut (ss p').next) :=
    ⟨fun b x hb => Mp.cut_some.2 ⟨hM'lt b x hb, hle1.blk b x hb⟩, hle1.gr, hle1.sz⟩
  have hheap : ∀ j, lo ≤ j → j ≤ hi → ∀ b, b < (ss j).next → b < (ss p').next → (ss p').heap b = (ss j).heap b := fun j j1 j2 b b1 b2 => by
    by_cases hj : p' ≤ j
    · exact ((hmild p' j (by omega) hj j2).heap b b2).symm
    · exact (hmild j p' j1 (by omega) h3).heap b b1
  have hback : ∀ b x, Mf'.blk b = some x → Mf.blk b = some x ∨ ((ss p).next ≤ b ∧ b < (ss p').next) := fun b x hb => by
    rcases Nat.lt_or_ge b (ss p').next with h | h
    · rw [hbl b h] at hb
      rcases Nat.lt_or_ge b (ss p).next with h' | h'
      · exact .inl ((hag b x h').1 hb)
      · exact .inr ⟨h', h⟩
    · rw [hbg b h] at hb; exact .inl hb
  have hoth : ∀ j, lo ≤ j → j ≤ hi → p ≤ j → ∀ b b' x x', w0.heap.size ≤ b → (Mf.cut (ss j).next).blk b = some x → goneB ((ss j).heap b) = false → (ss p).next ≤ b → (Mf.cut (ss p).next).blk b' = some x' → goneB ((ss p).heap b') = false → x'.1 ≠ x.1 := fun j j1 j2 jp b b' x x' hge hb hg1 hbp hb' hg2 hx => by
    obtain ⟨hb'1, hb'2⟩ := Mp.cut_some.1 hb'
    have hb'j : b' < (ss j).next := Nat.lt_of_lt_of_le hb'1 (hmild p j h1 jp j2).next
    have hgj : goneB ((ss j).heap b') = false := by rw [(hmild p j h1 jp j2).heap b' hb'1]; exact hg2
    rcases Nat.lt_or_ge b' w0.heap.size with ho | ho
    · have := (hpS.old b' ho).1
      rw [hb'] at this; cases this
      have := ((hSm j j1 j2).new b x hb hge).2.1
      simp only at hx; omega
    · have := (hSm j j1 j2).inj b' b x' x ho hge (Mp.cut_some.2 ⟨hb'j, hb'2⟩) hb hx hgj hg1
      omega
  refine ⟨Mf', hle, hleM, fun j j1 j2 => ?_, ?_, hback⟩
  · have hjS := hSm j j1 j2
    refine ⟨hS'.below, hjS.nxt, fun b hb => ?_, hjS.olds, fun b x hb hge => ?_, fun b b' x x' g1 g2 g3 g4 g5 g6 g7 => ?_⟩
    · have := hjS.old b hb
      exact ⟨(hle j j1 j2).blk _ _ this.1, by rw [(hle j j1 j2).gr _ _ this.1]; exact this.2⟩
    · obtain ⟨hbj, hbM⟩ := Mp.cut_some.1 hb
      rcases Nat.lt_or_ge b (ss p').next with hbp | hbp
      · have hb' : M'.blk b = some x := by rw [← hbl b hbp]; exact hbM
        obtain ⟨_, q2, o, q3, q4⟩ := hS'.new b x hb' hge
        rw [hheap j j1 j2 b hbj hbp] at q4
        refine ⟨hbj, q2, o, q3, ?_⟩
        by_cases hj : p' ≤ j
        · exact q4.mono (hleM.trans (Mp.cut_le (hmild p' j (by omega) hj j2).next)) hb'
        · have hjp : j ≤ p := by omega
          have hbf : Mf.blk b = some x := (hag b x (Nat.lt_of_lt_of_le hbj (hmild j p j1 hjp (by omega)).next)).1 hb'
          have hbc : (Mf.cut (ss j).next).blk b = some x := Mp.cut_some.2 ⟨hbj, hbf⟩
          obtain ⟨_, _, o1, _, r4⟩ := hjS.new b x hbc hge
          exact (r4.back ((Mp.cut_le (hmild j p j1 hjp (by omega)).next).trans hg.le) hbc q4).mono (hle j j1 j2) hbc
      · have hbf : Mf.blk b = some x := by rw [← hbg b hbp]; exact hbM
        have hbc : (Mf.cut (ss j).next).blk b = some x := Mp.cut_some.2 ⟨hbj, hbf⟩
        obtain ⟨_, q2, o, q3, q4⟩ := hjS.new b x hbc hge
        have hlt : x.1 < w.heap.size := (Array.getElem?_eq_some_iff.1 q3).1
        refine ⟨hbj, q2, ?_⟩
        have hpj : p ≤ j := by
          by_cases hj : p ≤ j
          · exact hj
          · have := (hmild j p j1 (by omega) (by omega)).next; omega
        cases hgn : goneB ((ss j).heap b) with
        | true =>
          have hlt' : x.1 < w'.heap.size := Nat.lt_of_lt_of_le hlt hg.size
          refine ⟨_, Array.getElem?_eq_getElem hlt', ?_⟩
          cases hh : (ss j).heap b <;> first | trivial | (rw [hh] at hgn; simp [goneB] at hgn)
        | false =>
          refine ⟨o, ?_, q4.mono (hle j j1 j2) hbc⟩
          rw [hg.fr x.1 hlt fun b' x' r1 r2 => hoth j j1 j2 hpj b b' x x' hge hbc hgn (by omega) r1 r2]
          exact q3
    · obtain ⟨a1, a2⟩ := Mp.cut_some.1 g3
      obtain ⟨c1, c2⟩ := Mp.cut_some.1 g4
      have mix : ∀ b b' x x', w0.heap.size ≤ b → w0.heap.size ≤ b' → b < (ss j).next → Mf'.blk b = some x → b' < (ss j).next → Mf'.blk b' = some x' → x.1 = x'.1 → goneB ((ss j).heap b) = false → goneB ((ss j).heap b') = false → b < (ss p').next → (ss p').next ≤ b' → b = b' := fun b b' x x' g1 g2 a1 a2 c1 c2 g5 g6 g7 e1 e2 => by
        rw [hbg b' e2] at c2
        have hbc : (Mf.cut (ss j).next).blk b' = some x' := Mp.cut_some.2 ⟨c1, c2⟩
        rcases hback b x a2 with hbf | ⟨hbp, _⟩
        · exact hjS.inj b b' x x' g1 g2 (Mp.cut_some.2 ⟨a1, hbf⟩) hbc g5 g6 g7
        · exfalso
          have hpj : p ≤ j := by
            by_cases hj : p ≤ j
            · exact hj
            · have := (hmild j p j1 (by omega) (by omega)).next; omega
          rw [hbl b e1] at a2
          rcases hg.live b x a2 (by rw [hheap j j1 j2 b a1 e1]; exact g6) with ⟨b2, x2, r1, r2, r3⟩ | r
          · exact hoth j j1 j2 hpj b' b2 x' x2 g2 hbc g7 (by omega) r1 r2 (r3.trans g5)
          · have := him b' x' c2; omega
      rcases Nat.lt_or_ge b (ss p').next with e1 | e1 <;> rcases Nat.lt_or_ge b' (ss p').next with e2 | e2
      · rw [hbl b e1] at a2; rw [hbl b' e2] at c2
        exact hS'.inj b b' x x' g1 g2 a2 c2 g5 (by rw [hheap j j1 j2 b a1 e1]; exact g6) (by rw [hheap j j1 j2 b' c1 e2]; exact g7)
      · exact mix b b' x x' g1 g2 a1 a2 c1 c2 g5 g6 g7 e1 e2
      · exact (mix b' b x' x g2 g1 c1 c2 a1 a2 g5.symm g7 g6 e2 e1).symm
      · rw [hbg b e1] at a2; rw [hbg b' e2] at c2
        exact hjS.inj b b' x x' g1 g2 (Mp.cut_some.2 ⟨a1, a2⟩) (Mp.cut_some.2 ⟨c1, c2⟩) g5 g6 g7
  · have hsz := hG0.size
    have live0 : ∀ b x, (Mf.cut (ss p).next).blk b = some x → goneB ((ss p).heap b) = false → (∃ b' x', M0.blk b' = some x' ∧ goneB (si.heap b') = false ∧ x'.1 = x.1) ∨ wi.heap.size ≤ x.1 := fun b x hb hgn => by
      obtain ⟨q1, q2⟩ := Mp.cut_some.1 hb
      exact hG0.live b x q2 (by rw [(hmild p hi h1 (by omega) (Nat.le_refl _)).heap b q1]; exact hgn)
    refine ⟨hG0.le.trans hle0, hG0.nxt, fun b x hb hlt => ?_, fun b x hb => ?_, fun b x hb hgn => ?_, fun B hB hn => ?_, Nat.le_trans hsz hg.size⟩
    · rcases hback b x hb with hbf | ⟨h, _⟩
      · exact hG0.dom b x hbf hlt
      · omega
    · rcases hback b x hb with hbf | ⟨h, h'⟩
      · exact hG0.img b x hbf
      · rw [hbl b h'] at hb
        rcases hg.img b x hb with ⟨b', x', q1, q2⟩ | q
        · rcases hG0.img b' x' (Mp.cut_some.1 q1).2 with ⟨b2, x2, r1, r2⟩ | r
          · exact .inl ⟨b2, x2, r1, r2.trans q2⟩
          · exact .inr (by omega)
        · exact .inr (by omega)
    · rcases hback b x hb with hbf | ⟨h, h'⟩
      · exact hG0.live b x hbf hgn
      · rw [hbl b h'] at hb
        rw [(hmild p' hi (by omega) h3 (Nat.le_refl _)).heap b h'] at hgn
        rcases hg.live b x hb hgn with ⟨b', x', q1, q2, q3⟩ | q
        · rcases live0 b' x' q1 q2 with ⟨b2, x2, r1, r2, r3⟩ | r
          · exact .inl ⟨b2, x2, r1, r2, r3.trans q3⟩
          · exact .inr (by omega)
        · exact .inr (by omega)
    · rw [hg.fr B (by omega) fun b x hb hgn => ?_, hG0.fr B hB hn]
      rcases live0 b x hb hgn with ⟨b2, x2, r1, r2, r3⟩ | r
      · exact r3 ▸ hn b2 x2 r1 r2
      · omega
end
end Go.Ab
