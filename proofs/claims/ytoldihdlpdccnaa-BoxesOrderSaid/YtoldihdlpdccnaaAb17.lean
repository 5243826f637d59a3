/- The simulation: regions whose order is drawn, all orders. -/
import Derived.Test.YtoldihdlpdccnaaAb16
set_option linter.unusedVariables false
set_option linter.unusedSimpArgs false
namespace Go.Ab
open Go Go.RowKit

section
variable {P : Program} {w0 : World} {G : Nat}

/-! ### The steps, as a family -/
def StepAt (P : Program) (w0 : World) (all : Array Oper) (D : Option Drw) (k : Nat) (o : Oper) (e : Env) (s : St) (v : Value) (e1 : Env) (s1 : St) : Prop :=
  e1 = Ab.put e o.dst v ∧ ((∃ j g b, o.guard = some (j, g) ∧ guardV all e j = some b ∧ b ≠ some g ∧ v = undef ∧ s1 = s) ∨
   ((∀ j g, o.guard = some (j, g) → guardV all e j = some (some g)) ∧ OpGood P w0 o e s v s1 ∧ Dok D k s s1 ∧ (loudO o = false → s1 = s ∧ ∀ s2, OpGood P w0 o e s2 v s2) ∧ LiteOk P w0 D k o e s v s1))

theorem Tr.fam {all : Array Oper} {D : Option Drw} {e' : Env} {s' : St} : ∀ (l : List Oper) (k : Nat) (e : Env) (s : St), Tr P w0 all D k l e s e' s' →
    ∃ (es : Nat → Env) (ss : Nat → St) (vs : Nat → Value), es k = e ∧ ss k = s ∧ es (k + l.length) = e' ∧ ss (k + l.length) = s' ∧
      ∀ i o, l[i]? = some o → StepAt P w0 all D (k + i) o (es (k + i)) (ss (k + i)) (vs (k + i)) (es (k + i + 1)) (ss (k + i + 1)) := by
  intro l
  induction l with
  | nil =>
    intro k e s h
    obtain ⟨rfl, rfl⟩ := h
    exact ⟨fun _ => e', fun _ => s', fun _ => undef, rfl, rfl, rfl, rfl, fun i o h => by simp at h⟩
  | cons o l ih =>
    intro k e s h
    obtain ⟨v, s1, h1, h2⟩ : ∃ v s1, StepAt P w0 all D k o e s v (Ab.put e o.dst v) s1 ∧ Tr P w0 all D (k + 1) l (Ab.put e o.dst v) s1 e' s' := by
      rcases h with ⟨j, g, b, h1, h2, h3, hT⟩ | ⟨v, s1, h1, hop, hD, hq, hli, hT⟩
      · exact ⟨undef, s, ⟨rfl, .inl ⟨j, g, b, h1, h2, h3, rfl, rfl⟩⟩, hT⟩
      · exact ⟨v, s1, ⟨rfl, .inr ⟨h1, hop, hD, hq, hli⟩⟩, hT⟩
    obtain ⟨es, ss, vs, a1, a2, a3, a4, a5⟩ := ih (k + 1) _ _ h2
    refine ⟨fun i => if i ≤ k then e else es i, fun i => if i ≤ k then s else ss i, fun i => if i ≤ k then v else vs i, by simp, by simp, ?_, ?_, fun i o' hi => ?_⟩
    · simp only [List.length_cons]; rw [if_neg (by omega), show k + (l.length + 1) = k + 1 + l.length by omega]; exact a3
    · simp only [List.length_cons]; rw [if_neg (by omega), show k + (l.length + 1) = k + 1 + l.length by omega]; exact a4
    · cases i with
      | zero =>
        simp at hi; subst hi
        simp only [Nat.add_zero, Nat.le_refl, if_true]
        rw [if_neg (by omega), if_neg (by omega), a1, a2]; exact h1
      | succ i =>
        have := a5 i o' (by simpa using hi)
        have e1 : ¬ k + (i + 1) ≤ k := by omega
        have e2 : ¬ k + (i + 1) + 1 ≤ k := by omega
        simp only [e1, e2, if_false]
        rw [show k + (i + 1) = k + 1 + i by omega]
        exact this

/-! ### A frame of which some operations are done -/
def dstAt (ops : Array Oper) (i : Nat) : Option Tmp := (ops[i]?).bind (·.dst)
def envS (ops : Array Oper) (vs : Nat → Value) (e : Env) (S : Nat → Bool) : Nat → Env
  | 0 => e
  | i + 1 => if S i = true then Ab.put (envS ops vs e S i) (dstAt ops i) (vs i) else envS ops vs e S i

theorem put_ne {e : Env} {d : Option Tmp} {v : Value} {t : Tmp} (h : d ≠ some t) : Ab.put e d v t = e t := by
  cases d with
  | none => rfl
  | some d => simp only [Ab.put]; rw [if_neg (fun e => h (by rw [e]))]
theorem put_eq {e : Env} {v : Value} {t : Tmp} : Ab.put e (some t) v t = v := by simp [Ab.put]
theorem put_comm' {e : Env} {d d' : Option Tmp} {v v' : Value} (h : ∀ t, d = some t → d' ≠ some t) : Ab.put (Ab.put e d v) d' v' = Ab.put (Ab.put e d' v') d v := by
  funext t
  by_cases h1 : d = some t
  · rw [put_ne (h t h1), h1, put_eq, put_eq]
  · by_cases h2 : d' = some t
    · rw [put_ne (d := d) h1, h2, put_eq, put_eq]
    · rw [put_ne h2, put_ne h1, put_ne h1, put_ne h2]

variable {ops : Array Oper} {vs : Nat → Value} {es : Nat → Env} {S : Nat → Bool}
theorem envS_low (hes : ∀ i o, ops[i]? = some o → es (i + 1) = Ab.put (es i) o.dst (vs i)) {t : Tmp} : ∀ m, m ≤ ops.size → (∀ i, i < m → dstAt ops i = some t → S i = true) → envS ops vs (es 0) S m t = es m t := by
  intro m
  induction m with
  | zero => intro _ _; rfl
  | succ m ih =>
    intro hm h
    have hi := ih (by omega) fun i hi => h i (by omega)
    have ho : ops[m]? = some ops[m] := Array.getElem?_eq_getElem (by omega)
    rw [hes m _ ho]
    have hd : dstAt ops m = ops[m].dst := by simp [dstAt, ho]
    simp only [envS]
    by_cases ht : ops[m].dst = some t
    · rw [if_pos (h m (by omega) (hd.trans ht)), hd, ht, put_eq, put_eq]
    · split
      · rw [hd, put_ne ht, put_ne ht]; exact hi
      · rw [put_ne ht]; exact hi
theorem envS_high {e : Env} {t : Tmp} {k : Nat} : ∀ m, k ≤ m → (∀ i, k ≤ i → i < m → dstAt ops i = some t → S i = false) → envS ops vs e S m t = envS ops vs e S k t := by
  intro m
  induction m with
  | zero => intro hk _; rw [show k = 0 by omega]
  | succ m ih =>
    intro hk h
    by_cases hkm : k = m + 1
    · rw [hkm]
    · have hi := ih (by omega) fun i h1 h2 => h i h1 (by omega)
      simp only [envS]
      split
      · rename_i hs
        rw [put_ne (fun hd => by rw [h m (by omega) (by omega) hd] at hs; cases hs)]; exact hi
      · exact hi
theorem envS_upd {e : Env} {S' : Nat → Bool} {k : Nat} (hk : S k = false) (hS : ∀ i, i ≠ k → S' i = S i) (hk' : S' k = true) (hd : ∀ i t, k < i → dstAt ops k = some t → dstAt ops i = some t → S i = false) : ∀ m, k < m → envS ops vs e S' m = Ab.put (envS ops vs e S m) (dstAt ops k) (vs k) := by
  have low : ∀ m, m ≤ k → envS ops vs e S' m = envS ops vs e S m := by
    intro m
    induction m with
    | zero => intro _; rfl
    | succ m ih => intro hm; simp only [envS, hS m (by omega), ih (by omega)]
  intro m
  induction m with
  | zero => intro h; omega
  | succ m ih =>
    intro hm
    by_cases hkm : m = k
    · subst hkm
      simp only [envS, hk', if_true, hk, Bool.false_eq_true, if_false, low m (Nat.le_refl _)]
    · have hi := ih (by omega)
      simp only [envS, hS m hkm]
      split
      · rename_i hs
        rw [hi]
        exact put_comm' fun t h1 h2 => by rw [hd m t (by omega) h1 h2] at hs; cases hs
      · exact hi

/-! ### What must be done ahead -/
def Pre (ops : Array Oper) (S : Nat → Bool) (j : Nat) : Prop := ∀ o, ops[j]? = some o → ∀ e ∈ o.after, Region.binds .any e = true → S e.on = true
theorem reach_S (hcl : ∀ j, S j = true → Pre ops S j) {i : Nat} : ∀ m j, Pre ops S j → reachB ops m j i = true → S i = true := by
  intro m
  induction m with
  | zero => intro j _ h; cases h
  | succ m ih =>
    intro j hj h
    simp only [reachB] at h
    cases ho : ops[j]? with
    | none => rw [ho] at h; simp at h
    | some o =>
      rw [ho] at h
      simp only [Option.map_some, Option.getD_some, List.any_eq_true, Bool.and_eq_true, Bool.or_eq_true, beq_iff_eq] at h
      obtain ⟨e, he, hb, h⟩ := h
      have hs := hj o ho e (by simpa using he) hb
      rcases h with h | h
      · rw [← h]; exact hs
      · exact ih e.on (hcl _ hs) h
def loudK (lite : Nat → Bool) (k : Nat) (o : Oper) : Bool := loudO o && !(lite k && isLoad o.op)
theorem draw_pair {eff lite : Nat → Bool} (h : drawOk ops eff lite = true) {i j : Nat} {a b : Oper} (hi : ops[i]? = some a) (hj : ops[j]? = some b) (hij : i < j) :
    (a.apart ops b = true ∨ reachB ops (ops.size + 1) j i = true) ∧ (loudK lite i a = true → loudK lite j b = true → (eff i = true ∨ eff j = true) → reachB ops (ops.size + 1) j i = true) := by
  simp only [drawOk, List.all_eq_true, List.mem_range] at h
  have hlt : j < ops.size := (Array.getElem?_eq_some_iff.1 hj).1
  have := h j hlt i hij
  rw [hi, hj] at this
  simp only [Bool.and_eq_true, Bool.or_eq_true] at this
  refine ⟨this.1, fun h1 h2 h3 => ?_⟩
  rcases this.2 with h | h
  · exfalso
    simp only [loudK, Bool.and_eq_true] at h1 h2
    rw [h1.1, h2.1, h1.2, h2.2] at h
    rcases h3 with h3 | h3 <;> rw [h3] at h <;> simp at h
  · exact h

def clip (lo hi j : Nat) : Nat := min (max j lo) hi
theorem next_wild (p : Nat → Prop) [DecidablePred p] (n : Nat) : ∀ d lo, lo + d = n → ∃ hi, lo ≤ hi ∧ hi ≤ n ∧ (∀ i, lo ≤ i → i < hi → ¬ p i) ∧ (hi = n ∨ p hi) := by
  intro d
  induction d with
  | zero => intro lo h; exact ⟨lo, Nat.le_refl _, by omega, fun i a b => by omega, .inl (by omega)⟩
  | succ d ih =>
    intro lo h
    by_cases hp : p lo
    · exact ⟨lo, Nat.le_refl _, by omega, fun i a b => by omega, .inr hp⟩
    · obtain ⟨hi, a, b, c, e⟩ := ih (lo + 1) (by omega)
      refine ⟨hi, by omega, b, fun i h1 h2 => ?_, e⟩
      by_cases hl : i = lo
      · rw [hl]; exact hp
      · exact c i (by omega) h2

/-! ### The frame and the heap while a region is under way -/
structure DI (w0 : World) (ops : Array Oper) (eff lite : Nat → Bool) (es : Nat → Env) (ss : Nat → St) (vs : Nat → Value) (M0 : Mp) (wi : World) (N : Nat) (dfr : List Deferred)
    (lo hi : Nat) (Mf : Mp) (S : Nat → Bool) (w : World) (a : Act) : Prop where
  lohi : lo ≤ hi
  hin : hi ≤ ops.size
  loud_lo : ∀ i o, ops[i]? = some o → loudK lite i o = true → i < lo → S i = true
  loud_hi : ∀ i o, ops[i]? = some o → loudK lite i o = true → hi ≤ i → S i = false
  mild : ∀ i j, lo ≤ i → i ≤ j → j ≤ hi → Mild (ss i) (ss j)
  top : hi = ops.size ∨ (eff hi = true ∧ ∃ o, ops[hi]? = some o ∧ loudK lite hi o = true)
  sm : ∀ j, lo ≤ j → j ≤ hi → Sm w0 (Mf.cut (ss j).next) (ss j) w
  dom : ∀ b x, Mf.blk b = some x → b < (ss hi).next
  free : ∀ i, lo ≤ i → i < hi → S i = false → ∀ b, (ss i).next ≤ b → b < (ss (i + 1)).next → Mf.blk b = none
  env : ∀ t, t < N → ∀ j, (∀ i, S i = true → dstAt ops i = some t → i < j) → VR (Mf.cut (ss (clip lo hi j)).next) (envS ops vs (es 0) S ops.size t) (a.tmps.getD t undef)
  gr : Gr M0 (ss 0) wi Mf (ss hi) w
  base : (ss 0).next ≤ (ss lo).next
  size : a.tmps.size = N
  defers : a.defers = dfr

theorem act_get (a : Act) (d : Option Tmp) (v : Value) (t : Tmp) (h : d ≠ some t) : (a.put d v).tmps.getD t undef = a.tmps.getD t undef := by
  cases d with
  | none => rfl
  | some d =>
    have : d ≠ t := fun e => h (by rw [e])
    simp only [Act.put, Array.getD_eq_getD_getElem?, Array.getElem?_setIfInBounds_ne this]
theorem act_get_eq (a : Act) (v : Value) (t : Tmp) (h : t < a.tmps.size) : (a.put (some t) v).tmps.getD t undef = v := by
  simp [Act.put, h]
theorem ev_VR1 {M : Mp} {s : St} {w : World} (h : Sm w0 M s w) (hG : G ≤ w0.heap.size) {e : Env} {a : Act} {x : Operand} (he : ∀ t, x = .tmp t → VR M (e t) (a.tmps.getD t undef)) {N : Nat} (hx : opdOk G N x = true) : VR M (ev e x) (a.eval x) := by
  cases x with
  | tmp t => exact he t rfl
  | const v => exact const_VR h hx
  | global g =>
    have : g < G := by simpa [opdOk] using hx
    exact .ptr ⟨g, 0, (h.old g (by omega)).1, rfl⟩
  | func f => exact .func (.other (by simp)) rfl (fun i v v' a => by simp at a) rfl (fun i v v' a => by simp at a)
theorem guard_sim1 {M : Mp} {all : Array Oper} {e : Env} {a : Act} {j : Nat} {b : Option Bool} (he : ∀ t, dstAt all j = some t → t < a.tmps.size ∧ VR M (e t) (a.tmps.getD t undef)) (h : guardV all e j = some b) : yielded all a.tmps j = b := by
  unfold guardV at h
  unfold yielded
  cases hj : (all[j]?).bind (·.dst) with
  | none => rw [hj] at h; cases h
  | some t =>
    rw [hj] at h
    simp only at h
    obtain ⟨ht, hr⟩ := he t hj
    have hget : a.tmps[t]? = some (a.tmps.getD t undef) := by simp [ht]
    simp only [Option.bind_some, hget]
    cases hv : e t with
    | bool c =>
      rw [hv] at h hr
      cases h
      cases hx : a.tmps.getD t undef <;> rw [hx] at hr <;> cases hr
      rfl
    | _ => rw [hv] at h hr; cases h; cases hx : a.tmps.getD t undef <;> rw [hx] at hr <;> first | rfl | cases hr
theorem looks_opd {o : Oper} {t : Tmp} (h : .tmp t ∈ o.op.operands) : t ∈ o.looksAt ops := by
  simp only [Oper.looksAt, List.mem_append, List.mem_filterMap]
  exact .inl ⟨.tmp t, by simpa using h, rfl⟩
theorem looks_guard {o : Oper} {j : Nat} {g : Bool} {t : Tmp} (h : o.guard = some (j, g)) (ht : dstAt ops j = some t) : t ∈ o.looksAt ops := by
  simp only [Oper.looksAt, List.mem_append, h]
  right
  unfold dstAt at ht
  rw [ht]; simp

variable {eff lite kp : Nat → Bool} {ss : Nat → St} {M0 : Mp} {wi : World} {N : Nat} {dfr : List Deferred} {lo hi : Nat} {Mf : Mp} {w : World} {a : Act}

theorem calm_step {D : Drw} {i : Nat} {o : Oper} {e : Env} {s s1 : St} {v : Value} (hs : (∃ j g b, o.guard = some (j, g) ∧ guardV ops e j = some b ∧ b ≠ some g ∧ v = undef ∧ s1 = s) ∨
   ((∀ j g, o.guard = some (j, g) → guardV ops e j = some (some g)) ∧ OpGood P w0 o e s v s1 ∧ Dok (some D) i s s1 ∧ (loudO o = false → s1 = s ∧ ∀ s2, OpGood P w0 o e s2 v s2) ∧ LiteOk P w0 (some D) i o e s v s1))
    (hn : ¬ (D.eff i = true ∧ loudK D.lite i o = true)) : Mild s s1 := by
  rcases hs with ⟨_, _, _, _, _, _, _, h5⟩ | ⟨_, _, h3, h4, h5⟩
  · rw [h5]; exact .refl _
  · cases hl : loudO o with
    | false => rw [(h4 hl).1]; exact .refl _
    | true =>
      rcases h3 with h3 | h3
      · exact h3
      · cases hli : (D.lite i && isLoad o.op) with
        | true =>
          simp only [Bool.and_eq_true] at hli
          rw [(h5 hli.1 hli.2).1]; exact .refl _
        | false => exact absurd ⟨h3.1, by simp [loudK, hl, hli]⟩ hn
theorem keep_all (hst : ∀ i o, ops[i]? = some o → StepAt P w0 ops (some ⟨eff, lite, kp, (ss 0).next⟩) i o (es i) (ss i) (vs i) (es (i + 1)) (ss (i + 1))) :
    ∀ m, m ≤ ops.size → (ss 0).next ≤ (ss m).next ∧ ∀ b, kp b = true → b < (ss 0).next → (ss m).heap b = (ss 0).heap b := by
  intro m
  induction m with
  | zero => intro _; exact ⟨Nat.le_refl _, fun _ _ _ => rfl⟩
  | succ m ih =>
    intro hm
    obtain ⟨i1, i2⟩ := ih (by omega)
    obtain ⟨_, hs⟩ := hst m _ (Array.getElem?_eq_getElem (by omega))
    rcases hs with ⟨_, _, _, _, _, _, _, h5⟩ | ⟨_, _, h3, _, _⟩
    · rw [h5]; exact ⟨i1, i2⟩
    · rcases h3 with h3 | ⟨_, h3, h4⟩
      · exact ⟨Nat.le_trans i1 h3.next, fun b hb hlt => (h3.heap b (by omega)).trans (i2 b hb hlt)⟩
      · exact ⟨Nat.le_trans i1 h3, fun b hb hlt => (h4 b hb hlt).trans (i2 b hb hlt)⟩
theorem DI.step {F : Fence} {n : Nat} {Q : Exit → Act → World → Prop} (hF : Fwide F) (hG : G ≤ w0.heap.size) (hok : ∀ o ∈ ops.toList, operOk G N o = true) (hdraw : drawOk ops eff lite = true)
    (hst : ∀ i o, ops[i]? = some o → StepAt P w0 ops (some ⟨eff, lite, kp, (ss 0).next⟩) i o (es i) (ss i) (vs i) (es (i + 1)) (ss (i + 1)))
    (hcl : ∀ j, S j = true → Pre ops S j) (hI : DI w0 ops eff lite es ss vs M0 wi N dfr lo hi Mf S w a) {k : Nat} (hk : S k = false) (hpre : Pre ops S k) {o : Oper} (ho : ops[k]? = some o)
    {S' : Nat → Bool} (hS' : ∀ i, i ≠ k → S' i = S i) (hSk : S' k = true) {K : Act → World → Prop} (hK : ∀ a' w' lo' hi' Mf', DI w0 ops eff lite es ss vs M0 wi N dfr lo' hi' Mf' S' w' a' → K a' w') :
    wpOpIn F n P ops Q k K a w := by
  have hkn : k < ops.size := (Array.getElem?_eq_some_iff.1 ho).1
  have hmem : o ∈ ops.toList := by have := Array.mem_of_getElem? ho; simpa using this
  obtain ⟨hdst, hopd⟩ := oper_ok (hok o hmem)
  have hes : ∀ i o, ops[i]? = some o → es (i + 1) = Ab.put (es i) o.dst (vs i) := fun i o h => (hst i o h).1
  have hapart : ∀ i, i ≠ k → ∀ o', ops[i]? = some o' → ((o'.apart ops o = false) → i < k → S i = true) ∧ ((o.apart ops o' = false) → k < i → S i = false) := fun i hne o' ho' => by
    refine ⟨fun h1 h2 => ?_, fun h1 h2 => ?_⟩
    · rcases (draw_pair hdraw ho' ho h2).1 with h | h
      · rw [h1] at h; cases h
      · exact reach_S hcl _ k hpre h
    · rcases (draw_pair hdraw ho ho' h2).1 with h | h
      · rw [h1] at h; cases h
      · cases hs : S i with
        | false => rfl
        | true => rw [reach_S hcl _ i (hcl i hs) h] at hk; cases hk
  -- what it reads was written by those ahead of it
  have hreads : ∀ t, t ∈ o.looksAt ops → envS ops vs (es 0) S ops.size t = es k t ∧ ∀ i, S i = true → dstAt ops i = some t → i < k := fun t ht => by
    have hlow : ∀ i, i < k → dstAt ops i = some t → S i = true := fun i hi hd => by
      obtain ⟨o', ho', hd'⟩ := Option.bind_eq_some_iff.1 hd
      refine (hapart i (by omega) o' ho').1 ?_ hi
      cases hap : o'.apart ops o with
      | false => rfl
      | true => exact absurd ht ((Oper.apart_spec hap).1 t hd')
    have hhigh : ∀ i, k ≤ i → dstAt ops i = some t → S i = false := fun i hi hd => by
      by_cases hik : i = k
      · rw [hik]; exact hk
      · obtain ⟨o', ho', hd'⟩ := Option.bind_eq_some_iff.1 hd
        refine (hapart i hik o' ho').2 ?_ (by omega)
        cases hap : o.apart ops o' with
        | false => rfl
        | true => exact absurd ht ((Oper.apart_spec hap).2.2 t hd')
    refine ⟨?_, fun i hs hd => ?_⟩
    · rw [envS_high ops.size (by omega : k ≤ ops.size) fun i h1 _ => hhigh i h1]
      exact envS_low hes k (by omega) hlow
    · rcases Nat.lt_or_ge i k with h | h
      · exact h
      · rw [hhigh i h hd] at hs; cases hs
  have hdd : ∀ i t, k < i → dstAt ops k = some t → dstAt ops i = some t → S i = false := fun i t h1 h2 h3 => by
    obtain ⟨o', ho', hd'⟩ := Option.bind_eq_some_iff.1 h3
    refine (hapart i (by omega) o' ho').2 ?_ h1
    cases hap : o.apart ops o' with
    | false => rfl
    | true =>
      have hdk : o.dst = some t := by simpa [dstAt, ho] using h2
      exact absurd hd' ((Oper.apart_spec hap).2.1 t hdk)
  have hdk : dstAt ops k = o.dst := by simp [dstAt, ho]
  have henvS : ∀ t, envS ops vs (es 0) S' ops.size t = Ab.put (envS ops vs (es 0) S ops.size) o.dst (vs k) t := fun t => by
    rw [envS_upd hk hS' hSk hdd ops.size hkn, hdk]
  have hSS : ∀ i, S i = true → S' i = true := fun i hs => by
    by_cases hik : i = k
    · rw [hik]; exact hSk
    · rw [hS' i hik]; exact hs
  -- the operation itself
  have exec : ∀ p s1, p = clip lo hi k → ((∃ j g b, o.guard = some (j, g) ∧ guardV ops (es k) j = some b ∧ b ≠ some g ∧ vs k = undef ∧ s1 = ss p) ∨ ((∀ j g, o.guard = some (j, g) → guardV ops (es k) j = some (some g)) ∧ OpGood P w0 o (es k) (ss p) (vs k) s1)) →
      (∀ v' w' M', Gr (Mf.cut (ss p).next) (ss p) w M' s1 w' → Sm w0 M' s1 w' → VR M' (vs k) v' → K (a.put o.dst v') w') → wpOpIn F n P ops Q k K a w := fun p s1 hp hs hn => by
    have hpl : lo ≤ p ∧ p ≤ hi := by rw [hp]; unfold clip; have := hI.lohi; omega
    have hSm := hI.sm p hpl.1 hpl.2
    have hread : ∀ t, t ∈ o.looksAt ops → t < N → VR (Mf.cut (ss p).next) (es k t) (a.tmps.getD t undef) := fun t ht hN => by
      obtain ⟨h1, h2⟩ := hreads t ht
      have := hI.env t hN k h2
      rw [h1, ← hp] at this; exact this
    have hgd : ∀ j b, (∃ g, o.guard = some (j, g)) → guardV ops (es k) j = some b → yielded ops a.tmps j = b := fun j b ⟨g, hg⟩ h => by
      refine guard_sim1 (M := Mf.cut (ss p).next) (fun t ht => ?_) h
      obtain ⟨o', ho', hd'⟩ := Option.bind_eq_some_iff.1 ht
      have htN : t < N := (oper_ok (hok o' (by have := Array.mem_of_getElem? ho'; simpa using this))).1 t hd'
      exact ⟨by rw [hI.size]; exact htN, hread t (looks_guard hg ht) htN⟩
    rw [wpOpIn, ho]
    simp only
    rcases hs with ⟨j, g, b, h1, h2, h3, h4, h5⟩ | ⟨h1, hop⟩
    · rw [if_neg (by simp only [Region.wanted, h1, hgd j b ⟨g, h1⟩ h2]; simp [h3])]
      subst h5
      exact ⟨fun f _ => hF.1 f, hn undef w _ (.refl _ _ _) hSm (by rw [h4]; exact VR_undef _)⟩
    · rw [if_pos (by
        unfold Region.wanted
        cases hg : o.guard with
        | none => rfl
        | some jg =>
          obtain ⟨j, g⟩ := jg
          simp only [hgd j g ⟨g, hg⟩ (h1 j g hg), beq_self_eq_true])]
      refine hop _ w a F n hF hSm (fun x hx => ?_) _ _ hn
      refine ev_VR1 hSm hG (fun t hxt => ?_) (hopd x hx)
      subst hxt
      have htN : t < N := by have := hopd _ hx; simpa [opdOk] using this
      exact hread t (looks_opd hx) htN
  obtain ⟨_, hstep⟩ := hst k o ho
  -- steps that stay within what is under way
  have calm : ∀ p p', p = clip lo hi k → lo ≤ p → p ≤ p' → p' ≤ hi → p' ≤ p + 1 → (p' ≠ p → k = p) → (p' = p → loudK lite k o = false) →
      ((∃ j g b, o.guard = some (j, g) ∧ guardV ops (es k) j = some b ∧ b ≠ some g ∧ vs k = undef ∧ ss p' = ss p) ∨ ((∀ j g, o.guard = some (j, g) → guardV ops (es k) j = some (some g)) ∧ OpGood P w0 o (es k) (ss p) (vs k) (ss p'))) →
      wpOpIn F n P ops Q k K a w := fun p p' hp h1 h2 h3 h4 h5 hq hs => by
    refine exec p (ss p') hp hs fun v' w' M' q1 q2 q3 => ?_
    have hfree : ∀ b, (ss p).next ≤ b → b < (ss p').next → Mf.blk b = none := fun b b1 b2 => by
      by_cases hpp : p' = p
      · rw [hpp] at b2; omega
      · have hkp := h5 hpp
        rw [show p' = p + 1 by omega] at b2
        exact hI.free p h1 (by omega) (hkp ▸ hk) b b1 b2
    obtain ⟨Mf', r1, r2, r3, r4, r5⟩ := absorb hI.sm hI.mild h1 h2 h3 h4 hfree hI.dom q1 q2 hI.gr (Nat.le_trans hI.base (hI.mild lo p (Nat.le_refl _) h1 (by omega)).next)
    refine hK _ w' lo hi Mf' ⟨hI.lohi, hI.hin, fun i o' ho' hl hi' => hSS i (hI.loud_lo i o' ho' hl hi'), fun i o' ho' hl hi' => ?_, hI.mild, hI.top, r3, fun b x hb => ?_, fun i i1 i2 i3 b b1 b2 => ?_, fun t ht j hj => ?_, r4, hI.base, by rw [act_size]; exact hI.size, by rw [act_defers]; exact hI.defers⟩
    · by_cases hik : i = k
      · subst hik
        rw [ho] at ho'; cases ho'
        by_cases hpp : p' = p
        · rw [hq hpp] at hl; cases hl
        · have := h5 hpp; omega
      · rw [hS' i hik]; exact hI.loud_hi i o' ho' hl hi'
    · rcases r5 b x hb with h | ⟨_, h⟩
      · exact hI.dom b x h
      · exact Nat.lt_of_lt_of_le h (hI.mild p' hi (by omega) h3 (Nat.le_refl _)).next
    · have hik : i ≠ k := fun e => by rw [e, hSk] at i3; cases i3
      rw [hS' i hik] at i3
      cases hb : Mf'.blk b with
      | none => rfl
      | some x =>
        rcases r5 b x hb with h | ⟨g1, g2⟩
        · rw [hI.free i i1 i2 i3 b b1 b2] at h; cases h
        · exfalso
          by_cases hpp : p' = p
          · rw [hpp] at g2; omega
          · have hkp := h5 hpp
            rcases Nat.lt_or_ge i p with e | e
            · have := (hI.mild (i + 1) p (by omega) (by omega) (by omega)).next; omega
            · have := (hI.mild p' i (by omega) (by omega) (by omega)).next; omega
    · rw [henvS t]
      by_cases hdt : o.dst = some t
      · rw [hdt, put_eq, act_get_eq a v' t (by rw [hI.size]; exact ht)]
        have hkj : k < j := hj k hSk (hdk.trans hdt)
        have hpj : p' ≤ clip lo hi j := by
          by_cases hpp : p' = p
          · rw [hpp, hp]; unfold clip; omega
          · have := h5 hpp; unfold clip; omega
        exact q3.mono (r2.trans (Mp.cut_le (hI.mild p' _ (by omega) hpj (by unfold clip; omega)).next))
      · rw [put_ne hdt, act_get a o.dst v' t hdt]
        exact (hI.env t ht j fun i hs hd => hj i (hSS i hs) hd).mono (r1 _ (by unfold clip; have := hI.lohi; omega) (by unfold clip; omega))
  by_cases hkl : lo ≤ k ∧ k < hi
  · -- within
    have hp : k = clip lo hi k := by unfold clip; omega
    refine calm k (k + 1) hp hkl.1 (by omega) (by omega) (Nat.le_refl _) (fun _ => rfl) (fun h => by omega) ?_
    rcases hstep with ⟨j, g, b, h1, h2, h3, h4, h5⟩ | ⟨h1, hop, _, _, _⟩
    · exact .inl ⟨j, g, b, h1, h2, h3, h4, h5⟩
    · exact .inr ⟨h1, hop⟩
  · by_cases hkh : k = hi
    · -- the one that changes what was there
      subst hkh
      obtain ⟨heff, hloud⟩ : eff k = true ∧ loudK lite k o = true := by
        rcases hI.top with h | ⟨h1, o', h2, h3⟩
        · omega
        · rw [ho] at h2; cases h2; exact ⟨h1, h3⟩
      have hp : k = clip lo k k := by unfold clip; have := hI.lohi; omega
      have hcut : Mf.cut (ss k).next = Mf := Mp.cut_all hI.dom
      refine exec k (ss (k + 1)) hp (by
        rcases hstep with ⟨j, g, b, h1, h2, h3, h4, h5⟩ | ⟨h1, hop, _, _, _⟩
        · exact .inl ⟨j, g, b, h1, h2, h3, h4, h5⟩
        · exact .inr ⟨h1, hop⟩) fun v' w' M' q1 q2 q3 => ?_
      rw [hcut] at q1
      obtain ⟨hi', n1, n2, n3, n4⟩ := next_wild (fun i => eff i = true ∧ ∃ o, ops[i]? = some o ∧ loudK lite i o = true) ops.size (ops.size - (k + 1)) (k + 1) (by omega)
      have hmild1 : ∀ i, k + 1 ≤ i → i < hi' → Mild (ss i) (ss (i + 1)) := fun i i1 i2 => by
        have hoi : ops[i]? = some ops[i] := Array.getElem?_eq_getElem (by omega)
        obtain ⟨_, hs⟩ := hst i _ hoi
        exact calm_step hs fun h => n3 i i1 i2 ⟨h.1, _, hoi, h.2⟩
      have hmild : ∀ i j, k + 1 ≤ i → i ≤ j → j ≤ hi' → Mild (ss i) (ss j) := fun i j i1 => by
        induction j with
        | zero => intro h1 h2; omega
        | succ j ih =>
          intro h1 h2
          by_cases hij : i = j + 1
          · rw [hij]; exact .refl _
          · exact (ih (by omega) (by omega)).trans (hmild1 j (by omega) (by omega))
      have hMlt : ∀ b x, M'.blk b = some x → b < (ss (k + 1)).next := fun b x hb => q2.blk_lt hb
      have hcut' : ∀ j, k + 1 ≤ j → j ≤ hi' → M'.cut (ss j).next = M' := fun j j1 j2 => Mp.cut_all fun b x hb => Nat.lt_of_lt_of_le (hMlt b x hb) (hmild (k + 1) j (Nat.le_refl _) j1 j2).next
      refine hK _ w' (k + 1) hi' M' ⟨n1, n2, fun i o' ho' hl hi1 => ?_, fun i o' ho' hl hi1 => ?_, hmild, n4, fun j j1 j2 => ?_, fun b x hb => ?_, fun i i1 i2 i3 b b1 b2 => ?_, fun t ht j hj => ?_, ?_, ?_, by rw [act_size]; exact hI.size, by rw [act_defers]; exact hI.defers⟩
      · by_cases hik : i = k
        · rw [hik]; exact hSk
        · rw [hS' i hik]
          exact reach_S hcl _ k hpre ((draw_pair hdraw ho' ho (by omega)).2 hl hloud (.inr heff))
      · rw [hS' i (by omega)]
        cases hs : S i with
        | false => rfl
        | true =>
          rw [reach_S hcl _ i (hcl i hs) ((draw_pair hdraw ho ho' (by omega)).2 hloud hl (.inl heff))] at hk; cases hk
      · rw [hcut' j j1 j2]; exact q2.mild (hmild (k + 1) j (Nat.le_refl _) j1 j2)
      · exact Nat.lt_of_lt_of_le (hMlt b x hb) (hmild (k + 1) hi' (Nat.le_refl _) n1 (Nat.le_refl _)).next
      · cases hb : M'.blk b with
        | none => rfl
        | some x =>
          have := hMlt b x hb
          have := (hmild (k + 1) i (Nat.le_refl _) i1 (by omega)).next
          omega
      · have hc := hcut' (clip (k + 1) hi' j) (by unfold clip; omega) (by unfold clip; omega)
        rw [hc, henvS t]
        by_cases hdt : o.dst = some t
        · rw [hdt, put_eq, act_get_eq a v' t (by rw [hI.size]; exact ht)]
          exact q3
        · rw [put_ne hdt, act_get a o.dst v' t hdt]
          have := hI.env t ht j fun i hs hd => hj i (hSS i hs) hd
          have hle : Mle (Mf.cut (ss (clip lo k j)).next) Mf := ⟨fun b x hb => (Mp.cut_some.1 hb).2, fun _ _ _ => rfl, fun _ _ _ => rfl⟩
          exact this.mono (hle.trans q1.le)
      · exact (hI.gr.trans q1).mild q2 (hmild (k + 1) hi' (Nat.le_refl _) n1 (Nat.le_refl _))
      · exact (hI.gr.trans q1).nxt
    · -- one that asks for no heap
      have hquiet : loudK lite k o = false := by
        cases hl : loudK lite k o with
        | false => rfl
        | true =>
          rcases Nat.lt_or_ge k lo with h | h
          · rw [hI.loud_lo k o ho hl h] at hk; cases hk
          · rcases hI.top with h' | ⟨h1, o', h2, h3⟩
            · omega
            · have := reach_S hcl _ k hpre ((draw_pair hdraw h2 ho (by omega)).2 h3 hl (.inl h1))
              rw [hI.loud_hi hi o' h2 h3 (Nat.le_refl _)] at this; cases this
      have hlh := hI.lohi
      refine calm (clip lo hi k) (clip lo hi k) rfl (by unfold clip; omega) (Nat.le_refl _) (by unfold clip; omega) (by omega) (fun h => absurd rfl h) (fun _ => hquiet) ?_
      rcases hstep with ⟨j, g, b, h1, h2, h3, h4, h5⟩ | ⟨h1, _, _, h4, h5⟩
      · exact .inl ⟨j, g, b, h1, h2, h3, h4, rfl⟩
      · refine .inr ⟨h1, ?_⟩
        cases hlo : loudO o with
        | false => exact (h4 hlo).2 _
        | true =>
          simp only [loudK, hlo, Bool.true_and, Bool.not_eq_false', Bool.and_eq_true] at hquiet
          obtain ⟨_, b, hb, hb0, hg⟩ := h5 hquiet.1 hquiet.2
          have hhi := hI.hin
          exact hg _ (((keep_all hst (clip lo hi k) (by unfold clip; omega)).2 b hb hb0).trans ((keep_all hst k (by omega)).2 b hb hb0).symm)
end
end Go.Ab
