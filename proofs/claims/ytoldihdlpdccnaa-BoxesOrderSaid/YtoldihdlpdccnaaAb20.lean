/- The simulation: what runs in the abstract machine runs in the model. -/
import Derived.Test.YtoldihdlpdccnaaAb19
set_option linter.unusedVariables false
set_option linter.unusedSimpArgs false
namespace Go.Ab
open Go Go.RowKit

section
variable {P : Program} {w0 : World}

def Good (P : Program) (w0 : World) : Jdg → Prop
  | .code c e s x e' s' => (x = .normal ∨ x = .ret ∨ ∃ i, x = .exit i) ∧ CodeGood P w0 w0.heap.size c e s x e' s' ∧ (∀ b, c = .loop b → LoopGood P w0 w0.heap.size b e s x e' s')
  | .ops all D k l e s e' s' => Tr P w0 all D k l e s e' s'
  | .call f args s v s' => CallGood P w0 f args s v s'
  | .func fn args s v s' => FnGood P w0 fn args s v s'

theorem PostC.from {M M1 : Mp} {s s1 s' : St} {w w1 w' : World} {N lb : Nat} {x X : Exit} {e' : Env} {a : Act} (hg : Gr M s w M1 s1 w1) (h : PostC w0 M1 s1 w1 N lb x e' s' X a w') : PostC w0 M s w N lb x e' s' X a w' :=
  ⟨h.1, let ⟨M', g, rest⟩ := h.2; ⟨M', hg.trans g, rest⟩⟩
theorem rounds_mono {F : Fence} {n : Nat} {c : Code} {Q Q' : Exit → Act → World → Prop} (hq : ∀ X a w, Q X a w → Q' X a w) : ∀ m a w, Code.roundsIn F n P c Q m a w → Code.roundsIn F n P c Q' m a w := by
  intro m
  induction m with
  | zero => intro a w h; exact h
  | succ m ih =>
    intro a w h
    refine wpIn_mono h fun X a w hX => ?_
    cases X <;> first | exact ih _ _ hX | exact hq _ _ _ hX
theorem then_of {next : Act → World → Prop} {Q : Exit → Act → World → Prop} {X : Exit} {a : Act} {w : World} (hx : X ≠ .normal) (h : Q X a w) : Exit.then next Q X a w := by
  cases X <;> first | exact absurd rfl hx | exact h

theorem Marks.old {lb : Nat} {M : Mp} {w : World} : ∀ {ds : List Deferred}, Marks lb M w ds → ∀ D, ({ target := .collected D, args := #[] } : Deferred) ∈ ds → D < w.heap.size
  | [], _, D, h => by cases h
  | d :: ds, ⟨⟨D0, h1, h2, h3, h4, h5⟩, hr⟩, D, h => by
    rcases List.mem_cons.1 h with h | h
    · rw [h1] at h; cases h; exact (Array.getElem?_eq_some_iff.1 h3).1
    · exact Marks.old hr D h
theorem Marks.put {lb : Nat} {M : Mp} {w : World} {D : Nat} {O : Obj} : ∀ {ds : List Deferred}, Marks lb M w ds → (∀ D', ({ target := .collected D', args := #[] } : Deferred) ∈ ds → D' ≠ D) → Marks lb M (w.putObj D O) ds
  | [], _, _ => trivial
  | d :: ds, ⟨⟨D0, h1, h2, h3, h4, h5⟩, hr⟩, hn =>
    ⟨⟨D0, h1, h2, by rw [World.putObj_heap_other (hn D0 (by rw [h1]; simp))]; exact h3, h4, h5⟩, Marks.put hr fun D' h => hn D' (by simp [h])⟩

theorem leaves_sim {F : Fence} {n : Nat} {fn : Func} {tmps : Array Value} {R : Ending → World → Prop} {M0 M : Mp} {s0 s : St} {wi : World} (hb : w0.heap.size ≤ wi.heap.size)
    (hres : ∀ w', Sm w0 M s w' → Gr M0 s0 wi M s w' → ∃ v, (results fn tmps).run P w' = .ok v w' ∧ R (.returned v) w') :
    ∀ (ds : List Deferred) (w : World), Marks wi.heap.size M w ds → Sm w0 M s w → Gr M0 s0 wi M s w → LeavesInM F n P fn tmps R ds .returning w := by
  intro ds
  induction ds with
  | nil => intro w _ hS hG; exact hres w hS hG
  | cons d ds ih =>
    rintro w ⟨⟨D, h1, h2, h3, h4, h5⟩, hr⟩ hS hG
    exact ⟨by simp, .inl ⟨D, _, by rw [h1], run_takeDeferred h3, ih _ (hr.put h5) (put_free hS h4 (by omega) _) (hG.put_free h2 _)⟩⟩

/-- A range over a function, up to its end. -/
theorem range_sim {f : Operand} {ps : Array Tmp} {as body : Code} {e : Env} {s s1 : St} {fn : FuncId} {args : Array Value} {v : Value} {r : LoopRec}
    (hf : ev e f = .func (.func fn) #[] args) (hcall : CallGood P w0 fn (.func (.yield s.next) #[] #[] :: args.toList) (s.alloc (.loop ⟨e, ps, as, body, .ready, none⟩)) v s1)
    (hl : s1.heap s.next = .loop r) (hst : r.state ≠ .busy) {M : Mp} {w : World} {a : Act} {F : Fence} {n lb : Nat} (hat : CodeAt w0 w0.heap.size (.rangeFunc f ps as body) e s M w a F lb) {Q : Exit → Act → World → Prop}
    (hQ : ∀ a' w' M', Gr M s w M' (s1.upd s.next .gone) w' → Sm w0 M' (s1.upd s.next .gone) w' → ER M' e a'.tmps → a'.tmps.size = a.tmps.size → Marks lb M' w' a'.defers → lb ≤ w'.heap.size → (match r.pending with | none => Q .normal a' w' | some c => c.wpIn F n P Q a' w')) :
    (Code.rangeFunc f ps as body).wpIn F n P Q a w := by
  obtain ⟨hF, hS, hE, hok, hro, hmk, hlb, hG⟩ := hat
  have hro' : F.round = none := hro.resolve_right (by simp [noRF])
  simp only [codeOk, Bool.and_eq_true, List.all_eq_true, decide_eq_true_eq] at hok
  obtain ⟨⟨⟨⟨⟨o1, o2⟩, o3⟩, o4⟩, o5⟩, o6⟩ := hok
  have hv := ev_VR hS hG hE o1
  rw [hf] at hv
  obtain ⟨ca', hev, hca⟩ : ∃ ca', a.eval f = .func (.func fn) #[] ca' ∧ LR M args.toList ca'.toList := by
    cases hx : a.eval f <;> rw [hx] at hv <;> cases hv
    rename_i fn' fi' ca' h0 s1 h1 s2 h2
    cases h0
    have : fi' = #[] := by apply Array.eq_empty_of_size_eq_zero; simpa using s1.symm
    subst this
    exact ⟨_, rfl, LR.ofArr s2 h2⟩
  refine wpIn_rangeFunc fun fid hfid => ?_
  rw [hro']
  -- the two blocks
  obtain ⟨hSa, hGa⟩ := alloc_un hS (.deferred (some []))
  have hLR : LoopR w0.heap.size (M.ext s.next ((w.alloc (.deferred (some []))).heap.size, 0) none a.tmps.size) ⟨e, ps, as, body, .ready, none⟩
      { state := .ready, pending := none, fn := fid, tmps := a.tmps, params := ps, assign := as, body := body, defers := w.heap.size } := by
    have hle := Mle.ext hSa ((w.alloc (.deferred (some []))).heap.size, 0) none a.tmps.size fun b y hb e => by have := hSa.img_lt hb; simp only at e; omega
    exact ⟨hE.mono hle, rfl, rfl, rfl, rfl, rfl, o3, o4, fun t ht => o2 t ht, o5, o6⟩
  obtain ⟨hSb, hGb⟩ := alloc_sim hSa (.loop ⟨e, ps, as, body, .ready, none⟩) (.loop { state := .ready, pending := none, fn := fid, tmps := a.tmps, params := ps, assign := as, body := body, defers := w.heap.size }) none a.tmps.size
    ⟨rfl, _, _, rfl, hLR, Nat.le_refl _, by rw [Mp.ext_sz]⟩
  have hsz1 : (w.alloc (.deferred (some []))).heap.size = w.heap.size + 1 := by simp
  rw [hsz1] at hSb hGb
  obtain ⟨M1, hM1⟩ : ∃ M1, M1 = M.ext s.next (w.heap.size + 1, 0) none a.tmps.size := ⟨_, rfl⟩
  have hb1 : M1.blk s.next = some (w.heap.size + 1, 0) := by rw [hM1]; exact Mp.ext_blk ..
  rw [← hM1] at hSb hGb
  have hGab := hGa.trans hGb
  obtain ⟨W1, hW1⟩ : ∃ W1, W1 = (w.alloc (.deferred (some []))).alloc (.loop { state := .ready, pending := none, fn := fid, tmps := a.tmps, params := ps, assign := as, body := body, defers := w.heap.size }) := ⟨_, rfl⟩
  rw [← hW1] at hSb hGb hGab
  have hargs : LR M1 (Value.func (.yield s.next) #[] #[] :: args.toList) (#[Value.func (.yield (w.heap.size + 1)) #[] #[]] ++ ca').toList := by
    simp only [Array.toList_append, List.singleton_append]
    exact .cons (.func (.yield hb1) rfl (fun i v v' a => by simp at a) rfl (fun i v v' a => by simp at a)) (hca.mono hGab.le)
  obtain ⟨⟨fd, cd, hfd, hcd, hnm⟩, hC⟩ := hcall M1 _ _ F (n - 1) hF hSb hargs
  refine ⟨w.heap.size + 1, [{ target := .collected w.heap.size, args := #[] }], W1, { target := .fn (.func fn) ca', args := #[Value.func (.yield (w.heap.size + 1)) #[] #[]] }, W1, fn,
    #[Value.func (.yield (w.heap.size + 1)) #[] #[]] ++ ca', W1, by rw [hW1]; exact run_enterLoop_outer _ _ _ _ _, ?_, fun f' _ => hF.1 f', ?_, fun h => (by rw [hF.2] at h; cases h), hC.mono ?_⟩
  · simp only [resolve, hev]
    simp [go_sem]
  · simp only [invoke, callFunc, Sem.run_bind, run_program, hfd, Result.andThen_ok, beq_iff_eq, hnm, if_false, hcd, Option.isNone_some, Bool.false_eq_true, Sem.run_pure, Sem.run_ite]
  · rintro e' w2 ⟨v', M2, rfl, g2, S2, _⟩
    have hb2 : M2.blk s.next = some (w.heap.size + 1, 0) := g2.le.blk _ _ hb1
    obtain ⟨R, G2, hR1, hR2, hR3, hR4⟩ := loop_sim S2 hb2 hS.nxt hl
    have hp := put_sim S2 hb2 hS.nxt (by rw [hl]; rfl) .gone (.loop { R with state := .exhausted }) trivial
    refine ⟨_, _, run_endLoop hR1 (by rw [hR2.state]; exact hst), ?_⟩
    have hgr : Gr M s w M2 (s1.upd s.next .gone) (w2.putObj (w.heap.size + 1) (.loop { R with state := .exhausted })) := (hGab.trans g2).trans hp.2
    have hgr1 : Gr M s (w.alloc (.deferred (some []))) M2 (s1.upd s.next .gone) (w2.putObj (w.heap.size + 1) (.loop { R with state := .exhausted })) := (hGb.trans g2).trans hp.2
    have hunM : ∀ b x, M.blk b = some x → x.1 ≠ w.heap.size := fun b x hb e => by have := hS.img_lt hb; omega
    have := hQ { a with defers := { target := .collected w.heap.size, args := #[] } :: a.defers } _ M2 hgr hp.1 (hE.mono hgr.le) rfl
      ⟨⟨w.heap.size, rfl, hlb, ?_, fun b x hx e => ?_, fun D' hD' => by have := hmk.old D' hD'; omega⟩, hmk.grow hgr⟩ (Nat.le_trans hlb hgr.size)
    · rw [← hR2.pending] at this
      exact this
    · rw [hgr1.fr w.heap.size (by rw [hsz1]; omega) fun b x hb _ => hunM b x hb]
      exact Go.heap_alloc_new w _
    · rcases hgr1.img b x hx with ⟨b', x', q1, q2⟩ | q
      · exact hunM b' x' q1 (q2.trans e)
      · rw [hsz1] at q; omega

theorem bare_val {M : Mp} {v v' : Value} (hv : bareV v = true) (h : VR M v v') : v' = v := by
  have free : ∀ {v v' : Value}, oldOk 0 v = true → VR M v v' → v' = v := fun {v v'} hv h => by
    cases h <;> first | rfl | (simp [oldOk, oldA] at hv; done)
  have elems : ∀ {p : Value → Bool} {c c' : Array Value}, (∀ v v', p v = true → VR M v v' → v' = v) → c.toList.all p = true → c.size = c'.size → (∀ (i : Nat) v v', c[i]? = some v → c'[i]? = some v' → VR M v v') → c' = c := fun {p c c'} hp hc hs h => by
    apply Array.ext (hs.symm)
    intro i h1 h2
    have e1 : c[i]? = some c[i] := Array.getElem?_eq_getElem h2
    have e2 : c'[i]? = some c'[i] := Array.getElem?_eq_getElem h1
    refine hp _ _ ?_ (h i _ _ e1 e2)
    exact List.all_eq_true.1 hc _ (by have := Array.mem_of_getElem? e1; rw [Array.mem_toList_iff]; exact this)
  have one : ∀ v v', bareV1 v = true → VR M v v' → v' = v := fun v v' hv h => by
    cases v with
    | agg c => cases h with | agg s h o => rw [elems (fun _ _ => free) hv s h]
    | _ => exact free hv h
  cases v with
  | tuple c => cases h with | tuple s h => rw [elems one hv s h]
  | _ => exact one _ _ hv h
theorem bare_list {M : Mp} : ∀ {args args' : List Value}, args.all bareV = true → LR M args args' → args = args' := by
  intro args
  induction args with
  | nil => intro args' _ h; rw [h.inv_nil]
  | cons v l ih =>
    intro args' ha h
    obtain ⟨v', r, rfl, h1, h2⟩ := h.inv_cons
    simp only [List.all_cons, Bool.and_eq_true] at ha
    rw [bare_val ha.1 h1, ih ha.2 h2]
theorem bare_LR {M : Mp} {s : St} {w : World} (h : Sm w0 M s w) : ∀ {l : List Value}, l.all bareV = true → LR M l l := by
  intro l
  induction l with
  | nil => intro _; exact .nil M
  | cons v l ih =>
    intro ha
    simp only [List.all_cons, Bool.and_eq_true] at ha
    refine .cons ?_ (ih ha.2)
    have free : ∀ v, oldOk 0 v = true → VR M v v := fun v hv => ((free_LR h (l := [v]) (by simp [hv])).1).head
    have one : ∀ v, bareV1 v = true → VR M v v := fun v hv => by
      cases v with
      | agg c => obtain ⟨a, b⟩ := free_LR h hv; exact LR.agg a b
      | _ => exact free _ hv
    have many : ∀ {l : List Value}, l.all bareV1 = true → LR M l l := by
      intro l
      induction l with
      | nil => intro _; exact .nil M
      | cons v l ih => intro hl; simp only [List.all_cons, Bool.and_eq_true] at hl; exact .cons (one v hl.1) (ih hl.2)
    cases v with
    | tuple c => exact LR.tuple (many ha.1)
    | _ => exact one _ ha.1

theorem stepR_scope {b : Frame} {cs : List Frame} {k : List Item} {c : Code} {a : Act} {w : World} {P : Program} : Go.step P (lone (b.atR a (.code (.scope c) :: k)) cs w) = .next (lone (b.atR a (.code c :: .inScope c :: k)) cs w) :=
  step_lone_go (by simp [stepG, stepG.exec, Frame.atR])
theorem stepR_inScope {b : Frame} {cs : List Frame} {k : List Item} {c : Code} {a : Act} {w : World} {P : Program} : Go.step P (lone (b.atR a (.inScope c :: k)) cs w) = .next (lone (b.atR a k) cs w) :=
  step_lone_go (by simp [stepG, stepG.exec, Frame.atR])
theorem wpIn_scope {F : Fence} {n : Nat} {P : Program} {Q : Exit → Act → World → Prop} {a : Act} {w : World} {c : Code} (h : c.wpIn F n P (fun x a w => (∀ l, x ≠ .goto l) ∧ Q x a w) a w) : (Code.scope c).wpIn F n P Q a w := by
  intro b k cs hro hb hr
  have h0 : (lone (b.atR a (.code (.scope c) :: k)) cs w).fenced P F := fenced_calm hb hr rfl
  obtain ⟨e, a₁, w₁, ⟨hg, hq⟩, harr⟩ := h b (.inScope c :: k) cs hro hb hr
  cases e with
  | normal => exact ⟨.normal, a₁, w₁, hq, .head h0 stepR_scope (StepsIn.trans harr (.one (fenced_calm hb hr rfl) stepR_inScope))⟩
  | exit id' =>
    have hx : exitTo id' (.inScope c :: k) = exitTo id' k := by simp [exitTo]
    exact ⟨.exit id', a₁, w₁, hq, fun k' hk => .head h0 stepR_scope (harr.1 k' (by rw [hx]; exact hk)),
      fun hr' hk => let ⟨k₁, h1, h2⟩ := harr.2 hr' (by rw [hx]; exact hk); ⟨k₁, h1, .head h0 stepR_scope h2⟩⟩
  | goto l => exact absurd rfl (hg l)
  | ret => exact ⟨_, a₁, w₁, hq, .of_steps (.one h0 stepR_scope) harr⟩
  | panic ch => exact ⟨_, a₁, w₁, hq, .of_steps (.one h0 stepR_scope) harr⟩
  | outgrown => exact ⟨_, a₁, w₁, hq, .of_steps (.one h0 stepR_scope) harr⟩

theorem good (hm : P.follows .mixedOrders = true) : ∀ {base : Nat} {j : Jdg}, Ev P base j → ∀ (w0 : World) (G : Nat), base = w0.heap.size → progOk G P = true → G ≤ w0.heap.size → Good P w0 j := by
  intro base j h
  induction h with
  | skip =>
    intro w0 G0 hbase hP hG
    subst hbase
    exact ⟨.inl rfl, fun M w a F n lb ⟨hF, hS, hE, hok, hro, hmk, hlb, hG⟩ => wpIn_skip ⟨rfl, M, .refl _ _ _, hS, hE, rfl, hmk⟩, fun b h => by cases h⟩
  | label =>
    intro w0 G0 hbase hP hG
    subst hbase
    exact ⟨.inl rfl, fun M w a F n lb ⟨hF, hS, hE, hok, hro, hmk, hlb, hG⟩ => wpIn_label ⟨rfl, M, .refl _ _ _, hS, hE, rfl, hmk⟩, fun b h => by cases h⟩
  | exit =>
    intro w0 G0 hbase hP hG
    subst hbase
    exact ⟨.inr (.inr ⟨_, rfl⟩), fun M w a F n lb ⟨hF, hS, hE, hok, hro, hmk, hlb, hG⟩ => wpIn_exit ⟨rfl, M, .refl _ _ _, hS, hE, rfl, hmk⟩, fun b h => by cases h⟩
  | ret =>
    intro w0 G0 hbase hP hG
    subst hbase
    exact ⟨.inr (.inl rfl), fun M w a F n lb ⟨hF, hS, hE, hok, hro, hmk, hlb, hG⟩ => wpIn_ret ⟨rfl, M, .refl _ _ _, hS, hE, rfl, hmk⟩, fun b h => by cases h⟩
  | @seq base a b e s e1 s1 x e2 s2 h1 h2 ih1 ih2 =>
    intro w0 G0 hbase hP hG
    subst hbase
    replace ih1 := ih1 w0 G0 rfl hP hG
    replace ih2 := ih2 w0 G0 rfl hP hG
    refine ⟨ih2.1, fun M w act F n lb ⟨hF, hS, hE, hok, hro, hmk, hlb, hG⟩ => ?_, fun b h => by cases h⟩
    simp only [codeOk, Bool.and_eq_true] at hok
    simp only [noRF, Bool.and_eq_true] at hro
    refine wpIn_seq (wpIn_mono (ih1.2.1 M w act F n lb ⟨hF, hS, hE, hok.1, hro.imp_right And.left, hmk, hlb, hG⟩) ?_)
    rintro X a1 w1 ⟨rfl, M1, g1, S1, E1, N1, k1⟩
    refine wpIn_mono (ih2.2.1 M1 w1 a1 F n lb ⟨hF, S1, E1, by rw [N1]; exact hok.2, hro.imp_right And.right, k1, Nat.le_trans hlb g1.size, hG⟩) fun X a2 w2 h => ?_
    rw [N1] at h
    exact h.from g1
  | @seq_out base a b e s x e1 s1 h1 hx ih1 =>
    intro w0 G0 hbase hP hG
    subst hbase
    replace ih1 := ih1 w0 G0 rfl hP hG
    refine ⟨ih1.1, fun M w act F n lb ⟨hF, hS, hE, hok, hro, hmk, hlb, hG⟩ => ?_, fun b h => by cases h⟩
    simp only [codeOk, Bool.and_eq_true] at hok
    simp only [noRF, Bool.and_eq_true] at hro
    refine wpIn_seq (wpIn_mono (ih1.2.1 M w act F n lb ⟨hF, hS, hE, hok.1, hro.imp_right And.left, hmk, hlb, hG⟩) ?_)
    intro X a1 w1 h
    exact then_of (by rw [h.1]; exact hx) h
  | @cond base c a b e s x e1 s1 t hc h1 ih1 =>
    intro w0 G0 hbase hP hG
    subst hbase
    replace ih1 := ih1 w0 G0 rfl hP hG
    refine ⟨ih1.1, fun M w act F n lb ⟨hF, hS, hE, hok, hro, hmk, hlb, hG⟩ => ?_, fun b h => by cases h⟩
    simp only [codeOk, Bool.and_eq_true] at hok
    simp only [noRF, Bool.and_eq_true] at hro
    have hv := ev_VR hS hG hE hok.1.1
    rw [hc] at hv
    have hev : act.eval c = .bool t := by cases hx : act.eval c <;> rw [hx] at hv <;> cases hv; rfl
    refine wpIn_cond hev (ih1.2.1 M w act F n lb ⟨hF, hS, hE, ?_, ?_, hmk, hlb, hG⟩)
    · cases t
      · exact hok.2
      · exact hok.1.2
    · cases t
      · exact hro.imp_right And.right
      · exact hro.imp_right And.left
  | @block base i a e s x e1 s1 h1 hx ih1 =>
    intro w0 G0 hbase hP hG
    subst hbase
    replace ih1 := ih1 w0 G0 rfl hP hG
    refine ⟨ih1.1, fun M w act F n lb ⟨hF, hS, hE, hok, hro, hmk, hlb, hG⟩ => ?_, fun b h => by cases h⟩
    refine wpIn_block (wpIn_mono (ih1.2.1 M w act F n lb ⟨hF, hS, hE, hok, hro, hmk, hlb, hG⟩) ?_)
    intro X a1 w1 h
    have hX := h.1
    cases X with
    | exit j =>
      simp only [Exit.inBlock]
      rw [if_neg (fun e => hx (by rw [← hX, e]))]
      exact h
    | _ => exact h
  | @block_out base i a e s e1 s1 h1 ih1 =>
    intro w0 G0 hbase hP hG
    subst hbase
    replace ih1 := ih1 w0 G0 rfl hP hG
    refine ⟨.inl rfl, fun M w act F n lb ⟨hF, hS, hE, hok, hro, hmk, hlb, hG⟩ => ?_, fun b h => by cases h⟩
    refine wpIn_block (wpIn_mono (ih1.2.1 M w act F n lb ⟨hF, hS, hE, hok, hro, hmk, hlb, hG⟩) ?_)
    rintro X a1 w1 ⟨rfl, h⟩
    simp only [Exit.inBlock, if_true]
    exact ⟨rfl, h⟩
  | @loop base a e s e1 s1 x e2 s2 h1 h2 ih1 ih2 =>
    intro w0 G0 hbase hP hG
    subst hbase
    replace ih1 := ih1 w0 G0 rfl hP hG
    replace ih2 := ih2 w0 G0 rfl hP hG
    have hL : LoopGood P w0 w0.heap.size a e s x e2 s2 := by
      obtain ⟨m, hmr⟩ := ih2.2.2 a rfl
      refine ⟨m + 1, fun M w act F n lb ⟨hF, hS, hE, hok, hro, hmk, hlb, hG⟩ => ?_⟩
      refine wpIn_mono (ih1.2.1 M w act F n lb ⟨hF, hS, hE, hok, hro, hmk, hlb, hG⟩) ?_
      rintro X a1 w1 ⟨rfl, M1, g1, S1, E1, N1, k1⟩
      have := hmr M1 w1 a1 F n lb ⟨hF, S1, E1, by rw [N1]; exact hok, hro, k1, Nat.le_trans hlb g1.size, hG⟩
      rw [N1] at this
      exact rounds_mono (fun X a w h => h.from g1) m _ _ this
    refine ⟨ih2.1, fun M w act F n lb hat => ?_, fun b h => by cases h; exact hL⟩
    obtain ⟨m, hmr⟩ := hL
    exact wpIn_loop_rounds m (hmr M w act F n lb hat)
  | @loop_out base a e s x e1 s1 h1 hx ih1 =>
    intro w0 G0 hbase hP hG
    subst hbase
    replace ih1 := ih1 w0 G0 rfl hP hG
    have hL : LoopGood P w0 w0.heap.size a e s x e1 s1 := by
      refine ⟨1, fun M w act F n lb hat => ?_⟩
      refine wpIn_mono (ih1.2.1 M w act F n lb hat) fun X a1 w1 h => then_of (by rw [h.1]; exact hx) h
    refine ⟨ih1.1, fun M w act F n lb hat => ?_, fun b h => by cases h; exact hL⟩
    obtain ⟨m, hmr⟩ := hL
    exact wpIn_loop_rounds m (hmr M w act F n lb hat)
  | @scope base a e s x e1 s1 h1 hx ih1 =>
    intro w0 G0 hbase hP hG
    subst hbase
    replace ih1 := ih1 w0 G0 rfl hP hG
    refine ⟨ih1.1, fun M w act F n lb ⟨hF, hS, hE, hok, hro, hmk, hlb, hG⟩ => ?_, fun b h => by cases h⟩
    refine wpIn_scope (wpIn_mono (ih1.2.1 M w act F n lb ⟨hF, hS, hE, hok, hro, hmk, hlb, hG⟩) ?_)
    intro X a1 w1 h
    refine ⟨fun l hl => ?_, h⟩
    have hX := h.1
    rcases hx with rfl | rfl | ⟨i, rfl⟩ <;> (rw [hl] at hX; cases hX)
  | @region base i ops e s e1 s1 h1 ih1 =>
    intro w0 G0 hbase hP hG
    subst hbase
    replace ih1 := ih1 w0 G0 rfl hP hG
    refine ⟨.inl rfl, fun M w act F n lb ⟨hF, hS, hE, hok, hro, hmk, hlb, hG⟩ => ?_, fun b h => by cases h⟩
    simp only [codeOk, List.all_eq_true] at hok
    refine wpIn_region ?_
    rw [List.range_eq_range', ← Array.length_toList]
    refine plain_ops hF hG hok ops.toList 0 e s M w act ih1 rfl hS hE rfl ?_
    intro a' w' M' q1 q2 q3 q4 q5
    exact ⟨rfl, M', q1, q2, q3, q4, by rw [q5]; exact hmk.grow q1⟩
  | @region_draw base i ops e s e1 s1 eff lite kp hd he h1 ih1 =>
    intro w0 G0 hbase hP hG
    subst hbase
    replace ih1 := ih1 w0 G0 rfl hP hG
    refine ⟨.inl rfl, fun M w act F n lb ⟨hF, hS, hE, hok, hro, hmk, hlb, hG⟩ => ?_, fun b h => by cases h⟩
    simp only [codeOk, List.all_eq_true] at hok
    refine drawn_region (N := act.tmps.size) hm hF hG hok hd he ih1 hS hE rfl ?_
    intro a' w' M' q1 q2 q3 q4 q5
    exact ⟨rfl, M', q1, q2, q3, q4, by rw [q5]; exact hmk.grow q1⟩
  | @rangeFunc base f ps as body e s fn args v s1 r st hf h1 hl hs hst hp ih1 =>
    intro w0 G0 hbase hP hG
    subst hbase
    replace ih1 := ih1 w0 G0 rfl hP hG
    refine ⟨.inl rfl, fun M w act F n lb hat => ?_, fun b h => by cases h⟩
    refine range_sim hf ih1 hl (by rw [hs]; exact hst) hat fun a' w' M' q1 q2 q3 q4 q5 q6 => ?_
    rw [hp]
    exact ⟨rfl, M', q1, q2, q3, q4, q5⟩
  | @rangeFunc_out base f ps as body e s fn args v s1 r c x e2 s2 hf h1 hl hst hp hc h2 ih1 ih2 =>
    intro w0 G0 hbase hP hG
    subst hbase
    replace ih1 := ih1 w0 G0 rfl hP hG
    replace ih2 := ih2 w0 G0 rfl hP hG
    refine ⟨ih2.1, fun M w act F n lb hat => ?_, fun b h => by cases h⟩
    refine range_sim hf ih1 hl hst hat fun a' w' M' q1 q2 q3 q4 q5 q6 => ?_
    rw [hp]
    simp only
    obtain ⟨hF, hS, hE, hok, hro, hmk, hlb, hG⟩ := hat
    have hco : codeOk w0.heap.size a'.tmps.size c = true ∧ noRF c = true := by
      rcases hc with rfl | ⟨i, rfl⟩ <;> exact ⟨rfl, rfl⟩
    have := ih2.2.1 M' w' a' F n lb ⟨hF, q2, q3, hco.1, .inr hco.2, q5, q6, hG⟩
    rw [q4] at this
    exact wpIn_mono this fun X a w h => h.from q1
  | ops_nil =>
    intro w0 G0 hbase hP hG
    subst hbase
    exact ⟨rfl, rfl⟩
  | ops_not hg hb hw h ih =>
    intro w0 G0 hbase hP hG
    subst hbase
    replace ih := ih w0 G0 rfl hP hG
    exact .inl ⟨_, _, _, hg, hb, hw, ih⟩
  | @ops_plain base all D k o l e s v s1 e2 s2 hg hc hv hD hL h ih =>
    intro w0 G0 hbase hP hG
    subst hbase
    replace ih := ih w0 G0 rfl hP hG
    exact .inr ⟨v, s1, hg, op_plain_good o hc hv, hD, fun hl => ⟨(quiet_pop hl hc hv).1, fun s3 => op_plain_good o hc ((quiet_pop hl hc hv).2 s3)⟩, load_pop hv hL, ih⟩
  | @ops_call base all D k o l e s c fn args v s1 e2 s2 hg ho hb hcal hc hD h ih1 ih2 =>
    intro w0 G0 hbase hP hG
    subst hbase
    replace ih1 := ih1 w0 G0 rfl hP hG
    replace ih2 := ih2 w0 G0 rfl hP hG
    refine .inr ⟨v, s1, hg, op_call_good o ho hcal ih1, hD, fun hl => ?_, by unfold LiteOk; cases D <;> first | trivial | (intro _ h; rw [ho] at h; cases h), ih2⟩
    exfalso
    obtain ⟨callee, cargs, cts⟩ := c
    cases callee with
    | builtin b => simp [Callee.isB] at hb
    | value f => simp [loudO, ho] at hl
    | invoke r m => simp [loudO, ho] at hl
  | func h ih =>
    intro w0 G0 hbase hP hG
    subst hbase
    replace ih := ih w0 G0 rfl hP hG
    exact ih
  | @yield base l args s r e1 s1 x e2 s2 hl hn hst hold h1 hl1 h2 hl2 j hx ih1 ih2 =>
    intro w0 G0 hbase hP hG
    subst hbase
    replace ih1 := ih1 w0 G0 rfl hP hG
    replace ih2 := ih2 w0 G0 rfl hP hG
    intro M w l' args' F n hF hS hb hL
    obtain ⟨R, G1, hR1, hR2, hR3, hR4⟩ := loop_sim hS hb hold hl
    have hsz : args'.size = R.params.size := by rw [hR2.params, hn]; simpa using hL.1.symm
    have hy := run_yield (P := P) hR1 hsz
    refine ⟨_, _, _, _, hy, roundIn_of_wpIn (hF.1 _) ?_⟩
    rw [hR2.params, hR2.assign, hR2.body]
    obtain ⟨hE1, hN1⟩ := round_tmps (ps := r.params) hL hR2.env
    have hFr : Fwide (F.inRound l') := ⟨hF.1, hF.2⟩
    refine wpIn_mono (ih1.2.1 M w _ (F.inRound l') n w.heap.size ⟨hFr, hS, hE1, ?_, .inr hR2.rfA, trivial, Nat.le_refl _, Nat.le_refl _⟩) ?_
    · simp only [hN1]; exact codeOk_mono hR3 (Nat.le_refl _) hR2.okA
    · rintro X a1 w1 ⟨rfl, M1, g1, S1, E1, N1, k1⟩
      simp only [hN1] at N1
      have hb1 := g1.le.blk _ _ hb
      obtain ⟨R1, G1', hR1', hR2', hR3', hR4'⟩ := loop_sim S1 hb1 hold hl1
      refine ⟨_, run_beginRound hR1' (by rw [hR2'.state]; exact hst), ?_⟩
      obtain ⟨S1', g1'⟩ := put_sim S1 hb1 hold (by rw [hl1]; rfl) (.loop { r with state := .busy }) (.loop { R1 with state := .busy })
        ⟨rfl, _, _, rfl, ⟨hR2'.env, hR2'.params, hR2'.assign, hR2'.body, rfl, hR2'.pending, hR2'.okA, hR2'.okB, hR2'.okP, hR2'.rfA, hR2'.rfB⟩, hR3', hR4'⟩
      refine wpIn_mono (ih2.2.1 M1 _ a1 (F.inRound l') n w.heap.size ⟨hFr, S1', E1, ?_, .inr hR2.rfB, k1.grow g1', Nat.le_trans g1.size g1'.size, Nat.le_refl _⟩) ?_
      · rw [N1]; exact codeOk_mono hR3 (Nat.le_refl _) hR2.okB
      · rintro X a2 w2 ⟨rfl, M2, g2, S2, E2, N2, k2⟩
        have hb2 := g2.le.blk _ _ hb1
        obtain ⟨R2, G2', p1, p2, p3, p4⟩ := loop_sim S2 hb2 hold hl2
        have hend := run_endRound (P := P) j p1
        obtain ⟨S3, g3⟩ := put_sim S2 hb2 hold (by rw [hl2]; rfl) (.loop { r with state := (if j.isNone = true then .ready else .done), pending := j }) (.loop { R2 with state := (if j.isNone = true then .ready else .done), pending := j })
          ⟨rfl, _, _, rfl, ⟨p2.env, p2.params, p2.assign, p2.body, rfl, rfl, p2.okA, p2.okB, p2.okP, p2.rfA, p2.rfB⟩, p3, p4⟩
        have hgr := ((g1.trans g1').trans g2).trans g3
        rcases hx with ⟨rfl, rfl⟩ | ⟨rfl, rfl⟩ | ⟨i, rfl, rfl⟩
        · exact ⟨_, _, hend, _, M2, rfl, hgr, S3, .bool _⟩
        · exact ⟨_, _, hend, _, M2, rfl, hgr, S3, .bool _⟩
        · exact ⟨_, _, hend, _, M2, rfl, hgr, S3, .bool _⟩
  | @call base f args s fn c x e1 s1 v hf hb h hx hr ih =>
    intro w0 G0 hbase hP hG
    subst hbase
    replace ih := ih w0 G0 rfl hP hG
    intro M w args' F n hF hS hL
    have hfo : funcOk G0 fn = true := by
      simp only [progOk, List.all_eq_true] at hP
      exact hP fn (by have := Array.mem_of_getElem? hf; simpa using this)
    simp only [funcOk, hb, Bool.and_eq_true, List.all_eq_true, bne_iff_ne, ne_eq] at hfo
    obtain ⟨⟨ho1, ho2⟩, ho3⟩ := hfo
    refine ⟨⟨fn, c, hf, hb, ho3⟩, ?_⟩
    have key : CallsIn F.plain n P f args' w (fun e w' => ∃ v' M', e = .returned v' ∧ Gr M s w M' s1 w' ∧ Sm w0 M' s1 w' ∧ VR M' v v') := by
      refine callsIn_of_wp_marks hf hb (hF.1 f) ?_ rfl
      have hN : fn.ntmps ≤ (args' ++ Array.replicate (fn.ntmps - args'.size) undef).size := by simp; omega
      refine wpIn_mono (ih.2.1 M w _ F.plain n w.heap.size ⟨⟨hF.1, hF.2⟩, hS, ER.args hL _, codeOk_mono hG hN ho1, .inl rfl, trivial, Nat.le_refl _, Nat.le_refl _⟩) ?_
      rintro X a1 w1 ⟨rfl, M1, g1, S1, E1, N1, k1⟩
      have hlv : LeavesInM F.plain n P fn a1.tmps (fun e w' => ∃ v' M', e = .returned v' ∧ Gr M s w M' s1 w' ∧ Sm w0 M' s1 w' ∧ VR M' v v') a1.defers .returning w1 := by
        refine leaves_sim hS.below.size (fun w' hS' hG' => ?_) a1.defers w1 k1 S1 g1
        have hrs : ∀ r ∈ fn.results.toList, (match r with | .tmp t => decide (t < a1.tmps.size) | .cell a _ => decide (a < a1.tmps.size)) = true := fun r hr => by
          have := ho2 r hr
          rw [N1]
          cases r with
          | tmp t => simp only [decide_eq_true_eq] at *; exact Nat.lt_of_lt_of_le this hN
          | cell t _ => simp only [decide_eq_true_eq] at *; exact Nat.lt_of_lt_of_le this hN
        obtain ⟨v', e1, e2⟩ := results_sim (P := P) hS' (fn := fn) E1 hrs hr
        exact ⟨v', e1, v', M1, rfl, hG', hS', e2⟩
      rcases hx with rfl | rfl
      · exact hlv
      · exact hlv
    exact key
  | @closed base f args s v s1 g t hgb hP0 ha hv htn hth h ih =>
    intro w0 G0 hbase hP hG
    subst hbase
    intro M w args' F n hF hS hL
    obtain rfl := bare_list ha (args' := args'.toList) hL
    have hgw : g ≤ w.heap.size := Nat.le_trans hgb hS.below.size
    have hsz : (w.heap.extract 0 g).size = g := by simp; omega
    have hex : ∀ b, b < g → (w.heap.extract 0 g)[b]? = w.heap[b]? := fun b hb => by
      rw [Array.getElem?_extract]; simp; omega
    have ih := ih { w with heap := w.heap.extract 0 g } g hsz.symm hP0 (by simp only [hsz]; omega)
    have hS0 : Sm { w with heap := w.heap.extract 0 g } ⟨fun b => if b < g then some (b, 0) else none, fun _ => none, fun _ => 0⟩ t w := by
      refine ⟨⟨rfl, rfl, rfl, by simp only [hsz]; omega, fun k hk => ?_⟩, by simp only [hsz]; omega, fun b hb => ?_, fun b hb => ?_, fun b x hb hge => ?_, fun b b' x x' h1 h2 hb => ?_⟩
      · simp only [hsz] at hk; exact (hex k hk).symm
      · simp only [hsz] at hb; simp [hb]
      · simp only [hsz] at hb
        rw [hth b hb, hS.olds b (by omega)]
        simp only [oldObj]
        rw [hex b hb, hS.below.block b (by omega)]
      · simp only [hsz] at hge; simp only at hb; rw [if_neg (by omega)] at hb; cases hb
      · simp only [hsz] at h1; simp only at hb; rw [if_neg (by omega)] at hb; cases hb
    obtain ⟨h1, h2⟩ := ih _ w args' F n hF hS0 (bare_LR hS0 ha)
    refine ⟨h1, h2.mono ?_⟩
    rintro e w' ⟨v', M1, rfl, g1, S1, hv'⟩
    obtain rfl := bare_val hv hv'
    have hfr : ∀ B, B < w.heap.size → w'.heap[B]? = w.heap[B]? := fun B hB => by
      by_cases hBg : B < g
      · rw [S1.below.block B (by simp only [hsz]; exact hBg)]; exact hex B hBg
      · refine g1.fr B hB fun b x hb _ => ?_
        simp only at hb
        split at hb
        · cases hb; simp only; omega
        · cases hb
    refine ⟨v', M, rfl, ⟨.refl M, Nat.le_refl _, fun _ _ h _ => h, fun b x h => .inl ⟨b, x, h, rfl⟩, fun b x h hg => .inl ⟨b, x, h, hg, rfl⟩, fun B hB _ => hfr B hB, g1.size⟩, ?_, (bare_LR hS (l := [v']) (by simp [hv])).head⟩
    have hb := S1.below
    refine ⟨⟨hb.os.trans hS.below.os, hb.tape.trans hS.below.tape, hb.output.trans hS.below.output, Nat.le_trans hS.below.size g1.size, fun k hk => (hfr k (Nat.lt_of_lt_of_le hk hS.below.size)).trans (hS.below.block k hk)⟩, hS.nxt, hS.old, hS.olds, fun b x hb hge => ?_, hS.inj⟩
    obtain ⟨k1, k2, o, k3, k4⟩ := hS.new b x hb hge
    exact ⟨k1, k2, o, (hfr x.1 (Array.getElem?_eq_some_iff.1 k3).1).trans k3, k4⟩
end
end Go.Ab
