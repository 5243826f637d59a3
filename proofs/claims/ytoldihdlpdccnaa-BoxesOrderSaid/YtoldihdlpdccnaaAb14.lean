/- The simulation: one operation. -/
import Derived.Test.YtoldihdlpdccnaaAb13
set_option linter.unusedVariables false
set_option linter.unusedSimpArgs false
namespace Go.Ab
open Go Go.RowKit

section
variable {P : Program} {w0 : World} {M : Mp} {s : St} {w : World}

theorem ptr_of {v v' : Value} (h : VR M v v') {a : Addr} (hp : ptrV v = some a) : ∃ a', v' = .pointer (some a') ∧ AR M a a' := by
  cases h <;> simp [ptrV] at hp
  subst hp
  rename_i a' ha
  exact ⟨a', rfl, ha⟩

/-- The end of an operation that hands a value back, and changes nothing. -/
def Done (P : Program) (w0 : World) (M : Mp) (s : St) (w : World) (run : Result Next) (v : Value) (s' : St) : Prop :=
  ∃ r v' w' M', run = .ok r w' ∧ (r = .value v' ∨ (r = .skip ∧ v' = undef)) ∧ Sm w0 M' s' w' ∧ Gr M s w M' s' w' ∧ VR M' v v'
theorem Done.same (h : Sm w0 M s w) {x : Sem Value} {v v' : Value} (hr : x.run P w = .ok v' w) (hv : VR M v v') : Done P w0 M s w ((do pure (.value (← x)) : Sem Next).run P w) v s :=
  ⟨.value v', v', w, M, by simp only [Sem.run_bind, hr, Result.andThen_ok, Sem.run_pure], .inl rfl, h, .refl M _ w, hv⟩
theorem Done.some {x : Sem Value} {v v' : Value} {w' : World} {M' : Mp} {s' : St} (hr : x.run P w = .ok v' w') (h : Sm w0 M' s' w') (hg : Gr M s w M' s' w') (hv : VR M' v v') : Done P w0 M s w ((do pure (.value (← x)) : Sem Next).run P w) v s' :=
  ⟨.value v', v', w', M', by simp only [Sem.run_bind, hr, Result.andThen_ok, Sem.run_pure], .inl rfl, h, hg, hv⟩
theorem ret1_some {o : Option Value} {v : Value} {s s' : St} (h : ret1 o s = some (v, s')) : o = some v ∧ s' = s := by
  cases o with
  | none => cases h
  | some u => simp only [ret1, Option.some.injEq, Prod.mk.injEq] at h; exact ⟨by rw [h.1], h.2.symm⟩
theorem conv_int {a b : TypeId} {k k' : IntKind} {n : Int} (hb : P.underlying b = some (.int k')) (ha : (P.underlying a).isSome = true) : (convert a b (.int k n)).run P w = .ok (.int k' (k'.wrap n)) w := by
  obtain ⟨D, hD⟩ := Option.isSome_iff_exists.1 ha
  simp only [convert, Sem.run_bind, run_underlying hD, run_underlying hb, Result.andThen_ok]
  cases D <;> rfl
theorem conv_str {a b : TypeId} {s : ByteArray} (hb : P.underlying b = some .string) (ha : (P.underlying a).isSome = true) : (convert a b (.string s)).run P w = .ok (.string s) w := by
  obtain ⟨D, hD⟩ := Option.isSome_iff_exists.1 ha
  simp only [convert, Sem.run_bind, run_underlying hD, run_underlying hb, Result.andThen_ok]
  cases D <;> rfl
theorem VR_undef (M : Mp) : VR M undef undef := .tuple rfl (fun i v v' a b => by simp at a)

theorem pop_sim (h : Sm w0 M s w) {ρ ρ' : Operand → Value} {o : Oper} (hρ : ∀ x ∈ o.op.operands, VR M (ρ x) (ρ' x)) {v : Value} {s' : St} (hp : pop P w0.heap.size ρ s o.op = some (v, s')) :
    Done P w0 M s w ((execOp ρ' o).run P w) v s' := by
  obtain ⟨dst, op, type, pos, after, guard⟩ := o
  simp only at hρ hp
  cases op with
  | move x =>
    simp only [pop, Option.some.injEq, Prod.mk.injEq] at hp; obtain ⟨rfl, rfl⟩ := hp
    exact ⟨.value (ρ' x), ρ' x, w, M, rfl, .inl rfl, h, .refl M _ w, hρ x (by simp [Op.operands])⟩
  | assign x =>
    simp only [pop, Option.some.injEq, Prod.mk.injEq] at hp; obtain ⟨rfl, rfl⟩ := hp
    exact ⟨.value (ρ' x), ρ' x, w, M, rfl, .inl rfl, h, .refl M _ w, hρ x (by simp [Op.operands])⟩
  | pick c a b =>
    simp only [pop] at hp
    have hq := ret1_some hp; clear hp; obtain ⟨hp, rfl⟩ := hq
    have hc := hρ c (by simp [Op.operands])
    have ha := hρ a (by simp [Op.operands])
    have hb := hρ b (by simp [Op.operands])
    unfold pickV at hp
    split at hp
    · rename_i t ht
      rw [ht] at hc
      cases hp
      have hc' : ρ' c = .bool t := by cases hcc : ρ' c <;> rw [hcc] at hc <;> cases hc; rfl
      refine ⟨.value (if t = true then ρ' a else ρ' b), if t = true then ρ' a else ρ' b, w, M, ?_, .inl rfl, h, .refl M _ w, by cases t; exact hb; exact ha⟩
      simp [execOp, hc', asBool]
    · cases hp
  | alloc t =>
    simp only [pop] at hp
    split at hp
    · rename_i z hz
      simp only [Option.some.injEq, Prod.mk.injEq] at hp
      obtain ⟨rfl, rfl⟩ := hp
      obtain ⟨i, zv, hi, hzz, hzc, hfree, hti⟩ := zerT_info hz
      obtain ⟨hzLR, hz1⟩ := free_LR h hfree
      obtain ⟨M', a1, a2, a3, a4, a5⟩ := allocRow_sim h (l := z) (l' := z) hzLR hz1 t
      refine Done.some ?_ a1 a2 (.ptr ⟨_, 0, a3, rfl⟩)
      have hzc' : z.toArray = zv.cells := by rw [← hzc]
      simp [Instr.alloc, zeroValue, typeInfo, hi, hzz, newVar, newRow, hzc']
    · cases hp
  | box t x =>
    simp only [pop] at hp
    split at hp
    · rename_i ht
      simp only [Option.some.injEq, Prod.mk.injEq] at hp
      obtain ⟨rfl, rfl⟩ := hp
      obtain ⟨c1, c2⟩ := (hρ x (by simp [Op.operands])).cells ht
      obtain ⟨M', a1, a2, a3, a4, a5⟩ := allocRow_sim h c1 c2 t
      refine Done.some ?_ a1 a2 (.ptr ⟨_, 0, a3, rfl⟩)
      simp [Instr.box, newVar, newRow]
    · cases hp
  | build t ps =>
    simp only [pop] at hp
    have hq := ret1_some hp; clear hp; obtain ⟨hp, rfl⟩ := hq
    have hps : PR M (ps.toList.map fun p => (p.1, ρ p.2)) (ps.toList.map fun p => (p.1, ρ' p.2)) :=
      ⟨by simp [Function.comp_def], by
        simp only [List.map_map, Function.comp_def]
        exact LR.map fun p hp => hρ p.2 (by simp only [Op.operands, List.mem_toArray, List.mem_map]; exact ⟨p, hp, rfl⟩)⟩
    obtain ⟨v', e1, e2⟩ := build_sim (P := P) h hps hp
    have : (List.map (fun p : Nat × Operand => (p.1, ρ' p.2)) ps.toList).toArray = ps.map fun (i, x) => (i, ρ' x) := by apply Array.ext'; simp
    rw [this] at e1
    exact Done.same h e1 e2
  | buildSlice t n ps =>
    simp only [pop] at hp
    have hps : PR M (ps.toList.map fun p => (p.1, ρ p.2)) (ps.toList.map fun p => (p.1, ρ' p.2)) :=
      ⟨by simp [Function.comp_def], by
        simp only [List.map_map, Function.comp_def]
        exact LR.map fun p hp => hρ p.2 (by simp only [Op.operands, List.mem_toArray, List.mem_map]; exact ⟨p, hp, rfl⟩)⟩
    obtain ⟨v', w', M', e1, e2, e3, e4⟩ := buildSlice_sim (P := P) h hps hp
    have : (List.map (fun p : Nat × Operand => (p.1, ρ' p.2)) ps.toList).toArray = ps.map fun (i, x) => (i, ρ' x) := by apply Array.ext'; simp
    rw [this] at e1
    exact Done.some e1 e2 e3 e4
  | load t a =>
    simp only [pop] at hp
    have hq := ret1_some hp; clear hp; obtain ⟨hp, rfl⟩ := hq
    unfold loadV at hp
    split at hp
    · rename_i a0 ha0
      obtain ⟨a', e1, e2⟩ := ptr_of (hρ a (by simp [Op.operands])) ha0
      obtain ⟨v', e3, e4⟩ := ldVar_sim (P := P) h e2 hp
      exact Done.same h (by simp only [Instr.loadAt, Instr.sureAddr, e1, Sem.run_bind, Sem.run_pure, Result.andThen_ok, e3]) e4
    · cases hp
  | store t a x =>
    simp only [pop] at hp
    split at hp
    · rename_i a0 ha0
      obtain ⟨a', e1, e2⟩ := ptr_of (hρ a (by simp [Op.operands])) ha0
      cases hst : stVar P w0.heap.size s t a0 (ρ x) with
      | none => rw [hst] at hp; cases hp
      | some s1 =>
        rw [hst] at hp
        simp only [ret0, Option.some.injEq, Prod.mk.injEq] at hp
        obtain ⟨rfl, rfl⟩ := hp
        obtain ⟨w', e3, e4, e5⟩ := stVar_sim (P := P) h e2 (hρ x (by simp [Op.operands])) hst
        refine ⟨.skip, undef, w', M, ?_, .inr ⟨rfl, rfl⟩, e4, e5, VR_undef M⟩
        simp only [execOp, Instr.storeAt, Instr.sureAddr, e1, Sem.run_bind, Sem.run_pure, Result.andThen_ok, e3]
    · cases hp
  | nilCheck x =>
    simp only [pop] at hp
    have hq := ret1_some hp; clear hp; obtain ⟨hp, rfl⟩ := hq
    have hx := hρ x (by simp [Op.operands])
    unfold nilCheckV at hp
    split at hp
    · rename_i a ha
      cases hp
      rw [ha] at hx
      cases hxx : ρ' x <;> rw [hxx] at hx <;> cases hx
      rename_i a' ha'
      exact ⟨_, _, w, M, by simp [execOp, hxx], .inl rfl, h, .refl M _ w, .ptr ha'⟩
    · rename_i f fi ca hf
      cases hp
      rw [hf] at hx
      cases hxx : ρ' x <;> rw [hxx] at hx <;> cases hx
      rename_i hfn s1 h1 s2 h2
      cases hfn
      exact ⟨_, _, w, M, by simp [execOp, hxx], .inl rfl, h, .refl M _ w, .func (.other (by simp)) s1 h1 s2 h2⟩
    · rename_i l fi ca hf
      cases hp
      rw [hf] at hx
      cases hxx : ρ' x <;> rw [hxx] at hx <;> cases hx
      rename_i hfn s1 h1 s2 h2
      cases hfn with
      | yield hl => exact ⟨_, _, w, M, by simp [execOp, hxx], .inl rfl, h, .refl M _ w, .func (.yield hl) s1 h1 s2 h2⟩
      | other hn => exact absurd rfl (hn _)
    · cases hp
  | binOp bop t x y u =>
    simp only [pop] at hp
    have hq := ret1_some hp; clear hp; obtain ⟨hp, rfl⟩ := hq
    obtain ⟨e1, e2⟩ := binV_sim (M := M) hp (hρ x (by simp [Op.operands])) (hρ y (by simp [Op.operands])) x y w
    exact Done.same h e1 e2
  | unOp uop t x =>
    simp only [pop] at hp
    have hq := ret1_some hp; clear hp; obtain ⟨hp, rfl⟩ := hq
    obtain ⟨e1, e2⟩ := unV_run (P := P) (M := M) hp w _ (hρ x (by simp [Op.operands]))
    exact Done.same h e1 e2
  | convert a b x =>
    simp only [pop] at hp
    have hx := hρ x (by simp [Op.operands])
    unfold convV at hp
    split at hp
    · rename_i k n hn
      rw [hn] at hx
      split at hp
      case isFalse => cases hp
      rename_i hsrc
      split at hp
      · rename_i k' hk'
        cases hp
        cases hxx : ρ' x <;> rw [hxx] at hx <;> cases hx
        refine Done.same h ?_ (.int _ _)
        rw [hxx]; exact conv_int (intT_u hk') hsrc
      · cases hp
    · rename_i bs hb
      rw [hb] at hx
      split at hp
      · rename_i hs
        cases hp
        cases hxx : ρ' x <;> rw [hxx] at hx <;> cases hx
        refine Done.same h ?_ (.str _)
        rw [hxx]; exact conv_str (strT_u hs.1) hs.2
      · cases hp
    · cases hp
  | makeInterface t x =>
    simp only [pop] at hp
    have hq := ret1_some hp; clear hp; obtain ⟨hp, rfl⟩ := hq
    unfold ifaceV at hp
    split at hp
    · rename_i hc
      obtain ⟨c1, c2, c3⟩ := hc
      cases hp
      obtain ⟨D, hD⟩ := Option.isSome_iff_exists.1 c2
      refine Done.same h ?_ (.iface t (hρ x (by simp [Op.operands])))
      have hni : ∀ ms, D ≠ .interface ms := fun ms e => by subst e; simp [ifaceT, hD] at c1
      cases D <;> first | (exact absurd rfl (hni _)) | simp [Instr.makeInterface, run_underlying hD]
    · cases hp
  | makeFunc fn fi ca =>
    simp only [pop] at hp
    have hq := ret1_some hp; clear hp; obtain ⟨hp, rfl⟩ := hq
    have each : ∀ xs : Array Operand, (∀ x ∈ xs, VR M (ρ x) (ρ' x)) → ∀ (i : Nat) v v', (xs.map ρ)[i]? = some v → (xs.map ρ')[i]? = some v' → VR M v v' := fun xs hx i v v' a b => by
      simp only [Array.getElem?_map, Option.map_eq_some_iff] at a b
      obtain ⟨x, h1, rfl⟩ := a
      obtain ⟨y, h2, rfl⟩ := b
      rw [h1] at h2; cases h2
      exact hx x (Array.mem_of_getElem? h1)
    unfold mkFuncV at hp
    split at hp
    · cases hp
    · rename_i hny
      cases hp
      exact Done.same h (by simp only [Instr.makeFunc, Sem.run_pure]) (.func (.other fun l e => hny l e) (by simp) (each fi fun x hx => hρ x (by simp [Op.operands, hx])) (by simp) (each ca fun x hx => hρ x (by simp [Op.operands, hx])))
  | makeSlice t x y =>
    simp only [pop] at hp
    obtain ⟨v', w', M', e1, e2, e3, e4⟩ := make_sim (P := P) h (hρ x (by simp [Op.operands])) (hρ y (by simp [Op.operands])) hp
    exact Done.some e1 e2 e3 e4
  | slice t x lo hi mx =>
    simp only [pop] at hp
    have hq := ret1_some hp; clear hp; obtain ⟨hp, rfl⟩ := hq
    have ov : ∀ o : Option Operand, (∀ y, o = some y → VR M (ρ y) (ρ' y)) → OVR M (o.map ρ) (o.map ρ') := fun o ho => by
      cases o with
      | none => trivial
      | some y => exact ho y rfl
    obtain ⟨v', e1, e2⟩ := slice_sim (P := P) h (hρ x (by simp [Op.operands])) (ov lo fun y e => hρ y (by simp [Op.operands, e])) (ov hi fun y e => hρ y (by simp [Op.operands, e])) (ov mx fun y e => hρ y (by simp [Op.operands, e])) hp
    exact Done.same h e1 e2
  | fieldAddr t x f =>
    simp only [pop] at hp
    have hq := ret1_some hp; clear hp; obtain ⟨hp, rfl⟩ := hq
    unfold fieldAddrV at hp
    split at hp
    · rename_i a off u ha hf
      split at hp
      · rename_i n hn
        split at hp
        · rename_i hpos
          cases hp
          obtain ⟨a', e1, e2⟩ := ptr_of (hρ x (by simp [Op.operands])) ha
          obtain ⟨fs, fd, hu, hfd, rfl, rfl⟩ := fldT_u hf
          refine Done.same h ?_ (.ptr (e2.add _))
          simp only [Instr.fieldAt, Sem.run_bind, run_underlying hu, Result.andThen_ok, hfd, Instr.sureAddr, e1, Sem.run_pure, fieldPlace, sizT_run hn, Sem.run_ite]
          rw [if_neg (by omega)]
          rfl
        · cases hp
      · cases hp
    · cases hp
  | field t x f =>
    simp only [pop] at hp
    have hq := ret1_some hp; clear hp; obtain ⟨hp, rfl⟩ := hq
    unfold fieldV at hp
    split at hp
    · rename_i cs off u hcs hf
      obtain ⟨fs, fd, hu, hfd, rfl, rfl⟩ := fldT_u hf
      have hx := hρ x (by simp [Op.operands])
      rw [hcs] at hx
      obtain ⟨cs', hxx⟩ : ∃ cs', ρ' x = .agg cs' := by cases hxx : ρ' x <;> rw [hxx] at hx <;> cases hx; exact ⟨_, rfl⟩
      rw [hxx] at hx
      obtain ⟨v', e1, e2⟩ := partV_sim (P := P) hx hp w
      exact Done.same h (by simp only [Instr.field, Sem.run_bind, run_underlying hu, Result.andThen_ok, hfd, hxx, asAgg, Sem.run_pure, e1]) e2
    · cases hp
  | indexAddr t x i =>
    simp only [pop] at hp
    have hq := ret1_some hp; clear hp; obtain ⟨hp, rfl⟩ := hq
    unfold indexAddrV at hp
    have hx := hρ x (by simp [Op.operands])
    split at hp
    · rename_i n hn
      obtain ⟨k, hi1, hi2⟩ := intOf_run (P := P) hn (hρ i (by simp [Op.operands])) w
      split at hp
      · rename_i a len cap hsl
        rw [hsl] at hx
        split at hp
        · rename_i e he
          split at hp
          · rename_i z hz
            split at hp
            · rename_i hc
              cases hp
              cases hxx : ρ' x <;> rw [hxx] at hx <;> cases hx
              · omega
              · rename_i a' cap' ha' hx'
                refine Done.same h ?_ (.ptr (ha'.add _))
                have ht : (decide (len ≤ 1) && false) = false := by simp
                simp only [Instr.indexAt, Sem.run_bind, hi2, Result.andThen_ok, run_underlying (elemT_u he), hxx, Sem.run_pure, Sem.run_ite, if_pos hc, sizT_run hz]
            · cases hp
          · cases hp
        · cases hp
      · rename_i a hpa
        rw [hpa] at hx
        split at hp
        · rename_i kk e he
          split at hp
          · rename_i z hz
            split at hp
            · rename_i hc
              cases hp
              cases hxx : ρ' x <;> rw [hxx] at hx <;> cases hx
              rename_i a' ha'
              refine Done.same h ?_ (.ptr (ha'.add _))
              simp only [Instr.indexAt, Sem.run_bind, hi2, Result.andThen_ok, run_underlying (arrT_u he), hxx, Instr.sureAddr, Sem.run_pure, Sem.run_ite, if_pos hc, sizT_run hz]
            · cases hp
          · cases hp
        · cases hp
      · cases hp
    · cases hp
  | index t x i =>
    simp only [pop] at hp
    have hq := ret1_some hp; clear hp; obtain ⟨hp, rfl⟩ := hq
    unfold indexV at hp
    have hx := hρ x (by simp [Op.operands])
    split at hp
    · rename_i n hn
      obtain ⟨k, hi1, hi2⟩ := intOf_run (P := P) hn (hρ i (by simp [Op.operands])) w
      split at hp
      · rename_i cs hcs
        rw [hcs] at hx
        split at hp
        · rename_i kk e he
          split at hp
          · rename_i z hz
            split at hp
            · rename_i hc
              obtain ⟨cs', hxx⟩ : ∃ cs', ρ' x = .agg cs' := by cases hxx : ρ' x <;> rw [hxx] at hx <;> cases hx; exact ⟨_, rfl⟩
              rw [hxx] at hx
              obtain ⟨v', e1, e2⟩ := partV_sim (P := P) hx hp w
              exact Done.same h (by simp only [Instr.index, Sem.run_bind, hi2, Result.andThen_ok, run_underlying (arrT_u he), hxx, Sem.run_ite, if_pos hc, sizT_run hz, e1]) e2
            · cases hp
          · cases hp
        · cases hp
      · rename_i b hb
        rw [hb] at hx
        split at hp
        · rename_i hc
          obtain ⟨c1, c2, c3⟩ := hc
          cases hp
          cases hxx : ρ' x <;> rw [hxx] at hx <;> cases hx
          refine Done.same h ?_ (.int _ _)
          have hlt : n.toNat < b.size := by omega
          have hlt2 : n.toNat < b.data.toList.length := by simpa using hlt
          have hget : b[n.toNat]? = some (b.data.toList.getD n.toNat 0) := by
            rw [List.getD_eq_getElem?_getD, List.getElem?_eq_getElem hlt2, Option.getD_some]
            rw [getElem?_pos b n.toNat hlt]
            rfl
          simp only [Instr.index, Sem.run_bind, hi2, Result.andThen_ok, run_underlying (strT_u c1), hxx, if_pos c2, hget, Sem.run_pure]
        · cases hp
      · cases hp
    · cases hp
  | extract x i =>
    simp only [pop] at hp
    have hq := ret1_some hp; clear hp; obtain ⟨hp, rfl⟩ := hq
    unfold extractV at hp
    split at hp
    · rename_i vs hvs
      have hx := hρ x (by simp [Op.operands])
      rw [hvs] at hx
      obtain ⟨vs', hxx⟩ : ∃ vs', ρ' x = .tuple vs' := by cases hxx : ρ' x <;> rw [hxx] at hx <;> cases hx; exact ⟨_, rfl⟩
      rw [hxx] at hx
      cases hx with
      | tuple s1 h1 =>
        have hlt : i < vs'.size := by rw [← s1]; exact (Array.getElem?_eq_some_iff.1 hp).1
        exact Done.same h (by simp only [Instr.extract, hxx, Array.getElem?_eq_getElem hlt, Sem.run_pure]) (h1 i v _ hp (Array.getElem?_eq_getElem hlt))
    · cases hp
  | call c =>
    obtain ⟨callee, args, ats⟩ := c
    simp only [pop] at hp
    cases callee with
    | builtin b =>
      simp only at hp
      have ha : LR M (args.map ρ).toList (args.map ρ').toList := by
        simp only [Array.toList_map]
        exact LR.map fun x hx => hρ x (by simp [Op.operands, Call.operands]; simpa using hx)
      have hp' : builtinV P w0.heap.size s b ats.toList (args.map ρ).toList = some (v, s') := by simpa using hp
      have key : ∃ cs, (execOp ρ' ⟨dst, .call ⟨.builtin b, args, ats⟩, type, pos, after, guard⟩).run P w = (builtin b ats type cs (args.map ρ')).run P w :=
        ⟨_, by simp only [execOp, resolve, Sem.run_bind, Sem.run_pure, Result.andThen_ok, invoke]; rfl⟩
      obtain ⟨cs, key⟩ := key
      obtain ⟨v', w', M', e1, e2, e3, e4⟩ := builtin_sim (ty := type) (cs := cs) h ha hp'
      exact ⟨.value v', v', w', M', by rw [key]; exact e1, .inl rfl, e2, e3, e4⟩
    | value f => cases hp
    | invoke r m => cases hp
  | _ => cases hp
end
end Go.Ab
