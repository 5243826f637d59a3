/- The simulation: operations that call nothing. -/
import Derived.Test.YtoldihdlpdccnaaAb5
import Derived.Laws.StructEq
import Derived.Laws.Append
import Derived.Laws.Build
set_option linter.unusedVariables false
set_option linter.unusedSimpArgs false
namespace Go.Ab
open Go Go.RowKit

section
variable {P : Program} {w0 : World} {M : Mp} {s : St} {w : World}

/-! ### Types, run -/
theorem sizT_run {t : TypeId} {n : Nat} (h : sizT P t = some n) (w : World) : (sizeOf t).run P w = .ok n w := by
  unfold sizT at h
  cases hi : P.info? t with
  | none => rw [hi] at h; cases h
  | some i => rw [hi] at h; simp only [Option.map_some, Option.some.injEq] at h; simp [sizeOf, typeInfo, hi, h]
theorem sizT_info {t : TypeId} {n : Nat} (h : sizT P t = some n) : ∃ i, P.info? t = some i ∧ i.size = n := by
  unfold sizT at h
  cases hi : P.info? t with
  | none => rw [hi] at h; cases h
  | some i => rw [hi] at h; exact ⟨i, rfl, by simpa using h⟩
theorem zerT_info {t : TypeId} {l : List Value} (h : zerT P t = some l) : ∃ i z, P.info? t = some i ∧ i.zero = some z ∧ z.cells.toList = l ∧ l.all (oldOk 0) = true ∧ isTup z = false := by
  unfold zerT at h
  split at h
  · rename_i i hi
    split at h
    · rename_i z hz
      split at h
      · rename_i hc; cases h; exact ⟨i, z, hi, hz, rfl, hc⟩
      · cases h
    · cases h
  · cases h
theorem zerT_run {t : TypeId} {l : List Value} (h : zerT P t = some l) (w : World) : ∃ z, (zeroValue t).run P w = .ok z w ∧ z.cells.toList = l := by
  obtain ⟨i, z, hi, hz, hl, _⟩ := zerT_info h
  exact ⟨z, by simp [zeroValue, typeInfo, hi, hz], hl⟩
theorem free_LR (h : Sm w0 M s w) {l : List Value} (hl : l.all (oldOk 0) = true) : LR M l l ∧ ∀ v ∈ l, oneB v = true := by
  have each : ∀ v ∈ l, VR M v v ∧ oneB v = true := fun v hv => by
    refine oldVR h ?_
    have := List.all_eq_true.1 hl v hv
    cases v with
    | pointer a => cases a with
      | none => rfl
      | some a => simp [oldOk, oldA] at this
    | slice a _ _ => cases a with
      | none => rfl
      | some a => simp [oldOk, oldA] at this
    | map r => exact this
    | chan r => exact this
    | func => cases this
    | iface => cases this
    | agg => cases this
    | tuple => cases this
    | _ => rfl
  exact ⟨⟨rfl, fun i v v' a b => by rw [a] at b; cases b; exact (each v (List.mem_of_getElem? a)).1⟩, fun v hv => (each v hv).2⟩
theorem aggT_run {t : TypeId} {b : Bool} (h : aggT P t = some b) (w : World) : (isAgg t).run P w = .ok b w := by
  unfold aggT at h
  cases hu : P.underlying t with
  | none => rw [hu] at h; cases h
  | some d => rw [hu] at h; cases d <;> simp at h <;> subst h <;> simp [isAgg, run_underlying hu]
theorem elemT_u {t e : TypeId} (h : elemT P t = some e) : P.underlying t = some (.slice e) := by
  unfold elemT at h; split at h <;> simp_all
theorem arrT_u {t e : TypeId} {n : Nat} (h : arrT P t = some (n, e)) : P.underlying t = some (.array n e) := by
  unfold arrT at h; split at h <;> simp_all
theorem strT_u {t : TypeId} (h : strT P t = true) : P.underlying t = some .string := by
  unfold strT at h; split at h <;> simp_all
theorem intT_u {t : TypeId} {k : IntKind} (h : intT P t = some k) : P.underlying t = some (.int k) := by
  unfold intT at h; split at h <;> simp_all
theorem fldT_u {t u : TypeId} {f off : Nat} (h : fldT P t f = some (off, u)) : ∃ fs fd, P.underlying t = some (.struct fs) ∧ fs[f]? = some fd ∧ fd.offset = off ∧ fd.type = u := by
  unfold fldT at h
  split at h
  · rename_i fs hu
    cases hf : fs[f]? with
    | none => rw [hf] at h; cases h
    | some fd => rw [hf] at h; simp only [Option.map_some, Option.some.injEq, Prod.mk.injEq] at h; exact ⟨fs, fd, hu, hf, h⟩
  · cases h

/-! ### Reading and writing variables -/
theorem ldVar_sim (h : Sm w0 M s w) {t : TypeId} {a a' : Addr} (ha : AR M a a') {v : Value} (hv : ldVar P w0.heap.size s t a = some v) : ∃ v', (loadVar t a').run P w = .ok v' w ∧ VR M v v' := by
  unfold ldVar at hv
  split at hv
  · rename_i ht
    split at hv
    · rename_i n hn
      split at hv
      · rename_i l hl
        cases hv
        obtain ⟨h1, l', h2, h3, h4⟩ := ldN_sim h (fun _ => ha) hl
        have := run_loadCells_list (P := P) w a' l' h4
        refine ⟨.agg l'.toArray, ?_, LR.agg (by simpa using h2) (by simpa using h3)⟩
        have hlen : l'.length = n := by rw [← h2.1, h1]
        simp only [loadVar, Sem.run_bind, aggT_run ht, Result.andThen_ok, if_true, Sem.run_ite, sizT_run hn]
        rw [← hlen, this]
        rfl
      · cases hv
    · cases hv
  · rename_i ht
    obtain ⟨v', h1, h2, _⟩ := ld1_sim h ha hv
    refine ⟨v', ?_, h2⟩
    simp only [loadVar, Sem.run_bind, aggT_run ht, Result.andThen_ok, Sem.run_ite, Bool.false_eq_true, if_false, run_load, h1]
  · cases hv
theorem stVar_sim (h : Sm w0 M s w) {t : TypeId} {a a' : Addr} (ha : AR M a a') {v v' : Value} (hv : VR M v v') {s' : St} (hs : stVar P w0.heap.size s t a v = some s') :
    ∃ w', (storeVar t a' v').run P w = .ok () w' ∧ Sm w0 M s' w' ∧ Gr M s w M s' w' := by
  unfold stVar at hs
  split at hs
  · rename_i hc
    obtain ⟨ht, hsz⟩ := hc
    obtain ⟨hl, h1⟩ := hv.cells ht
    obtain ⟨w', e1, e2⟩ := stN_sim (P := P) h (fun _ => ha) hl h1 hs
    refine ⟨w', ?_, e2⟩
    have : v'.cells.size = v.cells.size := by have := hl.1; simpa using this.symm
    simp only [storeVar, Sem.run_bind, sizT_run hsz, Result.andThen_ok, this, ne_eq, not_true_eq_false, if_false, Sem.run_ite]
    exact e1
  · cases hs

theorem partV_sim {t : TypeId} {cs cs' : Array Value} {off : Nat} {v : Value} (hc : VR M (.agg cs) (.agg cs')) (hv : partV P t cs off = some v) (w : World) : ∃ v', (part t cs' off).run P w = .ok v' w ∧ VR M v v' := by
  cases hc with
  | agg hs hr ho =>
    unfold partV at hv
    split at hv
    · rename_i ht
      split at hv
      · rename_i n hn
        cases hv
        refine ⟨.agg (cs'.extract off (off + n)), ?_, .agg (by simp [hs]) (fun i v v' a b => ?_) (fun i v a => ?_)⟩
        · simp only [part, Sem.run_bind, aggT_run ht, Result.andThen_ok, if_true, Sem.run_ite, sizT_run hn]; rfl
        · rw [Array.getElem?_extract] at a b
          split at a
          · rename_i hi
            rw [if_pos (by rw [← hs]; exact hi)] at b
            exact hr _ v v' a b
          · cases a
        · rw [Array.getElem?_extract] at a
          split at a
          · exact ho _ v a
          · cases a
      · cases hv
    · rename_i ht
      have hi : off < cs'.size := by rw [← hs]; exact (Array.getElem?_eq_some_iff.1 hv).1
      refine ⟨cs'[off], ?_, hr off v _ hv (Array.getElem?_eq_getElem hi)⟩
      simp only [part, Sem.run_bind, aggT_run ht, Result.andThen_ok, Sem.run_ite, Bool.false_eq_true, if_false, Array.getElem?_eq_getElem hi]
      rfl
    · cases hv

/-! ### Numbers -/
theorem beq_dec (a b : Int) : (a == b) = decide (a = b) := by by_cases h : a = b <;> simp [h]
theorem bne_dec (a b : Int) : (a != b) = decide (a ≠ b) := by by_cases h : a = b <;> simp [h, bne]
theorem bitV_run {op : BinOp} {k : IntKind} {x y z : Int} (h : bitV op k x y = some z) (w : World) : (Op.intBits op k x y).run P w = .ok (.int k z) w := by
  cases op <;> simp only [bitV, Option.some.injEq, reduceCtorEq] at h <;> subst h <;> (unfold Op.intBits; simp)
theorem intV_run {op : BinOp} {k k' : IntKind} {x y : Int} {v : Value} (h : intV op k x k' y = some v) (t : TypeId) (w : World) :
    (binOp op t (.int k x) (.int k' y)).run P w = .ok v w ∧ VR M v v := by
  cases op <;> simp only [intV] at h
  case shl =>
    split at h
    · cases h; rename_i hy; refine ⟨?_, .int _ _⟩; simp only [binOp, Op.shift]; rw [if_neg (by omega)]; rfl
    · cases h
  case shr =>
    split at h
    · cases h; rename_i hy; refine ⟨?_, .int _ _⟩; simp only [binOp, Op.shift]; rw [if_neg (by omega)]; rfl
    · cases h
  case quo =>
    split at h
    · rename_i hk; obtain ⟨rfl, hy⟩ := hk; cases h; exact ⟨by simp [binOp, Op.intDiv, hy], .int _ _⟩
    · cases h
  case rem =>
    split at h
    · rename_i hk; obtain ⟨rfl, hy⟩ := hk; cases h; exact ⟨by simp [binOp, Op.intDiv, hy], .int _ _⟩
    · cases h
  case and =>
    split at h
    · rename_i hk; subst hk
      obtain ⟨z, hz, rfl⟩ := Option.map_eq_some_iff.1 h
      exact ⟨by simp only [binOp, ne_eq, not_true_eq_false, if_false]; exact bitV_run hz w, .int _ _⟩
    · cases h
  case or =>
    split at h
    · rename_i hk; subst hk
      obtain ⟨z, hz, rfl⟩ := Option.map_eq_some_iff.1 h
      exact ⟨by simp only [binOp, ne_eq, not_true_eq_false, if_false]; exact bitV_run hz w, .int _ _⟩
    · cases h
  case xor =>
    split at h
    · rename_i hk; subst hk
      obtain ⟨z, hz, rfl⟩ := Option.map_eq_some_iff.1 h
      exact ⟨by simp only [binOp, ne_eq, not_true_eq_false, if_false]; exact bitV_run hz w, .int _ _⟩
    · cases h
  case andNot =>
    split at h
    · rename_i hk; subst hk
      obtain ⟨z, hz, rfl⟩ := Option.map_eq_some_iff.1 h
      exact ⟨by simp only [binOp, ne_eq, not_true_eq_false, if_false]; exact bitV_run hz w, .int _ _⟩
    · cases h
  all_goals
    split at h
    · rename_i hk
      subst hk
      simp only [Option.some.injEq] at h
      first
        | (subst h; exact ⟨by simp [binOp, Op.intArith], .int _ _⟩)
        | (subst h; exact ⟨by simp only [binOp, Op.intCmp, ne_eq, not_true_eq_false, if_false, Sem.run_pure, beq_dec, bne_dec, gt_iff_lt, ge_iff_le], .bool _⟩)
    · cases h
theorem strV_run {op : BinOp} {x y : ByteArray} {v : Value} (h : strV op x y = some v) (t : TypeId) (w : World) :
    (binOp op t (.string x) (.string y)).run P w = .ok v w ∧ VR M v v := by
  cases op <;> simp only [strV] at h
  case add =>
    split at h
    · rename_i hl; cases h
      refine ⟨?_, .str _⟩
      simp only [binOp, Op.stringOp]
      rw [if_neg (by omega)]; rfl
    · cases h
  all_goals first | (cases h; exact ⟨by simp [binOp, Op.stringOp], .bool _⟩) | cases h
theorem unV_run {op : UnOp} {x v : Value} (h : unV op x = some v) (w : World) : ∀ x', VR M x x' → (Op.unary op x').run P w = .ok v w ∧ VR M v v := by
  intro x' hx
  cases op <;> cases hx <;> simp only [unV, Option.some.injEq, reduceCtorEq] at h
  · subst h; exact ⟨by simp [Op.unary, Op.intArith], .int _ _⟩
  · obtain ⟨z, hz, rfl⟩ := Option.map_eq_some_iff.1 h
    exact ⟨by simp only [Op.unary]; exact bitV_run hz w, .int _ _⟩
  · subst h; exact ⟨by simp [Op.unary], .bool _⟩

end
end Go.Ab
