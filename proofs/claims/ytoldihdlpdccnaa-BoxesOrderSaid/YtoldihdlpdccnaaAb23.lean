/- A row, closed: what runs to true in the abstract machine is the law's statement. -/
import Derived.Test.YtoldihdlpdccnaaAb22
import Derived.ProofKit
import Derived.Carry
import Derived.HandedShaped
set_option linter.unusedVariables false
set_option linter.unusedSimpArgs false
namespace Go.Ab
open Go Go.RowKit Go.ChangeShapes Go.WideShapes Go.ChangeAt

def isAggT (P : Program) (t : TypeId) : Bool := match P.underlying t with | some (.struct _) | some (.array _ _) => true | _ => false
/-- What is told of an argument. -/
def hasRow (W : World) (u : Value) : Prop := ∀ a len cap, u = .slice (some a) len cap → a.spot = none ∧ a.block < W.heap.size ∧ ∃ c ty fr, W.heap[a.block]? = some (.cells c ty fr)
def ArgR (P : Program) (W : World) (t : TypeId) (v : Value) : Prop :=
  ∃ ks, flat P 16 t = some ks ∧ okCells W ks v.cells.toList ∧ (isAggT P t = true → ∃ cs, v = .agg cs) ∧ (isAggT P t = false → v.cells = #[v]) ∧ ∀ u ∈ v.cells.toList, hasRow W u
def ArgsR (P : Program) (W : World) : List TypeId → List Value → Prop
  | [], vs => vs = []
  | t :: ts, vs => ∃ v r, vs = v :: r ∧ ArgR P W t v ∧ ArgsR P W ts r

theorem cell_old {P : Program} {W : World} {base : Nat} {u : TypeId} {k : CK} {v : Value} (h : okCell W k v) (hw : Cell.okWide P W .any base u v) : oldOk W.heap.size v = true := by
  cases k with
  | int k => simp only [okCell] at h; obtain ⟨n, rfl, _⟩ := h; rfl
  | bool => simp only [okCell] at h; obtain ⟨n, rfl⟩ := h; rfl
  | str => simp only [okCell] at h; obtain ⟨n, rfl, _⟩ := h; rfl
  | sl es =>
    simp only [okCell] at h
    rcases h with rfl | ⟨a, len, cap, rfl, h1, h2, h3⟩
    · rfl
    · have hh : ∃ e, W.has P .any base a e cap := by
        cases hu : P.underlying u with
        | none => simp [Cell.okWide, Cell.ok, hu] at hw
        | some D => cases D <;> simp [Cell.okWide, Cell.ok, hu] at hw; exact ⟨_, hw.2.2⟩
      obtain ⟨e, _, _, row, cells, hs, _⟩ := hh
      have hlt : a.block < W.heap.size := by
        unfold World.shape? at hs
        rcases Nat.lt_or_ge a.block W.heap.size with h | h
        · exact h
        · rw [Array.getElem?_eq_none h] at hs; simp at hs
      simp [oldOk, oldA, hlt]
theorem cell_has {P : Program} {W : World} {base : Nat} {u : TypeId} {v : Value} (hw : Cell.okWide P W .any base u v) : hasRow W v := by
  rintro a len cap rfl
  have hh : ∃ e, W.has P .any base a e cap := by
    cases hu : P.underlying u with
    | none => simp [Cell.okWide, Cell.ok, hu] at hw
    | some D => cases D <;> simp [Cell.okWide, Cell.ok, hu] at hw; exact ⟨_, hw.2.2⟩
  obtain ⟨e, _, hsp, row, cells, hs, _⟩ := hh
  have hlt : a.block < W.heap.size := by
    unfold World.shape? at hs
    rcases Nat.lt_or_ge a.block W.heap.size with h | h
    · exact h
    · rw [Array.getElem?_eq_none h] at hs; simp at hs
  refine ⟨hsp, hlt, ?_⟩
  unfold World.shape? at hs
  split at hs
  · rename_i c ty fr hc; exact ⟨c, ty, fr, hc⟩
  · cases hs
theorem cells_old {P : Program} {W : World} {base : Nat} : ∀ {ks : List CK} {l : List Value}, okCells W ks l → (∀ v ∈ l, ∃ u, Cell.okWide P W .any base u v) → l.all (oldOk W.heap.size) = true := by
  intro ks
  induction ks with
  | nil => intro l h _; simp only [okCells] at h; subst h; rfl
  | cons k ks ih =>
    intro l h hw
    simp only [okCells] at h
    obtain ⟨v, r, rfl, h1, h2⟩ := h
    obtain ⟨u, hu⟩ := hw v (by simp)
    simp only [List.all_cons, Bool.and_eq_true]
    exact ⟨cell_old h1 hu, ih h2 fun v hv => hw v (by simp [hv])⟩

theorem arg_told {H : Type} {enc : TypeId × Value → H} {P : Program} {W : World} {base : Nat} {t : TypeId} {v : Value} {d : DataW H} {ps : List MemPlace} (hf : (flat P 16 t).isSome = true)
    (hok : Value.okWide P W .any base t v) (h : DataW.Trod enc P W 0 (fun _ => true) true t v d ps) : ArgR P W t v ∧ argOk W.heap.size v = true := by
  obtain ⟨ks, hks⟩ := Option.isSome_iff_exists.1 hf
  obtain ⟨fuel, hd⟩ := h
  have hc := trod_ok 16 fuel t ks _ _ hks hd
  cases hag : isAggT P t with
  | true =>
    obtain ⟨cs, rfl, hrow⟩ : ∃ cs, v = .agg cs ∧ Row.okWide P W .any base t cs := by
      unfold isAggT at hag
      unfold Value.okWide at hok
      split at hag
      · rename_i fs hu; rw [hu] at hok; exact ⟨hok.choose, hok.choose_spec.1, hok.choose_spec.2.2⟩
      · rename_i k e hu; rw [hu] at hok; exact ⟨hok.choose, hok.choose_spec.1, hok.choose_spec.2.2⟩
      · cases hag
    obtain ⟨ts, _, _, hr⟩ := hrow
    have hall : ∀ u ∈ cs.toList, ∃ x, Cell.okWide P W .any base x u := fun u hu => by
      obtain ⟨i, hi⟩ := List.mem_iff_getElem?.1 hu
      obtain ⟨x, _, hx⟩ := hr i u (by simpa using hi)
      exact ⟨x, hx⟩
    refine ⟨⟨ks, hks, hc, fun _ => ⟨cs, rfl⟩, fun h => (by rw [hag] at h; cases h), fun u hu => cell_has (hall u hu).choose_spec⟩, ?_⟩
    exact cells_old (P := P) (base := base) (l := cs.toList) (by simpa [Value.cells] using hc) hall
  | false =>
    have hcell : Cell.okWide P W .any base t v := by
      unfold isAggT at hag
      unfold Value.okWide at hok
      split at hag
      · cases hag
      · cases hag
      · rename_i h1 h2
        split at hok
        · rename_i fs hu; exact absurd hu (h1 fs)
        · rename_i k e hu; exact absurd hu (h2 k e)
        · exact hok
    have hne : (∀ c, v ≠ .agg c) ∧ (∀ c, v ≠ .tuple c) := by
      constructor <;>
      · rintro c rfl
        cases hu : P.underlying t with
        | none => simp [Cell.okWide, Cell.ok, hu] at hcell
        | some D => cases D <;> simp [Cell.okWide, Cell.ok, hu] at hcell
    have hone : v.cells = #[v] := by
      cases v with
      | agg cs => exact absurd rfl (hne.1 cs)
      | tuple cs => exact absurd rfl (hne.2 cs)
      | _ => rfl
    refine ⟨⟨ks, hks, hc, fun h => (by rw [hag] at h; cases h), fun _ => hone, fun u hu => (by rw [hone] at hu; simp at hu; rw [hu]; exact cell_has hcell)⟩, ?_⟩
    have hall := cells_old (P := P) (base := base) hc fun u hu => ⟨t, by rw [hone] at hu; simp at hu; rw [hu]; exact hcell⟩
    rw [hone] at hall
    simp at hall
    cases v with
    | agg cs => exact absurd rfl (hne.1 cs)
    | _ => exact hall

theorem args_told {H : Type} {enc : TypeId × Value → H} {P : Program} {W : World} {base : Nat} : ∀ (ts : List TypeId) (vs : List Value) (ds : List (DataW H)) (ps : List MemPlace), ts.all (fun t => (flat P 16 t).isSome) = true →
    (∀ (j : Nat) t v, ts[j]? = some t → vs[j]? = some v → Value.okWide P W .any base t v) → DataW.TrodAll enc P W 0 (fun _ => true) true ts vs ds ps → ArgsR P W ts vs ∧ vs.all (argOk W.heap.size) = true := by
  intro ts
  induction ts with
  | nil => intro vs ds ps _ _ h; obtain ⟨rfl, _, _⟩ := trodAll_nil h; exact ⟨rfl, rfl⟩
  | cons t ts ih =>
    intro vs ds ps hf hok h
    obtain ⟨v, vs', d, ds', p, q, rfl, rfl, rfl, h1, h2⟩ := trodAll_cons h
    simp only [List.all_cons, Bool.and_eq_true] at hf ⊢
    obtain ⟨a1, a2⟩ := arg_told hf.1 (hok 0 t v rfl rfl) h1
    obtain ⟨b1, b2⟩ := ih vs' ds' q hf.2 (fun j t v h1 h2 => hok (j + 1) t v (by simpa using h1) (by simpa using h2)) h2
    exact ⟨⟨v, vs', rfl, a1, b1⟩, a2, b2⟩

theorem below_all {H : Type} {enc : TypeId × Value → H} {P : Program} (hl : laidOutB P = true) {W W' : World} (hb : Below W.heap.size W W') : ∀ (ts : List TypeId) (vs : List Value) (ds : List (DataW H)) (ps : List MemPlace),
    ts.all (fun t => P.readableRec t && decide (t < P.types.size)) = true → DataW.TrodAll enc P W 0 (fun _ => true) true ts vs ds ps → DataW.TrodAll enc P W' 0 (fun b => decide (b < W.heap.size)) true ts vs ds ps := by
  intro ts
  induction ts with
  | nil => intro vs ds ps _ h; obtain ⟨rfl, rfl, rfl⟩ := trodAll_nil h; exact rfl
  | cons t ts ih =>
    intro vs ds ps hf h
    obtain ⟨v, vs', d, ds', p, q, rfl, rfl, rfl, h1, h2⟩ := trodAll_cons h
    simp only [List.all_cons, Bool.and_eq_true, decide_eq_true_eq] at hf
    obtain ⟨fuel, hd⟩ := h1
    exact ⟨p, q, Below.trod hl hf.1.1 hf.1.2 ⟨fuel, hd⟩ hb (DataW.trod_lt fuel _ _ _ hd), ih vs' ds' q (by simpa using hf.2) h2, rfl⟩

theorem row_lift {C : Checked} {f : FuncId} {fn : Func} {s : ChangeSpec} {conds : List PathCond} {os : Os} {H : Type} {enc : TypeId × Value → H} {G : Nat} {tb : TypeId}
    (own : ownKnob C.prog.godebug = none) (started : os.Started) (noInit : C.prog.inits.idxOf? f = none) (hfn : C.prog.funcs[f]? = some fn)
    (witness : ∃ (w : World) (tape : Tape) (i : Input), w.os = os ∧ (w.forCall tape i).Shaped C.prog ∧ i.vars = [] ∧ Input.okWide C.prog (w.forCall tape i) .any w.heap.size f i ∧
      s.pre6 enc C.prog fn conds false (w.forCall tape i).memory i.args ∧ ({} : Assume).holds C.prog (lone (Frame.enter C.prog f i.args .normal) [] (w.forCall tape i)))
    (hvars : s.vars = []) (hspec : ∀ ds : List (DataW H), ds.length = fn.params.size → s.fn H ds = { results := [.lit (.bool true)], args := ds })
    (hres : fn.resultTypes = #[tb]) (hb : C.prog.underlying tb = some .bool) (hl : laidOutB C.prog = true)
    (hts : fn.params.toList.all (fun t => C.prog.readableRec t && decide (t < C.prog.types.size)) = true) (hfl : fn.params.toList.all (fun t => (flat C.prog 16 t).isSome) = true)
    (hm : C.prog.follows .mixedOrders = true) (hP : progOk G C.prog = true) (hG : ∀ W : World, W.ShapedOpen C.prog → G ≤ W.heap.size)
    (law : ∀ (W : World) (args : List Value), W.ShapedOpen C.prog → ArgsR C.prog W fn.params.toList args → WC C.prog W.heap.size f args (St0 W) (fun v _ => v = .bool true)) :
    ReturnsInHanded {} C os f .any (s.pre6 enc C.prog fn conds false) (s.post enc C.prog fn false true false false) := by
  refine returnsInHanded_of_change_shaped own started noInit hfn witness ?_
  intro W base args ds gs before hval hW _ _ hsh _
  have hW' := hW
  obtain ⟨p, q, hA, hV, rfl, hfz, hnd⟩ := hW
  obtain ⟨ha, ho⟩ := args_told fn.params.toList args.toList ds p hfl (fun j t v h1 h2 => hval j t v (by simpa using h1) (by simpa using h2)) hA
  refine (calls_of_WC hm hP (hG W hsh) ho (law W args.toList hsh ha)).mono fun e W' ⟨he, bel⟩ => ?_
  subst he
  rw [hvars] at hV
  obtain ⟨rfl, rfl⟩ := trodVars_none hV
  have hlen : ds.length = fn.params.size := by
    have : ∀ (ts : List TypeId) (vs : List Value) (ds : List (DataW H)) (ps : List MemPlace), DataW.TrodAll enc C.prog W 0 (fun _ => true) true ts vs ds ps → ds.length = ts.length := by
      intro ts
      induction ts with
      | nil => intro vs ds ps h; obtain ⟨rfl, rfl, rfl⟩ := trodAll_nil h; rfl
      | cons t ts ih => intro vs ds ps h; obtain ⟨v, vs', d, ds', p, q, rfl, rfl, rfl, h1, h2⟩ := trodAll_cons h; simp [ih _ _ _ h2]
    simpa using this _ _ _ _ hA
  have hs : s.fn H (ds ++ []) = { results := [.lit (.bool true)], args := ds } := by rw [List.append_nil]; exact hspec ds hlen
  refine ⟨_, rfl, ds, [], _, [], p, [], hW', ?_, ?_, ?_, bel.frame _, fun h => by cases h⟩
  · rw [hs, hres]
    exact trodAll_mk1 (shut_bool hb _)
  · rw [hs]
    exact below_all hl bel _ _ _ _ hts hA
  · rw [hs, hvars]; rfl
end Go.Ab
