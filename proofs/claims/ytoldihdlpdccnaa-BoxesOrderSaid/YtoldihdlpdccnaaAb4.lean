/- The simulation: how values, heaps and frames of the abstract machine stand for the model's. -/
import Derived.Test.YtoldihdlpdccnaaAb3
set_option linter.unusedVariables false
namespace Go.Ab
open Go Go.RowKit

structure Mp where
  blk : Nat → Option (Nat × Nat)
  gr : Nat → Option Nat
  sz : Nat → Nat

def AR (M : Mp) (a a' : Addr) : Prop := ∃ B d, M.blk a.block = some (B, d) ∧ a' = ⟨B, a.off + d, a.spot⟩
inductive FR (M : Mp) : Fn → Fn → Prop
  | yield {l l'} (h : M.blk l = some (l', 0)) : FR M (.yield l) (.yield l')
  | other {f} (h : ∀ l, f ≠ .yield l) : FR M f f

inductive VR (M : Mp) : Value → Value → Prop
  | bool (b) : VR M (.bool b) (.bool b)
  | int (k n) : VR M (.int k n) (.int k n)
  | float (k b) : VR M (.float k b) (.float k b)
  | complex (k x y) : VR M (.complex k x y) (.complex k x y)
  | str (s) : VR M (.string s) (.string s)
  | ptrN : VR M (.pointer none) (.pointer none)
  | ptr {a a'} (h : AR M a a') : VR M (.pointer (some a)) (.pointer (some a'))
  | sliN (l c) : VR M (.slice none l c) (.slice none l c)
  | sli0 {x} (a a') (h : M.blk a.block = some x) : VR M (.slice (some a) 0 0) (.slice (some a') 0 0)
  | sli {a a' len cap cap'} (h : AR M a a') (hx : cap' = cap ∨ ∃ z, M.gr a.block = some z ∧ cap ≤ cap' ∧ a'.off + cap' * z ≤ M.sz a'.block) :
      VR M (.slice (some a) len cap) (.slice (some a') len cap')
  | mapN : VR M (.map none) (.map none)
  | map {r r'} (h : M.blk r = some (r', 0)) : VR M (.map (some r)) (.map (some r'))
  | chanN : VR M (.chan none) (.chan none)
  | funcN : VR M .nilFunc .nilFunc
  | ifaceN : VR M .nilIface .nilIface
  | func {fn fn' fi fi' ca ca'} (h : FR M fn fn') (s1 : fi.size = fi'.size) (h1 : ∀ (i : Nat) v v', fi[i]? = some v → fi'[i]? = some v' → VR M v v')
      (s2 : ca.size = ca'.size) (h2 : ∀ (i : Nat) v v', ca[i]? = some v → ca'[i]? = some v' → VR M v v') : VR M (.func fn fi ca) (.func fn' fi' ca')
  | iface (t) {v v'} (h : VR M v v') : VR M (.iface t v) (.iface t v')
  | agg {c c'} (s : c.size = c'.size) (h : ∀ (i : Nat) v v', c[i]? = some v → c'[i]? = some v' → VR M v v') (o : ∀ (i : Nat) v, c[i]? = some v → oneB v = true) : VR M (.agg c) (.agg c')
  | tuple {c c'} (s : c.size = c'.size) (h : ∀ (i : Nat) v v', c[i]? = some v → c'[i]? = some v' → VR M v v') : VR M (.tuple c) (.tuple c')

structure Mle (M M' : Mp) : Prop where
  blk : ∀ b x, M.blk b = some x → M'.blk b = some x
  gr : ∀ b x, M.blk b = some x → M'.gr b = M.gr b
  sz : ∀ b x, M.blk b = some x → M'.sz x.1 = M.sz x.1
theorem Mle.refl (M : Mp) : Mle M M := ⟨fun _ _ h => h, fun _ _ _ => rfl, fun _ _ _ => rfl⟩
theorem Mle.trans {M M' M'' : Mp} (h : Mle M M') (k : Mle M' M'') : Mle M M'' :=
  ⟨fun b x e => k.blk b x (h.blk b x e), fun b x e => (k.gr b x (h.blk b x e)).trans (h.gr b x e), fun b x e => (k.sz b x (h.blk b x e)).trans (h.sz b x e)⟩
theorem AR.mono {M M' : Mp} (hm : Mle M M') {a a' : Addr} (h : AR M a a') : AR M' a a' := by
  obtain ⟨B, d, h, e⟩ := h; exact ⟨B, d, hm.blk _ _ h, e⟩
theorem FR.mono {M M' : Mp} (hm : Mle M M') {a a' : Fn} (h : FR M a a') : FR M' a a' := by
  cases h with
  | yield h => exact .yield (hm.blk _ _ h)
  | other h => exact .other h
theorem VR.mono {M M' : Mp} (hm : Mle M M') {v v' : Value} (h : VR M v v') : VR M' v v' := by
  induction h with
  | bool => exact .bool _
  | int => exact .int _ _
  | float => exact .float _ _
  | complex => exact .complex _ _ _
  | str => exact .str _
  | ptrN => exact .ptrN
  | ptr h => exact .ptr (h.mono hm)
  | sliN => exact .sliN _ _
  | sli0 _ _ h => exact .sli0 _ _ (hm.blk _ _ h)
  | @sli a a' len cap cap' h hx =>
    have h' := h
    obtain ⟨B, d, hb, rfl⟩ := h'
    have hgr := hm.gr _ _ hb
    have hsz := hm.sz _ _ hb
    refine .sli (h.mono hm) ?_
    rcases hx with hx | ⟨z, h1, h2, h3⟩
    · exact .inl hx
    · exact .inr ⟨z, by rw [hgr]; exact h1, h2, by simp only at hsz h3 ⊢; rw [hsz]; exact h3⟩
  | mapN => exact .mapN
  | map h => exact .map (hm.blk _ _ h)
  | chanN => exact .chanN
  | funcN => exact .funcN
  | ifaceN => exact .ifaceN
  | func h s1 _ s2 _ ih1 ih2 => exact .func (h.mono hm) s1 ih1 s2 ih2
  | iface t _ ih => exact .iface t ih
  | agg s _ o ih => exact .agg s ih o
  | tuple s _ ih => exact .tuple s ih

theorem VR.oneB {M : Mp} {v v' : Value} (h : VR M v v') : oneB v' = oneB v := by cases h <;> rfl
theorem oneB_eq (v : Value) : v.oneCell' = oneB v := by cases v <;> rfl
theorem VR.isTup {M : Mp} {v v' : Value} (h : VR M v v') : isTup v' = isTup v := by cases h <;> rfl

/-- Lists of values. -/
def LR (M : Mp) (l l' : List Value) : Prop := l.length = l'.length ∧ ∀ (i : Nat) v v', l[i]? = some v → l'[i]? = some v' → VR M v v'
theorem LR.nil (M : Mp) : LR M [] [] := ⟨rfl, fun i v v' h => by simp at h⟩
theorem LR.cons {M : Mp} {v v' : Value} {l l' : List Value} (h : VR M v v') (hl : LR M l l') : LR M (v :: l) (v' :: l') :=
  ⟨by simp [hl.1], fun i u u' h1 h2 => by
    cases i with
    | zero => simp at h1 h2; subst h1; subst h2; exact h
    | succ i => exact hl.2 i u u' (by simpa using h1) (by simpa using h2)⟩
theorem LR.head {M : Mp} {v v' : Value} {l l' : List Value} (h : LR M (v :: l) (v' :: l')) : VR M v v' := h.2 0 v v' rfl rfl
theorem LR.tail {M : Mp} {v v' : Value} {l l' : List Value} (h : LR M (v :: l) (v' :: l')) : LR M l l' :=
  ⟨by simpa using h.1, fun i u u' h1 h2 => h.2 (i + 1) u u' (by simpa using h1) (by simpa using h2)⟩
theorem LR.inv_nil {M : Mp} {l' : List Value} (h : LR M [] l') : l' = [] := List.eq_nil_of_length_eq_zero (by simpa using h.1.symm)
theorem LR.inv_cons {M : Mp} {v : Value} {l l' : List Value} (h : LR M (v :: l) l') : ∃ v' r, l' = v' :: r ∧ VR M v v' ∧ LR M l r := by
  cases l' with
  | nil => simp [LR] at h
  | cons v' r => exact ⟨v', r, rfl, h.head, h.tail⟩
theorem LR.append {M : Mp} {a a' b b' : List Value} (h : LR M a a') (k : LR M b b') : LR M (a ++ b) (a' ++ b') := by
  induction a generalizing a' with
  | nil => rw [h.inv_nil]; exact k
  | cons v l ih => obtain ⟨v', r, rfl, hv, hl⟩ := h.inv_cons; exact .cons hv (ih hl)
theorem LR.mono {M M' : Mp} (hm : Mle M M') {l l' : List Value} (h : LR M l l') : LR M' l l' := ⟨h.1, fun i v v' a b => (h.2 i v v' a b).mono hm⟩
theorem LR.at {M : Mp} {l l' : List Value} (h : LR M l l') {i : Nat} {v : Value} (hv : l[i]? = some v) : ∃ v', l'[i]? = some v' ∧ VR M v v' := by
  have hi : i < l.length := (List.getElem?_eq_some_iff.1 hv).1
  have : i < l'.length := by rw [← h.1]; exact hi
  exact ⟨l'[i], List.getElem?_eq_getElem this, h.2 i v _ hv (List.getElem?_eq_getElem this)⟩
theorem LR.map {M : Mp} {α : Type} {f g : α → Value} {l : List α} (h : ∀ x ∈ l, VR M (f x) (g x)) : LR M (l.map f) (l.map g) := by
  induction l with
  | nil => exact .nil M
  | cons x l ih => exact .cons (h x (by simp)) (ih fun y hy => h y (by simp [hy]))
theorem LR.agg {M : Mp} {c c' : Array Value} (h : LR M c.toList c'.toList) (o : ∀ v ∈ c.toList, oneB v = true) : VR M (.agg c) (.agg c') :=
  .agg (by simpa using h.1) (fun i v v' a b => h.2 i v v' (by simpa using a) (by simpa using b)) (fun i v hv => o v (by have := Array.mem_of_getElem? hv; simpa using this))
theorem LR.tuple {M : Mp} {c c' : Array Value} (h : LR M c.toList c'.toList) : VR M (.tuple c) (.tuple c') :=
  .tuple (by simpa using h.1) (fun i v v' a b => h.2 i v v' (by simpa using a) (by simpa using b))
theorem LR.ofArr {M : Mp} {c c' : Array Value} (s : c.size = c'.size) (h : ∀ (i : Nat) v v', c[i]? = some v → c'[i]? = some v' → VR M v v') : LR M c.toList c'.toList :=
  ⟨by simpa using s, fun i v v' a b => h i v v' (by simpa using a) (by simpa using b)⟩

/-- A value as cells. -/
theorem VR.cells {M : Mp} {v v' : Value} (h : VR M v v') (ht : Ab.isTup v = false) : LR M v.cells.toList v'.cells.toList ∧ ∀ u ∈ v.cells.toList, Ab.oneB u = true := by
  cases h with
  | agg s h o => exact ⟨LR.ofArr s h, fun u hu => by
      obtain ⟨i, hi⟩ := List.mem_iff_getElem?.1 hu
      exact o i u (by simpa [Value.cells] using hi)⟩
  | tuple s h => simp [Ab.isTup] at ht
  | bool b => exact ⟨.cons (.bool b) (.nil M), by simp [Value.cells, Ab.oneB]⟩
  | int k n => exact ⟨.cons (.int k n) (.nil M), by simp [Value.cells, Ab.oneB]⟩
  | float k n => exact ⟨.cons (.float k n) (.nil M), by simp [Value.cells, Ab.oneB]⟩
  | complex k x y => exact ⟨.cons (.complex k x y) (.nil M), by simp [Value.cells, Ab.oneB]⟩
  | str s => exact ⟨.cons (.str s) (.nil M), by simp [Value.cells, Ab.oneB]⟩
  | ptrN => exact ⟨.cons .ptrN (.nil M), by simp [Value.cells, Ab.oneB]⟩
  | ptr h => exact ⟨.cons (.ptr h) (.nil M), by simp [Value.cells, Ab.oneB]⟩
  | sliN l c => exact ⟨.cons (.sliN l c) (.nil M), by simp [Value.cells, Ab.oneB]⟩
  | sli0 a a' h => exact ⟨.cons (.sli0 a a' h) (.nil M), by simp [Value.cells, Ab.oneB]⟩
  | sli h hx => exact ⟨.cons (.sli h hx) (.nil M), by simp [Value.cells, Ab.oneB]⟩
  | mapN => exact ⟨.cons .mapN (.nil M), by simp [Value.cells, Ab.oneB]⟩
  | map h => exact ⟨.cons (.map h) (.nil M), by simp [Value.cells, Ab.oneB]⟩
  | chanN => exact ⟨.cons .chanN (.nil M), by simp [Value.cells, Ab.oneB]⟩
  | funcN => exact ⟨.cons .funcN (.nil M), by simp [Value.cells, Ab.oneB]⟩
  | ifaceN => exact ⟨.cons .ifaceN (.nil M), by simp [Value.cells, Ab.oneB]⟩
  | func h s1 h1 s2 h2 => exact ⟨.cons (.func h s1 h1 s2 h2) (.nil M), by simp [Value.cells, Ab.oneB]⟩
  | iface t h => exact ⟨.cons (.iface t h) (.nil M), by simp [Value.cells, Ab.oneB]⟩

/-! ### Heaps -/
def ER (M : Mp) (e : Env) (tmps : Array Value) : Prop := ∀ t, t < tmps.size → VR M (e t) (tmps.getD t undef)

structure LoopR (G : Nat) (M : Mp) (r : LoopRec) (R : Loop) : Prop where
  env : ER M r.env R.tmps
  params : R.params = r.params
  assign : R.assign = r.assign
  body : R.body = r.body
  state : R.state = r.state
  pending : R.pending = r.pending
  okA : codeOk G R.tmps.size r.assign = true
  okB : codeOk G R.tmps.size r.body = true
  okP : ∀ t ∈ r.params.toList, t < R.tmps.size
  rfA : noRF r.assign = true
  rfB : noRF r.body = true

def RowR (M : Mp) (x : Nat × Nat) (c : List Value) (o : Obj) : Prop :=
  ∃ C t, o = .cells C t (0, 0) ∧ C.size = M.sz x.1 ∧ ∀ (i : Nat) v, c[i]? = some v → oneB v = true ∧ ∃ v', C[x.2 + i]? = some v' ∧ VR M v v'
def OR (G0 : Nat) (M : Mp) (b : Nat) (x : Nat × Nat) : AObj → Obj → Prop
  | .row c, o => M.gr b = none ∧ RowR M x c o
  | .grown c z, o => M.gr b = some z ∧ RowR M x c o
  | .iter s p, o => o = .stringIter s p
  | .loop r, o => x.2 = 0 ∧ ∃ R G, o = .loop R ∧ LoopR G M r R ∧ G ≤ G0 ∧ R.tmps.size = M.sz x.1
  | .map _, _ => False
  | .gone, _ => True
def goneB : AObj → Bool
  | .gone => true
  | _ => false

def oldObj (w0 : World) (b : Nat) : AObj := match w0.heap[b]? with | some (.cells c _ _) => .row c.toList | _ => .gone
structure Sm (w0 : World) (M : Mp) (s : St) (w : World) : Prop where
  below : Below w0.heap.size w0 w
  nxt : w0.heap.size ≤ s.next
  old : ∀ b, b < w0.heap.size → M.blk b = some (b, 0) ∧ M.gr b = none
  olds : ∀ b, b < w0.heap.size → s.heap b = oldObj w0 b
  new : ∀ b x, M.blk b = some x → w0.heap.size ≤ b → b < s.next ∧ w0.heap.size ≤ x.1 ∧ ∃ o, w.heap[x.1]? = some o ∧ OR w0.heap.size M b x (s.heap b) o
  inj : ∀ b b' x x', w0.heap.size ≤ b → w0.heap.size ≤ b' → M.blk b = some x → M.blk b' = some x' → x.1 = x'.1 → goneB (s.heap b) = false → goneB (s.heap b') = false → b = b'

/-- What a step may do: the map grows; blocks that stand for nothing that lives stay. -/
structure Gr (M : Mp) (s : St) (w : World) (M' : Mp) (s' : St) (w' : World) : Prop where
  le : Mle M M'
  nxt : s.next ≤ s'.next
  dom : ∀ b x, M'.blk b = some x → b < s.next → M.blk b = some x
  img : ∀ b x, M'.blk b = some x → (∃ b' x', M.blk b' = some x' ∧ x'.1 = x.1) ∨ w.heap.size ≤ x.1
  live : ∀ b x, M'.blk b = some x → goneB (s'.heap b) = false → (∃ b' x', M.blk b' = some x' ∧ goneB (s.heap b') = false ∧ x'.1 = x.1) ∨ w.heap.size ≤ x.1
  fr : ∀ B, B < w.heap.size → (∀ b x, M.blk b = some x → goneB (s.heap b) = false → x.1 ≠ B) → w'.heap[B]? = w.heap[B]?
  size : w.heap.size ≤ w'.heap.size
theorem Gr.refl (M : Mp) (s : St) (w : World) : Gr M s w M s w := ⟨.refl M, Nat.le_refl _, fun _ _ h _ => h, fun b x h => .inl ⟨b, x, h, rfl⟩, fun b x h g => .inl ⟨b, x, h, g, rfl⟩, fun _ _ _ => rfl, Nat.le_refl _⟩
theorem Gr.trans {M M' M'' : Mp} {s s' s'' : St} {w w' w'' : World} (h : Gr M s w M' s' w') (k : Gr M' s' w' M'' s'' w'') : Gr M s w M'' s'' w'' := by
  refine ⟨h.le.trans k.le, Nat.le_trans h.nxt k.nxt, fun b x hx hb => h.dom b x (k.dom b x hx (Nat.lt_of_lt_of_le hb h.nxt)) hb, fun b x hx => ?_, fun b x hx hg => ?_, fun B hB hn => ?_, Nat.le_trans h.size k.size⟩
  · rcases k.img b x hx with ⟨b', x', h1, h2⟩ | h1
    · rcases h.img b' x' h1 with ⟨b2, x2, h3, h4⟩ | h3
      · exact .inl ⟨b2, x2, h3, h4.trans h2⟩
      · exact .inr (by omega)
    · exact .inr (Nat.le_trans h.size h1)
  · rcases k.live b x hx hg with ⟨b', x', h1, hg', h2⟩ | h1
    · rcases h.live b' x' h1 hg' with ⟨b2, x2, h3, hg2, h4⟩ | h3
      · exact .inl ⟨b2, x2, h3, hg2, h4.trans h2⟩
      · exact .inr (by omega)
    · exact .inr (Nat.le_trans h.size h1)
  · rw [k.fr B (Nat.lt_of_lt_of_le hB h.size) fun b x hx hg => ?_, h.fr B hB hn]
    rcases h.live b x hx hg with ⟨b', x', h1, hg', h2⟩ | h1
    · exact h2 ▸ hn b' x' h1 hg'
    · omega

theorem OR.mono {G0 : Nat} {M M' : Mp} (hm : Mle M M') {b : Nat} {x : Nat × Nat} (hb : M.blk b = some x) {a : AObj} {o : Obj} (h : OR G0 M b x a o) : OR G0 M' b x a o := by
  have row : ∀ c, RowR M x c o → RowR M' x c o := by
    rintro c ⟨C, t, rfl, hs, hc⟩
    exact ⟨C, t, rfl, by rw [hs, hm.sz _ _ hb], fun i v hv => let ⟨h1, v', h2, h3⟩ := hc i v hv; ⟨h1, v', h2, h3.mono hm⟩⟩
  cases a with
  | row c => exact ⟨by rw [hm.gr _ _ hb]; exact h.1, row _ h.2⟩
  | grown c z => exact ⟨by rw [hm.gr _ _ hb]; exact h.1, row _ h.2⟩
  | iter s p => exact h
  | loop r =>
    obtain ⟨h0, R, G, rfl, hR, hG, hz⟩ := h
    exact ⟨h0, R, G, rfl, ⟨fun t ht => (hR.env t ht).mono hm, hR.params, hR.assign, hR.body, hR.state, hR.pending, hR.okA, hR.okB, hR.okP, hR.rfA, hR.rfB⟩, hG, by rw [hz, hm.sz _ _ hb]⟩
  | map _ => exact h.elim
  | gone => trivial
end Go.Ab
