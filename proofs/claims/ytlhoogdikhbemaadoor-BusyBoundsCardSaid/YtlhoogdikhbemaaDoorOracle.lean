/- What the evaluator knows beforehand: how long a frame is at most. -/
import Derived.Test.YtlhoogdikhbemaaDoorTypes
import Derived.Test.YtlhoogdikhbemaaDoorRow0
import Derived.Test.YtlhoogdikhbemaaDoorAbC
import Derived.Test.YtlhoogdikhbemaaDoorPure
import Derived.Test.YtlhoogdikhbemaaDoorStreamJob
import Derived.Test.YtlhoogdikhbemaaDoorAbD
set_option linter.all false
set_option maxRecDepth 20000
namespace Go.Proofs.YtlhoogdikhbemaaDoor
open Go Go.Ab
def eqIL : List Value → List Value → Bool
  | [], [] => true
  | .int .u8 n :: l, .int .u8 m :: r => n == m && eqIL l r
  | _, _ => false
theorem eqIL_eq : ∀ {l r : List Value}, eqIL l r = true → l = r := by
  intro l
  induction l with
  | nil => intro r h; cases r with
    | nil => rfl
    | cons x r => simp [eqIL] at h
  | cons v l ih =>
    intro r h
    unfold eqIL at h
    split at h
    · exact absurd ‹_ :: _ = []› (by simp)
    · rename_i n l' m r' h1
      cases h1
      simp only [Bool.and_eq_true, beq_iff_eq] at h
      rw [h.1, ih h.2]
    · cases h
def divB (o : AObj) : Bool := match o with | .row c => eqIL c divC | _ => false
theorem divB_eq {o : AObj} (h : divB o = true) : o = .row divC := by
  unfold divB at h
  split at h
  · rw [eqIL_eq h]
  · cases h
def orc (g : FuncId) (args : List Value) (s : St) : Option Value :=
  cond (Nat.beq g 56) (match args with
    | [.bool true, .int .i64 n] => if 0 ≤ n ∧ n ≤ 8 ∧ divB (s.heap 0) = true ∧ 1 ≤ s.next then some (.int .i64 (costN n)) else none
    | _ => none) none
theorem orc_ok : OrcOk Tryd.prog 1 orc := by
  intro g args s v h
  unfold orc at h
  cases hg : Nat.beq g 56 with
  | false => rw [hg] at h; cases h
  | true =>
    rw [hg, cond_true] at h
    obtain rfl := Nat.eq_of_beq_eq_true hg
    split at h
    · rename_i n
      split at h
      · rename_i hc
        obtain ⟨h0, h8, hd, hn⟩ := hc
        cases h
        have hB : Bok 1 := ⟨Nat.le_refl _⟩
        obtain ⟨v', s', hE, rfl, rfl⟩ : WC Tryd.prog 1 56 [.bool true, .int .i64 n] s (fun v' s' => v' = .int .i64 (costN n) ∧ s' = s) :=
          WC_pureD (r := .int .i64 (costN n)) rfl rfl (divB_eq hd) (fun base s hB hn0 hg => most_p ⟨h0, h8⟩ hn0 hg fun _ _ => rfl) ⟨rfl, rfl⟩
        exact hE
      · cases h
    · cases h
def H0 : Tq AObj := .node .leaf (.row divC) .leaf
theorem WC_liveF {f : FuncId} (h : fastAt Tryd.prog H0 1 1000 30 orc f [] isTrueV = true) {base : Nat} [hB : Bok base] {s : St} {R : Value → St → Prop} (hg : s.heap 0 = .row divC) (hR : R (.bool true) s) : WC Tryd.prog base f [] s R := by
  have hth : ∀ b, b < 1 → H0.get .gone b = s.heap b := by
    intro b hb
    have h0 : b = 0 := by omega
    rw [h0, hg]; rfl
  exact WC_fastAt orc_ok (.bool true) isTrueV (fun r hr => by cases r <;> first | (simp [isTrueV] at hr; done) | (simp [isTrueV] at hr; rw [hr])) okProg1 rfl rfl h hB.le hth hR
end Go.Proofs.YtlhoogdikhbemaaDoor
