/- Jobs of streams, sent one by one: none ends later than the busy period behind its release. In plain words. -/
import Derived.Test.YtlhoogdikhbemaaDoorTypes
import Derived.Test.YtlhoogdikhbemaaDoorRow0
import Derived.Test.YtlhoogdikhbemaaDoorAbC
import Derived.Test.YtlhoogdikhbemaaDoorBits
import Derived.Test.YtlhoogdikhbemaaDoorBusyAll
set_option linter.all false
set_option maxRecDepth 20000
namespace Go.Proofs.YtlhoogdikhbemaaDoor
open Go Go.Ab
structure Jb where
  st : Int
  rel : Int
  dl : Int
  co : Int
abbrev Jb.c (j : Jb) : List Value := [.int .i64 j.st, .int .i64 j.rel, .int .i64 j.dl, .int .i64 j.co]
def jbZ : Jb := ⟨0, 0, 0, 0⟩
/-- A job of these streams. -/
def jbOk (ys : List Sm) (own : Bool) (j : Jb) : Prop := ∃ k, ∃ h : k < ys.length, j.st = (k : Int) ∧ j.co = ys[k].cost ∧ 0 ≤ j.rel ∧ j.rel ≤ 1000000 ∧ j.rel ≤ j.dl ∧ j.dl ≤ 2000000 ∧ (own = false → j.dl = j.rel + ys[k].de)
def gapJ (ys : List Sm) (a b : Jb) : Prop := a.st = b.st → a.rel + (atS ys a.st.toNat).pe ≤ b.rel
def winB (t p : Int) (j : Jb) : Bool := decide (t ≤ j.rel ∧ j.rel < t + p)
theorem gaps_end {pe T : Int} : ∀ {L : List Jb} {lo : Int}, L.Pairwise (fun a b => a.rel + pe ≤ b.rel) → (∀ j ∈ L, j.rel < T) → (∀ j ∈ L, lo ≤ j.rel) → L ≠ [] → lo + ((L.length : Int) - 1) * pe < T := by
  intro L
  induction L with
  | nil => intro lo _ _ _ h; exact absurd rfl h
  | cons a L ih =>
    intro lo hp hT hlo _
    rw [List.pairwise_cons] at hp
    have h1 := hlo a (by simp)
    have h2 := hT a (by simp)
    by_cases hL : L = []
    · subst hL; simp; omega
    · have h3 := ih hp.2 (fun j hj => hT j (by simp [hj])) (lo := a.rel + pe) (fun j hj => hp.1 j hj) hL
      have e : ((a :: L).length : Int) - 1 = ((L.length : Int) - 1) + 1 := by simp
      rw [e, Int.add_mul, Int.one_mul]
      omega
theorem gaps_count {pe t p : Int} (hpe : 1 ≤ pe) (hp : 1 ≤ p) {L : List Jb} (hg : L.Pairwise (fun a b => a.rel + pe ≤ b.rel)) (hw : ∀ j ∈ L, t ≤ j.rel ∧ j.rel < t + p) : (L.length : Int) ≤ cdv p pe := by
  by_cases hL : L = []
  · subst hL
    exact (cdv_in (by omega) hpe).1
  · have h1 := gaps_end hg (fun j hj => (hw j hj).2) (fun j hj => (hw j hj).1) hL
    unfold cdv
    rw [Int.le_ediv_iff_mul_le (by omega)]
    rw [Int.sub_mul, Int.one_mul] at h1
    omega
def sumK (f : Nat → Int) : Nat → List Sm → Int
  | _, [] => 0
  | i, x :: ys => f i * x.cost + sumK f (i + 1) ys
theorem sumK_zero : ∀ {ys : List Sm} {i : Nat}, sumK (fun _ => 0) i ys = 0 := by
  intro ys
  induction ys with
  | nil => intro i; rfl
  | cons x ys ih => intro i; rw [sumK, ih]; simp
theorem sumK_add {f g : Nat → Int} : ∀ {ys : List Sm} {i : Nat}, sumK (fun m => f m + g m) i ys = sumK f i ys + sumK g i ys := by
  intro ys
  induction ys with
  | nil => intro i; rfl
  | cons x ys ih => intro i; simp only [sumK, ih, Int.add_mul]; omega
theorem sumK_none {q : Nat} : ∀ {ys : List Sm} {i : Nat}, q < i → sumK (fun m => if m = q then 1 else 0) i ys = 0 := by
  intro ys
  induction ys with
  | nil => intro i _; rfl
  | cons x ys ih => intro i h; rw [sumK, ih (by omega), if_neg (by omega)]; simp
theorem sumK_one : ∀ {ys : List Sm} {i k : Nat} (h : k < ys.length), sumK (fun m => if m = i + k then 1 else 0) i ys = ys[k].cost := by
  intro ys
  induction ys with
  | nil => intro i k h; simp at h
  | cons x ys ih =>
    intro i k h
    cases k with
    | zero => rw [sumK, sumK_none (by omega)]; simp
    | succ k =>
      have := ih (i := i + 1) (k := k) (by simpa using h)
      rw [sumK, if_neg (by omega)]
      rw [show i + (k + 1) = i + 1 + k by omega, this]
      simp
theorem sumK_cam {f : Nat → Int} {p : Int} : ∀ {ys : List Sm} {i : Nat}, AllR ys → (∀ k (h : k < ys.length), f (i + k) ≤ cdv p ys[k].pe) → sumK f i ys ≤ camN ys p := by
  intro ys
  induction ys with
  | nil => intro i _ _; exact Int.le_refl _
  | cons x ys ih =>
    intro i hal hf
    have h1 := ih (i := i + 1) (fun y hy => hal y (by simp [hy])) fun k h => by
      have := hf (k + 1) (by simp; omega)
      rw [show i + (k + 1) = i + 1 + k by omega] at this
      simpa using this
    have h2 := hf 0 (by simp)
    have hc := allR_cost hal (x := x) (by simp)
    have h3 : f i * x.cost ≤ cdv p x.pe * x.cost := Int.mul_le_mul_of_nonneg_right (by simpa using h2) (by omega)
    simp only [sumK, camN, List.map_cons, List.sum_cons] at h1 ⊢
    omega
theorem jobs_sum {ys : List Sm} {own : Bool} : ∀ {F : List Jb}, (∀ j ∈ F, jbOk ys own j) → (F.map Jb.co).sum = sumK (fun m => (F.countP (fun j => decide (j.st = (m : Int))) : Int)) 0 ys := by
  intro F
  induction F with
  | nil => intro _; simp only [List.map_nil, List.sum_nil, List.countP_nil]; exact sumK_zero.symm
  | cons j F ih =>
    intro h
    obtain ⟨k, hk, h1, h2, -⟩ := h j (by simp)
    have e : (fun m : Nat => ((j :: F).countP (fun j => decide (j.st = (m : Int))) : Int)) = fun m : Nat => (F.countP (fun j => decide (j.st = (m : Int))) : Int) + if m = 0 + k then 1 else 0 := by
      funext m
      rw [List.countP_cons, h1]
      by_cases hm : m = k
      · subst hm; simp
      · have : ¬ ((k : Int) = (m : Int)) := by omega
        simp [this, hm]
    rw [e, sumK_add, sumK_one hk, List.map_cons, List.sum_cons, ih (fun j hj => h j (by simp [hj])), h2]
    omega
theorem win_le {ys : List Sm} {own : Bool} {js : List Jb} {t p : Int} (hal : AllR ys) (hj : ∀ j ∈ js, jbOk ys own j) (hg : js.Pairwise (gapJ ys)) (hp : 1 ≤ p) : ((js.filter (winB t p)).map Jb.co).sum ≤ camN ys p := by
  rw [jobs_sum (fun j h => hj j (List.mem_filter.1 h).1)]
  refine sumK_cam hal fun k hk => ?_
  rw [Nat.zero_add, List.countP_eq_length_filter]
  refine gaps_count (t := t) (allR_pe hal (List.getElem_mem hk)).1 hp ?_ fun j h => ?_
  · have h1 := (hg.filter (winB t p)).filter (fun j => decide (j.st = (k : Int)))
    refine List.Pairwise.imp_of_mem (fun {a b} ha hb hab => ?_) h1
    have ea : a.st = (k : Int) := of_decide_eq_true (List.mem_filter.1 ha).2
    have eb : b.st = (k : Int) := of_decide_eq_true (List.mem_filter.1 hb).2
    have := hab (by rw [ea, eb])
    rw [ea, Int.toNat_natCast, atS_eq hk] at this
    exact this
  · exact of_decide_eq_true (List.mem_filter.1 (List.mem_filter.1 h).1).2
/-- What jobs of some places take. -/
def wsum (P : Nat → Bool) : Nat → List Jb → Int
  | _, [] => 0
  | i, j :: js => (if P i then j.co else 0) + wsum P (i + 1) js
theorem wsum_zero {P : Nat → Bool} : ∀ {js : List Jb} {o : Nat}, (∀ i, i < js.length → P (o + i) = false) → wsum P o js = 0 := by
  intro js
  induction js with
  | nil => intro o _; rfl
  | cons j js ih =>
    intro o h
    have h0 := h 0 (by simp)
    rw [Nat.add_zero] at h0
    rw [wsum, h0, ih fun i hi => by have := h (i + 1) (by simp; omega); rwa [show o + (i + 1) = o + 1 + i by omega] at this]
    simp
theorem wsum_congr {P Q : Nat → Bool} : ∀ {js : List Jb} {o : Nat}, (∀ i, i < js.length → P (o + i) = Q (o + i)) → wsum P o js = wsum Q o js := by
  intro js
  induction js with
  | nil => intro o _; rfl
  | cons j js ih =>
    intro o h
    have h0 := h 0 (by simp)
    rw [Nat.add_zero] at h0
    rw [wsum, wsum, h0, ih fun i hi => by have := h (i + 1) (by simp; omega); rwa [show o + (i + 1) = o + 1 + i by omega] at this]
theorem wsum_set {P Q : Nat → Bool} : ∀ {js : List Jb} {o k : Nat} (hk : k < js.length), (∀ i, i < js.length → i ≠ k → Q (o + i) = P (o + i)) → P (o + k) = false → Q (o + k) = true → wsum Q o js = wsum P o js + js[k].co := by
  intro js
  induction js with
  | nil => intro o k h; simp at h
  | cons j js ih =>
    intro o k hk hne hP hQ
    have sh : ∀ i, o + (i + 1) = o + 1 + i := fun i => by omega
    cases k with
    | zero =>
      rw [Nat.add_zero] at hP hQ
      have := wsum_congr (P := Q) (Q := P) (js := js) (o := o + 1) fun i hi => by
        have := hne (i + 1) (by simp; omega) (by omega)
        rwa [sh] at this
      simp only [wsum, hP, hQ, this, List.getElem_cons_zero]
      simp; omega
    | succ k =>
      rw [sh] at hP hQ
      have h0 := hne 0 (by simp) (by omega)
      rw [Nat.add_zero] at h0
      have := ih (o := o + 1) (k := k) (by simpa using hk) (fun i hi hik => by
        have := hne (i + 1) (by simp; omega) (by omega)
        rwa [sh] at this) hP hQ
      simp only [wsum, h0, this, List.getElem_cons_succ]
      omega
theorem wsum_win {P : Nat → Bool} {w : Jb → Bool} : ∀ {js : List Jb} {o : Nat}, (∀ j ∈ js, 0 ≤ j.co) → (∀ i (h : i < js.length), P (o + i) = true → w js[i] = true) → wsum P o js ≤ ((js.filter w).map Jb.co).sum := by
  intro js
  induction js with
  | nil => intro o _ _; exact Int.le_refl _
  | cons j js ih =>
    intro o hc h
    have h1 := ih (o := o + 1) (fun j hj => hc j (by simp [hj])) fun i hi hp => by
      have := h (i + 1) (by simp; omega) (by rwa [show o + (i + 1) = o + 1 + i by omega])
      simpa using this
    have h2 := hc j (by simp)
    have h0 := h 0 (by simp)
    simp only [Nat.add_zero, List.getElem_cons_zero] at h0
    rw [wsum]
    cases hP : P o
    · cases hw : w j
      · rw [List.filter_cons_of_neg (by simp [hw])]; simp; exact h1
      · rw [List.filter_cons_of_pos hw]; simp; omega
    · rw [List.filter_cons_of_pos (h0 hP)]; simp; exact h1
def jAt (js : List Jb) (i : Nat) : Jb := js.getD i jbZ
theorem jAt_eq {js : List Jb} {i : Nat} (h : i < js.length) : jAt js i = js[i] := by simp [jAt, h]
/-- What is so while jobs are sent: since some time the wire was busy, with jobs that came since then, and is so shorter than the busy period. -/
def BInv (js : List Jb) (p now : Int) (D : List Bool) : Prop := ∃ t, t ≤ now ∧ now < t + p ∧ wsum (fun i => D.getD i false && decide (t ≤ (jAt js i).rel)) 0 js = now - t ∧ ∀ i, i < js.length → D.getD i false = false → t ≤ (jAt js i).rel
def RInv (js : List Jb) (now : Int) (D : List Bool) : Prop := D.length = js.length ∧ ∀ i, i < js.length → D.getD i false = true → (jAt js i).rel < now
theorem binv_init {js : List Jb} {p : Int} (hp : 1 ≤ p) (hr : ∀ j ∈ js, 0 ≤ j.rel) : BInv js p 0 (List.replicate js.length false) := by
  refine ⟨0, by omega, by omega, ?_, fun i hi _ => by rw [jAt_eq hi]; exact hr _ (List.getElem_mem hi)⟩
  rw [wsum_zero fun i hi => by simp [List.getD_eq_getElem?_getD, List.getElem?_replicate]; split <;> simp]
  omega
theorem binv_idle {js : List Jb} {p now soon : Int} {D : List Bool} (hp : 1 ≤ p) (hr : RInv js now D) (hs : now ≤ soon) (hu : ∀ i, i < js.length → D.getD i false = false → soon ≤ (jAt js i).rel) : BInv js p soon D := by
  refine ⟨soon, by omega, by omega, ?_, hu⟩
  rw [wsum_zero fun i hi => ?_]
  · omega
  · rw [Nat.zero_add]
    cases hD : D.getD i false
    · rfl
    · have := hr.2 i hi hD
      rw [Bool.true_and, decide_eq_false (by omega)]
theorem getD_set {D : List Bool} {b i : Nat} (hb : b < D.length) : (D.set b true).getD i false = if i = b then true else D.getD i false := by
  simp only [List.getD_eq_getElem?_getD, List.getElem?_set]
  by_cases h : i = b
  · subst h; simp [hb]
  · rw [if_neg (fun e => h e.symm), if_neg h]
theorem rinv_run {js : List Jb} {now co : Int} {D : List Bool} {b : Nat} (hr : RInv js now D) (hb : b < js.length) (hrel : (jAt js b).rel ≤ now) (hco : 1 ≤ co) : RInv js (now + co) (D.set b true) := by
  refine ⟨by rw [List.length_set]; exact hr.1, fun i hi h => ?_⟩
  rw [getD_set (by rw [hr.1]; exact hb)] at h
  by_cases hib : i = b
  · subst hib; omega
  · rw [if_neg hib] at h
    have := hr.2 i hi h; omega
theorem binv_run {ys : List Sm} {own : Bool} {js : List Jb} {p now : Int} {D : List Bool} {b : Nat} (hal : AllR ys) (hj : ∀ j ∈ js, jbOk ys own j) (hg : js.Pairwise (gapJ ys)) (hp : 1 ≤ p) (hcam : camN ys p = p) (hr : RInv js now D) (hi : BInv js p now D) (hb : b < js.length) (hD : D.getD b false = false) (hrel : (jAt js b).rel ≤ now) :
    now + (jAt js b).co ≤ (jAt js b).rel + p ∧ BInv js p (now + (jAt js b).co) (D.set b true) := by
  obtain ⟨t, h1, h2, h3, h4⟩ := hi
  have hco : ∀ j ∈ js, 1 ≤ j.co := fun j hjm => by
    obtain ⟨k, hk, -, h, -⟩ := hj j hjm
    rw [h]; exact (allR_cost hal (List.getElem_mem hk)).1
  have hbL : b < D.length := by rw [hr.1]; exact hb
  have hcb : 1 ≤ (jAt js b).co := by rw [jAt_eq hb]; exact hco _ (List.getElem_mem hb)
  have htb := h4 b hb hD
  have hset : wsum (fun i => (D.set b true).getD i false && decide (t ≤ (jAt js i).rel)) 0 js = now - t + (jAt js b).co := by
    rw [← h3, jAt_eq hb]
    refine wsum_set hb (fun i hi hib => ?_) ?_ ?_
    · simp only [Nat.zero_add]; rw [getD_set hbL, if_neg hib]
    · simp only [Nat.zero_add]; rw [hD]; rfl
    · simp only [Nat.zero_add]; rw [getD_set hbL, if_pos rfl, decide_eq_true htb]; rfl
  have hin : ∀ i, i < js.length → (D.set b true).getD i false = true → (jAt js i).rel ≤ now := fun i hi h => by
    rw [getD_set hbL] at h
    by_cases hib : i = b
    · subst hib; exact hrel
    · rw [if_neg hib] at h
      have := hr.2 i hi h; omega
  have hwin := win_le (t := t) hal hj hg hp
  rw [hcam] at hwin
  have hle : now - t + (jAt js b).co ≤ p := by
    rw [← hset]
    refine Int.le_trans (wsum_win (fun j h => by have := hco j h; omega) fun i hi h => ?_) hwin
    simp only [Nat.zero_add, Bool.and_eq_true, decide_eq_true_eq] at h
    have := hin i hi h.1
    rw [jAt_eq hi] at h this
    exact decide_eq_true ⟨h.2, by omega⟩
  refine ⟨by omega, ?_⟩
  by_cases hend : now + (jAt js b).co < t + p
  · refine ⟨t, by omega, hend, by rw [hset]; omega, fun i hi h => ?_⟩
    rw [getD_set hbL] at h
    by_cases hib : i = b
    · rw [if_pos hib] at h; simp at h
    · rw [if_neg hib] at h; exact h4 i hi h
  · have hall : ∀ z, z < js.length → (D.set b true).getD z false = false → now + (jAt js b).co ≤ (jAt js z).rel := fun z hz hzD => by
      by_cases hc : now + (jAt js b).co ≤ (jAt js z).rel
      · exact hc
      exfalso
      have hz4 : t ≤ (jAt js z).rel := by
        rw [getD_set hbL] at hzD
        by_cases hib : z = b
        · rw [if_pos hib] at hzD; simp at hzD
        · rw [if_neg hib] at hzD; exact h4 z hz hzD
      have hz2 : wsum (fun i => ((D.set b true).getD i false && decide (t ≤ (jAt js i).rel)) || decide (i = z)) 0 js = now - t + (jAt js b).co + (jAt js z).co := by
        rw [← hset, jAt_eq hz]
        refine wsum_set hz (fun i hi hiz => ?_) ?_ ?_
        · simp only [Nat.zero_add]; rw [decide_eq_false hiz, Bool.or_false]
        · simp only [Nat.zero_add]; rw [hzD]; rfl
        · simp
      have hcz : 1 ≤ (jAt js z).co := by rw [jAt_eq hz]; exact hco _ (List.getElem_mem hz)
      have : now - t + (jAt js b).co + (jAt js z).co ≤ p := by
        rw [← hz2]
        refine Int.le_trans (wsum_win (fun j h => by have := hco j h; omega) fun i hi h => ?_) hwin
        simp only [Nat.zero_add, Bool.or_eq_true, Bool.and_eq_true, decide_eq_true_eq] at h
        rcases h with h | h
        · have := hin i hi h.1
          rw [jAt_eq hi] at h this
          exact decide_eq_true ⟨h.2, by omega⟩
        · subst h
          rw [jAt_eq hi] at hz4 hc
          exact decide_eq_true ⟨hz4, by omega⟩
      omega
    have hr2 := rinv_run hr hb hrel hcb
    exact binv_idle hp hr2 (Int.le_refl _) hall
end Go.Proofs.YtlhoogdikhbemaaDoor
