/- Classes of connected places, and lists of parents (plain words; no program). -/
import Derived.WalkKit
namespace Go.Proofs.YtdkcmfafganhhaaDoor
set_option linter.unusedSimpArgs false
set_option linter.unusedVariables false
set_option linter.unnecessarySimpa false
set_option linter.unusedSectionVars false
/-- Connected through steps of R. -/
inductive Conn (R : Nat → Nat → Prop) : Nat → Nat → Prop
  | refl (i : Nat) : Conn R i i
  | step {i j k : Nat} : R i j → Conn R j k → Conn R i k
theorem Conn.trans {R : Nat → Nat → Prop} {i j k : Nat} (h : Conn R i j) (g : Conn R j k) : Conn R i k := by
  induction h with
  | refl => exact g
  | step h _ ih => exact .step h (ih g)
theorem Conn.one {R : Nat → Nat → Prop} {i j : Nat} (h : R i j) : Conn R i j := .step h (.refl _)
theorem Conn.symm {R : Nat → Nat → Prop} (hs : ∀ i j, R i j → R j i) {i j : Nat} (h : Conn R i j) : Conn R j i := by
  induction h with
  | refl => exact .refl _
  | step h _ ih => exact ih.trans (.one (hs _ _ h))
/-- A set that steps do not leave holds all that is connected. -/
theorem Conn.keep {R : Nat → Nat → Prop} {S : Nat → Prop} (hS : ∀ i j, S i → R i j → S j) {i j : Nat} (h : Conn R i j) (hi : S i) : S j := by
  induction h with
  | refl => exact hi
  | step h _ ih => exact ih (hS _ _ hi h)

/-- Where a place hangs. -/
def par (u : List Nat) (i : Nat) : Nat := u[i]?.getD i
def goodU (u : List Nat) : Prop := ∀ i, par u i ≤ i
def rootF (u : List Nat) : Nat → Nat → Nat
  | 0, i => i
  | n + 1, i => if par u i = i then i else rootF u n (par u i)
def root (u : List Nat) (i : Nat) : Nat := rootF u i i
theorem rootF_more {u : List Nat} (h : goodU u) : ∀ n i, i ≤ n → ∀ m, i ≤ m → rootF u n i = rootF u m i := by
  intro n
  induction n with
  | zero =>
    intro i hi m _
    have : i = 0 := by omega
    subst this
    cases m with
    | zero => rfl
    | succ m => have := h 0; simp only [rootF]; rw [if_pos (by omega)]
  | succ n ih =>
    intro i hi m hm
    have hp := h i
    cases m with
    | zero =>
      have : i = 0 := by omega
      subst this
      simp only [rootF]; rw [if_pos (by omega)]
    | succ m =>
      simp only [rootF]
      by_cases e : par u i = i
      · rw [if_pos e, if_pos e]
      · rw [if_neg e, if_neg e]; exact ih _ (by omega) _ (by omega)
theorem root_eq {u : List Nat} (h : goodU u) (i : Nat) : root u i = if par u i = i then i else root u (par u i) := by
  have hp := h i
  unfold root
  by_cases e : par u i = i
  · rw [if_pos e]
    cases i with
    | zero => rfl
    | succ i => simp only [rootF]; rw [if_pos e]
  · rw [if_neg e]
    cases i with
    | zero => omega
    | succ i =>
      simp only [rootF]; rw [if_neg e]
      exact rootF_more h _ _ (by omega) _ (Nat.le_refl _)
theorem root_par {u : List Nat} (h : goodU u) (i : Nat) : root u (par u i) = root u i := by
  rw [root_eq h i]
  split
  · rename_i e; rw [e, root_eq h i, if_pos e]
  · rfl
theorem root_le {u : List Nat} (h : goodU u) : ∀ i, root u i ≤ i := by
  intro i
  induction i using Nat.strongRecOn with
  | _ i ih =>
    rw [root_eq h]
    have := h i
    split
    · exact Nat.le_refl _
    · have := ih (par u i) (by omega); omega
theorem root_fix {u : List Nat} (h : goodU u) : ∀ i, par u (root u i) = root u i := by
  intro i
  induction i using Nat.strongRecOn with
  | _ i ih =>
    rw [root_eq h]
    have := h i
    split
    · rename_i e; exact e
    · exact ih (par u i) (by omega)
theorem root_root {u : List Nat} (h : goodU u) (i : Nat) : root u (root u i) = root u i := by rw [root_eq h (root u i), if_pos (root_fix h i)]
theorem par_set {u : List Nat} {i v x : Nat} (hi : i < u.length) : par (u.set i v) x = if x = i then v else par u x := by
  unfold par
  by_cases e : x = i
  · subst e; simp [hi]
  · rw [if_neg e, List.getElem?_set_ne (by omega)]
/-- A path is halved: no root turns. -/
theorem halve {u : List Nat} (h : goodU u) {i : Nat} (hi : i < u.length) : goodU (u.set i (par u (par u i))) ∧ ∀ x, root (u.set i (par u (par u i))) x = root u x := by
  have hg : goodU (u.set i (par u (par u i))) := fun x => by
    rw [par_set hi]
    split
    · rename_i e; subst e; have := h x; have := h (par u x); omega
    · exact h x
  refine ⟨hg, fun x => ?_⟩
  induction x using Nat.strongRecOn with
  | _ x ih =>
    rw [root_eq hg, par_set hi]
    by_cases e : x = i
    · subst e
      rw [if_pos rfl]
      have h1 := h x
      have h2 := h (par u x)
      by_cases q : par u (par u x) = x
      · rw [if_pos q]
        have : par u x = x := by omega
        rw [root_eq h, if_pos this]
      · rw [if_neg q, ih _ (by omega), root_par h, root_par h]
    · rw [if_neg e]
      have h1 := h x
      by_cases q : par u x = x
      · rw [if_pos q, root_eq h, if_pos q]
      · rw [if_neg q, ih _ (by omega), root_par h]
/-- Two roots are united. -/
theorem unite {u : List Nat} (h : goodU u) {a b : Nat} (hab : a ≤ b) (ha : par u a = a) (hb : par u b = b) (hl : b < u.length) : goodU (u.set b a) ∧ ∀ x, root (u.set b a) x = if root u x = b then a else root u x := by
  have hg : goodU (u.set b a) := fun x => by
    rw [par_set hl]
    split
    · omega
    · exact h x
  refine ⟨hg, fun x => ?_⟩
  induction x using Nat.strongRecOn with
  | _ x ih =>
    rw [root_eq hg, par_set hl]
    have h1 := h x
    by_cases e : x = b
    · subst e
      rw [if_pos rfl]
      have hr : root u x = x := by rw [root_eq h, if_pos hb]
      by_cases q : a = x
      · subst q; simp [hr]
      · rw [if_neg q, ih a (by omega)]
        have hra : root u a = a := by rw [root_eq h, if_pos ha]
        rw [hra, hr, if_neg q, if_pos rfl]
    · rw [if_neg e]
      by_cases q : par u x = x
      · rw [if_pos q]
        have hr : root u x = x := by rw [root_eq h, if_pos q]
        rw [hr, if_neg e]
      · rw [if_neg q, ih _ (by omega), root_par h]
/-- For each place the first one of its class. -/
def isParts (R : Nat → Nat → Prop) (n : Nat) (p : List Nat) : Prop := p.length = n ∧ ∀ i, i < n → par p i ≤ i ∧ Conn R i (par p i) ∧ ∀ j, j < n → Conn R i j → par p i = par p j
theorem isParts_uniq {R : Nat → Nat → Prop} {n : Nat} {p q : List Nat} (hp : isParts R n p) (hq : isParts R n q) : p = q := by
  refine List.ext_getElem (by rw [hp.1, hq.1]) fun i h1 h2 => ?_
  have key : ∀ {p q : List Nat}, isParts R n p → isParts R n q → ∀ i, i < n → par p i ≤ par q i := fun {p q} hp hq i hi => by
    obtain ⟨a1, a2, a3⟩ := hp.2 i hi
    obtain ⟨b1, b2, b3⟩ := hq.2 i hi
    have hlt : par q i < n := by omega
    rw [a3 _ hlt b2]
    exact (hp.2 _ hlt).1
  have hi : i < n := by rw [← hp.1]; exact h1
  have e1 := key hp hq i hi
  have e2 := key hq hp i hi
  have : par p i = par q i := by omega
  unfold par at this
  rwa [List.getElem?_eq_getElem h1, List.getElem?_eq_getElem h2] at this
theorem par_map {f : Nat → Nat} {n i : Nat} (h : i < n) : par ((List.range n).map f) i = f i := by simp [par, h]
/-- The roots say which places are connected. -/
theorem parts_of_roots {R : Nat → Nat → Prop} {n : Nat} {u : List Nat} (h : goodU u) (h1 : ∀ i, i < n → Conn R i (root u i)) (h2 : ∀ i j, R i j → root u i = root u j) : isParts R n ((List.range n).map (root u)) := by
  refine ⟨by simp, fun i hi => ?_⟩
  rw [par_map hi]
  refine ⟨root_le h i, h1 i hi, fun j hj hc => ?_⟩
  rw [par_map hj]
  clear hi hj
  induction hc with
  | refl => rfl
  | step g _ ih => exact (h2 _ _ g).trans ih
/-- There is such a list: the least one of each class. -/
theorem least {p : Nat → Prop} : ∀ n, p n → ∃ m, m ≤ n ∧ p m ∧ ∀ k, p k → m ≤ k := by
  intro n
  induction n using Nat.strongRecOn with
  | _ n ih =>
    intro h
    by_cases q : ∃ k, k < n ∧ p k
    · obtain ⟨k, h1, h2⟩ := q
      obtain ⟨m, m1, m2, m3⟩ := ih k h1 h2
      exact ⟨m, by omega, m2, m3⟩
    · refine ⟨n, Nat.le_refl _, h, fun k hk => ?_⟩
      by_cases q2 : k < n
      · exact absurd ⟨k, q2, hk⟩ q
      · omega
noncomputable def minC (R : Nat → Nat → Prop) (i : Nat) : Nat := Classical.choose (least (p := Conn R i) i (.refl i))
theorem minC_spec (R : Nat → Nat → Prop) (i : Nat) : minC R i ≤ i ∧ Conn R i (minC R i) ∧ ∀ k, Conn R i k → minC R i ≤ k := Classical.choose_spec (least (p := Conn R i) i (.refl i))
noncomputable def partsC (R : Nat → Nat → Prop) (n : Nat) : List Nat := (List.range n).map (minC R)
theorem minC_eq {R : Nat → Nat → Prop} (hs : ∀ i j, R i j → R j i) {i j : Nat} (h : Conn R i j) : minC R i = minC R j := by
  obtain ⟨_, a2, a3⟩ := minC_spec R i
  obtain ⟨_, b2, b3⟩ := minC_spec R j
  have h1 := a3 _ (h.trans b2)
  have h2 := b3 _ ((h.symm hs).trans a2)
  omega
theorem partsC_is {R : Nat → Nat → Prop} (hs : ∀ i j, R i j → R j i) (n : Nat) : isParts R n (partsC R n) := by
  refine ⟨by simp [partsC], fun i hi => ?_⟩
  rw [partsC, par_map hi]
  obtain ⟨a1, a2, _⟩ := minC_spec R i
  refine ⟨a1, a2, fun j hj hc => ?_⟩
  rw [par_map hj]
  exact minC_eq hs hc
end Go.Proofs.YtdkcmfafganhhaaDoor
