/- Sets that are united by what their elements have in common. -/
import Derived.Test.YtdkcmfafganhhaaDoorGr
import Derived.Test.YtdkcmfafganhhaaDoorMapL
namespace Go.Proofs.YtdkcmfafganhhaaDoor
set_option linter.unusedSimpArgs false
set_option linter.unusedVariables false
set_option linter.unnecessarySimpa false
set_option linter.unusedSectionVars false
open Go.RowKit
variable [Glob]
section
variable {α : Type} [DecidableEq α] {R : Nat → Nat → Prop} {D : Nat → α → Prop} {n : Nat} {u u' : List Nat} {es : List (α × Nat)}
/-- What holds after some occurrences D: of each key one place is known; the places of the same key have the same root; roots are connected. -/
structure UInv (R : Nat → Nat → Prop) (D : Nat → α → Prop) (n : Nat) (u : List Nat) (es : List (α × Nat)) : Prop where
  len : u.length = n
  good : goodU u
  some_ : ∀ r f, alook es r = some f → D f r ∧ f < n
  done : ∀ i r, D i r → ∃ f, alook es r = some f ∧ root u f = root u i
  conn : ∀ x, x < n → Conn R x (root u x)
theorem UInv.start {u : List Nat} (hl : u.length = n) (hu : ∀ i, i < n → par u i = i) (hD : ∀ i r, ¬ D i r) : UInv R D n u [] := by
  have hp : ∀ i, par u i = i := fun i => by
    by_cases h : i < n
    · exact hu i h
    · unfold par; rw [List.getElem?_eq_none (by omega)]; rfl
  have hg : goodU u := fun i => by rw [hp]; exact Nat.le_refl _
  exact ⟨hl, hg, fun r f h => by simp [alook_nil] at h, fun i r h => absurd h (hD i r), fun x _ => by rw [root_eq hg, if_pos (hp x)]; exact .refl _⟩
theorem UInv.more {D' : Nat → α → Prop} (h : UInv R D n u es) (h1 : ∀ i r, D i r ↔ D' i r) : UInv R D' n u es :=
  ⟨h.len, h.good, fun r f q => ⟨(h1 _ _).1 (h.some_ r f q).1, (h.some_ r f q).2⟩, fun i r q => h.done i r ((h1 _ _).2 q), h.conn⟩
theorem UInv.found (h : UInv R D n u es) {i f : Nat} {r : α} (hi : i < n) (hf : alook es r = some f) (hs : ∀ a b, R a b → R b a) (hR : ∀ f, D f r → R f i) (hl : u'.length = u.length) (hg : goodU u')
    (hu : ∀ x, root u' x = if root u x = max (root u f) (root u i) then min (root u f) (root u i) else root u x) : UInv R (fun a b => D a b ∨ (a = i ∧ b = r)) n u' es := by
  have hfn := h.some_ r f hf
  have keep : ∀ a b, root u a = root u b → root u' a = root u' b := fun a b e => by rw [hu, hu, e]
  have both : root u' f = root u' i := by
    rw [hu, hu]
    by_cases e1 : root u f = max (root u f) (root u i) <;> by_cases e2 : root u i = max (root u f) (root u i)
    · rw [if_pos e1, if_pos e2]
    · rw [if_pos e1, if_neg e2]; omega
    · rw [if_neg e1, if_pos e2]; omega
    · omega
  refine ⟨by rw [hl, h.len], hg, fun r' f' q => ⟨.inl (h.some_ r' f' q).1, (h.some_ r' f' q).2⟩, fun a b q => ?_, fun x hx => ?_⟩
  · rcases q with q | ⟨rfl, rfl⟩
    · obtain ⟨f', q1, q2⟩ := h.done a b q
      exact ⟨f', q1, keep _ _ q2⟩
    · exact ⟨f, hf, both⟩
  · rw [hu]
    have cf := h.conn f hfn.2
    have ci := h.conn i hi
    have cfi : Conn R (root u f) (root u i) := (cf.symm hs).trans ((Conn.one (hR f hfn.1)).trans ci)
    split
    · rename_i e
      refine (h.conn x hx).trans ?_
      rw [e]
      by_cases q : root u f ≤ root u i
      · rw [show max (root u f) (root u i) = root u i by omega, show min (root u f) (root u i) = root u f by omega]
        exact cfi.symm hs
      · rw [show max (root u f) (root u i) = root u f by omega, show min (root u f) (root u i) = root u i by omega]
        exact cfi
    · exact h.conn x hx
theorem UInv.fresh (h : UInv R D n u es) {i : Nat} {r : α} (hi : i < n) (hf : alook es r = none) : UInv R (fun a b => D a b ∨ (a = i ∧ b = r)) n u (aput es r i) := by
  refine ⟨h.len, h.good, fun r' f' q => ?_, fun a b q => ?_, h.conn⟩
  · rw [alook_put] at q
    split at q
    · rename_i e; simp at q; subst q; exact ⟨.inr ⟨rfl, e.symm⟩, hi⟩
    · exact ⟨.inl (h.some_ r' f' q).1, (h.some_ r' f' q).2⟩
  · rcases q with q | ⟨rfl, rfl⟩
    · obtain ⟨f', q1, q2⟩ := h.done a b q
      refine ⟨f', ?_, q2⟩
      rw [alook_put, if_neg (fun e => by subst e; rw [hf] at q1; cases q1)]
      exact q1
    · exact ⟨a, by rw [alook_put, if_pos rfl], rfl⟩
theorem UInv.parts (h : UInv R D n u es) (hR : ∀ i j, R i j → ∃ r, D i r ∧ D j r) : isParts R n ((List.range n).map (root u)) :=
  parts_of_roots h.good (fun i hi => h.conn i hi) fun i j hij => by
    obtain ⟨r, h1, h2⟩ := hR i j hij
    obtain ⟨f, q1, q2⟩ := h.done i r h1
    obtain ⟨g, q3, q4⟩ := h.done j r h2
    rw [q1] at q3
    cases q3
    rw [← q2, q4]
end
end Go.Proofs.YtdkcmfafganhhaaDoor
