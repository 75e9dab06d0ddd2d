/- Every operation that calls no function: what the abstract machine says of it holds in the model (the theorem eop_sound). -/
import Derived.Test.YtnldjmokemgaoaaAbMain
namespace Go.Proofs.Ytnldjmokemgaoaa
set_option linter.unusedSimpArgs false
set_option linter.unusedVariables false
set_option linter.unnecessarySimpa false
set_option linter.unusedSectionVars false
open Go.RowKit
variable [Glob]

section
variable {P : Program} {w0 w : World} {X : Nat → Prop} {φ : Nat → Option Nat} {G H : List Blk} {T : List (Nat × AV)} {a : Act}
theorem mapM_spec {α β : Type} {f : α → Option β} : ∀ {l : List α} {r : List β}, l.mapM f = some r → r.length = l.length ∧ ∀ (j : Nat) x, l[j]? = some x → ∃ y, r[j]? = some y ∧ f x = some y := by
  intro l
  induction l with
  | nil => intro r h; simp at h; subst h; simp
  | cons x l ih =>
    intro r h
    rw [List.mapM_cons] at h
    cases hx : f x with
    | none => simp [hx] at h
    | some y =>
      cases hl : l.mapM f with
      | none => simp [hx, hl] at h
      | some ys =>
        simp [hx, hl] at h
        subst h
        obtain ⟨h1, h2⟩ := ih hl
        refine ⟨by simp [h1], fun j z hj => ?_⟩
        cases j with
        | zero => simp at hj; subst hj; exact ⟨y, by simp, hx⟩
        | succ j => simpa using h2 j z (by simpa using hj)
theorem build_sound {t : TypeId} {i : Ty} (ht : ty P t = some i) {parts : List (Nat × Operand)} {c : List AV} (hag : i.ag = true) (h : fillA (place i) i.zero (parts.map fun p => (p.1, ev T p.2)) = some c)
    (hev : ∀ p ∈ parts, RV P w X φ G (ev T p.2) (a.eval p.2)) : ∃ us, (Instr.build t (parts.map fun p => (p.1, a.eval p.2)).toArray).run P w = .ok (.agg us) w ∧ RV P w X φ G (.agg c) (.agg us) := by
  obtain ⟨z, hz, hz1, hz2, hz3⟩ := zero_sound ht w
  obtain ⟨inf, z', d, pl, es, h1, h2, h3, h4, h5, h6, h7, h8, rfl⟩ := (ty_is ht).ex
  have hzz : z = z' := by simpa [zeroValue, typeInfo, h1, h3] using hz.symm
  subst hzz
  obtain ⟨us, k1, k2, k3, k4⟩ := fill_sound (P := P) (w := w) (X := X) (φ := φ) (G := G) (T := T) (a := a) ht (place (descTy d inf.size (z.cells.toList.map ofCell) pl es)) parts _ z.cells c h hev (by rw [descTy_zero]; simp) hz2 (fun j x u hx hu => hz3 w X φ G j x u hx hu)
  refine ⟨us, run_build w t _ us ?_, .agg k2 k3 k4⟩
  unfold Program.built
  simp only [h1, h2, h3]
  cases d <;> simp [descTy] at hag
  · rename_i n e
    simp only [inner] at h8
    split at h8
    · rename_i ie hie
      simp at h8
      obtain ⟨rfl, rfl⟩ := h8
      simp only [h3, hie]
      rw [← k1]
      rfl
    · simp at h8
  · rename_i fs
    simp only [inner] at h8
    split at h8
    · rename_i l hl
      simp at h8
      obtain ⟨rfl, rfl⟩ := h8
      simp only [h3, hl]
      rw [← k1]
      simp only [List.getElem?_toArray, List.toList_toArray]
      rfl
    · simp at h8
end
end Go.Proofs.Ytnldjmokemgaoaa
