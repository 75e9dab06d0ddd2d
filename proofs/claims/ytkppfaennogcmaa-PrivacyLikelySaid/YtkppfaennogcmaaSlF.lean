/- slices.IndexFunc and ContainsFunc in the abstract machine. -/
import Derived.Test.YtkppfaennogcmaaFracP
namespace Go.Proofs.Ytkppfaennogcmaa
set_option linter.unusedSimpArgs false
set_option linter.unusedVariables false
set_option linter.unnecessarySimpa false
set_option linter.unusedSectionVars false
open Go.RowKit
variable [Glob]
set_option maxRecDepth 100000
theorem fracs_idx {p : (Int × Int) → Bool} {l : List (Int × Int)} {g : Nat} {caps : List AV} (hp : ∀ x ∈ l, Pure Try.prog g (.agg (fracC x) :: caps) (.bool (p x))) (hc : ∀ H k, caps.mapM (reify H (k + 5)) = some caps) (hf : refsL 0 caps = true) (hl : l.length ≤ 9223372036854775807) :
    Pure Try.prog 101 [.rs (rowsOf fracC l), .fn g caps] (.int .i64 (idxOf p l)) := by
  refine pure_of mixed Try.func101 rfl (by kernel_rfl) (of_decide_eq_true rfl) (by kernel_rfl) (vc_run ?_)
  simp -implicitDefEqProofs
  refine loop_intro (σ := Nat) (fun i => ⟨[(0, .rs (rowsOf fracC l)), (1, .fn g caps), (7, .int .i64 l.length), (8, .int .i64 i)], []⟩) (fun i => i ≤ l.length ∧ allF p (l.take i)) (fun i => l.length - i) 0 ⟨Nat.zero_le _, allF_nil⟩ ?_ ?_
  · refine weak_of 0 0 rfl rfl ?_ ?_ <;> simp [hf]
  · rintro i ⟨hi, hall⟩
    by_cases h : i < l.length
    · simp -implicitDefEqProofs [h, fracC]
      have hc8 : ∀ H, caps.mapM (reify H 8) = some caps := fun H => hc H 3
      refine call_intro (hp l[i] (by simp)) (by simp -implicitDefEqProofs [hc8, fracC]) (.inl rfl) ?_
      by_cases hpx : p l[i] = true
      · simp -implicitDefEqProofs [hpx]
        exact (idxOf_some p l i h hall hpx).symm
      · have hpx : p l[i] = false := by simpa using hpx
        simp -implicitDefEqProofs [hpx]
        refine ⟨i + 1, ⟨by omega, allF_succ hall h hpx⟩, by omega, weak_of 0 0 rfl rfl ?_ ?_⟩
        · simp [hf]
          exact (wrap_in (by omega) (by omega)).symm
        · simp
    · simp -implicitDefEqProofs [h]
      rw [idxOf_none p l (allF_all hall h)]
theorem fracs_any {p : (Int × Int) → Bool} {l : List (Int × Int)} {g : Nat} {caps : List AV} (hp : ∀ x ∈ l, Pure Try.prog g (.agg (fracC x) :: caps) (.bool (p x))) (hc : ∀ H k, caps.mapM (reify H (k + 5)) = some caps) (hf : refsL 0 caps = true) (hl : l.length ≤ 9223372036854775807) :
    Pure Try.prog 80 [.rs (rowsOf fracC l), .fn g caps] (.bool (l.any p)) := by
  refine pure_of mixed Try.func80 rfl (by kernel_rfl) (of_decide_eq_true rfl) (by kernel_rfl) (vc_run ?_)
  simp -implicitDefEqProofs
  have hc7 : ∀ H, caps.mapM (reify H 7) = some caps := fun H => hc H 2
  refine call_intro (fracs_idx hp hc hf hl) (by simp -implicitDefEqProofs [hc7]) (.inl rfl) ?_
  simp -implicitDefEqProofs
  rw [← ge_idxOf]

theorem fvalids_pure (l : List (Int × Int)) (hl : l.length ≤ 4611686018427387904) : Pure Try.prog 102 [.rs (rowsOf fracC l)] (.bool (l.all fun a => validF a.1 a.2)) := by
  refine pure_of mixed Try.func102 rfl (by kernel_rfl) (of_decide_eq_true rfl) (by kernel_rfl) (vc_run ?_)
  simp -implicitDefEqProofs
  refine call_intro (fracs_any (l := l) (caps := []) (fun x _ => fvalid1_pure x) (by simp) (by simp) (by omega)) (by simp -implicitDefEqProofs [fracC]) (.inl rfl) ?_
  simp -implicitDefEqProofs [List.not_all_eq_any_not]
end Go.Proofs.Ytkppfaennogcmaa
