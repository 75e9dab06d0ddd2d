/- Names: IsName of the program and of the reference. -/
import Derived.Test.YthemglpccpjokaaGreatNm1
set_option linter.unusedSimpArgs false
set_option linter.unusedVariables false
set_option linter.unnecessarySimpa false
set_option linter.unusedSectionVars false
set_option maxRecDepth 100000
namespace Go.Proofs.YthemglpccpjokaaGreat
open Go.RowKit
variable [Glob]
theorem byte_at {s : ByteArray} {i : Nat} (h : i < s.size) : s.data[i]? = some (s.data[i]'h) := Array.getElem?_eq_getElem h
def uptoB (p : UInt8 → Bool) (s : ByteArray) (i : Nat) : Prop := ∀ j (h : j < s.size), j < i → p (s.data[j]'h) = true
theorem uptoB_zero (p : UInt8 → Bool) (s : ByteArray) : uptoB p s 0 := fun _ _ h => by omega
theorem uptoB_succ {p : UInt8 → Bool} {s : ByteArray} {i : Nat} (h : uptoB p s i) (hi : i < s.size) (hp : p (s.data[i]'hi) = true) : uptoB p s (i + 1) := fun j hj hlt => by
  by_cases e : j = i
  · subst e; exact hp
  · exact h j hj (by omega)
theorem uptoB_all {p : UInt8 → Bool} {s : ByteArray} {i : Nat} (h : uptoB p s i) (hi : ¬ i < s.size) : s.data.toList.all p = true := by
  simp only [List.all_eq_true]
  intro x hx
  obtain ⟨j, hj, rfl⟩ := List.getElem_of_mem hx
  have hj' : j < s.size := by simpa using hj
  simpa using h j hj' (by omega)
theorem uptoB_not {p : UInt8 → Bool} {s : ByteArray} {i : Nat} (hi : i < s.size) (hp : p (s.data[i]'hi) = false) : s.data.toList.all p = false := by
  simp only [List.all_eq_false]
  exact ⟨s.data[i]'hi, by simp, by simp [hp]⟩
def isNameS (s : ByteArray) : Bool := decide (1 ≤ s.size ∧ s.size ≤ 40) && letterC (s.data[0]?.getD 0) && s.data.toList.all partC
theorem isName_pure (s : ByteArray) : Pure Tryz.prog 107 [.str s] (.bool (isNameS s)) := by
  refine pure_of mixed Tryz.func107 rfl (by kernel_rfl) (of_decide_eq_true rfl) (by kernel_rfl) (vc_run ?_)
  by_cases h1 : (s.size : Int) < 1
  · simp -implicitDefEqProofs [h1, isNameS]
    omega
  by_cases h2 : (40 : Int) < s.size
  · simp -implicitDefEqProofs [h1, h2, isNameS]
    omega
  have h0 : 0 < s.size := by omega
  simp -implicitDefEqProofs [h1, h2, byte_at h0]
  refine call_intro (letter_pure (s.data[0]'h0)) (by simp -implicitDefEqProofs) (.inl rfl) ?_
  by_cases h3 : letterC (s.data[0]'h0) = true
  rotate_left
  · have h3 : letterC (s.data[0]'h0) = false := by simpa using h3
    simp -implicitDefEqProofs [h3, isNameS, byte_at h0]
  simp -implicitDefEqProofs [h3]
  refine loop_intro (σ := Nat) (fun i => ⟨[(0, .str s), (19, .int .i64 s.size), (20, .int .i64 i)], []⟩) (fun i => i ≤ s.size ∧ uptoB partC s i) (fun i => s.size - i) 0 ⟨by omega, uptoB_zero _ _⟩ ?_ ?_
  · refine weak_of 0 0 rfl rfl ?_ ?_ <;> simp
  · rintro i ⟨hi, hp⟩
    by_cases h : i < s.size
    · simp -implicitDefEqProofs [h, byte_at h]
      refine call_intro (part_pure (s.data[i]'h)) (by simp -implicitDefEqProofs) (.inl rfl) ?_
      by_cases h4 : partC (s.data[i]'h) = true
      · simp -implicitDefEqProofs [h4]
        refine ⟨i + 1, ⟨by omega, uptoB_succ hp h h4⟩, by omega, ?_⟩
        refine weak_of 0 0 rfl rfl ?_ ?_ <;> simp
        exact (wrap_in (by omega) (by omega)).symm
      · have h4 : partC (s.data[i]'h) = false := by simpa using h4
        simp -implicitDefEqProofs [h4, isNameS, uptoB_not h h4]
    · simp -implicitDefEqProofs [h, isNameS, byte_at h0, h3, uptoB_all hp h]
      omega
theorem risName_pure (s : ByteArray) : Pure Tryz.prog 117 [.str s] (.bool (isNameS s)) := by
  refine pure_of mixed Tryz.func117 rfl (by kernel_rfl) (of_decide_eq_true rfl) (by kernel_rfl) (vc_run ?_)
  by_cases h1 : (s.size : Int) < 1
  · simp -implicitDefEqProofs [h1, isNameS]
    omega
  by_cases h2 : (40 : Int) < s.size
  · simp -implicitDefEqProofs [h1, h2, isNameS]
    omega
  have h0 : 0 < s.size := by omega
  simp -implicitDefEqProofs [h1, h2, byte_at h0]
  refine call_intro (rletter_pure (s.data[0]'h0)) (by simp -implicitDefEqProofs) (.inl rfl) ?_
  by_cases h3 : letterC (s.data[0]'h0) = true
  rotate_left
  · have h3 : letterC (s.data[0]'h0) = false := by simpa using h3
    simp -implicitDefEqProofs [h3, isNameS, byte_at h0]
  simp -implicitDefEqProofs [h3]
  refine loop_intro (σ := Nat) (fun i => ⟨[(0, .str s), (3, .int .i64 i)], []⟩) (fun i => 1 ≤ i ∧ i ≤ s.size ∧ uptoB partC s i) (fun i => s.size - i) 1 ⟨by omega, by omega, ?_⟩ ?_ ?_
  · exact uptoB_succ (uptoB_zero _ _) h0 (by simp [partC, h3])
  · refine weak_of 0 0 rfl rfl ?_ ?_ <;> simp
  · rintro i ⟨hi1, hi, hp⟩
    have w1 : wrapI .i64 ((i : Int) + 1) = ((i + 1 : Nat) : Int) := by rw [wrap_in (by omega) (by omega)]; omega
    by_cases h : i < s.size
    · simp -implicitDefEqProofs [h, byte_at h]
      refine call_intro (rletter_pure (s.data[i]'h)) (by simp -implicitDefEqProofs) (.inl rfl) ?_
      have next : partC (s.data[i]'h) = true → ∃ j, (1 ≤ j ∧ j ≤ s.size ∧ uptoB partC s j) ∧ s.size - j < s.size - i ∧ j = i + 1 := fun h4 => ⟨i + 1, ⟨by omega, by omega, uptoB_succ hp h h4⟩, by omega, rfl⟩
      by_cases q0 : letterC (s.data[i]'h) = true
      · have h4 : partC (s.data[i]'h) = true := by simp [partC, q0]
        obtain ⟨j, j1, j2, rfl⟩ := next h4
        simp -implicitDefEqProofs [q0, w1]
        refine ⟨i + 1, j1, j2, ?_⟩
        refine weak_of 0 0 rfl rfl ?_ ?_ <;> simp
      have q0 : letterC (s.data[i]'h) = false := by simpa using q0
      by_cases q1 : (48 : Int) ≤ (s.data[i]'h).toNat <;> by_cases q2 : ((s.data[i]'h).toNat : Int) ≤ 57 <;> by_cases q3 : ((s.data[i]'h).toNat : Int) = 95 <;> by_cases q4 : ((s.data[i]'h).toNat : Int) = 45 <;> by_cases q5 : ((s.data[i]'h).toNat : Int) = 46
      all_goals first
        | (exfalso; omega)
        | (have h4 : partC (s.data[i]'h) = true := by simp [partC, q0, q1, q2, q3, q4, q5]
           obtain ⟨j, j1, j2, rfl⟩ := next h4
           simp -implicitDefEqProofs [q0, q1, q2, q3, q4, q5, w1]
           refine ⟨i + 1, j1, j2, ?_⟩
           refine weak_of 0 0 rfl rfl ?_ ?_ <;> simp
           done)
        | (have h4 : partC (s.data[i]'h) = false := by simp [partC, q0, q1, q2, q3, q4, q5]
           simp -implicitDefEqProofs [q0, q1, q2, q3, q4, q5, isNameS, uptoB_not h h4]
           done)
    · simp -implicitDefEqProofs [h, isNameS, byte_at h0, h3, uptoB_all hp h]
      omega
end Go.Proofs.YthemglpccpjokaaGreat
