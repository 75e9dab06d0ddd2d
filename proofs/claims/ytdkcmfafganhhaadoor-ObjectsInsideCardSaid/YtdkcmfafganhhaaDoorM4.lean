/- Several texts of the abstract machine, one behind the other. -/
import Derived.Test.YtdkcmfafganhhaaDoorTy
import Derived.Test.YtdkcmfafganhhaaDoorM3
import Derived.Test.YtdkcmfafganhhaaDoorAbBase
/- Names: bytes, letters, names (the program's and the reference's). -/
namespace Go.Proofs.YtdkcmfafganhhaaDoor
set_option linter.unusedSimpArgs false
set_option linter.unusedVariables false
set_option linter.unnecessarySimpa false
set_option linter.unusedSectionVars false
open Go.RowKit
variable [Glob]
set_option maxRecDepth 100000
def letterC (c : UInt8) : Bool := (decide ((65 : Int) ≤ c.toNat) && decide ((c.toNat : Int) ≤ 90)) || (decide ((97 : Int) ≤ c.toNat) && decide ((c.toNat : Int) ≤ 122))
def partC (c : UInt8) : Bool := letterC c || ((decide ((48 : Int) ≤ c.toNat) && decide ((c.toNat : Int) ≤ 57)) || decide ((c.toNat : Int) = 95) || decide ((c.toNat : Int) = 45) || decide ((c.toNat : Int) = 46))
abbrev byteV (c : UInt8) : AV := .int .u8 c.toNat
theorem letter_pure (c : UInt8) : Pure Tryd.prog 59 [byteV c] (.bool (letterC c)) := by
  refine pure_of mixed Tryd.func59 rfl (by kernel_rfl) (of_decide_eq_true rfl) (by kernel_rfl) (vc_run ?_)
  by_cases h1 : (65 : Int) ≤ c.toNat <;> by_cases h2 : (c.toNat : Int) ≤ 90 <;> by_cases h3 : (97 : Int) ≤ c.toNat <;> by_cases h4 : (c.toNat : Int) ≤ 122 <;> simp -implicitDefEqProofs [h1, h2, h3, h4, letterC] <;> omega
theorem rletter_pure (c : UInt8) : Pure Tryd.prog 54 [byteV c] (.bool (letterC c)) := by
  refine pure_of mixed Tryd.func54 rfl (by kernel_rfl) (of_decide_eq_true rfl) (by kernel_rfl) (vc_run ?_)
  by_cases h1 : (65 : Int) ≤ c.toNat <;> by_cases h2 : (c.toNat : Int) ≤ 90 <;> by_cases h3 : (97 : Int) ≤ c.toNat <;> by_cases h4 : (c.toNat : Int) ≤ 122 <;> simp -implicitDefEqProofs [h1, h2, h3, h4, letterC] <;> omega
theorem part_pure (c : UInt8) : Pure Tryd.prog 60 [byteV c] (.bool (partC c)) := by
  refine pure_of mixed Tryd.func60 rfl (by kernel_rfl) (of_decide_eq_true rfl) (by kernel_rfl) (vc_run ?_)
  ((try simp -implicitDefEqProofs [-loopQ_n]) <;> (repeat' (first | (refine condD_dec ?_ ?_ <;> (intro hc; (try simp -implicitDefEqProofs [-loopQ_n, hc]))) | (refine guardD_dec ?_ ?_ <;> (intro hc; (try simp -implicitDefEqProofs [-loopQ_n, hc]))) | (refine condD_intro ?_ ?_ <;> (intro hd; have hc := hd; (try simp at hc) <;> (try simp -implicitDefEqProofs [-loopQ_n, hd, hc]))) | (refine guardD_intro ?_ ?_ <;> (intro hd; have hc := hd; (try simp at hc) <;> (try simp -implicitDefEqProofs [-loopQ_n, hd, hc]))) | (refine ldD_ep ?_ ?_; (focus kernel_rfl); (try simp -implicitDefEqProofs [-loopQ_n])) | (refine callS_mk ?_; (try simp -implicitDefEqProofs [-loopQ_n]); (first | refine callS_intro (letter_pure c) (.inl rfl) ?_); (try simp -implicitDefEqProofs [-loopQ_n])))))
  all_goals (first | omega | (rw [Bool.eq_iff_iff]; simp_all [partC]; done) | (rw [Bool.eq_iff_iff]; simp_all [partC]; omega) | (simp_all [partC]; done) | (simp_all [partC]; omega))
end Go.Proofs.YtdkcmfafganhhaaDoor

/- Names: IsName of the program and of the reference. -/
namespace Go.Proofs.YtdkcmfafganhhaaDoor
set_option linter.unusedSimpArgs false
set_option linter.unusedVariables false
set_option linter.unnecessarySimpa false
set_option linter.unusedSectionVars false
open Go.RowKit
variable [Glob]
set_option maxRecDepth 100000
theorem byte_at {s : ByteArray} {i : Nat} (h : i < s.size) : s.data[i]? = some (s.data[i]'h) := Array.getElem?_eq_getElem h
/-- The bytes before a place all meet the test. -/
def uptoB (p : UInt8 → Bool) (s : ByteArray) (i : Nat) : Prop := ∀ j (h : j < s.size), j < i → p (s.data[j]'h) = true
theorem uptoB_zero (p : UInt8 → Bool) (s : ByteArray) : uptoB p s 0 := fun _ _ h => by omega
theorem uptoB_succ {p : UInt8 → Bool} {s : ByteArray} {i : Nat} (h : uptoB p s i) (hi : i < s.size) (hp : p (s.data[i]'hi) = true) : uptoB p s (i + 1) := fun j hj hlt => by
  by_cases e : j = i
  · subst e; exact hp
  · exact h j hj (by omega)
theorem uptoB_all {p : UInt8 → Bool} {s : ByteArray} {i : Nat} (h : uptoB p s i) (hi : ¬ i < s.size) : s.data.toList.all p = true := by
  simp only [List.all_eq_true]
  intro x hx
  obtain ⟨j, hj, rfl⟩ := List.getElem_of_mem hx
  have hj' : j < s.size := by simpa using hj
  simpa using h j hj' (by omega)
theorem uptoB_not {p : UInt8 → Bool} {s : ByteArray} {i : Nat} (hi : i < s.size) (hp : p (s.data[i]'hi) = false) : s.data.toList.all p = false := by
  simp only [List.all_eq_false]
  exact ⟨s.data[i]'hi, by simp, by simp [hp]⟩
def isNameS (s : ByteArray) : Bool := decide (1 ≤ s.size ∧ s.size ≤ 40) && letterC (s.data[0]?.getD 0) && s.data.toList.all partC
theorem isName_pure (s : ByteArray) : Pure Tryd.prog 43 [.str s] (.bool (isNameS s)) := by
  refine pure_of mixed Tryd.func43 rfl (by kernel_rfl) (of_decide_eq_true rfl) (by kernel_rfl) (vc_run ?_)
  by_cases h1 : (s.size : Int) < 1
  · simp -implicitDefEqProofs [h1, isNameS]
    omega
  by_cases h2 : (40 : Int) < s.size
  · simp -implicitDefEqProofs [h1, h2, isNameS]
    omega
  have h0 : 0 < s.size := by omega
  simp -implicitDefEqProofs [h1, h2, byte_at h0]
  refine call_intro (letter_pure (s.data[0]'h0)) (by simp -implicitDefEqProofs) (.inl rfl) ?_
  by_cases h3 : letterC (s.data[0]'h0) = true
  rotate_left
  · have h3 : letterC (s.data[0]'h0) = false := by simpa using h3
    simp -implicitDefEqProofs [h3, isNameS, byte_at h0]
  simp -implicitDefEqProofs [h3]
  refine loop_intro (σ := Nat) (fun i => ⟨[(0, .str s), (19, .int .i64 s.size), (20, .int .i64 i)], []⟩) (fun i => i ≤ s.size ∧ uptoB partC s i) (fun i => s.size - i) 0 ⟨by omega, uptoB_zero _ _⟩ ?_ ?_
  · refine weak_of 0 0 rfl rfl ?_ ?_ <;> simp
  · rintro i ⟨hi, hp⟩
    by_cases h : i < s.size
    · simp -implicitDefEqProofs [h, byte_at h]
      refine call_intro (part_pure (s.data[i]'h)) (by simp -implicitDefEqProofs) (.inl rfl) ?_
      by_cases h4 : partC (s.data[i]'h) = true
      · simp -implicitDefEqProofs [h4]
        refine ⟨i + 1, ⟨by omega, uptoB_succ hp h h4⟩, by omega, ?_⟩
        refine weak_of 0 0 rfl rfl ?_ ?_ <;> simp
        exact (wrap_in (by omega) (by omega)).symm
      · have h4 : partC (s.data[i]'h) = false := by simpa using h4
        simp -implicitDefEqProofs [h4, isNameS, uptoB_not h h4]
    · simp -implicitDefEqProofs [h, isNameS, byte_at h0, h3, uptoB_all hp h]
      omega
theorem risName_pure (s : ByteArray) : Pure Tryd.prog 30 [.str s] (.bool (isNameS s)) := by
  refine pure_of mixed Tryd.func30 rfl (by kernel_rfl) (of_decide_eq_true rfl) (by kernel_rfl) (vc_run ?_)
  by_cases h1 : (s.size : Int) < 1
  · simp -implicitDefEqProofs [h1, isNameS]
    omega
  by_cases h2 : (40 : Int) < s.size
  · simp -implicitDefEqProofs [h1, h2, isNameS]
    omega
  have h0 : 0 < s.size := by omega
  simp -implicitDefEqProofs [h1, h2, byte_at h0]
  refine call_intro (rletter_pure (s.data[0]'h0)) (by simp -implicitDefEqProofs) (.inl rfl) ?_
  by_cases h3 : letterC (s.data[0]'h0) = true
  rotate_left
  · have h3 : letterC (s.data[0]'h0) = false := by simpa using h3
    simp -implicitDefEqProofs [h3, isNameS, byte_at h0]
  simp -implicitDefEqProofs [h3]
  refine loop_intro (σ := Nat) (fun i => ⟨[(0, .str s), (3, .int .i64 i)], []⟩) (fun i => 1 ≤ i ∧ i ≤ s.size ∧ uptoB partC s i) (fun i => s.size - i) 1 ⟨by omega, by omega, ?_⟩ ?_ ?_
  · exact uptoB_succ (uptoB_zero _ _) h0 (by simp [partC, h3])
  · refine weak_of 0 0 rfl rfl ?_ ?_ <;> simp
  · rintro i ⟨hi1, hi, hp⟩
    have w1 : wrapI .i64 ((i : Int) + 1) = ((i + 1 : Nat) : Int) := by rw [wrap_in (by omega) (by omega)]; omega
    by_cases h : i < s.size
    · simp -implicitDefEqProofs [h, byte_at h]
      refine call_intro (rletter_pure (s.data[i]'h)) (by simp -implicitDefEqProofs) (.inl rfl) ?_
      have next : partC (s.data[i]'h) = true → ∃ j, (1 ≤ j ∧ j ≤ s.size ∧ uptoB partC s j) ∧ s.size - j < s.size - i ∧ j = i + 1 := fun h4 => ⟨i + 1, ⟨by omega, by omega, uptoB_succ hp h h4⟩, by omega, rfl⟩
      by_cases q0 : letterC (s.data[i]'h) = true
      · have h4 : partC (s.data[i]'h) = true := by simp [partC, q0]
        obtain ⟨j, j1, j2, rfl⟩ := next h4
        simp -implicitDefEqProofs [q0, w1]
        refine ⟨i + 1, j1, j2, ?_⟩
        refine weak_of 0 0 rfl rfl ?_ ?_ <;> simp
      have q0 : letterC (s.data[i]'h) = false := by simpa using q0
      by_cases q1 : (48 : Int) ≤ (s.data[i]'h).toNat <;> by_cases q2 : ((s.data[i]'h).toNat : Int) ≤ 57 <;> by_cases q3 : ((s.data[i]'h).toNat : Int) = 95 <;> by_cases q4 : ((s.data[i]'h).toNat : Int) = 45 <;> by_cases q5 : ((s.data[i]'h).toNat : Int) = 46
      all_goals first
        | (exfalso; omega)
        | (have h4 : partC (s.data[i]'h) = true := by simp [partC, q0, q1, q2, q3, q4, q5]
           obtain ⟨j, j1, j2, rfl⟩ := next h4
           simp -implicitDefEqProofs [q0, q1, q2, q3, q4, q5, w1]
           refine ⟨i + 1, j1, j2, ?_⟩
           refine weak_of 0 0 rfl rfl ?_ ?_ <;> simp
           done)
        | (have h4 : partC (s.data[i]'h) = false := by simp [partC, q0, q1, q2, q3, q4, q5]
           simp -implicitDefEqProofs [q0, q1, q2, q3, q4, q5, isNameS, uptoB_not h h4]
           done)
    · simp -implicitDefEqProofs [h, isNameS, byte_at h0, h3, uptoB_all hp h]
      omega
end Go.Proofs.YtdkcmfafganhhaaDoor
