/- Fractions in lowest terms, as plain functions. -/
namespace Go.Proofs.Ytkppfaennogcmaa
set_option linter.unusedSimpArgs false
set_option linter.unusedVariables false
set_option linter.unnecessarySimpa false
set_option linter.unusedSectionVars false

def validFP (n d : Int) : Prop := -1073741824 ≤ n ∧ n ≤ 1073741824 ∧ 1 ≤ d ∧ d ≤ 1073741824 ∧ Nat.gcd n.natAbs d.natAbs = 1
instance (n d : Int) : Decidable (validFP n d) := by unfold validFP; infer_instance
/-- A fraction is valid. -/
def validF (n d : Int) : Bool := decide (validFP n d)
/-- Numerator, denominator, and error number of the fraction with a sign, a numerator and a denominator that is not 0. -/
def fitF (neg : Bool) (n d : Nat) : Int × Int × Int :=
  if 1073741824 < n / Nat.gcd n d ∨ 1073741824 < d / Nat.gcd n d then (0, 0, 6)
  else (if neg then -((n / Nat.gcd n d : Nat) : Int) else ((n / Nat.gcd n d : Nat) : Int), ((d / Nat.gcd n d : Nat) : Int), 0)
/-- Numerator, denominator, and error number of the fraction with a value. -/
def makeF (n d : Int) : Int × Int × Int :=
  if d = 0 then (0, 0, 7) else fitF (!(decide (n < 0) == decide (d < 0))) n.natAbs d.natAbs
theorem makeF_zero (n : Int) : makeF n 0 = (0, 0, 7) := by simp [makeF]
theorem makeF_pos {n d : Int} (h : d ≠ 0) : makeF n d = fitF (!(decide (n < 0) == decide (d < 0))) n.natAbs d.natAbs := by simp [makeF, h]
theorem makeF_eq {n d n' d' : Int} {G : Nat} (hG : G = Nat.gcd n.natAbs d.natAbs) (hn : n = G * n') (hd : d = G * d') (h0 : d ≠ 0) :
    makeF n d = if 1073741824 < n'.natAbs ∨ 1073741824 < d'.natAbs then (0, 0, 6) else (if 0 < d then n' else -n', (d'.natAbs : Int), 0) := by
  have hG1 : 0 < G := by rw [hG]; exact Nat.gcd_pos_of_pos_right _ (by omega)
  have e1 : n.natAbs / G = n'.natAbs := by
    rw [hn, Int.natAbs_mul, Int.natAbs_natCast, Nat.mul_div_cancel_left _ hG1]
  have e2 : d.natAbs / G = d'.natAbs := by
    rw [hd, Int.natAbs_mul, Int.natAbs_natCast, Nat.mul_div_cancel_left _ hG1]
  have s1 : (n < 0) ↔ (n' < 0) := by
    rw [hn]; constructor
    · intro h; rcases (show n' < 0 ∨ 0 ≤ n' by omega) with h1 | h1
      · exact h1
      · have := Int.mul_nonneg (Int.natCast_nonneg G) h1; omega
    · intro h; exact Int.mul_neg_of_pos_of_neg (by omega) h
  have hd0 : d' ≠ 0 := by intro h; rw [h] at hd; simp at hd; exact h0 hd
  have s2 : (d < 0) ↔ ¬ (0 < d) := by omega
  rw [makeF_pos h0, fitF, ← hG, e1, e2]
  by_cases hb : 1073741824 < n'.natAbs ∨ 1073741824 < d'.natAbs
  · rw [if_pos hb, if_pos hb]
  · rw [if_neg hb, if_neg hb]
    have e3 : (!(decide (n < 0) == decide (d < 0))) = decide ((n' < 0) ↔ 0 < d) := by
      rw [Bool.eq_iff_iff]; simp only [Bool.not_eq_true', beq_eq_false_iff_ne, ne_eq, decide_eq_decide, decide_eq_true_eq, s1, s2]
      by_cases a : n' < 0 <;> by_cases b : 0 < d <;> simp only [a, b] <;> decide
    rw [e3]
    clear e1 e2 e3 s1 s2 hn hd
    by_cases a : n' < 0 <;> by_cases b : 0 < d <;> simp only [a, b, if_true, if_false, decide_true, decide_false, iff_true, iff_false, not_true, Bool.false_eq_true] <;> congr 1 <;> omega
theorem gcd_step (a b : Nat) : Nat.gcd b (a % b) = Nat.gcd a b := by
  rw [Nat.gcd_comm a b, Nat.gcd_rec b a, Nat.gcd_comm]
end Go.Proofs.Ytkppfaennogcmaa
