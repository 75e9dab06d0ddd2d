/- Sums of fractions in the abstract machine. -/
import Derived.Test.YtkppfaennogcmaaFracQ
namespace Go.Proofs.Ytkppfaennogcmaa
set_option linter.unusedSimpArgs false
set_option linter.unusedVariables false
set_option linter.unnecessarySimpa false
set_option linter.unusedSectionVars false
open Go.RowKit
variable [Glob]
set_option maxRecDepth 100000
theorem wrapU_in {n : Int} (h1 : 0 ≤ n) (h2 : n ≤ 18446744073709551615) : wrapI .u64 n = n := by
  rw [wrapI_eq]
  exact IntWalk.u64_in _ ⟨h1, h2⟩
/-- The sum over the least common denominator: numerator and denominator. -/
def sumN (a b : Int × Int) : Int := a.1 * (b.2 / (Nat.gcd a.2.natAbs b.2.natAbs : Int)) + b.1 * (a.2 / (Nat.gcd a.2.natAbs b.2.natAbs : Int))
def sumD (a b : Int × Int) : Int := a.2 * (b.2 / (Nat.gcd a.2.natAbs b.2.natAbs : Int))
def addF (a b : Int × Int) : Int × Int × Int :=
  if validF a.1 a.2 && validF b.1 b.2 then fitF (decide (sumN a b < 0)) (sumN a b).natAbs (sumD a b).natAbs else (0, 0, 1)
theorem fit_pureI (neg : Bool) (n d : Int) (N D : Nat) (hn : n = N) (hd : d = D) (h1 : 1 ≤ d) (h2 : d ≤ 9223372036854775808) (h3 : n ≤ 9223372036854775808) :
    Pure Try.prog 114 [.bool neg, .int .u64 n, .int .u64 d] (.tup [.agg [.int .i64 (fitF neg N D).1, .int .i64 (fitF neg N D).2.1], .int .i64 (fitF neg N D).2.2]) := by
  subst hn hd
  exact fit_pure neg N D (by omega) (by omega) (by omega)
set_option maxHeartbeats 1000000 in
theorem add_pure (a b : Int × Int) : Pure Try.prog 103 [.agg (fracC a), .agg (fracC b)] (.tup [.agg [.int .i64 (addF a b).1, .int .i64 (addF a b).2.1], .int .i64 (addF a b).2.2]) := by
  obtain ⟨p, q⟩ := a
  obtain ⟨p', q'⟩ := b
  refine pure_of mixed Try.func103 rfl (by kernel_rfl) (of_decide_eq_true rfl) (by kernel_rfl) (vc_run ?_)
  simp -implicitDefEqProofs [fracC]
  refine call_intro (fvalids_pure [(p, q), (p', q')] (by simp)) (by simp -implicitDefEqProofs [fracC, rowsOf]) (.inl rfl) ?_
  by_cases h1 : validF p q = true
  · by_cases h2 : validF p' q' = true
    · have b1 := validF_bd h1
      have b2 := validF_bd h2
      obtain ⟨G, hG⟩ : ∃ G, G = Nat.gcd q.natAbs q'.natAbs := ⟨_, rfl⟩
      have hG1 : 1 ≤ G := by rw [hG]; exact Nat.gcd_pos_of_pos_left _ (by omega)
      have hGq : (G : Int) ∣ q := by rw [hG]; exact Int.ofNat_dvd_left.2 (Nat.gcd_dvd_left _ _)
      have hGq' : (G : Int) ∣ q' := by rw [hG]; exact Int.ofNat_dvd_left.2 (Nat.gcd_dvd_right _ _)
      obtain ⟨R, hR⟩ := hGq
      obtain ⟨R', hR'⟩ := hGq'
      have hG0 : (G : Int) ≠ 0 := by omega
      have hG0N : G ≠ 0 := by omega
      have hd1 : q / (G : Int) = R := by rw [hR]; exact Int.mul_ediv_cancel_left _ hG0
      have hd2 : q' / (G : Int) = R' := by rw [hR']; exact Int.mul_ediv_cancel_left _ hG0
      have hR1 : 1 ≤ R ∧ R ≤ q := by
        have hp : 0 < R := by
          rcases Int.lt_or_le 0 R with h | h
          · exact h
          · exfalso; have := Int.mul_nonpos_of_nonneg_of_nonpos (show (0 : Int) ≤ G by omega) h; omega
        exact ⟨hp, by rw [hR]; have := Int.mul_le_mul_of_nonneg_right (show (1 : Int) ≤ G by omega) (show 0 ≤ R by omega); omega⟩
      have hR1' : 1 ≤ R' ∧ R' ≤ q' := by
        have hp : 0 < R' := by
          rcases Int.lt_or_le 0 R' with h | h
          · exact h
          · exfalso; have := Int.mul_nonpos_of_nonneg_of_nonpos (show (0 : Int) ≤ G by omega) h; omega
        exact ⟨hp, by rw [hR']; have := Int.mul_le_mul_of_nonneg_right (show (1 : Int) ≤ G by omega) (show 0 ≤ R' by omega); omega⟩
      have t1 : q.tdiv (G : Int) = R := by rw [Int.tdiv_eq_ediv_of_nonneg (by omega)]; exact hd1
      have t2 : q'.tdiv (G : Int) = R' := by rw [Int.tdiv_eq_ediv_of_nonneg (by omega)]; exact hd2
      have m1 := prod_in b1.1 b1.2.1 hR1'.1 (show R' ≤ 1073741824 by omega)
      have m2 := prod_in b2.1 b2.2.1 hR1.1 (show R ≤ 1073741824 by omega)
      have m3 := prod_in (show -1073741824 ≤ q by omega) b1.2.2.2 hR1'.1 (show R' ≤ 1073741824 by omega)
      have m4 : 1 ≤ q * R' := by have := Int.mul_le_mul b1.2.2.1 hR1'.1 (by omega) (by omega); omega
      have hS : sumN (p, q) (p', q') = p * R' + p' * R := by simp only [sumN, ← hG, hd1, hd2]
      have hD : sumD (p, q) (p', q') = q * R' := by simp only [sumD, ← hG, hd2]
      have hA : addF (p, q) (p', q') = fitF (decide (p * R' + p' * R < 0)) (p * R' + p' * R).natAbs (q * R').natAbs := by simp only [addF, hS, hD, h1, h2]; rfl
      rw [hA]
      have hgcd : Pure Try.prog 100 [.int .i64 q, .int .i64 q'] (.int .i64 (G : Int)) := by rw [hG]; exact gcd_pure q q' (by omega) (by omega) (by omega) (by omega)
      have w1 : wrapI .i64 R = R := wrap_in (by omega) (by omega)
      have w2 : wrapI .i64 R' = R' := wrap_in (by omega) (by omega)
      have w3 : wrapI .i64 (p * R') = p * R' := wrap_in (by omega) (by omega)
      have w4 : wrapI .i64 (p' * R) = p' * R := wrap_in (by omega) (by omega)
      have w5 : wrapI .u64 q = q := wrapU_in (by omega) (by omega)
      have w6 : wrapI .u64 R' = R' := wrapU_in (by omega) (by omega)
      have w7 : wrapI .u64 (q * R') = q * R' := wrapU_in (by omega) (by omega)
      clear hR hR' hG hS hD hA hd1 hd2
      generalize hx : p * R' = x at *
      generalize hy : p' * R = y at *
      generalize hz : q * R' = z at *
      simp -implicitDefEqProofs [h1, h2]
      refine call_intro hgcd (by simp -implicitDefEqProofs) (.inl rfl) ?_
      have w8 : wrapI .i64 (x + y) = x + y := wrap_in (by omega) (by omega)
      have w9 : wrapI .u64 ((x.natAbs : Int) + (y.natAbs : Int)) = (x.natAbs : Int) + (y.natAbs : Int) := wrapU_in (by omega) (by omega)
      by_cases hs : decide (x < 0) = decide (y < 0)
      · simp -implicitDefEqProofs [hG0N, t1, t2, w1, w2, w3, w4, w5, w6, w7, hx, hy, hz, hs]
        refine call_intro (abs_pure x (by omega) (by omega)) (by simp -implicitDefEqProofs) (.inl rfl) ?_
        simp -implicitDefEqProofs
        refine call_intro (abs_pure y (by omega) (by omega)) (by simp -implicitDefEqProofs) (.inl rfl) ?_
        simp -implicitDefEqProofs [w9]
        have hn : (x.natAbs : Int) + (y.natAbs : Int) = ((x + y).natAbs : Nat) := by
          have : (x < 0) = (y < 0) := by simpa using hs
          by_cases h : x < 0
          · have : y < 0 := by rw [← this]; exact h
            omega
          · have : ¬ y < 0 := by rw [← this]; exact h
            omega
        have hneg : decide (y < 0) = decide (x + y < 0) := by
          have : (x < 0) = (y < 0) := by simpa using hs
          by_cases h : x < 0
          · have h' : y < 0 := by rw [← this]; exact h
            simp only [h', decide_true]; simp; omega
          · have h' : ¬ y < 0 := by rw [← this]; exact h
            simp only [h', decide_false]; simp; omega
        refine call_intro (fit_pureI (decide (y < 0)) _ z _ z.natAbs hn (by omega) (by omega) (by omega) (by omega)) (by simp -implicitDefEqProofs) (.inl rfl) ?_
        simp -implicitDefEqProofs [hneg]
      · have hs' : (decide (x < 0) == decide (y < 0)) = false := by simpa using hs
        simp -implicitDefEqProofs [hG0N, t1, t2, w1, w2, w3, w4, w5, w6, w7, w8, hx, hy, hz, hs']
        refine call_intro (abs_pure (x + y) (by omega) (by omega)) (by simp -implicitDefEqProofs) (.inl rfl) ?_
        simp -implicitDefEqProofs
        refine call_intro (fit_pureI (decide (x + y < 0)) ((x + y).natAbs : Int) z (x + y).natAbs z.natAbs rfl (by omega) (by omega) (by omega) (by omega)) (by simp -implicitDefEqProofs) (.inl rfl) ?_
        simp -implicitDefEqProofs
    · have h2 : validF p' q' = false := by simpa using h2
      simp -implicitDefEqProofs [h1, h2, addF]
  · have h1 : validF p q = false := by simpa using h1
    simp -implicitDefEqProofs [h1, addF]
end Go.Proofs.Ytkppfaennogcmaa
