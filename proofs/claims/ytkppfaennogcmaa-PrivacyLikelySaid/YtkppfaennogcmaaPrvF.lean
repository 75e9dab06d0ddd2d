/- Differences of fractions, of the program and of the reference. -/
import Derived.Test.YtkppfaennogcmaaFracA
import Derived.Test.YtkppfaennogcmaaFracS
namespace Go.Proofs.Ytkppfaennogcmaa
set_option linter.unusedSimpArgs false
set_option linter.unusedVariables false
set_option linter.unnecessarySimpa false
set_option linter.unusedSectionVars false
open Go.RowKit
variable [Glob]
set_option maxRecDepth 100000
abbrev Fr := Int × Int
theorem validF_neg {n d : Int} : validF (-n) d = validF n d := by
  unfold validF
  congr 1
  unfold validFP
  rw [Int.natAbs_neg]
  exact propext ⟨fun ⟨a, b, c⟩ => ⟨by omega, by omega, c⟩, fun ⟨a, b, c⟩ => ⟨by omega, by omega, c⟩⟩
/-- The difference. -/
def subF (a b : Fr) : Int × Int × Int := addF a (-b.1, b.2)
theorem subF_bad {a b : Fr} (h : (validF a.1 a.2 && validF b.1 b.2) = false) : subF a b = (0, 0, 1) := by
  simp only [subF, addF, validF_neg, h]; rfl
theorem sub_pure (a b : Fr) : Pure Try.prog 82 [.agg (fracC a), .agg (fracC b)] (.tup [.agg [.int .i64 (subF a b).1, .int .i64 (subF a b).2.1], .int .i64 (subF a b).2.2]) := by
  obtain ⟨p, q⟩ := a
  obtain ⟨p', q'⟩ := b
  have hv := fvalids_pure [(p, q), (p', q')] (by simp)
  simp only [rowsOf, List.map_cons, List.map_nil, fracC] at hv
  have ha := add_pure (p, q) (-p', q')
  simp only [fracC] at ha
  refine pure_of mixed Try.func82 rfl (by kernel_rfl) (of_decide_eq_true rfl) (by kernel_rfl) (vc_run ?_)
  by_cases h : (validF p q && validF p' q') = true
  · have hw : wrapI .i64 (-p') = -p' := by
      have := validF_bd (n := p') (d := q') (by simp at h; exact h.2)
      exact wrap_in (by omega) (by omega)
    simp only [Bool.and_eq_true] at h
    ((try simp -implicitDefEqProofs [-loopQ_n, fracC, h.1, h.2, hw, subF]) <;> (repeat' (first | (refine condD_dec ?_ ?_ <;> (intro hc; (try simp -implicitDefEqProofs [-loopQ_n, hc, fracC, h.1, h.2, hw, subF]))) | (refine guardD_dec ?_ ?_ <;> (intro hc; (try simp -implicitDefEqProofs [-loopQ_n, hc, fracC, h.1, h.2, hw, subF]))) | (refine condD_intro ?_ ?_ <;> (intro hd; have hc := hd; (try simp at hc) <;> (try simp -implicitDefEqProofs [-loopQ_n, hd, hc, fracC, h.1, h.2, hw, subF]))) | (refine guardD_intro ?_ ?_ <;> (intro hd; have hc := hd; (try simp at hc) <;> (try simp -implicitDefEqProofs [-loopQ_n, hd, hc, fracC, h.1, h.2, hw, subF]))) | (refine ldD_ep ?_ ?_; (focus kernel_rfl); (try simp -implicitDefEqProofs [-loopQ_n, fracC, h.1, h.2, hw, subF])) | (refine callS_mk ?_; (try simp -implicitDefEqProofs [-loopQ_n, fracC, h.1, h.2, hw, subF]); (first | refine callS_intro (hv) (.inl rfl) ?_ | refine callS_intro (ha) (.inl rfl) ?_); (try simp -implicitDefEqProofs [-loopQ_n, fracC, h.1, h.2, hw, subF])))))
  · have h : (validF p q && validF p' q') = false := by simpa using h
    rw [subF_bad h]
    rw [Bool.and_eq_false_iff] at h
    rcases h with h | h
    · ((try simp -implicitDefEqProofs [-loopQ_n, fracC, h]) <;> (repeat' (first | (refine condD_dec ?_ ?_ <;> (intro hc; (try simp -implicitDefEqProofs [-loopQ_n, hc, fracC, h]))) | (refine guardD_dec ?_ ?_ <;> (intro hc; (try simp -implicitDefEqProofs [-loopQ_n, hc, fracC, h]))) | (refine condD_intro ?_ ?_ <;> (intro hd; have hc := hd; (try simp at hc) <;> (try simp -implicitDefEqProofs [-loopQ_n, hd, hc, fracC, h]))) | (refine guardD_intro ?_ ?_ <;> (intro hd; have hc := hd; (try simp at hc) <;> (try simp -implicitDefEqProofs [-loopQ_n, hd, hc, fracC, h]))) | (refine ldD_ep ?_ ?_; (focus kernel_rfl); (try simp -implicitDefEqProofs [-loopQ_n, fracC, h])) | (refine callS_mk ?_; (try simp -implicitDefEqProofs [-loopQ_n, fracC, h]); (first | refine callS_intro (hv) (.inl rfl) ?_); (try simp -implicitDefEqProofs [-loopQ_n, fracC, h])))))
    · ((try simp -implicitDefEqProofs [-loopQ_n, fracC, h]) <;> (repeat' (first | (refine condD_dec ?_ ?_ <;> (intro hc; (try simp -implicitDefEqProofs [-loopQ_n, hc, fracC, h]))) | (refine guardD_dec ?_ ?_ <;> (intro hc; (try simp -implicitDefEqProofs [-loopQ_n, hc, fracC, h]))) | (refine condD_intro ?_ ?_ <;> (intro hd; have hc := hd; (try simp at hc) <;> (try simp -implicitDefEqProofs [-loopQ_n, hd, hc, fracC, h]))) | (refine guardD_intro ?_ ?_ <;> (intro hd; have hc := hd; (try simp at hc) <;> (try simp -implicitDefEqProofs [-loopQ_n, hd, hc, fracC, h]))) | (refine ldD_ep ?_ ?_; (focus kernel_rfl); (try simp -implicitDefEqProofs [-loopQ_n, fracC, h])) | (refine callS_mk ?_; (try simp -implicitDefEqProofs [-loopQ_n, fracC, h]); (first | refine callS_intro (hv) (.inl rfl) ?_); (try simp -implicitDefEqProofs [-loopQ_n, fracC, h])))))
/-- Common factors do not matter. -/
theorem fitF_scale (neg : Bool) (g n d : Nat) (hg : 0 < g) : fitF neg (g * n) (g * d) = fitF neg n d := by
  unfold fitF
  rw [Nat.gcd_mul_left, Nat.mul_div_mul_left _ _ hg, Nat.mul_div_mul_left _ _ hg]
theorem addF_make {a b : Fr} (ha : validF a.1 a.2 = true) (hb : validF b.1 b.2 = true) : addF a b = makeF (a.1 * b.2 + b.1 * a.2) (a.2 * b.2) := by
  obtain ⟨p, q⟩ := a
  obtain ⟨p', q'⟩ := b
  simp only at ha hb ⊢
  have b1 := validF_bd ha
  have b2 := validF_bd hb
  obtain ⟨G, hG⟩ : ∃ G, G = Nat.gcd q.natAbs q'.natAbs := ⟨_, rfl⟩
  have hG1 : 0 < G := by rw [hG]; exact Nat.gcd_pos_of_pos_left _ (by omega)
  obtain ⟨R, hR⟩ : (G : Int) ∣ q := by rw [hG]; exact Int.ofNat_dvd_left.2 (Nat.gcd_dvd_left _ _)
  obtain ⟨R', hR'⟩ : (G : Int) ∣ q' := by rw [hG]; exact Int.ofNat_dvd_left.2 (Nat.gcd_dvd_right _ _)
  have hG0 : (G : Int) ≠ 0 := by omega
  have hd1 : q / (G : Int) = R := by rw [hR]; exact Int.mul_ediv_cancel_left _ hG0
  have hd2 : q' / (G : Int) = R' := by rw [hR']; exact Int.mul_ediv_cancel_left _ hG0
  have hS : sumN (p, q) (p', q') = p * R' + p' * R := by simp only [sumN, ← hG, hd1, hd2]
  have hD : sumD (p, q) (p', q') = q * R' := by simp only [sumD, ← hG, hd2]
  have e1 : p * q' + p' * q = G * (p * R' + p' * R) := by rw [hR, hR']; grind
  have e2 : q * q' = G * (q * R') := by rw [hR']; grind
  have hqq : 0 < q * q' := Int.mul_pos (by omega) (by omega)
  simp only [addF, ha, hb, Bool.and_self, if_true, hS, hD]
  rw [makeF_pos (by omega)]
  have e3 : (p * q' + p' * q).natAbs = G * (p * R' + p' * R).natAbs := by rw [e1, Int.natAbs_mul, Int.natAbs_natCast]
  have e4 : (q * q').natAbs = G * (q * R').natAbs := by rw [e2, Int.natAbs_mul, Int.natAbs_natCast]
  rw [e3, e4, fitF_scale _ _ _ _ hG1]
  congr 1
  have e5 : decide (q * q' < 0) = false := by simp; omega
  have e6 : decide (p * q' + p' * q < 0) = decide (p * R' + p' * R < 0) := by
    rw [e1]
    simp only [decide_eq_decide]
    constructor
    · intro h
      rcases Int.lt_or_le (p * R' + p' * R) 0 with h1 | h1
      · exact h1
      · have := Int.mul_nonneg (show (0 : Int) ≤ G by omega) h1; omega
    · intro h; exact Int.mul_neg_of_pos_of_neg (by omega) h
  rw [e5, e6]
  cases decide (p * R' + p' * R < 0) <;> rfl
theorem fit_valid {neg : Bool} {n d : Nat} (hd : 0 < d) (h : (fitF neg n d).2.2 = 0) : validF (fitF neg n d).1 (fitF neg n d).2.1 = true := by
  unfold fitF at h ⊢
  have hg : 0 < Nat.gcd n d := Nat.gcd_pos_of_pos_right _ hd
  have hc : Nat.gcd (n / Nat.gcd n d) (d / Nat.gcd n d) = 1 := by rw [Nat.gcd_div (Nat.gcd_dvd_left _ _) (Nat.gcd_dvd_right _ _)]; exact Nat.div_self hg
  have hd1 : 0 < d / Nat.gcd n d := Nat.div_pos (Nat.le_of_dvd hd (Nat.gcd_dvd_right _ _)) hg
  split at h
  · simp at h
  · rename_i hb
    rw [if_neg hb]
    unfold validF
    rw [decide_eq_true_eq]
    unfold validFP
    simp only
    generalize n / Nat.gcd n d = x at *
    generalize d / Nat.gcd n d = y at *
    cases neg
    · simp only [Bool.false_eq_true, if_false, Int.natAbs_natCast]; exact ⟨by omega, by omega, by omega, by omega, hc⟩
    · simp only [if_true, Int.natAbs_neg, Int.natAbs_natCast]; exact ⟨by omega, by omega, by omega, by omega, hc⟩
/-- A difference that is none below zero. -/
theorem subF_good {a b : Fr} (ha : validF a.1 a.2 = true) (hb : validF b.1 b.2 = true) (hle : b.1 * a.2 ≤ a.1 * b.2) (h : (subF a b).2.2 = 0) : validF (subF a b).1 (subF a b).2.1 = true ∧ 0 ≤ (subF a b).1 := by
  have hb' : validF (-b.1, b.2).1 (-b.1, b.2).2 = true := by simpa [validF_neg] using hb
  have b1 := validF_bd ha
  have b2 := validF_bd hb
  have hqq : 0 < a.2 * b.2 := Int.mul_pos (by omega) (by omega)
  have e : subF a b = makeF (a.1 * b.2 + -b.1 * a.2) (a.2 * b.2) := addF_make ha hb'
  have e2 : -b.1 * a.2 = -(b.1 * a.2) := by rw [Int.neg_mul]
  rw [e, makeF_pos (by omega)] at h ⊢
  refine ⟨fit_valid (by omega) h, ?_⟩
  have hs : (!(decide (a.1 * b.2 + -b.1 * a.2 < 0) == decide (a.2 * b.2 < 0))) = false := by
    have q1 : decide (a.1 * b.2 + -b.1 * a.2 < 0) = false := by simp; omega
    have q2 : decide (a.2 * b.2 < 0) = false := by simp; omega
    rw [q1, q2]; rfl
  rw [hs]
  unfold fitF
  split
  · exact Int.le_refl _
  · simp only [Bool.false_eq_true, if_false]; exact Int.natCast_nonneg _
theorem r1valid_pure (a : Fr) : Pure Try.prog 33 [.agg [.int .i64 a.1, .int .i64 a.2]] (.bool (validF a.1 a.2)) :=
  pure_flat (by kernel_rfl) rfl rfl fun w => rvalid01_any a.1 a.2 w
theorem r1make_pure (n d : Int) (h1 : -4611686018427387904 ≤ n) (h2 : n ≤ 4611686018427387904) (h3 : -4611686018427387904 ≤ d) (h4 : d ≤ 4611686018427387904) :
    Pure Try.prog 69 [.int .i64 n, .int .i64 d] (.tup [.agg [.int .i64 (makeF n d).1, .int .i64 (makeF n d).2.1], .int .i64 (makeF n d).2.2]) :=
  pure_flat (by kernel_rfl) rfl rfl fun w => rmake_any n d w h1 h2 h3 h4
theorem r1neg_pure (a b : Int) (h : -1073741824 ≤ a) (h2 : a ≤ 1073741824) : Pure Try.prog 105 [.agg [.int .i64 a, .int .i64 b]] (.agg [.int .i64 (-a), .int .i64 b]) := by
  have hw : wrapI .i64 (-a) = -a := wrap_in (by omega) (by omega)
  refine pure_of mixed Try.func105 rfl (by kernel_rfl) (of_decide_eq_true rfl) (by kernel_rfl) (vc_run ?_)
  ((try simp -implicitDefEqProofs [-loopQ_n, hw]) <;> (repeat' (first | (refine condD_dec ?_ ?_ <;> (intro hc; (try simp -implicitDefEqProofs [-loopQ_n, hc, hw]))) | (refine guardD_dec ?_ ?_ <;> (intro hc; (try simp -implicitDefEqProofs [-loopQ_n, hc, hw]))) | (refine condD_intro ?_ ?_ <;> (intro hd; have hc := hd; (try simp at hc) <;> (try simp -implicitDefEqProofs [-loopQ_n, hd, hc, hw]))) | (refine guardD_intro ?_ ?_ <;> (intro hd; have hc := hd; (try simp at hc) <;> (try simp -implicitDefEqProofs [-loopQ_n, hd, hc, hw]))) | (refine ldD_ep ?_ ?_; (focus kernel_rfl); (try simp -implicitDefEqProofs [-loopQ_n, hw])))))
theorem r1add_pure (a b : Fr) (ha : validF a.1 a.2 = true) (hb : validF b.1 b.2 = true) : Pure Try.prog 104 [.agg [.int .i64 a.1, .int .i64 a.2], .agg [.int .i64 b.1, .int .i64 b.2]] (.tup [.agg [.int .i64 (addF a b).1, .int .i64 (addF a b).2.1], .int .i64 (addF a b).2.2]) := by
  rw [addF_make ha hb]
  obtain ⟨p, q⟩ := a
  obtain ⟨p', q'⟩ := b
  simp only at ha hb ⊢
  have b1 := validF_bd ha
  have b2 := validF_bd hb
  have m1 := prod_in b1.1 b1.2.1 b2.2.2.1 b2.2.2.2
  have m2 := prod_in b2.1 b2.2.1 b1.2.2.1 b1.2.2.2
  have m3 := prod_in (show -1073741824 ≤ q by omega) b1.2.2.2 b2.2.2.1 b2.2.2.2
  have w1 := wrap_in (n := p * q') (by omega) (by omega)
  have w2 := wrap_in (n := p' * q) (by omega) (by omega)
  have w3 := wrap_in (n := q * q') (by omega) (by omega)
  have w4 := wrap_in (n := p * q' + p' * q) (by omega) (by omega)
  have hm := r1make_pure (p * q' + p' * q) (q * q') (by omega) (by omega) (by omega) (by omega)
  have h1 := r1valid_pure (p, q)
  have h2 := r1valid_pure (p', q')
  simp only at h1 h2
  refine pure_of mixed Try.func104 rfl (by kernel_rfl) (of_decide_eq_true rfl) (by kernel_rfl) (vc_run ?_)
  ((try simp -implicitDefEqProofs [-loopQ_n, ha, hb, w1, w2, w3, w4]) <;> (repeat' (first | (refine condD_dec ?_ ?_ <;> (intro hc; (try simp -implicitDefEqProofs [-loopQ_n, hc, ha, hb, w1, w2, w3, w4]))) | (refine guardD_dec ?_ ?_ <;> (intro hc; (try simp -implicitDefEqProofs [-loopQ_n, hc, ha, hb, w1, w2, w3, w4]))) | (refine condD_intro ?_ ?_ <;> (intro hd; have hc := hd; (try simp at hc) <;> (try simp -implicitDefEqProofs [-loopQ_n, hd, hc, ha, hb, w1, w2, w3, w4]))) | (refine guardD_intro ?_ ?_ <;> (intro hd; have hc := hd; (try simp at hc) <;> (try simp -implicitDefEqProofs [-loopQ_n, hd, hc, ha, hb, w1, w2, w3, w4]))) | (refine ldD_ep ?_ ?_; (focus kernel_rfl); (try simp -implicitDefEqProofs [-loopQ_n, ha, hb, w1, w2, w3, w4])) | (refine callS_mk ?_; (try simp -implicitDefEqProofs [-loopQ_n, ha, hb, w1, w2, w3, w4]); (first | refine callS_intro (h1) (.inl rfl) ?_ | refine callS_intro (h2) (.inl rfl) ?_ | refine callS_intro (hm) (.inl rfl) ?_); (try simp -implicitDefEqProofs [-loopQ_n, ha, hb, w1, w2, w3, w4])))))
theorem r1sub_pure (a b : Fr) (ha : validF a.1 a.2 = true) (hb : validF b.1 b.2 = true) : Pure Try.prog 84 [.agg [.int .i64 a.1, .int .i64 a.2], .agg [.int .i64 b.1, .int .i64 b.2]] (.tup [.agg [.int .i64 (subF a b).1, .int .i64 (subF a b).2.1], .int .i64 (subF a b).2.2]) := by
  have hb' : validF (-b.1, b.2).1 (-b.1, b.2).2 = true := by simpa [validF_neg] using hb
  have hA := r1add_pure a (-b.1, b.2) ha hb'
  have b2 := validF_bd hb
  have hN := r1neg_pure b.1 b.2 b2.1 b2.2.1
  have h1 := r1valid_pure a
  have h2 := r1valid_pure b
  unfold subF
  refine pure_of mixed Try.func84 rfl (by kernel_rfl) (of_decide_eq_true rfl) (by kernel_rfl) (vc_run ?_)
  ((try simp -implicitDefEqProofs [-loopQ_n, ha, hb]) <;> (repeat' (first | (refine condD_dec ?_ ?_ <;> (intro hc; (try simp -implicitDefEqProofs [-loopQ_n, hc, ha, hb]))) | (refine guardD_dec ?_ ?_ <;> (intro hc; (try simp -implicitDefEqProofs [-loopQ_n, hc, ha, hb]))) | (refine condD_intro ?_ ?_ <;> (intro hd; have hc := hd; (try simp at hc) <;> (try simp -implicitDefEqProofs [-loopQ_n, hd, hc, ha, hb]))) | (refine guardD_intro ?_ ?_ <;> (intro hd; have hc := hd; (try simp at hc) <;> (try simp -implicitDefEqProofs [-loopQ_n, hd, hc, ha, hb]))) | (refine ldD_ep ?_ ?_; (focus kernel_rfl); (try simp -implicitDefEqProofs [-loopQ_n, ha, hb])) | (refine callS_mk ?_; (try simp -implicitDefEqProofs [-loopQ_n, ha, hb]); (first | refine callS_intro (h1) (.inl rfl) ?_ | refine callS_intro (h2) (.inl rfl) ?_ | refine callS_intro (hN) (.inl rfl) ?_ | refine callS_intro (hA) (.inl rfl) ?_); (try simp -implicitDefEqProofs [-loopQ_n, ha, hb])))))
theorem r1cmp_pure (a b : Fr) (ha : validF a.1 a.2 = true) (hb : validF b.1 b.2 = true) : Pure Try.prog 83 [.agg [.int .i64 a.1, .int .i64 a.2], .agg [.int .i64 b.1, .int .i64 b.2]] (.int .i64 (cmpF a b).1) := by
  obtain ⟨p, q⟩ := a
  obtain ⟨p', q'⟩ := b
  simp only at ha hb ⊢
  have b1 := validF_bd ha
  have b2 := validF_bd hb
  have m1 := prod_in b1.1 b1.2.1 b2.2.2.1 b2.2.2.2
  have m2 := prod_in b2.1 b2.2.1 b1.2.2.1 b1.2.2.2
  have w1 := wrap_in (n := p * q') (by omega) (by omega)
  have w2 := wrap_in (n := p' * q) (by omega) (by omega)
  have w3 := wrap_in (n := (0 : Int) - 1) (by omega) (by omega)
  refine pure_of mixed Try.func83 rfl (by kernel_rfl) (of_decide_eq_true rfl) (by kernel_rfl) (vc_run ?_)
  by_cases c1 : p * q' < p' * q
  · ((try simp -implicitDefEqProofs [-loopQ_n, w1, w2, w3, c1, cmpF, ha, hb]) <;> (repeat' (first | (refine condD_dec ?_ ?_ <;> (intro hc; (try simp -implicitDefEqProofs [-loopQ_n, hc, w1, w2, w3, c1, cmpF, ha, hb]))) | (refine guardD_dec ?_ ?_ <;> (intro hc; (try simp -implicitDefEqProofs [-loopQ_n, hc, w1, w2, w3, c1, cmpF, ha, hb]))) | (refine condD_intro ?_ ?_ <;> (intro hd; have hc := hd; (try simp at hc) <;> (try simp -implicitDefEqProofs [-loopQ_n, hd, hc, w1, w2, w3, c1, cmpF, ha, hb]))) | (refine guardD_intro ?_ ?_ <;> (intro hd; have hc := hd; (try simp at hc) <;> (try simp -implicitDefEqProofs [-loopQ_n, hd, hc, w1, w2, w3, c1, cmpF, ha, hb]))) | (refine ldD_ep ?_ ?_; (focus kernel_rfl); (try simp -implicitDefEqProofs [-loopQ_n, w1, w2, w3, c1, cmpF, ha, hb])))))
  · by_cases c2 : p' * q < p * q'
    · ((try simp -implicitDefEqProofs [-loopQ_n, w1, w2, w3, c1, c2, cmpF, ha, hb]) <;> (repeat' (first | (refine condD_dec ?_ ?_ <;> (intro hc; (try simp -implicitDefEqProofs [-loopQ_n, hc, w1, w2, w3, c1, c2, cmpF, ha, hb]))) | (refine guardD_dec ?_ ?_ <;> (intro hc; (try simp -implicitDefEqProofs [-loopQ_n, hc, w1, w2, w3, c1, c2, cmpF, ha, hb]))) | (refine condD_intro ?_ ?_ <;> (intro hd; have hc := hd; (try simp at hc) <;> (try simp -implicitDefEqProofs [-loopQ_n, hd, hc, w1, w2, w3, c1, c2, cmpF, ha, hb]))) | (refine guardD_intro ?_ ?_ <;> (intro hd; have hc := hd; (try simp at hc) <;> (try simp -implicitDefEqProofs [-loopQ_n, hd, hc, w1, w2, w3, c1, c2, cmpF, ha, hb]))) | (refine ldD_ep ?_ ?_; (focus kernel_rfl); (try simp -implicitDefEqProofs [-loopQ_n, w1, w2, w3, c1, c2, cmpF, ha, hb])))))
    · ((try simp -implicitDefEqProofs [-loopQ_n, w1, w2, w3, c1, c2, cmpF, ha, hb]) <;> (repeat' (first | (refine condD_dec ?_ ?_ <;> (intro hc; (try simp -implicitDefEqProofs [-loopQ_n, hc, w1, w2, w3, c1, c2, cmpF, ha, hb]))) | (refine guardD_dec ?_ ?_ <;> (intro hc; (try simp -implicitDefEqProofs [-loopQ_n, hc, w1, w2, w3, c1, c2, cmpF, ha, hb]))) | (refine condD_intro ?_ ?_ <;> (intro hd; have hc := hd; (try simp at hc) <;> (try simp -implicitDefEqProofs [-loopQ_n, hd, hc, w1, w2, w3, c1, c2, cmpF, ha, hb]))) | (refine guardD_intro ?_ ?_ <;> (intro hd; have hc := hd; (try simp at hc) <;> (try simp -implicitDefEqProofs [-loopQ_n, hd, hc, w1, w2, w3, c1, c2, cmpF, ha, hb]))) | (refine ldD_ep ?_ ?_; (focus kernel_rfl); (try simp -implicitDefEqProofs [-loopQ_n, w1, w2, w3, c1, c2, cmpF, ha, hb])))))
end Go.Proofs.Ytkppfaennogcmaa
