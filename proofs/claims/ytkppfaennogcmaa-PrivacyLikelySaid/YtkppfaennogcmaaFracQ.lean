/- Sums and comparisons of fractions in the abstract machine. -/
import Derived.Test.YtkppfaennogcmaaSlF
namespace Go.Proofs.Ytkppfaennogcmaa
set_option linter.unusedSimpArgs false
set_option linter.unusedVariables false
set_option linter.unnecessarySimpa false
set_option linter.unusedSectionVars false
open Go.RowKit
variable [Glob]
set_option maxRecDepth 100000
theorem validF_bd {n d : Int} (h : validF n d = true) : -1073741824 ≤ n ∧ n ≤ 1073741824 ∧ 1 ≤ d ∧ d ≤ 1073741824 := by
  have h : validFP n d := of_decide_eq_true h
  exact ⟨h.1, h.2.1, h.2.2.1, h.2.2.2.1⟩
/-- Compare: the sign, and the error. -/
def cmpF (a b : Int × Int) : Int × Int :=
  if validF a.1 a.2 && validF b.1 b.2 then (if a.1 * b.2 < b.1 * a.2 then (-1, 0) else if b.1 * a.2 < a.1 * b.2 then (1, 0) else (0, 0)) else (0, 1)
theorem prod_in {x y : Int} (hx1 : -1073741824 ≤ x) (hx2 : x ≤ 1073741824) (hy1 : 1 ≤ y) (hy2 : y ≤ 1073741824) : -1152921504606846976 ≤ x * y ∧ x * y ≤ 1152921504606846976 := by
  have h1 : x * y ≤ 1073741824 * y := Int.mul_le_mul_of_nonneg_right hx2 (by omega)
  have h2 : -1073741824 * y ≤ x * y := Int.mul_le_mul_of_nonneg_right hx1 (by omega)
  omega
theorem cmp_pure (a b : Int × Int) : Pure Try.prog 81 [.agg (fracC a), .agg (fracC b)] (.tup [.int .i64 (cmpF a b).1, .int .i64 (cmpF a b).2]) := by
  obtain ⟨p, q⟩ := a
  obtain ⟨p', q'⟩ := b
  refine pure_of mixed Try.func81 rfl (by kernel_rfl) (of_decide_eq_true rfl) (by kernel_rfl) (vc_run ?_)
  have hv := fvalids_pure [(p, q), (p', q')] (by simp)
  simp only [rowsOf, List.map_cons, List.map_nil, fracC] at hv
  by_cases h1 : validF p q = true
  · by_cases h2 : validF p' q' = true
    · have b1 := validF_bd h1
      have b2 := validF_bd h2
      have m1 := prod_in b1.1 b1.2.1 b2.2.2.1 b2.2.2.2
      have m2 := prod_in b2.1 b2.2.1 b1.2.2.1 b1.2.2.2
      have w1 := wrap_in (n := p * q') (by omega) (by omega)
      have w2 := wrap_in (n := p' * q) (by omega) (by omega)
      by_cases c1 : p * q' < p' * q
      · ((try simp -implicitDefEqProofs [-loopQ_n, fracC, h1, h2, w1, w2, c1, cmpF]) <;> (repeat' (first | (refine condD_dec ?_ ?_ <;> (intro hc; (try simp -implicitDefEqProofs [-loopQ_n, hc, fracC, h1, h2, w1, w2, c1, cmpF]))) | (refine guardD_dec ?_ ?_ <;> (intro hc; (try simp -implicitDefEqProofs [-loopQ_n, hc, fracC, h1, h2, w1, w2, c1, cmpF]))) | (refine condD_intro ?_ ?_ <;> (intro hd; have hc := hd; (try simp at hc) <;> (try simp -implicitDefEqProofs [-loopQ_n, hd, hc, fracC, h1, h2, w1, w2, c1, cmpF]))) | (refine guardD_intro ?_ ?_ <;> (intro hd; have hc := hd; (try simp at hc) <;> (try simp -implicitDefEqProofs [-loopQ_n, hd, hc, fracC, h1, h2, w1, w2, c1, cmpF]))) | (refine ldD_ep ?_ ?_; (focus kernel_rfl); (try simp -implicitDefEqProofs [-loopQ_n, fracC, h1, h2, w1, w2, c1, cmpF])) | (refine callS_mk ?_; (try simp -implicitDefEqProofs [-loopQ_n, fracC, h1, h2, w1, w2, c1, cmpF]); (first | refine callS_intro (hv) (.inl rfl) ?_); (try simp -implicitDefEqProofs [-loopQ_n, fracC, h1, h2, w1, w2, c1, cmpF])))))
      · by_cases c2 : p' * q < p * q'
        · ((try simp -implicitDefEqProofs [-loopQ_n, fracC, h1, h2, w1, w2, c1, c2, cmpF]) <;> (repeat' (first | (refine condD_dec ?_ ?_ <;> (intro hc; (try simp -implicitDefEqProofs [-loopQ_n, hc, fracC, h1, h2, w1, w2, c1, c2, cmpF]))) | (refine guardD_dec ?_ ?_ <;> (intro hc; (try simp -implicitDefEqProofs [-loopQ_n, hc, fracC, h1, h2, w1, w2, c1, c2, cmpF]))) | (refine condD_intro ?_ ?_ <;> (intro hd; have hc := hd; (try simp at hc) <;> (try simp -implicitDefEqProofs [-loopQ_n, hd, hc, fracC, h1, h2, w1, w2, c1, c2, cmpF]))) | (refine guardD_intro ?_ ?_ <;> (intro hd; have hc := hd; (try simp at hc) <;> (try simp -implicitDefEqProofs [-loopQ_n, hd, hc, fracC, h1, h2, w1, w2, c1, c2, cmpF]))) | (refine ldD_ep ?_ ?_; (focus kernel_rfl); (try simp -implicitDefEqProofs [-loopQ_n, fracC, h1, h2, w1, w2, c1, c2, cmpF])) | (refine callS_mk ?_; (try simp -implicitDefEqProofs [-loopQ_n, fracC, h1, h2, w1, w2, c1, c2, cmpF]); (first | refine callS_intro (hv) (.inl rfl) ?_); (try simp -implicitDefEqProofs [-loopQ_n, fracC, h1, h2, w1, w2, c1, c2, cmpF])))))
        · ((try simp -implicitDefEqProofs [-loopQ_n, fracC, h1, h2, w1, w2, c1, c2, cmpF]) <;> (repeat' (first | (refine condD_dec ?_ ?_ <;> (intro hc; (try simp -implicitDefEqProofs [-loopQ_n, hc, fracC, h1, h2, w1, w2, c1, c2, cmpF]))) | (refine guardD_dec ?_ ?_ <;> (intro hc; (try simp -implicitDefEqProofs [-loopQ_n, hc, fracC, h1, h2, w1, w2, c1, c2, cmpF]))) | (refine condD_intro ?_ ?_ <;> (intro hd; have hc := hd; (try simp at hc) <;> (try simp -implicitDefEqProofs [-loopQ_n, hd, hc, fracC, h1, h2, w1, w2, c1, c2, cmpF]))) | (refine guardD_intro ?_ ?_ <;> (intro hd; have hc := hd; (try simp at hc) <;> (try simp -implicitDefEqProofs [-loopQ_n, hd, hc, fracC, h1, h2, w1, w2, c1, c2, cmpF]))) | (refine ldD_ep ?_ ?_; (focus kernel_rfl); (try simp -implicitDefEqProofs [-loopQ_n, fracC, h1, h2, w1, w2, c1, c2, cmpF])) | (refine callS_mk ?_; (try simp -implicitDefEqProofs [-loopQ_n, fracC, h1, h2, w1, w2, c1, c2, cmpF]); (first | refine callS_intro (hv) (.inl rfl) ?_); (try simp -implicitDefEqProofs [-loopQ_n, fracC, h1, h2, w1, w2, c1, c2, cmpF])))))
    · have h2 : validF p' q' = false := by simpa using h2
      ((try simp -implicitDefEqProofs [-loopQ_n, fracC, h1, h2, cmpF]) <;> (repeat' (first | (refine condD_dec ?_ ?_ <;> (intro hc; (try simp -implicitDefEqProofs [-loopQ_n, hc, fracC, h1, h2, cmpF]))) | (refine guardD_dec ?_ ?_ <;> (intro hc; (try simp -implicitDefEqProofs [-loopQ_n, hc, fracC, h1, h2, cmpF]))) | (refine condD_intro ?_ ?_ <;> (intro hd; have hc := hd; (try simp at hc) <;> (try simp -implicitDefEqProofs [-loopQ_n, hd, hc, fracC, h1, h2, cmpF]))) | (refine guardD_intro ?_ ?_ <;> (intro hd; have hc := hd; (try simp at hc) <;> (try simp -implicitDefEqProofs [-loopQ_n, hd, hc, fracC, h1, h2, cmpF]))) | (refine ldD_ep ?_ ?_; (focus kernel_rfl); (try simp -implicitDefEqProofs [-loopQ_n, fracC, h1, h2, cmpF])) | (refine callS_mk ?_; (try simp -implicitDefEqProofs [-loopQ_n, fracC, h1, h2, cmpF]); (first | refine callS_intro (hv) (.inl rfl) ?_); (try simp -implicitDefEqProofs [-loopQ_n, fracC, h1, h2, cmpF])))))
  · have h1 : validF p q = false := by simpa using h1
    ((try simp -implicitDefEqProofs [-loopQ_n, fracC, h1, cmpF]) <;> (repeat' (first | (refine condD_dec ?_ ?_ <;> (intro hc; (try simp -implicitDefEqProofs [-loopQ_n, hc, fracC, h1, cmpF]))) | (refine guardD_dec ?_ ?_ <;> (intro hc; (try simp -implicitDefEqProofs [-loopQ_n, hc, fracC, h1, cmpF]))) | (refine condD_intro ?_ ?_ <;> (intro hd; have hc := hd; (try simp at hc) <;> (try simp -implicitDefEqProofs [-loopQ_n, hd, hc, fracC, h1, cmpF]))) | (refine guardD_intro ?_ ?_ <;> (intro hd; have hc := hd; (try simp at hc) <;> (try simp -implicitDefEqProofs [-loopQ_n, hd, hc, fracC, h1, cmpF]))) | (refine ldD_ep ?_ ?_; (focus kernel_rfl); (try simp -implicitDefEqProofs [-loopQ_n, fracC, h1, cmpF])) | (refine callS_mk ?_; (try simp -implicitDefEqProofs [-loopQ_n, fracC, h1, cmpF]); (first | refine callS_intro (hv) (.inl rfl) ?_); (try simp -implicitDefEqProofs [-loopQ_n, fracC, h1, cmpF])))))
end Go.Proofs.Ytkppfaennogcmaa
