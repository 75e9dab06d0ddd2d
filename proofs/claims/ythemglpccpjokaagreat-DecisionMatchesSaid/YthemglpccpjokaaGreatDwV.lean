/- Whether a test is true of a value (the program's Matches, which calls a method by its value). -/
import Derived.Test.YthemglpccpjokaaGreatDwT
namespace Go.Proofs.YthemglpccpjokaaGreat
set_option linter.unusedSimpArgs false
set_option linter.unusedVariables false
set_option linter.unnecessarySimpa false
set_option linter.unusedSectionVars false
open Go.RowKit
variable [Glob]
set_option maxRecDepth 100000
set_option maxHeartbeats 8000000 in
theorem matches_pure (x : Dom) (t : Tst) (v : Val) (hl : t.items.length ≤ 1000000) : Pure Tryz.prog 34 [.agg (domC x), .agg (tstC t), .agg (valC v)] (matchO x t v) := by
  have h1 := dom_pure x
  have h2 := value_pure v
  have h5 := tof_pure t v hl
  unfold matchO
  simp only [domC, valC, tstC] at h1 h2 h5
  by_cases q1 : domV x = true
  rotate_left
  · have q1 : domV x = false := by simpa using q1
    rw [q1] at h1 ⊢
    refine pure_of mixed Tryz.func34 rfl (by kernel_rfl) (of_decide_eq_true rfl) (by kernel_rfl) (vc_run ?_)
    ((try simp -implicitDefEqProofs [-loopQ_n, domC, valC, tstC]) <;> (repeat' (first | ((first | refine condD_dec ?_ ?_ | refine guardD_dec ?_ ?_) <;> (intro hc; (try simp -implicitDefEqProofs [-loopQ_n, hc, domC, valC, tstC]))) | ((first | refine condD_intro ?_ ?_ | refine guardD_intro ?_ ?_) <;> (intro hd; have hc := hd; (try simp at hc) <;> (try simp -implicitDefEqProofs [-loopQ_n, hd, hc, domC, valC, tstC]))) | ((first | (refine ldD_ep ?_ ?_; (focus kernel_rfl)) | (refine callS_mk ?_; (try simp -implicitDefEqProofs [-loopQ_n, domC, valC, tstC]); (first | refine callS_intro (h1) (.inl rfl) ?_))); (try simp -implicitDefEqProofs [-loopQ_n, domC, valC, tstC])))))
  have h3 := dfits_pure x t q1 hl
  have h4 := din_pure x v q1
  simp only [domC, valC, tstC] at h3 h4
  rw [q1] at h1 ⊢
  by_cases q2 : valueV v = true
  rotate_left
  · have q2 : valueV v = false := by simpa using q2
    rw [q2] at h2 ⊢
    clear h3 h4
    refine pure_of mixed Tryz.func34 rfl (by kernel_rfl) (of_decide_eq_true rfl) (by kernel_rfl) (vc_run ?_)
    ((try simp -implicitDefEqProofs [-loopQ_n, domC, valC, tstC]) <;> (repeat' (first | ((first | refine condD_dec ?_ ?_ | refine guardD_dec ?_ ?_) <;> (intro hc; (try simp -implicitDefEqProofs [-loopQ_n, hc, domC, valC, tstC]))) | ((first | refine condD_intro ?_ ?_ | refine guardD_intro ?_ ?_) <;> (intro hd; have hc := hd; (try simp at hc) <;> (try simp -implicitDefEqProofs [-loopQ_n, hd, hc, domC, valC, tstC]))) | ((first | (refine ldD_ep ?_ ?_; (focus kernel_rfl)) | (refine callS_mk ?_; (try simp -implicitDefEqProofs [-loopQ_n, domC, valC, tstC]); (first | refine callS_intro (h1) (.inl rfl) ?_ | refine callS_intro (h2) (.inl rfl) ?_))); (try simp -implicitDefEqProofs [-loopQ_n, domC, valC, tstC])))))
  rw [q2] at h2 h4 ⊢
  by_cases q3 : tstV x t = true
  rotate_left
  · have q3 : tstV x t = false := by simpa using q3
    rw [q3] at h3 ⊢
    clear h4
    refine pure_of mixed Tryz.func34 rfl (by kernel_rfl) (of_decide_eq_true rfl) (by kernel_rfl) (vc_run ?_)
    ((try simp -implicitDefEqProofs [-loopQ_n, domC, valC, tstC]) <;> (repeat' (first | ((first | refine condD_dec ?_ ?_ | refine guardD_dec ?_ ?_) <;> (intro hc; (try simp -implicitDefEqProofs [-loopQ_n, hc, domC, valC, tstC]))) | ((first | refine condD_intro ?_ ?_ | refine guardD_intro ?_ ?_) <;> (intro hd; have hc := hd; (try simp at hc) <;> (try simp -implicitDefEqProofs [-loopQ_n, hd, hc, domC, valC, tstC]))) | ((first | (refine ldD_ep ?_ ?_; (focus kernel_rfl)) | (refine callS_mk ?_; (try simp -implicitDefEqProofs [-loopQ_n, domC, valC, tstC]); (first | refine callS_intro (h1) (.inl rfl) ?_ | refine callS_intro (h2) (.inl rfl) ?_ | refine callS_intro (h3) (.inl rfl) ?_))); (try simp -implicitDefEqProofs [-loopQ_n, domC, valC, tstC])))))
  rw [q3] at h3 ⊢
  simp only [Bool.and_self, if_true]
  by_cases q4 : placeD x v < 0
  · rw [if_pos q4]
    rw [show (true && decide (0 ≤ placeD x v)) = false by simp; omega] at h4
    clear h5
    refine pure_of mixed Tryz.func34 rfl (by kernel_rfl) (of_decide_eq_true rfl) (by kernel_rfl) (vc_run ?_)
    ((try simp -implicitDefEqProofs [-loopQ_n, domC, valC, tstC]) <;> (repeat' (first | ((first | refine condD_dec ?_ ?_ | refine guardD_dec ?_ ?_) <;> (intro hc; (try simp -implicitDefEqProofs [-loopQ_n, hc, domC, valC, tstC]))) | ((first | refine condD_intro ?_ ?_ | refine guardD_intro ?_ ?_) <;> (intro hd; have hc := hd; (try simp at hc) <;> (try simp -implicitDefEqProofs [-loopQ_n, hd, hc, domC, valC, tstC]))) | ((first | (refine ldD_ep ?_ ?_; (focus kernel_rfl)) | (refine callS_mk ?_; (try simp -implicitDefEqProofs [-loopQ_n, domC, valC, tstC]); (first | refine callS_intro (h1) (.inl rfl) ?_ | refine callS_intro (h2) (.inl rfl) ?_ | refine callS_intro (h3) (.inl rfl) ?_ | refine callS_intro (h4) (.inl rfl) ?_))); (try simp -implicitDefEqProofs [-loopQ_n, domC, valC, tstC])))))
  · rw [if_neg q4]
    rw [show (true && decide (0 ≤ placeD x v)) = true by simp; omega] at h4
    refine pure_of mixed Tryz.func34 rfl (by kernel_rfl) (of_decide_eq_true rfl) (by kernel_rfl) (vc_run ?_)
    ((try simp -implicitDefEqProofs [-loopQ_n, domC, valC, tstC, owns, ownsL]) <;> (repeat' (first | ((first | refine condD_dec ?_ ?_ | refine guardD_dec ?_ ?_) <;> (intro hc; (try simp -implicitDefEqProofs [-loopQ_n, hc, domC, valC, tstC, owns, ownsL]))) | ((first | refine condD_intro ?_ ?_ | refine guardD_intro ?_ ?_) <;> (intro hd; have hc := hd; (try simp at hc) <;> (try simp -implicitDefEqProofs [-loopQ_n, hd, hc, domC, valC, tstC, owns, ownsL]))) | ((first | (refine ldD_ep ?_ ?_; (focus kernel_rfl)) | (refine callS_mk ?_; (try simp -implicitDefEqProofs [-loopQ_n, domC, valC, tstC, owns, ownsL]); (first | refine callS_intro (h1) (.inl rfl) ?_ | refine callS_intro (h2) (.inl rfl) ?_ | refine callS_intro (h3) (.inl rfl) ?_ | refine callS_intro (h4) (.inl rfl) ?_))); (try simp -implicitDefEqProofs [-loopQ_n, domC, valC, tstC, owns, ownsL])))))
    refine callB_intro (ys := [.agg (tstC t), .agg (valC v)]) (by rfl) (tof_pure t v hl) (.inl rfl) ?_
    ((try simp -implicitDefEqProofs [-loopQ_n, domC, valC, tstC]) <;> (repeat' (first | ((first | refine condD_dec ?_ ?_ | refine guardD_dec ?_ ?_) <;> (intro hc; (try simp -implicitDefEqProofs [-loopQ_n, hc, domC, valC, tstC]))) | ((first | refine condD_intro ?_ ?_ | refine guardD_intro ?_ ?_) <;> (intro hd; have hc := hd; (try simp at hc) <;> (try simp -implicitDefEqProofs [-loopQ_n, hd, hc, domC, valC, tstC]))) | (refine ldD_ep ?_ ?_; (focus kernel_rfl); (try simp -implicitDefEqProofs [-loopQ_n, domC, valC, tstC])))))
end Go.Proofs.YthemglpccpjokaaGreat
