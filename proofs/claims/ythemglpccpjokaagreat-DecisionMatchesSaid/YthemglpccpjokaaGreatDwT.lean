/- Whether a test is true of a value (the reference's Matches); tests and values among the arguments. -/
import Derived.Test.YthemglpccpjokaaGreatDwK
import Derived.Test.YthemglpccpjokaaGreatDwJ
namespace Go.Proofs.YthemglpccpjokaaGreat
set_option linter.unusedSimpArgs false
set_option linter.unusedVariables false
set_option linter.unnecessarySimpa false
set_option linter.unusedSectionVars false
open Go.RowKit
variable [Glob]
set_option maxRecDepth 100000
def matchO (x : Dom) (t : Tst) (v : Val) : AV := if domV x && (valueV v && tstV x t) then (if placeD x v < 0 then .tup [.bool false, .int .i64 11] else .tup [.bool (tstT t v), .int .i64 0]) else .tup [.bool false, .int .i64 1]
set_option maxHeartbeats 8000000 in
theorem rmatches_pure (x : Dom) (t : Tst) (v : Val) (hl : t.items.length ≤ 1000000) : Pure Tryz.prog 35 [.agg (domC x), .agg (tstC t), .agg (valC v)] (matchO x t v) := by
  have h1 := rdom_pure x
  have h2 := rvalue_pure v
  have h5 := rtrue_pure t v hl
  unfold matchO
  simp only [domC, valC, tstC] at h1 h2 h5
  by_cases q1 : domV x = true
  rotate_left
  · have q1 : domV x = false := by simpa using q1
    rw [q1] at h1 ⊢
    refine pure_of mixed Tryz.func35 rfl (by kernel_rfl) (of_decide_eq_true rfl) (by kernel_rfl) (vc_run ?_)
    ((try simp -implicitDefEqProofs [-loopQ_n, domC, valC, tstC]) <;> (repeat' (first | ((first | refine condD_dec ?_ ?_ | refine guardD_dec ?_ ?_) <;> (intro hc; (try simp -implicitDefEqProofs [-loopQ_n, hc, domC, valC, tstC]))) | (refine callS_mk ?_; (try simp -implicitDefEqProofs [-loopQ_n, domC, valC, tstC]); (first | refine callS_intro (h1) (.inl rfl) ?_); (try simp -implicitDefEqProofs [-loopQ_n, domC, valC, tstC])))))
  have h3 := rtest_pure x t q1 hl
  have h4 := rrank_pure x v q1
  simp only [domC, valC, tstC] at h3 h4
  rw [q1] at h1 ⊢
  by_cases q2 : valueV v = true
  rotate_left
  · have q2 : valueV v = false := by simpa using q2
    rw [q2] at h2 ⊢
    clear h3 h4
    refine pure_of mixed Tryz.func35 rfl (by kernel_rfl) (of_decide_eq_true rfl) (by kernel_rfl) (vc_run ?_)
    ((try simp -implicitDefEqProofs [-loopQ_n, domC, valC, tstC]) <;> (repeat' (first | ((first | refine condD_dec ?_ ?_ | refine guardD_dec ?_ ?_) <;> (intro hc; (try simp -implicitDefEqProofs [-loopQ_n, hc, domC, valC, tstC]))) | (refine callS_mk ?_; (try simp -implicitDefEqProofs [-loopQ_n, domC, valC, tstC]); (first | refine callS_intro (h1) (.inl rfl) ?_ | refine callS_intro (h2) (.inl rfl) ?_); (try simp -implicitDefEqProofs [-loopQ_n, domC, valC, tstC])))))
  rw [q2] at h2 ⊢
  by_cases q3 : tstV x t = true
  rotate_left
  · have q3 : tstV x t = false := by simpa using q3
    rw [q3] at h3 ⊢
    clear h4
    refine pure_of mixed Tryz.func35 rfl (by kernel_rfl) (of_decide_eq_true rfl) (by kernel_rfl) (vc_run ?_)
    ((try simp -implicitDefEqProofs [-loopQ_n, domC, valC, tstC]) <;> (repeat' (first | ((first | refine condD_dec ?_ ?_ | refine guardD_dec ?_ ?_) <;> (intro hc; (try simp -implicitDefEqProofs [-loopQ_n, hc, domC, valC, tstC]))) | (refine callS_mk ?_; (try simp -implicitDefEqProofs [-loopQ_n, domC, valC, tstC]); (first | refine callS_intro (h1) (.inl rfl) ?_ | refine callS_intro (h2) (.inl rfl) ?_ | refine callS_intro (h3) (.inl rfl) ?_); (try simp -implicitDefEqProofs [-loopQ_n, domC, valC, tstC])))))
  rw [q3] at h3 ⊢
  simp only [Bool.and_self, if_true]
  by_cases q4 : placeD x v < 0
  · rw [if_pos q4]
    clear h5
    refine pure_of mixed Tryz.func35 rfl (by kernel_rfl) (of_decide_eq_true rfl) (by kernel_rfl) (vc_run ?_)
    ((try simp -implicitDefEqProofs [-loopQ_n, domC, valC, tstC, q4]) <;> (repeat' (first | ((first | refine condD_dec ?_ ?_ | refine guardD_dec ?_ ?_) <;> (intro hc; (try simp -implicitDefEqProofs [-loopQ_n, hc, domC, valC, tstC, q4]))) | (refine callS_mk ?_; (try simp -implicitDefEqProofs [-loopQ_n, domC, valC, tstC, q4]); (first | refine callS_intro (h1) (.inl rfl) ?_ | refine callS_intro (h2) (.inl rfl) ?_ | refine callS_intro (h3) (.inl rfl) ?_ | refine callS_intro (h4) (.inl rfl) ?_); (try simp -implicitDefEqProofs [-loopQ_n, domC, valC, tstC, q4])))))
  · rw [if_neg q4]
    refine pure_of mixed Tryz.func35 rfl (by kernel_rfl) (of_decide_eq_true rfl) (by kernel_rfl) (vc_run ?_)
    ((try simp -implicitDefEqProofs [-loopQ_n, domC, valC, tstC, q4]) <;> (repeat' (first | ((first | refine condD_dec ?_ ?_ | refine guardD_dec ?_ ?_) <;> (intro hc; (try simp -implicitDefEqProofs [-loopQ_n, hc, domC, valC, tstC, q4]))) | (refine callS_mk ?_; (try simp -implicitDefEqProofs [-loopQ_n, domC, valC, tstC, q4]); (first | refine callS_intro (h1) (.inl rfl) ?_ | refine callS_intro (h2) (.inl rfl) ?_ | refine callS_intro (h3) (.inl rfl) ?_ | refine callS_intro (h4) (.inl rfl) ?_ | refine callS_intro (h5) (.inl rfl) ?_); (try simp -implicitDefEqProofs [-loopQ_n, domC, valC, tstC, q4])))))
theorem aval_dec {x : AV} (h : argS Tryz.prog 49 x) : ∃ v, x = .agg (valC v) := by
  obtain ⟨l, rfl, hl, hf⟩ := arg_struct Tryz.underlying49 h
  rw [dc_val] at hl
  match l, hl with
  | [a, b, c], _ =>
    simp only [List.mem_cons, List.not_mem_nil, or_false, forall_eq_or_imp, forall_eq, dc_int, dc_str] at hf
    obtain ⟨x, h1, _⟩ := shp_int Tryz.underlying3 hf.1
    obtain ⟨y, h2, _⟩ := shp_int Tryz.underlying3 hf.2.1
    obtain ⟨z, h3, _⟩ := shp_str Tryz.underlying9 hf.2.2
    simp at h1 h2 h3
    exact ⟨⟨x, y, z⟩, by rw [h1, h2, h3]; rfl⟩
theorem atst_dec {x : AV} (h : argS Tryz.prog 72 x) : ∃ t, x = .agg (tstC t) ∧ t.items.length ≤ 9223372036854775807 := by
  obtain ⟨l, rfl, hl, hf⟩ := arg_struct Tryz.underlying72 h
  rw [dc_tst] at hl
  match l, hl with
  | [a, b, c, d, e, f, g], _ =>
    simp only [List.mem_cons, List.not_mem_nil, or_false, forall_eq_or_imp, forall_eq, dc_int, dc_val, dc_vals] at hf
    obtain ⟨x1, h1, _⟩ := shp_int Tryz.underlying3 hf.1
    obtain ⟨v, h2⟩ := dval_dec (n := 6) hf.2.1
    obtain ⟨x3, h3, _⟩ := shp_int Tryz.underlying3 hf.2.2.1
    obtain ⟨x4, h4, _⟩ := shp_int Tryz.underlying3 hf.2.2.2.1
    obtain ⟨l, h5, hl⟩ := dvals_dec (n := 5) hf.2.2.2.2
    simp [valC] at h1 h2 h3 h4 h5
    exact ⟨⟨x1, v, x3, x4, l⟩, by rw [h1, h2.1, h2.2.1, h2.2.2, h3, h4, h5]; rfl, hl⟩
end Go.Proofs.YthemglpccpjokaaGreat
