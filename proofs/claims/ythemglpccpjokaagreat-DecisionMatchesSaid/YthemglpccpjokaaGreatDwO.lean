/- Lists of numbers that are equal. -/
import Derived.Test.YthemglpccpjokaaGreatM7
namespace Go.Proofs.YthemglpccpjokaaGreat
set_option linter.unusedSimpArgs false
set_option linter.unusedVariables false
set_option linter.unnecessarySimpa false
set_option linter.unusedSectionVars false
open Go.RowKit
variable [Glob]
set_option maxRecDepth 100000
set_option maxHeartbeats 4000000 in
theorem ieq_pure (a b : List Int) (ha : a.length ≤ 1000000) (hb : b.length ≤ 1000000) : Pure Tryz.prog 19 [.rs (rowsOf intC a), .rs (rowsOf intC b)] (.bool (decide (a = b))) := by
  by_cases hlen : a.length = b.length
  rotate_left
  · have hl2 : ¬ (a.length : Int) = b.length := by omega
    rw [decide_eq_false (len_ne hlen)]
    refine pure_of mixed Tryz.func19 rfl (by kernel_rfl) (of_decide_eq_true rfl) (by kernel_rfl) (vc_run ?_)
    ((try simp -implicitDefEqProofs [-loopQ_n, hl2]) <;> (repeat' (first | ((first | refine condD_dec ?_ ?_ | refine guardD_dec ?_ ?_) <;> (intro hc; (try simp -implicitDefEqProofs [-loopQ_n, hc, hl2]))))))
  have hl2 : (a.length : Int) = b.length := by omega
  refine pure_of mixed Tryz.func19 rfl (by kernel_rfl) (of_decide_eq_true rfl) (by kernel_rfl) (vc_run ?_)
  ((try simp -implicitDefEqProofs [-loopQ_n, hl2]) <;> (repeat' (first | ((first | refine condD_dec ?_ ?_ | refine guardD_dec ?_ ?_) <;> (intro hc; (try simp -implicitDefEqProofs [-loopQ_n, hc, hl2]))))))
  refine loop_intro (σ := Nat) (fun i => ⟨[(0, .rs (rowsOf intC a)), (1, .rs (rowsOf intC b)), (12, .int .i64 b.length), (13, .int .i64 i)], []⟩) (fun i => i ≤ b.length ∧ a.take i = b.take i) (fun i => b.length - i) 0 (by simp) ?_ ?_
  · refine weak_of 0 0 rfl rfl ?_ ?_ <;> simp [hl2]
  rintro i ⟨hi, ht⟩
  by_cases h : i < b.length
  · have h2 : i < a.length := by omega
    have w1 : wrapI .i64 ((i : Int) + 1) = ((i + 1 : Nat) : Int) := by rw [wrap_in (by omega) (by omega)]; omega
    obtain ⟨hts, hne⟩ := take_step h2 h ht
    obtain ⟨x, hx⟩ : ∃ x, a[i] = x := ⟨_, rfl⟩
    obtain ⟨y, hy⟩ : ∃ y, b[i] = y := ⟨_, rfl⟩
    rw [hx, hy] at hts hne
    by_cases c1 : x = y
    · subst c1
      ((try simp -implicitDefEqProofs [-loopQ_n, h, h2, hx, hy, intC, w1]) <;> (repeat' (first | ((first | refine condD_dec ?_ ?_ | refine guardD_dec ?_ ?_) <;> (intro hc; (try simp -implicitDefEqProofs [-loopQ_n, hc, h, h2, hx, hy, intC, w1]))))))
      refine loop_next (i + 1) ⟨h, hts rfl⟩ (by omega) (weak_of 0 0 rfl rfl ?_ ?_) <;> simp
    · rw [decide_eq_false (hne c1)]
      ((try simp -implicitDefEqProofs [-loopQ_n, h, h2, hx, hy, intC, w1, c1]) <;> (repeat' (first | ((first | refine condD_dec ?_ ?_ | refine guardD_dec ?_ ?_) <;> (intro hc; (try simp -implicitDefEqProofs [-loopQ_n, hc, h, h2, hx, hy, intC, w1, c1]))))))
  · rw [decide_eq_true (take_end (by omega) hlen ht)]
    ((try simp -implicitDefEqProofs [-loopQ_n, h]) <;> (repeat' (first | ((first | refine condD_dec ?_ ?_ | refine guardD_dec ?_ ?_) <;> (intro hc; (try simp -implicitDefEqProofs [-loopQ_n, hc, h]))))))
end Go.Proofs.YthemglpccpjokaaGreat
