/- Lists of texts and of variables that are equal (the program's answer). -/
import Derived.Test.YthemglpccpjokaaGreatM7
set_option linter.unusedSimpArgs false
set_option linter.unusedVariables false
set_option linter.unnecessarySimpa false
set_option linter.unusedSectionVars false
set_option maxRecDepth 100000
namespace Go.Proofs.YthemglpccpjokaaGreat
open Go.RowKit
variable [Glob]
set_option maxHeartbeats 4000000 in
theorem seq_pure (a b : List ByteArray) (ha : a.length ≤ 1000000) (hb : b.length ≤ 1000000) : Pure Tryz.prog 65 [.rs (rowsOf strC a), .rs (rowsOf strC b)] (.bool (decide (a = b))) := by
  by_cases hlen : a.length = b.length
  rotate_left
  · have hl2 : ¬ (a.length : Int) = b.length := by omega
    rw [decide_eq_false (len_ne hlen)]
    refine pure_of mixed Tryz.func65 rfl (by kernel_rfl) (of_decide_eq_true rfl) (by kernel_rfl) (vc_run ?_)
    ((try simp -implicitDefEqProofs [-loopQ_n, hl2]) <;> (repeat' (first | ((first | refine condD_dec ?_ ?_ | refine guardD_dec ?_ ?_) <;> (intro hc; (try simp -implicitDefEqProofs [-loopQ_n, hc, hl2]))))))
  have hl2 : (a.length : Int) = b.length := by omega
  refine pure_of mixed Tryz.func65 rfl (by kernel_rfl) (of_decide_eq_true rfl) (by kernel_rfl) (vc_run ?_)
  ((try simp -implicitDefEqProofs [-loopQ_n, hl2]) <;> (repeat' (first | ((first | refine condD_dec ?_ ?_ | refine guardD_dec ?_ ?_) <;> (intro hc; (try simp -implicitDefEqProofs [-loopQ_n, hc, hl2]))))))
  refine loop_intro (σ := Nat) (fun i => ⟨[(0, .rs (rowsOf strC a)), (1, .rs (rowsOf strC b)), (12, .int .i64 b.length), (13, .int .i64 i)], []⟩) (fun i => i ≤ b.length ∧ a.take i = b.take i) (fun i => b.length - i) 0 (by simp) ?_ ?_
  · refine weak_of 0 0 rfl rfl ?_ ?_ <;> simp [hl2]
  rintro i ⟨hi, ht⟩
  by_cases h : i < b.length
  · have h2 : i < a.length := by omega
    have w1 : wrapI .i64 ((i : Int) + 1) = ((i + 1 : Nat) : Int) := by rw [wrap_in (by omega) (by omega)]; omega
    obtain ⟨hts, hne⟩ := take_step h2 h ht
    obtain ⟨x, hx⟩ : ∃ x, a[i] = x := ⟨_, rfl⟩
    obtain ⟨y, hy⟩ : ∃ y, b[i] = y := ⟨_, rfl⟩
    rw [hx, hy] at hts hne
    by_cases c1 : x = y
    · subst c1
      ((try simp -implicitDefEqProofs [-loopQ_n, h, h2, hx, hy, strC, w1]) <;> (repeat' (first | ((first | refine condD_dec ?_ ?_ | refine guardD_dec ?_ ?_) <;> (intro hc; (try simp -implicitDefEqProofs [-loopQ_n, hc, h, h2, hx, hy, strC, w1]))))))
      refine loop_next (i + 1) ⟨h, hts rfl⟩ (by omega) (weak_of 0 0 rfl rfl ?_ ?_) <;> simp
    · rw [decide_eq_false (hne c1)]
      have c2 : ¬ x.toList = y.toList := fun e => c1 (ba_eq (by rw [← ba_toList, ← ba_toList]; exact e))
      ((try simp -implicitDefEqProofs [-loopQ_n, h, h2, hx, hy, strC, w1, c2]) <;> (repeat' (first | ((first | refine condD_dec ?_ ?_ | refine guardD_dec ?_ ?_) <;> (intro hc; (try simp -implicitDefEqProofs [-loopQ_n, hc, h, h2, hx, hy, strC, w1, c2]))))))
  · rw [decide_eq_true (take_end (by omega) hlen ht)]
    ((try simp -implicitDefEqProofs [-loopQ_n, h]) <;> (repeat' (first | ((first | refine condD_dec ?_ ?_ | refine guardD_dec ?_ ?_) <;> (intro hc; (try simp -implicitDefEqProofs [-loopQ_n, hc, h]))))))
deriving instance DecidableEq for Dom
set_option maxHeartbeats 4000000 in
theorem equal1_pure (a b : Dom) (ha : a.items.length ≤ 1000000) (hb : b.items.length ≤ 1000000) : Pure Tryz.prog 64 [.agg (domC a), .agg (domC b)] (.bool (decide (a = b))) := by
  have he := seq_pure a.items b.items ha hb
  obtain ⟨n1, k1, l1, h1, i1⟩ := a
  obtain ⟨n2, k2, l2, h2, i2⟩ := b
  simp only at he
  simp only [Dom.mk.injEq]
  refine pure_of mixed Tryz.func64 rfl (by kernel_rfl) (of_decide_eq_true rfl) (by kernel_rfl) (vc_run ?_)
  by_cases q1 : n1 = n2
  rotate_left
  · have q1' : ¬ n1.toList = n2.toList := fun e => q1 (str_eq.1 e)
    rw [decide_eq_false fun e => q1 e.1]
    ((try simp -implicitDefEqProofs [-loopQ_n, domC, q1']) <;> (repeat' (first | ((first | refine condD_dec ?_ ?_ | refine guardD_dec ?_ ?_) <;> (intro hc; (try simp -implicitDefEqProofs [-loopQ_n, hc, domC, q1']))))))
  subst q1
  by_cases q2 : k1 = k2
  rotate_left
  · rw [decide_eq_false fun e => q2 e.2.1]
    ((try simp -implicitDefEqProofs [-loopQ_n, domC, q2]) <;> (repeat' (first | ((first | refine condD_dec ?_ ?_ | refine guardD_dec ?_ ?_) <;> (intro hc; (try simp -implicitDefEqProofs [-loopQ_n, hc, domC, q2]))))))
  subst q2
  by_cases q3 : l1 = l2
  rotate_left
  · rw [decide_eq_false fun e => q3 e.2.2.1]
    ((try simp -implicitDefEqProofs [-loopQ_n, domC, q3]) <;> (repeat' (first | ((first | refine condD_dec ?_ ?_ | refine guardD_dec ?_ ?_) <;> (intro hc; (try simp -implicitDefEqProofs [-loopQ_n, hc, domC, q3]))))))
  subst q3
  by_cases q4 : h1 = h2
  rotate_left
  · rw [decide_eq_false fun e => q4 e.2.2.2.1]
    ((try simp -implicitDefEqProofs [-loopQ_n, domC, q4]) <;> (repeat' (first | ((first | refine condD_dec ?_ ?_ | refine guardD_dec ?_ ?_) <;> (intro hc; (try simp -implicitDefEqProofs [-loopQ_n, hc, domC, q4]))))))
  subst q4
  by_cases q5 : i1 = i2
  · rw [decide_eq_true q5] at he
    rw [decide_eq_true ⟨rfl, rfl, rfl, rfl, q5⟩]
    ((try simp -implicitDefEqProofs [-loopQ_n, domC]) <;> (repeat' (first | ((first | refine condD_dec ?_ ?_ | refine guardD_dec ?_ ?_) <;> (intro hc; (try simp -implicitDefEqProofs [-loopQ_n, hc, domC]))) | (refine callS_mk ?_; (try simp -implicitDefEqProofs [-loopQ_n, domC]); (first | refine callS_intro (he) (.inl rfl) ?_); (try simp -implicitDefEqProofs [-loopQ_n, domC])))))
  · rw [decide_eq_false q5] at he
    rw [decide_eq_false fun e => q5 e.2.2.2.2]
    ((try simp -implicitDefEqProofs [-loopQ_n, domC]) <;> (repeat' (first | ((first | refine condD_dec ?_ ?_ | refine guardD_dec ?_ ?_) <;> (intro hc; (try simp -implicitDefEqProofs [-loopQ_n, hc, domC]))) | (refine callS_mk ?_; (try simp -implicitDefEqProofs [-loopQ_n, domC]); (first | refine callS_intro (he) (.inl rfl) ?_); (try simp -implicitDefEqProofs [-loopQ_n, domC])))))
def DomSz (l : List Dom) : Prop := l.length ≤ 1000000 ∧ ∀ x ∈ l, x.items.length ≤ 1000000
set_option maxHeartbeats 4000000 in
theorem eqf_pure (a b : List Dom) (ha : DomSz a) (hb : DomSz b) : Pure Tryz.prog 66 [.rs (rowsOf domC a), .rs (rowsOf domC b), .fn 64 []] (.bool (decide (a = b))) := by
  have la := ha.1
  have lb := hb.1
  by_cases hlen : a.length = b.length
  rotate_left
  · have hl2 : ¬ (a.length : Int) = b.length := by omega
    rw [decide_eq_false (len_ne hlen)]
    refine pure_of mixed Tryz.func66 rfl (by kernel_rfl) (of_decide_eq_true rfl) (by kernel_rfl) (vc_run ?_)
    ((try simp -implicitDefEqProofs [-loopQ_n, hl2]) <;> (repeat' (first | ((first | refine condD_dec ?_ ?_ | refine guardD_dec ?_ ?_) <;> (intro hc; (try simp -implicitDefEqProofs [-loopQ_n, hc, hl2]))))))
  have hl2 : (a.length : Int) = b.length := by omega
  refine pure_of mixed Tryz.func66 rfl (by kernel_rfl) (of_decide_eq_true rfl) (by kernel_rfl) (vc_run ?_)
  ((try simp -implicitDefEqProofs [-loopQ_n, hl2]) <;> (repeat' (first | ((first | refine condD_dec ?_ ?_ | refine guardD_dec ?_ ?_) <;> (intro hc; (try simp -implicitDefEqProofs [-loopQ_n, hc, hl2]))))))
  refine loop_intro (σ := Nat) (fun i => ⟨[(1, .rs (rowsOf domC b)), (2, .fn 64 []), (15, .rs (rowsOf domC a)), (16, .int .i64 b.length), (17, .int .i64 i)], []⟩) (fun i => i ≤ b.length ∧ a.take i = b.take i) (fun i => b.length - i) 0 (by simp) ?_ ?_
  · refine weak_of 0 0 rfl rfl ?_ ?_ <;> simp [hl2]
  rintro i ⟨hi, ht⟩
  by_cases h : i < b.length
  · have h2 : i < a.length := by omega
    have w1 : wrapI .i64 ((i : Int) + 1) = ((i + 1 : Nat) : Int) := by rw [wrap_in (by omega) (by omega)]; omega
    obtain ⟨hts, hne⟩ := take_step h2 h ht
    have he := equal1_pure a[i] b[i] (ha.2 _ (List.getElem_mem h2)) (hb.2 _ (List.getElem_mem h))
    obtain ⟨x, hx⟩ : ∃ x, a[i] = x := ⟨_, rfl⟩
    obtain ⟨y, hy⟩ : ∃ y, b[i] = y := ⟨_, rfl⟩
    rw [hx, hy] at hts hne he
    simp only [domC] at he
    by_cases c1 : x = y
    · rw [decide_eq_true c1] at he
      ((try simp -implicitDefEqProofs [-loopQ_n, h, h2, hx, hy, domC, w1]) <;> (repeat' (first | ((first | refine condD_dec ?_ ?_ | refine guardD_dec ?_ ?_) <;> (intro hc; (try simp -implicitDefEqProofs [-loopQ_n, hc, h, h2, hx, hy, domC, w1]))) | (refine callS_mk ?_; (try simp -implicitDefEqProofs [-loopQ_n, h, h2, hx, hy, domC, w1]); (first | refine callS_intro (he) (.inl rfl) ?_); (try simp -implicitDefEqProofs [-loopQ_n, h, h2, hx, hy, domC, w1])))))
      refine loop_next (i + 1) ⟨h, hts c1⟩ (by omega) (weak_of 0 0 rfl rfl ?_ ?_) <;> simp
    · rw [decide_eq_false c1] at he
      rw [decide_eq_false (hne c1)]
      ((try simp -implicitDefEqProofs [-loopQ_n, h, h2, hx, hy, domC, w1]) <;> (repeat' (first | ((first | refine condD_dec ?_ ?_ | refine guardD_dec ?_ ?_) <;> (intro hc; (try simp -implicitDefEqProofs [-loopQ_n, hc, h, h2, hx, hy, domC, w1]))) | (refine callS_mk ?_; (try simp -implicitDefEqProofs [-loopQ_n, h, h2, hx, hy, domC, w1]); (first | refine callS_intro (he) (.inl rfl) ?_); (try simp -implicitDefEqProofs [-loopQ_n, h, h2, hx, hy, domC, w1])))))
  · rw [decide_eq_true (take_end (by omega) hlen ht)]
    ((try simp -implicitDefEqProofs [-loopQ_n, h]) <;> (repeat' (first | ((first | refine condD_dec ?_ ?_ | refine guardD_dec ?_ ?_) <;> (intro hc; (try simp -implicitDefEqProofs [-loopQ_n, hc, h]))))))
end Go.Proofs.YthemglpccpjokaaGreat
