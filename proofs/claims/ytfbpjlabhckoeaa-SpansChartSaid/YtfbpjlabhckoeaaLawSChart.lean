/- The rows of a chart are right and as few as may be, and the busiest time is the first of the highest (the law SpansChart holds for every input; no condition). -/
import Derived.Test.YtfbpjlabhckoeaaRows
import Derived.Test.YtfbpjlabhckoeaaSpnA
import Derived.Test.YtfbpjlabhckoeaaSpnH
import Derived.Test.YtfbpjlabhckoeaaSpnD
namespace Go.Proofs.Ytfbpjlabhckoeaa.lawSChart
set_option linter.unusedSimpArgs false
set_option linter.unusedVariables false
set_option linter.unnecessarySimpa false
set_option linter.unusedSectionVars false
open Go.ChangeShapes Go.WideShapes Go.ChangeAt Go.RowKit Go.Joins Go.Deep
section
variable [Glob]
set_option maxRecDepth 100000
set_option maxHeartbeats 16000000 in
theorem main (l : List Ins) (ll : l.length ≤ 9223372036854775807) : Pure Try.prog 5 [.rs (rowsOf insC l)] (.bool true) := by
  by_cases hF : fewI l = true
  rotate_left
  · have hF : fewI l = false := by simpa using hF
    refine pure_of mixed Try.func5 rfl (by kernel_rfl) (of_decide_eq_true rfl) (by kernel_rfl) (vc_run ?_)
    ((try simp -implicitDefEqProofs [-loopQ_n, hF]) <;> (repeat' (first | (refine condD_dec ?_ ?_ <;> (intro hc; (try simp -implicitDefEqProofs [-loopQ_n, hc, hF]))) | (refine guardD_dec ?_ ?_ <;> (intro hc; (try simp -implicitDefEqProofs [-loopQ_n, hc, hF]))) | (refine condD_intro ?_ ?_ <;> (intro hd; have hc := hd; (try simp at hc) <;> (try simp -implicitDefEqProofs [-loopQ_n, hd, hc, hF]))) | (refine guardD_intro ?_ ?_ <;> (intro hd; have hc := hd; (try simp at hc) <;> (try simp -implicitDefEqProofs [-loopQ_n, hd, hc, hF]))) | (refine ldD_ep ?_ ?_; (focus kernel_rfl); (try simp -implicitDefEqProofs [-loopQ_n, hF])) | (refine callS_mk ?_; (try simp -implicitDefEqProofs [-loopQ_n, hF]); (first | refine callS_intro (awake_pure) (.inl rfl) ?_ | refine callS_intro (sfew_pure l ll) (.inl rfl) ?_); (try simp -implicitDefEqProofs [-loopQ_n, hF])))))
  by_cases h40 : (40 : Int) < l.length
  · skip
    refine pure_of mixed Try.func5 rfl (by kernel_rfl) (of_decide_eq_true rfl) (by kernel_rfl) (vc_run ?_)
    ((try simp -implicitDefEqProofs [-loopQ_n, hF, h40]) <;> (repeat' (first | (refine condD_dec ?_ ?_ <;> (intro hc; (try simp -implicitDefEqProofs [-loopQ_n, hc, hF, h40]))) | (refine guardD_dec ?_ ?_ <;> (intro hc; (try simp -implicitDefEqProofs [-loopQ_n, hc, hF, h40]))) | (refine condD_intro ?_ ?_ <;> (intro hd; have hc := hd; (try simp at hc) <;> (try simp -implicitDefEqProofs [-loopQ_n, hd, hc, hF, h40]))) | (refine guardD_intro ?_ ?_ <;> (intro hd; have hc := hd; (try simp at hc) <;> (try simp -implicitDefEqProofs [-loopQ_n, hd, hc, hF, h40]))) | (refine ldD_ep ?_ ?_; (focus kernel_rfl); (try simp -implicitDefEqProofs [-loopQ_n, hF, h40])) | (refine callS_mk ?_; (try simp -implicitDefEqProofs [-loopQ_n, hF, h40]); (first | refine callS_intro (awake_pure) (.inl rfl) ?_ | refine callS_intro (sfew_pure l ll) (.inl rfl) ?_); (try simp -implicitDefEqProofs [-loopQ_n, hF, h40])))))
  have hW1 := rows_pure l ll
  have hW2 := most_pure l ll
  by_cases hI : insL l = true
  rotate_left
  · have e1 : rowsR l = ([], 1) := by rw [rowsR, if_neg hI]
    have e2 : mostR l = (0, 0, 1) := by rw [mostR, if_neg hI]
    rw [e1] at hW1
    rw [e2] at hW2
    simp only [intsO, mostO, rowsOf_nil] at hW1 hW2
    refine pure_of mixed Try.func5 rfl (by kernel_rfl) (of_decide_eq_true rfl) (by kernel_rfl) (vc_run ?_)
    ((try simp -implicitDefEqProofs [-loopQ_n, hF, h40, ins_reify]) <;> (repeat' (first | (refine condD_dec ?_ ?_ <;> (intro hc; (try simp -implicitDefEqProofs [-loopQ_n, hc, hF, h40, ins_reify]))) | (refine guardD_dec ?_ ?_ <;> (intro hc; (try simp -implicitDefEqProofs [-loopQ_n, hc, hF, h40, ins_reify]))) | (refine condD_intro ?_ ?_ <;> (intro hd; have hc := hd; (try simp at hc) <;> (try simp -implicitDefEqProofs [-loopQ_n, hd, hc, hF, h40, ins_reify]))) | (refine guardD_intro ?_ ?_ <;> (intro hd; have hc := hd; (try simp at hc) <;> (try simp -implicitDefEqProofs [-loopQ_n, hd, hc, hF, h40, ins_reify]))) | (refine ldD_ep ?_ ?_; (focus kernel_rfl); (try simp -implicitDefEqProofs [-loopQ_n, hF, h40, ins_reify])) | (refine callS_mk ?_; (try simp -implicitDefEqProofs [-loopQ_n, hF, h40, ins_reify]); (first | refine callS_intro (awake_pure) (.inl rfl) ?_ | refine callS_intro (sfew_pure l ll) (.inl rfl) ?_ | refine callS_intro (hW1) (.inr ⟨rfl, rfl⟩) ?_ | refine callS_intro (hW2) (.inl rfl) ?_); (try simp -implicitDefEqProofs [-loopQ_n, hF, h40, ins_reify])))))
  have e1 : rowsR l = ((rowsL (spsI l)).1, 0) := by rw [rowsR, if_pos hI]
  have e2 : mostR l = ((mostL (activeL l)).1, (mostL (activeL l)).2, 0) := by rw [mostR, if_pos hI]
  rw [e1] at hW1
  rw [e2] at hW2
  simp only [intsO, mostO] at hW1 hW2
  have hC := chart_ok hI
  have hm := (insL_mem hI).2
  clear e1 e2
  generalize (rowsL (spsI l)).1 = out at *
  generalize (mostL (activeL l)).1 = n at *
  generalize (mostL (activeL l)).2 = a at *
  obtain ⟨c1, c2, c3, c4, c5, c6⟩ := hC
  have hl2 : l.length ≤ 40 := by omega
  refine pure_of mixed Try.func5 rfl (by kernel_rfl) (of_decide_eq_true rfl) (by kernel_rfl) (vc_run ?_)
  ((try simp -implicitDefEqProofs [-loopQ_n, hF, h40, c1, ins_reify]) <;> (repeat' (first | (refine condD_dec ?_ ?_ <;> (intro hc; (try simp -implicitDefEqProofs [-loopQ_n, hc, hF, h40, c1, ins_reify]))) | (refine guardD_dec ?_ ?_ <;> (intro hc; (try simp -implicitDefEqProofs [-loopQ_n, hc, hF, h40, c1, ins_reify]))) | (refine condD_intro ?_ ?_ <;> (intro hd; have hc := hd; (try simp at hc) <;> (try simp -implicitDefEqProofs [-loopQ_n, hd, hc, hF, h40, c1, ins_reify]))) | (refine guardD_intro ?_ ?_ <;> (intro hd; have hc := hd; (try simp at hc) <;> (try simp -implicitDefEqProofs [-loopQ_n, hd, hc, hF, h40, c1, ins_reify]))) | (refine ldD_ep ?_ ?_; (focus kernel_rfl); (try simp -implicitDefEqProofs [-loopQ_n, hF, h40, c1, ins_reify])) | (refine callS_mk ?_; (try simp -implicitDefEqProofs [-loopQ_n, hF, h40, c1, ins_reify]); (first | refine callS_intro (awake_pure) (.inl rfl) ?_ | refine callS_intro (sfew_pure l ll) (.inl rfl) ?_ | refine callS_intro (hW1) (.inr ⟨rfl, rfl⟩) ?_ | refine callS_intro (hW2) (.inl rfl) ?_); (try simp -implicitDefEqProofs [-loopQ_n, hF, h40, c1, ins_reify])))))
  refine loop_intro (σ := Nat × Int) (fun x => ⟨[(1, .op 0 0), (3, .rs (rowsOf intC out)), (5, .int .i64 n), (6, .int .i64 a), (8, .int .i64 x.2), (65, .rs (rowsOf insC l)), (66, .int .i64 l.length), (67, .int .i64 x.1)], [.box 30 [.rs (rowsOf insC l)]]⟩)
    (fun x => x.1 ≤ l.length ∧ (out.drop x.1).foldl stU x.2 = max n (min (l.length : Int) 1)) (fun x => l.length - x.1) (0, 0) ⟨by simp, by simpa using c4⟩ ?_ ?_
  · refine weak_of 1 0 rfl rfl ?_ ?_ <;> simp [ins_refs, int_refs]
  rintro ⟨i, u⟩ ⟨hi, hu⟩
  simp only at hi hu
  by_cases h : i < l.length
  · have w1 := w_succ' h (by omega)
    have ho : i < out.length := by omega
    obtain ⟨⟨cs, ac, r, t1, t2, t3⟩, hf⟩ : ∃ e, l[i] = e := ⟨_, rfl⟩
    obtain ⟨q, hq⟩ : ∃ q, out[i] = q := ⟨_, rfl⟩
    have hqb := c2 _ (List.getElem_mem ho)
    rw [hq] at hqb
    have q0 : ¬ q < 0 := by omega
    have w2 : wrapI .i64 (q + 1) = q + 1 := wrap_in (by omega) (by omega)
    rw [List.drop_eq_getElem_cons ho, List.foldl_cons, hq] at hu
    ((try simp -implicitDefEqProofs [-loopQ_n, h, hf, insC, ho, hq, q0, w1, w2]) <;> (repeat' (first | (refine condD_dec ?_ ?_ <;> (intro hc; (try simp -implicitDefEqProofs [-loopQ_n, hc, h, hf, insC, ho, hq, q0, w1, w2]))) | (refine guardD_dec ?_ ?_ <;> (intro hc; (try simp -implicitDefEqProofs [-loopQ_n, hc, h, hf, insC, ho, hq, q0, w1, w2]))) | (refine condD_intro ?_ ?_ <;> (intro hd; have hc := hd; (try simp at hc) <;> (try simp -implicitDefEqProofs [-loopQ_n, hd, hc, h, hf, insC, ho, hq, q0, w1, w2]))) | (refine guardD_intro ?_ ?_ <;> (intro hd; have hc := hd; (try simp at hc) <;> (try simp -implicitDefEqProofs [-loopQ_n, hd, hc, h, hf, insC, ho, hq, q0, w1, w2]))) | (refine ldD_ep ?_ ?_; (focus kernel_rfl); (try simp -implicitDefEqProofs [-loopQ_n, h, hf, insC, ho, hq, q0, w1, w2])))))
    have hst : (if u < q + 1 then q + 1 else u) = stU u q := by unfold stU; split <;> omega
    rw [hst]
    have hvi := insV_bd (hm _ (List.getElem_mem h))
    rw [hf] at hvi
    simp only at hvi
    refine loop_intro (σ := Nat) (fun j => ⟨[(1, .op 0 0), (3, .rs (rowsOf intC out)), (5, .int .i64 n), (6, .int .i64 a), (8, .int .i64 (stU u q)), (9, .int .i64 i), (10, .op 1 0), (65, .rs (rowsOf insC l)), (66, .int .i64 l.length), (67, .int .i64 i), (84, .int .i64 i), (85, .int .i64 j)], [.box 30 [.rs (rowsOf insC l)], .box 26 [.str cs, .str ac, .str r, .int .i64 t1, .int .i64 t2, .int .i64 t3]]⟩)
      (fun j => j ≤ i) (fun j => i - j) 0 (by simp) ?_ ?_
    · refine weak_of 2 0 rfl rfl ?_ ?_ <;> simp [ins_refs, int_refs]
    intro j hj
    by_cases g : j < i
    · have g2 : j < l.length := by omega
      have w3 := w_succ' g (by omega)
      have hoj : j < out.length := by omega
      obtain ⟨⟨cs', ac', r', t1', t2', t3'⟩, hf'⟩ : ∃ e, l[j] = e := ⟨_, rfl⟩
      obtain ⟨q', hq'⟩ : ∃ q, out[j] = q := ⟨_, rfl⟩
      have hvj := insV_bd (hm _ (List.getElem_mem g2))
      rw [hf'] at hvj
      simp only at hvj
      by_cases e : q = q'
      · have hd := c3 i j h g2 (by omega) (by rw [List.getElem?_eq_getElem ho, List.getElem?_eq_getElem hoj, hq, hq', e])
        rw [hf, hf'] at hd
        simp only at hd
        subst e
        have hno : ¬ (if t2 < t2' then t2' else t2) < (if t3' < t3 then t3' else t3) := by split <;> split <;> omega
        ((try simp -implicitDefEqProofs [-loopQ_n, g, g2, hf', insC, hoj, hq', ho, hq, h, w3, hno]) <;> (repeat' (first | (refine condD_dec ?_ ?_ <;> (intro hc; (try simp -implicitDefEqProofs [-loopQ_n, hc, g, g2, hf', insC, hoj, hq', ho, hq, h, w3, hno]))) | (refine guardD_dec ?_ ?_ <;> (intro hc; (try simp -implicitDefEqProofs [-loopQ_n, hc, g, g2, hf', insC, hoj, hq', ho, hq, h, w3, hno]))) | (refine condD_intro ?_ ?_ <;> (intro hd; have hc := hd; (try simp at hc) <;> (try simp -implicitDefEqProofs [-loopQ_n, hd, hc, g, g2, hf', insC, hoj, hq', ho, hq, h, w3, hno]))) | (refine guardD_intro ?_ ?_ <;> (intro hd; have hc := hd; (try simp at hc) <;> (try simp -implicitDefEqProofs [-loopQ_n, hd, hc, g, g2, hf', insC, hoj, hq', ho, hq, h, w3, hno]))) | (refine ldD_ep ?_ ?_; (focus kernel_rfl); (try simp -implicitDefEqProofs [-loopQ_n, g, g2, hf', insC, hoj, hq', ho, hq, h, w3, hno])))))
        refine loop_next (j + 1) (by omega) (by omega) (weak_of 2 0 rfl rfl ?_ ?_) <;> simp [ins_refs, int_refs, w3]
      · ((try simp -implicitDefEqProofs [-loopQ_n, g, g2, hf', insC, hoj, hq', ho, hq, h, w3, e]) <;> (repeat' (first | (refine condD_dec ?_ ?_ <;> (intro hc; (try simp -implicitDefEqProofs [-loopQ_n, hc, g, g2, hf', insC, hoj, hq', ho, hq, h, w3, e]))) | (refine guardD_dec ?_ ?_ <;> (intro hc; (try simp -implicitDefEqProofs [-loopQ_n, hc, g, g2, hf', insC, hoj, hq', ho, hq, h, w3, e]))) | (refine condD_intro ?_ ?_ <;> (intro hd; have hc := hd; (try simp at hc) <;> (try simp -implicitDefEqProofs [-loopQ_n, hd, hc, g, g2, hf', insC, hoj, hq', ho, hq, h, w3, e]))) | (refine guardD_intro ?_ ?_ <;> (intro hd; have hc := hd; (try simp at hc) <;> (try simp -implicitDefEqProofs [-loopQ_n, hd, hc, g, g2, hf', insC, hoj, hq', ho, hq, h, w3, e]))) | (refine ldD_ep ?_ ?_; (focus kernel_rfl); (try simp -implicitDefEqProofs [-loopQ_n, g, g2, hf', insC, hoj, hq', ho, hq, h, w3, e])))))
        refine loop_next (j + 1) (by omega) (by omega) (weak_of 2 0 rfl rfl ?_ ?_) <;> simp [ins_refs, int_refs, w3]
    · have hji : j = i := by omega
      subst hji
      ((try simp -implicitDefEqProofs [-loopQ_n, w1]) <;> (repeat' (first | (refine condD_dec ?_ ?_ <;> (intro hc; (try simp -implicitDefEqProofs [-loopQ_n, hc, w1]))) | (refine guardD_dec ?_ ?_ <;> (intro hc; (try simp -implicitDefEqProofs [-loopQ_n, hc, w1]))) | (refine condD_intro ?_ ?_ <;> (intro hd; have hc := hd; (try simp at hc) <;> (try simp -implicitDefEqProofs [-loopQ_n, hd, hc, w1]))) | (refine guardD_intro ?_ ?_ <;> (intro hd; have hc := hd; (try simp at hc) <;> (try simp -implicitDefEqProofs [-loopQ_n, hd, hc, w1]))) | (refine ldD_ep ?_ ?_; (focus kernel_rfl); (try simp -implicitDefEqProofs [-loopQ_n, w1])))))
      refine loop_next (j + 1, stU u q) ⟨h, hu⟩ (by simp only; omega) (weak_of 1 0 rfl rfl ?_ ?_) <;> simp [ins_refs, int_refs, w1]
  · rw [List.drop_eq_nil_of_le (by omega), List.foldl_nil] at hu
    have c5' := c5
    have hat : ∀ t, (actN (spsI l) t : Int) ≤ n ∧ ((actN (spsI l) t : Int) = n → 0 < n → ¬ t < a) := fun t => by
      rcases c5 with ⟨m1, m2, m3⟩ | ⟨m1, m2, m3, m4⟩
      · have := m3 t; omega
      · exact ⟨m3 t, fun e _ q => by have := m4 t q; omega⟩
    have hend : (0 < n ∧ (actN (spsI l) a : Int) = n ∧ ¬ n = 0) ∨ (¬ 0 < n ∧ n = 0 ∧ a = 0) := by
      rcases c5 with ⟨m1, m2, m3⟩ | ⟨m1, m2, m3, m4⟩
      · exact .inr ⟨by omega, m1, m2⟩
      · exact .inl ⟨m1, m2, by omega⟩
    clear c5 c5' c3 c4
    have hA := fun t => at_pure l t (by omega)
    ((try simp -implicitDefEqProofs [-loopQ_n, h]) <;> (repeat' (first | (refine condD_dec ?_ ?_ <;> (intro hc; (try simp -implicitDefEqProofs [-loopQ_n, hc, h]))) | (refine guardD_dec ?_ ?_ <;> (intro hc; (try simp -implicitDefEqProofs [-loopQ_n, hc, h]))) | (refine condD_intro ?_ ?_ <;> (intro hd; have hc := hd; (try simp at hc) <;> (try simp -implicitDefEqProofs [-loopQ_n, hd, hc, h]))) | (refine guardD_intro ?_ ?_ <;> (intro hd; have hc := hd; (try simp at hc) <;> (try simp -implicitDefEqProofs [-loopQ_n, hd, hc, h]))) | (refine ldD_ep ?_ ?_; (focus kernel_rfl); (try simp -implicitDefEqProofs [-loopQ_n, h])))))
    refine loop_intro (σ := Nat) (fun i => ⟨[(1, .op 0 0), (5, .int .i64 n), (6, .int .i64 a), (8, .int .i64 u), (13, .fn 21 [.op 0 0]), (117, .rs (rowsOf insC l)), (118, .int .i64 l.length), (119, .int .i64 i)], [.box 30 [.rs (rowsOf insC l)]]⟩)
      (fun i => i ≤ l.length) (fun i => l.length - i) 0 (by simp) ?_ ?_
    · refine weak_of 1 0 rfl rfl ?_ ?_ <;> simp [ins_refs]
    intro k hk
    by_cases g : k < l.length
    · have w1 := w_succ' g (by omega)
      obtain ⟨⟨cs, ac, r, t1, t2, t3⟩, hf⟩ : ∃ e, l[k] = e := ⟨_, rfl⟩
      obtain ⟨b1, b2⟩ := hat t2
      have hB := hA t2
      generalize (actN (spsI l) t2 : Int) = v at *
      have b3 : ¬ n < v := by omega
      by_cases b4 : v = n
      · subst b4
        by_cases b5 : 0 < v
        · have b6 := b2 rfl b5
          ((try simp -implicitDefEqProofs [-loopQ_n, g, hf, insC, w1, b3, b5, b6, ins_reify]) <;> (repeat' (first | (refine condD_dec ?_ ?_ <;> (intro hc; (try simp -implicitDefEqProofs [-loopQ_n, hc, g, hf, insC, w1, b3, b5, b6, ins_reify]))) | (refine guardD_dec ?_ ?_ <;> (intro hc; (try simp -implicitDefEqProofs [-loopQ_n, hc, g, hf, insC, w1, b3, b5, b6, ins_reify]))) | (refine condD_intro ?_ ?_ <;> (intro hd; have hc := hd; (try simp at hc) <;> (try simp -implicitDefEqProofs [-loopQ_n, hd, hc, g, hf, insC, w1, b3, b5, b6, ins_reify]))) | (refine guardD_intro ?_ ?_ <;> (intro hd; have hc := hd; (try simp at hc) <;> (try simp -implicitDefEqProofs [-loopQ_n, hd, hc, g, hf, insC, w1, b3, b5, b6, ins_reify]))) | (refine ldD_ep ?_ ?_; (focus kernel_rfl); (try simp -implicitDefEqProofs [-loopQ_n, g, hf, insC, w1, b3, b5, b6, ins_reify])) | (refine callS_mk ?_; (try simp -implicitDefEqProofs [-loopQ_n, g, hf, insC, w1, b3, b5, b6, ins_reify]); (first | refine callS_intro (hB) (.inl rfl) ?_); (try simp -implicitDefEqProofs [-loopQ_n, g, hf, insC, w1, b3, b5, b6, ins_reify])))))
          refine loop_next (k + 1) (by omega) (by omega) (weak_of 1 0 rfl rfl ?_ ?_) <;> simp [ins_refs, w1]
        · ((try simp -implicitDefEqProofs [-loopQ_n, g, hf, insC, w1, b3, b5, ins_reify]) <;> (repeat' (first | (refine condD_dec ?_ ?_ <;> (intro hc; (try simp -implicitDefEqProofs [-loopQ_n, hc, g, hf, insC, w1, b3, b5, ins_reify]))) | (refine guardD_dec ?_ ?_ <;> (intro hc; (try simp -implicitDefEqProofs [-loopQ_n, hc, g, hf, insC, w1, b3, b5, ins_reify]))) | (refine condD_intro ?_ ?_ <;> (intro hd; have hc := hd; (try simp at hc) <;> (try simp -implicitDefEqProofs [-loopQ_n, hd, hc, g, hf, insC, w1, b3, b5, ins_reify]))) | (refine guardD_intro ?_ ?_ <;> (intro hd; have hc := hd; (try simp at hc) <;> (try simp -implicitDefEqProofs [-loopQ_n, hd, hc, g, hf, insC, w1, b3, b5, ins_reify]))) | (refine ldD_ep ?_ ?_; (focus kernel_rfl); (try simp -implicitDefEqProofs [-loopQ_n, g, hf, insC, w1, b3, b5, ins_reify])) | (refine callS_mk ?_; (try simp -implicitDefEqProofs [-loopQ_n, g, hf, insC, w1, b3, b5, ins_reify]); (first | refine callS_intro (hB) (.inl rfl) ?_); (try simp -implicitDefEqProofs [-loopQ_n, g, hf, insC, w1, b3, b5, ins_reify])))))
          refine loop_next (k + 1) (by omega) (by omega) (weak_of 1 0 rfl rfl ?_ ?_) <;> simp [ins_refs, w1]
      · ((try simp -implicitDefEqProofs [-loopQ_n, g, hf, insC, w1, b3, b4, ins_reify]) <;> (repeat' (first | (refine condD_dec ?_ ?_ <;> (intro hc; (try simp -implicitDefEqProofs [-loopQ_n, hc, g, hf, insC, w1, b3, b4, ins_reify]))) | (refine guardD_dec ?_ ?_ <;> (intro hc; (try simp -implicitDefEqProofs [-loopQ_n, hc, g, hf, insC, w1, b3, b4, ins_reify]))) | (refine condD_intro ?_ ?_ <;> (intro hd; have hc := hd; (try simp at hc) <;> (try simp -implicitDefEqProofs [-loopQ_n, hd, hc, g, hf, insC, w1, b3, b4, ins_reify]))) | (refine guardD_intro ?_ ?_ <;> (intro hd; have hc := hd; (try simp at hc) <;> (try simp -implicitDefEqProofs [-loopQ_n, hd, hc, g, hf, insC, w1, b3, b4, ins_reify]))) | (refine ldD_ep ?_ ?_; (focus kernel_rfl); (try simp -implicitDefEqProofs [-loopQ_n, g, hf, insC, w1, b3, b4, ins_reify])) | (refine callS_mk ?_; (try simp -implicitDefEqProofs [-loopQ_n, g, hf, insC, w1, b3, b4, ins_reify]); (first | refine callS_intro (hB) (.inl rfl) ?_); (try simp -implicitDefEqProofs [-loopQ_n, g, hf, insC, w1, b3, b4, ins_reify])))))
        refine loop_next (k + 1) (by omega) (by omega) (weak_of 1 0 rfl rfl ?_ ?_) <;> simp [ins_refs, w1]
    · have hB := hA a
      have hmm : u = (if n < (if (1 : Int) < l.length then 1 else (l.length : Int)) then (if (1 : Int) < l.length then 1 else (l.length : Int)) else n) := by split <;> split <;> omega
      rcases hend with ⟨d1, d2, d3⟩ | ⟨d1, d2, d3⟩
      · rw [d2] at hB
        ((try simp -implicitDefEqProofs [-loopQ_n, g, d1, d3, ins_reify]) <;> (repeat' (first | (refine condD_dec ?_ ?_ <;> (intro hc; (try simp -implicitDefEqProofs [-loopQ_n, hc, g, d1, d3, ins_reify]))) | (refine guardD_dec ?_ ?_ <;> (intro hc; (try simp -implicitDefEqProofs [-loopQ_n, hc, g, d1, d3, ins_reify]))) | (refine condD_intro ?_ ?_ <;> (intro hd; have hc := hd; (try simp at hc) <;> (try simp -implicitDefEqProofs [-loopQ_n, hd, hc, g, d1, d3, ins_reify]))) | (refine guardD_intro ?_ ?_ <;> (intro hd; have hc := hd; (try simp at hc) <;> (try simp -implicitDefEqProofs [-loopQ_n, hd, hc, g, d1, d3, ins_reify]))) | (refine ldD_ep ?_ ?_; (focus kernel_rfl); (try simp -implicitDefEqProofs [-loopQ_n, g, d1, d3, ins_reify])) | (refine callS_mk ?_; (try simp -implicitDefEqProofs [-loopQ_n, g, d1, d3, ins_reify]); (first | refine callS_intro (hB) (.inl rfl) ?_); (try simp -implicitDefEqProofs [-loopQ_n, g, d1, d3, ins_reify])))))
        exact hmm
      · subst d2 d3
        ((try simp -implicitDefEqProofs [-loopQ_n, g, ins_reify]) <;> (repeat' (first | (refine condD_dec ?_ ?_ <;> (intro hc; (try simp -implicitDefEqProofs [-loopQ_n, hc, g, ins_reify]))) | (refine guardD_dec ?_ ?_ <;> (intro hc; (try simp -implicitDefEqProofs [-loopQ_n, hc, g, ins_reify]))) | (refine condD_intro ?_ ?_ <;> (intro hd; have hc := hd; (try simp at hc) <;> (try simp -implicitDefEqProofs [-loopQ_n, hd, hc, g, ins_reify]))) | (refine guardD_intro ?_ ?_ <;> (intro hd; have hc := hd; (try simp at hc) <;> (try simp -implicitDefEqProofs [-loopQ_n, hd, hc, g, ins_reify]))) | (refine ldD_ep ?_ ?_; (focus kernel_rfl); (try simp -implicitDefEqProofs [-loopQ_n, g, ins_reify])) | (refine callS_mk ?_; (try simp -implicitDefEqProofs [-loopQ_n, g, ins_reify]); (first | refine callS_intro (hB) (.inl rfl) ?_); (try simp -implicitDefEqProofs [-loopQ_n, g, ins_reify])))))
        exact hmm
theorem both (x0 : AV) (s0 : argS Try.prog 30 x0) : Pure Try.prog 5 [x0] (.bool true) := by
  obtain ⟨l, rfl, ll, _⟩ := arg_insl s0
  exact main l ll
theorem walk (W : World) (hvo : VarsOk W (fun _ => False)) (v0 : Value) (x0 : AV) (r0 : RO W (fun _ => False) x0 v0) (s0 : argS Try.prog 30 x0) :
    Calls Try.prog 5 #[v0] W fun e w' => e = .returned (.bool true) ∧ Below W.heap.size W w' := by
  refine ((both x0 s0).2 W (fun _ => False) _ (fun _ h => h.elim) hvo rfl ?_).mono ?_
  · intro j x v hj hv
    match j with
    | 0 => simp at hj hv; subst hj hv; exact r0
    | j + 1 => simp at hj
  · rintro e w' ⟨v, rfl, hv, hb⟩
    rw [ro_tt hv]
    exact ⟨rfl, hb⟩
end
set_option maxRecDepth 100000 in
theorem lifted (os : Os) (started : os.Started) (H : Type) (enc : TypeId × Value → H) :
    ReturnsInHanded {} Try.checked os 5 .any (Rows.spansChartSpec.pre6 enc Try.prog Try.f5 Rows.spansChartRow.domain false) (Rows.spansChartSpec.post enc Try.prog Try.f5 false true false false) := by
  refine returnsInHanded_of_change (C := Try.checked) (@ownK ⟨fun _ => none⟩) started (by kernel_rfl) Try.func5
    (ChangeSpec.witness6 (enc := enc) (C := Try.checked) false ⟨#[], #[.slice none 0 0], []⟩ 8 (by kernel_rfl) (by kernel_rfl) (by kernel_rfl) (by kernel_rfl)) ?_
  intro W base args ds gs before hval0 hW hcnd _
  have hval : ∀ (j : Nat) t v, Try.f5.params[j]? = some t → args[j]? = some v → Value.okWide Try.prog W .any base t v := hval0
  have hW' := hW
  obtain ⟨p, q, hA0, hV, rfl, hfz, hnd⟩ := hW
  have hA : DataW.TrodAll enc Try.prog W 0 (fun _ => true) true Try.f5.params.toList args.toList ds p := hA0
  rw [Try.params5] at hA hval
  obtain ⟨v0, vs0, d0, ds0, p0, q0, hargs, rfl, rfl, h0, r0⟩ := trodAll_cons hA
  obtain ⟨rfl, rfl, rfl⟩ := trodAll_nil r0
  obtain rfl : args = #[v0] := by cases args; simp_all
  obtain ⟨rfl, rfl⟩ := trodVars_none hV
  letI : Glob := ⟨fun _ => none⟩
  have k0 := h0
  have lt0 : ∀ x ∈ p0, x.block < W.heap.size := by obtain ⟨m, hm⟩ := k0; exact DataW.trod_lt m _ _ _ hm
  obtain ⟨x0, y0, s0⟩ := arg_open (P := Try.prog) (t := 30) (by kernel_rfl) (by kernel_rfl) (hval 0 30 v0 rfl rfl) h0
  clear hA0 hval0
  refine (walk W (fun g row h => by cases h) v0 x0 y0 s0).mono fun e W' ⟨he, bel⟩ => ?_
  subst he
  exact ⟨_, rfl, _, _, _, [], _, [], hW', trodAll_mk1 (shut_bool Try.underlying4 _), (trodAll_cons_mk (Below.trod laidK (by kernel_rfl) (of_decide_eq_true (by kernel_rfl)) k0 bel lt0) trodAll_mk0), rfl, bel.frame _, fun h => by cases h⟩

theorem over : Rows.spansChartRow.holds Try.pinned (OpenSpec.ofChange Rows.spansChartSpec) :=
  OpenClaim.holds_of_wide 5 Try.f5 rfl rfl rfl rfl rfl rfl rfl ⟨rfl, rfl, rfl, rfl, rfl⟩ rfl rfl rfl rfl rfl (by kernel_rfl) Try.func5 (by kernel_rfl)
    (of_decide_eq_true (by kernel_rfl)) (by unfold Func.isWrapper; first | (rw [if_pos (by decide +kernel)]; kernel_rfl) | (rw [if_neg (by decide +kernel)]; exact ⟨rfl, rfl⟩))
    (fun os started H enc _ => lifted os started H enc)

theorem proved : Rows.SpansChartSaid := over
end Go.Proofs.Ytfbpjlabhckoeaa.lawSChart
