/- Publications: valid ones (program and reference), and such as keep k. -/
import Derived.Test.YtkppfaennogcmaaPrvI
namespace Go.Proofs.Ytkppfaennogcmaa
set_option linter.unusedSimpArgs false
set_option linter.unusedVariables false
set_option linter.unnecessarySimpa false
set_option linter.unusedSectionVars false
open Go.RowKit
variable [Glob]
set_option maxRecDepth 100000
theorem wd_snoc {l : List Wd} {v : Wd} : rowsOf wdC l ++ [wdC v] = rowsOf wdC (l ++ [v]) := by simp [rowsOf]
set_option maxHeartbeats 16000000 in
theorem published_pure (l : List Wd) (hl : l.length ≤ 300) : Pure Try.prog 58 [.rs (rowsOf wdC l)] (.rs (rowsOf wdC l)) := by
  refine pure_of mixed Try.func58 rfl (by kernel_rfl) (of_decide_eq_true rfl) (by kernel_rfl) (vc_run ?_)
  ((try simp -implicitDefEqProofs [-loopQ_n]) <;> (repeat' (first | (refine condD_dec ?_ ?_ <;> (intro hc; (try simp -implicitDefEqProofs [-loopQ_n, hc]))) | (refine guardD_dec ?_ ?_ <;> (intro hc; (try simp -implicitDefEqProofs [-loopQ_n, hc]))) | (refine condD_intro ?_ ?_ <;> (intro hd; have hc := hd; (try simp at hc) <;> (try simp -implicitDefEqProofs [-loopQ_n, hd, hc]))) | (refine guardD_intro ?_ ?_ <;> (intro hd; have hc := hd; (try simp at hc) <;> (try simp -implicitDefEqProofs [-loopQ_n, hd, hc]))) | (refine ldD_ep ?_ ?_; (focus kernel_rfl); (try simp -implicitDefEqProofs [-loopQ_n])))))
  refine loop_intro (σ := Nat × List Wd) (fun x => ⟨[(3, .os 0 x.2.length), (6, .rs (rowsOf wdC l)), (7, .int .i64 l.length), (8, .int .i64 x.1)], [.row 97 true (rowsOf wdC x.2)]⟩)
    (fun x => x.1 ≤ l.length ∧ x.2.length = x.1 ∧ x.2 ++ l.drop x.1 = l) (fun x => l.length - x.1) (0, []) ⟨by simp, by simp, by simp⟩ ?_ ?_
  · refine weak_of 0 1 rfl rfl ?_ ?_ <;> simp
  rintro ⟨i, o⟩ ⟨hi, ho, hR⟩
  simp only at hi ho hR
  by_cases h : i < l.length
  · have w1 : wrapI .i64 ((i : Int) + 1) = (i : Int) + 1 := wrap_in (by omega) (by omega)
    obtain ⟨⟨A, n⟩, hx⟩ : ∃ x, l[i] = x := ⟨_, rfl⟩
    have hlen : o.length + 1 ≤ 1073741824 := by omega
    have hsn : rowsOf wdC o ++ [[.rs (rowsOf strC A), .int .i64 n]] = rowsOf wdC (o ++ [⟨A, n⟩]) := wd_snoc (v := ⟨A, n⟩)
    ((try simp -implicitDefEqProofs [-loopQ_n, h, hx, wdC, hlen, hsn]) <;> (repeat' (first | (refine condD_dec ?_ ?_ <;> (intro hc; (try simp -implicitDefEqProofs [-loopQ_n, hc, h, hx, wdC, hlen, hsn]))) | (refine guardD_dec ?_ ?_ <;> (intro hc; (try simp -implicitDefEqProofs [-loopQ_n, hc, h, hx, wdC, hlen, hsn]))) | (refine condD_intro ?_ ?_ <;> (intro hd; have hc := hd; (try simp at hc) <;> (try simp -implicitDefEqProofs [-loopQ_n, hd, hc, h, hx, wdC, hlen, hsn]))) | (refine guardD_intro ?_ ?_ <;> (intro hd; have hc := hd; (try simp at hc) <;> (try simp -implicitDefEqProofs [-loopQ_n, hd, hc, h, hx, wdC, hlen, hsn]))) | (refine ldD_ep ?_ ?_; (focus kernel_rfl); (try simp -implicitDefEqProofs [-loopQ_n, h, hx, wdC, hlen, hsn])))))
    refine loop_next (i + 1, o ++ [⟨A, n⟩]) ⟨by simp only; omega, by simp; omega, ?_⟩ (by simp only; omega) (weak_of 1 0 rfl rfl ?_ ?_)
    · rw [← hR, List.append_assoc, List.singleton_append]
      simp only
      conv => rhs; rw [List.drop_eq_getElem_cons h, hx]
      rw [hR]
    · simp [w1]
    · simp [wd_refs, hsn]
  · rw [List.drop_eq_nil_of_le (by omega), List.append_nil] at hR
    subst hR
    ((try simp -implicitDefEqProofs [-loopQ_n, h, wd_reify]) <;> (repeat' (first | (refine condD_dec ?_ ?_ <;> (intro hc; (try simp -implicitDefEqProofs [-loopQ_n, hc, h, wd_reify]))) | (refine guardD_dec ?_ ?_ <;> (intro hc; (try simp -implicitDefEqProofs [-loopQ_n, hc, h, wd_reify]))) | (refine condD_intro ?_ ?_ <;> (intro hd; have hc := hd; (try simp at hc) <;> (try simp -implicitDefEqProofs [-loopQ_n, hd, hc, h, wd_reify]))) | (refine guardD_intro ?_ ?_ <;> (intro hd; have hc := hd; (try simp at hc) <;> (try simp -implicitDefEqProofs [-loopQ_n, hd, hc, h, wd_reify]))) | (refine ldD_ep ?_ ?_; (focus kernel_rfl); (try simp -implicitDefEqProofs [-loopQ_n, h, wd_reify])))))
theorem valid_pure (l : List Wd) (hl : l.length ≤ 300) (hw : ∀ v ∈ l, wdI v) : Pure Try.prog 35 [.rs (rowsOf wdC l)] (.bool (validW l)) := by
  have hA := published_pure l hl
  have hB := right_pure l hl hw
  refine pure_of mixed Try.func35 rfl (by kernel_rfl) (of_decide_eq_true rfl) (by kernel_rfl) (vc_run ?_)
  ((try simp -implicitDefEqProofs [-loopQ_n]) <;> (repeat' (first | (refine condD_dec ?_ ?_ <;> (intro hc; (try simp -implicitDefEqProofs [-loopQ_n, hc]))) | (refine guardD_dec ?_ ?_ <;> (intro hc; (try simp -implicitDefEqProofs [-loopQ_n, hc]))) | (refine condD_intro ?_ ?_ <;> (intro hd; have hc := hd; (try simp at hc) <;> (try simp -implicitDefEqProofs [-loopQ_n, hd, hc]))) | (refine guardD_intro ?_ ?_ <;> (intro hd; have hc := hd; (try simp at hc) <;> (try simp -implicitDefEqProofs [-loopQ_n, hd, hc]))) | (refine ldD_ep ?_ ?_; (focus kernel_rfl); (try simp -implicitDefEqProofs [-loopQ_n])) | (refine callS_mk ?_; (try simp -implicitDefEqProofs [-loopQ_n]); (first | refine callS_intro (hA) (.inr ⟨rfl, rfl⟩) ?_ | refine callS_intro (hB) (.inl rfl) ?_); (try simp -implicitDefEqProofs [-loopQ_n])))))
set_option maxHeartbeats 16000000 in
theorem rvalid_pure (l : List Wd) (hl : l.length ≤ 300) (hw : ∀ v ∈ l, wdI v) : Pure Try.prog 27 [.rs (rowsOf wdC l)] (.bool (validW l)) := by
  have hl' : ¬ (300 : Int) < l.length := by omega
  obtain ⟨R, hR⟩ : ∃ R, validW l = R := ⟨_, rfl⟩
  rw [hR]
  refine pure_of mixed Try.func27 rfl (by kernel_rfl) (of_decide_eq_true rfl) (by kernel_rfl) (vc_run ?_)
  ((try simp -implicitDefEqProofs [-loopQ_n, hl']) <;> (repeat' (first | (refine condD_dec ?_ ?_ <;> (intro hc; (try simp -implicitDefEqProofs [-loopQ_n, hc, hl']))) | (refine guardD_dec ?_ ?_ <;> (intro hc; (try simp -implicitDefEqProofs [-loopQ_n, hc, hl']))) | (refine condD_intro ?_ ?_ <;> (intro hd; have hc := hd; (try simp at hc) <;> (try simp -implicitDefEqProofs [-loopQ_n, hd, hc, hl']))) | (refine guardD_intro ?_ ?_ <;> (intro hd; have hc := hd; (try simp at hc) <;> (try simp -implicitDefEqProofs [-loopQ_n, hd, hc, hl']))) | (refine ldD_ep ?_ ?_; (focus kernel_rfl); (try simp -implicitDefEqProofs [-loopQ_n, hl'])))))
  refine loop_intro (σ := Nat) (fun i => ⟨[(0, .rs (rowsOf wdC l)), (3, .int .i64 i)], []⟩)
    (fun i => i ≤ l.length ∧ ∀ j, j < l.length → j < i → badW l j = false) (fun i => l.length - i) 0 ⟨by simp, fun j _ h => by omega⟩ ?_ ?_
  · refine weak_of 0 0 rfl rfl ?_ ?_ <;> simp
  rintro i ⟨hi, hok⟩
  by_cases h : i < l.length
  · have w1 : wrapI .i64 ((i : Int) + 1) = (i : Int) + 1 := wrap_in (by omega) (by omega)
    obtain ⟨⟨A, n⟩, hx⟩ : ∃ x, l[i] = x := ⟨_, rfl⟩
    have hxl : wat l i = ⟨A, n⟩ := by rw [wat_get h, hx]
    have hA := (hw l[i] (by simp)).2.1
    rw [hx] at hA
    simp only at hA
    have hQ := rnames_pure A hA
    have hno : badW l i = true → R = false := fun hb => by rw [← hR]; exact validW_no h hb
    have hyes : badW l i = false → ∀ j, j < l.length → j < i + 1 → badW l j = false := fun hb j hj hji => by
      by_cases e : j = i
      · subst e; exact hb
      · exact hok j hj (by omega)
    by_cases d1 : 200 < A.length
    · have d1' : (200 : Int) < A.length := by omega
      have := hno (by simp [badW, hxl, d1])
      subst this
      ((try simp -implicitDefEqProofs [-loopQ_n, h, hx, d1, d1', wdC]) <;> (repeat' (first | (refine condD_dec ?_ ?_ <;> (intro hc; (try simp -implicitDefEqProofs [-loopQ_n, hc, h, hx, d1, d1', wdC]))) | (refine guardD_dec ?_ ?_ <;> (intro hc; (try simp -implicitDefEqProofs [-loopQ_n, hc, h, hx, d1, d1', wdC]))) | (refine condD_intro ?_ ?_ <;> (intro hd; have hc := hd; (try simp at hc) <;> (try simp -implicitDefEqProofs [-loopQ_n, hd, hc, h, hx, d1, d1', wdC]))) | (refine guardD_intro ?_ ?_ <;> (intro hd; have hc := hd; (try simp at hc) <;> (try simp -implicitDefEqProofs [-loopQ_n, hd, hc, h, hx, d1, d1', wdC]))) | (refine ldD_ep ?_ ?_; (focus kernel_rfl); (try simp -implicitDefEqProofs [-loopQ_n, h, hx, d1, d1', wdC])))))
    have d1' : ¬ (200 : Int) < A.length := by omega
    cases d4 : namesL A with
    | false =>
      have := hno (by simp [badW, hxl, d4])
      subst this
      rw [d4] at hQ
      ((try simp -implicitDefEqProofs [-loopQ_n, h, hx, d1, d1', wdC]) <;> (repeat' (first | (refine condD_dec ?_ ?_ <;> (intro hc; (try simp -implicitDefEqProofs [-loopQ_n, hc, h, hx, d1, d1', wdC]))) | (refine guardD_dec ?_ ?_ <;> (intro hc; (try simp -implicitDefEqProofs [-loopQ_n, hc, h, hx, d1, d1', wdC]))) | (refine condD_intro ?_ ?_ <;> (intro hd; have hc := hd; (try simp at hc) <;> (try simp -implicitDefEqProofs [-loopQ_n, hd, hc, h, hx, d1, d1', wdC]))) | (refine guardD_intro ?_ ?_ <;> (intro hd; have hc := hd; (try simp at hc) <;> (try simp -implicitDefEqProofs [-loopQ_n, hd, hc, h, hx, d1, d1', wdC]))) | (refine ldD_ep ?_ ?_; (focus kernel_rfl); (try simp -implicitDefEqProofs [-loopQ_n, h, hx, d1, d1', wdC])) | (refine callS_mk ?_; (try simp -implicitDefEqProofs [-loopQ_n, h, hx, d1, d1', wdC]); (first | refine callS_intro (hQ) (.inl rfl) ?_); (try simp -implicitDefEqProofs [-loopQ_n, h, hx, d1, d1', wdC])))))
    | true =>
      rw [d4] at hQ
      by_cases d2 : n < 1
      · have := hno (by simp [badW, hxl, d2])
        subst this
        ((try simp -implicitDefEqProofs [-loopQ_n, h, hx, d1, d1', d2, wdC]) <;> (repeat' (first | (refine condD_dec ?_ ?_ <;> (intro hc; (try simp -implicitDefEqProofs [-loopQ_n, hc, h, hx, d1, d1', d2, wdC]))) | (refine guardD_dec ?_ ?_ <;> (intro hc; (try simp -implicitDefEqProofs [-loopQ_n, hc, h, hx, d1, d1', d2, wdC]))) | (refine condD_intro ?_ ?_ <;> (intro hd; have hc := hd; (try simp at hc) <;> (try simp -implicitDefEqProofs [-loopQ_n, hd, hc, h, hx, d1, d1', d2, wdC]))) | (refine guardD_intro ?_ ?_ <;> (intro hd; have hc := hd; (try simp at hc) <;> (try simp -implicitDefEqProofs [-loopQ_n, hd, hc, h, hx, d1, d1', d2, wdC]))) | (refine ldD_ep ?_ ?_; (focus kernel_rfl); (try simp -implicitDefEqProofs [-loopQ_n, h, hx, d1, d1', d2, wdC])) | (refine callS_mk ?_; (try simp -implicitDefEqProofs [-loopQ_n, h, hx, d1, d1', d2, wdC]); (first | refine callS_intro (hQ) (.inl rfl) ?_); (try simp -implicitDefEqProofs [-loopQ_n, h, hx, d1, d1', d2, wdC])))))
      by_cases d3 : 1048576 < n
      · have := hno (by simp [badW, hxl, d3])
        subst this
        ((try simp -implicitDefEqProofs [-loopQ_n, h, hx, d1, d1', d2, d3, wdC]) <;> (repeat' (first | (refine condD_dec ?_ ?_ <;> (intro hc; (try simp -implicitDefEqProofs [-loopQ_n, hc, h, hx, d1, d1', d2, d3, wdC]))) | (refine guardD_dec ?_ ?_ <;> (intro hc; (try simp -implicitDefEqProofs [-loopQ_n, hc, h, hx, d1, d1', d2, d3, wdC]))) | (refine condD_intro ?_ ?_ <;> (intro hd; have hc := hd; (try simp at hc) <;> (try simp -implicitDefEqProofs [-loopQ_n, hd, hc, h, hx, d1, d1', d2, d3, wdC]))) | (refine guardD_intro ?_ ?_ <;> (intro hd; have hc := hd; (try simp at hc) <;> (try simp -implicitDefEqProofs [-loopQ_n, hd, hc, h, hx, d1, d1', d2, d3, wdC]))) | (refine ldD_ep ?_ ?_; (focus kernel_rfl); (try simp -implicitDefEqProofs [-loopQ_n, h, hx, d1, d1', d2, d3, wdC])) | (refine callS_mk ?_; (try simp -implicitDefEqProofs [-loopQ_n, h, hx, d1, d1', d2, d3, wdC]); (first | refine callS_intro (hQ) (.inl rfl) ?_); (try simp -implicitDefEqProofs [-loopQ_n, h, hx, d1, d1', d2, d3, wdC])))))
      by_cases d5 : i = 0
      · have hb : badW l i = false := by
          unfold badW
          rw [hxl]
          simp [d1, d2, d3, d4, d5]
        have c5 : ¬ (0 : Int) < i := by omega
        have c6 : ¬ 0 < i := by omega
        ((try simp -implicitDefEqProofs [-loopQ_n, h, hx, d1, d1', d2, d3, wdC, c5, c6]) <;> (repeat' (first | (refine condD_dec ?_ ?_ <;> (intro hc; (try simp -implicitDefEqProofs [-loopQ_n, hc, h, hx, d1, d1', d2, d3, wdC, c5, c6]))) | (refine guardD_dec ?_ ?_ <;> (intro hc; (try simp -implicitDefEqProofs [-loopQ_n, hc, h, hx, d1, d1', d2, d3, wdC, c5, c6]))) | (refine condD_intro ?_ ?_ <;> (intro hd; have hc := hd; (try simp at hc) <;> (try simp -implicitDefEqProofs [-loopQ_n, hd, hc, h, hx, d1, d1', d2, d3, wdC, c5, c6]))) | (refine guardD_intro ?_ ?_ <;> (intro hd; have hc := hd; (try simp at hc) <;> (try simp -implicitDefEqProofs [-loopQ_n, hd, hc, h, hx, d1, d1', d2, d3, wdC, c5, c6]))) | (refine ldD_ep ?_ ?_; (focus kernel_rfl); (try simp -implicitDefEqProofs [-loopQ_n, h, hx, d1, d1', d2, d3, wdC, c5, c6])) | (refine callS_mk ?_; (try simp -implicitDefEqProofs [-loopQ_n, h, hx, d1, d1', d2, d3, wdC, c5, c6]); (first | refine callS_intro (hQ) (.inl rfl) ?_); (try simp -implicitDefEqProofs [-loopQ_n, h, hx, d1, d1', d2, d3, wdC, c5, c6])))))
        refine loop_next (i + 1) ⟨by omega, hyes hb⟩ (by omega) (weak_of 0 0 rfl rfl ?_ ?_) <;> simp [w1]
      · obtain ⟨i', hi'⟩ : ∃ i', i = i' + 1 := ⟨i - 1, by omega⟩
        have h' : i' < l.length := by omega
        obtain ⟨⟨B, m⟩, hy⟩ : ∃ y, l[i'] = y := ⟨_, rfl⟩
        have hyl : wat l (i - 1) = ⟨B, m⟩ := by rw [show i - 1 = i' by omega, wat_get h', hy]
        have hB := (hw l[i'] (by simp)).2.1
        rw [hy] at hB
        simp only at hB
        have hC := rcompare_pure B A hB hA
        have c5 : (0 : Int) < i := by omega
        have c6 : 0 < i := by omega
        have w2 : wrapI .i64 ((i : Int) - 1) = (i' : Int) := by rw [wrap_in (by omega) (by omega)]; omega
        obtain ⟨c, hc⟩ : ∃ c, cmpL B A = c := ⟨_, rfl⟩
        rw [hc] at hC
        by_cases d6 : 0 ≤ c
        · have := hno (by simp [badW, hxl, hyl, hc, d6]; omega)
          subst this
          ((try simp -implicitDefEqProofs [-loopQ_n, h, hx, h', hy, d1, d1', d2, d3, wdC, c5, c6, w2, d6]) <;> (repeat' (first | (refine condD_dec ?_ ?_ <;> (intro hc; (try simp -implicitDefEqProofs [-loopQ_n, hc, h, hx, h', hy, d1, d1', d2, d3, wdC, c5, c6, w2, d6]))) | (refine guardD_dec ?_ ?_ <;> (intro hc; (try simp -implicitDefEqProofs [-loopQ_n, hc, h, hx, h', hy, d1, d1', d2, d3, wdC, c5, c6, w2, d6]))) | (refine condD_intro ?_ ?_ <;> (intro hd; have hc := hd; (try simp at hc) <;> (try simp -implicitDefEqProofs [-loopQ_n, hd, hc, h, hx, h', hy, d1, d1', d2, d3, wdC, c5, c6, w2, d6]))) | (refine guardD_intro ?_ ?_ <;> (intro hd; have hc := hd; (try simp at hc) <;> (try simp -implicitDefEqProofs [-loopQ_n, hd, hc, h, hx, h', hy, d1, d1', d2, d3, wdC, c5, c6, w2, d6]))) | (refine ldD_ep ?_ ?_; (focus kernel_rfl); (try simp -implicitDefEqProofs [-loopQ_n, h, hx, h', hy, d1, d1', d2, d3, wdC, c5, c6, w2, d6])) | (refine callS_mk ?_; (try simp -implicitDefEqProofs [-loopQ_n, h, hx, h', hy, d1, d1', d2, d3, wdC, c5, c6, w2, d6]); (first | refine callS_intro (hQ) (.inl rfl) ?_ | refine callS_intro (hC) (.inl rfl) ?_); (try simp -implicitDefEqProofs [-loopQ_n, h, hx, h', hy, d1, d1', d2, d3, wdC, c5, c6, w2, d6])))))
        · have hb : badW l i = false := by
            simp [badW, hxl, hyl, hc, d1, d2, d3, d4]
            omega
          ((try simp -implicitDefEqProofs [-loopQ_n, h, hx, h', hy, d1, d1', d2, d3, wdC, c5, c6, w2, d6]) <;> (repeat' (first | (refine condD_dec ?_ ?_ <;> (intro hc; (try simp -implicitDefEqProofs [-loopQ_n, hc, h, hx, h', hy, d1, d1', d2, d3, wdC, c5, c6, w2, d6]))) | (refine guardD_dec ?_ ?_ <;> (intro hc; (try simp -implicitDefEqProofs [-loopQ_n, hc, h, hx, h', hy, d1, d1', d2, d3, wdC, c5, c6, w2, d6]))) | (refine condD_intro ?_ ?_ <;> (intro hd; have hc := hd; (try simp at hc) <;> (try simp -implicitDefEqProofs [-loopQ_n, hd, hc, h, hx, h', hy, d1, d1', d2, d3, wdC, c5, c6, w2, d6]))) | (refine guardD_intro ?_ ?_ <;> (intro hd; have hc := hd; (try simp at hc) <;> (try simp -implicitDefEqProofs [-loopQ_n, hd, hc, h, hx, h', hy, d1, d1', d2, d3, wdC, c5, c6, w2, d6]))) | (refine ldD_ep ?_ ?_; (focus kernel_rfl); (try simp -implicitDefEqProofs [-loopQ_n, h, hx, h', hy, d1, d1', d2, d3, wdC, c5, c6, w2, d6])) | (refine callS_mk ?_; (try simp -implicitDefEqProofs [-loopQ_n, h, hx, h', hy, d1, d1', d2, d3, wdC, c5, c6, w2, d6]); (first | refine callS_intro (hQ) (.inl rfl) ?_ | refine callS_intro (hC) (.inl rfl) ?_); (try simp -implicitDefEqProofs [-loopQ_n, h, hx, h', hy, d1, d1', d2, d3, wdC, c5, c6, w2, d6])))))
          refine loop_next (i + 1) ⟨by omega, hyes hb⟩ (by omega) (weak_of 0 0 rfl rfl ?_ ?_) <;> simp [w1]
  · have hv : validW l = true := validW_of fun j hj => hok j hj (by omega)
    rw [hR] at hv
    subst hv
    ((try simp -implicitDefEqProofs [-loopQ_n, h]) <;> (repeat' (first | (refine condD_dec ?_ ?_ <;> (intro hc; (try simp -implicitDefEqProofs [-loopQ_n, hc, h]))) | (refine guardD_dec ?_ ?_ <;> (intro hc; (try simp -implicitDefEqProofs [-loopQ_n, hc, h]))) | (refine condD_intro ?_ ?_ <;> (intro hd; have hc := hd; (try simp at hc) <;> (try simp -implicitDefEqProofs [-loopQ_n, hd, hc, h]))) | (refine guardD_intro ?_ ?_ <;> (intro hd; have hc := hd; (try simp at hc) <;> (try simp -implicitDefEqProofs [-loopQ_n, hd, hc, h]))) | (refine ldD_ep ?_ ?_; (focus kernel_rfl); (try simp -implicitDefEqProofs [-loopQ_n, h])))))
/-! Keeping k. -/
theorem entry_pure (k : Int) : Pure Try.prog 49 [.int .i64 k] (.bool (decide (1 ≤ k ∧ k ≤ 1048576))) := by
  by_cases h1 : 1 ≤ k
  · by_cases h2 : k ≤ 1048576
    · skip
      refine pure_of mixed Try.func49 rfl (by kernel_rfl) (of_decide_eq_true rfl) (by kernel_rfl) (vc_run ?_)
      ((try simp -implicitDefEqProofs [-loopQ_n, h1, h2]) <;> (repeat' (first | (refine condD_dec ?_ ?_ <;> (intro hc; (try simp -implicitDefEqProofs [-loopQ_n, hc, h1, h2]))) | (refine guardD_dec ?_ ?_ <;> (intro hc; (try simp -implicitDefEqProofs [-loopQ_n, hc, h1, h2]))) | (refine condD_intro ?_ ?_ <;> (intro hd; have hc := hd; (try simp at hc) <;> (try simp -implicitDefEqProofs [-loopQ_n, hd, hc, h1, h2]))) | (refine guardD_intro ?_ ?_ <;> (intro hd; have hc := hd; (try simp at hc) <;> (try simp -implicitDefEqProofs [-loopQ_n, hd, hc, h1, h2]))) | (refine ldD_ep ?_ ?_; (focus kernel_rfl); (try simp -implicitDefEqProofs [-loopQ_n, h1, h2])))))
    · skip
      refine pure_of mixed Try.func49 rfl (by kernel_rfl) (of_decide_eq_true rfl) (by kernel_rfl) (vc_run ?_)
      ((try simp -implicitDefEqProofs [-loopQ_n, h1, h2]) <;> (repeat' (first | (refine condD_dec ?_ ?_ <;> (intro hc; (try simp -implicitDefEqProofs [-loopQ_n, hc, h1, h2]))) | (refine guardD_dec ?_ ?_ <;> (intro hc; (try simp -implicitDefEqProofs [-loopQ_n, hc, h1, h2]))) | (refine condD_intro ?_ ?_ <;> (intro hd; have hc := hd; (try simp at hc) <;> (try simp -implicitDefEqProofs [-loopQ_n, hd, hc, h1, h2]))) | (refine guardD_intro ?_ ?_ <;> (intro hd; have hc := hd; (try simp at hc) <;> (try simp -implicitDefEqProofs [-loopQ_n, hd, hc, h1, h2]))) | (refine ldD_ep ?_ ?_; (focus kernel_rfl); (try simp -implicitDefEqProofs [-loopQ_n, h1, h2])))))
  · skip
    refine pure_of mixed Try.func49 rfl (by kernel_rfl) (of_decide_eq_true rfl) (by kernel_rfl) (vc_run ?_)
    ((try simp -implicitDefEqProofs [-loopQ_n, h1]) <;> (repeat' (first | (refine condD_dec ?_ ?_ <;> (intro hc; (try simp -implicitDefEqProofs [-loopQ_n, hc, h1]))) | (refine guardD_dec ?_ ?_ <;> (intro hc; (try simp -implicitDefEqProofs [-loopQ_n, hc, h1]))) | (refine condD_intro ?_ ?_ <;> (intro hd; have hc := hd; (try simp at hc) <;> (try simp -implicitDefEqProofs [-loopQ_n, hd, hc, h1]))) | (refine guardD_intro ?_ ?_ <;> (intro hd; have hc := hd; (try simp at hc) <;> (try simp -implicitDefEqProofs [-loopQ_n, hd, hc, h1]))) | (refine ldD_ep ?_ ?_; (focus kernel_rfl); (try simp -implicitDefEqProofs [-loopQ_n, h1])))))
theorem rentry_pure (k : Int) : Pure Try.prog 55 [.int .i64 k] (.bool (decide (1 ≤ k ∧ k ≤ 1048576))) := by
  by_cases h1 : 1 ≤ k
  · by_cases h2 : k ≤ 1048576
    · skip
      refine pure_of mixed Try.func55 rfl (by kernel_rfl) (of_decide_eq_true rfl) (by kernel_rfl) (vc_run ?_)
      ((try simp -implicitDefEqProofs [-loopQ_n, h1, h2]) <;> (repeat' (first | (refine condD_dec ?_ ?_ <;> (intro hc; (try simp -implicitDefEqProofs [-loopQ_n, hc, h1, h2]))) | (refine guardD_dec ?_ ?_ <;> (intro hc; (try simp -implicitDefEqProofs [-loopQ_n, hc, h1, h2]))) | (refine condD_intro ?_ ?_ <;> (intro hd; have hc := hd; (try simp at hc) <;> (try simp -implicitDefEqProofs [-loopQ_n, hd, hc, h1, h2]))) | (refine guardD_intro ?_ ?_ <;> (intro hd; have hc := hd; (try simp at hc) <;> (try simp -implicitDefEqProofs [-loopQ_n, hd, hc, h1, h2]))) | (refine ldD_ep ?_ ?_; (focus kernel_rfl); (try simp -implicitDefEqProofs [-loopQ_n, h1, h2])))))
    · skip
      refine pure_of mixed Try.func55 rfl (by kernel_rfl) (of_decide_eq_true rfl) (by kernel_rfl) (vc_run ?_)
      ((try simp -implicitDefEqProofs [-loopQ_n, h1, h2]) <;> (repeat' (first | (refine condD_dec ?_ ?_ <;> (intro hc; (try simp -implicitDefEqProofs [-loopQ_n, hc, h1, h2]))) | (refine guardD_dec ?_ ?_ <;> (intro hc; (try simp -implicitDefEqProofs [-loopQ_n, hc, h1, h2]))) | (refine condD_intro ?_ ?_ <;> (intro hd; have hc := hd; (try simp at hc) <;> (try simp -implicitDefEqProofs [-loopQ_n, hd, hc, h1, h2]))) | (refine guardD_intro ?_ ?_ <;> (intro hd; have hc := hd; (try simp at hc) <;> (try simp -implicitDefEqProofs [-loopQ_n, hd, hc, h1, h2]))) | (refine ldD_ep ?_ ?_; (focus kernel_rfl); (try simp -implicitDefEqProofs [-loopQ_n, h1, h2])))))
  · skip
    refine pure_of mixed Try.func55 rfl (by kernel_rfl) (of_decide_eq_true rfl) (by kernel_rfl) (vc_run ?_)
    ((try simp -implicitDefEqProofs [-loopQ_n, h1]) <;> (repeat' (first | (refine condD_dec ?_ ?_ <;> (intro hc; (try simp -implicitDefEqProofs [-loopQ_n, hc, h1]))) | (refine guardD_dec ?_ ?_ <;> (intro hc; (try simp -implicitDefEqProofs [-loopQ_n, hc, h1]))) | (refine condD_intro ?_ ?_ <;> (intro hd; have hc := hd; (try simp at hc) <;> (try simp -implicitDefEqProofs [-loopQ_n, hd, hc, h1]))) | (refine guardD_intro ?_ ?_ <;> (intro hd; have hc := hd; (try simp at hc) <;> (try simp -implicitDefEqProofs [-loopQ_n, hd, hc, h1]))) | (refine ldD_ep ?_ ?_; (focus kernel_rfl); (try simp -implicitDefEqProofs [-loopQ_n, h1])))))
theorem keeps1_pure (v : Wd) (k : Int) : Pure Try.prog 70 [.agg (wdC v), .rp [.int .i64 k]] (.bool (decide (v.n < k))) := by
  unfold wdC
  refine pure_of mixed Try.func70 rfl (by kernel_rfl) (of_decide_eq_true rfl) (by kernel_rfl) (vc_run ?_)
  ((try simp -implicitDefEqProofs [-loopQ_n]) <;> (repeat' (first | (refine condD_dec ?_ ?_ <;> (intro hc; (try simp -implicitDefEqProofs [-loopQ_n, hc]))) | (refine guardD_dec ?_ ?_ <;> (intro hc; (try simp -implicitDefEqProofs [-loopQ_n, hc]))) | (refine condD_intro ?_ ?_ <;> (intro hd; have hc := hd; (try simp at hc) <;> (try simp -implicitDefEqProofs [-loopQ_n, hd, hc]))) | (refine guardD_intro ?_ ?_ <;> (intro hd; have hc := hd; (try simp at hc) <;> (try simp -implicitDefEqProofs [-loopQ_n, hd, hc]))) | (refine ldD_ep ?_ ?_; (focus kernel_rfl); (try simp -implicitDefEqProofs [-loopQ_n])))))
def keepsR (l : List Wd) (k : Int) : Bool × Int := if validW l = false then (false, 1) else if ¬ (1 ≤ k ∧ k ≤ 1048576) then (false, 2) else (l.all fun v => !decide (v.n < k), 0)
def keepsV (R : Bool × Int) : AV := .tup [.bool R.1, .int .i64 R.2]
theorem keeps_pure (l : List Wd) (k : Int) (hl : l.length ≤ 300) (hw : ∀ v ∈ l, wdI v) : Pure Try.prog 34 [.rs (rowsOf wdC l), .int .i64 k] (keepsV (keepsR l k)) := by
  have hV := valid_pure l hl hw
  have hE := entry_pure k
  have hK := pubF_any (p := fun v => decide (v.n < k)) (l := l) (g := 70) (caps := [.rp [.int .i64 k]]) (fun x _ => keeps1_pure x k) (fun H k => by simp [reify]) (by simp [refsL, refs]) (by omega)
  unfold keepsR keepsV
  cases hv : validW l with
  | false =>
    rw [hv] at hV
    refine pure_of mixed Try.func34 rfl (by kernel_rfl) (of_decide_eq_true rfl) (by kernel_rfl) (vc_run ?_)
    ((try simp -implicitDefEqProofs [-loopQ_n]) <;> (repeat' (first | (refine condD_dec ?_ ?_ <;> (intro hc; (try simp -implicitDefEqProofs [-loopQ_n, hc]))) | (refine guardD_dec ?_ ?_ <;> (intro hc; (try simp -implicitDefEqProofs [-loopQ_n, hc]))) | (refine condD_intro ?_ ?_ <;> (intro hd; have hc := hd; (try simp at hc) <;> (try simp -implicitDefEqProofs [-loopQ_n, hd, hc]))) | (refine guardD_intro ?_ ?_ <;> (intro hd; have hc := hd; (try simp at hc) <;> (try simp -implicitDefEqProofs [-loopQ_n, hd, hc]))) | (refine ldD_ep ?_ ?_; (focus kernel_rfl); (try simp -implicitDefEqProofs [-loopQ_n])) | (refine callS_mk ?_; (try simp -implicitDefEqProofs [-loopQ_n]); (first | refine callS_intro (hV) (.inl rfl) ?_); (try simp -implicitDefEqProofs [-loopQ_n])))))
  | true =>
    rw [hv] at hV
    by_cases h1 : 1 ≤ k ∧ k ≤ 1048576
    · have h2 : decide (1 ≤ k ∧ k ≤ 1048576) = true := by simpa using h1
      rw [h2] at hE
      rw [show (l.all fun v => !decide (v.n < k)) = !(l.any fun v => decide (v.n < k)) by rw [List.any_eq_not_all_not, Bool.not_not]]
      generalize (l.any fun v => decide (v.n < k)) = b at *
      rw [if_neg (by simp), if_neg (by simpa using h1)]
      refine pure_of mixed Try.func34 rfl (by kernel_rfl) (of_decide_eq_true rfl) (by kernel_rfl) (vc_run ?_)
      ((try simp -implicitDefEqProofs [-loopQ_n]) <;> (repeat' (first | (refine condD_dec ?_ ?_ <;> (intro hc; (try simp -implicitDefEqProofs [-loopQ_n, hc]))) | (refine guardD_dec ?_ ?_ <;> (intro hc; (try simp -implicitDefEqProofs [-loopQ_n, hc]))) | (refine condD_intro ?_ ?_ <;> (intro hd; have hc := hd; (try simp at hc) <;> (try simp -implicitDefEqProofs [-loopQ_n, hd, hc]))) | (refine guardD_intro ?_ ?_ <;> (intro hd; have hc := hd; (try simp at hc) <;> (try simp -implicitDefEqProofs [-loopQ_n, hd, hc]))) | (refine ldD_ep ?_ ?_; (focus kernel_rfl); (try simp -implicitDefEqProofs [-loopQ_n])) | (refine callS_mk ?_; (try simp -implicitDefEqProofs [-loopQ_n]); (first | refine callS_intro (hV) (.inl rfl) ?_ | refine callS_intro (hE) (.inl rfl) ?_ | refine callS_intro (hK) (.inl rfl) ?_); (try simp -implicitDefEqProofs [-loopQ_n])))))
    · have h2 : decide (1 ≤ k ∧ k ≤ 1048576) = false := by simpa using h1
      rw [h2] at hE
      rw [if_neg (by simp), if_pos h1]
      refine pure_of mixed Try.func34 rfl (by kernel_rfl) (of_decide_eq_true rfl) (by kernel_rfl) (vc_run ?_)
      ((try simp -implicitDefEqProofs [-loopQ_n]) <;> (repeat' (first | (refine condD_dec ?_ ?_ <;> (intro hc; (try simp -implicitDefEqProofs [-loopQ_n, hc]))) | (refine guardD_dec ?_ ?_ <;> (intro hc; (try simp -implicitDefEqProofs [-loopQ_n, hc]))) | (refine condD_intro ?_ ?_ <;> (intro hd; have hc := hd; (try simp at hc) <;> (try simp -implicitDefEqProofs [-loopQ_n, hd, hc]))) | (refine guardD_intro ?_ ?_ <;> (intro hd; have hc := hd; (try simp at hc) <;> (try simp -implicitDefEqProofs [-loopQ_n, hd, hc]))) | (refine ldD_ep ?_ ?_; (focus kernel_rfl); (try simp -implicitDefEqProofs [-loopQ_n])) | (refine callS_mk ?_; (try simp -implicitDefEqProofs [-loopQ_n]); (first | refine callS_intro (hV) (.inl rfl) ?_ | refine callS_intro (hE) (.inl rfl) ?_); (try simp -implicitDefEqProofs [-loopQ_n])))))
theorem rkeeps_pure (l : List Wd) (k : Int) (hl : l.length ≤ 300) (hw : ∀ v ∈ l, wdI v) : Pure Try.prog 39 [.rs (rowsOf wdC l), .int .i64 k] (keepsV (keepsR l k)) := by
  have hV := rvalid_pure l hl hw
  have hE := rentry_pure k
  unfold keepsR keepsV
  cases hv : validW l with
  | false =>
    rw [hv] at hV
    refine pure_of mixed Try.func39 rfl (by kernel_rfl) (of_decide_eq_true rfl) (by kernel_rfl) (vc_run ?_)
    ((try simp -implicitDefEqProofs [-loopQ_n]) <;> (repeat' (first | (refine condD_dec ?_ ?_ <;> (intro hc; (try simp -implicitDefEqProofs [-loopQ_n, hc]))) | (refine guardD_dec ?_ ?_ <;> (intro hc; (try simp -implicitDefEqProofs [-loopQ_n, hc]))) | (refine condD_intro ?_ ?_ <;> (intro hd; have hc := hd; (try simp at hc) <;> (try simp -implicitDefEqProofs [-loopQ_n, hd, hc]))) | (refine guardD_intro ?_ ?_ <;> (intro hd; have hc := hd; (try simp at hc) <;> (try simp -implicitDefEqProofs [-loopQ_n, hd, hc]))) | (refine ldD_ep ?_ ?_; (focus kernel_rfl); (try simp -implicitDefEqProofs [-loopQ_n])) | (refine callS_mk ?_; (try simp -implicitDefEqProofs [-loopQ_n]); (first | refine callS_intro (hV) (.inl rfl) ?_); (try simp -implicitDefEqProofs [-loopQ_n])))))
  | true =>
    rw [hv] at hV
    by_cases h1 : 1 ≤ k ∧ k ≤ 1048576
    · have h2 : decide (1 ≤ k ∧ k ≤ 1048576) = true := by simpa using h1
      rw [h2] at hE
      rw [if_neg (by simp), if_neg (by simpa using h1)]
      obtain ⟨b, hb⟩ : ∃ b, (l.all fun v => !decide (v.n < k)) = b := ⟨_, rfl⟩
      rw [hb]
      refine pure_of mixed Try.func39 rfl (by kernel_rfl) (of_decide_eq_true rfl) (by kernel_rfl) (vc_run ?_)
      ((try simp -implicitDefEqProofs [-loopQ_n]) <;> (repeat' (first | (refine condD_dec ?_ ?_ <;> (intro hc; (try simp -implicitDefEqProofs [-loopQ_n, hc]))) | (refine guardD_dec ?_ ?_ <;> (intro hc; (try simp -implicitDefEqProofs [-loopQ_n, hc]))) | (refine condD_intro ?_ ?_ <;> (intro hd; have hc := hd; (try simp at hc) <;> (try simp -implicitDefEqProofs [-loopQ_n, hd, hc]))) | (refine guardD_intro ?_ ?_ <;> (intro hd; have hc := hd; (try simp at hc) <;> (try simp -implicitDefEqProofs [-loopQ_n, hd, hc]))) | (refine ldD_ep ?_ ?_; (focus kernel_rfl); (try simp -implicitDefEqProofs [-loopQ_n])) | (refine callS_mk ?_; (try simp -implicitDefEqProofs [-loopQ_n]); (first | refine callS_intro (hV) (.inl rfl) ?_ | refine callS_intro (hE) (.inl rfl) ?_); (try simp -implicitDefEqProofs [-loopQ_n])))))
      refine loop_intro (σ := Nat) (fun i => ⟨[(0, .rs (rowsOf wdC l)), (1, .int .i64 k), (6, .int .i64 i)], []⟩)
        (fun i => i ≤ l.length ∧ ((l.drop i).all fun v => !decide (v.n < k)) = b) (fun i => l.length - i) 0 ⟨by simp, by simpa using hb⟩ ?_ ?_
      · refine weak_of 0 0 rfl rfl ?_ ?_ <;> simp
      rintro i ⟨hi, hR⟩
      by_cases h : i < l.length
      · have w1 : wrapI .i64 ((i : Int) + 1) = (i : Int) + 1 := wrap_in (by omega) (by omega)
        obtain ⟨⟨A, n⟩, hx⟩ : ∃ x, l[i] = x := ⟨_, rfl⟩
        rw [List.drop_eq_getElem_cons h, List.all_cons, hx] at hR
        by_cases c : n < k
        · have : b = false := by rw [← hR]; simp [c]
          subst this
          ((try simp -implicitDefEqProofs [-loopQ_n, h, hx, wdC, c]) <;> (repeat' (first | (refine condD_dec ?_ ?_ <;> (intro hc; (try simp -implicitDefEqProofs [-loopQ_n, hc, h, hx, wdC, c]))) | (refine guardD_dec ?_ ?_ <;> (intro hc; (try simp -implicitDefEqProofs [-loopQ_n, hc, h, hx, wdC, c]))) | (refine condD_intro ?_ ?_ <;> (intro hd; have hc := hd; (try simp at hc) <;> (try simp -implicitDefEqProofs [-loopQ_n, hd, hc, h, hx, wdC, c]))) | (refine guardD_intro ?_ ?_ <;> (intro hd; have hc := hd; (try simp at hc) <;> (try simp -implicitDefEqProofs [-loopQ_n, hd, hc, h, hx, wdC, c]))) | (refine ldD_ep ?_ ?_; (focus kernel_rfl); (try simp -implicitDefEqProofs [-loopQ_n, h, hx, wdC, c])))))
        · have hR2 : ((l.drop (i + 1)).all fun v => !decide (v.n < k)) = b := by rw [← hR]; simp [c]
          ((try simp -implicitDefEqProofs [-loopQ_n, h, hx, wdC, c]) <;> (repeat' (first | (refine condD_dec ?_ ?_ <;> (intro hc; (try simp -implicitDefEqProofs [-loopQ_n, hc, h, hx, wdC, c]))) | (refine guardD_dec ?_ ?_ <;> (intro hc; (try simp -implicitDefEqProofs [-loopQ_n, hc, h, hx, wdC, c]))) | (refine condD_intro ?_ ?_ <;> (intro hd; have hc := hd; (try simp at hc) <;> (try simp -implicitDefEqProofs [-loopQ_n, hd, hc, h, hx, wdC, c]))) | (refine guardD_intro ?_ ?_ <;> (intro hd; have hc := hd; (try simp at hc) <;> (try simp -implicitDefEqProofs [-loopQ_n, hd, hc, h, hx, wdC, c]))) | (refine ldD_ep ?_ ?_; (focus kernel_rfl); (try simp -implicitDefEqProofs [-loopQ_n, h, hx, wdC, c])))))
          refine loop_next (i + 1) ⟨by omega, hR2⟩ (by omega) (weak_of 0 0 rfl rfl ?_ ?_) <;> simp [w1]
      · rw [List.drop_eq_nil_of_le (by omega)] at hR
        have : b = true := by rw [← hR]; rfl
        subst this
        ((try simp -implicitDefEqProofs [-loopQ_n, h]) <;> (repeat' (first | (refine condD_dec ?_ ?_ <;> (intro hc; (try simp -implicitDefEqProofs [-loopQ_n, hc, h]))) | (refine guardD_dec ?_ ?_ <;> (intro hc; (try simp -implicitDefEqProofs [-loopQ_n, hc, h]))) | (refine condD_intro ?_ ?_ <;> (intro hd; have hc := hd; (try simp at hc) <;> (try simp -implicitDefEqProofs [-loopQ_n, hd, hc, h]))) | (refine guardD_intro ?_ ?_ <;> (intro hd; have hc := hd; (try simp at hc) <;> (try simp -implicitDefEqProofs [-loopQ_n, hd, hc, h]))) | (refine ldD_ep ?_ ?_; (focus kernel_rfl); (try simp -implicitDefEqProofs [-loopQ_n, h])))))
    · have h2 : decide (1 ≤ k ∧ k ≤ 1048576) = false := by simpa using h1
      rw [h2] at hE
      rw [if_neg (by simp), if_pos h1]
      refine pure_of mixed Try.func39 rfl (by kernel_rfl) (of_decide_eq_true rfl) (by kernel_rfl) (vc_run ?_)
      ((try simp -implicitDefEqProofs [-loopQ_n]) <;> (repeat' (first | (refine condD_dec ?_ ?_ <;> (intro hc; (try simp -implicitDefEqProofs [-loopQ_n, hc]))) | (refine guardD_dec ?_ ?_ <;> (intro hc; (try simp -implicitDefEqProofs [-loopQ_n, hc]))) | (refine condD_intro ?_ ?_ <;> (intro hd; have hc := hd; (try simp at hc) <;> (try simp -implicitDefEqProofs [-loopQ_n, hd, hc]))) | (refine guardD_intro ?_ ?_ <;> (intro hd; have hc := hd; (try simp at hc) <;> (try simp -implicitDefEqProofs [-loopQ_n, hd, hc]))) | (refine ldD_ep ?_ ?_; (focus kernel_rfl); (try simp -implicitDefEqProofs [-loopQ_n])) | (refine callS_mk ?_; (try simp -implicitDefEqProofs [-loopQ_n]); (first | refine callS_intro (hV) (.inl rfl) ?_ | refine callS_intro (hE) (.inl rfl) ?_); (try simp -implicitDefEqProofs [-loopQ_n])))))
end Go.Proofs.Ytkppfaennogcmaa
