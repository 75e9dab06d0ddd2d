/- Calendars: the reference's walks. -/
import Derived.Test.YtfbpjlabhckoeaaGreatClk2
namespace Go.Proofs.YtfbpjlabhckoeaaGreat
set_option linter.unusedSimpArgs false
set_option linter.unusedVariables false
set_option linter.unnecessarySimpa false
set_option linter.unusedSectionVars false
open Go.RowKit
variable [Glob]
set_option maxRecDepth 100000
theorem rvalidSpan_pure (f t : Int) : Pure Tryz.prog 27 [.agg [.int .i64 f, .int .i64 t]] (.bool (spV ⟨f, t⟩)) := by
  refine pure_of mixed Tryz.func27 rfl (by kernel_rfl) (of_decide_eq_true rfl) (by kernel_rfl) (vc_run ?_)
  ((try simp -implicitDefEqProofs [-loopQ_n]) <;> (repeat' (first | (refine condD_dec ?_ ?_ <;> (intro hc; (try simp -implicitDefEqProofs [-loopQ_n, hc]))) | (refine guardD_dec ?_ ?_ <;> (intro hc; (try simp -implicitDefEqProofs [-loopQ_n, hc]))) | (refine condD_intro ?_ ?_ <;> (intro hd; have hc := hd; (try simp at hc) <;> (try simp -implicitDefEqProofs [-loopQ_n, hd, hc]))) | (refine guardD_intro ?_ ?_ <;> (intro hd; have hc := hd; (try simp at hc) <;> (try simp -implicitDefEqProofs [-loopQ_n, hd, hc]))) | (refine ldD_ep ?_ ?_; (focus kernel_rfl); (try simp -implicitDefEqProofs [-loopQ_n]))))) <;> simp [spV, *]
theorem rweek_pure (f t : Int) : Pure Tryz.prog 63 [.agg [.int .i64 f, .int .i64 t]] (.bool (wkV ⟨f, t⟩)) := by
  refine pure_of mixed Tryz.func63 rfl (by kernel_rfl) (of_decide_eq_true rfl) (by kernel_rfl) (vc_run ?_)
  ((try simp -implicitDefEqProofs [-loopQ_n]) <;> (repeat' (first | (refine condD_dec ?_ ?_ <;> (intro hc; (try simp -implicitDefEqProofs [-loopQ_n, hc]))) | (refine guardD_dec ?_ ?_ <;> (intro hc; (try simp -implicitDefEqProofs [-loopQ_n, hc]))) | (refine condD_intro ?_ ?_ <;> (intro hd; have hc := hd; (try simp at hc) <;> (try simp -implicitDefEqProofs [-loopQ_n, hd, hc]))) | (refine guardD_intro ?_ ?_ <;> (intro hd; have hc := hd; (try simp at hc) <;> (try simp -implicitDefEqProofs [-loopQ_n, hd, hc]))) | (refine ldD_ep ?_ ?_; (focus kernel_rfl); (try simp -implicitDefEqProofs [-loopQ_n])) | (refine callS_mk ?_; (try simp -implicitDefEqProofs [-loopQ_n]); (first | refine callS_intro (rvalidSpan_pure _ _) (.inl rfl) ?_); (try simp -implicitDefEqProofs [-loopQ_n]))))) <;> simp [wkV, *]
set_option maxHeartbeats 8000000 in
theorem rvalid_pure (l : List Sp) : Pure Tryz.prog 42 [.agg [.rs (rowsOf spC l)]] (.bool (calOk l)) := by
  refine pure_of mixed Tryz.func42 rfl (by kernel_rfl) (of_decide_eq_true rfl) (by kernel_rfl) (vc_run ?_)
  ((try simp -implicitDefEqProofs [-loopQ_n]) <;> (repeat' (first | (refine condD_dec ?_ ?_ <;> (intro hc; (try simp -implicitDefEqProofs [-loopQ_n, hc]))) | (refine guardD_dec ?_ ?_ <;> (intro hc; (try simp -implicitDefEqProofs [-loopQ_n, hc]))) | (refine condD_intro ?_ ?_ <;> (intro hd; have hc := hd; (try simp at hc) <;> (try simp -implicitDefEqProofs [-loopQ_n, hd, hc]))) | (refine guardD_intro ?_ ?_ <;> (intro hd; have hc := hd; (try simp at hc) <;> (try simp -implicitDefEqProofs [-loopQ_n, hd, hc]))) | (refine ldD_ep ?_ ?_; (focus kernel_rfl); (try simp -implicitDefEqProofs [-loopQ_n])))))
  · simp [calOk]; omega
  have hlen := ‹¬ (100 : Int) < l.length›
  have hno : calV (-1) l = false → calOk l = false := fun h => by simp [calOk, h]
  have hyes : calV (-1) l = true → calOk l = true := fun h => by simp [calOk, h]; omega
  refine loop_intro (σ := Nat) (fun i => ⟨[(1, .op 0 0), (3, .int .i64 i)], [.box 25 [.rs (rowsOf spC l)]]⟩) (fun i => i ≤ l.length ∧ calV (prevT l i) (l.drop i) = calV (-1) l) (fun i => l.length - i) 0 ⟨by omega, rfl⟩ ?_ ?_
  · refine weak_of 1 0 rfl rfl ?_ ?_ <;> simp
  · rintro i ⟨hi, hR⟩
    by_cases h : i < l.length
    · have hgo : l[i]? = some l[i] := List.getElem?_eq_getElem h
      obtain ⟨⟨f, t⟩, hf⟩ : ∃ e, l[i] = e := ⟨_, rfl⟩
      rw [List.drop_eq_getElem_cons h, hf] at hR
      have hp1 : prevT l (i + 1) = t := by simp [prevT, hgo, hf]
      have hnx : wkV ⟨f, t⟩ = true → prevT l i < f → calV (prevT l (i + 1)) (l.drop (i + 1)) = calV (-1) l := fun h1 h2 => by rw [hp1, ← hR, calV, h1, decide_eq_true h2]; simp
      have hbd : (wkV ⟨f, t⟩ = false ∨ ¬ prevT l i < f) → calOk l = false := fun h1 => hno (by rw [← hR, calV]; rcases h1 with h1 | h1 <;> simp [h1])
      cases i with
      | zero =>
        have h' : (0 : Int) < l.length := by omega
        ((try simp -implicitDefEqProofs [-loopQ_n, h, h', hf, spC]) <;> (repeat' (first | (simp (disch := omega) only [wrap_in, if_pos, if_neg] <;> (try simp -implicitDefEqProofs [-loopQ_n, h, h', hf, spC])) | (refine condD_dec ?_ ?_ <;> (intro hc; (try simp -implicitDefEqProofs [-loopQ_n, hc, h, h', hf, spC]))) | (refine guardD_dec ?_ ?_ <;> (intro hc; (try simp -implicitDefEqProofs [-loopQ_n, hc, h, h', hf, spC]))) | (refine condD_intro ?_ ?_ <;> (intro hd; have hc := hd; (try simp at hc) <;> (try simp -implicitDefEqProofs [-loopQ_n, hd, hc, h, h', hf, spC]))) | (refine guardD_intro ?_ ?_ <;> (intro hd; have hc := hd; (try simp at hc) <;> (try simp -implicitDefEqProofs [-loopQ_n, hd, hc, h, h', hf, spC]))) | (refine ldD_ep ?_ ?_; (focus kernel_rfl); (try simp -implicitDefEqProofs [-loopQ_n, h, h', hf, spC])) | (refine callS_mk ?_; (try simp -implicitDefEqProofs [-loopQ_n, h, h', hf, spC]); (first | refine callS_intro (rweek_pure _ _) (.inl rfl) ?_); (try simp -implicitDefEqProofs [-loopQ_n, h, h', hf, spC])))))
        · have hw : wkV ⟨f, t⟩ = true := ‹_›
          refine loop_next 1 ⟨by omega, hnx hw ?_⟩ (by omega) (weak_of 1 0 rfl rfl ?_ ?_)
          · simp only [wkV, spV, Bool.and_eq_true, decide_eq_true_eq] at hw
            simp only [prevT]; omega
          · simp
          · simp
        · exact hbd (.inl ‹_›)
      | succ j =>
        have hj : j < l.length := by omega
        obtain ⟨⟨f2, t2⟩, hf2⟩ : ∃ e, l[j] = e := ⟨_, rfl⟩
        have hgj : l[j]? = some ⟨f2, t2⟩ := by rw [List.getElem?_eq_getElem hj, hf2]
        have hpj : prevT l (j + 1) = t2 := by simp [prevT, hgj]
        have h' : (j : Int) + 1 < l.length := by omega
        ((try simp -implicitDefEqProofs [-loopQ_n, h, h', hf, spC, hj, hf2, hgj]) <;> (repeat' (first | (simp (disch := omega) only [wrap_in, if_pos, if_neg] <;> (try simp -implicitDefEqProofs [-loopQ_n, h, h', hf, spC, hj, hf2, hgj])) | (refine condD_dec ?_ ?_ <;> (intro hc; (try simp -implicitDefEqProofs [-loopQ_n, hc, h, h', hf, spC, hj, hf2, hgj]))) | (refine guardD_dec ?_ ?_ <;> (intro hc; (try simp -implicitDefEqProofs [-loopQ_n, hc, h, h', hf, spC, hj, hf2, hgj]))) | (refine condD_intro ?_ ?_ <;> (intro hd; have hc := hd; (try simp at hc) <;> (try simp -implicitDefEqProofs [-loopQ_n, hd, hc, h, h', hf, spC, hj, hf2, hgj]))) | (refine guardD_intro ?_ ?_ <;> (intro hd; have hc := hd; (try simp at hc) <;> (try simp -implicitDefEqProofs [-loopQ_n, hd, hc, h, h', hf, spC, hj, hf2, hgj]))) | (refine ldD_ep ?_ ?_; (focus kernel_rfl); (try simp -implicitDefEqProofs [-loopQ_n, h, h', hf, spC, hj, hf2, hgj])) | (refine callS_mk ?_; (try simp -implicitDefEqProofs [-loopQ_n, h, h', hf, spC, hj, hf2, hgj]); (first | refine callS_intro (rweek_pure _ _) (.inl rfl) ?_); (try simp -implicitDefEqProofs [-loopQ_n, h, h', hf, spC, hj, hf2, hgj])))))
        · exact hbd (.inr (by omega))
        · refine loop_next (j + 1 + 1) ⟨by omega, hnx ‹_› (by omega)⟩ (by omega) (weak_of 1 0 rfl rfl ?_ ?_) <;> simp
        · exact hbd (.inl ‹_›)
    · rw [List.drop_eq_nil_of_le (by omega), calV] at hR
      ((try simp -implicitDefEqProofs [-loopQ_n, h]) <;> (repeat' (first | (refine condD_dec ?_ ?_ <;> (intro hc; (try simp -implicitDefEqProofs [-loopQ_n, hc, h]))) | (refine guardD_dec ?_ ?_ <;> (intro hc; (try simp -implicitDefEqProofs [-loopQ_n, hc, h]))) | (refine condD_intro ?_ ?_ <;> (intro hd; have hc := hd; (try simp at hc) <;> (try simp -implicitDefEqProofs [-loopQ_n, hd, hc, h]))) | (refine guardD_intro ?_ ?_ <;> (intro hd; have hc := hd; (try simp at hc) <;> (try simp -implicitDefEqProofs [-loopQ_n, hd, hc, h]))) | (refine ldD_ep ?_ ?_; (focus kernel_rfl); (try simp -implicitDefEqProofs [-loopQ_n, h])))))
      exact hyes hR.symm
set_option maxHeartbeats 8000000 in
theorem rbefore_pure (l : List Sp) (w : Int) (hv : calOk l = true) (hw : 0 ≤ w ∧ w ≤ 10080) : Pure Tryz.prog 87 [.agg [.rs (rowsOf spC l)], .int .i64 w] (.int .i64 (befL w l)) := by
  obtain ⟨hln, hc⟩ := calOk_v hv
  have hbd := befL_len w hw.1 l fun s hs => by have := calV_mem hc hs; exact ⟨this.1, this.2.1⟩
  have hbd2 : w * l.length ≤ 10080 * 100 := Int.mul_le_mul hw.2 (by omega) (by omega) (by omega)
  refine pure_of mixed Tryz.func87 rfl (by kernel_rfl) (of_decide_eq_true rfl) (by kernel_rfl) (vc_run ?_)
  ((try simp -implicitDefEqProofs [-loopQ_n]) <;> (repeat' (first | (refine condD_dec ?_ ?_ <;> (intro hc; (try simp -implicitDefEqProofs [-loopQ_n, hc]))) | (refine guardD_dec ?_ ?_ <;> (intro hc; (try simp -implicitDefEqProofs [-loopQ_n, hc]))) | (refine condD_intro ?_ ?_ <;> (intro hd; have hc := hd; (try simp at hc) <;> (try simp -implicitDefEqProofs [-loopQ_n, hd, hc]))) | (refine guardD_intro ?_ ?_ <;> (intro hd; have hc := hd; (try simp at hc) <;> (try simp -implicitDefEqProofs [-loopQ_n, hd, hc]))) | (refine ldD_ep ?_ ?_; (focus kernel_rfl); (try simp -implicitDefEqProofs [-loopQ_n])))))
  refine loop_intro (σ := Nat × Int) (fun x => ⟨[(1, .int .i64 w), (2, .op 0 0), (5, .int .i64 x.2), (6, .int .i64 x.1)], [.box 25 [.rs (rowsOf spC l)]]⟩) (fun x => x.1 ≤ l.length ∧ 0 ≤ x.2 ∧ x.2 + befL w (l.drop x.1) = befL w l) (fun x => l.length - x.1) (0, 0) ⟨by simp, by simp, by simp⟩ ?_ ?_
  · refine weak_of 1 0 rfl rfl ?_ ?_ <;> simp
  · rintro ⟨i, n⟩ ⟨hi, hn, hR⟩
    simp only at hi hn hR
    by_cases h : i < l.length
    · obtain ⟨⟨f, t⟩, hf⟩ : ∃ e, l[i] = e := ⟨_, rfl⟩
      rw [List.drop_eq_getElem_cons h, hf, befL] at hR
      have hm := calV_mem (s := ⟨f, t⟩) hc (hf ▸ List.getElem_mem h)
      simp only at hm
      have hnn := befL_nn w (l.drop (i + 1))
      have hs := spanB_nn w ⟨f, t⟩
      ((try simp -implicitDefEqProofs [-loopQ_n, h, hf, spC]) <;> (repeat' (first | (simp (disch := omega) only [wrap_in, if_pos, if_neg] <;> (try simp -implicitDefEqProofs [-loopQ_n, h, hf, spC])) | (refine condD_dec ?_ ?_ <;> (intro hc; (try simp -implicitDefEqProofs [-loopQ_n, hc, h, hf, spC]))) | (refine guardD_dec ?_ ?_ <;> (intro hc; (try simp -implicitDefEqProofs [-loopQ_n, hc, h, hf, spC]))) | (refine condD_intro ?_ ?_ <;> (intro hd; have hc := hd; (try simp at hc) <;> (try simp -implicitDefEqProofs [-loopQ_n, hd, hc, h, hf, spC]))) | (refine guardD_intro ?_ ?_ <;> (intro hd; have hc := hd; (try simp at hc) <;> (try simp -implicitDefEqProofs [-loopQ_n, hd, hc, h, hf, spC]))) | (refine ldD_ep ?_ ?_; (focus kernel_rfl); (try simp -implicitDefEqProofs [-loopQ_n, h, hf, spC])))))
      · have hq : spanB w ⟨f, t⟩ = t - f := by unfold spanB; (repeat' split) <;> simp_all <;> omega
        refine loop_next (i + 1, n + t - f) ⟨by simp only; omega, by simp only; omega, by simp only; omega⟩ (by simp only; omega) (weak_of 1 0 rfl rfl ?_ ?_) <;> simp
      · have hq : spanB w ⟨f, t⟩ = w - f := by unfold spanB; (repeat' split) <;> simp_all <;> omega
        refine loop_next (i + 1, n + w - f) ⟨by simp only; omega, by simp only; omega, by simp only; omega⟩ (by simp only; omega) (weak_of 1 0 rfl rfl ?_ ?_) <;> simp
      · have hq : spanB w ⟨f, t⟩ = 0 := by unfold spanB; (repeat' split) <;> simp_all <;> omega
        refine loop_next (i + 1, n) ⟨by simp only; omega, by simp only; omega, by simp only; omega⟩ (by simp only; omega) (weak_of 1 0 rfl rfl ?_ ?_) <;> simp
    · rw [List.drop_eq_nil_of_le (by omega), befL] at hR
      ((try simp -implicitDefEqProofs [-loopQ_n, h]) <;> (repeat' (first | (refine condD_dec ?_ ?_ <;> (intro hc; (try simp -implicitDefEqProofs [-loopQ_n, hc, h]))) | (refine guardD_dec ?_ ?_ <;> (intro hc; (try simp -implicitDefEqProofs [-loopQ_n, hc, h]))) | (refine condD_intro ?_ ?_ <;> (intro hd; have hc := hd; (try simp at hc) <;> (try simp -implicitDefEqProofs [-loopQ_n, hd, hc, h]))) | (refine guardD_intro ?_ ?_ <;> (intro hd; have hc := hd; (try simp at hc) <;> (try simp -implicitDefEqProofs [-loopQ_n, hd, hc, h]))) | (refine ldD_ep ?_ ?_; (focus kernel_rfl); (try simp -implicitDefEqProofs [-loopQ_n, h])))))
      omega
theorem runtil_pure (l : List Sp) (t : Int) (hv : calOk l = true) (ht : inst t = true) : Pure Tryz.prog 64 [.agg [.rs (rowsOf spC l)], .int .i64 t] (.int .i64 (untL l t)) := by
  obtain ⟨h1, h2, h3, h4, h5, h6, h7⟩ := until_facts hv ht
  refine pure_of mixed Tryz.func64 rfl (by kernel_rfl) (of_decide_eq_true rfl) (by kernel_rfl) (vc_run ?_)
  ((try simp -implicitDefEqProofs [-loopQ_n, h1, h2, h3, h4, h5]) <;> (repeat' (first | (refine condD_dec ?_ ?_ <;> (intro hc; (try simp -implicitDefEqProofs [-loopQ_n, hc, h1, h2, h3, h4, h5]))) | (refine guardD_dec ?_ ?_ <;> (intro hc; (try simp -implicitDefEqProofs [-loopQ_n, hc, h1, h2, h3, h4, h5]))) | (refine condD_intro ?_ ?_ <;> (intro hd; have hc := hd; (try simp at hc) <;> (try simp -implicitDefEqProofs [-loopQ_n, hd, hc, h1, h2, h3, h4, h5]))) | (refine guardD_intro ?_ ?_ <;> (intro hd; have hc := hd; (try simp at hc) <;> (try simp -implicitDefEqProofs [-loopQ_n, hd, hc, h1, h2, h3, h4, h5]))) | (refine ldD_ep ?_ ?_; (focus kernel_rfl); (try simp -implicitDefEqProofs [-loopQ_n, h1, h2, h3, h4, h5])) | (refine callS_mk ?_; (try simp -implicitDefEqProofs [-loopQ_n, h1, h2, h3, h4, h5]); (first | refine callS_intro (rbefore_pure _ _ hv ⟨by omega, by omega⟩) (.inl rfl) ?_); (try simp -implicitDefEqProofs [-loopQ_n, h1, h2, h3, h4, h5])))))
theorem rworking_pure (l : List Sp) (f t : Int) : Pure Tryz.prog 43 [.agg [.rs (rowsOf spC l)], .agg [.int .i64 f, .int .i64 t]] (.tup [.int .i64 (workOut l ⟨f, t⟩).1, .int .i64 (workOut l ⟨f, t⟩).2]) := by
  refine pure_of mixed Tryz.func43 rfl (by kernel_rfl) (of_decide_eq_true rfl) (by kernel_rfl) (vc_run ?_)
  by_cases hh : calOk l = true ∧ spV ⟨f, t⟩ = true
  · obtain ⟨h1, h2, h3⟩ := work_facts hh.1 hh.2
    ((try simp -implicitDefEqProofs [-loopQ_n, workOut, hh, h3]) <;> (repeat' (first | (refine condD_dec ?_ ?_ <;> (intro hc; (try simp -implicitDefEqProofs [-loopQ_n, hc, workOut, hh, h3]))) | (refine guardD_dec ?_ ?_ <;> (intro hc; (try simp -implicitDefEqProofs [-loopQ_n, hc, workOut, hh, h3]))) | (refine condD_intro ?_ ?_ <;> (intro hd; have hc := hd; (try simp at hc) <;> (try simp -implicitDefEqProofs [-loopQ_n, hd, hc, workOut, hh, h3]))) | (refine guardD_intro ?_ ?_ <;> (intro hd; have hc := hd; (try simp at hc) <;> (try simp -implicitDefEqProofs [-loopQ_n, hd, hc, workOut, hh, h3]))) | (refine ldD_ep ?_ ?_; (focus kernel_rfl); (try simp -implicitDefEqProofs [-loopQ_n, workOut, hh, h3])) | (refine callS_mk ?_; (try simp -implicitDefEqProofs [-loopQ_n, workOut, hh, h3]); (first | refine callS_intro (rvalid_pure _) (.inl rfl) ?_ | refine callS_intro (rvalidSpan_pure _ _) (.inl rfl) ?_ | refine callS_intro (runtil_pure _ _ hh.1 h2) (.inl rfl) ?_ | refine callS_intro (runtil_pure _ _ hh.1 h1) (.inl rfl) ?_); (try simp -implicitDefEqProofs [-loopQ_n, workOut, hh, h3])))))
  · ((try simp -implicitDefEqProofs [-loopQ_n, workOut, hh]) <;> (repeat' (first | (refine condD_dec ?_ ?_ <;> (intro hc; (try simp -implicitDefEqProofs [-loopQ_n, hc, workOut, hh]))) | (refine guardD_dec ?_ ?_ <;> (intro hc; (try simp -implicitDefEqProofs [-loopQ_n, hc, workOut, hh]))) | (refine condD_intro ?_ ?_ <;> (intro hd; have hc := hd; (try simp at hc) <;> (try simp -implicitDefEqProofs [-loopQ_n, hd, hc, workOut, hh]))) | (refine guardD_intro ?_ ?_ <;> (intro hd; have hc := hd; (try simp at hc) <;> (try simp -implicitDefEqProofs [-loopQ_n, hd, hc, workOut, hh]))) | (refine ldD_ep ?_ ?_; (focus kernel_rfl); (try simp -implicitDefEqProofs [-loopQ_n, workOut, hh])) | (refine callS_mk ?_; (try simp -implicitDefEqProofs [-loopQ_n, workOut, hh]); (first | refine callS_intro (rvalid_pure _) (.inl rfl) ?_ | refine callS_intro (rvalidSpan_pure _ _) (.inl rfl) ?_); (try simp -implicitDefEqProofs [-loopQ_n, workOut, hh])))))
    all_goals simp_all
end Go.Proofs.YtfbpjlabhckoeaaGreat
