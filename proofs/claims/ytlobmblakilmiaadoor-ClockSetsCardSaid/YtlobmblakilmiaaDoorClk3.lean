/- Calendars: the reference's walks. -/
import Derived.Test.YtlobmblakilmiaaDoorClk2
namespace Go.Proofs.YtlobmblakilmiaaDoor
set_option linter.unusedSimpArgs false
set_option linter.unusedVariables false
set_option linter.unnecessarySimpa false
set_option linter.unusedSectionVars false
open Go.RowKit
variable [Glob]
set_option maxRecDepth 100000
theorem rinstant_pure (t : Int) : Pure Tryd.prog 39 [.int .i64 t] (.bool (inst t)) := by
  refine pure_of mixed Tryd.func39 rfl (by kernel_rfl) (of_decide_eq_true rfl) (by kernel_rfl) (vc_run ?_)
  ((try simp -implicitDefEqProofs [-loopQ_n]) <;> (repeat' (first | (refine condD_dec ?_ ?_ <;> (intro hc; (try simp -implicitDefEqProofs [-loopQ_n, hc]))) | (refine guardD_dec ?_ ?_ <;> (intro hc; (try simp -implicitDefEqProofs [-loopQ_n, hc]))) | (refine condD_intro ?_ ?_ <;> (intro hd; have hc := hd; (try simp at hc) <;> (try simp -implicitDefEqProofs [-loopQ_n, hd, hc]))) | (refine guardD_intro ?_ ?_ <;> (intro hd; have hc := hd; (try simp at hc) <;> (try simp -implicitDefEqProofs [-loopQ_n, hd, hc]))) | (refine ldD_ep ?_ ?_; (focus kernel_rfl); (try simp -implicitDefEqProofs [-loopQ_n]))))) <;> simp [inst, *]
theorem rvalidSpan_pure (f t : Int) : Pure Tryd.prog 23 [.agg [.int .i64 f, .int .i64 t]] (.bool (spV ⟨f, t⟩)) := by
  refine pure_of mixed Tryd.func23 rfl (by kernel_rfl) (of_decide_eq_true rfl) (by kernel_rfl) (vc_run ?_)
  ((try simp -implicitDefEqProofs [-loopQ_n]) <;> (repeat' (first | (refine condD_dec ?_ ?_ <;> (intro hc; (try simp -implicitDefEqProofs [-loopQ_n, hc]))) | (refine guardD_dec ?_ ?_ <;> (intro hc; (try simp -implicitDefEqProofs [-loopQ_n, hc]))) | (refine condD_intro ?_ ?_ <;> (intro hd; have hc := hd; (try simp at hc) <;> (try simp -implicitDefEqProofs [-loopQ_n, hd, hc]))) | (refine guardD_intro ?_ ?_ <;> (intro hd; have hc := hd; (try simp at hc) <;> (try simp -implicitDefEqProofs [-loopQ_n, hd, hc]))) | (refine ldD_ep ?_ ?_; (focus kernel_rfl); (try simp -implicitDefEqProofs [-loopQ_n]))))) <;> simp [spV, *]
theorem rweek_pure (f t : Int) : Pure Tryd.prog 51 [.agg [.int .i64 f, .int .i64 t]] (.bool (wkV ⟨f, t⟩)) := by
  refine pure_of mixed Tryd.func51 rfl (by kernel_rfl) (of_decide_eq_true rfl) (by kernel_rfl) (vc_run ?_)
  ((try simp -implicitDefEqProofs [-loopQ_n]) <;> (repeat' (first | (refine condD_dec ?_ ?_ <;> (intro hc; (try simp -implicitDefEqProofs [-loopQ_n, hc]))) | (refine guardD_dec ?_ ?_ <;> (intro hc; (try simp -implicitDefEqProofs [-loopQ_n, hc]))) | (refine condD_intro ?_ ?_ <;> (intro hd; have hc := hd; (try simp at hc) <;> (try simp -implicitDefEqProofs [-loopQ_n, hd, hc]))) | (refine guardD_intro ?_ ?_ <;> (intro hd; have hc := hd; (try simp at hc) <;> (try simp -implicitDefEqProofs [-loopQ_n, hd, hc]))) | (refine ldD_ep ?_ ?_; (focus kernel_rfl); (try simp -implicitDefEqProofs [-loopQ_n])) | (refine callS_mk ?_; (try simp -implicitDefEqProofs [-loopQ_n]); (first | refine callS_intro (rvalidSpan_pure _ _) (.inl rfl) ?_); (try simp -implicitDefEqProofs [-loopQ_n]))))) <;> simp [wkV, *]
set_option maxHeartbeats 8000000 in
theorem rvalid_pure (l : List Sp) : Pure Tryd.prog 25 [.agg [.rs (rowsOf spC l)]] (.bool (calOk l)) := by
  refine pure_of mixed Tryd.func25 rfl (by kernel_rfl) (of_decide_eq_true rfl) (by kernel_rfl) (vc_run ?_)
  ((try simp -implicitDefEqProofs [-loopQ_n]) <;> (repeat' (first | (refine condD_dec ?_ ?_ <;> (intro hc; (try simp -implicitDefEqProofs [-loopQ_n, hc]))) | (refine guardD_dec ?_ ?_ <;> (intro hc; (try simp -implicitDefEqProofs [-loopQ_n, hc]))) | (refine condD_intro ?_ ?_ <;> (intro hd; have hc := hd; (try simp at hc) <;> (try simp -implicitDefEqProofs [-loopQ_n, hd, hc]))) | (refine guardD_intro ?_ ?_ <;> (intro hd; have hc := hd; (try simp at hc) <;> (try simp -implicitDefEqProofs [-loopQ_n, hd, hc]))) | (refine ldD_ep ?_ ?_; (focus kernel_rfl); (try simp -implicitDefEqProofs [-loopQ_n])))))
  · simp [calOk]; omega
  have hlen := ‹¬ (100 : Int) < l.length›
  have hno : calV (-1) l = false → calOk l = false := fun h => by simp [calOk, h]
  have hyes : calV (-1) l = true → calOk l = true := fun h => by simp [calOk, h]; omega
  refine loop_intro (σ := Nat) (fun i => ⟨[(1, .op 0 0), (3, .int .i64 i)], [.box 24 [.rs (rowsOf spC l)]]⟩) (fun i => i ≤ l.length ∧ calV (prevT l i) (l.drop i) = calV (-1) l) (fun i => l.length - i) 0 ⟨by omega, rfl⟩ ?_ ?_
  · refine weak_of 1 0 rfl rfl ?_ ?_ <;> simp
  · rintro i ⟨hi, hR⟩
    by_cases h : i < l.length
    · have hgo : l[i]? = some l[i] := List.getElem?_eq_getElem h
      obtain ⟨⟨f, t⟩, hf⟩ : ∃ e, l[i] = e := ⟨_, rfl⟩
      rw [List.drop_eq_getElem_cons h, hf] at hR
      have hp1 : prevT l (i + 1) = t := by simp [prevT, hgo, hf]
      have hnx : wkV ⟨f, t⟩ = true → prevT l i < f → calV (prevT l (i + 1)) (l.drop (i + 1)) = calV (-1) l := fun h1 h2 => by rw [hp1, ← hR, calV, h1, decide_eq_true h2]; simp
      have hbd : (wkV ⟨f, t⟩ = false ∨ ¬ prevT l i < f) → calOk l = false := fun h1 => hno (by rw [← hR, calV]; rcases h1 with h1 | h1 <;> simp [h1])
      cases i with
      | zero =>
        have h' : (0 : Int) < l.length := by omega
        ((try simp -implicitDefEqProofs [-loopQ_n, h, h', hf, spC]) <;> (repeat' (first | (simp (disch := omega) only [wrap_in, if_pos, if_neg] <;> (try simp -implicitDefEqProofs [-loopQ_n, h, h', hf, spC])) | (refine condD_dec ?_ ?_ <;> (intro hc; (try simp -implicitDefEqProofs [-loopQ_n, hc, h, h', hf, spC]))) | (refine guardD_dec ?_ ?_ <;> (intro hc; (try simp -implicitDefEqProofs [-loopQ_n, hc, h, h', hf, spC]))) | (refine condD_intro ?_ ?_ <;> (intro hd; have hc := hd; (try simp at hc) <;> (try simp -implicitDefEqProofs [-loopQ_n, hd, hc, h, h', hf, spC]))) | (refine guardD_intro ?_ ?_ <;> (intro hd; have hc := hd; (try simp at hc) <;> (try simp -implicitDefEqProofs [-loopQ_n, hd, hc, h, h', hf, spC]))) | (refine ldD_ep ?_ ?_; (focus kernel_rfl); (try simp -implicitDefEqProofs [-loopQ_n, h, h', hf, spC])) | (refine callS_mk ?_; (try simp -implicitDefEqProofs [-loopQ_n, h, h', hf, spC]); (first | refine callS_intro (rweek_pure _ _) (.inl rfl) ?_); (try simp -implicitDefEqProofs [-loopQ_n, h, h', hf, spC])))))
        · have hw : wkV ⟨f, t⟩ = true := ‹_›
          refine loop_next 1 ⟨by omega, hnx hw ?_⟩ (by omega) (weak_of 1 0 rfl rfl ?_ ?_)
          · simp only [wkV, spV, Bool.and_eq_true, decide_eq_true_eq] at hw
            simp only [prevT]; omega
          · simp
          · simp
        · exact hbd (.inl ‹_›)
      | succ j =>
        have hj : j < l.length := by omega
        obtain ⟨⟨f2, t2⟩, hf2⟩ : ∃ e, l[j] = e := ⟨_, rfl⟩
        have hgj : l[j]? = some ⟨f2, t2⟩ := by rw [List.getElem?_eq_getElem hj, hf2]
        have hpj : prevT l (j + 1) = t2 := by simp [prevT, hgj]
        have h' : (j : Int) + 1 < l.length := by omega
        ((try simp -implicitDefEqProofs [-loopQ_n, h, h', hf, spC, hj, hf2, hgj]) <;> (repeat' (first | (simp (disch := omega) only [wrap_in, if_pos, if_neg] <;> (try simp -implicitDefEqProofs [-loopQ_n, h, h', hf, spC, hj, hf2, hgj])) | (refine condD_dec ?_ ?_ <;> (intro hc; (try simp -implicitDefEqProofs [-loopQ_n, hc, h, h', hf, spC, hj, hf2, hgj]))) | (refine guardD_dec ?_ ?_ <;> (intro hc; (try simp -implicitDefEqProofs [-loopQ_n, hc, h, h', hf, spC, hj, hf2, hgj]))) | (refine condD_intro ?_ ?_ <;> (intro hd; have hc := hd; (try simp at hc) <;> (try simp -implicitDefEqProofs [-loopQ_n, hd, hc, h, h', hf, spC, hj, hf2, hgj]))) | (refine guardD_intro ?_ ?_ <;> (intro hd; have hc := hd; (try simp at hc) <;> (try simp -implicitDefEqProofs [-loopQ_n, hd, hc, h, h', hf, spC, hj, hf2, hgj]))) | (refine ldD_ep ?_ ?_; (focus kernel_rfl); (try simp -implicitDefEqProofs [-loopQ_n, h, h', hf, spC, hj, hf2, hgj])) | (refine callS_mk ?_; (try simp -implicitDefEqProofs [-loopQ_n, h, h', hf, spC, hj, hf2, hgj]); (first | refine callS_intro (rweek_pure _ _) (.inl rfl) ?_); (try simp -implicitDefEqProofs [-loopQ_n, h, h', hf, spC, hj, hf2, hgj])))))
        · exact hbd (.inr (by omega))
        · refine loop_next (j + 1 + 1) ⟨by omega, hnx ‹_› (by omega)⟩ (by omega) (weak_of 1 0 rfl rfl ?_ ?_) <;> simp
        · exact hbd (.inl ‹_›)
    · rw [List.drop_eq_nil_of_le (by omega), calV] at hR
      ((try simp -implicitDefEqProofs [-loopQ_n, h]) <;> (repeat' (first | (refine condD_dec ?_ ?_ <;> (intro hc; (try simp -implicitDefEqProofs [-loopQ_n, hc, h]))) | (refine guardD_dec ?_ ?_ <;> (intro hc; (try simp -implicitDefEqProofs [-loopQ_n, hc, h]))) | (refine condD_intro ?_ ?_ <;> (intro hd; have hc := hd; (try simp at hc) <;> (try simp -implicitDefEqProofs [-loopQ_n, hd, hc, h]))) | (refine guardD_intro ?_ ?_ <;> (intro hd; have hc := hd; (try simp at hc) <;> (try simp -implicitDefEqProofs [-loopQ_n, hd, hc, h]))) | (refine ldD_ep ?_ ?_; (focus kernel_rfl); (try simp -implicitDefEqProofs [-loopQ_n, h])))))
      exact hyes hR.symm
set_option maxHeartbeats 8000000 in
theorem rbefore_pure (l : List Sp) (w : Int) (hv : calOk l = true) (hw : 0 ≤ w ∧ w ≤ 10080) : Pure Tryd.prog 40 [.agg [.rs (rowsOf spC l)], .int .i64 w] (.int .i64 (befL w l)) := by
  obtain ⟨hln, hc⟩ := calOk_v hv
  have hbd := befL_len w hw.1 l fun s hs => by have := calV_mem hc hs; exact ⟨this.1, this.2.1⟩
  have hbd2 : w * l.length ≤ 10080 * 100 := Int.mul_le_mul hw.2 (by omega) (by omega) (by omega)
  refine pure_of mixed Tryd.func40 rfl (by kernel_rfl) (of_decide_eq_true rfl) (by kernel_rfl) (vc_run ?_)
  ((try simp -implicitDefEqProofs [-loopQ_n]) <;> (repeat' (first | (refine condD_dec ?_ ?_ <;> (intro hc; (try simp -implicitDefEqProofs [-loopQ_n, hc]))) | (refine guardD_dec ?_ ?_ <;> (intro hc; (try simp -implicitDefEqProofs [-loopQ_n, hc]))) | (refine condD_intro ?_ ?_ <;> (intro hd; have hc := hd; (try simp at hc) <;> (try simp -implicitDefEqProofs [-loopQ_n, hd, hc]))) | (refine guardD_intro ?_ ?_ <;> (intro hd; have hc := hd; (try simp at hc) <;> (try simp -implicitDefEqProofs [-loopQ_n, hd, hc]))) | (refine ldD_ep ?_ ?_; (focus kernel_rfl); (try simp -implicitDefEqProofs [-loopQ_n])))))
  refine loop_intro (σ := Nat × Int) (fun x => ⟨[(1, .int .i64 w), (2, .op 0 0), (5, .int .i64 x.2), (6, .int .i64 x.1)], [.box 24 [.rs (rowsOf spC l)]]⟩) (fun x => x.1 ≤ l.length ∧ 0 ≤ x.2 ∧ x.2 + befL w (l.drop x.1) = befL w l) (fun x => l.length - x.1) (0, 0) ⟨by simp, by simp, by simp⟩ ?_ ?_
  · refine weak_of 1 0 rfl rfl ?_ ?_ <;> simp
  · rintro ⟨i, n⟩ ⟨hi, hn, hR⟩
    simp only at hi hn hR
    by_cases h : i < l.length
    · obtain ⟨⟨f, t⟩, hf⟩ : ∃ e, l[i] = e := ⟨_, rfl⟩
      rw [List.drop_eq_getElem_cons h, hf, befL] at hR
      have hm := calV_mem (s := ⟨f, t⟩) hc (hf ▸ List.getElem_mem h)
      simp only at hm
      have hnn := befL_nn w (l.drop (i + 1))
      have hs := spanB_nn w ⟨f, t⟩
      ((try simp -implicitDefEqProofs [-loopQ_n, h, hf, spC]) <;> (repeat' (first | (simp (disch := omega) only [wrap_in, if_pos, if_neg] <;> (try simp -implicitDefEqProofs [-loopQ_n, h, hf, spC])) | (refine condD_dec ?_ ?_ <;> (intro hc; (try simp -implicitDefEqProofs [-loopQ_n, hc, h, hf, spC]))) | (refine guardD_dec ?_ ?_ <;> (intro hc; (try simp -implicitDefEqProofs [-loopQ_n, hc, h, hf, spC]))) | (refine condD_intro ?_ ?_ <;> (intro hd; have hc := hd; (try simp at hc) <;> (try simp -implicitDefEqProofs [-loopQ_n, hd, hc, h, hf, spC]))) | (refine guardD_intro ?_ ?_ <;> (intro hd; have hc := hd; (try simp at hc) <;> (try simp -implicitDefEqProofs [-loopQ_n, hd, hc, h, hf, spC]))) | (refine ldD_ep ?_ ?_; (focus kernel_rfl); (try simp -implicitDefEqProofs [-loopQ_n, h, hf, spC])))))
      · have hq : spanB w ⟨f, t⟩ = t - f := by unfold spanB; (repeat' split) <;> simp_all <;> omega
        refine loop_next (i + 1, n + t - f) ⟨by simp only; omega, by simp only; omega, by simp only; omega⟩ (by simp only; omega) (weak_of 1 0 rfl rfl ?_ ?_) <;> simp
      · have hq : spanB w ⟨f, t⟩ = w - f := by unfold spanB; (repeat' split) <;> simp_all <;> omega
        refine loop_next (i + 1, n + w - f) ⟨by simp only; omega, by simp only; omega, by simp only; omega⟩ (by simp only; omega) (weak_of 1 0 rfl rfl ?_ ?_) <;> simp
      · have hq : spanB w ⟨f, t⟩ = 0 := by unfold spanB; (repeat' split) <;> simp_all <;> omega
        refine loop_next (i + 1, n) ⟨by simp only; omega, by simp only; omega, by simp only; omega⟩ (by simp only; omega) (weak_of 1 0 rfl rfl ?_ ?_) <;> simp
    · rw [List.drop_eq_nil_of_le (by omega), befL] at hR
      ((try simp -implicitDefEqProofs [-loopQ_n, h]) <;> (repeat' (first | (refine condD_dec ?_ ?_ <;> (intro hc; (try simp -implicitDefEqProofs [-loopQ_n, hc, h]))) | (refine guardD_dec ?_ ?_ <;> (intro hc; (try simp -implicitDefEqProofs [-loopQ_n, hc, h]))) | (refine condD_intro ?_ ?_ <;> (intro hd; have hc := hd; (try simp at hc) <;> (try simp -implicitDefEqProofs [-loopQ_n, hd, hc, h]))) | (refine guardD_intro ?_ ?_ <;> (intro hd; have hc := hd; (try simp at hc) <;> (try simp -implicitDefEqProofs [-loopQ_n, hd, hc, h]))) | (refine ldD_ep ?_ ?_; (focus kernel_rfl); (try simp -implicitDefEqProofs [-loopQ_n, h])))))
      omega
theorem runtil_pure (l : List Sp) (t : Int) (hv : calOk l = true) (ht : inst t = true) : Pure Tryd.prog 36 [.agg [.rs (rowsOf spC l)], .int .i64 t] (.int .i64 (untL l t)) := by
  obtain ⟨h1, h2, h3, h4, h5, h6, h7⟩ := until_facts hv ht
  refine pure_of mixed Tryd.func36 rfl (by kernel_rfl) (of_decide_eq_true rfl) (by kernel_rfl) (vc_run ?_)
  ((try simp -implicitDefEqProofs [-loopQ_n, h1, h2, h3, h4, h5]) <;> (repeat' (first | (refine condD_dec ?_ ?_ <;> (intro hc; (try simp -implicitDefEqProofs [-loopQ_n, hc, h1, h2, h3, h4, h5]))) | (refine guardD_dec ?_ ?_ <;> (intro hc; (try simp -implicitDefEqProofs [-loopQ_n, hc, h1, h2, h3, h4, h5]))) | (refine condD_intro ?_ ?_ <;> (intro hd; have hc := hd; (try simp at hc) <;> (try simp -implicitDefEqProofs [-loopQ_n, hd, hc, h1, h2, h3, h4, h5]))) | (refine guardD_intro ?_ ?_ <;> (intro hd; have hc := hd; (try simp at hc) <;> (try simp -implicitDefEqProofs [-loopQ_n, hd, hc, h1, h2, h3, h4, h5]))) | (refine ldD_ep ?_ ?_; (focus kernel_rfl); (try simp -implicitDefEqProofs [-loopQ_n, h1, h2, h3, h4, h5])) | (refine callS_mk ?_; (try simp -implicitDefEqProofs [-loopQ_n, h1, h2, h3, h4, h5]); (first | refine callS_intro (rbefore_pure _ _ hv ⟨by omega, by omega⟩) (.inl rfl) ?_); (try simp -implicitDefEqProofs [-loopQ_n, h1, h2, h3, h4, h5])))))
theorem rworking_pure (l : List Sp) (f t : Int) : Pure Tryd.prog 13 [.agg [.rs (rowsOf spC l)], .agg [.int .i64 f, .int .i64 t]] (.tup [.int .i64 (workOut l ⟨f, t⟩).1, .int .i64 (workOut l ⟨f, t⟩).2]) := by
  refine pure_of mixed Tryd.func13 rfl (by kernel_rfl) (of_decide_eq_true rfl) (by kernel_rfl) (vc_run ?_)
  by_cases hh : calOk l = true ∧ spV ⟨f, t⟩ = true
  · obtain ⟨h1, h2, h3⟩ := work_facts hh.1 hh.2
    ((try simp -implicitDefEqProofs [-loopQ_n, workOut, hh, h3]) <;> (repeat' (first | (refine condD_dec ?_ ?_ <;> (intro hc; (try simp -implicitDefEqProofs [-loopQ_n, hc, workOut, hh, h3]))) | (refine guardD_dec ?_ ?_ <;> (intro hc; (try simp -implicitDefEqProofs [-loopQ_n, hc, workOut, hh, h3]))) | (refine condD_intro ?_ ?_ <;> (intro hd; have hc := hd; (try simp at hc) <;> (try simp -implicitDefEqProofs [-loopQ_n, hd, hc, workOut, hh, h3]))) | (refine guardD_intro ?_ ?_ <;> (intro hd; have hc := hd; (try simp at hc) <;> (try simp -implicitDefEqProofs [-loopQ_n, hd, hc, workOut, hh, h3]))) | (refine ldD_ep ?_ ?_; (focus kernel_rfl); (try simp -implicitDefEqProofs [-loopQ_n, workOut, hh, h3])) | (refine callS_mk ?_; (try simp -implicitDefEqProofs [-loopQ_n, workOut, hh, h3]); (first | refine callS_intro (rvalid_pure _) (.inl rfl) ?_ | refine callS_intro (rvalidSpan_pure _ _) (.inl rfl) ?_ | refine callS_intro (runtil_pure _ _ hh.1 h2) (.inl rfl) ?_ | refine callS_intro (runtil_pure _ _ hh.1 h1) (.inl rfl) ?_); (try simp -implicitDefEqProofs [-loopQ_n, workOut, hh, h3])))))
  · ((try simp -implicitDefEqProofs [-loopQ_n, workOut, hh]) <;> (repeat' (first | (refine condD_dec ?_ ?_ <;> (intro hc; (try simp -implicitDefEqProofs [-loopQ_n, hc, workOut, hh]))) | (refine guardD_dec ?_ ?_ <;> (intro hc; (try simp -implicitDefEqProofs [-loopQ_n, hc, workOut, hh]))) | (refine condD_intro ?_ ?_ <;> (intro hd; have hc := hd; (try simp at hc) <;> (try simp -implicitDefEqProofs [-loopQ_n, hd, hc, workOut, hh]))) | (refine guardD_intro ?_ ?_ <;> (intro hd; have hc := hd; (try simp at hc) <;> (try simp -implicitDefEqProofs [-loopQ_n, hd, hc, workOut, hh]))) | (refine ldD_ep ?_ ?_; (focus kernel_rfl); (try simp -implicitDefEqProofs [-loopQ_n, workOut, hh])) | (refine callS_mk ?_; (try simp -implicitDefEqProofs [-loopQ_n, workOut, hh]); (first | refine callS_intro (rvalid_pure _) (.inl rfl) ?_ | refine callS_intro (rvalidSpan_pure _ _) (.inl rfl) ?_); (try simp -implicitDefEqProofs [-loopQ_n, workOut, hh])))))
    all_goals simp_all
set_option maxHeartbeats 8000000 in
theorem ris_pure (l : List Sp) (t : Int) (hl : l.length ≤ 100) (ht : inst t = true) : Pure Tryd.prog 49 [.agg [.rs (rowsOf spC l)], .int .i64 t] (.bool (openW (t % 10080) l)) := by
  have hm : t.tmod 10080 = t % 10080 := Int.tmod_eq_emod_of_nonneg (inst_iff.1 ht).1
  generalize t % 10080 = w at *
  refine pure_of mixed Tryd.func49 rfl (by kernel_rfl) (of_decide_eq_true rfl) (by kernel_rfl) (vc_run ?_)
  ((try simp -implicitDefEqProofs [-loopQ_n, hm]) <;> (repeat' (first | (refine condD_dec ?_ ?_ <;> (intro hc; (try simp -implicitDefEqProofs [-loopQ_n, hc, hm]))) | (refine guardD_dec ?_ ?_ <;> (intro hc; (try simp -implicitDefEqProofs [-loopQ_n, hc, hm]))) | (refine condD_intro ?_ ?_ <;> (intro hd; have hc := hd; (try simp at hc) <;> (try simp -implicitDefEqProofs [-loopQ_n, hd, hc, hm]))) | (refine guardD_intro ?_ ?_ <;> (intro hd; have hc := hd; (try simp at hc) <;> (try simp -implicitDefEqProofs [-loopQ_n, hd, hc, hm]))) | (refine ldD_ep ?_ ?_; (focus kernel_rfl); (try simp -implicitDefEqProofs [-loopQ_n, hm])))))
  refine loop_intro (σ := Nat) (fun i => ⟨[(2, .op 0 0), (5, .int .i64 w), (6, .int .i64 i)], [.box 24 [.rs (rowsOf spC l)]]⟩) (fun i => i ≤ l.length ∧ openW w (l.drop i) = openW w l) (fun i => l.length - i) 0 ⟨by omega, rfl⟩ ?_ ?_
  · refine weak_of 1 0 rfl rfl ?_ ?_ <;> simp
  · rintro i ⟨hi, hR⟩
    by_cases h : i < l.length
    · obtain ⟨⟨f, t⟩, hf⟩ : ∃ e, l[i] = e := ⟨_, rfl⟩
      rw [List.drop_eq_getElem_cons h, hf, openW, List.any_cons] at hR
      ((try simp -implicitDefEqProofs [-loopQ_n, h, hf, spC]) <;> (repeat' (first | (simp (disch := omega) only [wrap_in, if_pos, if_neg] <;> (try simp -implicitDefEqProofs [-loopQ_n, h, hf, spC])) | (refine condD_dec ?_ ?_ <;> (intro hc; (try simp -implicitDefEqProofs [-loopQ_n, hc, h, hf, spC]))) | (refine guardD_dec ?_ ?_ <;> (intro hc; (try simp -implicitDefEqProofs [-loopQ_n, hc, h, hf, spC]))) | (refine condD_intro ?_ ?_ <;> (intro hd; have hc := hd; (try simp at hc) <;> (try simp -implicitDefEqProofs [-loopQ_n, hd, hc, h, hf, spC]))) | (refine guardD_intro ?_ ?_ <;> (intro hd; have hc := hd; (try simp at hc) <;> (try simp -implicitDefEqProofs [-loopQ_n, hd, hc, h, hf, spC]))) | (refine ldD_ep ?_ ?_; (focus kernel_rfl); (try simp -implicitDefEqProofs [-loopQ_n, h, hf, spC])))))
      · rw [← hR]; simp [inS, *]
      · refine loop_next (i + 1) ⟨by omega, by rw [← hR]; simp [inS, openW]; intro; omega⟩ (by omega) (weak_of 1 0 rfl rfl ?_ ?_) <;> simp
      · refine loop_next (i + 1) ⟨by omega, by rw [← hR]; simp [inS, openW]; intro; omega⟩ (by omega) (weak_of 1 0 rfl rfl ?_ ?_) <;> simp
    · rw [List.drop_eq_nil_of_le (by omega)] at hR
      ((try simp -implicitDefEqProofs [-loopQ_n, h]) <;> (repeat' (first | (refine condD_dec ?_ ?_ <;> (intro hc; (try simp -implicitDefEqProofs [-loopQ_n, hc, h]))) | (refine guardD_dec ?_ ?_ <;> (intro hc; (try simp -implicitDefEqProofs [-loopQ_n, hc, h]))) | (refine condD_intro ?_ ?_ <;> (intro hd; have hc := hd; (try simp at hc) <;> (try simp -implicitDefEqProofs [-loopQ_n, hd, hc, h]))) | (refine guardD_intro ?_ ?_ <;> (intro hd; have hc := hd; (try simp at hc) <;> (try simp -implicitDefEqProofs [-loopQ_n, hd, hc, h]))) | (refine ldD_ep ?_ ?_; (focus kernel_rfl); (try simp -implicitDefEqProofs [-loopQ_n, h])))))
      rw [← hR]; rfl
theorem ropen_pure (l : List Sp) (t : Int) : Pure Tryd.prog 21 [.agg [.rs (rowsOf spC l)], .int .i64 t] (.tup [.bool (openOut l t).1, .int .i64 (openOut l t).2]) := by
  refine pure_of mixed Tryd.func21 rfl (by kernel_rfl) (of_decide_eq_true rfl) (by kernel_rfl) (vc_run ?_)
  by_cases hv : calOk l = true
  · by_cases ht : inst t = true
    · ((try simp -implicitDefEqProofs [-loopQ_n, openOut, hv, ht]) <;> (repeat' (first | (refine condD_dec ?_ ?_ <;> (intro hc; (try simp -implicitDefEqProofs [-loopQ_n, hc, openOut, hv, ht]))) | (refine guardD_dec ?_ ?_ <;> (intro hc; (try simp -implicitDefEqProofs [-loopQ_n, hc, openOut, hv, ht]))) | (refine condD_intro ?_ ?_ <;> (intro hd; have hc := hd; (try simp at hc) <;> (try simp -implicitDefEqProofs [-loopQ_n, hd, hc, openOut, hv, ht]))) | (refine guardD_intro ?_ ?_ <;> (intro hd; have hc := hd; (try simp at hc) <;> (try simp -implicitDefEqProofs [-loopQ_n, hd, hc, openOut, hv, ht]))) | (refine ldD_ep ?_ ?_; (focus kernel_rfl); (try simp -implicitDefEqProofs [-loopQ_n, openOut, hv, ht])) | (refine callS_mk ?_; (try simp -implicitDefEqProofs [-loopQ_n, openOut, hv, ht]); (first | refine callS_intro (rvalid_pure _) (.inl rfl) ?_ | refine callS_intro (rinstant_pure _) (.inl rfl) ?_ | refine callS_intro (ris_pure _ _ (calOk_v hv).1 ht) (.inl rfl) ?_); (try simp -implicitDefEqProofs [-loopQ_n, openOut, hv, ht])))))
    · ((try simp -implicitDefEqProofs [-loopQ_n, openOut, hv, ht]) <;> (repeat' (first | (refine condD_dec ?_ ?_ <;> (intro hc; (try simp -implicitDefEqProofs [-loopQ_n, hc, openOut, hv, ht]))) | (refine guardD_dec ?_ ?_ <;> (intro hc; (try simp -implicitDefEqProofs [-loopQ_n, hc, openOut, hv, ht]))) | (refine condD_intro ?_ ?_ <;> (intro hd; have hc := hd; (try simp at hc) <;> (try simp -implicitDefEqProofs [-loopQ_n, hd, hc, openOut, hv, ht]))) | (refine guardD_intro ?_ ?_ <;> (intro hd; have hc := hd; (try simp at hc) <;> (try simp -implicitDefEqProofs [-loopQ_n, hd, hc, openOut, hv, ht]))) | (refine ldD_ep ?_ ?_; (focus kernel_rfl); (try simp -implicitDefEqProofs [-loopQ_n, openOut, hv, ht])) | (refine callS_mk ?_; (try simp -implicitDefEqProofs [-loopQ_n, openOut, hv, ht]); (first | refine callS_intro (rvalid_pure _) (.inl rfl) ?_ | refine callS_intro (rinstant_pure _) (.inl rfl) ?_); (try simp -implicitDefEqProofs [-loopQ_n, openOut, hv, ht])))))
  · ((try simp -implicitDefEqProofs [-loopQ_n, openOut, hv]) <;> (repeat' (first | (refine condD_dec ?_ ?_ <;> (intro hc; (try simp -implicitDefEqProofs [-loopQ_n, hc, openOut, hv]))) | (refine guardD_dec ?_ ?_ <;> (intro hc; (try simp -implicitDefEqProofs [-loopQ_n, hc, openOut, hv]))) | (refine condD_intro ?_ ?_ <;> (intro hd; have hc := hd; (try simp at hc) <;> (try simp -implicitDefEqProofs [-loopQ_n, hd, hc, openOut, hv]))) | (refine guardD_intro ?_ ?_ <;> (intro hd; have hc := hd; (try simp at hc) <;> (try simp -implicitDefEqProofs [-loopQ_n, hd, hc, openOut, hv]))) | (refine ldD_ep ?_ ?_; (focus kernel_rfl); (try simp -implicitDefEqProofs [-loopQ_n, openOut, hv])) | (refine callS_mk ?_; (try simp -implicitDefEqProofs [-loopQ_n, openOut, hv]); (first | refine callS_intro (rvalid_pure _) (.inl rfl) ?_); (try simp -implicitDefEqProofs [-loopQ_n, openOut, hv])))))
set_option maxHeartbeats 8000000 in
theorem rafter_pure (l : List Sp) (t n : Int) : Pure Tryd.prog 15 [.agg [.rs (rowsOf spC l)], .int .i64 t, .int .i64 n] (.tup [.int .i64 (aftOut l t n).1, .int .i64 (aftOut l t n).2]) := by
  refine pure_of mixed Tryd.func15 rfl (by kernel_rfl) (of_decide_eq_true rfl) (by kernel_rfl) (vc_run ?_)
  by_cases hv : calOk l = true
  rotate_left
  · ((try simp -implicitDefEqProofs [-loopQ_n, aftOut, hv]) <;> (repeat' (first | (refine condD_dec ?_ ?_ <;> (intro hc; (try simp -implicitDefEqProofs [-loopQ_n, hc, aftOut, hv]))) | (refine guardD_dec ?_ ?_ <;> (intro hc; (try simp -implicitDefEqProofs [-loopQ_n, hc, aftOut, hv]))) | (refine condD_intro ?_ ?_ <;> (intro hd; have hc := hd; (try simp at hc) <;> (try simp -implicitDefEqProofs [-loopQ_n, hd, hc, aftOut, hv]))) | (refine guardD_intro ?_ ?_ <;> (intro hd; have hc := hd; (try simp at hc) <;> (try simp -implicitDefEqProofs [-loopQ_n, hd, hc, aftOut, hv]))) | (refine ldD_ep ?_ ?_; (focus kernel_rfl); (try simp -implicitDefEqProofs [-loopQ_n, aftOut, hv])) | (refine callS_mk ?_; (try simp -implicitDefEqProofs [-loopQ_n, aftOut, hv]); (first | refine callS_intro (rvalid_pure _) (.inl rfl) ?_); (try simp -implicitDefEqProofs [-loopQ_n, aftOut, hv])))))
  by_cases ht : inst t = true ∧ inst n = true
  rotate_left
  · ((try simp -implicitDefEqProofs [-loopQ_n, aftOut, hv, ht]) <;> (repeat' (first | (refine condD_dec ?_ ?_ <;> (intro hc; (try simp -implicitDefEqProofs [-loopQ_n, hc, aftOut, hv, ht]))) | (refine guardD_dec ?_ ?_ <;> (intro hc; (try simp -implicitDefEqProofs [-loopQ_n, hc, aftOut, hv, ht]))) | (refine condD_intro ?_ ?_ <;> (intro hd; have hc := hd; (try simp at hc) <;> (try simp -implicitDefEqProofs [-loopQ_n, hd, hc, aftOut, hv, ht]))) | (refine guardD_intro ?_ ?_ <;> (intro hd; have hc := hd; (try simp at hc) <;> (try simp -implicitDefEqProofs [-loopQ_n, hd, hc, aftOut, hv, ht]))) | (refine ldD_ep ?_ ?_; (focus kernel_rfl); (try simp -implicitDefEqProofs [-loopQ_n, aftOut, hv, ht])) | (refine callS_mk ?_; (try simp -implicitDefEqProofs [-loopQ_n, aftOut, hv, ht]); (first | refine callS_intro (rvalid_pure _) (.inl rfl) ?_ | refine callS_intro (rinstant_pure _) (.inl rfl) ?_); (try simp -implicitDefEqProofs [-loopQ_n, aftOut, hv, ht])))))
    all_goals simp_all
  by_cases h0 : n = 0
  · subst h0
    ((try simp -implicitDefEqProofs [-loopQ_n, aftOut, hv, ht]) <;> (repeat' (first | (refine condD_dec ?_ ?_ <;> (intro hc; (try simp -implicitDefEqProofs [-loopQ_n, hc, aftOut, hv, ht]))) | (refine guardD_dec ?_ ?_ <;> (intro hc; (try simp -implicitDefEqProofs [-loopQ_n, hc, aftOut, hv, ht]))) | (refine condD_intro ?_ ?_ <;> (intro hd; have hc := hd; (try simp at hc) <;> (try simp -implicitDefEqProofs [-loopQ_n, hd, hc, aftOut, hv, ht]))) | (refine guardD_intro ?_ ?_ <;> (intro hd; have hc := hd; (try simp at hc) <;> (try simp -implicitDefEqProofs [-loopQ_n, hd, hc, aftOut, hv, ht]))) | (refine ldD_ep ?_ ?_; (focus kernel_rfl); (try simp -implicitDefEqProofs [-loopQ_n, aftOut, hv, ht])) | (refine callS_mk ?_; (try simp -implicitDefEqProofs [-loopQ_n, aftOut, hv, ht]); (first | refine callS_intro (rvalid_pure _) (.inl rfl) ?_ | refine callS_intro (rinstant_pure _) (.inl rfl) ?_); (try simp -implicitDefEqProofs [-loopQ_n, aftOut, hv, ht])))))
  by_cases hl : l = []
  · subst hl
    ((try simp -implicitDefEqProofs [-loopQ_n, aftOut, hv, ht, h0, befL]) <;> (repeat' (first | (refine condD_dec ?_ ?_ <;> (intro hc; (try simp -implicitDefEqProofs [-loopQ_n, hc, aftOut, hv, ht, h0, befL]))) | (refine guardD_dec ?_ ?_ <;> (intro hc; (try simp -implicitDefEqProofs [-loopQ_n, hc, aftOut, hv, ht, h0, befL]))) | (refine condD_intro ?_ ?_ <;> (intro hd; have hc := hd; (try simp at hc) <;> (try simp -implicitDefEqProofs [-loopQ_n, hd, hc, aftOut, hv, ht, h0, befL]))) | (refine guardD_intro ?_ ?_ <;> (intro hd; have hc := hd; (try simp at hc) <;> (try simp -implicitDefEqProofs [-loopQ_n, hd, hc, aftOut, hv, ht, h0, befL]))) | (refine ldD_ep ?_ ?_; (focus kernel_rfl); (try simp -implicitDefEqProofs [-loopQ_n, aftOut, hv, ht, h0, befL])) | (refine callS_mk ?_; (try simp -implicitDefEqProofs [-loopQ_n, aftOut, hv, ht, h0, befL]); (first | refine callS_intro (rvalid_pure []) (.inl rfl) ?_ | refine callS_intro (rinstant_pure _) (.inl rfl) ?_ | refine callS_intro (rbefore_pure [] _ hv ⟨by omega, by omega⟩) (.inl rfl) ?_); (try simp -implicitDefEqProofs [-loopQ_n, aftOut, hv, ht, h0, befL])))))
  have hl' : ¬ l.length = 0 := by simpa using hl
  obtain ⟨f1, f2, f3, f4, f5, f6, f7⟩ := after_facts hv ht.1 ht.2 h0 hl
  obtain ⟨b1, b2, b3, b4, b5, b6, b7, b8, b9⟩ := aftU_bounds hv hl ht.1 ht.2 h0
  obtain ⟨hln, hcal⟩ := calOk_v hv
  obtain ⟨v, v1, v2, v3, -, -⟩ := findR_spec hcal b7 b8
  have hU : aftU l t n = (untL l t + n - 1) / befL 10080 l * 10080 + v := by rw [aftU, v1]; rfl
  have hn := (inst_iff.1 ht.2)
  have f8 : wrapI .i64 ((untL l t + n - 1) / befL 10080 l * befL 10080 l) = (untL l t + n - 1) / befL 10080 l * befL 10080 l := wrap_in (by omega) (by omega)
  have f9 : wrapI .i64 (untL l t + n - (untL l t + n - 1) / befL 10080 l * befL 10080 l) = (untL l t + n - 1) % befL 10080 l + 1 := by rw [wrap_in (by omega) (by omega)]; omega
  ((try simp -implicitDefEqProofs [-loopQ_n, aftOut, hv, ht, h0, hl, hl', f1, f2, f3, f4, f5, f6, f7, f8, f9]) <;> (repeat' (first | (refine condD_dec ?_ ?_ <;> (intro hc; (try simp -implicitDefEqProofs [-loopQ_n, hc, aftOut, hv, ht, h0, hl, hl', f1, f2, f3, f4, f5, f6, f7, f8, f9]))) | (refine guardD_dec ?_ ?_ <;> (intro hc; (try simp -implicitDefEqProofs [-loopQ_n, hc, aftOut, hv, ht, h0, hl, hl', f1, f2, f3, f4, f5, f6, f7, f8, f9]))) | (refine condD_intro ?_ ?_ <;> (intro hd; have hc := hd; (try simp at hc) <;> (try simp -implicitDefEqProofs [-loopQ_n, hd, hc, aftOut, hv, ht, h0, hl, hl', f1, f2, f3, f4, f5, f6, f7, f8, f9]))) | (refine guardD_intro ?_ ?_ <;> (intro hd; have hc := hd; (try simp at hc) <;> (try simp -implicitDefEqProofs [-loopQ_n, hd, hc, aftOut, hv, ht, h0, hl, hl', f1, f2, f3, f4, f5, f6, f7, f8, f9]))) | (refine ldD_ep ?_ ?_; (focus kernel_rfl); (try simp -implicitDefEqProofs [-loopQ_n, aftOut, hv, ht, h0, hl, hl', f1, f2, f3, f4, f5, f6, f7, f8, f9])) | (refine callS_mk ?_; (try simp -implicitDefEqProofs [-loopQ_n, aftOut, hv, ht, h0, hl, hl', f1, f2, f3, f4, f5, f6, f7, f8, f9]); (first | refine callS_intro (rvalid_pure _) (.inl rfl) ?_ | refine callS_intro (rinstant_pure _) (.inl rfl) ?_ | refine callS_intro (runtil_pure _ _ hv ht.1) (.inl rfl) ?_ | refine callS_intro (rbefore_pure _ _ hv ⟨by omega, by omega⟩) (.inl rfl) ?_); (try simp -implicitDefEqProofs [-loopQ_n, aftOut, hv, ht, h0, hl, hl', f1, f2, f3, f4, f5, f6, f7, f8, f9])))))
  generalize (untL l t + n - 1) / befL 10080 l = k at *
  generalize (untL l t + n - 1) % befL 10080 l = m at *
  have hW : findW (k * 10080) l (m + 1) 0 = k * 10080 + v := by rw [findW_eq (k * 10080) l (m + 1) 0 hcal (by omega), show m + 1 - 1 = m from by omega, v1]
  refine loop_intro (σ := Nat × Int × Int) (fun x => ⟨[(3, .op 0 0), (10, .int .i64 k), (11, .int .i64 x.2.1), (12, .int .i64 x.2.2), (13, .int .i64 x.1)], [.box 24 [.rs (rowsOf spC l)]]⟩) (fun x => x.1 ≤ l.length ∧ m + 1 - 10080 * x.1 ≤ x.2.1 ∧ x.2.1 ≤ 10080 ∧ findW (k * 10080) (l.drop x.1) x.2.1 x.2.2 = k * 10080 + v) (fun x => l.length - x.1) (0, m + 1, 0) ⟨by simp, by simp, by simp only; omega, by simpa using hW⟩ ?_ ?_
  · refine weak_of 1 0 rfl rfl ?_ ?_ <;> simp
  · rintro ⟨i, r, u⟩ ⟨hi, hr, hr2, hR⟩
    simp only at hi hr hr2 hR
    by_cases h : i < l.length
    · obtain ⟨⟨f, to⟩, hf⟩ : ∃ e, l[i] = e := ⟨_, rfl⟩
      rw [List.drop_eq_getElem_cons h, hf, findW] at hR
      have hm := calV_mem (s := ⟨f, to⟩) hcal (hf ▸ List.getElem_mem h)
      simp only at hm hR
      ((try simp -implicitDefEqProofs [-loopQ_n, h, hf, spC, hU]) <;> (repeat' (first | (simp (disch := omega) only [wrap_in, if_pos, if_neg] <;> (try simp -implicitDefEqProofs [-loopQ_n, h, hf, spC, hU])) | (refine condD_dec ?_ ?_ <;> (intro hc; (try simp -implicitDefEqProofs [-loopQ_n, hc, h, hf, spC, hU]))) | (refine guardD_dec ?_ ?_ <;> (intro hc; (try simp -implicitDefEqProofs [-loopQ_n, hc, h, hf, spC, hU]))) | (refine condD_intro ?_ ?_ <;> (intro hd; have hc := hd; (try simp at hc) <;> (try simp -implicitDefEqProofs [-loopQ_n, hd, hc, h, hf, spC, hU]))) | (refine guardD_intro ?_ ?_ <;> (intro hd; have hc := hd; (try simp at hc) <;> (try simp -implicitDefEqProofs [-loopQ_n, hd, hc, h, hf, spC, hU]))) | (refine ldD_ep ?_ ?_; (focus kernel_rfl); (try simp -implicitDefEqProofs [-loopQ_n, h, hf, spC, hU])))))
      · rw [if_pos ⟨‹_›, ‹_›⟩] at hR
        refine loop_next (i + 1, r - (to - f), k * 10080 + f + r) ⟨by simp only; omega, by simp only; omega, by simp only; omega, hR⟩ (by simp only; omega) (weak_of 1 0 rfl rfl ?_ ?_) <;> simp
      · rw [if_neg (fun q => absurd q.2 ‹_›)] at hR
        refine loop_next (i + 1, r - (to - f), u) ⟨by simp only; omega, by simp only; omega, by simp only; omega, hR⟩ (by simp only; omega) (weak_of 1 0 rfl rfl ?_ ?_) <;> simp
      · rw [if_neg (fun q => absurd q.1 ‹_›)] at hR
        refine loop_next (i + 1, r - (to - f), u) ⟨by simp only; omega, by simp only; omega, by simp only; omega, hR⟩ (by simp only; omega) (weak_of 1 0 rfl rfl ?_ ?_) <;> simp
    · rw [List.drop_eq_nil_of_le (by omega), findW] at hR
      ((try simp -implicitDefEqProofs [-loopQ_n, h, hU, hR]) <;> (repeat' (first | (refine condD_dec ?_ ?_ <;> (intro hc; (try simp -implicitDefEqProofs [-loopQ_n, hc, h, hU, hR]))) | (refine guardD_dec ?_ ?_ <;> (intro hc; (try simp -implicitDefEqProofs [-loopQ_n, hc, h, hU, hR]))) | (refine condD_intro ?_ ?_ <;> (intro hd; have hc := hd; (try simp at hc) <;> (try simp -implicitDefEqProofs [-loopQ_n, hd, hc, h, hU, hR]))) | (refine guardD_intro ?_ ?_ <;> (intro hd; have hc := hd; (try simp at hc) <;> (try simp -implicitDefEqProofs [-loopQ_n, hd, hc, h, hU, hR]))) | (refine ldD_ep ?_ ?_; (focus kernel_rfl); (try simp -implicitDefEqProofs [-loopQ_n, h, hU, hR])))))
end Go.Proofs.YtlobmblakilmiaaDoor
