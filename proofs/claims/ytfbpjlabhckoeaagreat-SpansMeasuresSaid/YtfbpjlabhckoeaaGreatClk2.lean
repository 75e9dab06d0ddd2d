/- Calendars: the program's walks. -/
import Derived.Test.YtfbpjlabhckoeaaGreatClk1
import Derived.Test.YtfbpjlabhckoeaaGreatTy
import Derived.Test.YtfbpjlabhckoeaaGreatM3
import Derived.Test.YtfbpjlabhckoeaaGreatAbBase
import Derived.Test.YtfbpjlabhckoeaaGreatBr
namespace Go.Proofs.YtfbpjlabhckoeaaGreat
set_option linter.unusedSimpArgs false
set_option linter.unusedVariables false
set_option linter.unnecessarySimpa false
set_option linter.unusedSectionVars false
open Go.RowKit
variable [Glob]
set_option maxRecDepth 100000
def spC (s : Sp) : List AV := [.int .i64 s.f, .int .i64 s.t]
theorem w_succ {i n : Nat} (h : i < n) (hn : n ≤ 9223372036854775807) : wrapI .i64 ((i : Int) + 1) = ((i + 1 : Nat) : Int) := by rw [wrap_in (by omega) (by omega)]; omega
theorem validSpan_pure (f t : Int) : Pure Tryz.prog 25 [.agg [.int .i64 f, .int .i64 t]] (.bool (spV ⟨f, t⟩)) := by
  refine pure_of mixed Tryz.func25 rfl (by kernel_rfl) (of_decide_eq_true rfl) (by kernel_rfl) (vc_run ?_)
  ((try simp -implicitDefEqProofs [-loopQ_n]) <;> (repeat' (first | (refine condD_dec ?_ ?_ <;> (intro hc; (try simp -implicitDefEqProofs [-loopQ_n, hc]))) | (refine guardD_dec ?_ ?_ <;> (intro hc; (try simp -implicitDefEqProofs [-loopQ_n, hc]))) | (refine condD_intro ?_ ?_ <;> (intro hd; have hc := hd; (try simp at hc) <;> (try simp -implicitDefEqProofs [-loopQ_n, hd, hc]))) | (refine guardD_intro ?_ ?_ <;> (intro hd; have hc := hd; (try simp at hc) <;> (try simp -implicitDefEqProofs [-loopQ_n, hd, hc]))) | (refine ldD_ep ?_ ?_; (focus kernel_rfl); (try simp -implicitDefEqProofs [-loopQ_n]))))) <;> simp [spV, *]
theorem ofWeek_pure (f t : Int) : Pure Tryz.prog 61 [.agg [.int .i64 f, .int .i64 t]] (.bool (wkV ⟨f, t⟩)) := by
  refine pure_of mixed Tryz.func61 rfl (by kernel_rfl) (of_decide_eq_true rfl) (by kernel_rfl) (vc_run ?_)
  ((try simp -implicitDefEqProofs [-loopQ_n]) <;> (repeat' (first | (refine condD_dec ?_ ?_ <;> (intro hc; (try simp -implicitDefEqProofs [-loopQ_n, hc]))) | (refine guardD_dec ?_ ?_ <;> (intro hc; (try simp -implicitDefEqProofs [-loopQ_n, hc]))) | (refine condD_intro ?_ ?_ <;> (intro hd; have hc := hd; (try simp at hc) <;> (try simp -implicitDefEqProofs [-loopQ_n, hd, hc]))) | (refine guardD_intro ?_ ?_ <;> (intro hd; have hc := hd; (try simp at hc) <;> (try simp -implicitDefEqProofs [-loopQ_n, hd, hc]))) | (refine ldD_ep ?_ ?_; (focus kernel_rfl); (try simp -implicitDefEqProofs [-loopQ_n])) | (refine callS_mk ?_; (try simp -implicitDefEqProofs [-loopQ_n]); (first | refine callS_intro (validSpan_pure _ _) (.inl rfl) ?_); (try simp -implicitDefEqProofs [-loopQ_n]))))) <;> simp [wkV, *]
def prevT (l : List Sp) : Nat → Int
  | 0 => -1
  | i + 1 => match l[i]? with | some s => s.t | none => 0
set_option maxHeartbeats 8000000 in
theorem valid_pure (l : List Sp) : Pure Tryz.prog 40 [.agg [.rs (rowsOf spC l)]] (.bool (calOk l)) := by
  refine pure_of mixed Tryz.func40 rfl (by kernel_rfl) (of_decide_eq_true rfl) (by kernel_rfl) (vc_run ?_)
  ((try simp -implicitDefEqProofs [-loopQ_n]) <;> (repeat' (first | (refine condD_dec ?_ ?_ <;> (intro hc; (try simp -implicitDefEqProofs [-loopQ_n, hc]))) | (refine guardD_dec ?_ ?_ <;> (intro hc; (try simp -implicitDefEqProofs [-loopQ_n, hc]))) | (refine condD_intro ?_ ?_ <;> (intro hd; have hc := hd; (try simp at hc) <;> (try simp -implicitDefEqProofs [-loopQ_n, hd, hc]))) | (refine guardD_intro ?_ ?_ <;> (intro hd; have hc := hd; (try simp at hc) <;> (try simp -implicitDefEqProofs [-loopQ_n, hd, hc]))) | (refine ldD_ep ?_ ?_; (focus kernel_rfl); (try simp -implicitDefEqProofs [-loopQ_n])))))
  · simp [calOk]; omega
  have hlen := ‹¬ (100 : Int) < l.length›
  have hno : calV (-1) l = false → calOk l = false := fun h => by simp [calOk, h]
  have hyes : calV (-1) l = true → calOk l = true := fun h => by simp [calOk, h]; omega
  refine loop_intro (σ := Nat) (fun i => ⟨[(1, .op 0 0), (10, .rs (rowsOf spC l)), (11, .int .i64 l.length), (12, .int .i64 i)], [.box 25 [.rs (rowsOf spC l)]]⟩) (fun i => i ≤ l.length ∧ calV (prevT l i) (l.drop i) = calV (-1) l) (fun i => l.length - i) 0 ⟨by omega, rfl⟩ ?_ ?_
  · refine weak_of 1 0 rfl rfl ?_ ?_ <;> simp
  · rintro i ⟨hi, hR⟩
    by_cases h : i < l.length
    · have hgo : l[i]? = some l[i] := List.getElem?_eq_getElem h
      obtain ⟨⟨f, t⟩, hf⟩ : ∃ e, l[i] = e := ⟨_, rfl⟩
      rw [List.drop_eq_getElem_cons h, hf] at hR
      have hp1 : prevT l (i + 1) = t := by simp [prevT, hgo, hf]
      have hnx : wkV ⟨f, t⟩ = true → prevT l i < f → calV (prevT l (i + 1)) (l.drop (i + 1)) = calV (-1) l := fun h1 h2 => by rw [hp1, ← hR, calV, h1, decide_eq_true h2]; simp
      have hbd : (wkV ⟨f, t⟩ = false ∨ ¬ prevT l i < f) → calOk l = false := fun h1 => hno (by rw [← hR, calV]; rcases h1 with h1 | h1 <;> simp [h1])
      cases i with
      | zero =>
        have h' : (0 : Int) < l.length := by omega
        ((try simp -implicitDefEqProofs [-loopQ_n, h, h', hf, spC]) <;> (repeat' (first | (simp (disch := omega) only [wrap_in, if_pos, if_neg] <;> (try simp -implicitDefEqProofs [-loopQ_n, h, h', hf, spC])) | (refine condD_dec ?_ ?_ <;> (intro hc; (try simp -implicitDefEqProofs [-loopQ_n, hc, h, h', hf, spC]))) | (refine guardD_dec ?_ ?_ <;> (intro hc; (try simp -implicitDefEqProofs [-loopQ_n, hc, h, h', hf, spC]))) | (refine condD_intro ?_ ?_ <;> (intro hd; have hc := hd; (try simp at hc) <;> (try simp -implicitDefEqProofs [-loopQ_n, hd, hc, h, h', hf, spC]))) | (refine guardD_intro ?_ ?_ <;> (intro hd; have hc := hd; (try simp at hc) <;> (try simp -implicitDefEqProofs [-loopQ_n, hd, hc, h, h', hf, spC]))) | (refine ldD_ep ?_ ?_; (focus kernel_rfl); (try simp -implicitDefEqProofs [-loopQ_n, h, h', hf, spC])) | (refine callS_mk ?_; (try simp -implicitDefEqProofs [-loopQ_n, h, h', hf, spC]); (first | refine callS_intro (ofWeek_pure _ _) (.inl rfl) ?_); (try simp -implicitDefEqProofs [-loopQ_n, h, h', hf, spC])))))
        · have hw : wkV ⟨f, t⟩ = true := ‹_›
          refine loop_next 1 ⟨by omega, hnx hw ?_⟩ (by omega) (weak_of 1 0 rfl rfl ?_ ?_)
          · simp only [wkV, spV, Bool.and_eq_true, decide_eq_true_eq] at hw
            simp only [prevT]; omega
          · simp
          · simp
        · exact hbd (.inl ‹_›)
      | succ j =>
        have hj : j < l.length := by omega
        obtain ⟨⟨f2, t2⟩, hf2⟩ : ∃ e, l[j] = e := ⟨_, rfl⟩
        have hgj : l[j]? = some ⟨f2, t2⟩ := by rw [List.getElem?_eq_getElem hj, hf2]
        have hpj : prevT l (j + 1) = t2 := by simp [prevT, hgj]
        have h' : (j : Int) + 1 < l.length := by omega
        ((try simp -implicitDefEqProofs [-loopQ_n, h, h', hf, spC, hj, hf2, hgj]) <;> (repeat' (first | (simp (disch := omega) only [wrap_in, if_pos, if_neg] <;> (try simp -implicitDefEqProofs [-loopQ_n, h, h', hf, spC, hj, hf2, hgj])) | (refine condD_dec ?_ ?_ <;> (intro hc; (try simp -implicitDefEqProofs [-loopQ_n, hc, h, h', hf, spC, hj, hf2, hgj]))) | (refine guardD_dec ?_ ?_ <;> (intro hc; (try simp -implicitDefEqProofs [-loopQ_n, hc, h, h', hf, spC, hj, hf2, hgj]))) | (refine condD_intro ?_ ?_ <;> (intro hd; have hc := hd; (try simp at hc) <;> (try simp -implicitDefEqProofs [-loopQ_n, hd, hc, h, h', hf, spC, hj, hf2, hgj]))) | (refine guardD_intro ?_ ?_ <;> (intro hd; have hc := hd; (try simp at hc) <;> (try simp -implicitDefEqProofs [-loopQ_n, hd, hc, h, h', hf, spC, hj, hf2, hgj]))) | (refine ldD_ep ?_ ?_; (focus kernel_rfl); (try simp -implicitDefEqProofs [-loopQ_n, h, h', hf, spC, hj, hf2, hgj])) | (refine callS_mk ?_; (try simp -implicitDefEqProofs [-loopQ_n, h, h', hf, spC, hj, hf2, hgj]); (first | refine callS_intro (ofWeek_pure _ _) (.inl rfl) ?_); (try simp -implicitDefEqProofs [-loopQ_n, h, h', hf, spC, hj, hf2, hgj])))))
        · exact hbd (.inr (by omega))
        · refine loop_next (j + 1 + 1) ⟨by omega, hnx ‹_› (by omega)⟩ (by omega) (weak_of 1 0 rfl rfl ?_ ?_) <;> simp
        · exact hbd (.inl ‹_›)
    · rw [List.drop_eq_nil_of_le (by omega), calV] at hR
      ((try simp -implicitDefEqProofs [-loopQ_n, h]) <;> (repeat' (first | (refine condD_dec ?_ ?_ <;> (intro hc; (try simp -implicitDefEqProofs [-loopQ_n, hc, h]))) | (refine guardD_dec ?_ ?_ <;> (intro hc; (try simp -implicitDefEqProofs [-loopQ_n, hc, h]))) | (refine condD_intro ?_ ?_ <;> (intro hd; have hc := hd; (try simp at hc) <;> (try simp -implicitDefEqProofs [-loopQ_n, hd, hc, h]))) | (refine guardD_intro ?_ ?_ <;> (intro hd; have hc := hd; (try simp at hc) <;> (try simp -implicitDefEqProofs [-loopQ_n, hd, hc, h]))) | (refine ldD_ep ?_ ?_; (focus kernel_rfl); (try simp -implicitDefEqProofs [-loopQ_n, h])))))
      exact hyes hR.symm
set_option maxHeartbeats 8000000 in
theorem before_pure (l : List Sp) (w : Int) (hv : calOk l = true) (hw : 0 ≤ w ∧ w ≤ 10080) : Pure Tryz.prog 86 [.agg [.rs (rowsOf spC l)], .int .i64 w] (.int .i64 (befL w l)) := by
  obtain ⟨hln, hc⟩ := calOk_v hv
  have hbd := befL_len w hw.1 l fun s hs => by have := calV_mem hc hs; exact ⟨this.1, this.2.1⟩
  have hbd2 : w * l.length ≤ 10080 * 100 := Int.mul_le_mul hw.2 (by omega) (by omega) (by omega)
  refine pure_of mixed Tryz.func86 rfl (by kernel_rfl) (of_decide_eq_true rfl) (by kernel_rfl) (vc_run ?_)
  ((try simp -implicitDefEqProofs [-loopQ_n]) <;> (repeat' (first | (refine condD_dec ?_ ?_ <;> (intro hc; (try simp -implicitDefEqProofs [-loopQ_n, hc]))) | (refine guardD_dec ?_ ?_ <;> (intro hc; (try simp -implicitDefEqProofs [-loopQ_n, hc]))) | (refine condD_intro ?_ ?_ <;> (intro hd; have hc := hd; (try simp at hc) <;> (try simp -implicitDefEqProofs [-loopQ_n, hd, hc]))) | (refine guardD_intro ?_ ?_ <;> (intro hd; have hc := hd; (try simp at hc) <;> (try simp -implicitDefEqProofs [-loopQ_n, hd, hc]))) | (refine ldD_ep ?_ ?_; (focus kernel_rfl); (try simp -implicitDefEqProofs [-loopQ_n])))))
  refine loop_intro (σ := Nat × Int) (fun x => ⟨[(1, .int .i64 w), (5, .int .i64 x.2), (9, .rs (rowsOf spC l)), (10, .int .i64 l.length), (11, .int .i64 x.1)], []⟩) (fun x => x.1 ≤ l.length ∧ 0 ≤ x.2 ∧ x.2 + befL w (l.drop x.1) = befL w l) (fun x => l.length - x.1) (0, 0) ⟨by simp, by simp, by simp⟩ ?_ ?_
  · refine weak_of 0 0 rfl rfl ?_ ?_ <;> simp
  · rintro ⟨i, n⟩ ⟨hi, hn, hR⟩
    simp only at hi hn hR
    by_cases h : i < l.length
    · obtain ⟨⟨f, t⟩, hf⟩ : ∃ e, l[i] = e := ⟨_, rfl⟩
      rw [List.drop_eq_getElem_cons h, hf, befL] at hR
      have hm := calV_mem (s := ⟨f, t⟩) hc (hf ▸ List.getElem_mem h)
      simp only at hm
      have hnn := befL_nn w (l.drop (i + 1))
      have hs := spanB_nn w ⟨f, t⟩
      have w1 : wrapI .i64 ((if w < t then w else t) - f) = (if w < t then w else t) - f := by rw [wrap_in] <;> split <;> omega
      have w2 : wrapI .i64 (n + spanB w ⟨f, t⟩) = n + spanB w ⟨f, t⟩ := wrap_in (by omega) (by omega)
      have w3 := w_succ h (by omega)
      simp only [spanB] at w2
      ((try simp -implicitDefEqProofs [-loopQ_n, h, hf, spC, w1]) <;> (repeat' (first | (refine condD_dec ?_ ?_ <;> (intro hc; (try simp -implicitDefEqProofs [-loopQ_n, hc, h, hf, spC, w1]))) | (refine guardD_dec ?_ ?_ <;> (intro hc; (try simp -implicitDefEqProofs [-loopQ_n, hc, h, hf, spC, w1]))) | (refine condD_intro ?_ ?_ <;> (intro hd; have hc := hd; (try simp at hc) <;> (try simp -implicitDefEqProofs [-loopQ_n, hd, hc, h, hf, spC, w1]))) | (refine guardD_intro ?_ ?_ <;> (intro hd; have hc := hd; (try simp at hc) <;> (try simp -implicitDefEqProofs [-loopQ_n, hd, hc, h, hf, spC, w1]))) | (refine ldD_ep ?_ ?_; (focus kernel_rfl); (try simp -implicitDefEqProofs [-loopQ_n, h, hf, spC, w1])))))
      refine loop_next (i + 1, n + spanB w ⟨f, t⟩) ⟨by simp only; omega, by simp only; omega, by simp only; omega⟩ (by simp only; omega) (weak_of 0 0 rfl rfl ?_ ?_)
      · simp [w2, w3, spanB]
      · simp
    · rw [List.drop_eq_nil_of_le (by omega), befL] at hR
      ((try simp -implicitDefEqProofs [-loopQ_n, h]) <;> (repeat' (first | (refine condD_dec ?_ ?_ <;> (intro hc; (try simp -implicitDefEqProofs [-loopQ_n, hc, h]))) | (refine guardD_dec ?_ ?_ <;> (intro hc; (try simp -implicitDefEqProofs [-loopQ_n, hc, h]))) | (refine condD_intro ?_ ?_ <;> (intro hd; have hc := hd; (try simp at hc) <;> (try simp -implicitDefEqProofs [-loopQ_n, hd, hc, h]))) | (refine guardD_intro ?_ ?_ <;> (intro hd; have hc := hd; (try simp at hc) <;> (try simp -implicitDefEqProofs [-loopQ_n, hd, hc, h]))) | (refine ldD_ep ?_ ?_; (focus kernel_rfl); (try simp -implicitDefEqProofs [-loopQ_n, h])))))
      omega
theorem until_facts {l : List Sp} {t : Int} (hv : calOk l = true) (ht : inst t = true) : t.tdiv 10080 = t / 10080 ∧ t.tmod 10080 = t % 10080 ∧ wrapI .i64 (t / 10080) = t / 10080 ∧ wrapI .i64 (t / 10080 * befL 10080 l) = t / 10080 * befL 10080 l ∧ wrapI .i64 (t / 10080 * befL 10080 l + befL (t % 10080) l) = untL l t ∧ 0 ≤ t % 10080 ∧ t % 10080 ≤ 10080 := by
  obtain ⟨hln, hc⟩ := calOk_v hv
  rw [inst_iff] at ht
  have hb := untL_bd hc ht.1
  have h1 := befL_nn (t % 10080) l
  have h2 : 0 ≤ t / 10080 * befL 10080 l := Int.mul_nonneg (by omega) (befL_nn _ _)
  unfold untL at hb ⊢
  refine ⟨Int.tdiv_eq_ediv_of_nonneg ht.1, Int.tmod_eq_emod_of_nonneg ht.1, wrap_in (by omega) (by omega), wrap_in (by omega) (by omega), wrap_in (by omega) (by omega), by omega, by omega⟩
theorem until_pure (l : List Sp) (t : Int) (hv : calOk l = true) (ht : inst t = true) : Pure Tryz.prog 62 [.agg [.rs (rowsOf spC l)], .int .i64 t] (.int .i64 (untL l t)) := by
  obtain ⟨h1, h2, h3, h4, h5, h6, h7⟩ := until_facts hv ht
  refine pure_of mixed Tryz.func62 rfl (by kernel_rfl) (of_decide_eq_true rfl) (by kernel_rfl) (vc_run ?_)
  ((try simp -implicitDefEqProofs [-loopQ_n, h1, h2, h3, h4, h5]) <;> (repeat' (first | (refine condD_dec ?_ ?_ <;> (intro hc; (try simp -implicitDefEqProofs [-loopQ_n, hc, h1, h2, h3, h4, h5]))) | (refine guardD_dec ?_ ?_ <;> (intro hc; (try simp -implicitDefEqProofs [-loopQ_n, hc, h1, h2, h3, h4, h5]))) | (refine condD_intro ?_ ?_ <;> (intro hd; have hc := hd; (try simp at hc) <;> (try simp -implicitDefEqProofs [-loopQ_n, hd, hc, h1, h2, h3, h4, h5]))) | (refine guardD_intro ?_ ?_ <;> (intro hd; have hc := hd; (try simp at hc) <;> (try simp -implicitDefEqProofs [-loopQ_n, hd, hc, h1, h2, h3, h4, h5]))) | (refine ldD_ep ?_ ?_; (focus kernel_rfl); (try simp -implicitDefEqProofs [-loopQ_n, h1, h2, h3, h4, h5])) | (refine callS_mk ?_; (try simp -implicitDefEqProofs [-loopQ_n, h1, h2, h3, h4, h5]); (first | refine callS_intro (before_pure _ _ hv ⟨by omega, by omega⟩) (.inl rfl) ?_); (try simp -implicitDefEqProofs [-loopQ_n, h1, h2, h3, h4, h5])))))
theorem work_facts {l : List Sp} {f t : Int} (hv : calOk l = true) (hs : spV ⟨f, t⟩ = true) : inst f = true ∧ inst t = true ∧ wrapI .i64 (untL l t - untL l f) = untL l t - untL l f := by
  obtain ⟨hln, hc⟩ := calOk_v hv
  rw [spV_iff] at hs
  simp only at hs
  have hb := untL_bd hc (t := t) (by omega)
  have hb2 := untL_bd hc (t := f) (by omega)
  exact ⟨inst_iff.2 ⟨by omega, by omega⟩, inst_iff.2 ⟨by omega, by omega⟩, wrap_in (by omega) (by omega)⟩
theorem working_pure (l : List Sp) (f t : Int) : Pure Tryz.prog 41 [.agg [.rs (rowsOf spC l)], .agg [.int .i64 f, .int .i64 t]] (.tup [.int .i64 (workOut l ⟨f, t⟩).1, .int .i64 (workOut l ⟨f, t⟩).2]) := by
  refine pure_of mixed Tryz.func41 rfl (by kernel_rfl) (of_decide_eq_true rfl) (by kernel_rfl) (vc_run ?_)
  by_cases hh : calOk l = true ∧ spV ⟨f, t⟩ = true
  · obtain ⟨h1, h2, h3⟩ := work_facts hh.1 hh.2
    ((try simp -implicitDefEqProofs [-loopQ_n, workOut, hh, h3]) <;> (repeat' (first | (refine condD_dec ?_ ?_ <;> (intro hc; (try simp -implicitDefEqProofs [-loopQ_n, hc, workOut, hh, h3]))) | (refine guardD_dec ?_ ?_ <;> (intro hc; (try simp -implicitDefEqProofs [-loopQ_n, hc, workOut, hh, h3]))) | (refine condD_intro ?_ ?_ <;> (intro hd; have hc := hd; (try simp at hc) <;> (try simp -implicitDefEqProofs [-loopQ_n, hd, hc, workOut, hh, h3]))) | (refine guardD_intro ?_ ?_ <;> (intro hd; have hc := hd; (try simp at hc) <;> (try simp -implicitDefEqProofs [-loopQ_n, hd, hc, workOut, hh, h3]))) | (refine ldD_ep ?_ ?_; (focus kernel_rfl); (try simp -implicitDefEqProofs [-loopQ_n, workOut, hh, h3])) | (refine callS_mk ?_; (try simp -implicitDefEqProofs [-loopQ_n, workOut, hh, h3]); (first | refine callS_intro (valid_pure _) (.inl rfl) ?_ | refine callS_intro (validSpan_pure _ _) (.inl rfl) ?_ | refine callS_intro (until_pure _ _ hh.1 h2) (.inl rfl) ?_ | refine callS_intro (until_pure _ _ hh.1 h1) (.inl rfl) ?_); (try simp -implicitDefEqProofs [-loopQ_n, workOut, hh, h3])))))
  · ((try simp -implicitDefEqProofs [-loopQ_n, workOut, hh]) <;> (repeat' (first | (refine condD_dec ?_ ?_ <;> (intro hc; (try simp -implicitDefEqProofs [-loopQ_n, hc, workOut, hh]))) | (refine guardD_dec ?_ ?_ <;> (intro hc; (try simp -implicitDefEqProofs [-loopQ_n, hc, workOut, hh]))) | (refine condD_intro ?_ ?_ <;> (intro hd; have hc := hd; (try simp at hc) <;> (try simp -implicitDefEqProofs [-loopQ_n, hd, hc, workOut, hh]))) | (refine guardD_intro ?_ ?_ <;> (intro hd; have hc := hd; (try simp at hc) <;> (try simp -implicitDefEqProofs [-loopQ_n, hd, hc, workOut, hh]))) | (refine ldD_ep ?_ ?_; (focus kernel_rfl); (try simp -implicitDefEqProofs [-loopQ_n, workOut, hh])) | (refine callS_mk ?_; (try simp -implicitDefEqProofs [-loopQ_n, workOut, hh]); (first | refine callS_intro (valid_pure _) (.inl rfl) ?_ | refine callS_intro (validSpan_pure _ _) (.inl rfl) ?_); (try simp -implicitDefEqProofs [-loopQ_n, workOut, hh])))))
    all_goals simp_all
theorem spans_reify {H : List Blk} {n : Nat} {l : List Sp} : (rowsOf spC l).mapM (fun row => row.mapM (reify H (n + 1))) = some (rowsOf spC l) := rowsOf_reify fun x => by simp [spC, reify]
theorem cfSpan_idx {p : Sp → Bool} {l : List Sp} {g : Nat} {caps : List AV} (hp : ∀ x ∈ l, Pure Tryz.prog g (.agg (spC x) :: caps) (.bool (p x))) (hc : ∀ H k, caps.mapM (reify H (k + 5)) = some caps) (hf : refsL 0 caps = true) (hl : l.length ≤ 9223372036854775807) :
    Pure Tryz.prog 51 [.rs (rowsOf spC l), .fn g caps] (.int .i64 (idxOf p l)) := by
  refine pure_of mixed Tryz.func51 rfl (by kernel_rfl) (of_decide_eq_true rfl) (by kernel_rfl) (vc_run ?_)
  simp -implicitDefEqProofs
  refine loop_intro (σ := Nat) (fun i => ⟨[(0, .rs (rowsOf spC l)), (1, .fn g caps), (7, .int .i64 l.length), (8, .int .i64 i)], []⟩) (fun i => i ≤ l.length ∧ allF p (l.take i)) (fun i => l.length - i) 0 ⟨Nat.zero_le _, allF_nil⟩ ?_ ?_
  · refine weak_of 0 0 rfl rfl ?_ ?_ <;> simp [hf]
  · rintro i ⟨hi, hall⟩
    by_cases h : i < l.length
    · simp -implicitDefEqProofs [h, spC]
      have hc8 : ∀ H, caps.mapM (reify H 8) = some caps := fun H => hc H 3
      refine call_intro (hp l[i] (by simp)) (by simp -implicitDefEqProofs [hc8, spC]) (.inl rfl) ?_
      by_cases hpx : p l[i] = true
      · simp -implicitDefEqProofs [hpx]
        exact (idxOf_some p l i h hall hpx).symm
      · have hpx : p l[i] = false := by simpa using hpx
        simp -implicitDefEqProofs [hpx]
        refine ⟨i + 1, ⟨by omega, allF_succ hall h hpx⟩, by omega, weak_of 0 0 rfl rfl ?_ ?_⟩
        · simp [hf]
          exact (wrap_in (by omega) (by omega)).symm
        · simp
    · simp -implicitDefEqProofs [h]
      rw [idxOf_none p l (allF_all hall h)]
theorem cfSpan_any {p : Sp → Bool} {l : List Sp} {g : Nat} {caps : List AV} (hp : ∀ x ∈ l, Pure Tryz.prog g (.agg (spC x) :: caps) (.bool (p x))) (hc : ∀ H k, caps.mapM (reify H (k + 5)) = some caps) (hf : refsL 0 caps = true) (hl : l.length ≤ 9223372036854775807) :
    Pure Tryz.prog 23 [.rs (rowsOf spC l), .fn g caps] (.bool (l.any p)) := by
  refine pure_of mixed Tryz.func23 rfl (by kernel_rfl) (of_decide_eq_true rfl) (by kernel_rfl) (vc_run ?_)
  simp -implicitDefEqProofs
  have hc7 : ∀ H, caps.mapM (reify H 7) = some caps := fun H => hc H 2
  refine call_intro (cfSpan_idx hp hc hf hl) (by simp -implicitDefEqProofs [hc7]) (.inl rfl) ?_
  simp -implicitDefEqProofs
  rw [← ge_idxOf]

theorem after_facts {l : List Sp} {t n : Int} (hv : calOk l = true) (ht : inst t = true) (hn : inst n = true) (h0 : ¬ n = 0) (hl : l ≠ []) :
    wrapI .i64 (untL l t + n) = untL l t + n ∧ wrapI .i64 (untL l t + n - 1) = untL l t + n - 1 ∧ (untL l t + n - 1).tdiv (befL 10080 l) = (untL l t + n - 1) / befL 10080 l ∧ (untL l t + n - 1).tmod (befL 10080 l) = (untL l t + n - 1) % befL 10080 l ∧ wrapI .i64 ((untL l t + n - 1) / befL 10080 l) = (untL l t + n - 1) / befL 10080 l ∧ wrapI .i64 ((untL l t + n - 1) / befL 10080 l * 10080) = (untL l t + n - 1) / befL 10080 l * 10080 ∧ ¬ befL 10080 l = 0 := by
  obtain ⟨b1, b2, b3, b4, b5, b6, b7, b8, b9⟩ := aftU_bounds hv hl ht hn h0
  rw [inst_iff] at hn
  exact ⟨wrap_in (by omega) (by omega), wrap_in (by omega) (by omega), Int.tdiv_eq_ediv_of_nonneg (by omega), Int.tmod_eq_emod_of_nonneg (by omega), wrap_in (by omega) (by omega), wrap_in (by omega) (by omega), by omega⟩
end Go.Proofs.YtfbpjlabhckoeaaGreat
