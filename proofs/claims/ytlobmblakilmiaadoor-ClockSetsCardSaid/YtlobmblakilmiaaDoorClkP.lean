/- Calendars: the program's Closed, Both and Make. -/
import Derived.Test.YtlobmblakilmiaaDoorClSp
namespace Go.Proofs.YtlobmblakilmiaaDoor
set_option linter.unusedSimpArgs false
set_option linter.unusedVariables false
set_option linter.unnecessarySimpa false
set_option linter.unusedSectionVars false
open Go.RowKit
variable [Glob]
set_option maxRecDepth 100000
theorem closL_len : ∀ (l : List Sp) (f : Int), (closL f l).length ≤ l.length + 1 := by
  intro l
  induction l with
  | nil => intro f; simp only [closL]; split <;> simp
  | cons s r ih => intro f; have := ih s.t; simp only [closL]; split <;> simp <;> omega
set_option maxHeartbeats 8000000 in
theorem clos_pure (a : List Sp) : Pure Tryd.prog 31 [.agg [.rs (rowsOf spC a)]] (if calOk a = true then calOut (closL 0 a) else .tup [.agg [.rs []], .int .i64 1]) := by
  refine pure_of mixed Tryd.func31 rfl (by kernel_rfl) (of_decide_eq_true rfl) (by kernel_rfl) (vc_run ?_)
  by_cases ha : calOk a = true
  · rw [if_pos ha]
    have hla := (calOk_v ha).1
    have hcl := closL_len a 0
    ((try simp -implicitDefEqProofs [-loopQ_n, ha]) <;> (repeat' (first | (refine condD_dec ?_ ?_ <;> (intro hc; (try simp -implicitDefEqProofs [-loopQ_n, hc, ha]))) | (refine guardD_dec ?_ ?_ <;> (intro hc; (try simp -implicitDefEqProofs [-loopQ_n, hc, ha]))) | (refine condD_intro ?_ ?_ <;> (intro hd; have hc := hd; (try simp at hc) <;> (try simp -implicitDefEqProofs [-loopQ_n, hd, hc, ha]))) | (refine guardD_intro ?_ ?_ <;> (intro hd; have hc := hd; (try simp at hc) <;> (try simp -implicitDefEqProofs [-loopQ_n, hd, hc, ha]))) | (refine ldD_ep ?_ ?_; (focus kernel_rfl); (try simp -implicitDefEqProofs [-loopQ_n, ha])) | (refine callS_mk ?_; (try simp -implicitDefEqProofs [-loopQ_n, ha]); (first | refine callS_intro (valid_pure _) (.inl rfl) ?_); (try simp -implicitDefEqProofs [-loopQ_n, ha])))))
    refine loop_intro (σ := Nat × Int × List Sp) (fun x => ⟨[(2, .op 1 0), (4, .os 2 x.2.2.length), (5, .int .i64 x.2.1), (13, .rs (rowsOf spC a)), (14, .int .i64 a.length), (15, .int .i64 x.1)], [.box 24 [.rs (rowsOf spC a)], .box 24 [.nils], .row 26 true (rowsOf spC x.2.2)]⟩)
      (fun x => x.1 ≤ a.length ∧ x.2.2.length ≤ x.1 ∧ x.2.2 ++ closL x.2.1 (a.drop x.1) = closL 0 a) (fun x => a.length - x.1) (0, 0, []) ⟨by simp, by simp, by simp⟩ ?_ ?_
    · refine weak_of 2 1 rfl rfl ?_ ?_ <;> simp [rowsOf]
    rintro ⟨i, f, acc⟩ ⟨hi, hal, hR⟩
    simp only at hi hal hR
    by_cases h : i < a.length
    · have w1 := w_succ h (by omega)
      obtain ⟨⟨g, t⟩, hf⟩ : ∃ e, a[i] = e := ⟨_, rfl⟩
      rw [List.drop_eq_getElem_cons h, hf, closL] at hR
      have hl1 : acc.length ≤ 1073741823 := by omega
      by_cases c1 : f < g
      · rw [if_pos (show f < (⟨g, t⟩ : Sp).f from c1)] at hR
        ((try simp -implicitDefEqProofs [-loopQ_n, h, hf, spC, c1, w1, hl1, spC_len, spC_snoc]) <;> (repeat' (first | (refine condD_dec ?_ ?_ <;> (intro hc; (try simp -implicitDefEqProofs [-loopQ_n, hc, h, hf, spC, c1, w1, hl1, spC_len, spC_snoc]))) | (refine guardD_dec ?_ ?_ <;> (intro hc; (try simp -implicitDefEqProofs [-loopQ_n, hc, h, hf, spC, c1, w1, hl1, spC_len, spC_snoc]))) | (refine condD_intro ?_ ?_ <;> (intro hd; have hc := hd; (try simp at hc) <;> (try simp -implicitDefEqProofs [-loopQ_n, hd, hc, h, hf, spC, c1, w1, hl1, spC_len, spC_snoc]))) | (refine guardD_intro ?_ ?_ <;> (intro hd; have hc := hd; (try simp at hc) <;> (try simp -implicitDefEqProofs [-loopQ_n, hd, hc, h, hf, spC, c1, w1, hl1, spC_len, spC_snoc]))) | (refine ldD_ep ?_ ?_; (focus kernel_rfl); (try simp -implicitDefEqProofs [-loopQ_n, h, hf, spC, c1, w1, hl1, spC_len, spC_snoc])))))
        refine loop_next (i + 1, t, acc ++ [⟨f, g⟩]) ⟨h, by simp; omega, by simp only; rw [← hR]; simp⟩ (by simp only; omega) (weak_of 3 0 rfl rfl ?_ ?_) <;> simp [spC_refs]
      · rw [if_neg (show ¬ f < (⟨g, t⟩ : Sp).f from c1)] at hR
        ((try simp -implicitDefEqProofs [-loopQ_n, h, hf, spC, c1, w1]) <;> (repeat' (first | (refine condD_dec ?_ ?_ <;> (intro hc; (try simp -implicitDefEqProofs [-loopQ_n, hc, h, hf, spC, c1, w1]))) | (refine guardD_dec ?_ ?_ <;> (intro hc; (try simp -implicitDefEqProofs [-loopQ_n, hc, h, hf, spC, c1, w1]))) | (refine condD_intro ?_ ?_ <;> (intro hd; have hc := hd; (try simp at hc) <;> (try simp -implicitDefEqProofs [-loopQ_n, hd, hc, h, hf, spC, c1, w1]))) | (refine guardD_intro ?_ ?_ <;> (intro hd; have hc := hd; (try simp at hc) <;> (try simp -implicitDefEqProofs [-loopQ_n, hd, hc, h, hf, spC, c1, w1]))) | (refine ldD_ep ?_ ?_; (focus kernel_rfl); (try simp -implicitDefEqProofs [-loopQ_n, h, hf, spC, c1, w1])))))
        refine loop_next (i + 1, t, acc) ⟨h, by simp only; omega, by simp only; rw [← hR]; simp⟩ (by simp only; omega) (weak_of 3 0 rfl rfl ?_ ?_) <;> simp [spC_refs]
    · rw [List.drop_eq_nil_of_le (by omega), closL] at hR
      have hl1 : acc.length ≤ 1073741823 := by omega
      by_cases c1 : f < 10080
      · rw [if_pos c1] at hR
        ((try simp -implicitDefEqProofs [-loopQ_n, h, c1, hl1, spC_len, spC_snoc]) <;> (repeat' (first | (refine condD_dec ?_ ?_ <;> (intro hc; (try simp -implicitDefEqProofs [-loopQ_n, hc, h, c1, hl1, spC_len, spC_snoc]))) | (refine guardD_dec ?_ ?_ <;> (intro hc; (try simp -implicitDefEqProofs [-loopQ_n, hc, h, c1, hl1, spC_len, spC_snoc]))) | (refine condD_intro ?_ ?_ <;> (intro hd; have hc := hd; (try simp at hc) <;> (try simp -implicitDefEqProofs [-loopQ_n, hd, hc, h, c1, hl1, spC_len, spC_snoc]))) | (refine guardD_intro ?_ ?_ <;> (intro hd; have hc := hd; (try simp at hc) <;> (try simp -implicitDefEqProofs [-loopQ_n, hd, hc, h, c1, hl1, spC_len, spC_snoc]))) | (refine ldD_ep ?_ ?_; (focus kernel_rfl); (try simp -implicitDefEqProofs [-loopQ_n, h, c1, hl1, spC_len, spC_snoc])))))
        by_cases hk : 100 < acc.length + 1
        · have hk' : (100 : Int) < (acc.length : Int) + 1 := by omega
          have hkz : 100 < (closL 0 a).length := by rw [← hR]; simp; omega
          refine inl_intro mixed Tryd.func57 rfl (by kernel_rfl) (of_decide_eq_true rfl) (by kernel_rfl) ?_
          ((try simp -implicitDefEqProofs [-loopQ_n, hk', hk]) <;> (repeat' (first | (refine condD_dec ?_ ?_ <;> (intro hc; (try simp -implicitDefEqProofs [-loopQ_n, hc, hk', hk]))) | (refine guardD_dec ?_ ?_ <;> (intro hc; (try simp -implicitDefEqProofs [-loopQ_n, hc, hk', hk]))) | (refine condD_intro ?_ ?_ <;> (intro hd; have hc := hd; (try simp at hc) <;> (try simp -implicitDefEqProofs [-loopQ_n, hd, hc, hk', hk]))) | (refine guardD_intro ?_ ?_ <;> (intro hd; have hc := hd; (try simp at hc) <;> (try simp -implicitDefEqProofs [-loopQ_n, hd, hc, hk', hk]))) | (refine ldD_ep ?_ ?_; (focus kernel_rfl); (try simp -implicitDefEqProofs [-loopQ_n, hk', hk])))))
          refine endG_r (.tup [.agg [.nils], .int .i64 5]) (by simp) ?_
          simp -implicitDefEqProofs [contK]
          ((try simp -implicitDefEqProofs [-loopQ_n, calOut, hkz]) <;> (repeat' (first | (refine condD_dec ?_ ?_ <;> (intro hc; (try simp -implicitDefEqProofs [-loopQ_n, hc, calOut, hkz]))) | (refine guardD_dec ?_ ?_ <;> (intro hc; (try simp -implicitDefEqProofs [-loopQ_n, hc, calOut, hkz]))) | (refine condD_intro ?_ ?_ <;> (intro hd; have hc := hd; (try simp at hc) <;> (try simp -implicitDefEqProofs [-loopQ_n, hd, hc, calOut, hkz]))) | (refine guardD_intro ?_ ?_ <;> (intro hd; have hc := hd; (try simp at hc) <;> (try simp -implicitDefEqProofs [-loopQ_n, hd, hc, calOut, hkz]))) | (refine ldD_ep ?_ ?_; (focus kernel_rfl); (try simp -implicitDefEqProofs [-loopQ_n, calOut, hkz])))))
        · have hk' : ¬ (100 : Int) < (acc.length : Int) + 1 := by omega
          have hkz : ¬ 100 < (closL 0 a).length := by rw [← hR]; simp; omega
          refine inl_intro mixed Tryd.func57 rfl (by kernel_rfl) (of_decide_eq_true rfl) (by kernel_rfl) ?_
          ((try simp -implicitDefEqProofs [-loopQ_n, hk', hk]) <;> (repeat' (first | (refine condD_dec ?_ ?_ <;> (intro hc; (try simp -implicitDefEqProofs [-loopQ_n, hc, hk', hk]))) | (refine guardD_dec ?_ ?_ <;> (intro hc; (try simp -implicitDefEqProofs [-loopQ_n, hc, hk', hk]))) | (refine condD_intro ?_ ?_ <;> (intro hd; have hc := hd; (try simp at hc) <;> (try simp -implicitDefEqProofs [-loopQ_n, hd, hc, hk', hk]))) | (refine guardD_intro ?_ ?_ <;> (intro hd; have hc := hd; (try simp at hc) <;> (try simp -implicitDefEqProofs [-loopQ_n, hd, hc, hk', hk]))) | (refine ldD_ep ?_ ?_; (focus kernel_rfl); (try simp -implicitDefEqProofs [-loopQ_n, hk', hk])))))
          refine endG_r (.tup [.agg [.os 2 (acc.length + 1)], .int .i64 0]) (by simp) ?_
          simp -implicitDefEqProofs [contK]
          ((try simp -implicitDefEqProofs [-loopQ_n, calOut, hkz, hR, spans_reify, spC_len]) <;> (repeat' (first | (refine condD_dec ?_ ?_ <;> (intro hc; (try simp -implicitDefEqProofs [-loopQ_n, hc, calOut, hkz, hR, spans_reify, spC_len]))) | (refine guardD_dec ?_ ?_ <;> (intro hc; (try simp -implicitDefEqProofs [-loopQ_n, hc, calOut, hkz, hR, spans_reify, spC_len]))) | (refine condD_intro ?_ ?_ <;> (intro hd; have hc := hd; (try simp at hc) <;> (try simp -implicitDefEqProofs [-loopQ_n, hd, hc, calOut, hkz, hR, spans_reify, spC_len]))) | (refine guardD_intro ?_ ?_ <;> (intro hd; have hc := hd; (try simp at hc) <;> (try simp -implicitDefEqProofs [-loopQ_n, hd, hc, calOut, hkz, hR, spans_reify, spC_len]))) | (refine ldD_ep ?_ ?_; (focus kernel_rfl); (try simp -implicitDefEqProofs [-loopQ_n, calOut, hkz, hR, spans_reify, spC_len])))))
          all_goals (rw [← hR]; simp)
      · rw [if_neg c1] at hR
        ((try simp -implicitDefEqProofs [-loopQ_n, h, c1, hl1, spC_len, spC_snoc]) <;> (repeat' (first | (refine condD_dec ?_ ?_ <;> (intro hc; (try simp -implicitDefEqProofs [-loopQ_n, hc, h, c1, hl1, spC_len, spC_snoc]))) | (refine guardD_dec ?_ ?_ <;> (intro hc; (try simp -implicitDefEqProofs [-loopQ_n, hc, h, c1, hl1, spC_len, spC_snoc]))) | (refine condD_intro ?_ ?_ <;> (intro hd; have hc := hd; (try simp at hc) <;> (try simp -implicitDefEqProofs [-loopQ_n, hd, hc, h, c1, hl1, spC_len, spC_snoc]))) | (refine guardD_intro ?_ ?_ <;> (intro hd; have hc := hd; (try simp at hc) <;> (try simp -implicitDefEqProofs [-loopQ_n, hd, hc, h, c1, hl1, spC_len, spC_snoc]))) | (refine ldD_ep ?_ ?_; (focus kernel_rfl); (try simp -implicitDefEqProofs [-loopQ_n, h, c1, hl1, spC_len, spC_snoc])))))
        by_cases hk : 100 < acc.length
        · have hk' : (100 : Int) < (acc.length : Int) := by omega
          have hkz : 100 < (closL 0 a).length := by rw [← hR]; simp; omega
          refine inl_intro mixed Tryd.func57 rfl (by kernel_rfl) (of_decide_eq_true rfl) (by kernel_rfl) ?_
          ((try simp -implicitDefEqProofs [-loopQ_n, hk', hk]) <;> (repeat' (first | (refine condD_dec ?_ ?_ <;> (intro hc; (try simp -implicitDefEqProofs [-loopQ_n, hc, hk', hk]))) | (refine guardD_dec ?_ ?_ <;> (intro hc; (try simp -implicitDefEqProofs [-loopQ_n, hc, hk', hk]))) | (refine condD_intro ?_ ?_ <;> (intro hd; have hc := hd; (try simp at hc) <;> (try simp -implicitDefEqProofs [-loopQ_n, hd, hc, hk', hk]))) | (refine guardD_intro ?_ ?_ <;> (intro hd; have hc := hd; (try simp at hc) <;> (try simp -implicitDefEqProofs [-loopQ_n, hd, hc, hk', hk]))) | (refine ldD_ep ?_ ?_; (focus kernel_rfl); (try simp -implicitDefEqProofs [-loopQ_n, hk', hk])))))
          refine endG_r (.tup [.agg [.nils], .int .i64 5]) (by simp) ?_
          simp -implicitDefEqProofs [contK]
          ((try simp -implicitDefEqProofs [-loopQ_n, calOut, hkz]) <;> (repeat' (first | (refine condD_dec ?_ ?_ <;> (intro hc; (try simp -implicitDefEqProofs [-loopQ_n, hc, calOut, hkz]))) | (refine guardD_dec ?_ ?_ <;> (intro hc; (try simp -implicitDefEqProofs [-loopQ_n, hc, calOut, hkz]))) | (refine condD_intro ?_ ?_ <;> (intro hd; have hc := hd; (try simp at hc) <;> (try simp -implicitDefEqProofs [-loopQ_n, hd, hc, calOut, hkz]))) | (refine guardD_intro ?_ ?_ <;> (intro hd; have hc := hd; (try simp at hc) <;> (try simp -implicitDefEqProofs [-loopQ_n, hd, hc, calOut, hkz]))) | (refine ldD_ep ?_ ?_; (focus kernel_rfl); (try simp -implicitDefEqProofs [-loopQ_n, calOut, hkz])))))
        · have hk' : ¬ (100 : Int) < (acc.length : Int) := by omega
          have hkz : ¬ 100 < (closL 0 a).length := by rw [← hR]; simp; omega
          refine inl_intro mixed Tryd.func57 rfl (by kernel_rfl) (of_decide_eq_true rfl) (by kernel_rfl) ?_
          ((try simp -implicitDefEqProofs [-loopQ_n, hk', hk]) <;> (repeat' (first | (refine condD_dec ?_ ?_ <;> (intro hc; (try simp -implicitDefEqProofs [-loopQ_n, hc, hk', hk]))) | (refine guardD_dec ?_ ?_ <;> (intro hc; (try simp -implicitDefEqProofs [-loopQ_n, hc, hk', hk]))) | (refine condD_intro ?_ ?_ <;> (intro hd; have hc := hd; (try simp at hc) <;> (try simp -implicitDefEqProofs [-loopQ_n, hd, hc, hk', hk]))) | (refine guardD_intro ?_ ?_ <;> (intro hd; have hc := hd; (try simp at hc) <;> (try simp -implicitDefEqProofs [-loopQ_n, hd, hc, hk', hk]))) | (refine ldD_ep ?_ ?_; (focus kernel_rfl); (try simp -implicitDefEqProofs [-loopQ_n, hk', hk])))))
          refine endG_r (.tup [.agg [.os 2 (acc.length)], .int .i64 0]) (by simp) ?_
          simp -implicitDefEqProofs [contK]
          ((try simp -implicitDefEqProofs [-loopQ_n, calOut, hkz, hR, spans_reify, spC_len]) <;> (repeat' (first | (refine condD_dec ?_ ?_ <;> (intro hc; (try simp -implicitDefEqProofs [-loopQ_n, hc, calOut, hkz, hR, spans_reify, spC_len]))) | (refine guardD_dec ?_ ?_ <;> (intro hc; (try simp -implicitDefEqProofs [-loopQ_n, hc, calOut, hkz, hR, spans_reify, spC_len]))) | (refine condD_intro ?_ ?_ <;> (intro hd; have hc := hd; (try simp at hc) <;> (try simp -implicitDefEqProofs [-loopQ_n, hd, hc, calOut, hkz, hR, spans_reify, spC_len]))) | (refine guardD_intro ?_ ?_ <;> (intro hd; have hc := hd; (try simp at hc) <;> (try simp -implicitDefEqProofs [-loopQ_n, hd, hc, calOut, hkz, hR, spans_reify, spC_len]))) | (refine ldD_ep ?_ ?_; (focus kernel_rfl); (try simp -implicitDefEqProofs [-loopQ_n, calOut, hkz, hR, spans_reify, spC_len])))))
          all_goals (rw [← hR]; simp)
  · rw [if_neg ha]
    have ha : calOk a = false := by simpa using ha
    ((try simp -implicitDefEqProofs [-loopQ_n, ha]) <;> (repeat' (first | (refine condD_dec ?_ ?_ <;> (intro hc; (try simp -implicitDefEqProofs [-loopQ_n, hc, ha]))) | (refine guardD_dec ?_ ?_ <;> (intro hc; (try simp -implicitDefEqProofs [-loopQ_n, hc, ha]))) | (refine condD_intro ?_ ?_ <;> (intro hd; have hc := hd; (try simp at hc) <;> (try simp -implicitDefEqProofs [-loopQ_n, hd, hc, ha]))) | (refine guardD_intro ?_ ?_ <;> (intro hd; have hc := hd; (try simp at hc) <;> (try simp -implicitDefEqProofs [-loopQ_n, hd, hc, ha]))) | (refine ldD_ep ?_ ?_; (focus kernel_rfl); (try simp -implicitDefEqProofs [-loopQ_n, ha])) | (refine callS_mk ?_; (try simp -implicitDefEqProofs [-loopQ_n, ha]); (first | refine callS_intro (valid_pure _) (.inl rfl) ?_); (try simp -implicitDefEqProofs [-loopQ_n, ha])))))
theorem both1_len (x : Sp) (b : List Sp) : (both1 x b).length ≤ b.length := by
  unfold both1
  exact Nat.le_trans (List.length_filter_le _ _) (by simp)
set_option maxHeartbeats 8000000 in
theorem both_pure (a b : List Sp) : Pure Tryd.prog 29 [.agg [.rs (rowsOf spC a)], .agg [.rs (rowsOf spC b)]] (if calOk a = true ∧ calOk b = true then calOut (bothL a b) else .tup [.agg [.rs []], .int .i64 1]) := by
  refine pure_of mixed Tryd.func29 rfl (by kernel_rfl) (of_decide_eq_true rfl) (by kernel_rfl) (vc_run ?_)
  by_cases hab : calOk a = true ∧ calOk b = true
  · rw [if_pos hab]
    obtain ⟨ha, hb⟩ := hab
    have hla := (calOk_v ha).1
    have hlb := (calOk_v hb).1
    ((try simp -implicitDefEqProofs [-loopQ_n, ha, hb]) <;> (repeat' (first | (refine condD_dec ?_ ?_ <;> (intro hc; (try simp -implicitDefEqProofs [-loopQ_n, hc, ha, hb]))) | (refine guardD_dec ?_ ?_ <;> (intro hc; (try simp -implicitDefEqProofs [-loopQ_n, hc, ha, hb]))) | (refine condD_intro ?_ ?_ <;> (intro hd; have hc := hd; (try simp at hc) <;> (try simp -implicitDefEqProofs [-loopQ_n, hd, hc, ha, hb]))) | (refine guardD_intro ?_ ?_ <;> (intro hd; have hc := hd; (try simp at hc) <;> (try simp -implicitDefEqProofs [-loopQ_n, hd, hc, ha, hb]))) | (refine ldD_ep ?_ ?_; (focus kernel_rfl); (try simp -implicitDefEqProofs [-loopQ_n, ha, hb])) | (refine callS_mk ?_; (try simp -implicitDefEqProofs [-loopQ_n, ha, hb]); (first | refine callS_intro (valid_pure _) (.inl rfl) ?_); (try simp -implicitDefEqProofs [-loopQ_n, ha, hb])))))
    refine loop_intro (σ := Nat × List Sp) (fun x => ⟨[(3, .op 1 0), (4, .op 2 0), (6, .os 3 x.2.length), (22, .rs (rowsOf spC a)), (23, .int .i64 a.length), (24, .int .i64 x.1)], [.box 24 [.rs (rowsOf spC a)], .box 24 [.rs (rowsOf spC b)], .box 24 [.nils], .row 26 true (rowsOf spC x.2)]⟩)
      (fun x => x.1 ≤ a.length ∧ x.2.length ≤ 100 * x.1 ∧ x.2 ++ bothL (a.drop x.1) b = bothL a b) (fun x => a.length - x.1) (0, []) ⟨by simp, by simp, by simp⟩ ?_ ?_
    · refine weak_of 3 1 rfl rfl ?_ ?_ <;> simp [rowsOf]
    rintro ⟨i, acc⟩ ⟨hi, hal, hR⟩
    simp only at hi hal hR
    by_cases h : i < a.length
    · have w1 := w_succ h (by omega)
      obtain ⟨⟨f, t⟩, hf⟩ : ∃ e, a[i] = e := ⟨_, rfl⟩
      have hc : bothL (a.drop i) b = both1 ⟨f, t⟩ b ++ bothL (a.drop (i + 1)) b := by rw [List.drop_eq_getElem_cons h, hf]; simp [bothL]
      rw [hc] at hR
      ((try simp -implicitDefEqProofs [-loopQ_n, h, hf, spC]) <;> (repeat' (first | (refine condD_dec ?_ ?_ <;> (intro hc; (try simp -implicitDefEqProofs [-loopQ_n, hc, h, hf, spC]))) | (refine guardD_dec ?_ ?_ <;> (intro hc; (try simp -implicitDefEqProofs [-loopQ_n, hc, h, hf, spC]))) | (refine condD_intro ?_ ?_ <;> (intro hd; have hc := hd; (try simp at hc) <;> (try simp -implicitDefEqProofs [-loopQ_n, hd, hc, h, hf, spC]))) | (refine guardD_intro ?_ ?_ <;> (intro hd; have hc := hd; (try simp at hc) <;> (try simp -implicitDefEqProofs [-loopQ_n, hd, hc, h, hf, spC]))) | (refine ldD_ep ?_ ?_; (focus kernel_rfl); (try simp -implicitDefEqProofs [-loopQ_n, h, hf, spC])))))
      refine loop_intro (σ := Nat × List Sp) (fun x => ⟨[(3, .op 1 0), (4, .op 2 0), (6, .os 3 x.2.length), (8, .op 4 0), (22, .rs (rowsOf spC a)), (23, .int .i64 a.length), (24, .int .i64 i), (29, .rs (rowsOf spC b)), (30, .int .i64 b.length), (31, .int .i64 x.1)], [.box 24 [.rs (rowsOf spC a)], .box 24 [.rs (rowsOf spC b)], .box 24 [.nils], .row 26 true (rowsOf spC x.2), .box 26 [.int .i64 f, .int .i64 t]]⟩)
        (fun x => x.1 ≤ b.length ∧ x.2.length ≤ 100 * i + x.1 ∧ x.2 ++ (both1 ⟨f, t⟩ (b.drop x.1) ++ bothL (a.drop (i + 1)) b) = bothL a b) (fun x => b.length - x.1) (0, acc) ⟨by simp, by simpa using hal, by simpa using hR⟩ ?_ ?_
      · refine weak_of 5 0 rfl rfl ?_ ?_ <;> simp [spC_refs]
      rintro ⟨j, acc⟩ ⟨hj, hal, hR⟩
      simp only at hj hal hR
      by_cases g : j < b.length
      · have w2 := w_succ g (by omega)
        obtain ⟨⟨f2, t2⟩, hf2⟩ : ∃ e, b[j] = e := ⟨_, rfl⟩
        rw [List.drop_eq_getElem_cons g, hf2, both1_cons] at hR
        have hl1 : acc.length ≤ 1073741823 := by omega
        by_cases c1 : (bothS ⟨f, t⟩ ⟨f2, t2⟩).f < (bothS ⟨f, t⟩ ⟨f2, t2⟩).t
        · rw [if_pos c1] at hR
          have c1' := c1
          simp only [bothS] at c1'
          ((try simp -implicitDefEqProofs [-loopQ_n, g, hf2, spC, c1', w2, hl1, spC_len, spC_snoc]) <;> (repeat' (first | (refine condD_dec ?_ ?_ <;> (intro hc; (try simp -implicitDefEqProofs [-loopQ_n, hc, g, hf2, spC, c1', w2, hl1, spC_len, spC_snoc]))) | (refine guardD_dec ?_ ?_ <;> (intro hc; (try simp -implicitDefEqProofs [-loopQ_n, hc, g, hf2, spC, c1', w2, hl1, spC_len, spC_snoc]))) | (refine condD_intro ?_ ?_ <;> (intro hd; have hc := hd; (try simp at hc) <;> (try simp -implicitDefEqProofs [-loopQ_n, hd, hc, g, hf2, spC, c1', w2, hl1, spC_len, spC_snoc]))) | (refine guardD_intro ?_ ?_ <;> (intro hd; have hc := hd; (try simp at hc) <;> (try simp -implicitDefEqProofs [-loopQ_n, hd, hc, g, hf2, spC, c1', w2, hl1, spC_len, spC_snoc]))) | (refine ldD_ep ?_ ?_; (focus kernel_rfl); (try simp -implicitDefEqProofs [-loopQ_n, g, hf2, spC, c1', w2, hl1, spC_len, spC_snoc])))))
          refine loop_next (j + 1, acc ++ [bothS ⟨f, t⟩ ⟨f2, t2⟩]) ⟨g, by simp; omega, by simp only; rw [← hR]; simp⟩ (by simp only; omega) (weak_of 5 0 rfl rfl ?_ ?_) <;> simp [bothS, spC_refs]
        · rw [if_neg c1] at hR
          have c1' := c1
          simp only [bothS] at c1'
          ((try simp -implicitDefEqProofs [-loopQ_n, g, hf2, spC, c1', w2]) <;> (repeat' (first | (refine condD_dec ?_ ?_ <;> (intro hc; (try simp -implicitDefEqProofs [-loopQ_n, hc, g, hf2, spC, c1', w2]))) | (refine guardD_dec ?_ ?_ <;> (intro hc; (try simp -implicitDefEqProofs [-loopQ_n, hc, g, hf2, spC, c1', w2]))) | (refine condD_intro ?_ ?_ <;> (intro hd; have hc := hd; (try simp at hc) <;> (try simp -implicitDefEqProofs [-loopQ_n, hd, hc, g, hf2, spC, c1', w2]))) | (refine guardD_intro ?_ ?_ <;> (intro hd; have hc := hd; (try simp at hc) <;> (try simp -implicitDefEqProofs [-loopQ_n, hd, hc, g, hf2, spC, c1', w2]))) | (refine ldD_ep ?_ ?_; (focus kernel_rfl); (try simp -implicitDefEqProofs [-loopQ_n, g, hf2, spC, c1', w2])))))
          refine loop_next (j + 1, acc) ⟨g, by simp only; omega, by simp only; rw [← hR]; simp⟩ (by simp only; omega) (weak_of 5 0 rfl rfl ?_ ?_) <;> simp [spC_refs]
      · rw [List.drop_eq_nil_of_le (by omega)] at hR
        have hR : acc ++ bothL (a.drop (i + 1)) b = bothL a b := hR
        ((try simp -implicitDefEqProofs [-loopQ_n, g, w1]) <;> (repeat' (first | (refine condD_dec ?_ ?_ <;> (intro hc; (try simp -implicitDefEqProofs [-loopQ_n, hc, g, w1]))) | (refine guardD_dec ?_ ?_ <;> (intro hc; (try simp -implicitDefEqProofs [-loopQ_n, hc, g, w1]))) | (refine condD_intro ?_ ?_ <;> (intro hd; have hc := hd; (try simp at hc) <;> (try simp -implicitDefEqProofs [-loopQ_n, hd, hc, g, w1]))) | (refine guardD_intro ?_ ?_ <;> (intro hd; have hc := hd; (try simp at hc) <;> (try simp -implicitDefEqProofs [-loopQ_n, hd, hc, g, w1]))) | (refine ldD_ep ?_ ?_; (focus kernel_rfl); (try simp -implicitDefEqProofs [-loopQ_n, g, w1])))))
        refine loop_next (i + 1, acc) ⟨h, by simp only; omega, hR⟩ (by simp only; omega) (weak_of 4 0 rfl rfl ?_ ?_) <;> simp [spC_refs]
    · rw [List.drop_eq_nil_of_le (by omega)] at hR
      have hR : acc = bothL a b := by simpa [bothL] using hR
      ((try simp -implicitDefEqProofs [-loopQ_n, h]) <;> (repeat' (first | (refine condD_dec ?_ ?_ <;> (intro hc; (try simp -implicitDefEqProofs [-loopQ_n, hc, h]))) | (refine guardD_dec ?_ ?_ <;> (intro hc; (try simp -implicitDefEqProofs [-loopQ_n, hc, h]))) | (refine condD_intro ?_ ?_ <;> (intro hd; have hc := hd; (try simp at hc) <;> (try simp -implicitDefEqProofs [-loopQ_n, hd, hc, h]))) | (refine guardD_intro ?_ ?_ <;> (intro hd; have hc := hd; (try simp at hc) <;> (try simp -implicitDefEqProofs [-loopQ_n, hd, hc, h]))) | (refine ldD_ep ?_ ?_; (focus kernel_rfl); (try simp -implicitDefEqProofs [-loopQ_n, h])))))
      by_cases hk : 100 < acc.length
      · have hk' : (100 : Int) < (acc.length : Int) := by omega
        have hkz : 100 < (bothL a b).length := by rw [← hR]; exact hk
        refine inl_intro mixed Tryd.func57 rfl (by kernel_rfl) (of_decide_eq_true rfl) (by kernel_rfl) ?_
        ((try simp -implicitDefEqProofs [-loopQ_n, hk', hk]) <;> (repeat' (first | (refine condD_dec ?_ ?_ <;> (intro hc; (try simp -implicitDefEqProofs [-loopQ_n, hc, hk', hk]))) | (refine guardD_dec ?_ ?_ <;> (intro hc; (try simp -implicitDefEqProofs [-loopQ_n, hc, hk', hk]))) | (refine condD_intro ?_ ?_ <;> (intro hd; have hc := hd; (try simp at hc) <;> (try simp -implicitDefEqProofs [-loopQ_n, hd, hc, hk', hk]))) | (refine guardD_intro ?_ ?_ <;> (intro hd; have hc := hd; (try simp at hc) <;> (try simp -implicitDefEqProofs [-loopQ_n, hd, hc, hk', hk]))) | (refine ldD_ep ?_ ?_; (focus kernel_rfl); (try simp -implicitDefEqProofs [-loopQ_n, hk', hk])))))
        refine endG_r (.tup [.agg [.nils], .int .i64 5]) (by simp) ?_
        simp -implicitDefEqProofs [contK]
        ((try simp -implicitDefEqProofs [-loopQ_n, calOut, hkz]) <;> (repeat' (first | (refine condD_dec ?_ ?_ <;> (intro hc; (try simp -implicitDefEqProofs [-loopQ_n, hc, calOut, hkz]))) | (refine guardD_dec ?_ ?_ <;> (intro hc; (try simp -implicitDefEqProofs [-loopQ_n, hc, calOut, hkz]))) | (refine condD_intro ?_ ?_ <;> (intro hd; have hc := hd; (try simp at hc) <;> (try simp -implicitDefEqProofs [-loopQ_n, hd, hc, calOut, hkz]))) | (refine guardD_intro ?_ ?_ <;> (intro hd; have hc := hd; (try simp at hc) <;> (try simp -implicitDefEqProofs [-loopQ_n, hd, hc, calOut, hkz]))) | (refine ldD_ep ?_ ?_; (focus kernel_rfl); (try simp -implicitDefEqProofs [-loopQ_n, calOut, hkz])))))
      · have hk' : ¬ (100 : Int) < (acc.length : Int) := by omega
        have hkz : ¬ 100 < (bothL a b).length := by rw [← hR]; exact hk
        refine inl_intro mixed Tryd.func57 rfl (by kernel_rfl) (of_decide_eq_true rfl) (by kernel_rfl) ?_
        ((try simp -implicitDefEqProofs [-loopQ_n, hk', hk]) <;> (repeat' (first | (refine condD_dec ?_ ?_ <;> (intro hc; (try simp -implicitDefEqProofs [-loopQ_n, hc, hk', hk]))) | (refine guardD_dec ?_ ?_ <;> (intro hc; (try simp -implicitDefEqProofs [-loopQ_n, hc, hk', hk]))) | (refine condD_intro ?_ ?_ <;> (intro hd; have hc := hd; (try simp at hc) <;> (try simp -implicitDefEqProofs [-loopQ_n, hd, hc, hk', hk]))) | (refine guardD_intro ?_ ?_ <;> (intro hd; have hc := hd; (try simp at hc) <;> (try simp -implicitDefEqProofs [-loopQ_n, hd, hc, hk', hk]))) | (refine ldD_ep ?_ ?_; (focus kernel_rfl); (try simp -implicitDefEqProofs [-loopQ_n, hk', hk])))))
        refine endG_r (.tup [.agg [.os 3 acc.length], .int .i64 0]) (by simp) ?_
        simp -implicitDefEqProofs [contK]
        ((try simp -implicitDefEqProofs [-loopQ_n, calOut, hkz, spans_reify, spC_len]) <;> (repeat' (first | (refine condD_dec ?_ ?_ <;> (intro hc; (try simp -implicitDefEqProofs [-loopQ_n, hc, calOut, hkz, spans_reify, spC_len]))) | (refine guardD_dec ?_ ?_ <;> (intro hc; (try simp -implicitDefEqProofs [-loopQ_n, hc, calOut, hkz, spans_reify, spC_len]))) | (refine condD_intro ?_ ?_ <;> (intro hd; have hc := hd; (try simp at hc) <;> (try simp -implicitDefEqProofs [-loopQ_n, hd, hc, calOut, hkz, spans_reify, spC_len]))) | (refine guardD_intro ?_ ?_ <;> (intro hd; have hc := hd; (try simp at hc) <;> (try simp -implicitDefEqProofs [-loopQ_n, hd, hc, calOut, hkz, spans_reify, spC_len]))) | (refine ldD_ep ?_ ?_; (focus kernel_rfl); (try simp -implicitDefEqProofs [-loopQ_n, calOut, hkz, spans_reify, spC_len])))))
        all_goals rw [hR]
  · rw [if_neg hab]
    by_cases ha : calOk a = true
    · have hb : calOk b = false := by simpa [ha] using hab
      ((try simp -implicitDefEqProofs [-loopQ_n, ha, hb]) <;> (repeat' (first | (refine condD_dec ?_ ?_ <;> (intro hc; (try simp -implicitDefEqProofs [-loopQ_n, hc, ha, hb]))) | (refine guardD_dec ?_ ?_ <;> (intro hc; (try simp -implicitDefEqProofs [-loopQ_n, hc, ha, hb]))) | (refine condD_intro ?_ ?_ <;> (intro hd; have hc := hd; (try simp at hc) <;> (try simp -implicitDefEqProofs [-loopQ_n, hd, hc, ha, hb]))) | (refine guardD_intro ?_ ?_ <;> (intro hd; have hc := hd; (try simp at hc) <;> (try simp -implicitDefEqProofs [-loopQ_n, hd, hc, ha, hb]))) | (refine ldD_ep ?_ ?_; (focus kernel_rfl); (try simp -implicitDefEqProofs [-loopQ_n, ha, hb])) | (refine callS_mk ?_; (try simp -implicitDefEqProofs [-loopQ_n, ha, hb]); (first | refine callS_intro (valid_pure _) (.inl rfl) ?_); (try simp -implicitDefEqProofs [-loopQ_n, ha, hb])))))
    · have ha : calOk a = false := by simpa using ha
      ((try simp -implicitDefEqProofs [-loopQ_n, ha]) <;> (repeat' (first | (refine condD_dec ?_ ?_ <;> (intro hc; (try simp -implicitDefEqProofs [-loopQ_n, hc, ha]))) | (refine guardD_dec ?_ ?_ <;> (intro hc; (try simp -implicitDefEqProofs [-loopQ_n, hc, ha]))) | (refine condD_intro ?_ ?_ <;> (intro hd; have hc := hd; (try simp at hc) <;> (try simp -implicitDefEqProofs [-loopQ_n, hd, hc, ha]))) | (refine guardD_intro ?_ ?_ <;> (intro hd; have hc := hd; (try simp at hc) <;> (try simp -implicitDefEqProofs [-loopQ_n, hd, hc, ha]))) | (refine ldD_ep ?_ ?_; (focus kernel_rfl); (try simp -implicitDefEqProofs [-loopQ_n, ha])) | (refine callS_mk ?_; (try simp -implicitDefEqProofs [-loopQ_n, ha]); (first | refine callS_intro (valid_pure _) (.inl rfl) ?_); (try simp -implicitDefEqProofs [-loopQ_n, ha])))))
end Go.Proofs.YtlobmblakilmiaaDoor
