/- Which tables are valid (the reference's answer). -/
import Derived.Test.YthemglpccpjokaaGreatM6
set_option linter.unusedSimpArgs false
set_option linter.unusedVariables false
set_option linter.unnecessarySimpa false
set_option linter.unusedSectionVars false
set_option maxRecDepth 100000
namespace Go.Proofs.YthemglpccpjokaaGreat
open Go.RowKit
variable [Glob]
set_option maxHeartbeats 32000000 in
theorem rvalid_pure (d : Dec) (hs : szD d) : Pure Tryz.prog 38 [.agg (decC d)] (.bool (decV d)) := by
  have hd := rdoms_pure d.inputs hs.1
  have ho := rdom_pure d.out
  obtain ⟨s1, s2, s3, s4⟩ := hs
  simp only [domC] at ho
  by_cases q1 : domsV d.inputs = true
  rotate_left
  · have q1 : domsV d.inputs = false := by simpa using q1
    rw [q1] at hd
    rw [show decV d = false by simp [decV, q1]]
    refine pure_of mixed Tryz.func38 rfl (by kernel_rfl) (of_decide_eq_true rfl) (by kernel_rfl) (vc_run ?_)
    ((try simp -implicitDefEqProofs [-loopQ_n, decC, domC]) <;> (repeat' (first | ((first | refine condD_dec ?_ ?_ | refine guardD_dec ?_ ?_) <;> (intro hc; (try simp -implicitDefEqProofs [-loopQ_n, hc, decC, domC]))) | (refine callS_mk ?_; (try simp -implicitDefEqProofs [-loopQ_n, decC, domC]); (first | refine callS_intro (hd) (.inl rfl) ?_); (try simp -implicitDefEqProofs [-loopQ_n, decC, domC])))))
  have hdom := q1
  rw [q1] at hd
  by_cases q2 : domV d.out = true
  rotate_left
  · have q2 : domV d.out = false := by simpa using q2
    rw [q2] at ho
    rw [show decV d = false by simp [decV, q2]]
    refine pure_of mixed Tryz.func38 rfl (by kernel_rfl) (of_decide_eq_true rfl) (by kernel_rfl) (vc_run ?_)
    ((try simp -implicitDefEqProofs [-loopQ_n, decC, domC]) <;> (repeat' (first | ((first | refine condD_dec ?_ ?_ | refine guardD_dec ?_ ?_) <;> (intro hc; (try simp -implicitDefEqProofs [-loopQ_n, hc, decC, domC]))) | (refine callS_mk ?_; (try simp -implicitDefEqProofs [-loopQ_n, decC, domC]); (first | refine callS_intro (hd) (.inl rfl) ?_ | refine callS_intro (ho) (.inl rfl) ?_); (try simp -implicitDefEqProofs [-loopQ_n, decC, domC])))))
  rw [q2] at ho
  by_cases q3 : 1 ≤ d.hit ∧ d.hit ≤ 9 ∧ d.rows.length ≤ 60
  rotate_left
  · have hz : decV d = false := by
      cases e : decV d with
      | false => rfl
      | true =>
        exfalso
        simp only [decV, Bool.and_eq_true, decide_eq_true_eq] at e
        exact q3 ⟨e.2.2.1, e.2.2.2.1, e.2.2.2.2.1⟩
    rw [hz]
    refine pure_of mixed Tryz.func38 rfl (by kernel_rfl) (of_decide_eq_true rfl) (by kernel_rfl) (vc_run ?_)
    by_cases c1 : d.hit < 1
    · ((try simp -implicitDefEqProofs [-loopQ_n, decC, domC, c1]) <;> (repeat' (first | ((first | refine condD_dec ?_ ?_ | refine guardD_dec ?_ ?_) <;> (intro hc; (try simp -implicitDefEqProofs [-loopQ_n, hc, decC, domC, c1]))) | (refine callS_mk ?_; (try simp -implicitDefEqProofs [-loopQ_n, decC, domC, c1]); (first | refine callS_intro (hd) (.inl rfl) ?_ | refine callS_intro (ho) (.inl rfl) ?_); (try simp -implicitDefEqProofs [-loopQ_n, decC, domC, c1])))))
    by_cases c2 : 9 < d.hit
    · ((try simp -implicitDefEqProofs [-loopQ_n, decC, domC, c1, c2]) <;> (repeat' (first | ((first | refine condD_dec ?_ ?_ | refine guardD_dec ?_ ?_) <;> (intro hc; (try simp -implicitDefEqProofs [-loopQ_n, hc, decC, domC, c1, c2]))) | (refine callS_mk ?_; (try simp -implicitDefEqProofs [-loopQ_n, decC, domC, c1, c2]); (first | refine callS_intro (hd) (.inl rfl) ?_ | refine callS_intro (ho) (.inl rfl) ?_); (try simp -implicitDefEqProofs [-loopQ_n, decC, domC, c1, c2])))))
    have c3 : (60 : Int) < d.rows.length := by omega
    ((try simp -implicitDefEqProofs [-loopQ_n, decC, domC, c1, c2, c3]) <;> (repeat' (first | ((first | refine condD_dec ?_ ?_ | refine guardD_dec ?_ ?_) <;> (intro hc; (try simp -implicitDefEqProofs [-loopQ_n, hc, decC, domC, c1, c2, c3]))) | (refine callS_mk ?_; (try simp -implicitDefEqProofs [-loopQ_n, decC, domC, c1, c2, c3]); (first | refine callS_intro (hd) (.inl rfl) ?_ | refine callS_intro (ho) (.inl rfl) ?_); (try simp -implicitDefEqProofs [-loopQ_n, decC, domC, c1, c2, c3])))))
  obtain ⟨a1, a2, a3⟩ := q3
  have b1 : ¬ d.hit < 1 := by omega
  have b2 : ¬ 9 < d.hit := by omega
  have b3 : ¬ (60 : Int) < d.rows.length := by omega
  have hdec : decV d = ((decide (d.out.kind = 2) || !decide (d.hit = 6 ∨ d.hit = 7 ∨ d.hit = 8)) && (ordW d && d.rows.all (rowW d))) := by
    simp [decV, q1, q2, a1, a2, a3, tab_eq]
  refine pure_of mixed Tryz.func38 rfl (by kernel_rfl) (of_decide_eq_true rfl) (by kernel_rfl) (vc_run ?_)
  by_cases q4 : d.out.kind = 2 ∨ ¬ (d.hit = 6 ∨ d.hit = 7 ∨ d.hit = 8)
  rotate_left
  · have k2 : ¬ d.out.kind = 2 := fun e => q4 (.inl e)
    have hh : d.hit = 6 ∨ d.hit = 7 ∨ d.hit = 8 := Decidable.not_not.1 fun e => q4 (.inr e)
    rw [show decV d = false by rw [hdec]; simp [k2, hh]]
    rcases hh with q | q | q
    · ((try simp -implicitDefEqProofs [-loopQ_n, decC, domC, b1, b2, b3, k2, q]) <;> (repeat' (first | ((first | refine condD_dec ?_ ?_ | refine guardD_dec ?_ ?_) <;> (intro hc; (try simp -implicitDefEqProofs [-loopQ_n, hc, decC, domC, b1, b2, b3, k2, q]))) | (refine callS_mk ?_; (try simp -implicitDefEqProofs [-loopQ_n, decC, domC, b1, b2, b3, k2, q]); (first | refine callS_intro (hd) (.inl rfl) ?_ | refine callS_intro (ho) (.inl rfl) ?_); (try simp -implicitDefEqProofs [-loopQ_n, decC, domC, b1, b2, b3, k2, q])))))
    · ((try simp -implicitDefEqProofs [-loopQ_n, decC, domC, b1, b2, b3, k2, q]) <;> (repeat' (first | ((first | refine condD_dec ?_ ?_ | refine guardD_dec ?_ ?_) <;> (intro hc; (try simp -implicitDefEqProofs [-loopQ_n, hc, decC, domC, b1, b2, b3, k2, q]))) | (refine callS_mk ?_; (try simp -implicitDefEqProofs [-loopQ_n, decC, domC, b1, b2, b3, k2, q]); (first | refine callS_intro (hd) (.inl rfl) ?_ | refine callS_intro (ho) (.inl rfl) ?_); (try simp -implicitDefEqProofs [-loopQ_n, decC, domC, b1, b2, b3, k2, q])))))
    · ((try simp -implicitDefEqProofs [-loopQ_n, decC, domC, b1, b2, b3, k2, q]) <;> (repeat' (first | ((first | refine condD_dec ?_ ?_ | refine guardD_dec ?_ ?_) <;> (intro hc; (try simp -implicitDefEqProofs [-loopQ_n, hc, decC, domC, b1, b2, b3, k2, q]))) | (refine callS_mk ?_; (try simp -implicitDefEqProofs [-loopQ_n, decC, domC, b1, b2, b3, k2, q]); (first | refine callS_intro (hd) (.inl rfl) ?_ | refine callS_intro (ho) (.inl rfl) ?_); (try simp -implicitDefEqProofs [-loopQ_n, decC, domC, b1, b2, b3, k2, q])))))
  have hdec : decV d = (ordW d && d.rows.all (rowW d)) := by
    rw [hdec]
    rcases q4 with e | e <;> simp [e]
  rw [hdec]
  have hk : (d.out.kind = 2) = True ∨ ((d.out.kind = 2) = False ∧ (d.hit = 6) = False ∧ (d.hit = 7) = False ∧ (d.hit = 8) = False) := by
    by_cases e : d.out.kind = 2
    · exact .inl (eq_true e)
    · have := q4.resolve_left e
      exact .inr ⟨eq_false e, eq_false fun q => this (.inl q), eq_false fun q => this (.inr (.inl q)), eq_false fun q => this (.inr (.inr q))⟩
  apply cutP
  · intro cont
    rcases hk with hk | ⟨hk, n6, n7, n8⟩
    · skip
      ((try simp -implicitDefEqProofs [-loopQ_n, decC, domC, b1, b2, b3, hk]) <;> (repeat' (first | ((first | refine condD_dec ?_ ?_ | refine guardD_dec ?_ ?_) <;> (intro hc; (try simp -implicitDefEqProofs [-loopQ_n, hc, decC, domC, b1, b2, b3, hk]))) | (refine callS_mk ?_; (try simp -implicitDefEqProofs [-loopQ_n, decC, domC, b1, b2, b3, hk]); (first | refine callS_intro (hd) (.inl rfl) ?_ | refine callS_intro (ho) (.inl rfl) ?_); (try simp -implicitDefEqProofs [-loopQ_n, decC, domC, b1, b2, b3, hk])))))
      refine loop_weak (s' := ⟨[(1, .op 0 0), (3, .int .i64 0)], [.box 29 (decC d)]⟩) (weak_of 1 0 rfl rfl ?_ ?_) cont <;> simp [decC]
    · skip
      ((try simp -implicitDefEqProofs [-loopQ_n, decC, domC, b1, b2, b3, hk, n6, n7, n8]) <;> (repeat' (first | ((first | refine condD_dec ?_ ?_ | refine guardD_dec ?_ ?_) <;> (intro hc; (try simp -implicitDefEqProofs [-loopQ_n, hc, decC, domC, b1, b2, b3, hk, n6, n7, n8]))) | (refine callS_mk ?_; (try simp -implicitDefEqProofs [-loopQ_n, decC, domC, b1, b2, b3, hk, n6, n7, n8]); (first | refine callS_intro (hd) (.inl rfl) ?_ | refine callS_intro (ho) (.inl rfl) ?_); (try simp -implicitDefEqProofs [-loopQ_n, decC, domC, b1, b2, b3, hk, n6, n7, n8])))))
      refine loop_weak (weak_of 1 0 rfl rfl ?_ ?_) cont <;> simp [decC]
  refine loop_intro (σ := Nat) (fun j => ⟨[(1, .op 0 0), (3, .int .i64 j)], [.box 29 (decC d)]⟩)
    (fun j => j ≤ d.order.length ∧ (d.hit = 4 → ordG d.out (d.order.take j) (d.order.drop j) = ordG d.out [] d.order) ∧ (¬ d.hit = 4 → j = 0)) (fun j => d.order.length - j) 0 ⟨by simp, by simp, by simp⟩ ?_ ?_
  · refine weak_of 1 0 rfl rfl ?_ ?_ <;> simp [decC]
  rintro j ⟨hj, hO, hO2⟩
  by_cases g : j < d.order.length
  · have w2 := w_succB g (by omega)
    by_cases q : d.hit = 4
    rotate_left
    · have hz : ordW d = false := by
        simp only [ordW, if_neg q]
        cases h : d.order with
        | nil => rw [h] at g; simp at g
        | cons a b => simp
      obtain ⟨v, hv⟩ : ∃ e, d.order[j] = e := ⟨_, rfl⟩
      ((try simp -implicitDefEqProofs [-loopQ_n, g, hv, decC, valC, q, w2]) <;> (repeat' (first | ((first | refine condD_dec ?_ ?_ | refine guardD_dec ?_ ?_) <;> (intro hc; (try simp -implicitDefEqProofs [-loopQ_n, hc, g, hv, decC, valC, q, w2]))))))
      simp [hz]
    have q' : (d.hit = 4) = True := eq_true q
    have hO := hO q
    have hval := rvalue_pure d.order[j]
    have hrk := rrank_pure d.out d.order[j] q2
    have hfd := rfind_pure d.order d.order[j] s2
    have hat := ord_at g
    have htk : d.order.take (j + 1) = d.order.take j ++ [d.order[j]] := by rw [List.take_append_getElem g]
    obtain ⟨v, hv⟩ : ∃ e, d.order[j] = e := ⟨_, rfl⟩
    rw [List.drop_eq_getElem_cons g, hv, ordG] at hO
    rw [hv] at hval hrk hfd hat htk
    simp only [valC, domC] at hval hrk hfd
    have hfalse : (memV d.out v && decide (v ∉ d.order.take j)) = false → ordW d = false := fun h => by
      simp only [ordW, if_pos q, ← hO]
      rw [← Bool.and_assoc, h, Bool.false_and]
    by_cases p1 : valueV v = true
    rotate_left
    · have p1 : valueV v = false := by simpa using p1
      rw [p1] at hval
      rw [hfalse (by simp [memV, p1])]
      ((try simp -implicitDefEqProofs [-loopQ_n, g, hv, decC, valC, q', w2]) <;> (repeat' (first | ((first | refine condD_dec ?_ ?_ | refine guardD_dec ?_ ?_) <;> (intro hc; (try simp -implicitDefEqProofs [-loopQ_n, hc, g, hv, decC, valC, q', w2]))) | (refine callS_mk ?_; (try simp -implicitDefEqProofs [-loopQ_n, g, hv, decC, valC, q', w2]); (first | refine callS_intro (hval) (.inl rfl) ?_); (try simp -implicitDefEqProofs [-loopQ_n, g, hv, decC, valC, q', w2])))))
    rw [p1] at hval
    by_cases p2 : placeD d.out v < 0
    · rw [hfalse (by simp [memV]; intro _ h; omega)]
      ((try simp -implicitDefEqProofs [-loopQ_n, g, hv, decC, valC, q', w2, p2]) <;> (repeat' (first | ((first | refine condD_dec ?_ ?_ | refine guardD_dec ?_ ?_) <;> (intro hc; (try simp -implicitDefEqProofs [-loopQ_n, hc, g, hv, decC, valC, q', w2, p2]))) | (refine callS_mk ?_; (try simp -implicitDefEqProofs [-loopQ_n, g, hv, decC, valC, q', w2, p2]); (first | refine callS_intro (hval) (.inl rfl) ?_ | refine callS_intro (hrk) (.inl rfl) ?_); (try simp -implicitDefEqProofs [-loopQ_n, g, hv, decC, valC, q', w2, p2])))))
    by_cases p3 : idxV d.order v = j
    rotate_left
    · rw [hfalse (by simp only [memV, p1]; simp; intro _; exact Decidable.not_not.1 fun h => p3 (hat.2 h))]
      ((try simp -implicitDefEqProofs [-loopQ_n, g, hv, decC, valC, q', w2, p2, p3]) <;> (repeat' (first | ((first | refine condD_dec ?_ ?_ | refine guardD_dec ?_ ?_) <;> (intro hc; (try simp -implicitDefEqProofs [-loopQ_n, hc, g, hv, decC, valC, q', w2, p2, p3]))) | (refine callS_mk ?_; (try simp -implicitDefEqProofs [-loopQ_n, g, hv, decC, valC, q', w2, p2, p3]); (first | refine callS_intro (hval) (.inl rfl) ?_ | refine callS_intro (hrk) (.inl rfl) ?_ | refine callS_intro (hfd) (.inl rfl) ?_); (try simp -implicitDefEqProofs [-loopQ_n, g, hv, decC, valC, q', w2, p2, p3])))))
    ((try simp -implicitDefEqProofs [-loopQ_n, g, hv, decC, valC, q', w2, p2, p3]) <;> (repeat' (first | ((first | refine condD_dec ?_ ?_ | refine guardD_dec ?_ ?_) <;> (intro hc; (try simp -implicitDefEqProofs [-loopQ_n, hc, g, hv, decC, valC, q', w2, p2, p3]))) | (refine callS_mk ?_; (try simp -implicitDefEqProofs [-loopQ_n, g, hv, decC, valC, q', w2, p2, p3]); (first | refine callS_intro (hval) (.inl rfl) ?_ | refine callS_intro (hrk) (.inl rfl) ?_ | refine callS_intro (hfd) (.inl rfl) ?_); (try simp -implicitDefEqProofs [-loopQ_n, g, hv, decC, valC, q', w2, p2, p3])))))
    have hnx : ordG d.out (d.order.take (j + 1)) (d.order.drop (j + 1)) = ordG d.out [] d.order := by
      rw [htk, ← hO]
      have : memV d.out v = true := by simp only [memV, p1]; simp; omega
      simp [this, hat.1 p3]
    refine loop_next (j + 1) ⟨by omega, hnx⟩ (by omega) (weak_of 1 0 rfl rfl ?_ ?_) <;> simp [w2, decC]
  have hOW : ordW d = true := by
    by_cases q : d.hit = 4
    · have := hO q
      rw [List.drop_eq_nil_of_le (by omega)] at this
      simp only [ordG] at this
      simp [ordW, q, ← this]
    · have : d.order = [] := List.eq_nil_of_length_eq_zero (by have := hO2 q; omega)
      simp [ordW, q, this]
  rw [hOW, Bool.true_and]
  ((try simp -implicitDefEqProofs [-loopQ_n, g, decC]) <;> (repeat' (first | ((first | refine condD_dec ?_ ?_ | refine guardD_dec ?_ ?_) <;> (intro hc; (try simp -implicitDefEqProofs [-loopQ_n, hc, g, decC]))))))
  refine loop_intro (σ := Nat) (fun i => ⟨[(1, .op 0 0), (5, .int .i64 i)], [.box 29 (decC d)]⟩)
    (fun i => i ≤ d.rows.length ∧ (d.rows.drop i).all (rowW d) = d.rows.all (rowW d)) (fun i => d.rows.length - i) 0 ⟨by simp, by simp⟩ ?_ ?_
  · refine weak_of 1 0 rfl rfl ?_ ?_ <;> simp [decC]
  rintro i ⟨hi', hR⟩
  by_cases h : i < d.rows.length
  rotate_left
  · rw [List.drop_eq_nil_of_le (by omega), List.all_nil] at hR
    rw [← hR]
    ((try simp -implicitDefEqProofs [-loopQ_n, h, decC]) <;> (repeat' (first | ((first | refine condD_dec ?_ ?_ | refine guardD_dec ?_ ?_) <;> (intro hc; (try simp -implicitDefEqProofs [-loopQ_n, hc, h, decC]))))))
  have w1 := w_succB h (by omega)
  have hrm := s4 _ (List.getElem_mem h)
  obtain ⟨⟨ts, out⟩, hf⟩ : ∃ e, d.rows[i] = e := ⟨_, rfl⟩
  rw [hf] at hrm
  simp only at hrm
  rw [List.drop_eq_getElem_cons h, hf, List.all_cons] at hR
  have hfalse : rowW d ⟨ts, out⟩ = false → d.rows.all (rowW d) = false := fun e => by rw [← hR, e, Bool.false_and]
  have hval := rvalue_pure out
  have hrk := rrank_pure d.out out q2
  have hfd := rfind_pure d.order out s2
  simp only [valC, domC] at hval hrk hfd
  by_cases q1 : ts.length = d.inputs.length
  rotate_left
  · have q1' : ¬ (ts.length : Int) = d.inputs.length := by omega
    rw [hfalse (by simp [rowW, rowV, q1])]
    ((try simp -implicitDefEqProofs [-loopQ_n, h, hf, rwC, decC, q1']) <;> (repeat' (first | ((first | refine condD_dec ?_ ?_ | refine guardD_dec ?_ ?_) <;> (intro hc; (try simp -implicitDefEqProofs [-loopQ_n, hc, h, hf, rwC, decC, q1']))))))
  by_cases p1 : valueV out = true
  rotate_left
  · have p1 : valueV out = false := by simpa using p1
    rw [p1] at hval
    rw [hfalse (by simp [rowW, rowV, memV, p1])]
    ((try simp -implicitDefEqProofs [-loopQ_n, h, hf, rwC, decC, q1]) <;> (repeat' (first | ((first | refine condD_dec ?_ ?_ | refine guardD_dec ?_ ?_) <;> (intro hc; (try simp -implicitDefEqProofs [-loopQ_n, hc, h, hf, rwC, decC, q1]))) | (refine callS_mk ?_; (try simp -implicitDefEqProofs [-loopQ_n, h, hf, rwC, decC, q1]); (first | refine callS_intro (hval) (.inl rfl) ?_); (try simp -implicitDefEqProofs [-loopQ_n, h, hf, rwC, decC, q1])))))
  rw [p1] at hval
  by_cases p2 : placeD d.out out < 0
  · rw [hfalse (by simp only [rowW, rowV, memV, p1]; simp; omega)]
    ((try simp -implicitDefEqProofs [-loopQ_n, h, hf, rwC, decC, q1, p2]) <;> (repeat' (first | ((first | refine condD_dec ?_ ?_ | refine guardD_dec ?_ ?_) <;> (intro hc; (try simp -implicitDefEqProofs [-loopQ_n, hc, h, hf, rwC, decC, q1, p2]))) | (refine callS_mk ?_; (try simp -implicitDefEqProofs [-loopQ_n, h, hf, rwC, decC, q1, p2]); (first | refine callS_intro (hval) (.inl rfl) ?_ | refine callS_intro (hrk) (.inl rfl) ?_); (try simp -implicitDefEqProofs [-loopQ_n, h, hf, rwC, decC, q1, p2])))))
  ((try simp -implicitDefEqProofs [-loopQ_n, h, hf, rwC, decC, q1, p2]) <;> (repeat' (first | ((first | refine condD_dec ?_ ?_ | refine guardD_dec ?_ ?_) <;> (intro hc; (try simp -implicitDefEqProofs [-loopQ_n, hc, h, hf, rwC, decC, q1, p2]))) | (refine callS_mk ?_; (try simp -implicitDefEqProofs [-loopQ_n, h, hf, rwC, decC, q1, p2]); (first | refine callS_intro (hval) (.inl rfl) ?_ | refine callS_intro (hrk) (.inl rfl) ?_); (try simp -implicitDefEqProofs [-loopQ_n, h, hf, rwC, decC, q1, p2])))))
  refine loop_intro (σ := Nat) (fun k => ⟨[(1, .op 0 0), (5, .int .i64 i), (6, .op 1 0), (7, .int .i64 k)], [.box 29 (decC d), .box 85 [.rs (rowsOf tstC ts), .int .i64 out.kind, .int .i64 out.n, .str out.s]]⟩)
    (fun k => k ≤ ts.length ∧ ((d.inputs.drop k).zip (ts.drop k)).all (fun p => tstV p.1 p.2) = (d.inputs.zip ts).all fun p => tstV p.1 p.2) (fun k => ts.length - k) 0 ⟨by simp, by simp⟩ ?_ ?_
  · refine weak_of 2 0 rfl rfl ?_ ?_ <;> simp [decC]
  rintro k ⟨hk', hB⟩
  by_cases g2 : k < ts.length
  · have gi : k < d.inputs.length := by omega
    have w2 := w_succB g2 (by omega)
    have hft := rtest_pure d.inputs[k] ts[k] (doms_mem hdom _ (List.getElem_mem gi)) (hrm.2 _ (List.getElem_mem g2))
    obtain ⟨t, ht⟩ : ∃ e, ts[k] = e := ⟨_, rfl⟩
    obtain ⟨x, hx⟩ : ∃ e, d.inputs[k] = e := ⟨_, rfl⟩
    rw [List.drop_eq_getElem_cons g2, List.drop_eq_getElem_cons gi, ht, hx, List.zip_cons_cons, List.all_cons] at hB
    rw [ht, hx] at hft
    simp only [tstC, domC] at hft
    by_cases q3 : tstV x t = true
    · rw [q3] at hft hB
      ((try simp -implicitDefEqProofs [-loopQ_n, g2, gi, ht, hx, tstC, domC, decC, w2]) <;> (repeat' (first | ((first | refine condD_dec ?_ ?_ | refine guardD_dec ?_ ?_) <;> (intro hc; (try simp -implicitDefEqProofs [-loopQ_n, hc, g2, gi, ht, hx, tstC, domC, decC, w2]))) | (refine callS_mk ?_; (try simp -implicitDefEqProofs [-loopQ_n, g2, gi, ht, hx, tstC, domC, decC, w2]); (first | refine callS_intro (hft) (.inl rfl) ?_); (try simp -implicitDefEqProofs [-loopQ_n, g2, gi, ht, hx, tstC, domC, decC, w2])))))
      refine loop_next (k + 1) ⟨by omega, by simpa using hB⟩ (by omega) (weak_of 2 0 rfl rfl ?_ ?_) <;> simp [w2, decC]
    · have q3 : tstV x t = false := by simpa using q3
      rw [q3] at hft hB
      rw [hfalse (by simp only [rowW, rowV, ← hB]; simp)]
      ((try simp -implicitDefEqProofs [-loopQ_n, g2, gi, ht, hx, tstC, domC, decC, w2]) <;> (repeat' (first | ((first | refine condD_dec ?_ ?_ | refine guardD_dec ?_ ?_) <;> (intro hc; (try simp -implicitDefEqProofs [-loopQ_n, hc, g2, gi, ht, hx, tstC, domC, decC, w2]))) | (refine callS_mk ?_; (try simp -implicitDefEqProofs [-loopQ_n, g2, gi, ht, hx, tstC, domC, decC, w2]); (first | refine callS_intro (hft) (.inl rfl) ?_); (try simp -implicitDefEqProofs [-loopQ_n, g2, gi, ht, hx, tstC, domC, decC, w2])))))
  rw [List.drop_eq_nil_of_le (by omega : ts.length ≤ k)] at hB
  simp only [List.zip_nil_right, List.all_nil] at hB
  have hrv : rowV d.inputs d.out ⟨ts, out⟩ = true := by
    simp only [rowV, ← hB, memV, q1, p1]; simp; omega
  by_cases q : d.hit = 4
  · have q' : (d.hit = 4) = True := eq_true q
    by_cases p4 : idxV d.order out < 0
    · rw [hfalse (by simp only [rowW, hrv, q]; simp; intro hm; have := (idxV_ge d.order out).2 hm; omega)]
      ((try simp -implicitDefEqProofs [-loopQ_n, g2, decC, q', p4]) <;> (repeat' (first | ((first | refine condD_dec ?_ ?_ | refine guardD_dec ?_ ?_) <;> (intro hc; (try simp -implicitDefEqProofs [-loopQ_n, hc, g2, decC, q', p4]))) | (refine callS_mk ?_; (try simp -implicitDefEqProofs [-loopQ_n, g2, decC, q', p4]); (first | refine callS_intro (hfd) (.inl rfl) ?_); (try simp -implicitDefEqProofs [-loopQ_n, g2, decC, q', p4])))))
    · have hw : rowW d ⟨ts, out⟩ = true := by simp only [rowW, hrv, q]; simp; exact (idxV_ge d.order out).1 (by omega)
      rw [hw, Bool.true_and] at hR
      ((try simp -implicitDefEqProofs [-loopQ_n, g2, decC, q', p4, w1]) <;> (repeat' (first | ((first | refine condD_dec ?_ ?_ | refine guardD_dec ?_ ?_) <;> (intro hc; (try simp -implicitDefEqProofs [-loopQ_n, hc, g2, decC, q', p4, w1]))) | (refine callS_mk ?_; (try simp -implicitDefEqProofs [-loopQ_n, g2, decC, q', p4, w1]); (first | refine callS_intro (hfd) (.inl rfl) ?_); (try simp -implicitDefEqProofs [-loopQ_n, g2, decC, q', p4, w1])))))
      refine loop_next (i + 1) ⟨by omega, hR⟩ (by omega) (weak_of 1 0 rfl rfl ?_ ?_) <;> simp [w1, decC]
  · have hw : rowW d ⟨ts, out⟩ = true := by simp [rowW, hrv, q]
    rw [hw, Bool.true_and] at hR
    ((try simp -implicitDefEqProofs [-loopQ_n, g2, decC, q, w1]) <;> (repeat' (first | ((first | refine condD_dec ?_ ?_ | refine guardD_dec ?_ ?_) <;> (intro hc; (try simp -implicitDefEqProofs [-loopQ_n, hc, g2, decC, q, w1]))))))
    refine loop_next (i + 1) ⟨by omega, hR⟩ (by omega) (weak_of 1 0 rfl rfl ?_ ?_) <;> simp [w1, decC]
end Go.Proofs.YthemglpccpjokaaGreat
