/- Waiting times (program). -/
import Derived.Test.YtfbpjlabhckoeaaGreatSpnQ
import Derived.Test.YtfbpjlabhckoeaaGreatClk2
namespace Go.Proofs.YtfbpjlabhckoeaaGreat
set_option linter.unusedSimpArgs false
set_option linter.unusedVariables false
set_option linter.unnecessarySimpa false
set_option linter.unusedSectionVars false
open Go.RowKit
variable [Glob]
set_option maxRecDepth 100000
def intsO (r : List Int × Int) : AV := .tup [.rs (rowsOf intC r.1), .int .i64 r.2]
theorem int_reify {H : List Blk} {n : Nat} {l : List Int} : (rowsOf intC l).mapM (fun row => row.mapM (reify H (n + 1))) = some (rowsOf intC l) := rowsOf_reify fun x => by simp [intC, reify]
theorem int_refs {m : Nat} {l : List Int} : refsR m (rowsOf intC l) = true := rowsOf_refs fun x => by simp [intC, refs]
theorem sp_refs {m : Nat} {l : List Sp} : refsR m (rowsOf spC l) = true := rowsOf_refs fun x => by simp [spC, refs]
theorem int_snoc {l : List Int} {n : Int} : rowsOf intC l ++ [[.int .i64 n]] = rowsOf intC (l ++ [n]) := by simp [rowsOf, intC]
set_option maxHeartbeats 8000000 in
theorem waiting_pure (l : List Ins) (c : List Sp) (hl : l.length ≤ 9223372036854775807) : Pure Tryz.prog 12 [.rs (rowsOf insC l), .agg [.rs (rowsOf spC c)]] (intsO (waitR l c)) := by
  refine pure_of mixed Tryz.func12 rfl (by kernel_rfl) (of_decide_eq_true rfl) (by kernel_rfl) (vc_run ?_)
  by_cases hV : insL l = true
  rotate_left
  · rw [waitR, if_neg (fun q => hV q.1)]
    have hV : insL l = false := by simpa using hV
    ((try simp -implicitDefEqProofs [-loopQ_n, hV, intsO, rowsOf_nil]) <;> (repeat' (first | (refine condD_dec ?_ ?_ <;> (intro hc; (try simp -implicitDefEqProofs [-loopQ_n, hc, hV, intsO, rowsOf_nil]))) | (refine guardD_dec ?_ ?_ <;> (intro hc; (try simp -implicitDefEqProofs [-loopQ_n, hc, hV, intsO, rowsOf_nil]))) | (refine condD_intro ?_ ?_ <;> (intro hd; have hc := hd; (try simp at hc) <;> (try simp -implicitDefEqProofs [-loopQ_n, hd, hc, hV, intsO, rowsOf_nil]))) | (refine guardD_intro ?_ ?_ <;> (intro hd; have hc := hd; (try simp at hc) <;> (try simp -implicitDefEqProofs [-loopQ_n, hd, hc, hV, intsO, rowsOf_nil]))) | (refine ldD_ep ?_ ?_; (focus kernel_rfl); (try simp -implicitDefEqProofs [-loopQ_n, hV, intsO, rowsOf_nil])) | (refine callS_mk ?_; (try simp -implicitDefEqProofs [-loopQ_n, hV, intsO, rowsOf_nil]); (first | refine callS_intro (svalid_pure l hl) (.inl rfl) ?_); (try simp -implicitDefEqProofs [-loopQ_n, hV, intsO, rowsOf_nil])))))
  by_cases hC : calOk c = true
  rotate_left
  · rw [waitR, if_neg (fun q => hC q.2)]
    have hC : calOk c = false := by simpa using hC
    ((try simp -implicitDefEqProofs [-loopQ_n, hV, hC, intsO, rowsOf_nil]) <;> (repeat' (first | (refine condD_dec ?_ ?_ <;> (intro hc; (try simp -implicitDefEqProofs [-loopQ_n, hc, hV, hC, intsO, rowsOf_nil]))) | (refine guardD_dec ?_ ?_ <;> (intro hc; (try simp -implicitDefEqProofs [-loopQ_n, hc, hV, hC, intsO, rowsOf_nil]))) | (refine condD_intro ?_ ?_ <;> (intro hd; have hc := hd; (try simp at hc) <;> (try simp -implicitDefEqProofs [-loopQ_n, hd, hc, hV, hC, intsO, rowsOf_nil]))) | (refine guardD_intro ?_ ?_ <;> (intro hd; have hc := hd; (try simp at hc) <;> (try simp -implicitDefEqProofs [-loopQ_n, hd, hc, hV, hC, intsO, rowsOf_nil]))) | (refine ldD_ep ?_ ?_; (focus kernel_rfl); (try simp -implicitDefEqProofs [-loopQ_n, hV, hC, intsO, rowsOf_nil])) | (refine callS_mk ?_; (try simp -implicitDefEqProofs [-loopQ_n, hV, hC, intsO, rowsOf_nil]); (first | refine callS_intro (svalid_pure l hl) (.inl rfl) ?_ | refine callS_intro (valid_pure c) (.inl rfl) ?_); (try simp -implicitDefEqProofs [-loopQ_n, hV, hC, intsO, rowsOf_nil])))))
  rw [waitR, if_pos ⟨hV, hC⟩]
  obtain ⟨hl2, hm⟩ := insL_mem hV
  obtain ⟨R, hRR⟩ : ∃ R, l.map (wtC c) = R := ⟨_, rfl⟩
  rw [hRR]
  ((try simp -implicitDefEqProofs [-loopQ_n, hV, hC]) <;> (repeat' (first | (refine condD_dec ?_ ?_ <;> (intro hc; (try simp -implicitDefEqProofs [-loopQ_n, hc, hV, hC]))) | (refine guardD_dec ?_ ?_ <;> (intro hc; (try simp -implicitDefEqProofs [-loopQ_n, hc, hV, hC]))) | (refine condD_intro ?_ ?_ <;> (intro hd; have hc := hd; (try simp at hc) <;> (try simp -implicitDefEqProofs [-loopQ_n, hd, hc, hV, hC]))) | (refine guardD_intro ?_ ?_ <;> (intro hd; have hc := hd; (try simp at hc) <;> (try simp -implicitDefEqProofs [-loopQ_n, hd, hc, hV, hC]))) | (refine ldD_ep ?_ ?_; (focus kernel_rfl); (try simp -implicitDefEqProofs [-loopQ_n, hV, hC])) | (refine callS_mk ?_; (try simp -implicitDefEqProofs [-loopQ_n, hV, hC]); (first | refine callS_intro (svalid_pure l hl) (.inl rfl) ?_ | refine callS_intro (valid_pure c) (.inl rfl) ?_); (try simp -implicitDefEqProofs [-loopQ_n, hV, hC])))))
  refine loop_intro (σ := Nat × List Int) (fun x => ⟨[(3, .op 0 0), (6, .os 1 x.2.length), (18, .rs (rowsOf insC l)), (19, .int .i64 l.length), (20, .int .i64 x.1)], [.box 25 [.rs (rowsOf spC c)], .row 3 true (rowsOf intC x.2)]⟩) (fun x => x.1 ≤ l.length ∧ x.2.length = x.1 ∧ x.2 ++ (l.drop x.1).map (wtC c) = R) (fun x => l.length - x.1) (0, []) ⟨by simp, by simp, by simpa using hRR⟩ ?_ ?_
  · refine weak_of 1 1 rfl rfl ?_ ?_ <;> simp [sp_refs, rowsOf_nil]
  rintro ⟨i, acc⟩ ⟨hi, hal, hR⟩
  simp only at hi hal hR
  by_cases h : i < l.length
  · have w1 := w_succ' h (by omega)
    obtain ⟨⟨cs, a, r, t1, t2, t3⟩, hf⟩ : ∃ e, l[i] = e := ⟨_, rfl⟩
    rw [List.drop_eq_getElem_cons h, List.map_cons, hf] at hR
    have hl1 : acc.length ≤ 1073741823 := by omega
    by_cases c1 : t1 < t2
    · have hw : wtC c ⟨cs, a, r, t1, t2, t3⟩ = (workOut c ⟨t1, t2⟩).1 := if_pos c1
      rw [hw] at hR
      ((try simp -implicitDefEqProofs [-loopQ_n, h, hf, insC, c1, w1, hl1, int_snoc]) <;> (repeat' (first | (refine condD_dec ?_ ?_ <;> (intro hc; (try simp -implicitDefEqProofs [-loopQ_n, hc, h, hf, insC, c1, w1, hl1, int_snoc]))) | (refine guardD_dec ?_ ?_ <;> (intro hc; (try simp -implicitDefEqProofs [-loopQ_n, hc, h, hf, insC, c1, w1, hl1, int_snoc]))) | (refine condD_intro ?_ ?_ <;> (intro hd; have hc := hd; (try simp at hc) <;> (try simp -implicitDefEqProofs [-loopQ_n, hd, hc, h, hf, insC, c1, w1, hl1, int_snoc]))) | (refine guardD_intro ?_ ?_ <;> (intro hd; have hc := hd; (try simp at hc) <;> (try simp -implicitDefEqProofs [-loopQ_n, hd, hc, h, hf, insC, c1, w1, hl1, int_snoc]))) | (refine ldD_ep ?_ ?_; (focus kernel_rfl); (try simp -implicitDefEqProofs [-loopQ_n, h, hf, insC, c1, w1, hl1, int_snoc])) | (refine callS_mk ?_; (try simp -implicitDefEqProofs [-loopQ_n, h, hf, insC, c1, w1, hl1, int_snoc]); (first | refine callS_intro (working_pure c t1 t2) (.inl rfl) ?_); (try simp -implicitDefEqProofs [-loopQ_n, h, hf, insC, c1, w1, hl1, int_snoc])))))
      refine loop_next (i + 1, acc ++ [(workOut c ⟨t1, t2⟩).1]) ⟨h, by simp; omega, by simpa using hR⟩ (by simp only; omega) (weak_of 2 0 rfl rfl ?_ ?_) <;> simp [sp_refs, int_refs]
    · have hw : wtC c ⟨cs, a, r, t1, t2, t3⟩ = 0 := if_neg c1
      rw [hw] at hR
      ((try simp -implicitDefEqProofs [-loopQ_n, h, hf, insC, c1, w1, hl1, int_snoc]) <;> (repeat' (first | (refine condD_dec ?_ ?_ <;> (intro hc; (try simp -implicitDefEqProofs [-loopQ_n, hc, h, hf, insC, c1, w1, hl1, int_snoc]))) | (refine guardD_dec ?_ ?_ <;> (intro hc; (try simp -implicitDefEqProofs [-loopQ_n, hc, h, hf, insC, c1, w1, hl1, int_snoc]))) | (refine condD_intro ?_ ?_ <;> (intro hd; have hc := hd; (try simp at hc) <;> (try simp -implicitDefEqProofs [-loopQ_n, hd, hc, h, hf, insC, c1, w1, hl1, int_snoc]))) | (refine guardD_intro ?_ ?_ <;> (intro hd; have hc := hd; (try simp at hc) <;> (try simp -implicitDefEqProofs [-loopQ_n, hd, hc, h, hf, insC, c1, w1, hl1, int_snoc]))) | (refine ldD_ep ?_ ?_; (focus kernel_rfl); (try simp -implicitDefEqProofs [-loopQ_n, h, hf, insC, c1, w1, hl1, int_snoc])))))
      refine loop_next (i + 1, acc ++ [0]) ⟨h, by simp; omega, by simpa using hR⟩ (by simp only; omega) (weak_of 2 0 rfl rfl ?_ ?_) <;> simp [sp_refs, int_refs]
  · rw [List.drop_eq_nil_of_le (by omega), List.map_nil, List.append_nil] at hR
    subst hR
    ((try simp -implicitDefEqProofs [-loopQ_n, h, intsO, int_reify]) <;> (repeat' (first | (refine condD_dec ?_ ?_ <;> (intro hc; (try simp -implicitDefEqProofs [-loopQ_n, hc, h, intsO, int_reify]))) | (refine guardD_dec ?_ ?_ <;> (intro hc; (try simp -implicitDefEqProofs [-loopQ_n, hc, h, intsO, int_reify]))) | (refine condD_intro ?_ ?_ <;> (intro hd; have hc := hd; (try simp at hc) <;> (try simp -implicitDefEqProofs [-loopQ_n, hd, hc, h, intsO, int_reify]))) | (refine guardD_intro ?_ ?_ <;> (intro hd; have hc := hd; (try simp at hc) <;> (try simp -implicitDefEqProofs [-loopQ_n, hd, hc, h, intsO, int_reify]))) | (refine ldD_ep ?_ ?_; (focus kernel_rfl); (try simp -implicitDefEqProofs [-loopQ_n, h, intsO, int_reify])))))
end Go.Proofs.YtfbpjlabhckoeaaGreat
