/- Putting a string into an ascending list (the reference). -/
import Derived.Test.YtkppfaennogcmaaStrN
import Derived.Test.YtkppfaennogcmaaM3
namespace Go.Proofs.Ytkppfaennogcmaa
set_option linter.unusedSimpArgs false
set_option linter.unusedVariables false
set_option linter.unnecessarySimpa false
set_option linter.unusedSectionVars false
open Go.RowKit
variable [Glob]
set_option maxRecDepth 100000
theorem strs_snoc {l : List ByteArray} {s : ByteArray} : rowsOf strC l ++ [[AV.str s]] = rowsOf strC (l ++ [s]) := by simp [rowsOf, strC]
theorem strs_snoc2 {l : List ByteArray} {s x : ByteArray} : rowsOf strC l ++ [[AV.str s], [AV.str x]] = rowsOf strC (l ++ [s, x]) := by simp [rowsOf, strC]
theorem w_succB {i n : Nat} (h : i < n) (hn : n ≤ 9223372036854775807) : wrapI .i64 ((i : Int) + 1) = (i : Int) + 1 := by rw [wrap_in (by omega) (by omega)]
theorem setB_lenB (l : List ByteArray) : ∀ acc : List ByteArray, (l.foldl insB acc).length ≤ acc.length + l.length := by
  induction l with
  | nil => intro acc; simp
  | cons s r ih =>
    intro acc
    have h1 := ih (insB acc s)
    have h2 : (insB acc s).length ≤ acc.length + 1 := by
      unfold insB
      split
      · omega
      · have : ∀ l : List ByteArray, (insG s l).length = l.length + 1 := by
          intro l
          induction l with
          | nil => rfl
          | cons x q ih => simp only [insG]; split <;> simp [ih]
        rw [this]; omega
    simp only [List.foldl_cons, List.length_cons]; omega
set_option maxHeartbeats 8000000 in
theorem rins_pure (l : List ByteArray) (s : ByteArray) (hl : l.length ≤ 1000000) : Pure Try.prog 77 [.rs (rowsOf strC l), .str s] (.rs (rowsOf strC (insB l s))) := by
  refine pure_of mixed Try.func77 rfl (by kernel_rfl) (of_decide_eq_true rfl) (by kernel_rfl) (vc_run ?_)
  ((try simp -implicitDefEqProofs [-loopQ_n]) <;> (repeat' (first | (refine condD_dec ?_ ?_ <;> (intro hc; (try simp -implicitDefEqProofs [-loopQ_n, hc]))) | (refine guardD_dec ?_ ?_ <;> (intro hc; (try simp -implicitDefEqProofs [-loopQ_n, hc]))) | (refine condD_intro ?_ ?_ <;> (intro hd; have hc := hd; (try simp at hc) <;> (try simp -implicitDefEqProofs [-loopQ_n, hd, hc]))) | (refine guardD_intro ?_ ?_ <;> (intro hd; have hc := hd; (try simp at hc) <;> (try simp -implicitDefEqProofs [-loopQ_n, hd, hc]))) | (refine ldD_ep ?_ ?_; (focus kernel_rfl); (try simp -implicitDefEqProofs [-loopQ_n])))))
  refine loop_intro (σ := Nat × Bool × List ByteArray) (fun x => ⟨[(0, .rs (rowsOf strC l)), (1, .str s), (5, .os 0 x.2.2.length), (6, .bool x.2.1), (7, .int .i64 x.1)], [.row 9 true (rowsOf strC x.2.2)]⟩)
    (fun x => x.1 ≤ l.length ∧ hasB (l.drop x.1) s = hasB l s ∧ x.2.2.length ≤ x.1 + (if x.2.1 = true then 1 else 0) ∧ x.2.2 ++ (if x.2.1 = true then l.drop x.1 else insG s (l.drop x.1)) = insG s l) (fun x => l.length - x.1) (0, false, []) ⟨by simp, by simp, by simp, by simp⟩ ?_ ?_
  · refine weak_of 0 1 rfl rfl ?_ ?_ <;> simp
  · rintro ⟨i, dn, acc⟩ ⟨hi, hH, hL, hR⟩
    simp only at hi hH hL hR
    by_cases h : i < l.length
    · have w1 := w_succB h (by omega)
      obtain ⟨x, hf⟩ : ∃ e, l[i] = e := ⟨_, rfl⟩
      rw [List.drop_eq_getElem_cons h, hf] at hH hR
      have hL2 : acc.length ≤ i + 1 := by split at hL <;> omega
      have hlen : acc.length + 1 ≤ 1073741824 := by omega
      have hlen2 : acc.length + 1 + 1 ≤ 1073741824 := by omega
      have hH2 : ¬ x.toList = s.toList → hasB (l.drop (i + 1)) s = hasB l s := fun q => by
        rw [← hH]
        simp only [hasB, List.any_cons]
        rw [show (x.data.toList == s.data.toList) = false from by rw [← ba_toList, ← ba_toList]; simpa using q]
        simp
      ((try simp -implicitDefEqProofs [-loopQ_n, h, hf, strC, hlen, hlen2]) <;> (repeat' (first | (refine condD_dec ?_ ?_ <;> (intro hc; (try simp -implicitDefEqProofs [-loopQ_n, hc, h, hf, strC, hlen, hlen2]))) | (refine guardD_dec ?_ ?_ <;> (intro hc; (try simp -implicitDefEqProofs [-loopQ_n, hc, h, hf, strC, hlen, hlen2]))) | (refine condD_intro ?_ ?_ <;> (intro hd; have hc := hd; (try simp at hc) <;> (try simp -implicitDefEqProofs [-loopQ_n, hd, hc, h, hf, strC, hlen, hlen2]))) | (refine guardD_intro ?_ ?_ <;> (intro hd; have hc := hd; (try simp at hc) <;> (try simp -implicitDefEqProofs [-loopQ_n, hd, hc, h, hf, strC, hlen, hlen2]))) | (refine ldD_ep ?_ ?_; (focus kernel_rfl); (try simp -implicitDefEqProofs [-loopQ_n, h, hf, strC, hlen, hlen2])))))
      · have : insB l s = l := by
          unfold insB
          rw [if_pos (by rw [← hH]; simp only [hasB, List.any_cons]; rw [← ba_toList, ← ba_toList, ‹x.toList = s.toList›]; simp)]
        rw [this]
      · subst_vars
        refine loop_next (i + 1, true, acc ++ [l[i]]) ⟨by simp only; omega, hH2 ‹_›, by simp; omega, by rw [← hR]; simp⟩ (by simp only; omega) (weak_of 1 0 rfl rfl ?_ ?_) <;> simp [w1, sw_refs, strs_snoc, strs_snoc2]
      · have hlt : Op.bytesLess s.data.toList x.data.toList = true := by
          obtain ⟨q1, q2⟩ := ‹Op.bytesLess x.toList s.toList = false ∧ ¬x.toList = s.toList›
          rw [ba_toList, ba_toList] at q1 q2
          rcases bl_tri x.data.toList s.data.toList with q | q | q
          · rw [q] at q1; cases q1
          · exact absurd q q2
          · exact q
        have hdn : dn = false := ‹_›
        rw [hdn] at hR
        simp only [Bool.false_eq_true, if_false, insG] at hR
        rw [if_pos hlt] at hR
        refine loop_next (i + 1, true, acc ++ [s] ++ [x]) ⟨by simp only; omega, hH2 ‹_›, by rw [hdn] at hL; simp at hL ⊢; omega, by rw [← hR]; simp⟩ (by simp only; omega) (weak_of 1 0 rfl rfl ?_ ?_) <;> simp [w1, sw_refs, strs_snoc, strs_snoc2]
      · have hdn : dn = false := ‹_›
        have hlt : ¬ Op.bytesLess s.data.toList x.data.toList = true := fun q => by
          have q0 := bl_asymm q
          rw [← ba_toList, ← ba_toList] at q0
          exact absurd (‹Op.bytesLess x.toList s.toList = false → x.toList = s.toList› q0) ‹_›
        rw [hdn] at hR
        simp only [Bool.false_eq_true, if_false, insG] at hR
        rw [if_neg hlt] at hR
        refine loop_next (i + 1, false, acc ++ [x]) ⟨by simp only; omega, hH2 ‹_›, by rw [hdn] at hL; simp at hL ⊢; omega, by rw [← hR]; simp⟩ (by simp only; omega) (weak_of 1 0 rfl rfl ?_ ?_) <;> simp [w1, sw_refs, strs_snoc, strs_snoc2]
    · rw [List.drop_eq_nil_of_le (by omega)] at hH hR
      have hno : insB l s = insG s l := by unfold insB; rw [if_neg (by rw [← hH]; simp [hasB])]
      have hlen : acc.length + 1 ≤ 1073741824 := by split at hL <;> omega
      rw [hno]
      ((try simp -implicitDefEqProofs [-loopQ_n, h, hlen, strs_snoc, sw_reify]) <;> (repeat' (first | (refine condD_dec ?_ ?_ <;> (intro hc; (try simp -implicitDefEqProofs [-loopQ_n, hc, h, hlen, strs_snoc, sw_reify]))) | (refine guardD_dec ?_ ?_ <;> (intro hc; (try simp -implicitDefEqProofs [-loopQ_n, hc, h, hlen, strs_snoc, sw_reify]))) | (refine condD_intro ?_ ?_ <;> (intro hd; have hc := hd; (try simp at hc) <;> (try simp -implicitDefEqProofs [-loopQ_n, hd, hc, h, hlen, strs_snoc, sw_reify]))) | (refine guardD_intro ?_ ?_ <;> (intro hd; have hc := hd; (try simp at hc) <;> (try simp -implicitDefEqProofs [-loopQ_n, hd, hc, h, hlen, strs_snoc, sw_reify]))) | (refine ldD_ep ?_ ?_; (focus kernel_rfl); (try simp -implicitDefEqProofs [-loopQ_n, h, hlen, strs_snoc, sw_reify])))))
      · rw [← hR, ‹dn = true›]; simp
      · rw [← hR, ‹dn = false›]; simp [insG]

end Go.Proofs.Ytkppfaennogcmaa
