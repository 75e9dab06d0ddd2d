/- Lists of names, and alphabets (program, reference). -/
import Derived.Test.YtkppfaennogcmaaStrW
namespace Go.Proofs.Ytkppfaennogcmaa
set_option linter.unusedSimpArgs false
set_option linter.unusedVariables false
set_option linter.unnecessarySimpa false
set_option linter.unusedSectionVars false
open Go.RowKit
variable [Glob]
set_option maxRecDepth 100000
def namesL (l : List ByteArray) : Bool := l.all isNameS
theorem namesL_no {l : List ByteArray} {i : Nat} (h : i < l.length) (hn : isNameS l[i] = false) : namesL l = false := by
  rw [namesL, ← Bool.not_eq_true, List.all_eq_true]
  intro q
  rw [q _ (List.getElem_mem h)] at hn
  cases hn
theorem namesL_yes {l : List ByteArray} (h : ∀ (j : Nat) (h : j < l.length), isNameS l[j] = true) : namesL l = true := by
  rw [namesL, List.all_eq_true]
  intro x hm
  obtain ⟨j, hj, rfl⟩ := List.getElem_of_mem hm
  exact h j hj
/-- Each string before the next one. -/
def AscP (l : List ByteArray) : Prop := ∀ (j : Nat) (h : j + 1 < l.length), ltS l[j] l[j + 1] = true
open Classical in
noncomputable def ascL (l : List ByteArray) : Bool := decide (AscP l)
open Classical in
theorem ascL_no {l : List ByteArray} {j : Nat} (h : j + 1 < l.length) (hn : ltS l[j] l[j + 1] = false) : ascL l = false := by
  rw [ascL, decide_eq_false_iff_not]
  intro q
  rw [q j h] at hn
  cases hn
open Classical in
theorem ascL_yes {l : List ByteArray} (h : AscP l) : ascL l = true := by rw [ascL, decide_eq_true_eq]; exact h
noncomputable def alphL (l : List ByteArray) : Bool := decide (l.length ≤ 40) && namesL l && ascL l
theorem le_of {x y : ByteArray} : (!Op.bytesLess x.toList y.toList) = !ltS x y := by rw [ltS, ba_toList, ba_toList]
theorem rnames_pure (l : List ByteArray) (hl : l.length ≤ 9223372036854775807) : Pure Try.prog 64 [.rs (rowsOf strC l)] (.bool (namesL l)) := by
  refine pure_of mixed Try.func64 rfl (by kernel_rfl) (of_decide_eq_true rfl) (by kernel_rfl) (vc_run ?_)
  ((try simp -implicitDefEqProofs [-loopQ_n]) <;> (repeat' (first | (refine condD_dec ?_ ?_ <;> (intro hc; (try simp -implicitDefEqProofs [-loopQ_n, hc]))) | (refine guardD_dec ?_ ?_ <;> (intro hc; (try simp -implicitDefEqProofs [-loopQ_n, hc]))) | (refine condD_intro ?_ ?_ <;> (intro hd; have hc := hd; (try simp at hc) <;> (try simp -implicitDefEqProofs [-loopQ_n, hd, hc]))) | (refine guardD_intro ?_ ?_ <;> (intro hd; have hc := hd; (try simp at hc) <;> (try simp -implicitDefEqProofs [-loopQ_n, hd, hc]))) | (refine ldD_ep ?_ ?_; (focus kernel_rfl); (try simp -implicitDefEqProofs [-loopQ_n])))))
  refine loop_intro (σ := Nat) (fun i => ⟨[(0, .rs (rowsOf strC l)), (3, .int .i64 i)], []⟩) (fun i => i ≤ l.length ∧ (∀ (j : Nat) (h : j < l.length), j < i → isNameS l[j] = true)) (fun i => l.length - i) 0 ⟨by omega, fun j h q => absurd q (by omega)⟩ ?_ ?_
  · refine weak_of 0 0 rfl rfl ?_ ?_ <;> simp
  rintro i ⟨hi, hN⟩
  by_cases h : i < l.length
  · have w1 := sw_suc h (by omega)
    by_cases hn : isNameS l[i] = true
    · ((try simp -implicitDefEqProofs [-loopQ_n, h, w1, strC, hn]) <;> (repeat' (first | (refine condD_dec ?_ ?_ <;> (intro hc; (try simp -implicitDefEqProofs [-loopQ_n, hc, h, w1, strC, hn]))) | (refine guardD_dec ?_ ?_ <;> (intro hc; (try simp -implicitDefEqProofs [-loopQ_n, hc, h, w1, strC, hn]))) | (refine condD_intro ?_ ?_ <;> (intro hd; have hc := hd; (try simp at hc) <;> (try simp -implicitDefEqProofs [-loopQ_n, hd, hc, h, w1, strC, hn]))) | (refine guardD_intro ?_ ?_ <;> (intro hd; have hc := hd; (try simp at hc) <;> (try simp -implicitDefEqProofs [-loopQ_n, hd, hc, h, w1, strC, hn]))) | (refine ldD_ep ?_ ?_; (focus kernel_rfl); (try simp -implicitDefEqProofs [-loopQ_n, h, w1, strC, hn])) | (refine callS_mk ?_; (try simp -implicitDefEqProofs [-loopQ_n, h, w1, strC, hn]); (first | refine callS_intro (risName_pure l[i]) (.inl rfl) ?_); (try simp -implicitDefEqProofs [-loopQ_n, h, w1, strC, hn])))))
      refine loop_next (i + 1) ⟨h, fun j hj q => ?_⟩ (by omega) (weak_of 0 0 rfl rfl ?_ ?_)
      · by_cases e : j = i
        · subst e; exact hn
        · exact hN j hj (by omega)
      · simp
      · simp
    · have hn : isNameS l[i] = false := by simpa using hn
      ((try simp -implicitDefEqProofs [-loopQ_n, h, w1, strC, hn]) <;> (repeat' (first | (refine condD_dec ?_ ?_ <;> (intro hc; (try simp -implicitDefEqProofs [-loopQ_n, hc, h, w1, strC, hn]))) | (refine guardD_dec ?_ ?_ <;> (intro hc; (try simp -implicitDefEqProofs [-loopQ_n, hc, h, w1, strC, hn]))) | (refine condD_intro ?_ ?_ <;> (intro hd; have hc := hd; (try simp at hc) <;> (try simp -implicitDefEqProofs [-loopQ_n, hd, hc, h, w1, strC, hn]))) | (refine guardD_intro ?_ ?_ <;> (intro hd; have hc := hd; (try simp at hc) <;> (try simp -implicitDefEqProofs [-loopQ_n, hd, hc, h, w1, strC, hn]))) | (refine ldD_ep ?_ ?_; (focus kernel_rfl); (try simp -implicitDefEqProofs [-loopQ_n, h, w1, strC, hn])) | (refine callS_mk ?_; (try simp -implicitDefEqProofs [-loopQ_n, h, w1, strC, hn]); (first | refine callS_intro (risName_pure l[i]) (.inl rfl) ?_); (try simp -implicitDefEqProofs [-loopQ_n, h, w1, strC, hn])))))
      simp [namesL_no h hn]
  · have h1 := namesL_yes fun j hj => hN j hj (by omega)
    ((try simp -implicitDefEqProofs [-loopQ_n, h]) <;> (repeat' (first | (refine condD_dec ?_ ?_ <;> (intro hc; (try simp -implicitDefEqProofs [-loopQ_n, hc, h]))) | (refine guardD_dec ?_ ?_ <;> (intro hc; (try simp -implicitDefEqProofs [-loopQ_n, hc, h]))) | (refine condD_intro ?_ ?_ <;> (intro hd; have hc := hd; (try simp at hc) <;> (try simp -implicitDefEqProofs [-loopQ_n, hd, hc, h]))) | (refine guardD_intro ?_ ?_ <;> (intro hd; have hc := hd; (try simp at hc) <;> (try simp -implicitDefEqProofs [-loopQ_n, hd, hc, h]))) | (refine ldD_ep ?_ ?_; (focus kernel_rfl); (try simp -implicitDefEqProofs [-loopQ_n, h])))))
    simp [h1]
end Go.Proofs.Ytkppfaennogcmaa
