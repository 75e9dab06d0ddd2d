/- Lists of names, and alphabets (program, reference). -/
import Derived.Test.YtlcblpofikijmaaStrW
namespace Go.Proofs.Ytlcblpofikijmaa
set_option linter.unusedSimpArgs false
set_option linter.unusedVariables false
set_option linter.unnecessarySimpa false
set_option linter.unusedSectionVars false
open Go.RowKit
variable [Glob]
set_option maxRecDepth 100000
def namesL (l : List ByteArray) : Bool := l.all isNameS
theorem namesL_no {l : List ByteArray} {i : Nat} (h : i < l.length) (hn : isNameS l[i] = false) : namesL l = false := by
  rw [namesL, ← Bool.not_eq_true, List.all_eq_true]
  intro q
  rw [q _ (List.getElem_mem h)] at hn
  cases hn
theorem namesL_yes {l : List ByteArray} (h : ∀ (j : Nat) (h : j < l.length), isNameS l[j] = true) : namesL l = true := by
  rw [namesL, List.all_eq_true]
  intro x hm
  obtain ⟨j, hj, rfl⟩ := List.getElem_of_mem hm
  exact h j hj
/-- Each string before the next one. -/
def AscP (l : List ByteArray) : Prop := ∀ (j : Nat) (h : j + 1 < l.length), ltS l[j] l[j + 1] = true
open Classical in
noncomputable def ascL (l : List ByteArray) : Bool := decide (AscP l)
open Classical in
theorem ascL_no {l : List ByteArray} {j : Nat} (h : j + 1 < l.length) (hn : ltS l[j] l[j + 1] = false) : ascL l = false := by
  rw [ascL, decide_eq_false_iff_not]
  intro q
  rw [q j h] at hn
  cases hn
open Classical in
theorem ascL_yes {l : List ByteArray} (h : AscP l) : ascL l = true := by rw [ascL, decide_eq_true_eq]; exact h
noncomputable def alphL (l : List ByteArray) : Bool := decide (l.length ≤ 40) && namesL l && ascL l
theorem le_of {x y : ByteArray} : (!Op.bytesLess x.toList y.toList) = !ltS x y := by rw [ltS, ba_toList, ba_toList]
theorem alph_pure (l : List ByteArray) : Pure Try.prog 19 [.rs (rowsOf strC l)] (.bool (alphL l)) := by
  refine pure_of mixed Try.func19 rfl (by kernel_rfl) (of_decide_eq_true rfl) (by kernel_rfl) (vc_run ?_)
  by_cases hl : 40 < l.length
  · have hl' : (40 : Int) < l.length := by omega
    have hl2 : ¬ l.length ≤ 40 := by omega
    ((try simp -implicitDefEqProofs [-loopQ_n, hl']) <;> (repeat' (first | (refine condD_dec ?_ ?_ <;> (intro hc; (try simp -implicitDefEqProofs [-loopQ_n, hc, hl']))) | (refine guardD_dec ?_ ?_ <;> (intro hc; (try simp -implicitDefEqProofs [-loopQ_n, hc, hl']))) | (refine condD_intro ?_ ?_ <;> (intro hd; have hc := hd; (try simp at hc) <;> (try simp -implicitDefEqProofs [-loopQ_n, hd, hc, hl']))) | (refine guardD_intro ?_ ?_ <;> (intro hd; have hc := hd; (try simp at hc) <;> (try simp -implicitDefEqProofs [-loopQ_n, hd, hc, hl']))) | (refine ldD_ep ?_ ?_; (focus kernel_rfl); (try simp -implicitDefEqProofs [-loopQ_n, hl'])))))
    simp [alphL, hl2]
  have hl' : ¬ (40 : Int) < l.length := by omega
  have hl2 : l.length ≤ 40 := by omega
  ((try simp -implicitDefEqProofs [-loopQ_n, hl']) <;> (repeat' (first | (refine condD_dec ?_ ?_ <;> (intro hc; (try simp -implicitDefEqProofs [-loopQ_n, hc, hl']))) | (refine guardD_dec ?_ ?_ <;> (intro hc; (try simp -implicitDefEqProofs [-loopQ_n, hc, hl']))) | (refine condD_intro ?_ ?_ <;> (intro hd; have hc := hd; (try simp at hc) <;> (try simp -implicitDefEqProofs [-loopQ_n, hd, hc, hl']))) | (refine guardD_intro ?_ ?_ <;> (intro hd; have hc := hd; (try simp at hc) <;> (try simp -implicitDefEqProofs [-loopQ_n, hd, hc, hl']))) | (refine ldD_ep ?_ ?_; (focus kernel_rfl); (try simp -implicitDefEqProofs [-loopQ_n, hl'])))))
  refine loop_intro (σ := Nat) (fun i => ⟨[(0, .rs (rowsOf strC l)), (8, .rs (rowsOf strC l)), (9, .int .i64 l.length), (10, .int .i64 i)], []⟩) (fun i => i ≤ l.length ∧ (∀ (j : Nat) (h : j < l.length), j < i → isNameS l[j] = true) ∧ (∀ (j : Nat) (h : j + 1 < l.length), j + 1 < i → ltS l[j] l[j + 1] = true)) (fun i => l.length - i) 0 ⟨by omega, fun j h q => absurd q (by omega), fun j h q => absurd q (by omega)⟩ ?_ ?_
  · refine weak_of 0 0 rfl rfl ?_ ?_ <;> simp
  rintro i ⟨hi, hN, hA⟩
  by_cases h : i < l.length
  · have w1 := sw_suc h (by omega)
    by_cases hn : isNameS l[i] = true
    · have hN2 : ∀ (j : Nat) (h : j < l.length), j < i + 1 → isNameS l[j] = true := fun j hj q => by
        by_cases e : j = i
        · subst e; exact hn
        · exact hN j hj (by omega)
      by_cases h0 : 0 < i
      · obtain ⟨k, rfl⟩ : ∃ k, i = k + 1 := ⟨i - 1, by omega⟩
        have w2 : wrapI .i64 (((k + 1 : Nat) : Int) - 1) = (k : Int) := by rw [wrap_in (by omega) (by omega)]; omega
        have w3 : wrapI .i64 ((k : Int) + 1 - 1) = (k : Int) := by rw [wrap_in (by omega) (by omega)]; omega
        have w4 : wrapI .i64 (k : Int) = (k : Int) := wrap_in (by omega) (by omega)
        have p0 : (0 : Int) < (k : Int) + 1 := by omega
        have p1 : (0 : Int) ≤ (k : Int) + 1 := by omega
        have hk : k < l.length := by omega
        have h' : (k : Int) + 1 < l.length := by omega
        by_cases g : ltS l[k] l[k + 1] = true
        · have g1 := (sless_of g).a
          simp only [Int.natCast_add, Int.natCast_one] at w1
          ((try simp -implicitDefEqProofs [-loopQ_n, h, h', hk, w1, w2, w3, w4, p0, p1, strC, hn, g1]) <;> (repeat' (first | (refine condD_dec ?_ ?_ <;> (intro hc; (try simp -implicitDefEqProofs [-loopQ_n, hc, h, h', hk, w1, w2, w3, w4, p0, p1, strC, hn, g1]))) | (refine guardD_dec ?_ ?_ <;> (intro hc; (try simp -implicitDefEqProofs [-loopQ_n, hc, h, h', hk, w1, w2, w3, w4, p0, p1, strC, hn, g1]))) | (refine condD_intro ?_ ?_ <;> (intro hd; have hc := hd; (try simp at hc) <;> (try simp -implicitDefEqProofs [-loopQ_n, hd, hc, h, h', hk, w1, w2, w3, w4, p0, p1, strC, hn, g1]))) | (refine guardD_intro ?_ ?_ <;> (intro hd; have hc := hd; (try simp at hc) <;> (try simp -implicitDefEqProofs [-loopQ_n, hd, hc, h, h', hk, w1, w2, w3, w4, p0, p1, strC, hn, g1]))) | (refine ldD_ep ?_ ?_; (focus kernel_rfl); (try simp -implicitDefEqProofs [-loopQ_n, h, h', hk, w1, w2, w3, w4, p0, p1, strC, hn, g1])) | (refine callS_mk ?_; (try simp -implicitDefEqProofs [-loopQ_n, h, h', hk, w1, w2, w3, w4, p0, p1, strC, hn, g1]); (first | refine callS_intro (isName_pure l[k + 1]) (.inl rfl) ?_); (try simp -implicitDefEqProofs [-loopQ_n, h, h', hk, w1, w2, w3, w4, p0, p1, strC, hn, g1])))))
          refine loop_next (k + 1 + 1) ⟨h, hN2, fun j hj q => ?_⟩ (by omega) (weak_of 0 0 rfl rfl ?_ ?_)
          · by_cases e : j = k
            · subst e; exact g
            · exact hA j hj (by omega)
          · simp
          · simp
        · have g : ltS l[k] l[k + 1] = false := by simpa using g
          have g1 : Op.bytesLess l[k].toList l[k + 1].toList = false := by rw [ba_toList, ba_toList]; exact g
          ((try simp -implicitDefEqProofs [-loopQ_n, h, h', hk, w1, w2, w3, w4, p0, p1, strC, hn, g1]) <;> (repeat' (first | (refine condD_dec ?_ ?_ <;> (intro hc; (try simp -implicitDefEqProofs [-loopQ_n, hc, h, h', hk, w1, w2, w3, w4, p0, p1, strC, hn, g1]))) | (refine guardD_dec ?_ ?_ <;> (intro hc; (try simp -implicitDefEqProofs [-loopQ_n, hc, h, h', hk, w1, w2, w3, w4, p0, p1, strC, hn, g1]))) | (refine condD_intro ?_ ?_ <;> (intro hd; have hc := hd; (try simp at hc) <;> (try simp -implicitDefEqProofs [-loopQ_n, hd, hc, h, h', hk, w1, w2, w3, w4, p0, p1, strC, hn, g1]))) | (refine guardD_intro ?_ ?_ <;> (intro hd; have hc := hd; (try simp at hc) <;> (try simp -implicitDefEqProofs [-loopQ_n, hd, hc, h, h', hk, w1, w2, w3, w4, p0, p1, strC, hn, g1]))) | (refine ldD_ep ?_ ?_; (focus kernel_rfl); (try simp -implicitDefEqProofs [-loopQ_n, h, h', hk, w1, w2, w3, w4, p0, p1, strC, hn, g1])) | (refine callS_mk ?_; (try simp -implicitDefEqProofs [-loopQ_n, h, h', hk, w1, w2, w3, w4, p0, p1, strC, hn, g1]); (first | refine callS_intro (isName_pure l[k + 1]) (.inl rfl) ?_); (try simp -implicitDefEqProofs [-loopQ_n, h, h', hk, w1, w2, w3, w4, p0, p1, strC, hn, g1])))))
          simp [alphL, ascL_no h g]
      · have h00 : i = 0 := by omega
        subst h00
        ((try simp -implicitDefEqProofs [-loopQ_n, h, w1, strC, hn]) <;> (repeat' (first | (refine condD_dec ?_ ?_ <;> (intro hc; (try simp -implicitDefEqProofs [-loopQ_n, hc, h, w1, strC, hn]))) | (refine guardD_dec ?_ ?_ <;> (intro hc; (try simp -implicitDefEqProofs [-loopQ_n, hc, h, w1, strC, hn]))) | (refine condD_intro ?_ ?_ <;> (intro hd; have hc := hd; (try simp at hc) <;> (try simp -implicitDefEqProofs [-loopQ_n, hd, hc, h, w1, strC, hn]))) | (refine guardD_intro ?_ ?_ <;> (intro hd; have hc := hd; (try simp at hc) <;> (try simp -implicitDefEqProofs [-loopQ_n, hd, hc, h, w1, strC, hn]))) | (refine ldD_ep ?_ ?_; (focus kernel_rfl); (try simp -implicitDefEqProofs [-loopQ_n, h, w1, strC, hn])) | (refine callS_mk ?_; (try simp -implicitDefEqProofs [-loopQ_n, h, w1, strC, hn]); (first | refine callS_intro (isName_pure l[0]) (.inl rfl) ?_); (try simp -implicitDefEqProofs [-loopQ_n, h, w1, strC, hn])))))
        refine loop_next 1 ⟨h, hN2, fun j hj q => absurd q (by omega)⟩ (by omega) (weak_of 0 0 rfl rfl ?_ ?_)
        · simp
          exact (wrap_in (by omega) (by omega)).symm
        · simp
    · have hn : isNameS l[i] = false := by simpa using hn
      ((try simp -implicitDefEqProofs [-loopQ_n, h, w1, strC, hn]) <;> (repeat' (first | (refine condD_dec ?_ ?_ <;> (intro hc; (try simp -implicitDefEqProofs [-loopQ_n, hc, h, w1, strC, hn]))) | (refine guardD_dec ?_ ?_ <;> (intro hc; (try simp -implicitDefEqProofs [-loopQ_n, hc, h, w1, strC, hn]))) | (refine condD_intro ?_ ?_ <;> (intro hd; have hc := hd; (try simp at hc) <;> (try simp -implicitDefEqProofs [-loopQ_n, hd, hc, h, w1, strC, hn]))) | (refine guardD_intro ?_ ?_ <;> (intro hd; have hc := hd; (try simp at hc) <;> (try simp -implicitDefEqProofs [-loopQ_n, hd, hc, h, w1, strC, hn]))) | (refine ldD_ep ?_ ?_; (focus kernel_rfl); (try simp -implicitDefEqProofs [-loopQ_n, h, w1, strC, hn])) | (refine callS_mk ?_; (try simp -implicitDefEqProofs [-loopQ_n, h, w1, strC, hn]); (first | refine callS_intro (isName_pure l[i]) (.inl rfl) ?_); (try simp -implicitDefEqProofs [-loopQ_n, h, w1, strC, hn])))))
      simp [alphL, namesL_no h hn]
  · have h1 := namesL_yes fun j hj => hN j hj (by omega)
    have h2 : ascL l = true := ascL_yes fun j hj => hA j hj (by omega)
    ((try simp -implicitDefEqProofs [-loopQ_n, h]) <;> (repeat' (first | (refine condD_dec ?_ ?_ <;> (intro hc; (try simp -implicitDefEqProofs [-loopQ_n, hc, h]))) | (refine guardD_dec ?_ ?_ <;> (intro hc; (try simp -implicitDefEqProofs [-loopQ_n, hc, h]))) | (refine condD_intro ?_ ?_ <;> (intro hd; have hc := hd; (try simp at hc) <;> (try simp -implicitDefEqProofs [-loopQ_n, hd, hc, h]))) | (refine guardD_intro ?_ ?_ <;> (intro hd; have hc := hd; (try simp at hc) <;> (try simp -implicitDefEqProofs [-loopQ_n, hd, hc, h]))) | (refine ldD_ep ?_ ?_; (focus kernel_rfl); (try simp -implicitDefEqProofs [-loopQ_n, h])))))
    simp [alphL, hl2, h1, h2]
theorem rnames_pure (l : List ByteArray) (hl : l.length ≤ 9223372036854775807) : Pure Try.prog 50 [.rs (rowsOf strC l)] (.bool (namesL l)) := by
  refine pure_of mixed Try.func50 rfl (by kernel_rfl) (of_decide_eq_true rfl) (by kernel_rfl) (vc_run ?_)
  ((try simp -implicitDefEqProofs [-loopQ_n]) <;> (repeat' (first | (refine condD_dec ?_ ?_ <;> (intro hc; (try simp -implicitDefEqProofs [-loopQ_n, hc]))) | (refine guardD_dec ?_ ?_ <;> (intro hc; (try simp -implicitDefEqProofs [-loopQ_n, hc]))) | (refine condD_intro ?_ ?_ <;> (intro hd; have hc := hd; (try simp at hc) <;> (try simp -implicitDefEqProofs [-loopQ_n, hd, hc]))) | (refine guardD_intro ?_ ?_ <;> (intro hd; have hc := hd; (try simp at hc) <;> (try simp -implicitDefEqProofs [-loopQ_n, hd, hc]))) | (refine ldD_ep ?_ ?_; (focus kernel_rfl); (try simp -implicitDefEqProofs [-loopQ_n])))))
  refine loop_intro (σ := Nat) (fun i => ⟨[(0, .rs (rowsOf strC l)), (3, .int .i64 i)], []⟩) (fun i => i ≤ l.length ∧ (∀ (j : Nat) (h : j < l.length), j < i → isNameS l[j] = true)) (fun i => l.length - i) 0 ⟨by omega, fun j h q => absurd q (by omega)⟩ ?_ ?_
  · refine weak_of 0 0 rfl rfl ?_ ?_ <;> simp
  rintro i ⟨hi, hN⟩
  by_cases h : i < l.length
  · have w1 := sw_suc h (by omega)
    by_cases hn : isNameS l[i] = true
    · ((try simp -implicitDefEqProofs [-loopQ_n, h, w1, strC, hn]) <;> (repeat' (first | (refine condD_dec ?_ ?_ <;> (intro hc; (try simp -implicitDefEqProofs [-loopQ_n, hc, h, w1, strC, hn]))) | (refine guardD_dec ?_ ?_ <;> (intro hc; (try simp -implicitDefEqProofs [-loopQ_n, hc, h, w1, strC, hn]))) | (refine condD_intro ?_ ?_ <;> (intro hd; have hc := hd; (try simp at hc) <;> (try simp -implicitDefEqProofs [-loopQ_n, hd, hc, h, w1, strC, hn]))) | (refine guardD_intro ?_ ?_ <;> (intro hd; have hc := hd; (try simp at hc) <;> (try simp -implicitDefEqProofs [-loopQ_n, hd, hc, h, w1, strC, hn]))) | (refine ldD_ep ?_ ?_; (focus kernel_rfl); (try simp -implicitDefEqProofs [-loopQ_n, h, w1, strC, hn])) | (refine callS_mk ?_; (try simp -implicitDefEqProofs [-loopQ_n, h, w1, strC, hn]); (first | refine callS_intro (risName_pure l[i]) (.inl rfl) ?_); (try simp -implicitDefEqProofs [-loopQ_n, h, w1, strC, hn])))))
      refine loop_next (i + 1) ⟨h, fun j hj q => ?_⟩ (by omega) (weak_of 0 0 rfl rfl ?_ ?_)
      · by_cases e : j = i
        · subst e; exact hn
        · exact hN j hj (by omega)
      · simp
      · simp
    · have hn : isNameS l[i] = false := by simpa using hn
      ((try simp -implicitDefEqProofs [-loopQ_n, h, w1, strC, hn]) <;> (repeat' (first | (refine condD_dec ?_ ?_ <;> (intro hc; (try simp -implicitDefEqProofs [-loopQ_n, hc, h, w1, strC, hn]))) | (refine guardD_dec ?_ ?_ <;> (intro hc; (try simp -implicitDefEqProofs [-loopQ_n, hc, h, w1, strC, hn]))) | (refine condD_intro ?_ ?_ <;> (intro hd; have hc := hd; (try simp at hc) <;> (try simp -implicitDefEqProofs [-loopQ_n, hd, hc, h, w1, strC, hn]))) | (refine guardD_intro ?_ ?_ <;> (intro hd; have hc := hd; (try simp at hc) <;> (try simp -implicitDefEqProofs [-loopQ_n, hd, hc, h, w1, strC, hn]))) | (refine ldD_ep ?_ ?_; (focus kernel_rfl); (try simp -implicitDefEqProofs [-loopQ_n, h, w1, strC, hn])) | (refine callS_mk ?_; (try simp -implicitDefEqProofs [-loopQ_n, h, w1, strC, hn]); (first | refine callS_intro (risName_pure l[i]) (.inl rfl) ?_); (try simp -implicitDefEqProofs [-loopQ_n, h, w1, strC, hn])))))
      simp [namesL_no h hn]
  · have h1 := namesL_yes fun j hj => hN j hj (by omega)
    ((try simp -implicitDefEqProofs [-loopQ_n, h]) <;> (repeat' (first | (refine condD_dec ?_ ?_ <;> (intro hc; (try simp -implicitDefEqProofs [-loopQ_n, hc, h]))) | (refine guardD_dec ?_ ?_ <;> (intro hc; (try simp -implicitDefEqProofs [-loopQ_n, hc, h]))) | (refine condD_intro ?_ ?_ <;> (intro hd; have hc := hd; (try simp at hc) <;> (try simp -implicitDefEqProofs [-loopQ_n, hd, hc, h]))) | (refine guardD_intro ?_ ?_ <;> (intro hd; have hc := hd; (try simp at hc) <;> (try simp -implicitDefEqProofs [-loopQ_n, hd, hc, h]))) | (refine ldD_ep ?_ ?_; (focus kernel_rfl); (try simp -implicitDefEqProofs [-loopQ_n, h])))))
    simp [h1]
theorem rasc_pure (l : List ByteArray) (hl : l.length ≤ 9223372036854775807) : Pure Try.prog 51 [.rs (rowsOf strC l)] (.bool (ascL l)) := by
  refine pure_of mixed Try.func51 rfl (by kernel_rfl) (of_decide_eq_true rfl) (by kernel_rfl) (vc_run ?_)
  ((try simp -implicitDefEqProofs [-loopQ_n]) <;> (repeat' (first | (refine condD_dec ?_ ?_ <;> (intro hc; (try simp -implicitDefEqProofs [-loopQ_n, hc]))) | (refine guardD_dec ?_ ?_ <;> (intro hc; (try simp -implicitDefEqProofs [-loopQ_n, hc]))) | (refine condD_intro ?_ ?_ <;> (intro hd; have hc := hd; (try simp at hc) <;> (try simp -implicitDefEqProofs [-loopQ_n, hd, hc]))) | (refine guardD_intro ?_ ?_ <;> (intro hd; have hc := hd; (try simp at hc) <;> (try simp -implicitDefEqProofs [-loopQ_n, hd, hc]))) | (refine ldD_ep ?_ ?_; (focus kernel_rfl); (try simp -implicitDefEqProofs [-loopQ_n])))))
  refine loop_intro (σ := Nat) (fun i => ⟨[(0, .rs (rowsOf strC l)), (3, .int .i64 ((i : Int) + 1))], []⟩) (fun i => i ≤ l.length ∧ (∀ (j : Nat) (h : j + 1 < l.length), j < i → ltS l[j] l[j + 1] = true)) (fun i => l.length - i) 0 ⟨by omega, fun j h q => absurd q (by omega)⟩ ?_ ?_
  · refine weak_of 0 0 rfl rfl ?_ ?_ <;> simp
  rintro k ⟨hi, hA⟩
  by_cases h : k + 1 < l.length
  · have h' : (k : Int) + 1 < l.length := by omega
    have w1 := sw_suc h (by omega)
    have w3 : wrapI .i64 ((k : Int) + 1 - 1) = (k : Int) := by rw [wrap_in (by omega) (by omega)]; omega
    have w4 : wrapI .i64 (k : Int) = (k : Int) := wrap_in (by omega) (by omega)
    have p1 : (0 : Int) ≤ (k : Int) + 1 := by omega
    have hk : k < l.length := by omega
    simp only [Int.natCast_add, Int.natCast_one] at w1
    by_cases g : ltS l[k] l[k + 1] = true
    · have g1 := (sless_of g).a
      ((try simp -implicitDefEqProofs [-loopQ_n, h, h', hk, w1, w3, w4, p1, strC, g1]) <;> (repeat' (first | (refine condD_dec ?_ ?_ <;> (intro hc; (try simp -implicitDefEqProofs [-loopQ_n, hc, h, h', hk, w1, w3, w4, p1, strC, g1]))) | (refine guardD_dec ?_ ?_ <;> (intro hc; (try simp -implicitDefEqProofs [-loopQ_n, hc, h, h', hk, w1, w3, w4, p1, strC, g1]))) | (refine condD_intro ?_ ?_ <;> (intro hd; have hc := hd; (try simp at hc) <;> (try simp -implicitDefEqProofs [-loopQ_n, hd, hc, h, h', hk, w1, w3, w4, p1, strC, g1]))) | (refine guardD_intro ?_ ?_ <;> (intro hd; have hc := hd; (try simp at hc) <;> (try simp -implicitDefEqProofs [-loopQ_n, hd, hc, h, h', hk, w1, w3, w4, p1, strC, g1]))) | (refine ldD_ep ?_ ?_; (focus kernel_rfl); (try simp -implicitDefEqProofs [-loopQ_n, h, h', hk, w1, w3, w4, p1, strC, g1])))))
      refine loop_next (k + 1) ⟨by omega, fun j hj q => ?_⟩ (by omega) (weak_of 0 0 rfl rfl ?_ ?_)
      · by_cases e : j = k
        · subst e; exact g
        · exact hA j hj (by omega)
      · simp
      · simp
    · have g : ltS l[k] l[k + 1] = false := by simpa using g
      have g1 : Op.bytesLess l[k].toList l[k + 1].toList = false := by rw [ba_toList, ba_toList]; exact g
      ((try simp -implicitDefEqProofs [-loopQ_n, h, h', hk, w1, w3, w4, p1, strC, g1]) <;> (repeat' (first | (refine condD_dec ?_ ?_ <;> (intro hc; (try simp -implicitDefEqProofs [-loopQ_n, hc, h, h', hk, w1, w3, w4, p1, strC, g1]))) | (refine guardD_dec ?_ ?_ <;> (intro hc; (try simp -implicitDefEqProofs [-loopQ_n, hc, h, h', hk, w1, w3, w4, p1, strC, g1]))) | (refine condD_intro ?_ ?_ <;> (intro hd; have hc := hd; (try simp at hc) <;> (try simp -implicitDefEqProofs [-loopQ_n, hd, hc, h, h', hk, w1, w3, w4, p1, strC, g1]))) | (refine guardD_intro ?_ ?_ <;> (intro hd; have hc := hd; (try simp at hc) <;> (try simp -implicitDefEqProofs [-loopQ_n, hd, hc, h, h', hk, w1, w3, w4, p1, strC, g1]))) | (refine ldD_ep ?_ ?_; (focus kernel_rfl); (try simp -implicitDefEqProofs [-loopQ_n, h, h', hk, w1, w3, w4, p1, strC, g1])))))
      simp [ascL_no h g]
  · have h' : ¬ (k : Int) + 1 < l.length := by omega
    have h2 : ascL l = true := ascL_yes fun j hj => hA j hj (by omega)
    ((try simp -implicitDefEqProofs [-loopQ_n, h, h']) <;> (repeat' (first | (refine condD_dec ?_ ?_ <;> (intro hc; (try simp -implicitDefEqProofs [-loopQ_n, hc, h, h']))) | (refine guardD_dec ?_ ?_ <;> (intro hc; (try simp -implicitDefEqProofs [-loopQ_n, hc, h, h']))) | (refine condD_intro ?_ ?_ <;> (intro hd; have hc := hd; (try simp at hc) <;> (try simp -implicitDefEqProofs [-loopQ_n, hd, hc, h, h']))) | (refine guardD_intro ?_ ?_ <;> (intro hd; have hc := hd; (try simp at hc) <;> (try simp -implicitDefEqProofs [-loopQ_n, hd, hc, h, h']))) | (refine ldD_ep ?_ ?_; (focus kernel_rfl); (try simp -implicitDefEqProofs [-loopQ_n, h, h'])))))
    simp [h2]
theorem ralph_pure (l : List ByteArray) (hl : l.length ≤ 9223372036854775807) : Pure Try.prog 20 [.rs (rowsOf strC l)] (.bool (alphL l)) := by
  refine pure_of mixed Try.func20 rfl (by kernel_rfl) (of_decide_eq_true rfl) (by kernel_rfl) (vc_run ?_)
  ((try simp -implicitDefEqProofs [-loopQ_n]) <;> (repeat' (first | (refine condD_dec ?_ ?_ <;> (intro hc; (try simp -implicitDefEqProofs [-loopQ_n, hc]))) | (refine guardD_dec ?_ ?_ <;> (intro hc; (try simp -implicitDefEqProofs [-loopQ_n, hc]))) | (refine condD_intro ?_ ?_ <;> (intro hd; have hc := hd; (try simp at hc) <;> (try simp -implicitDefEqProofs [-loopQ_n, hd, hc]))) | (refine guardD_intro ?_ ?_ <;> (intro hd; have hc := hd; (try simp at hc) <;> (try simp -implicitDefEqProofs [-loopQ_n, hd, hc]))) | (refine ldD_ep ?_ ?_; (focus kernel_rfl); (try simp -implicitDefEqProofs [-loopQ_n])) | (refine callS_mk ?_; (try simp -implicitDefEqProofs [-loopQ_n]); (first | refine callS_intro (rnames_pure l hl) (.inl rfl) ?_ | refine callS_intro (rasc_pure l hl) (.inl rfl) ?_); (try simp -implicitDefEqProofs [-loopQ_n])))))
  all_goals (try simp [alphL, *])
  all_goals (intros; omega)
end Go.Proofs.Ytlcblpofikijmaa
