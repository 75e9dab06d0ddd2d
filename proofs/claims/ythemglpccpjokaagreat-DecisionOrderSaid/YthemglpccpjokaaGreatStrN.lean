/- Lists of names, and alphabets (program, reference). -/
import Derived.Test.YthemglpccpjokaaGreatStrW
set_option linter.unusedSimpArgs false
set_option linter.unusedVariables false
set_option linter.unnecessarySimpa false
set_option linter.unusedSectionVars false
set_option maxRecDepth 100000
namespace Go.Proofs.YthemglpccpjokaaGreat
open Go.RowKit
variable [Glob]
def namesL (l : List ByteArray) : Bool := l.all isNameS
theorem namesL_no {l : List ByteArray} {i : Nat} (h : i < l.length) (hn : isNameS l[i] = false) : namesL l = false := by
  rw [namesL, ← Bool.not_eq_true, List.all_eq_true]
  intro q
  rw [q _ (List.getElem_mem h)] at hn
  cases hn
theorem namesL_yes {l : List ByteArray} (h : ∀ (j : Nat) (h : j < l.length), isNameS l[j] = true) : namesL l = true := by
  rw [namesL, List.all_eq_true]
  intro x hm
  obtain ⟨j, hj, rfl⟩ := List.getElem_of_mem hm
  exact h j hj
def AscP (l : List ByteArray) : Prop := ∀ (j : Nat) (h : j + 1 < l.length), ltS l[j] l[j + 1] = true
open Classical in
noncomputable def ascL (l : List ByteArray) : Bool := decide (AscP l)
open Classical in
theorem ascL_no {l : List ByteArray} {j : Nat} (h : j + 1 < l.length) (hn : ltS l[j] l[j + 1] = false) : ascL l = false := by
  rw [ascL, decide_eq_false_iff_not]
  intro q
  rw [q j h] at hn
  cases hn
open Classical in
theorem ascL_yes {l : List ByteArray} (h : AscP l) : ascL l = true := by rw [ascL, decide_eq_true_eq]; exact h
noncomputable def alphL (l : List ByteArray) : Bool := decide (l.length ≤ 40) && namesL l && ascL l
theorem le_of {x y : ByteArray} : (!Op.bytesLess x.toList y.toList) = !ltS x y := by rw [ltS, ba_toList, ba_toList]
end Go.Proofs.YthemglpccpjokaaGreat
