/- Putting a string into an ascending list (the reference). -/
import Derived.Test.YthemglpccpjokaaGreatStrN
import Derived.Test.YthemglpccpjokaaGreatM3
set_option linter.unusedSimpArgs false
set_option linter.unusedVariables false
set_option linter.unnecessarySimpa false
set_option linter.unusedSectionVars false
set_option maxRecDepth 100000
namespace Go.Proofs.YthemglpccpjokaaGreat
open Go.RowKit
variable [Glob]
theorem strs_snoc {l : List ByteArray} {s : ByteArray} : rowsOf strC l ++ [[AV.str s]] = rowsOf strC (l ++ [s]) := by simp [rowsOf, strC]
theorem strs_snoc2 {l : List ByteArray} {s x : ByteArray} : rowsOf strC l ++ [[AV.str s], [AV.str x]] = rowsOf strC (l ++ [s, x]) := by simp [rowsOf, strC]
theorem w_succB {i n : Nat} (h : i < n) (hn : n ≤ 9223372036854775807) : wrapI .i64 ((i : Int) + 1) = (i : Int) + 1 := by rw [wrap_in (by omega) (by omega)]
theorem setB_lenB (l : List ByteArray) : ∀ acc : List ByteArray, (l.foldl insB acc).length ≤ acc.length + l.length := by
  induction l with
  | nil => intro acc; simp
  | cons s r ih =>
    intro acc
    have h1 := ih (insB acc s)
    have h2 : (insB acc s).length ≤ acc.length + 1 := by
      unfold insB
      split
      · omega
      · have : ∀ l : List ByteArray, (insG s l).length = l.length + 1 := by
          intro l
          induction l with
          | nil => rfl
          | cons x q ih => simp only [insG]; split <;> simp [ih]
        rw [this]; omega
    simp only [List.foldl_cons, List.length_cons]; omega
end Go.Proofs.YthemglpccpjokaaGreat
