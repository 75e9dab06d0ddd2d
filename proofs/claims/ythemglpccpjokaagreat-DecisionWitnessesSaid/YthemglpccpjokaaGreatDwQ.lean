/- The unused rows: the answer's form. -/
import Derived.Test.YthemglpccpjokaaGreatDwK
import Derived.Test.YthemglpccpjokaaGreatDwC
import Derived.Test.YthemglpccpjokaaGreatDwO
namespace Go.Proofs.YthemglpccpjokaaGreat
set_option linter.unusedSimpArgs false
set_option linter.unusedVariables false
set_option linter.unnecessarySimpa false
set_option linter.unusedSectionVars false
open Go.RowKit
variable [Glob]
set_option maxRecDepth 100000
theorem unL_len : ∀ (F : List Bool) (i : Nat), (unL F i).length ≤ F.length
  | [], _ => by simp [unL]
  | b :: r, i => by
    have := unL_len r (i + 1)
    simp only [unL, List.length_append, List.length_cons]
    split <;> simp <;> omega
theorem unused_form (d : Dec) (hs : szD d) : ∃ (L : List Int) (e : Int), unusedO d = .tup [.rs (rowsOf intC L), .int .i64 e] ∧ L.length ≤ 1000000 := by
  unfold unusedO
  by_cases e : faultE d = 0
  · rw [if_pos e]
    refine ⟨_, 0, rfl, ?_⟩
    have h1 := unL_len (flagsU d (allA d.inputs).length) 0
    have h2 := flags_len d (allA d.inputs).length
    have := hs.2.2.1
    omega
  · rw [if_neg e]; exact ⟨[], _, rfl, by simp⟩
end Go.Proofs.YthemglpccpjokaaGreat
