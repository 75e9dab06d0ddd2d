/- The answers' forms; a table is the same as itself (the reference's Same). -/
import Derived.Test.YthemglpccpjokaaGreatM8
import Derived.Test.YthemglpccpjokaaGreatDwJ
set_option linter.unusedSimpArgs false
set_option linter.unusedVariables false
set_option linter.unnecessarySimpa false
set_option linter.unusedSectionVars false
set_option maxRecDepth 100000
namespace Go.Proofs.YthemglpccpjokaaGreat
open Go.RowKit
variable [Glob]
theorem find_len {l : List Dom} (hl : l.length ≤ 1000000) (hd : domsV l = true) {p : List Val → Bool} {v : List Val} (h : (allA l).find? p = some v) : v.length ≤ 1000000 := by
  have := (allA_mem (doms_mem hd) v (List.mem_of_find?_eq_some h)).1
  have := ass_len this
  omega
theorem gap_form (d : Dec) (hs : szD d) : ∃ (G : List Val) (a : Bool) (e : Int), gapO d = .tup [.rs (rowsOf valC G), .bool a, .int .i64 e] ∧ G.length ≤ 1000000 := by
  unfold gapO
  by_cases e : faultE d = 0
  · rw [if_pos e]
    cases h : gapF d with
    | none => exact ⟨[], false, 0, rfl, by simp⟩
    | some v => exact ⟨v, true, 0, rfl, find_len hs.1 (dec_facts (faultE_ok e).1).1 h⟩
  · rw [if_neg e]; exact ⟨[], false, _, rfl, by simp⟩
theorem over_form (d : Dec) (hs : szD d) : ∃ (G : List Val) (p q : Int) (a : Bool) (e : Int), overO d = .tup [.rs (rowsOf valC G), .agg [.int .i64 p, .int .i64 q], .bool a, .int .i64 e] ∧ G.length ≤ 1000000 := by
  unfold overO
  by_cases e : faultE d = 0
  · rw [if_pos e]
    cases h : overF d with
    | none => exact ⟨[], 0, 0, false, 0, rfl, by simp⟩
    | some v => exact ⟨v, _, _, true, 0, rfl, find_len hs.1 (dec_facts (faultE_ok e).1).1 h⟩
  · rw [if_neg e]; exact ⟨[], 0, 0, false, _, rfl, by simp⟩
end Go.Proofs.YthemglpccpjokaaGreat
