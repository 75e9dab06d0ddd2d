/- Strings and variants among the arguments of a law, read as data. -/
import Derived.Test.YtnldjmokemgaoaaDecL
import Derived.Test.YtnldjmokemgaoaaEl4
namespace Go.Proofs.Ytnldjmokemgaoaa
set_option linter.unusedSimpArgs false
set_option linter.unusedVariables false
set_option linter.unnecessarySimpa false
set_option linter.unusedSectionVars false
open Go.RowKit
variable [Glob]
set_option maxRecDepth 100000
theorem c_strs : Try.prog.cellsOf 27 = 1 := by kernel_rfl
theorem c_vr : Try.prog.cellsOf 59 = 2 := by kernel_rfl
theorem strs_dec {n : Nat} {row : List AV} (h : shp Try.prog (n + 2) 27 row) : ∃ l : List ByteArray, row = [.rs (rowsOf strC l)] ∧ l.length ≤ 9223372036854775807 := by
  obtain ⟨rows, rfl, hlen, hrows⟩ := shp_slice Try.underlying27 h
  obtain ⟨l, rfl, _⟩ := rows_dec (f := strC) (p := fun _ : ByteArray => True) rows fun row hr => by
    obtain ⟨s, h1, _⟩ := shp_str Try.underlying9 (hrows row hr)
    exact ⟨s, h1, trivial⟩
  exact ⟨l, rfl, by rw [maxLen_eq] at hlen; simpa [rowsOf] using hlen⟩
theorem vr_dec {n : Nat} {row : List AV} (h : shp Try.prog (n + 3) 59 row) : ∃ v, row = vrC v ∧ v.acts.length ≤ 9223372036854775807 := by
  obtain ⟨hl, hf⟩ := shp_struct Try.underlying59 h
  rw [c_vr] at hl
  match row, hl with
  | [a, b], _ =>
    simp only [List.mem_cons, List.not_mem_nil, or_false, forall_eq_or_imp, forall_eq, c_int, c_strs] at hf
    obtain ⟨l, h1, h2⟩ := strs_dec hf.1
    obtain ⟨y, h3, _⟩ := shp_int Try.underlying3 hf.2
    simp at h1 h3
    exact ⟨⟨l, y⟩, by rw [h1, h3]; rfl, h2⟩
theorem vars_dec {x : AV} (h : argS Try.prog 39 x) : ∃ l, x = .rs (rowsOf vrC l) ∧ l.length ≤ 9223372036854775807 ∧ ∀ v ∈ l, v.acts.length ≤ 9223372036854775807 := by
  obtain ⟨rows, rfl, hlen, hrows⟩ := arg_slice Try.underlying39 h
  obtain ⟨l, rfl, hd⟩ := rows_dec (p := fun v : Vr => v.acts.length ≤ 9223372036854775807) rows fun row hr => vr_dec (n := 5) (hrows row hr)
  exact ⟨l, rfl, by rw [maxLen_eq] at hlen; simpa [rowsOf] using hlen, hd⟩
theorem arg_strs {x : AV} (h : argS Try.prog 27 x) : ∃ l : List ByteArray, x = .rs (rowsOf strC l) ∧ l.length ≤ 9223372036854775807 := by
  obtain ⟨rows, rfl, hlen, hrows⟩ := arg_slice Try.underlying27 h
  obtain ⟨l, rfl, _⟩ := rows_dec (f := strC) (p := fun _ : ByteArray => True) rows fun row hr => by
    obtain ⟨s, h1, _⟩ := shp_str Try.underlying9 (hrows row hr)
    exact ⟨s, h1, trivial⟩
  exact ⟨l, rfl, by rw [maxLen_eq] at hlen; simpa [rowsOf] using hlen⟩
theorem log_dec2 {x : AV} (h : argS Try.prog 24 x) : ∃ l, x = .agg [.rs (rowsOf evtC l)] ∧ l.length ≤ 9223372036854775807 ∧ ∀ e ∈ l, e.data.length ≤ 9223372036854775807 := by
  obtain ⟨l, rfl, hl, hd⟩ := log_dec h
  rw [maxLen_eq] at hl
  exact ⟨l, rfl, hl, fun e he => by have := hd e he; rwa [maxLen_eq] at this⟩
end Go.Proofs.Ytnldjmokemgaoaa
