/- Instances, calendars and spans among the arguments of a law. -/
import Derived.Test.YtfbpjlabhckoeaaGreatDec
import Derived.Test.YtfbpjlabhckoeaaGreatSpn0
import Derived.Test.YtfbpjlabhckoeaaGreatClk2
namespace Go.Proofs.YtfbpjlabhckoeaaGreat
set_option linter.unusedSimpArgs false
set_option linter.unusedVariables false
set_option linter.unnecessarySimpa false
set_option linter.unusedSectionVars false
open Go.RowKit
variable [Glob]
set_option maxRecDepth 100000
theorem d_int : Tryz.prog.cellsOf 3 = 1 := by kernel_rfl
theorem d_str : Tryz.prog.cellsOf 9 = 1 := by kernel_rfl
theorem d_span : Tryz.prog.cellsOf 48 = 2 := by kernel_rfl
theorem d_spans : Tryz.prog.cellsOf 23 = 1 := by kernel_rfl
theorem d_cal : Tryz.prog.cellsOf 25 = 1 := by kernel_rfl
theorem d_ins : Tryz.prog.cellsOf 61 = 6 := by kernel_rfl
def spI (s : Sp) : Prop := inI s.f ∧ inI s.t
def insI (x : Ins) : Prop := inI x.ready ∧ inI x.from_ ∧ inI x.to_
theorem dspan_dec {n : Nat} {row : List AV} (h : shp Tryz.prog (n + 2) 48 row) : ∃ v, row = spC v ∧ spI v := by
  obtain ⟨hl, hf⟩ := shp_struct Tryz.underlying48 h
  rw [d_span] at hl
  match row, hl with
  | [a, b], _ =>
    simp only [List.mem_cons, List.not_mem_nil, or_false, forall_eq_or_imp, forall_eq, d_int] at hf
    obtain ⟨x, h1, w1⟩ := shp_int Tryz.underlying3 hf.1
    obtain ⟨y, h2, w2⟩ := shp_int Tryz.underlying3 hf.2
    simp at h1 h2
    exact ⟨⟨x, y⟩, by rw [h1, h2]; rfl, inI_wf w1, inI_wf w2⟩
theorem dspans_dec {n : Nat} {row : List AV} (h : shp Tryz.prog (n + 3) 23 row) : ∃ l, row = [.rs (rowsOf spC l)] ∧ l.length ≤ 9223372036854775807 ∧ ∀ s ∈ l, spI s := by
  obtain ⟨rows, h6, hlen, hrows⟩ := shp_slice Tryz.underlying23 h
  obtain ⟨es, rfl, hd⟩ := rows_dec (p := spI) rows fun row hr => dspan_dec (hrows row hr)
  exact ⟨es, h6, by rw [maxLen_eq] at hlen; simpa [rowsOf] using hlen, hd⟩
theorem dcal_dec {x : AV} (h : argS Tryz.prog 25 x) : ∃ l, x = .agg [.rs (rowsOf spC l)] ∧ l.length ≤ 9223372036854775807 ∧ ∀ s ∈ l, spI s := by
  obtain ⟨l, rfl, hl, hf⟩ := arg_struct Tryz.underlying25 h
  rw [d_cal] at hl
  match l, hl with
  | [a], _ =>
    simp only [List.mem_cons, List.not_mem_nil, or_false, forall_eq, d_spans] at hf
    obtain ⟨es, h1, h2, h3⟩ := dspans_dec (n := 5) hf
    simp at h1
    exact ⟨es, by rw [h1], h2, h3⟩
theorem darg_spans {x : AV} (h : argS Tryz.prog 23 x) : ∃ l : List Sp, x = .rs (rowsOf spC l) ∧ l.length ≤ 9223372036854775807 ∧ ∀ s ∈ l, spI s := by
  obtain ⟨rows, rfl, hlen, hrows⟩ := arg_slice Tryz.underlying23 h
  obtain ⟨l, rfl, hd⟩ := rows_dec (p := spI) rows fun row hr => dspan_dec (n := 6) (hrows row hr)
  exact ⟨l, rfl, by rw [maxLen_eq] at hlen; simpa [rowsOf] using hlen, hd⟩
theorem dins_dec {n : Nat} {row : List AV} (h : shp Tryz.prog (n + 2) 61 row) : ∃ v, row = insC v ∧ insI v := by
  obtain ⟨hl, hf⟩ := shp_struct Tryz.underlying61 h
  rw [d_ins] at hl
  match row, hl with
  | [a, b, c, d, e, f], _ =>
    simp only [List.mem_cons, List.not_mem_nil, or_false, forall_eq_or_imp, forall_eq, d_int, d_str] at hf
    obtain ⟨f1, f2, f3, f4, f5, f6⟩ := hf
    obtain ⟨s1, h1, _⟩ := shp_str Tryz.underlying9 f1
    obtain ⟨s2, h2, _⟩ := shp_str Tryz.underlying9 f2
    obtain ⟨s3, h3, _⟩ := shp_str Tryz.underlying9 f3
    obtain ⟨x, h4, w4⟩ := shp_int Tryz.underlying3 f4
    obtain ⟨y, h5, w5⟩ := shp_int Tryz.underlying3 f5
    obtain ⟨z, h6, w6⟩ := shp_int Tryz.underlying3 f6
    simp at h1 h2 h3 h4 h5 h6
    exact ⟨⟨s1, s2, s3, x, y, z⟩, by rw [h1, h2, h3, h4, h5, h6]; rfl, inI_wf w4, inI_wf w5, inI_wf w6⟩
theorem arg_insl {x : AV} (h : argS Tryz.prog 22 x) : ∃ l : List Ins, x = .rs (rowsOf insC l) ∧ l.length ≤ 9223372036854775807 ∧ ∀ v ∈ l, insI v := by
  obtain ⟨rows, rfl, hlen, hrows⟩ := arg_slice Tryz.underlying22 h
  obtain ⟨l, rfl, hd⟩ := rows_dec (p := insI) rows fun row hr => dins_dec (n := 6) (hrows row hr)
  exact ⟨l, rfl, by rw [maxLen_eq] at hlen; simpa [rowsOf] using hlen, hd⟩
end Go.Proofs.YtfbpjlabhckoeaaGreat
