/- Tables among the arguments of a law, read as data; which tables the laws take. -/
import Derived.Test.YthemglpccpjokaaGreatM7
import Derived.Test.YthemglpccpjokaaGreatDec
set_option linter.unusedSimpArgs false
set_option linter.unusedVariables false
set_option linter.unnecessarySimpa false
set_option linter.unusedSectionVars false
set_option maxRecDepth 100000
namespace Go.Proofs.YthemglpccpjokaaGreat
open Go.RowKit
variable [Glob]
theorem dc_int : Tryz.prog.cellsOf 3 = 1 := by kernel_rfl
theorem dc_str : Tryz.prog.cellsOf 9 = 1 := by kernel_rfl
theorem dc_val : Tryz.prog.cellsOf 49 = 3 := by kernel_rfl
theorem dc_var : Tryz.prog.cellsOf 25 = 5 := by kernel_rfl
theorem dc_tst : Tryz.prog.cellsOf 72 = 7 := by kernel_rfl
theorem dc_row : Tryz.prog.cellsOf 85 = 4 := by kernel_rfl
theorem dc_dec : Tryz.prog.cellsOf 29 = 9 := by kernel_rfl
theorem dc_strs : Tryz.prog.cellsOf 23 = 1 := by kernel_rfl
theorem dc_vals : Tryz.prog.cellsOf 27 = 1 := by kernel_rfl
theorem dc_vars : Tryz.prog.cellsOf 22 = 1 := by kernel_rfl
theorem dc_tsts : Tryz.prog.cellsOf 83 = 1 := by kernel_rfl
theorem dc_rows : Tryz.prog.cellsOf 26 = 1 := by kernel_rfl
theorem dval_dec {n : Nat} {row : List AV} (h : shp Tryz.prog (n + 2) 49 row) : ∃ v, row = valC v := by
  obtain ⟨hl, hf⟩ := shp_struct Tryz.underlying49 h
  rw [dc_val] at hl
  match row, hl with
  | [a, b, c], _ =>
    simp only [List.mem_cons, List.not_mem_nil, or_false, forall_eq_or_imp, forall_eq, dc_int, dc_str] at hf
    obtain ⟨x, h1, _⟩ := shp_int Tryz.underlying3 hf.1
    obtain ⟨y, h2, _⟩ := shp_int Tryz.underlying3 hf.2.1
    obtain ⟨z, h3, _⟩ := shp_str Tryz.underlying9 hf.2.2
    simp at h1 h2 h3
    exact ⟨⟨x, y, z⟩, by rw [h1, h2, h3]; rfl⟩
theorem dstrs_dec {n : Nat} {row : List AV} (h : shp Tryz.prog (n + 2) 23 row) : ∃ l : List ByteArray, row = [.rs (rowsOf strC l)] ∧ l.length ≤ 9223372036854775807 := by
  obtain ⟨rows, h6, hlen, hrows⟩ := shp_slice Tryz.underlying23 h
  obtain ⟨l, rfl, _⟩ := rows_dec (f := strC) (p := fun _ => True) rows fun row hr => by
    obtain ⟨s, h, _⟩ := shp_str Tryz.underlying9 (hrows row hr)
    exact ⟨s, h, trivial⟩
  exact ⟨l, h6, by simpa [rowsOf, maxLen] using hlen⟩
theorem dvals_dec {n : Nat} {row : List AV} (h : shp Tryz.prog (n + 3) 27 row) : ∃ l : List Val, row = [.rs (rowsOf valC l)] ∧ l.length ≤ 9223372036854775807 := by
  obtain ⟨rows, h6, hlen, hrows⟩ := shp_slice Tryz.underlying27 h
  obtain ⟨l, rfl, _⟩ := rows_dec (f := valC) (p := fun _ => True) rows fun row hr => by
    obtain ⟨s, h⟩ := dval_dec (hrows row hr)
    exact ⟨s, h, trivial⟩
  exact ⟨l, h6, by simpa [rowsOf, maxLen] using hlen⟩
theorem dvar_dec {n : Nat} {row : List AV} (h : shp Tryz.prog (n + 3) 25 row) : ∃ x, row = domC x ∧ x.items.length ≤ 9223372036854775807 := by
  obtain ⟨hl, hf⟩ := shp_struct Tryz.underlying25 h
  rw [dc_var] at hl
  match row, hl with
  | [a, b, c, d, e], _ =>
    simp only [List.mem_cons, List.not_mem_nil, or_false, forall_eq_or_imp, forall_eq, dc_int, dc_str, dc_strs] at hf
    obtain ⟨x1, h1, _⟩ := shp_str Tryz.underlying9 hf.1
    obtain ⟨x2, h2, _⟩ := shp_int Tryz.underlying3 hf.2.1
    obtain ⟨x3, h3, _⟩ := shp_int Tryz.underlying3 hf.2.2.1
    obtain ⟨x4, h4, _⟩ := shp_int Tryz.underlying3 hf.2.2.2.1
    obtain ⟨l, h5, hl⟩ := dstrs_dec hf.2.2.2.2
    simp at h1 h2 h3 h4 h5
    exact ⟨⟨x1, x2, x3, x4, l⟩, by rw [h1, h2, h3, h4, h5]; rfl, hl⟩
theorem dtst_dec {n : Nat} {row : List AV} (h : shp Tryz.prog (n + 4) 72 row) : ∃ t, row = tstC t ∧ t.items.length ≤ 9223372036854775807 := by
  obtain ⟨hl, hf⟩ := shp_struct Tryz.underlying72 h
  rw [dc_tst] at hl
  match row, hl with
  | [a, b, c, d, e, f, g], _ =>
    simp only [List.mem_cons, List.not_mem_nil, or_false, forall_eq_or_imp, forall_eq, dc_int, dc_val, dc_vals] at hf
    obtain ⟨x1, h1, _⟩ := shp_int Tryz.underlying3 hf.1
    obtain ⟨v, h2⟩ := dval_dec (n := n + 1) hf.2.1
    obtain ⟨x3, h3, _⟩ := shp_int Tryz.underlying3 hf.2.2.1
    obtain ⟨x4, h4, _⟩ := shp_int Tryz.underlying3 hf.2.2.2.1
    obtain ⟨l, h5, hl⟩ := dvals_dec hf.2.2.2.2
    simp [valC] at h1 h2 h3 h4 h5
    exact ⟨⟨x1, v, x3, x4, l⟩, by rw [h1, h2.1, h2.2.1, h2.2.2, h3, h4, h5]; rfl, hl⟩
theorem drow_dec {n : Nat} {row : List AV} (h : shp Tryz.prog (n + 6) 85 row) : ∃ r, row = rwC r ∧ r.tests.length ≤ 9223372036854775807 ∧ ∀ t ∈ r.tests, t.items.length ≤ 9223372036854775807 := by
  obtain ⟨hl, hf⟩ := shp_struct Tryz.underlying85 h
  rw [dc_row] at hl
  match row, hl with
  | [a, b, c, d], _ =>
    simp only [List.mem_cons, List.not_mem_nil, or_false, forall_eq_or_imp, forall_eq, dc_val, dc_tsts] at hf
    obtain ⟨rows, h1, hlen, hrows⟩ := shp_slice Tryz.underlying83 hf.1
    obtain ⟨l, rfl, hp⟩ := rows_dec (f := tstC) (p := fun t : Tst => t.items.length ≤ 9223372036854775807) rows fun row hr => dtst_dec (hrows row hr)
    obtain ⟨v, h2⟩ := dval_dec (n := n + 3) hf.2
    simp [valC] at h1 h2
    exact ⟨⟨l, v⟩, by rw [h1, h2.1, h2.2.1, h2.2.2]; rfl, by simpa [rowsOf, maxLen] using hlen, hp⟩
def BgD (d : Dec) : Prop := d.inputs.length ≤ 9223372036854775807 ∧ (∀ x ∈ d.inputs, x.items.length ≤ 9223372036854775807) ∧ d.out.items.length ≤ 9223372036854775807 ∧ d.order.length ≤ 9223372036854775807 ∧ d.rows.length ≤ 9223372036854775807 ∧ ∀ r ∈ d.rows, r.tests.length ≤ 9223372036854775807 ∧ ∀ t ∈ r.tests, t.items.length ≤ 9223372036854775807
theorem ddec_dec {x : AV} (h : argS Tryz.prog 29 x) : ∃ d, x = .agg (decC d) ∧ BgD d := by
  obtain ⟨l, rfl, hl, hf⟩ := arg_struct Tryz.underlying29 h
  rw [dc_dec] at hl
  match l, hl with
  | [a, b, c, d, e, f, g, p, q], _ =>
    simp only [List.mem_cons, List.not_mem_nil, or_false, forall_eq_or_imp, forall_eq, dc_int, dc_vars, dc_var, dc_rows, dc_vals] at hf
    obtain ⟨rows, h1, hlen, hrows⟩ := shp_slice Tryz.underlying22 hf.1
    obtain ⟨ins, rfl, hi⟩ := rows_dec (f := domC) (p := fun x : Dom => x.items.length ≤ 9223372036854775807) rows fun row hr => dvar_dec (n := 4) (hrows row hr)
    obtain ⟨o, h2, ho⟩ := dvar_dec (n := 5) hf.2.1
    obtain ⟨x3, h3, _⟩ := shp_int Tryz.underlying3 hf.2.2.1
    obtain ⟨rows4, h4, hlen4, hrows4⟩ := shp_slice Tryz.underlying26 hf.2.2.2.1
    obtain ⟨rs, rfl, hr4⟩ := rows_dec (f := rwC) (p := fun r : Rw => r.tests.length ≤ 9223372036854775807 ∧ ∀ t ∈ r.tests, t.items.length ≤ 9223372036854775807) rows4 fun row hr => drow_dec (n := 1) (hrows4 row hr)
    obtain ⟨od, h5, hod⟩ := dvals_dec (n := 5) hf.2.2.2.2
    simp [domC] at h1 h2 h3 h4 h5
    exact ⟨⟨ins, o, x3, rs, od⟩, by rw [h1, h2.1, h2.2.1, h2.2.2.1, h2.2.2.2.1, h2.2.2.2.2, h3, h4, h5]; rfl, by simpa [rowsOf, maxLen] using hlen, hi, ho, hod, by simpa [rowsOf, maxLen] using hlen4, hr4⟩
theorem avals_dec {x : AV} (h : argS Tryz.prog 27 x) : ∃ l : List Val, x = .rs (rowsOf valC l) ∧ l.length ≤ 9223372036854775807 := by
  obtain ⟨rows, rfl, hlen, hrows⟩ := arg_slice Tryz.underlying27 h
  obtain ⟨l, rfl, _⟩ := rows_dec (f := valC) (p := fun _ => True) rows fun row hr => by
    obtain ⟨s, h⟩ := dval_dec (n := 6) (hrows row hr)
    exact ⟨s, h, trivial⟩
  exact ⟨l, rfl, by simpa [rowsOf, maxLen] using hlen⟩
theorem avar_dec {x : AV} (h : argS Tryz.prog 25 x) : ∃ d, x = .agg (domC d) ∧ d.items.length ≤ 9223372036854775807 := by
  obtain ⟨l, rfl, hl, hf⟩ := arg_struct Tryz.underlying25 h
  rw [dc_var] at hl
  match l, hl with
  | [a, b, c, d, e], _ =>
    simp only [List.mem_cons, List.not_mem_nil, or_false, forall_eq_or_imp, forall_eq, dc_int, dc_str, dc_strs] at hf
    obtain ⟨x1, h1, _⟩ := shp_str Tryz.underlying9 hf.1
    obtain ⟨x2, h2, _⟩ := shp_int Tryz.underlying3 hf.2.1
    obtain ⟨x3, h3, _⟩ := shp_int Tryz.underlying3 hf.2.2.1
    obtain ⟨x4, h4, _⟩ := shp_int Tryz.underlying3 hf.2.2.2.1
    obtain ⟨l, h5, hl⟩ := dstrs_dec (n := 6) hf.2.2.2.2
    simp at h1 h2 h3 h4 h5
    exact ⟨⟨x1, x2, x3, x4, l⟩, by rw [h1, h2, h3, h4, h5]; rfl, hl⟩
end Go.Proofs.YthemglpccpjokaaGreat
