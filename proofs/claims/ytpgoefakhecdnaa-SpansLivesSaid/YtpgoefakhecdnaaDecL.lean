/- Logs among the arguments of a law, read as data. -/
import Derived.Test.YtpgoefakhecdnaaDec
import Derived.Test.YtpgoefakhecdnaaLog
namespace Go.Proofs.Ytpgoefakhecdnaa
set_option linter.unusedSimpArgs false
set_option linter.unusedVariables false
set_option linter.unnecessarySimpa false
set_option linter.unusedSectionVars false
open Go.RowKit
variable [Glob]
set_option maxRecDepth 100000
theorem c_int : Try.prog.cellsOf 3 = 1 := by kernel_rfl
theorem c_str : Try.prog.cellsOf 9 = 1 := by kernel_rfl
theorem c_val : Try.prog.cellsOf 58 = 3 := by kernel_rfl
theorem c_fld : Try.prog.cellsOf 60 = 4 := by kernel_rfl
theorem c_evt : Try.prog.cellsOf 41 = 6 := by kernel_rfl
theorem c_flds : Try.prog.cellsOf 39 = 1 := by kernel_rfl
theorem c_evts : Try.prog.cellsOf 22 = 1 := by kernel_rfl
theorem c_log : Try.prog.cellsOf 24 = 1 := by kernel_rfl
theorem val_dec {n : Nat} {row : List AV} (h : shp Try.prog (n + 2) 58 row) : ∃ v, row = valC v := by
  obtain ⟨hl, hf⟩ := shp_struct Try.underlying58 h
  rw [c_val] at hl
  match row, hl with
  | [a, b, c], _ =>
    simp only [List.mem_cons, List.not_mem_nil, or_false, forall_eq_or_imp, forall_eq, c_int, c_str] at hf
    obtain ⟨x, h1, _⟩ := shp_int Try.underlying3 hf.1
    obtain ⟨y, h2, _⟩ := shp_int Try.underlying3 hf.2.1
    obtain ⟨z, h3, _⟩ := shp_str Try.underlying9 hf.2.2
    simp at h1 h2 h3
    exact ⟨⟨x, y, z⟩, by rw [h1, h2, h3]; rfl⟩
theorem fld_dec {n : Nat} {row : List AV} (h : shp Try.prog (n + 3) 60 row) : ∃ f, row = fldC f := by
  obtain ⟨hl, hf⟩ := shp_struct Try.underlying60 h
  rw [c_fld] at hl
  match row, hl with
  | [a, b, c, d], _ =>
    simp only [List.mem_cons, List.not_mem_nil, or_false, forall_eq_or_imp, forall_eq, c_val, c_str] at hf
    obtain ⟨x, h1, _⟩ := shp_str Try.underlying9 hf.1
    obtain ⟨v, h2⟩ := val_dec hf.2
    simp [valC] at h1 h2
    exact ⟨⟨x, v⟩, by rw [h1, h2.1, h2.2.1, h2.2.2]; rfl⟩
theorem evt_dec {n : Nat} {row : List AV} (h : shp Try.prog (n + 5) 41 row) : ∃ e, row = evtC e ∧ e.data.length ≤ maxLen := by
  obtain ⟨hl, hf⟩ := shp_struct Try.underlying41 h
  rw [c_evt] at hl
  match row, hl with
  | [a, b, c, d, e, f], _ =>
    simp only [List.mem_cons, List.not_mem_nil, or_false, forall_eq_or_imp, forall_eq, c_int, c_str, c_flds] at hf
    obtain ⟨x1, h1, _⟩ := shp_str Try.underlying9 hf.1
    obtain ⟨x2, h2, _⟩ := shp_str Try.underlying9 hf.2.1
    obtain ⟨x3, h3, _⟩ := shp_str Try.underlying9 hf.2.2.1
    obtain ⟨x4, h4, _⟩ := shp_int Try.underlying3 hf.2.2.2.1
    obtain ⟨x5, h5, _⟩ := shp_int Try.underlying3 hf.2.2.2.2.1
    obtain ⟨rows, h6, hlen, hrows⟩ := shp_slice Try.underlying39 hf.2.2.2.2.2
    obtain ⟨fs, rfl, _⟩ := rows_dec (p := fun _ => True) rows fun row hr => by obtain ⟨f, hf⟩ := fld_dec (hrows row hr); exact ⟨f, hf, trivial⟩
    simp at h1 h2 h3 h4 h5 h6
    exact ⟨⟨x1, x2, x3, x4, x5, fs⟩, by rw [h1, h2, h3, h4, h5, h6]; rfl, by simpa [rowsOf] using hlen⟩
theorem log_dec {x : AV} (h : argS Try.prog 24 x) : ∃ l, x = .agg [.rs (rowsOf evtC l)] ∧ l.length ≤ maxLen ∧ ∀ e ∈ l, e.data.length ≤ maxLen := by
  obtain ⟨l, rfl, hl, hf⟩ := arg_struct Try.underlying24 h
  rw [c_log] at hl
  match l, hl with
  | [a], _ =>
    simp only [List.mem_cons, List.not_mem_nil, or_false, forall_eq, c_evts] at hf
    obtain ⟨rows, h6, hlen, hrows⟩ := shp_slice Try.underlying22 hf
    obtain ⟨es, rfl, hd⟩ := rows_dec (p := fun e : Evt => e.data.length ≤ maxLen) rows fun row hr => evt_dec (n := 2) (hrows row hr)
    simp at h6
    exact ⟨es, by rw [h6], by simpa [rowsOf] using hlen, hd⟩
end Go.Proofs.Ytpgoefakhecdnaa
