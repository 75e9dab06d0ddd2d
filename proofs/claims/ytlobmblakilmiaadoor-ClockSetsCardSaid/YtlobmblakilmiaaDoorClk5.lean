/- Calendars and spans among the arguments of a law. -/
import Derived.Test.YtlobmblakilmiaaDoorClk4
import Derived.Test.YtlobmblakilmiaaDoorDec
namespace Go.Proofs.YtlobmblakilmiaaDoor
set_option linter.unusedSimpArgs false
set_option linter.unusedVariables false
set_option linter.unnecessarySimpa false
set_option linter.unusedSectionVars false
open Go.RowKit
variable [Glob]
set_option maxRecDepth 100000
theorem c_int : Tryd.prog.cellsOf 3 = 1 := by kernel_rfl
theorem c_span : Tryd.prog.cellsOf 26 = 2 := by kernel_rfl
theorem c_spans : Tryd.prog.cellsOf 22 = 1 := by kernel_rfl
theorem c_cal : Tryd.prog.cellsOf 24 = 1 := by kernel_rfl
def inS64 (s : Sp) : Prop := inI s.f ∧ inI s.t
theorem span_dec {n : Nat} {row : List AV} (h : shp Tryd.prog (n + 2) 26 row) : ∃ v, row = spC v ∧ inS64 v := by
  obtain ⟨hl, hf⟩ := shp_struct Tryd.underlying26 h
  rw [c_span] at hl
  match row, hl with
  | [a, b], _ =>
    simp only [List.mem_cons, List.not_mem_nil, or_false, forall_eq_or_imp, forall_eq, c_int] at hf
    obtain ⟨x, h1, w1⟩ := shp_int Tryd.underlying3 hf.1
    obtain ⟨y, h2, w2⟩ := shp_int Tryd.underlying3 hf.2
    simp at h1 h2
    exact ⟨⟨x, y⟩, by rw [h1, h2]; rfl, inI_wf w1, inI_wf w2⟩
theorem spans_dec {n : Nat} {row : List AV} (h : shp Tryd.prog (n + 3) 22 row) : ∃ l, row = [.rs (rowsOf spC l)] ∧ l.length ≤ 9223372036854775807 ∧ ∀ s ∈ l, inS64 s := by
  obtain ⟨rows, h6, hlen, hrows⟩ := shp_slice Tryd.underlying22 h
  obtain ⟨es, rfl, hd⟩ := rows_dec (p := inS64) rows fun row hr => span_dec (hrows row hr)
  exact ⟨es, h6, by rw [maxLen_eq] at hlen; simpa [rowsOf] using hlen, hd⟩
theorem cal_dec {x : AV} (h : argS Tryd.prog 24 x) : ∃ l, x = .agg [.rs (rowsOf spC l)] ∧ l.length ≤ 9223372036854775807 ∧ ∀ s ∈ l, inS64 s := by
  obtain ⟨l, rfl, hl, hf⟩ := arg_struct Tryd.underlying24 h
  rw [c_cal] at hl
  match l, hl with
  | [a], _ =>
    simp only [List.mem_cons, List.not_mem_nil, or_false, forall_eq, c_spans] at hf
    obtain ⟨es, h1, h2, h3⟩ := spans_dec (n := 5) hf
    simp at h1
    exact ⟨es, by rw [h1], h2, h3⟩
theorem sp_dec {x : AV} (h : argS Tryd.prog 26 x) : ∃ f t, x = .agg [.int .i64 f, .int .i64 t] ∧ inI f ∧ inI t := by
  obtain ⟨l, rfl, hl, hf⟩ := arg_struct Tryd.underlying26 h
  rw [c_span] at hl
  match l, hl with
  | [a, b], _ =>
    simp only [List.mem_cons, List.not_mem_nil, or_false, forall_eq_or_imp, forall_eq, c_int] at hf
    obtain ⟨x, h1, w1⟩ := shp_int Tryd.underlying3 hf.1
    obtain ⟨y, h2, w2⟩ := shp_int Tryd.underlying3 hf.2
    simp at h1 h2
    exact ⟨x, y, by rw [h1, h2], inI_wf w1, inI_wf w2⟩
def greatB (l : List Sp) : Bool := (decide ((150 : Int) < l.length) && decide ((l.length : Int) ≤ 1000)) || decide ((1100 : Int) < l.length)
theorem great_pure (l : List Sp) : Pure Tryd.prog 11 [.rs (rowsOf spC l)] (.bool (greatB l)) := by
  refine pure_of mixed Tryd.func11 rfl (by kernel_rfl) (of_decide_eq_true rfl) (by kernel_rfl) (vc_run ?_)
  ((try simp -implicitDefEqProofs [-loopQ_n]) <;> (repeat' (first | (refine condD_dec ?_ ?_ <;> (intro hc; (try simp -implicitDefEqProofs [-loopQ_n, hc]))) | (refine guardD_dec ?_ ?_ <;> (intro hc; (try simp -implicitDefEqProofs [-loopQ_n, hc]))) | (refine condD_intro ?_ ?_ <;> (intro hd; have hc := hd; (try simp at hc) <;> (try simp -implicitDefEqProofs [-loopQ_n, hd, hc]))) | (refine guardD_intro ?_ ?_ <;> (intro hd; have hc := hd; (try simp at hc) <;> (try simp -implicitDefEqProofs [-loopQ_n, hd, hc]))) | (refine ldD_ep ?_ ?_; (focus kernel_rfl); (try simp -implicitDefEqProofs [-loopQ_n]))))) <;> simp [greatB, *]
end Go.Proofs.YtlobmblakilmiaaDoor
