/- How much the events of a log converge. -/
import Derived.Test.YtdkcmfafganhhaaDoorObj4
namespace Go.Proofs.YtdkcmfafganhhaaDoor
set_option linter.unusedSimpArgs false
set_option linter.unusedVariables false
set_option linter.unnecessarySimpa false
set_option linter.unusedSectionVars false
open Go.RowKit
variable [Glob]
set_option maxRecDepth 100000
/-- The sum over the first events. -/
def conS (l : List Obj) (t : ByteArray) : Nat → Int
  | 0 => 0
  | i + 1 => conS l t i + (match l[i]? with | some o => (if ((ofL o.refs t).length : Int) - 1 < 0 then 0 else ((ofL o.refs t).length : Int) - 1) | none => 0)
def smallO (l : List Obj) : Prop := l.length ≤ 2000 ∧ ∀ o ∈ l, o.refs.length ≤ 20
theorem objV_small {l : List Obj} (h : objV l = true) : smallO l := by
  simp only [objV, objsB, Bool.and_eq_true, decide_eq_true_eq, List.all_eq_true, List.mem_range] at h
  refine ⟨by omega, fun o ho => ?_⟩
  obtain ⟨i, hi, rfl⟩ := List.getElem_of_mem ho
  have := h.2 i hi
  rw [List.getElem?_eq_getElem hi] at this
  simp only [objOk, Bool.and_eq_true, decide_eq_true_eq] at this
  omega
theorem conS_bd {l : List Obj} (h : smallO l) (t : ByteArray) : ∀ i, i ≤ l.length → 0 ≤ conS l t i ∧ conS l t i ≤ i * 20 := by
  intro i
  induction i with
  | zero => intro _; simp [conS]
  | succ i ih =>
    intro hi
    have h1 := ih (by omega)
    have hi' : i < l.length := by omega
    have h2 := h.2 l[i] (List.getElem_mem hi')
    have h3 : (ofL l[i].refs t).length ≤ l[i].refs.length := List.length_filter_le _ _
    have h4 : ((ofL l[i].refs t).length : Int) ≤ 20 := by omega
    have h5 : (0 : Int) ≤ (ofL l[i].refs t).length := by omega
    simp only [conS, List.getElem?_eq_getElem hi']
    generalize ((ofL l[i].refs t).length : Int) = z at h4 h5 ⊢
    by_cases q : z - 1 < 0
    · rw [if_pos q]; omega
    · rw [if_neg q]; omega
end Go.Proofs.YtdkcmfafganhhaaDoor
