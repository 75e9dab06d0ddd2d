/- Calendars: when two are the same; what Make, Both and Closed hand back. -/
import Derived.Test.YtlobmblakilmiaaDoorClkM
namespace Go.Proofs.YtlobmblakilmiaaDoor
set_option linter.unusedSimpArgs false
set_option linter.unusedVariables false
set_option linter.unnecessarySimpa false
set_option linter.unusedSectionVars false
open Go.RowKit
variable [Glob]
set_option maxRecDepth 100000
theorem rcsame_pure (a b : List Sp) (ha : a.length ≤ 9223372036854775807) (hb : b.length ≤ 9223372036854775807) (h : a = b) : Pure Tryd.prog 33 [.agg [.rs (rowsOf spC a)], .agg [.rs (rowsOf spC b)]] (.bool true) := by
  subst h
  refine pure_of mixed Tryd.func33 rfl (by kernel_rfl) (of_decide_eq_true rfl) (by kernel_rfl) (vc_run ?_)
  ((try simp -implicitDefEqProofs [-loopQ_n]) <;> (repeat' (first | (refine condD_dec ?_ ?_ <;> (intro hc; (try simp -implicitDefEqProofs [-loopQ_n, hc]))) | (refine guardD_dec ?_ ?_ <;> (intro hc; (try simp -implicitDefEqProofs [-loopQ_n, hc]))) | (refine condD_intro ?_ ?_ <;> (intro hd; have hc := hd; (try simp at hc) <;> (try simp -implicitDefEqProofs [-loopQ_n, hd, hc]))) | (refine guardD_intro ?_ ?_ <;> (intro hd; have hc := hd; (try simp at hc) <;> (try simp -implicitDefEqProofs [-loopQ_n, hd, hc]))) | (refine ldD_ep ?_ ?_; (focus kernel_rfl); (try simp -implicitDefEqProofs [-loopQ_n])))))
  refine loop_intro (σ := Nat) (fun i => ⟨[(2, .op 0 0), (3, .op 1 0), (5, .int .i64 i)], [.box 24 [.rs (rowsOf spC a)], .box 24 [.rs (rowsOf spC a)]]⟩) (fun i => i ≤ a.length) (fun i => a.length - i) 0 (by omega) ?_ ?_
  · refine weak_of 2 0 rfl rfl ?_ ?_ <;> simp
  rintro i hi
  by_cases h : i < a.length
  · have w1 := w_succ h (by omega)
    obtain ⟨⟨f, t⟩, hf⟩ : ∃ e, a[i] = e := ⟨_, rfl⟩
    ((try simp -implicitDefEqProofs [-loopQ_n, h, hf, spC, w1]) <;> (repeat' (first | (refine condD_dec ?_ ?_ <;> (intro hc; (try simp -implicitDefEqProofs [-loopQ_n, hc, h, hf, spC, w1]))) | (refine guardD_dec ?_ ?_ <;> (intro hc; (try simp -implicitDefEqProofs [-loopQ_n, hc, h, hf, spC, w1]))) | (refine condD_intro ?_ ?_ <;> (intro hd; have hc := hd; (try simp at hc) <;> (try simp -implicitDefEqProofs [-loopQ_n, hd, hc, h, hf, spC, w1]))) | (refine guardD_intro ?_ ?_ <;> (intro hd; have hc := hd; (try simp at hc) <;> (try simp -implicitDefEqProofs [-loopQ_n, hd, hc, h, hf, spC, w1]))) | (refine ldD_ep ?_ ?_; (focus kernel_rfl); (try simp -implicitDefEqProofs [-loopQ_n, h, hf, spC, w1])))))
    refine loop_next (i + 1) h (by omega) (weak_of 2 0 rfl rfl ?_ ?_) <;> simp
  · ((try simp -implicitDefEqProofs [-loopQ_n, h]) <;> (repeat' (first | (refine condD_dec ?_ ?_ <;> (intro hc; (try simp -implicitDefEqProofs [-loopQ_n, hc, h]))) | (refine guardD_dec ?_ ?_ <;> (intro hc; (try simp -implicitDefEqProofs [-loopQ_n, hc, h]))) | (refine condD_intro ?_ ?_ <;> (intro hd; have hc := hd; (try simp at hc) <;> (try simp -implicitDefEqProofs [-loopQ_n, hd, hc, h]))) | (refine guardD_intro ?_ ?_ <;> (intro hd; have hc := hd; (try simp at hc) <;> (try simp -implicitDefEqProofs [-loopQ_n, hd, hc, h]))) | (refine ldD_ep ?_ ?_; (focus kernel_rfl); (try simp -implicitDefEqProofs [-loopQ_n, h])))))
/-- What is handed back: a calendar and 0, or none and an error. -/
def calR (l : List Sp) : List Sp × Int := if 100 < l.length then ([], 5) else (l, 0)
theorem calOut_eq (l : List Sp) : calOut l = .tup [.agg [.rs (rowsOf spC (calR l).1)], .int .i64 (calR l).2] := by
  unfold calOut calR
  split
  · simp [rowsOf]
  · simp
theorem calR_len (l : List Sp) : (calR l).1.length ≤ 100 := by
  unfold calR
  split
  · simp
  · simp only; omega
def makeRes (l : List Sp) : List Sp × Int := if makeOk l = true then calR (runsL (makeP l) 10080) else ([], 1)
def bothRes (a b : List Sp) : List Sp × Int := if calOk a = true ∧ calOk b = true then calR (runsL (bothP a b) 10080) else ([], 1)
def closRes (a : List Sp) : List Sp × Int := if calOk a = true then calR (runsL (closP a) 10080) else ([], 1)
theorem makeRes_len (l : List Sp) : (makeRes l).1.length ≤ 100 := by unfold makeRes; split; exact calR_len _; simp
theorem bothRes_len (a b : List Sp) : (bothRes a b).1.length ≤ 100 := by unfold bothRes; split; exact calR_len _; simp
theorem closRes_len (a : List Sp) : (closRes a).1.length ≤ 100 := by unfold closRes; split; exact calR_len _; simp
abbrev calV2 (r : List Sp × Int) : AV := .tup [.agg [.rs (rowsOf spC r.1)], .int .i64 r.2]
theorem makeRes_eq (l : List Sp) : (if makeOk l = true then calOut (runsL (makeP l) 10080) else .tup [.agg [.rs []], .int .i64 1]) = calV2 (makeRes l) := by
  unfold makeRes
  split
  · exact calOut_eq _
  · rfl
theorem bothRes_eq (a b : List Sp) : (if calOk a = true ∧ calOk b = true then calOut (runsL (bothP a b) 10080) else .tup [.agg [.rs []], .int .i64 1]) = calV2 (bothRes a b) := by
  unfold bothRes
  split
  · exact calOut_eq _
  · rfl
theorem closRes_eq (a : List Sp) : (if calOk a = true then calOut (runsL (closP a) 10080) else .tup [.agg [.rs []], .int .i64 1]) = calV2 (closRes a) := by
  unfold closRes
  split
  · exact calOut_eq _
  · rfl
theorem pmake (l : List Sp) (hl : l.length ≤ 1000000) : Pure Tryd.prog 27 [.rs (rowsOf spC l)] (calV2 (makeRes l)) := by rw [← makeRes_eq]; exact make_pure l hl
theorem prmake (l : List Sp) (hl : l.length ≤ 1000000) : Pure Tryd.prog 28 [.rs (rowsOf spC l)] (calV2 (makeRes l)) := by rw [← makeRes_eq]; exact rmake_pure l hl
theorem pboth (a b : List Sp) : Pure Tryd.prog 29 [.agg [.rs (rowsOf spC a)], .agg [.rs (rowsOf spC b)]] (calV2 (bothRes a b)) := by
  rw [← bothRes_eq]
  have := both_pure a b
  by_cases h : calOk a = true ∧ calOk b = true
  · rw [if_pos h] at this ⊢; rwa [both_eq h.1 h.2] at this
  · rw [if_neg h] at this ⊢; exact this
theorem prboth (a b : List Sp) : Pure Tryd.prog 30 [.agg [.rs (rowsOf spC a)], .agg [.rs (rowsOf spC b)]] (calV2 (bothRes a b)) := by rw [← bothRes_eq]; exact rboth_pure a b
theorem pclos (a : List Sp) : Pure Tryd.prog 31 [.agg [.rs (rowsOf spC a)]] (calV2 (closRes a)) := by
  rw [← closRes_eq]
  have := clos_pure a
  by_cases h : calOk a = true
  · rw [if_pos h] at this ⊢; rwa [clos_eq h] at this
  · rw [if_neg h] at this ⊢; exact this
theorem prclos (a : List Sp) : Pure Tryd.prog 32 [.agg [.rs (rowsOf spC a)]] (calV2 (closRes a)) := by rw [← closRes_eq]; exact rclos_pure a
end Go.Proofs.YtlobmblakilmiaaDoor
