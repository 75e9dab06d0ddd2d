/- Chapter 02: the example, and what is short. -/
import Derived.Test.YtlcblpofikijmaaStrN
import Derived.Test.YtlcblpofikijmaaLin7
import Derived.Test.YtlcblpofikijmaaDec
namespace Go.Proofs.Ytlcblpofikijmaa
set_option linter.unusedSimpArgs false
set_option linter.unusedVariables false
set_option linter.unnecessarySimpa false
set_option linter.unusedSectionVars false
open Go.RowKit
variable [Glob]
set_option maxRecDepth 100000
theorem arg_strs {x : AV} (h : argS Try.prog 22 x) : ∃ l : List ByteArray, x = .rs (rowsOf strC l) ∧ l.length ≤ 9223372036854775807 ∧ ∀ s ∈ l, s.size ≤ 9223372036854775807 := by
  obtain ⟨rows, rfl, h1, h2⟩ := arg_slice Try.underlying22 h
  obtain ⟨l, rfl, h3⟩ := rows_dec (f := strC) (p := fun s => s.size ≤ maxLen) rows fun row hr => by
    obtain ⟨s, e1, e2⟩ := shp_str Try.underlying9 (h2 row hr)
    exact ⟨s, e1, e2⟩
  rw [maxLen_eq] at h1
  exact ⟨l, rfl, by simpa [rowsOf_length] using h1, fun s hs => by have := h3 s hs; rwa [maxLen_eq] at this⟩
def exW : ByteArray := ⟨#[115, 116, 97, 114, 116, 32, 34, 97, 32, 98, 34, 32, 99, 45, 49]⟩
def exWs : List ByteArray := [⟨#[115, 116, 97, 114, 116]⟩, ⟨#[97, 32, 98]⟩, ⟨#[99, 45, 49]⟩]
def exJ : List ByteArray := [⟨#[97]⟩, ⟨#[]⟩, ⟨#[98, 32, 99]⟩]
def exJs : ByteArray := ⟨#[97, 32, 34, 34, 32, 34, 98, 32, 99, 34]⟩
theorem exW_eq : exL (wrdR exW) = .tup [.rs (rowsOf strC exWs), .int .i64 0] := by
  have : wrdR exW = .ok exWs := by kernel_rfl
  rw [this]; rfl
theorem exJ_eq : exS (joinR exJ) = .tup [.str exJs, .int .i64 0] := by
  have : joinR exJ = .ok (bl exJs) := by kernel_rfl
  rw [this]
  show AV.tup [.str ⟨(bl exJs).toArray⟩, .int .i64 0] = _
  rw [ba_eta]
theorem exN1 : isNameS ⟨#[97, 45, 49]⟩ = true := by kernel_rfl
theorem exN2 : isNameS ⟨#[49, 97]⟩ = false := by kernel_rfl
theorem awake_pure : Pure Try.prog 10 [] (.bool true) := by
  have h1 := words_pure exW (by decide +kernel)
  rw [exW_eq] at h1
  have h2 := joinP_pure exJ (by decide) (by decide +kernel)
  rw [exJ_eq] at h2
  have h3 := eqS_pure exWs exWs (by decide) (by decide)
  refine pure_of mixed Try.func10 rfl (by kernel_rfl) (of_decide_eq_true rfl) (by kernel_rfl) (vc_run ?_)
  have r3 : [0, 1, 2] = List.range 3 := rfl
  ((try simp -implicitDefEqProofs [-loopQ_n, exN1, exN2, r3]) <;> (repeat' (first | (refine condD_dec ?_ ?_ <;> (intro hc; (try simp -implicitDefEqProofs [-loopQ_n, hc, exN1, exN2, r3]))) | (refine guardD_dec ?_ ?_ <;> (intro hc; (try simp -implicitDefEqProofs [-loopQ_n, hc, exN1, exN2, r3]))) | (refine condD_intro ?_ ?_ <;> (intro hd; have hc := hd; (try simp at hc) <;> (try simp -implicitDefEqProofs [-loopQ_n, hd, hc, exN1, exN2, r3]))) | (refine guardD_intro ?_ ?_ <;> (intro hd; have hc := hd; (try simp at hc) <;> (try simp -implicitDefEqProofs [-loopQ_n, hd, hc, exN1, exN2, r3]))) | (refine ldD_ep ?_ ?_; (focus kernel_rfl); (try simp -implicitDefEqProofs [-loopQ_n, exN1, exN2, r3])) | (refine callS_mk ?_; (try simp -implicitDefEqProofs [-loopQ_n, exN1, exN2, r3]); (first | refine callS_intro (h1) (.inr ⟨rfl, rfl⟩) ?_ | refine callS_intro (h2) (.inl rfl) ?_ | refine callS_intro (h3) (.inl rfl) ?_ | refine callS_intro (isName_pure _) (.inl rfl) ?_); (try simp -implicitDefEqProofs [-loopQ_n, exN1, exN2, r3])))))
  all_goals exact hc (by rw [ba_toList]; rfl)
def szC (s : ByteArray) : Bool := decide (s.size ≤ 200)
def shortL (l : List ByteArray) : Bool := (decide (l.length ≤ 60) || (decide (1000 < l.length) && decide (l.length < 1005))) && l.all szC
theorem short1_pure (s : ByteArray) : Pure Try.prog 34 [.str s] (.bool (!szC s)) := by
  refine pure_of mixed Try.func34 rfl (by kernel_rfl) (of_decide_eq_true rfl) (by kernel_rfl) (vc_run ?_)
  ((try simp -implicitDefEqProofs [-loopQ_n]) <;> (repeat' (first | (refine condD_dec ?_ ?_ <;> (intro hc; (try simp -implicitDefEqProofs [-loopQ_n, hc]))) | (refine guardD_dec ?_ ?_ <;> (intro hc; (try simp -implicitDefEqProofs [-loopQ_n, hc]))) | (refine condD_intro ?_ ?_ <;> (intro hd; have hc := hd; (try simp at hc) <;> (try simp -implicitDefEqProofs [-loopQ_n, hd, hc]))) | (refine guardD_intro ?_ ?_ <;> (intro hd; have hc := hd; (try simp at hc) <;> (try simp -implicitDefEqProofs [-loopQ_n, hd, hc]))) | (refine ldD_ep ?_ ?_; (focus kernel_rfl); (try simp -implicitDefEqProofs [-loopQ_n])))))
  simp [szC]
  by_cases h : s.size ≤ 200
  · simp [h]; omega
  · simp [h]; omega
theorem short_pure (l : List ByteArray) (hl : l.length ≤ 9223372036854775807) : Pure Try.prog 11 [.rs (rowsOf strC l)] (.bool (shortL l)) := by
  have hA := strs_any (p := fun s => !szC s) (l := l) (g := 34) (caps := []) (fun x _ => short1_pure x) (fun H k => rfl) rfl hl
  rw [show (l.any fun s => !szC s) = !l.all szC by simp [List.any_eq_not_all_not]] at hA
  refine pure_of mixed Try.func11 rfl (by kernel_rfl) (of_decide_eq_true rfl) (by kernel_rfl) (vc_run ?_)
  have q1 : decide (l.length ≤ 60) = decide ((l.length : Int) ≤ 60) := decide_eq_decide.2 (by omega)
  have q2 : decide (1000 < l.length) = decide ((1000 : Int) < l.length) := decide_eq_decide.2 (by omega)
  have q3 : decide (l.length < 1005) = decide ((l.length : Int) < 1005) := decide_eq_decide.2 (by omega)
  rw [shortL, q1, q2, q3]
  ((try simp -implicitDefEqProofs [-loopQ_n]) <;> (repeat' (first | (refine condD_dec ?_ ?_ <;> (intro hc; (try simp -implicitDefEqProofs [-loopQ_n, hc]))) | (refine guardD_dec ?_ ?_ <;> (intro hc; (try simp -implicitDefEqProofs [-loopQ_n, hc]))) | (refine condD_intro ?_ ?_ <;> (intro hd; have hc := hd; (try simp at hc) <;> (try simp -implicitDefEqProofs [-loopQ_n, hd, hc]))) | (refine guardD_intro ?_ ?_ <;> (intro hd; have hc := hd; (try simp at hc) <;> (try simp -implicitDefEqProofs [-loopQ_n, hd, hc]))) | (refine ldD_ep ?_ ?_; (focus kernel_rfl); (try simp -implicitDefEqProofs [-loopQ_n])) | (refine callS_mk ?_; (try simp -implicitDefEqProofs [-loopQ_n]); (first | refine callS_intro (hA) (.inl rfl) ?_); (try simp -implicitDefEqProofs [-loopQ_n])))))
end Go.Proofs.Ytlcblpofikijmaa
