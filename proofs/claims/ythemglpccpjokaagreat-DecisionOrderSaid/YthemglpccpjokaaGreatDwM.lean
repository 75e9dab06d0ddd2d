/- The outcomes of a table with other hit policies (plain). -/
import Derived.Test.YthemglpccpjokaaGreatDwK
set_option linter.unusedSimpArgs false
set_option linter.unusedVariables false
set_option linter.unnecessarySimpa false
set_option linter.unusedSectionVars false
set_option maxRecDepth 100000
namespace Go.Proofs.YthemglpccpjokaaGreat
open Go.RowKit
variable [Glob]
def wH (d : Dec) (h : Int) : Dec := ⟨d.inputs, d.out, h, d.rows, []⟩
theorem wH_dec {d : Dec} (hd : decV d = true) {h : Int} (hh : h = 9 ∨ h = 3 ∨ h = 1 ∨ h = 2) : decV (wH d h) = true := by
  obtain ⟨h1, h2, h3, h4, h5, h6, h7, h8, h9⟩ := dec_facts hd
  have e4 : ¬ h = 4 := by omega
  have e6 : ¬ (h = 6 ∨ h = 7 ∨ h = 8) := by omega
  have hr : d.rows.all (rowV d.inputs d.out) = true := List.all_eq_true.2 h7
  show (domsV d.inputs && (domV d.out && (decide (1 ≤ h) && (decide (h ≤ 9) && (decide (d.rows.length ≤ 60) && ((decide (d.out.kind = 2) || !decide (h = 6 ∨ h = 7 ∨ h = 8)) && (d.rows.all (rowV d.inputs d.out) && (if h = 4 then ordG d.out [] [] && d.rows.all fun r => decide (r.out ∈ ([] : List Val)) else decide (([] : List Val) = []))))))))) = true
  rw [if_neg e4, hr, h1, h2, decide_eq_true (show 1 ≤ h by omega), decide_eq_true (show h ≤ 9 by omega), decide_eq_true h5, decide_eq_false e6]
  simp
theorem given_ok {d : Dec} (hd : decV d = true) {v : List Val} (hv : v ∈ allA d.inputs) : givenE d v = 0 := by
  obtain ⟨h1, h2⟩ := allA_mem (doms_mem (dec_facts hd).1) v hv
  simp [givenE, hd, h1, h2]
theorem eval_ok {d : Dec} (hd : decV d = true) {v : List Val} (hv : v ∈ allA d.inputs) : evalO d v = outD d v := by rw [evalO, if_pos (given_ok hd hv)]
theorem comp_case {d : Dec} (hd : decV d = true) {v : List Val} (hv : v ∈ allA d.inputs) : givenE d v = 0 ∧ evalO (wH d 9) v = ([numA (hitsL d v).length], 0) ∧ ∃ (X : List Val) (i : Int), evalO (wH d 3) v = (X, i) ∧ (i = 25 ↔ (hitsL d v).length = 0) ∧ X.length ≤ 60 ∧
    ∀ h : Int, h = 1 ∨ h = 2 → ∃ (Y : List Val) (e : Int), evalO (wH d h) v = (Y, e) ∧ Y.length ≤ 60 ∧ ((hitsL d v).length < 2 → e = i ∧ Y = X ∧ ¬ e = 26) ∧ (e = 25 → (hitsL d v).length = 0) := by
  have hl := hits_len d v
  have ev : ∀ h : Int, (h = 9 ∨ h = 3 ∨ h = 1 ∨ h = 2) → evalO (wH d h) v = outR h [] (outsL d v) := fun h hh => eval_ok (wH_dec hd hh) hv
  have ln : ∀ h : Int, (h = 9 ∨ h = 3 ∨ h = 1 ∨ h = 2) → (evalO (wH d h) v).1.length ≤ 60 := fun h hh => by
    have := out_len (wH_dec hd hh) v
    rwa [eval_ok (wH_dec hd hh) hv]
  refine ⟨given_ok hd hv, ?_, ?_⟩
  · rw [ev 9 (by simp), hl]; rfl
  have l3 := ln 3 (by simp)
  have e3 := ev 3 (by simp)
  refine ⟨(outR 3 [] (outsL d v)).1, (outR 3 [] (outsL d v)).2, e3, ?_, by rw [← e3]; exact l3, fun h hh => ?_⟩
  · rw [hl]
    cases outsL d v with
    | nil => simp [outR]
    | cons b r =>
      have : outR 3 [] (b :: r) = foldO 3 [] b r := by simp [outR]
      rw [this, fold_first (.inl rfl)]
      simp
  have eh := ev h (by omega)
  refine ⟨(outR h [] (outsL d v)).1, (outR h [] (outsL d v)).2, eh, by rw [← eh]; exact ln h (by omega), fun hn => ?_, fun h25 => ?_⟩
  · rw [hl] at hn
    rw [outR_one (hit := h) (by omega) hn, outR_one (hit := 3) (by omega) hn]
    refine ⟨rfl, rfl, ?_⟩
    split <;> simp
  · rw [hl]
    by_cases hn : (outsL d v).length < 2
    · rw [outR_one (by omega) hn] at h25
      cases hO : (outsL d v).length with
      | zero => rfl
      | succ n =>
        exfalso
        split at h25
        · rename_i q _
          rw [q] at hO; simp at hO
        · simp at h25
    · exfalso
      match hO : outsL d v with
      | [] => rw [hO] at hn; simp at hn
      | [b] => rw [hO] at hn; simp at hn
      | b :: c :: r =>
        rw [hO] at h25
        rcases hh with rfl | rfl
        · simp [outR, foldO] at h25
        · have : outR 2 [] (b :: c :: r) = foldO 2 [] b (c :: r) := by simp [outR]
          rw [this, fold_any] at h25
          split at h25 <;> simp at h25
def sG (d : Dec) (k : Nat) : Bool := ((allA d.inputs).take k).any (gapP d)
theorem sG_zero (d : Dec) : sG d 0 = false := by simp [sG]
theorem sG_next {d : Dec} {k : Nat} (h : k < (allA d.inputs).length) : sG d (k + 1) = (sG d k || decide ((hitsL d (allA d.inputs)[k]).length = 0)) := by
  rw [sG, List.take_succ_eq_append_getElem h, List.any_append]
  simp [sG, gapP]
theorem sG_end {d : Dec} : sG d (allA d.inputs).length = (gapF d).isSome := by
  rw [sG, List.take_length, gapF, List.isSome_find?]
theorem flag_gap {d : Dec} (h : (gapF d).isSome = false) {k : Nat} (hk : k < (allA d.inputs).length) : ¬ (hitsL d (allA d.inputs)[k]).length = 0 := by
  intro e
  have : gapF d = none := by cases hq : gapF d with | none => rfl | some v => rw [hq] at h; simp at h
  have := List.find?_eq_none.1 this _ (List.getElem_mem hk)
  simp [gapP, e] at this
theorem flag_over {d : Dec} (h : (overF d).isSome = false) {k : Nat} (hk : k < (allA d.inputs).length) : (hitsL d (allA d.inputs)[k]).length < 2 := by
  have : overF d = none := by cases hq : overF d with | none => rfl | some v => rw [hq] at h; simp at h
  have := List.find?_eq_none.1 this _ (List.getElem_mem hk)
  simp only [overP, decide_eq_true_eq] at this
  omega
end Go.Proofs.YthemglpccpjokaaGreat
