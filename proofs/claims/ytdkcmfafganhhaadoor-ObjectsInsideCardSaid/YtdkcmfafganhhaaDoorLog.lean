/- Logs: which are valid (the program's answer and the reference's). -/
import Derived.Test.YtdkcmfafganhhaaDoorEvt
namespace Go.Proofs.YtdkcmfafganhhaaDoor
set_option linter.unusedSimpArgs false
set_option linter.unusedVariables false
set_option linter.unnecessarySimpa false
set_option linter.unusedSectionVars false
open Go.RowKit
variable [Glob]
set_option maxRecDepth 100000
noncomputable def evOk (l : List Evt) (i : Nat) (e : Evt) : Bool := eventV e && !(match l[i - 1]? with | some g => decide (0 < i) && decide (e.time < g.time) | none => false)
def evsOk (l : List Evt) (k : Nat) : Prop := ∀ i (h : i < l.length), i < k → evOk l i l[i] = true
open Classical in
noncomputable def logV (l : List Evt) : Bool := decide ((l.length : Int) ≤ 2000) && decide (evsOk l l.length)
theorem evsOk_succ {l : List Evt} {i : Nat} (h : evsOk l i) (hi : i < l.length) (hf : evOk l i l[i] = true) : evsOk l (i + 1) := fun j hj hlt => by
  by_cases e : j = i
  · subst e; exact hf
  · exact h j hj (by omega)
theorem evsOk_all {l : List Evt} {i : Nat} (h : evsOk l i) (hi : ¬ i < l.length) : evsOk l l.length := fun j hj hlt => h j hj (by omega)
theorem evsOk_not {l : List Evt} {i : Nat} (hi : i < l.length) (hf : evOk l i l[i] = false) : ¬ evsOk l l.length := fun h => by rw [h i hi hi] at hf; simp at hf
set_option maxHeartbeats 4000000 in
theorem log_pure (l : List Evt) : Pure Tryd.prog 15 [.agg [.rs (rowsOf evtC l)]] (.bool (logV l)) := by
  refine pure_of mixed Tryd.func15 rfl (by kernel_rfl) (of_decide_eq_true rfl) (by kernel_rfl) (vc_run ?_)
  by_cases hb : (2000 : Int) < l.length
  · have hb' : ¬ (l.length : Int) ≤ 2000 := by omega
    simp -implicitDefEqProofs [hb, hb', logV]
  have hb' : (l.length : Int) ≤ 2000 := by omega
  simp -implicitDefEqProofs [hb]
  refine loop_intro (σ := Nat) (fun i => ⟨[(1, .op 0 0), (10, .rs (rowsOf evtC l)), (11, .int .i64 l.length), (12, .int .i64 i)], [.box 33 [.rs (rowsOf evtC l)]]⟩) (fun i => i ≤ l.length ∧ evsOk l i) (fun i => l.length - i) 0 ⟨by omega, fun j _ h => by omega⟩ ?_ ?_
  · refine weak_of 1 0 rfl rfl ?_ ?_ <;> simp
  · rintro i ⟨hi, hok⟩
    by_cases h : i < l.length
    · have hgo : l[i]? = some l[i] := List.getElem?_eq_getElem h
      obtain ⟨⟨c, a, r, life, time, data⟩, hf⟩ : ∃ e, l[i] = e := ⟨_, rfl⟩
      simp -implicitDefEqProofs [h, evtC, hf]
      refine call_intro (event_pure ⟨c, a, r, life, time, data⟩) (by simp -implicitDefEqProofs [evtC]) (.inl rfl) ?_
      by_cases n1 : eventV ⟨c, a, r, life, time, data⟩ = true
      rotate_left
      · have n1 : eventV ⟨c, a, r, life, time, data⟩ = false := by simpa using n1
        have hbad : evOk l i l[i] = false := by rw [hf]; simp [evOk, n1]
        simp -implicitDefEqProofs [n1, logV, evsOk_not h hbad]
      have w1 : wrapI .i64 ((i : Int) + 1) = ((i + 1 : Nat) : Int) := by rw [wrap_in (by omega) (by omega)]; omega
      have w10 : wrapI .i64 1 = 1 := wrap_in (by omega) (by omega)
      by_cases hi0 : 0 < i
      · have hp : i - 1 < l.length := by omega
        have w2 : wrapI .i64 ((i : Int) - 1) = ((i - 1 : Nat) : Int) := by rw [wrap_in (by omega) (by omega)]; omega
        obtain ⟨⟨c2, a2, r2, life2, time2, data2⟩, hg⟩ : ∃ e, l[i - 1] = e := ⟨_, rfl⟩
        have hgq : l[i - 1]? = some ⟨c2, a2, r2, life2, time2, data2⟩ := by rw [List.getElem?_eq_getElem hp, hg]
        by_cases n3 : time < time2
        · have hbad : evOk l i l[i] = false := by rw [hf]; simp [evOk, n1, hgq, n3, hi0]
          simp -implicitDefEqProofs [n1, hi0, w1, w2, hp, hgq, hg, hf, hgo, n3, evtC, logV, evsOk_not h hbad]
        · have hgood : evOk l i l[i] = true := by rw [hf]; simp [evOk, n1, hgq, hi0]; omega
          have n3' : time2 ≤ time := by omega
          simp -implicitDefEqProofs [n1, hi0, w1, w2, hp, hgq, hg, hf, hgo, n3, n3', evtC]
          refine ⟨i + 1, ⟨by omega, evsOk_succ hok h hgood⟩, by omega, ?_⟩
          refine weak_of 1 0 rfl rfl ?_ ?_ <;> simp
      · have hi00 : i = 0 := by omega
        subst hi00
        have hgood : evOk l 0 l[0] = true := by rw [hf]; simp [evOk, n1, hgo]
        simp -implicitDefEqProofs [n1, w1]
        refine ⟨1, ⟨by omega, evsOk_succ hok h hgood⟩, by omega, ?_⟩
        refine weak_of 1 0 rfl rfl ?_ ?_ <;> simp [w10]
    · have hall := evsOk_all hok h
      simp -implicitDefEqProofs [h]
      simp [logV, hb', hall]
end Go.Proofs.YtdkcmfafganhhaaDoor
