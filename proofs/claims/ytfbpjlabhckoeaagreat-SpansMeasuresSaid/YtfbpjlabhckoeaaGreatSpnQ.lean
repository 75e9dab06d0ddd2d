/- Waiting times, in plain words. -/
import Derived.Test.YtfbpjlabhckoeaaGreatSpn0
import Derived.Test.YtfbpjlabhckoeaaGreatClk1
namespace Go.Proofs.YtfbpjlabhckoeaaGreat
set_option linter.unusedSimpArgs false
set_option linter.unusedVariables false
set_option linter.unnecessarySimpa false
set_option linter.unusedSectionVars false
open Go.RowKit
variable [Glob]
set_option maxRecDepth 100000
def wtC (c : List Sp) (x : Ins) : Int := if x.ready < x.from_ then (workOut c ⟨x.ready, x.from_⟩).1 else 0
def waitR (l : List Ins) (c : List Sp) : List Int × Int := if insL l = true ∧ calOk c = true then (l.map (wtC c), 0) else ([], 1)
theorem spV_ins {x : Ins} (hx : insV x = true) (h : x.ready < x.from_) : spV ⟨x.ready, x.from_⟩ = true := by
  have := insV_bd hx
  rw [spV_iff]
  simp only
  omega
theorem wt_bd {c : List Sp} (hc : calOk c = true) {x : Ins} (hx : insV x = true) : 0 ≤ wtC c x ∧ wtC c x ≤ x.from_ - x.ready := by
  have hb := insV_bd hx
  unfold wtC
  by_cases h : x.ready < x.from_
  · rw [if_pos h, workOut, if_pos ⟨hc, spV_ins hx h⟩]
    have := untL_mono (calOk_v hc).2 (t := x.ready) (u := x.from_) (by omega) (by omega)
    simp only
    omega
  · rw [if_neg h]; omega
theorem allC_ok : calOk [⟨0, 10080⟩] = true := by decide
theorem noneC_ok : calOk [] = true := by decide
theorem bef_all {w : Int} (h : 0 ≤ w) (h2 : w ≤ 10080) : befL w [⟨0, 10080⟩] = w := by
  simp only [befL, spanB]
  (repeat' split) <;> omega
theorem unt_all {t : Int} (h : 0 ≤ t) : untL [⟨0, 10080⟩] t = t := by
  unfold untL
  rw [bef_all (by omega) (by omega), bef_all (by omega) (by omega)]
  omega
theorem wt_all {x : Ins} (hx : insV x = true) : wtC [⟨0, 10080⟩] x = x.from_ - x.ready := by
  have hb := insV_bd hx
  unfold wtC
  by_cases h : x.ready < x.from_
  · rw [if_pos h, workOut, if_pos ⟨allC_ok, spV_ins hx h⟩]
    simp only
    rw [unt_all (by omega), unt_all (by omega)]
  · rw [if_neg h]; omega
theorem wt_none {x : Ins} : wtC [] x = 0 := by
  unfold wtC
  by_cases h : x.ready < x.from_
  · rw [if_pos h, workOut]
    split <;> simp [untL, befL]
  · rw [if_neg h]
end Go.Proofs.YtfbpjlabhckoeaaGreat
