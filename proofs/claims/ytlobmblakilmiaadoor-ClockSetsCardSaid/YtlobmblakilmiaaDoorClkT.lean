/- Calendars as sets of minutes: what the law ClockSets asks (plain words). -/
import Derived.Test.YtlobmblakilmiaaDoorClkS
namespace Go.Proofs.YtlobmblakilmiaaDoor
set_option linter.unusedSimpArgs false
set_option linter.unusedVariables false
set_option linter.unnecessarySimpa false
set_option linter.unusedSectionVars false
open Go.RowKit
variable [Glob]
theorem runs_open (p : Int → Bool) {w : Int} (h0 : 0 ≤ w) (h1 : w < 10080) : openW w (runsL p 10080) = p w := by
  rw [(runs_spec p 10080 (Nat.le_refl _)).2.2 w, decide_eq_true h0, decide_eq_true (show w < ((10080 : Nat) : Int) by omega)]; simp
theorem runs_ok {p : Int → Bool} (h : ¬ 100 < (runsL p 10080).length) : calOk (runsL p 10080) = true := by
  simp only [calOk, Bool.and_eq_true, decide_eq_true_eq]
  exact ⟨by omega, (runs_spec p 10080 (Nat.le_refl _)).1⟩
theorem calR_ok {p : Int → Bool} : calR (runsL p 10080) = ([], 5) ∨ (calR (runsL p 10080) = (runsL p 10080, 0) ∧ calOk (runsL p 10080) = true) := by
  unfold calR
  by_cases h : 100 < (runsL p 10080).length
  · rw [if_pos h]; exact .inl rfl
  · rw [if_neg h]; exact .inr ⟨rfl, runs_ok h⟩
theorem openOut_ok {l : List Sp} {t : Int} (h : calOk l = true) (ht : inst t = true) : openOut l t = (openW (t % 10080) l, 0) := by
  unfold openOut; rw [if_pos h, if_pos ht]
theorem wk_mod (t : Int) : 0 ≤ t % 10080 ∧ t % 10080 < 10080 := ⟨Int.emod_nonneg _ (by decide), Int.emod_lt_of_pos _ (by decide)⟩
/-- Both. -/
theorem both_set {a b : List Sp} {t : Int} (ha : calOk a = true) (hb : calOk b = true) (ht : inst t = true) :
    bothRes a b = ([], 5) ∨ ∃ c, bothRes a b = (c, 0) ∧ calOk c = true ∧ openOut c t = (openW (t % 10080) a && openW (t % 10080) b, 0) := by
  unfold bothRes
  rw [if_pos ⟨ha, hb⟩]
  rcases calR_ok (p := bothP a b) with h | ⟨h, h2⟩
  · exact .inl h
  · refine .inr ⟨_, h, h2, ?_⟩
    rw [openOut_ok h2 ht, runs_open _ (wk_mod t).1 (wk_mod t).2, bothP]
    have : t % 10080 % 10080 = t % 10080 := Int.emod_emod_of_dvd _ (Int.dvd_refl _)
    rw [this]
theorem cal_runs {a : List Sp} (ha : calOk a = true) {p : Int → Bool} (hp : ∀ w, 0 ≤ w → w < 10080 → openW w a = p w) : a = runsL p 10080 := runs_eq (calOk_v ha).2 hp
theorem calR_self {a : List Sp} (ha : calOk a = true) : calR a = (a, 0) := by
  unfold calR; rw [if_neg (by have := (calOk_v ha).1; omega)]
/-- Closed. -/
theorem clos_set {a : List Sp} {t : Int} (ha : calOk a = true) (ht : inst t = true) :
    closRes a = ([], 5) ∨ ∃ c x y, closRes a = (c, 0) ∧ calOk c = true ∧ openOut c t = (!openW (t % 10080) a, 0) ∧ closRes c = (a, 0) ∧ workOut a ⟨0, 10080⟩ = (x, 0) ∧ workOut c ⟨0, 10080⟩ = (y, 0) ∧ 0 ≤ x ∧ x ≤ 10080 ∧ 0 ≤ y ∧ x + y = 10080 := by
  unfold closRes
  rw [if_pos ha]
  rcases calR_ok (p := closP a) with h | ⟨h, h2⟩
  · exact .inl h
  · have hop : ∀ w, 0 ≤ w → w < 10080 → openW w (runsL (closP a) 10080) = !openW w a := fun w h0 h1 => by
      rw [runs_open _ h0 h1, closP, Int.emod_eq_of_lt h0 h1]
    have hv1 := (calOk_v ha).2
    have hv2 := (calOk_v h2).2
    have hsum := bef_comp hv1 hv2 hop 10080 (Nat.le_refl _)
    have hw : ∀ l : List Sp, calOk l = true → workOut l ⟨0, 10080⟩ = (befL 10080 l, 0) := fun l hl => by
      have e : untL l 10080 - untL l 0 = befL 10080 l := by
        have z : befL 0 l = 0 := befL_zero (calOk_v hl).2 (by omega)
        unfold untL
        simp [z]
      unfold workOut
      rw [if_pos ⟨hl, by rw [spV_iff]; simp only; omega⟩, e]
    refine .inr ⟨_, befL 10080 a, befL 10080 (runsL (closP a) 10080), h, h2, ?_, ?_, hw a ha, hw _ h2, befL_nn _ _, ?_, befL_nn _ _, ?_⟩
    · rw [openOut_ok h2 ht, hop _ (wk_mod t).1 (wk_mod t).2]
    · rw [if_pos h2]
      have : a = runsL (closP (runsL (closP a) 10080)) 10080 := cal_runs ha fun w h0 h1 => by
        rw [closP, Int.emod_eq_of_lt h0 h1, hop w h0 h1, Bool.not_not]
      rw [← this, calR_self ha]
    · have := befL_nn 10080 (runsL (closP a) 10080)
      have hs : befL 10080 (runsL (closP a) 10080) + befL 10080 a = 10080 := hsum
      omega
    · have hs : befL 10080 (runsL (closP a) 10080) + befL 10080 a = 10080 := hsum
      omega
/-- Make. -/
theorem make_set {l : List Sp} {t : Int} (ht : inst t = true) :
    (∃ e, ¬ e = 0 ∧ makeRes l = ([], e)) ∨ ∃ c, makeRes l = (c, 0) ∧ calOk c = true ∧ openOut c t = (l.any (inS (t % 10080)), 0) ∧ makeRes c = (c, 0) := by
  unfold makeRes
  by_cases hm : makeOk l = true
  · rw [if_pos hm]
    rcases calR_ok (p := makeP l) with h | ⟨h, h2⟩
    · exact .inl ⟨5, by decide, h⟩
    · refine .inr ⟨_, h, h2, ?_, ?_⟩
      · rw [openOut_ok h2 ht, runs_open _ (wk_mod t).1 (wk_mod t).2, makeP]
      · have hv := calOk_v h2
        have hmo : makeOk (runsL (makeP l) 10080) = true := by
          simp only [makeOk, Bool.and_eq_true, decide_eq_true_eq, List.all_eq_true]
          refine ⟨by omega, fun s hs => ?_⟩
          have := calV_mem hv.2 hs
          simp only [wkV, spV, Bool.and_eq_true, decide_eq_true_eq]
          omega
        rw [if_pos hmo]
        have : runsL (makeP l) 10080 = runsL (makeP (runsL (makeP l) 10080)) 10080 := cal_runs h2 fun w h0 h1 => rfl
        rw [← this, calR_self h2]
  · rw [if_neg hm]; exact .inl ⟨1, by decide, rfl⟩
end Go.Proofs.YtlobmblakilmiaaDoor
