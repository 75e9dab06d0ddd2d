/- The walks through the functions on fractions: what each returns. Nothing that was there is turned. -/
import Derived.Test.YtkppfaennogcmaaProg
import Derived.Test.YtkppfaennogcmaaLib
import Derived.Test.YtkppfaennogcmaaFracH
import Derived.WalkSpells
import Derived.WalkLawsBesides
import Derived.Deep.QuietTactic
import Derived.BigQuiet
import Derived.Outline
import Derived.Test.YtkppfaennogcmaaFracR
namespace Go.Proofs.Ytkppfaennogcmaa
set_option linter.unusedSimpArgs false
set_option linter.unusedVariables false
set_option linter.unnecessarySimpa false
set_option linter.unusedSectionVars false
open Go.RowKit

theorem makeF_valid {n d : Int} (h1 : -1073741824 ≤ n) (h2 : n ≤ 1073741824) (h3 : 1 ≤ d) (h4 : d ≤ 1073741824) : validF n d = ((makeF n d).1 == n && (makeF n d).2.1 == d) := by
  have hG1 : 0 < Nat.gcd n.natAbs d.natAbs := Nat.gcd_pos_of_pos_right _ (by omega)
  have hv : validF n d = decide (Nat.gcd n.natAbs d.natAbs = 1) := by simp [validF, validFP, h1, h2, h3, h4]
  rw [hv, makeF_pos (by omega), fitF]
  clear hv
  have l1 : n.natAbs / Nat.gcd n.natAbs d.natAbs ≤ n.natAbs := Nat.div_le_self _ _
  have l2 : d.natAbs / Nat.gcd n.natAbs d.natAbs ≤ d.natAbs := Nat.div_le_self _ _
  rw [if_neg (by omega)]
  have hd : ¬ d < 0 := by omega
  by_cases h : Nat.gcd n.natAbs d.natAbs = 1
  · by_cases hn : n < 0 <;> simp [hn, hd, h] <;> omega
  · have hlt : d.natAbs / Nat.gcd n.natAbs d.natAbs < d.natAbs := Nat.div_lt_self (by omega) (by omega)
    have : (((d.natAbs / Nat.gcd n.natAbs d.natAbs : Nat) : Int) == d) = false := by
      rw [beq_eq_false_iff_ne]; omega
    simp only [this, Bool.and_false, decide_eq_false_iff_not]
    exact h

set_option maxHeartbeats 1000000 in
theorem rvalid01_any (n d : Int) (w : World) :
    Calls Try.prog 33 #[.agg #[.int .i64 n, .int .i64 d]] w fun e w' => e = .returned (.bool (validF n d)) ∧ Below w.heap.size w w' := by
  by_cases h : (-1073741824 ≤ n ∧ n ≤ 1073741824) ∧ 1 ≤ d ∧ d ≤ 1073741824
  · obtain ⟨⟨h1, h2⟩, h3, h4⟩ := h
    have hv := Lib.hid (makeF_valid h1 h2 h3 h4)
    skip
    go_enter Try.func33, Try.ntmps33
    go_wp2_with fail
    refine (rmake_any n d _ (by omega) (by omega) (by omega) (by omega)).mono ?_
    rintro e w1 ⟨rfl, hb1⟩
    have hz1 := hb1.size
    try simp at hz1
    obtain ⟨hc1_w, hf1_w⟩ := bcellm (M := w.heap.size + 1) hb1 (by first | omega | (simp; done) | (simp; omega))
    have hl1_w0 : w.heap.size < w1.heap.size := by omega
    go_wp2_with fail
    all_goals
      go_ret
      exact ⟨ret_bool (by rw [hv.out]; simp [*]), (by repeat (first | exact Below.refl _ _ | assumption | refine Below.drew ?_ | refine bdrewN ?_ _ | refine Below.alloc ?_ (by first | omega | (simp; done) | (simp; omega) | exact Below.size (by assumption)) _ | refine Below.setCell ?_ (by first | omega | (simp; done) | (simp; omega)) _ | refine bstep ?_ (by assumption)))⟩
  · have hv : validF n d = false := by
      rw [Bool.eq_false_iff]; intro hh
      have hh : validFP n d := of_decide_eq_true hh
      exact h ⟨⟨hh.1, hh.2.1⟩, hh.2.2.1, hh.2.2.2.1⟩
    have HV := Lib.hid hv; clear hv
    have hc : ¬ -1073741824 ≤ n ∨ (-1073741824 ≤ n ∧ ¬ n ≤ 1073741824) ∨ (-1073741824 ≤ n ∧ n ≤ 1073741824 ∧ ¬ 1 ≤ d) ∨ (-1073741824 ≤ n ∧ n ≤ 1073741824 ∧ 1 ≤ d ∧ ¬ d ≤ 1073741824) := by omega
    clear h
    rcases hc with h1 | ⟨h1, h2⟩ | ⟨h1, h2, h3⟩ | ⟨h1, h2, h3, h4⟩
    all_goals
      go_enter Try.func33, Try.ntmps33
      go_wp2_with fail
      go_ret
      exact ⟨ret_bool HV.out.symm, (by repeat (first | exact Below.refl _ _ | assumption | refine Below.drew ?_ | refine bdrewN ?_ _ | refine Below.alloc ?_ (by first | omega | (simp; done) | (simp; omega) | exact Below.size (by assumption)) _ | refine Below.setCell ?_ (by first | omega | (simp; done) | (simp; omega)) _ | refine bstep ?_ (by assumption)))⟩

end Go.Proofs.Ytkppfaennogcmaa
