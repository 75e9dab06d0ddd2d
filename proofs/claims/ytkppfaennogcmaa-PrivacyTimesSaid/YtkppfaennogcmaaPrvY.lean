/- Lists of spans, compared. -/
import Derived.Test.YtkppfaennogcmaaPrvU
import Derived.Test.YtkppfaennogcmaaStrW
namespace Go.Proofs.Ytkppfaennogcmaa
set_option linter.unusedSimpArgs false
set_option linter.unusedVariables false
set_option linter.unnecessarySimpa false
set_option linter.unusedSectionVars false
open Go.RowKit
variable [Glob]
set_option maxRecDepth 100000
theorem gpath_len {l : List Int} {b : Tb} : ∀ {f i : Nat}, (gpath l b f i).length ≤ f := by
  intro f
  induction f with
  | zero => intro i; simp [gpath]
  | succ f ih =>
    intro i
    simp only [gpath]
    split
    · simp only [List.length_cons]; have := @ih (tat b i).2; omega
    · simp
theorem genR_len {l : List Int} {k : Int} : (genR l k).1.length ≤ 301 := by
  unfold genR
  split
  · simp
  · split
    · simp
    · split
      · simp
      · split
        · simp
        · split
          · simp
          · have := @gpath_len _ l (tabT l k.toNat) (l.length + 1) 0
            simp only; omega
theorem eqP_pure (a b : List (Int × Int)) (ha : a.length ≤ 9223372036854775807) (hb : b.length ≤ 9223372036854775807) : Pure Try.prog 22 [.rs (rowsOf spnC a), .rs (rowsOf spnC b)] (.bool (decide (a = b))) := by
  refine pure_of mixed Try.func22 rfl (by kernel_rfl) (of_decide_eq_true rfl) (by kernel_rfl) (vc_run ?_)
  by_cases hl : a.length = b.length
  · ((try simp -implicitDefEqProofs [-loopQ_n, hl]) <;> (repeat' (first | (refine condD_dec ?_ ?_ <;> (intro hc; (try simp -implicitDefEqProofs [-loopQ_n, hc, hl]))) | (refine guardD_dec ?_ ?_ <;> (intro hc; (try simp -implicitDefEqProofs [-loopQ_n, hc, hl]))) | (refine condD_intro ?_ ?_ <;> (intro hd; have hc := hd; (try simp at hc) <;> (try simp -implicitDefEqProofs [-loopQ_n, hd, hc, hl]))) | (refine guardD_intro ?_ ?_ <;> (intro hd; have hc := hd; (try simp at hc) <;> (try simp -implicitDefEqProofs [-loopQ_n, hd, hc, hl]))) | (refine ldD_ep ?_ ?_; (focus kernel_rfl); (try simp -implicitDefEqProofs [-loopQ_n, hl])))))
    refine loop_intro (σ := Nat) (fun i => ⟨[(0, .rs (rowsOf spnC a)), (1, .rs (rowsOf spnC b)), (12, .int .i64 b.length), (13, .int .i64 i)], []⟩) (fun i => i ≤ b.length ∧ (a = b ↔ a.drop i = b.drop i)) (fun i => b.length - i) 0 ⟨by omega, by simp⟩ ?_ ?_
    · refine weak_of 0 0 rfl rfl ?_ ?_ <;> simp [hl]
    rintro i ⟨hi, hR⟩
    by_cases h : i < b.length
    · have w1 := sw_suc h (by omega)
      have g : i < a.length := by omega
      rw [List.drop_eq_getElem_cons g, List.drop_eq_getElem_cons h, List.cons.injEq] at hR
      obtain ⟨⟨x, y⟩, hx⟩ : ∃ x, a[i] = x := ⟨_, rfl⟩
      obtain ⟨⟨u, v⟩, hu⟩ : ∃ x, b[i] = x := ⟨_, rfl⟩
      by_cases e1 : x = u
      · by_cases e2 : y = v
        · ((try simp -implicitDefEqProofs [-loopQ_n, h, g, w1, spnC, hx, hu, e1, e2]) <;> (repeat' (first | (refine condD_dec ?_ ?_ <;> (intro hc; (try simp -implicitDefEqProofs [-loopQ_n, hc, h, g, w1, spnC, hx, hu, e1, e2]))) | (refine guardD_dec ?_ ?_ <;> (intro hc; (try simp -implicitDefEqProofs [-loopQ_n, hc, h, g, w1, spnC, hx, hu, e1, e2]))) | (refine condD_intro ?_ ?_ <;> (intro hd; have hc := hd; (try simp at hc) <;> (try simp -implicitDefEqProofs [-loopQ_n, hd, hc, h, g, w1, spnC, hx, hu, e1, e2]))) | (refine guardD_intro ?_ ?_ <;> (intro hd; have hc := hd; (try simp at hc) <;> (try simp -implicitDefEqProofs [-loopQ_n, hd, hc, h, g, w1, spnC, hx, hu, e1, e2]))) | (refine ldD_ep ?_ ?_; (focus kernel_rfl); (try simp -implicitDefEqProofs [-loopQ_n, h, g, w1, spnC, hx, hu, e1, e2])))))
          refine loop_next (i + 1) ⟨h, by rw [hR]; simp [hx, hu, e1, e2]⟩ (by omega) (weak_of 0 0 rfl rfl ?_ ?_) <;> simp
        · have hne : ¬ a = b := by rw [hR]; simp [hx, hu, e2]
          ((try simp -implicitDefEqProofs [-loopQ_n, h, g, w1, spnC, hx, hu, e1, e2]) <;> (repeat' (first | (refine condD_dec ?_ ?_ <;> (intro hc; (try simp -implicitDefEqProofs [-loopQ_n, hc, h, g, w1, spnC, hx, hu, e1, e2]))) | (refine guardD_dec ?_ ?_ <;> (intro hc; (try simp -implicitDefEqProofs [-loopQ_n, hc, h, g, w1, spnC, hx, hu, e1, e2]))) | (refine condD_intro ?_ ?_ <;> (intro hd; have hc := hd; (try simp at hc) <;> (try simp -implicitDefEqProofs [-loopQ_n, hd, hc, h, g, w1, spnC, hx, hu, e1, e2]))) | (refine guardD_intro ?_ ?_ <;> (intro hd; have hc := hd; (try simp at hc) <;> (try simp -implicitDefEqProofs [-loopQ_n, hd, hc, h, g, w1, spnC, hx, hu, e1, e2]))) | (refine ldD_ep ?_ ?_; (focus kernel_rfl); (try simp -implicitDefEqProofs [-loopQ_n, h, g, w1, spnC, hx, hu, e1, e2])))))
          all_goals first | (exfalso; omega) | simp [hne]
      · have hne : ¬ a = b := by rw [hR]; simp [hx, hu, e1]
        ((try simp -implicitDefEqProofs [-loopQ_n, h, g, w1, spnC, hx, hu, e1]) <;> (repeat' (first | (refine condD_dec ?_ ?_ <;> (intro hc; (try simp -implicitDefEqProofs [-loopQ_n, hc, h, g, w1, spnC, hx, hu, e1]))) | (refine guardD_dec ?_ ?_ <;> (intro hc; (try simp -implicitDefEqProofs [-loopQ_n, hc, h, g, w1, spnC, hx, hu, e1]))) | (refine condD_intro ?_ ?_ <;> (intro hd; have hc := hd; (try simp at hc) <;> (try simp -implicitDefEqProofs [-loopQ_n, hd, hc, h, g, w1, spnC, hx, hu, e1]))) | (refine guardD_intro ?_ ?_ <;> (intro hd; have hc := hd; (try simp at hc) <;> (try simp -implicitDefEqProofs [-loopQ_n, hd, hc, h, g, w1, spnC, hx, hu, e1]))) | (refine ldD_ep ?_ ?_; (focus kernel_rfl); (try simp -implicitDefEqProofs [-loopQ_n, h, g, w1, spnC, hx, hu, e1])))))
        all_goals first | (exfalso; omega) | simp [hne]
    · rw [List.drop_eq_nil_of_le (by omega), List.drop_eq_nil_of_le (by omega)] at hR
      have he : a = b := hR.2 rfl
      ((try simp -implicitDefEqProofs [-loopQ_n, h]) <;> (repeat' (first | (refine condD_dec ?_ ?_ <;> (intro hc; (try simp -implicitDefEqProofs [-loopQ_n, hc, h]))) | (refine guardD_dec ?_ ?_ <;> (intro hc; (try simp -implicitDefEqProofs [-loopQ_n, hc, h]))) | (refine condD_intro ?_ ?_ <;> (intro hd; have hc := hd; (try simp at hc) <;> (try simp -implicitDefEqProofs [-loopQ_n, hd, hc, h]))) | (refine guardD_intro ?_ ?_ <;> (intro hd; have hc := hd; (try simp at hc) <;> (try simp -implicitDefEqProofs [-loopQ_n, hd, hc, h]))) | (refine ldD_ep ?_ ?_; (focus kernel_rfl); (try simp -implicitDefEqProofs [-loopQ_n, h])))))
      simp [he]
  · have hne : ¬ a = b := fun e => hl (by rw [e])
    have hl' : ¬ (a.length : Int) = b.length := by omega
    ((try simp -implicitDefEqProofs [-loopQ_n, hl, hl']) <;> (repeat' (first | (refine condD_dec ?_ ?_ <;> (intro hc; (try simp -implicitDefEqProofs [-loopQ_n, hc, hl, hl']))) | (refine guardD_dec ?_ ?_ <;> (intro hc; (try simp -implicitDefEqProofs [-loopQ_n, hc, hl, hl']))) | (refine condD_intro ?_ ?_ <;> (intro hd; have hc := hd; (try simp at hc) <;> (try simp -implicitDefEqProofs [-loopQ_n, hd, hc, hl, hl']))) | (refine guardD_intro ?_ ?_ <;> (intro hd; have hc := hd; (try simp at hc) <;> (try simp -implicitDefEqProofs [-loopQ_n, hd, hc, hl, hl']))) | (refine ldD_ep ?_ ?_; (focus kernel_rfl); (try simp -implicitDefEqProofs [-loopQ_n, hl, hl'])))))
    simp [hne]
end Go.Proofs.Ytkppfaennogcmaa
