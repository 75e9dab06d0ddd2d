/- The example that TopServed begins with. -/
import Derived.Test.YthiclaihlpkinaaGreatM14
import Derived.Test.YthiclaihlpkinaaGreatM7
import Derived.Test.YthiclaihlpkinaaGreatM4
import Derived.Test.YthiclaihlpkinaaGreatSvY
set_option linter.unusedSimpArgs false
set_option linter.unusedVariables false
set_option linter.unnecessarySimpa false
set_option linter.unusedSectionVars false
set_option maxRecDepth 100000
namespace Go.Proofs.YthiclaihlpkinaaGreat
open Go.RowKit
variable [Glob]
abbrev iZ (n : Int) : AV := .int .i64 n
theorem stat_pure : Pure Tryz.prog 14 [.agg [iZ 1, iZ 2, iZ 1, iZ 2, iZ 1, iZ 1]] (.tup [.rs [[iZ 1, iZ 3], [iZ 2, iZ 3]], iZ 0]) :=
  exFC_pure (m := 4096) (n := 40) mixed frHook_ok (fun _ _ _ _ _ _ h => by cases h) noBase (b2 := fun _ _ _ => none) (by kernel_rfl)
theorem serve_ex : Pure Tryz.prog 7 [.rs [[iZ 0, iZ 5, iZ 0, iZ 0], [iZ 1, iZ 1, iZ 0, iZ 0]], iZ 1] (.tup [.rs [[iZ 0, iZ 5, iZ 0, iZ 5], [iZ 1, iZ 1, iZ 5, iZ 6]], iZ 0]) := by
  have h := Serve_pure [⟨0, 5, 0, 0⟩, ⟨1, 1, 0, 0⟩] 1 ⟨by decide, by decide, by simp⟩
  exact h
theorem load_awake : Pure Tryz.prog 4 [] (.bool true) := by
  have hB := Yx.best_pure
  have hS := serve_ex
  have hQ := stat_pure
  have hC := Yx.check_pure
  refine pure_of mixed Tryz.func4 rfl (by kernel_rfl) (of_decide_eq_true rfl) (by kernel_rfl) (vc_run ?_)
  ((try simp -implicitDefEqProofs [-loopQ_n]) <;> (repeat' (first | ((first | refine condD_dec ?_ ?_ | refine guardD_dec ?_ ?_) <;> (intro hc; (try simp -implicitDefEqProofs [-loopQ_n, hc]))) | ((first | refine condD_intro ?_ ?_ | refine guardD_intro ?_ ?_) <;> (intro hd; have hc := hd; (try simp at hc) <;> (try simp -implicitDefEqProofs [-loopQ_n, hd, hc]))) | ((first | (refine ldD_ep ?_ ?_; (focus kernel_rfl)) | (refine callS_mk ?_; (try simp -implicitDefEqProofs [-loopQ_n]); (first | refine callS_intro (hQ) (.inr ⟨rfl, rfl⟩) ?_))); (try simp -implicitDefEqProofs [-loopQ_n])))))
  have lit : ∀ (rows : List (List AV)), (rows.all fun r => r.all fun c => !owns c) = true → ∀ r ∈ rows, ∀ c ∈ r, owns c = false := fun rows h r hr c hc => by
    rw [List.all_eq_true] at h
    have := h r hr
    rw [List.all_eq_true] at this
    simpa using this c hc
  refine callG_intro (frz_G (id := 1) hS rfl (lit _ (by rfl)) rfl rfl ?_)
  ((try simp -implicitDefEqProofs [-loopQ_n, frH, frB, frL, frA]) <;> (repeat' (first | ((first | refine condD_dec ?_ ?_ | refine guardD_dec ?_ ?_) <;> (intro hc; (try simp -implicitDefEqProofs [-loopQ_n, hc, frH, frB, frL, frA]))) | ((first | refine condD_intro ?_ ?_ | refine guardD_intro ?_ ?_) <;> (intro hd; have hc := hd; (try simp at hc) <;> (try simp -implicitDefEqProofs [-loopQ_n, hd, hc, frH, frB, frL, frA]))) | (refine ldD_ep ?_ ?_; (focus kernel_rfl); (try simp -implicitDefEqProofs [-loopQ_n, frH, frB, frL, frA])))))
  refine callG_intro (frz_step (id := 3) rfl (lit _ (by rfl)) (frz_step (id := 2) rfl (lit _ (by rfl)) (frz_G (id := 4) hB rfl (lit _ (by rfl)) rfl rfl ?_)))
  ((try simp -implicitDefEqProofs [-loopQ_n, frH, frB, frL, frA]) <;> (repeat' (first | ((first | refine condD_dec ?_ ?_ | refine guardD_dec ?_ ?_) <;> (intro hc; (try simp -implicitDefEqProofs [-loopQ_n, hc, frH, frB, frL, frA]))) | ((first | refine condD_intro ?_ ?_ | refine guardD_intro ?_ ?_) <;> (intro hd; have hc := hd; (try simp at hc) <;> (try simp -implicitDefEqProofs [-loopQ_n, hd, hc, frH, frB, frL, frA]))) | ((first | (refine ldD_ep ?_ ?_; (focus kernel_rfl)) | (refine callS_mk ?_; (try simp -implicitDefEqProofs [-loopQ_n, frH, frB, frL, frA]); (first | refine callS_intro (hC) (.inl rfl) ?_))); (try simp -implicitDefEqProofs [-loopQ_n, frH, frB, frL, frA])))))
end Go.Proofs.YthiclaihlpkinaaGreat
