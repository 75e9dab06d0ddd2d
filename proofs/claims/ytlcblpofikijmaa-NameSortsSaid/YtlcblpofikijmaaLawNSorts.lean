/- Sorted returns the alphabet of a list, or the specified error, as the reference does (the law NameSorts holds for every input; no condition). -/
import Derived.Test.YtlcblpofikijmaaRows
import Derived.Test.YtlcblpofikijmaaNam1
import Derived.Test.YtlcblpofikijmaaSrt
namespace Go.Proofs.Ytlcblpofikijmaa.lawSorts
set_option linter.unusedSimpArgs false
set_option linter.unusedVariables false
set_option linter.unnecessarySimpa false
set_option linter.unusedSectionVars false
open Go.ChangeShapes Go.WideShapes Go.ChangeAt Go.RowKit Go.Joins Go.Deep
section
variable [Glob]
set_option maxRecDepth 100000
set_option maxHeartbeats 8000000 in
theorem both (x0 : AV) (s0 : argS Try.prog 22 x0) :
    Pure Try.prog 8 [x0] (.bool true) := by
  obtain ⟨l, rfl, hl, _⟩ := arg_strs s0
  refine pure_of mixed Try.func8 rfl (by kernel_rfl) (of_decide_eq_true rfl) (by kernel_rfl) (vc_run ?_)
  by_cases hS : shortL l = true
  · have hl2 : l.length ≤ 1005 := by
      simp only [shortL, Bool.and_eq_true, Bool.or_eq_true, decide_eq_true_eq] at hS
      omega
    have h1 := nsorted_pure l (by omega)
    have h2 := rsorted_pure l (by omega)
    by_cases h0 : l = []
    · subst h0
      have hs : sortedR [] = .ok [] := rfl
      rw [hs, exN] at h1 h2
      ((try simp -implicitDefEqProofs [-loopQ_n, hS, rowsOf]) <;> (repeat' (first | (refine condD_dec ?_ ?_ <;> (intro hc; (try simp -implicitDefEqProofs [-loopQ_n, hc, hS, rowsOf]))) | (refine guardD_dec ?_ ?_ <;> (intro hc; (try simp -implicitDefEqProofs [-loopQ_n, hc, hS, rowsOf]))) | (refine condD_intro ?_ ?_ <;> (intro hd; have hc := hd; (try simp at hc) <;> (try simp -implicitDefEqProofs [-loopQ_n, hd, hc, hS, rowsOf]))) | (refine guardD_intro ?_ ?_ <;> (intro hd; have hc := hd; (try simp at hc) <;> (try simp -implicitDefEqProofs [-loopQ_n, hd, hc, hS, rowsOf]))) | (refine ldD_ep ?_ ?_; (focus kernel_rfl); (try simp -implicitDefEqProofs [-loopQ_n, hS, rowsOf])) | (refine callS_mk ?_; (try simp -implicitDefEqProofs [-loopQ_n, hS, rowsOf]); (first | refine callS_intro (awake_pure) (.inl rfl) ?_ | refine callS_intro (short_pure [] (by simp)) (.inl rfl) ?_); (try simp -implicitDefEqProofs [-loopQ_n, hS, rowsOf])))))
      refine callG_intro (cloneS0_G fun nb => ?_)
      ((try simp -implicitDefEqProofs [-loopQ_n, rowsOf]) <;> (repeat' (first | (refine condD_dec ?_ ?_ <;> (intro hc; (try simp -implicitDefEqProofs [-loopQ_n, hc, rowsOf]))) | (refine guardD_dec ?_ ?_ <;> (intro hc; (try simp -implicitDefEqProofs [-loopQ_n, hc, rowsOf]))) | (refine condD_intro ?_ ?_ <;> (intro hd; have hc := hd; (try simp at hc) <;> (try simp -implicitDefEqProofs [-loopQ_n, hd, hc, rowsOf]))) | (refine guardD_intro ?_ ?_ <;> (intro hd; have hc := hd; (try simp at hc) <;> (try simp -implicitDefEqProofs [-loopQ_n, hd, hc, rowsOf]))) | (refine ldD_ep ?_ ?_; (focus kernel_rfl); (try simp -implicitDefEqProofs [-loopQ_n, rowsOf])) | (refine callS_mk ?_; (try simp -implicitDefEqProofs [-loopQ_n, rowsOf]); (first | refine callS_intro (h1) (.inr ⟨rfl, rfl⟩) ?_ | refine callS_intro (h2) (.inr ⟨rfl, rfl⟩) ?_ | refine callS_intro (rsame_pure [] [] (by simp) (by simp)) (.inl rfl) ?_ | refine callS_intro (eqS_pure [] [] (by simp) (by simp)) (.inl rfl) ?_); (try simp -implicitDefEqProofs [-loopQ_n, rowsOf])))))
    · have hc := cloneS_fresh l h0 (by omega)
      have hlf : ((rowsOf strC l).all fun r => r.all flat) = true := rowsOf_flat fun x => by simp [strC, flat]
      ((try simp -implicitDefEqProofs [-loopQ_n, hS]) <;> (repeat' (first | (refine condD_dec ?_ ?_ <;> (intro hc; (try simp -implicitDefEqProofs [-loopQ_n, hc, hS]))) | (refine guardD_dec ?_ ?_ <;> (intro hc; (try simp -implicitDefEqProofs [-loopQ_n, hc, hS]))) | (refine condD_intro ?_ ?_ <;> (intro hd; have hc := hd; (try simp at hc) <;> (try simp -implicitDefEqProofs [-loopQ_n, hd, hc, hS]))) | (refine guardD_intro ?_ ?_ <;> (intro hd; have hc := hd; (try simp at hc) <;> (try simp -implicitDefEqProofs [-loopQ_n, hd, hc, hS]))) | (refine ldD_ep ?_ ?_; (focus kernel_rfl); (try simp -implicitDefEqProofs [-loopQ_n, hS])) | (refine callS_mk ?_; (try simp -implicitDefEqProofs [-loopQ_n, hS]); (first | refine callS_intro (awake_pure) (.inl rfl) ?_ | refine callS_intro (short_pure l hl) (.inl rfl) ?_); (try simp -implicitDefEqProofs [-loopQ_n, hS])))))
      refine fresh_intro hc (by simp) (.inl hlf) ?_
      cases hs : sortedR l with
      | error e =>
        rw [hs, exN] at h1 h2
        ((try simp -implicitDefEqProofs [-loopQ_n, sw_reify]) <;> (repeat' (first | (refine condD_dec ?_ ?_ <;> (intro hc; (try simp -implicitDefEqProofs [-loopQ_n, hc, sw_reify]))) | (refine guardD_dec ?_ ?_ <;> (intro hc; (try simp -implicitDefEqProofs [-loopQ_n, hc, sw_reify]))) | (refine condD_intro ?_ ?_ <;> (intro hd; have hc := hd; (try simp at hc) <;> (try simp -implicitDefEqProofs [-loopQ_n, hd, hc, sw_reify]))) | (refine guardD_intro ?_ ?_ <;> (intro hd; have hc := hd; (try simp at hc) <;> (try simp -implicitDefEqProofs [-loopQ_n, hd, hc, sw_reify]))) | (refine ldD_ep ?_ ?_; (focus kernel_rfl); (try simp -implicitDefEqProofs [-loopQ_n, sw_reify])) | (refine callS_mk ?_; (try simp -implicitDefEqProofs [-loopQ_n, sw_reify]); (first | refine callS_intro (h1) (.inr ⟨rfl, rfl⟩) ?_ | refine callS_intro (h2) (.inr ⟨rfl, rfl⟩) ?_ | refine callS_intro (rsame_pure [] [] (by simp) (by simp)) (.inl rfl) ?_ | refine callS_intro (eqS_pure l l hl hl) (.inl rfl) ?_); (try simp -implicitDefEqProofs [-loopQ_n, sw_reify])))))
      | ok a =>
        rw [hs, exN] at h1 h2
        have ha : a.length ≤ 9223372036854775807 := by
          unfold sortedR at hs
          split at hs
          · split at hs
            · cases hs
            · split at hs
              · cases hs
              · cases hs; omega
          · cases hs
        ((try simp -implicitDefEqProofs [-loopQ_n, sw_reify]) <;> (repeat' (first | (refine condD_dec ?_ ?_ <;> (intro hc; (try simp -implicitDefEqProofs [-loopQ_n, hc, sw_reify]))) | (refine guardD_dec ?_ ?_ <;> (intro hc; (try simp -implicitDefEqProofs [-loopQ_n, hc, sw_reify]))) | (refine condD_intro ?_ ?_ <;> (intro hd; have hc := hd; (try simp at hc) <;> (try simp -implicitDefEqProofs [-loopQ_n, hd, hc, sw_reify]))) | (refine guardD_intro ?_ ?_ <;> (intro hd; have hc := hd; (try simp at hc) <;> (try simp -implicitDefEqProofs [-loopQ_n, hd, hc, sw_reify]))) | (refine ldD_ep ?_ ?_; (focus kernel_rfl); (try simp -implicitDefEqProofs [-loopQ_n, sw_reify])) | (refine callS_mk ?_; (try simp -implicitDefEqProofs [-loopQ_n, sw_reify]); (first | refine callS_intro (h1) (.inr ⟨rfl, rfl⟩) ?_ | refine callS_intro (h2) (.inr ⟨rfl, rfl⟩) ?_ | refine callS_intro (rsame_pure a a ha ha) (.inl rfl) ?_ | refine callS_intro (eqS_pure l l hl hl) (.inl rfl) ?_); (try simp -implicitDefEqProofs [-loopQ_n, sw_reify])))))
  · have hS : shortL l = false := by simpa using hS
    ((try simp -implicitDefEqProofs [-loopQ_n, hS]) <;> (repeat' (first | (refine condD_dec ?_ ?_ <;> (intro hc; (try simp -implicitDefEqProofs [-loopQ_n, hc, hS]))) | (refine guardD_dec ?_ ?_ <;> (intro hc; (try simp -implicitDefEqProofs [-loopQ_n, hc, hS]))) | (refine condD_intro ?_ ?_ <;> (intro hd; have hc := hd; (try simp at hc) <;> (try simp -implicitDefEqProofs [-loopQ_n, hd, hc, hS]))) | (refine guardD_intro ?_ ?_ <;> (intro hd; have hc := hd; (try simp at hc) <;> (try simp -implicitDefEqProofs [-loopQ_n, hd, hc, hS]))) | (refine ldD_ep ?_ ?_; (focus kernel_rfl); (try simp -implicitDefEqProofs [-loopQ_n, hS])) | (refine callS_mk ?_; (try simp -implicitDefEqProofs [-loopQ_n, hS]); (first | refine callS_intro (awake_pure) (.inl rfl) ?_ | refine callS_intro (short_pure l hl) (.inl rfl) ?_); (try simp -implicitDefEqProofs [-loopQ_n, hS])))))
theorem walk (W : World) (hvo : VarsOk W (fun _ => False)) (v0 : Value) (x0 : AV) (r0 : RO W (fun _ => False) x0 v0) (s0 : argS Try.prog 22 x0) :
    Calls Try.prog 8 #[v0] W fun e w' => e = .returned (.bool true) ∧ Below W.heap.size W w' := by
  refine ((both x0 s0).2 W (fun _ => False) _ (fun _ h => h.elim) hvo rfl ?_).mono ?_
  · intro j x v hj hv
    match j with
    | 0 => simp at hj hv; subst hj hv; exact r0
    | j + 1 => simp at hj
  · rintro e w' ⟨v, rfl, hv, hb⟩
    rw [ro_tt hv]
    exact ⟨rfl, hb⟩
end
set_option maxRecDepth 100000 in
theorem lifted (os : Os) (started : os.Started) (H : Type) (enc : TypeId × Value → H) :
    ReturnsInHanded {} Try.checked os 8 .any (Rows.nameSortsSpec.pre6 enc Try.prog Try.f8 Rows.nameSortsRow.domain false) (Rows.nameSortsSpec.post enc Try.prog Try.f8 false true false false) := by
  refine returnsInHanded_of_change (C := Try.checked) (@ownK ⟨fun _ => none⟩) started (by kernel_rfl) Try.func8
    (ChangeSpec.witness6 (enc := enc) (C := Try.checked) false ⟨#[], #[.slice none 0 0], []⟩ 8 (by kernel_rfl) (by kernel_rfl) (by kernel_rfl) (by kernel_rfl)) ?_
  intro W base args ds gs before hval0 hW hcnd _
  have hval : ∀ (j : Nat) t v, Try.f8.params[j]? = some t → args[j]? = some v → Value.okWide Try.prog W .any base t v := hval0
  have hW' := hW
  obtain ⟨p, q, hA0, hV, rfl, hfz, hnd⟩ := hW
  have hA : DataW.TrodAll enc Try.prog W 0 (fun _ => true) true Try.f8.params.toList args.toList ds p := hA0
  rw [Try.params8] at hA hval
  obtain ⟨v0, vs0, d0, ds0, p0, q0, hargs, rfl, rfl, h0, r0⟩ := trodAll_cons hA
  obtain ⟨rfl, rfl, rfl⟩ := trodAll_nil r0
  obtain rfl : args = #[v0] := by cases args; simp_all
  obtain ⟨rfl, rfl⟩ := trodVars_none hV
  letI : Glob := ⟨fun _ => none⟩
  have k0 := h0
  have lt0 : ∀ x ∈ p0, x.block < W.heap.size := by obtain ⟨m, hm⟩ := k0; exact DataW.trod_lt m _ _ _ hm
  obtain ⟨x0, y0, s0⟩ := arg_open (P := Try.prog) (t := 22) (by kernel_rfl) (by kernel_rfl) (hval 0 22 v0 rfl rfl) h0
  clear hA0 hval0
  refine (walk W (fun g row h => by cases h) v0 x0 y0 s0).mono fun e W' ⟨he, bel⟩ => ?_
  subst he
  exact ⟨_, rfl, _, _, _, [], _, [], hW', trodAll_mk1 (shut_bool Try.underlying4 _), (trodAll_cons_mk (Below.trod laidK (by kernel_rfl) (of_decide_eq_true (by kernel_rfl)) k0 bel lt0) trodAll_mk0), rfl, bel.frame _, fun h => by cases h⟩

theorem over : Rows.nameSortsRow.holds Try.pinned (OpenSpec.ofChange Rows.nameSortsSpec) :=
  OpenClaim.holds_of_wide 8 Try.f8 rfl rfl rfl rfl rfl rfl rfl ⟨rfl, rfl, rfl, rfl, rfl⟩ rfl rfl rfl rfl rfl (by kernel_rfl) Try.func8 (by kernel_rfl)
    (of_decide_eq_true (by kernel_rfl)) (by unfold Func.isWrapper; first | (rw [if_pos (by decide +kernel)]; kernel_rfl) | (rw [if_neg (by decide +kernel)]; exact ⟨rfl, rfl⟩))
    (fun os started H enc _ => lifted os started H enc)

theorem proved : Rows.NameSortsSaid := over
end Go.Proofs.Ytlcblpofikijmaa.lawSorts
