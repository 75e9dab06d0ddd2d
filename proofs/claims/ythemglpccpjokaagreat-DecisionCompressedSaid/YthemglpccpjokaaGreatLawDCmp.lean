/- A compressed decision table is valid, equal to the table that it was made of, has no further rows, and cannot be compressed further (the law DecisionCompressed holds for every input; no condition). -/
import Derived.Test.YthemglpccpjokaaGreatRows
import Derived.Test.YthemglpccpjokaaGreatDwL
namespace Go.Proofs.YthemglpccpjokaaGreat.lawDCmp
set_option linter.unusedSimpArgs false
set_option linter.unusedVariables false
set_option linter.unnecessarySimpa false
set_option linter.unusedSectionVars false
open Go.ChangeShapes Go.WideShapes Go.ChangeAt Go.RowKit Go.Joins Go.Deep
section
variable [Glob]
set_option maxRecDepth 100000
set_option maxHeartbeats 32000000 in
theorem main (d : Dec) (hb : BgD d) : Pure Tryz.prog 8 [.agg (decC d)] (.bool true) := by
  have hf := few_pure d hb
  have haw := awake_pure
  simp only [decC] at hf
  by_cases q : fewB d = true
  rotate_left
  · have q : fewB d = false := by simpa using q
    rw [q] at hf
    refine pure_of mixed Tryz.func8 rfl (by kernel_rfl) (of_decide_eq_true rfl) (by kernel_rfl) (vc_run ?_)
    ((try simp -implicitDefEqProofs [-loopQ_n, decC]) <;> (repeat' (first | ((first | refine condD_dec ?_ ?_ | refine guardD_dec ?_ ?_) <;> (intro hc; (try simp -implicitDefEqProofs [-loopQ_n, hc, decC]))) | (refine callS_mk ?_; (try simp -implicitDefEqProofs [-loopQ_n, decC]); (first | refine callS_intro (haw) (.inl rfl) ?_ | refine callS_intro (hf) (.inl rfl) ?_); (try simp -implicitDefEqProofs [-loopQ_n, decC])))))
  rw [q] at hf
  have hs := few_sz q
  have c1 := compress_pure d hs
  by_cases h : faultE d = 0
  rotate_left
  · rw [compO, if_neg h] at c1
    simp only [decC, zeroD, rowsOf_nil] at c1
    refine pure_of mixed Tryz.func8 rfl (by kernel_rfl) (of_decide_eq_true rfl) (by kernel_rfl) (vc_run ?_)
    ((try simp -implicitDefEqProofs [-loopQ_n, decC, h]) <;> (repeat' (first | ((first | refine condD_dec ?_ ?_ | refine guardD_dec ?_ ?_) <;> (intro hc; (try simp -implicitDefEqProofs [-loopQ_n, hc, decC, h]))) | (refine callS_mk ?_; (try simp -implicitDefEqProofs [-loopQ_n, decC, h]); (first | refine callS_intro (haw) (.inl rfl) ?_ | refine callS_intro (hf) (.inl rfl) ?_ | refine callS_intro (c1) (.inr ⟨rfl, rfl⟩) ?_); (try simp -implicitDefEqProofs [-loopQ_n, decC, h])))))
  obtain ⟨R, k1, k2, k3, k4, k5, k6, k7⟩ := comp_facts h
  have hsR := sz_sub hs k2
  have hlen := k2.length_le
  have v1 := dvalid_pure (withR d R) hsR
  have e1 := equal_pure d (withR d R) hs hsR
  have c2 := compress_pure (withR d R) hsR
  have s1 := sameD_pure (withR d R) (sza hsR k3)
  have u1 := unused_pure (withR d R) hsR
  rw [k1] at c1
  rw [k3] at v1
  rw [k4] at e1
  rw [k5] at c2
  rw [k7] at u1
  have hro : ∀ j, j < R.length → Pure Tryz.prog 39 [.agg (decC (withR d R)), .int .i64 j] (.agg (decC (withR d (R.eraseIdx j)))) := fun j hj => by
    have := without_pure (withR d R) (j : Int) hsR.2.2.1
    rwa [show woA (withR d R).rows j 0 = R.eraseIdx j from woA_zero R j] at this
  have hre : ∀ j, j < R.length → ∃ w, Pure Tryz.prog 27 [.agg (decC (withR d R)), .agg (decC (withR d (R.eraseIdx j)))] (.tup [.bool false, .rs (rowsOf valC w), .int .i64 0]) ∧ w.length = d.inputs.length := fun j hj => by
    obtain ⟨w, h1, h2⟩ := k6 j hj
    have := equal_pure (withR d R) (withR d (R.eraseIdx j)) hsR (sz_sub hs ((List.eraseIdx_sublist ..).trans k2))
    rw [h1] at this
    exact ⟨w, this, h2⟩
  simp only [decC, withR] at c1 v1 e1 c2 s1 u1 hro hre
  have l1 : ¬ (d.rows.length : Int) < R.length := by omega
  have l2 : R.length ≤ 1000000 := hsR.2.2.1
  refine pure_of mixed Tryz.func8 rfl (by kernel_rfl) (of_decide_eq_true rfl) (by kernel_rfl) (vc_run ?_)
  ((try simp -implicitDefEqProofs [-loopQ_n, decC, l1]) <;> (repeat' (first | ((first | refine condD_dec ?_ ?_ | refine guardD_dec ?_ ?_) <;> (intro hc; (try simp -implicitDefEqProofs [-loopQ_n, hc, decC, l1]))) | (refine callS_mk ?_; (try simp -implicitDefEqProofs [-loopQ_n, decC, l1]); (first | refine callS_intro (haw) (.inl rfl) ?_ | refine callS_intro (hf) (.inl rfl) ?_ | refine callS_intro (c1) (.inr ⟨rfl, rfl⟩) ?_ | refine callS_intro (v1) (.inl rfl) ?_ | refine callS_intro (e1) (.inr ⟨rfl, rfl⟩) ?_ | refine callS_intro (c2) (.inr ⟨rfl, rfl⟩) ?_ | refine callS_intro (s1) (.inl rfl) ?_); (try simp -implicitDefEqProofs [-loopQ_n, decC, l1])))))
  refine loop_intro (σ := Nat) (fun j => ⟨[(3, .op 1 0), (85, .int .i64 R.length), (86, .int .i64 j)], [.gone, .box 29 (decC ⟨d.inputs, d.out, d.hit, R, d.order⟩)]⟩)
    (fun j => j ≤ R.length) (fun j => R.length - j) 0 (by simp) ?_ ?_
  · refine weak_of 2 0 rfl rfl ?_ ?_ <;> simp [decC]
  rintro j hj
  by_cases g : j < R.length
  · have w1 := w_succB g (by omega)
    have o1 := hro j g
    obtain ⟨w, o2, hw⟩ := hre j g
    ((try simp -implicitDefEqProofs [-loopQ_n, g, decC, w1, hw]) <;> (repeat' (first | ((first | refine condD_dec ?_ ?_ | refine guardD_dec ?_ ?_) <;> (intro hc; (try simp -implicitDefEqProofs [-loopQ_n, hc, g, decC, w1, hw]))) | ((first | (refine ld2_op ?_ ?_; (focus kernel_rfl)) | (refine ld2_ep ?_ ?_; (focus kernel_rfl)) | (refine nbx_intro ?_ ?_; (focus kernel_rfl)) | (refine nbx_fin ?_; (focus kernel_rfl)) | (refine callS_mk ?_; (try simp -implicitDefEqProofs [-loopQ_n, g, decC, w1, hw]); (first | refine callS_intro (o1) (.inr ⟨rfl, rfl⟩) ?_ | refine callS_intro (o2) (.inr ⟨rfl, rfl⟩) ?_))); (try simp -implicitDefEqProofs [-loopQ_n, g, decC, w1, hw])))))
    refine loop_next (j + 1) (by omega) (by omega) (weak_of 2 0 rfl rfl ?_ ?_) <;> simp [w1, decC]
  · ((try simp -implicitDefEqProofs [-loopQ_n, g, decC]) <;> (repeat' (first | ((first | refine condD_dec ?_ ?_ | refine guardD_dec ?_ ?_) <;> (intro hc; (try simp -implicitDefEqProofs [-loopQ_n, hc, g, decC]))) | (refine callS_mk ?_; (try simp -implicitDefEqProofs [-loopQ_n, g, decC]); (first | refine callS_intro (u1) (.inr ⟨rfl, rfl⟩) ?_); (try simp -implicitDefEqProofs [-loopQ_n, g, decC])))))
theorem both (x0 : AV) (s0 : argS Tryz.prog 29 x0) : Pure Tryz.prog 8 [x0] (.bool true) := by
  obtain ⟨d, rfl, hb⟩ := ddec_dec s0
  exact main d hb
theorem walk (W : World) (hvo : VarsOk W (fun _ => False)) (v0 : Value) (x0 : AV) (r0 : RO W (fun _ => False) x0 v0) (s0 : argS Tryz.prog 29 x0) :
    Calls Tryz.prog 8 #[v0] W fun e w' => e = .returned (.bool true) ∧ Below W.heap.size W w' := by
  refine ((both x0 s0).2 W (fun _ => False) _ (fun _ h => h.elim) hvo rfl ?_).mono ?_
  · intro j x v hj hv
    match j with
    | 0 => simp at hj hv; subst hj hv; exact r0
    | j + 1 => simp at hj
  · rintro e w' ⟨v, rfl, hv, hb⟩
    rw [ro_tt hv]
    exact ⟨rfl, hb⟩
end
set_option maxRecDepth 100000 in
theorem lifted (os : Os) (started : os.Started) (H : Type) (enc : TypeId × Value → H) :
    ReturnsInHanded {} Tryz.checked os 8 .any (Rows.decisionCompressedSpec.pre6 enc Tryz.prog Tryz.f8 Rows.decisionCompressedRow.domain false) (Rows.decisionCompressedSpec.post enc Tryz.prog Tryz.f8 false true false false) := by
  refine returnsInHanded_of_change (C := Tryz.checked) (@ownK { row := fun _ => none }) started (by kernel_rfl) Tryz.func8
    (ChangeSpec.witness6 (enc := enc) (C := Tryz.checked) false ⟨#[], #[.agg #[.slice none 0 0, .string ByteArray.empty, .int .i64 0, .int .i64 0, .int .i64 0, .slice none 0 0, .int .i64 0, .slice none 0 0, .slice none 0 0]], []⟩ 8 (by kernel_rfl) (by kernel_rfl) (by kernel_rfl) (by kernel_rfl)) ?_
  intro W base args ds gs before hval0 hW hcnd _
  have hval : ∀ (j : Nat) t v, Tryz.f8.params[j]? = some t → args[j]? = some v → Value.okWide Tryz.prog W .any base t v := hval0
  have hW' := hW
  obtain ⟨p, q, hA0, hV, rfl, hfz, hnd⟩ := hW
  have hA : DataW.TrodAll enc Tryz.prog W 0 (fun _ => true) true Tryz.f8.params.toList args.toList ds p := hA0
  rw [Tryz.params8] at hA hval
  obtain ⟨v0, vs0, d0, ds0, p0, q0, hargs, rfl, rfl, h0, r0⟩ := trodAll_cons hA
  obtain ⟨rfl, rfl, rfl⟩ := trodAll_nil r0
  obtain rfl : args = #[v0] := by cases args; simp_all
  obtain ⟨rfl, rfl⟩ := trodVars_none hV
  letI : Glob := { row := fun _ => none }
  have k0 := h0
  have lt0 : ∀ x ∈ p0, x.block < W.heap.size := by obtain ⟨m, hm⟩ := k0; exact DataW.trod_lt m _ _ _ hm
  obtain ⟨x0, y0, s0⟩ := arg_open (P := Tryz.prog) (t := 29) (by kernel_rfl) (by kernel_rfl) (hval 0 29 v0 rfl rfl) h0
  clear hA0 hval0
  refine (walk W ⟨fun g row h => (by cases h), fun g cs h => (by cases h)⟩ v0 x0 y0 s0).mono fun e W' ⟨he, bel⟩ => ?_
  subst he
  exact ⟨_, rfl, _, _, _, [], _, [], hW', trodAll_mk1 (shut_bool Tryz.underlying4 _), (trodAll_cons_mk (Below.trod laidK (by kernel_rfl) (of_decide_eq_true (by kernel_rfl)) k0 bel lt0) trodAll_mk0), rfl, bel.frame _, fun h => by cases h⟩

theorem over : Rows.decisionCompressedRow.holds Tryz.pinned (OpenSpec.ofChange Rows.decisionCompressedSpec) :=
  OpenClaim.holds_of_wide 8 Tryz.f8 rfl rfl rfl rfl rfl rfl rfl ⟨rfl, rfl, rfl, rfl, rfl⟩ rfl rfl rfl rfl rfl (by kernel_rfl) Tryz.func8 (by kernel_rfl)
    (of_decide_eq_true (by kernel_rfl)) (by unfold Func.isWrapper; first | (rw [if_pos (by decide +kernel)]; kernel_rfl) | (rw [if_neg (by decide +kernel)]; exact ⟨rfl, rfl⟩))
    (fun os started H enc _ => lifted os started H enc)

theorem proved : Rows.DecisionCompressedSaid := over
end Go.Proofs.YthemglpccpjokaaGreat.lawDCmp
