/- The first gap, the first overlap and the unused rows of a decision table are the reference's (the law DecisionWitnesses holds for every input; no condition). -/
import Derived.Test.YthemglpccpjokaaGreatRows
import Derived.Test.YthemglpccpjokaaGreatDwQ
namespace Go.Proofs.YthemglpccpjokaaGreat.lawDWitn
set_option linter.unusedSimpArgs false
set_option linter.unusedVariables false
set_option linter.unnecessarySimpa false
set_option linter.unusedSectionVars false
open Go.ChangeShapes Go.WideShapes Go.ChangeAt Go.RowKit Go.Joins Go.Deep
section
variable [Glob]
set_option maxRecDepth 100000
set_option maxHeartbeats 16000000 in
theorem main (d : Dec) (hb : BgD d) : Pure Tryz.prog 3 [.agg (decC d)] (.bool true) := by
  have hf := few_pure d hb
  have haw := awake_pure
  simp only [decC] at hf
  by_cases q : fewB d = true
  rotate_left
  · have q : fewB d = false := by simpa using q
    rw [q] at hf
    refine pure_of mixed Tryz.func3 rfl (by kernel_rfl) (of_decide_eq_true rfl) (by kernel_rfl) (vc_run ?_)
    ((try simp -implicitDefEqProofs [-loopQ_n, decC]) <;> (repeat' (first | ((first | refine condD_dec ?_ ?_ | refine guardD_dec ?_ ?_) <;> (intro hc; (try simp -implicitDefEqProofs [-loopQ_n, hc, decC]))) | (refine callS_mk ?_; (try simp -implicitDefEqProofs [-loopQ_n, decC]); (first | refine callS_intro (haw) (.inl rfl) ?_ | refine callS_intro (hf) (.inl rfl) ?_); (try simp -implicitDefEqProofs [-loopQ_n, decC])))))
  rw [q] at hf
  have hs := few_sz q
  have g1 := gap_pure d hs
  have g2 := rgap_pure d hs
  have o1 := over_pure d hs
  have o2 := rover_pure d hs
  have u1 := unused_pure d hs
  have u2 := runused_pure d hs
  obtain ⟨G, a, e, hG, lG⟩ := gap_form d hs
  obtain ⟨O, p, r, c, f, hO, lO⟩ := over_form d hs
  obtain ⟨U, h, hU, lU⟩ := unused_form d hs
  rw [hG] at g1 g2
  rw [hO] at o1 o2
  rw [hU] at u1 u2
  simp only [decC] at g1 g2 o1 o2 u1 u2
  have e1 := veq_pure G G lG lG
  have e2 := veq_pure O O lO lO
  have e3 := ieq_pure U U lU lU
  rw [decide_eq_true rfl] at e1 e2 e3
  refine pure_of mixed Tryz.func3 rfl (by kernel_rfl) (of_decide_eq_true rfl) (by kernel_rfl) (vc_run ?_)
  ((try simp -implicitDefEqProofs [-loopQ_n, decC]) <;> (repeat' (first | ((first | refine condD_dec ?_ ?_ | refine guardD_dec ?_ ?_) <;> (intro hc; (try simp -implicitDefEqProofs [-loopQ_n, hc, decC]))) | (refine callS_mk ?_; (try simp -implicitDefEqProofs [-loopQ_n, decC]); (first | refine callS_intro (haw) (.inl rfl) ?_ | refine callS_intro (hf) (.inl rfl) ?_ | refine callS_intro (g1) (.inr ⟨rfl, rfl⟩) ?_ | refine callS_intro (g2) (.inr ⟨rfl, rfl⟩) ?_ | refine callS_intro (o1) (.inr ⟨rfl, rfl⟩) ?_ | refine callS_intro (o2) (.inr ⟨rfl, rfl⟩) ?_ | refine callS_intro (u1) (.inr ⟨rfl, rfl⟩) ?_ | refine callS_intro (u2) (.inr ⟨rfl, rfl⟩) ?_ | refine callS_intro (e1) (.inl rfl) ?_ | refine callS_intro (e2) (.inl rfl) ?_ | refine callS_intro (e3) (.inl rfl) ?_); (try simp -implicitDefEqProofs [-loopQ_n, decC])))))
theorem both (x0 : AV) (s0 : argS Tryz.prog 29 x0) : Pure Tryz.prog 3 [x0] (.bool true) := by
  obtain ⟨d, rfl, hb⟩ := ddec_dec s0
  exact main d hb
theorem walk (W : World) (hvo : VarsOk W (fun _ => False)) (v0 : Value) (x0 : AV) (r0 : RO W (fun _ => False) x0 v0) (s0 : argS Tryz.prog 29 x0) :
    Calls Tryz.prog 3 #[v0] W fun e w' => e = .returned (.bool true) ∧ Below W.heap.size W w' := by
  refine ((both x0 s0).2 W (fun _ => False) _ (fun _ h => h.elim) hvo rfl ?_).mono ?_
  · intro j x v hj hv
    match j with
    | 0 => simp at hj hv; subst hj hv; exact r0
    | j + 1 => simp at hj
  · rintro e w' ⟨v, rfl, hv, hb⟩
    rw [ro_tt hv]
    exact ⟨rfl, hb⟩
end
set_option maxRecDepth 100000 in
theorem lifted (os : Os) (started : os.Started) (H : Type) (enc : TypeId × Value → H) :
    ReturnsInHanded {} Tryz.checked os 3 .any (Rows.decisionWitnessesSpec.pre6 enc Tryz.prog Tryz.f3 Rows.decisionWitnessesRow.domain false) (Rows.decisionWitnessesSpec.post enc Tryz.prog Tryz.f3 false true false false) := by
  refine returnsInHanded_of_change (C := Tryz.checked) (@ownK { row := fun _ => none }) started (by kernel_rfl) Tryz.func3
    (ChangeSpec.witness6 (enc := enc) (C := Tryz.checked) false ⟨#[], #[.agg #[.slice none 0 0, .string ByteArray.empty, .int .i64 0, .int .i64 0, .int .i64 0, .slice none 0 0, .int .i64 0, .slice none 0 0, .slice none 0 0]], []⟩ 8 (by kernel_rfl) (by kernel_rfl) (by kernel_rfl) (by kernel_rfl)) ?_
  intro W base args ds gs before hval0 hW hcnd _
  have hval : ∀ (j : Nat) t v, Tryz.f3.params[j]? = some t → args[j]? = some v → Value.okWide Tryz.prog W .any base t v := hval0
  have hW' := hW
  obtain ⟨p, q, hA0, hV, rfl, hfz, hnd⟩ := hW
  have hA : DataW.TrodAll enc Tryz.prog W 0 (fun _ => true) true Tryz.f3.params.toList args.toList ds p := hA0
  rw [Tryz.params3] at hA hval
  obtain ⟨v0, vs0, d0, ds0, p0, q0, hargs, rfl, rfl, h0, r0⟩ := trodAll_cons hA
  obtain ⟨rfl, rfl, rfl⟩ := trodAll_nil r0
  obtain rfl : args = #[v0] := by cases args; simp_all
  obtain ⟨rfl, rfl⟩ := trodVars_none hV
  letI : Glob := { row := fun _ => none }
  have k0 := h0
  have lt0 : ∀ x ∈ p0, x.block < W.heap.size := by obtain ⟨m, hm⟩ := k0; exact DataW.trod_lt m _ _ _ hm
  obtain ⟨x0, y0, s0⟩ := arg_open (P := Tryz.prog) (t := 29) (by kernel_rfl) (by kernel_rfl) (hval 0 29 v0 rfl rfl) h0
  clear hA0 hval0
  refine (walk W ⟨fun g row h => (by cases h), fun g cs h => (by cases h)⟩ v0 x0 y0 s0).mono fun e W' ⟨he, bel⟩ => ?_
  subst he
  exact ⟨_, rfl, _, _, _, [], _, [], hW', trodAll_mk1 (shut_bool Tryz.underlying4 _), (trodAll_cons_mk (Below.trod laidK (by kernel_rfl) (of_decide_eq_true (by kernel_rfl)) k0 bel lt0) trodAll_mk0), rfl, bel.frame _, fun h => by cases h⟩

theorem over : Rows.decisionWitnessesRow.holds Tryz.pinned (OpenSpec.ofChange Rows.decisionWitnessesSpec) :=
  OpenClaim.holds_of_wide 3 Tryz.f3 rfl rfl rfl rfl rfl rfl rfl ⟨rfl, rfl, rfl, rfl, rfl⟩ rfl rfl rfl rfl rfl (by kernel_rfl) Tryz.func3 (by kernel_rfl)
    (of_decide_eq_true (by kernel_rfl)) (by unfold Func.isWrapper; first | (rw [if_pos (by decide +kernel)]; kernel_rfl) | (rw [if_neg (by decide +kernel)]; exact ⟨rfl, rfl⟩))
    (fun os started H enc _ => lifted os started H enc)

theorem proved : Rows.DecisionWitnessesSaid := over
end Go.Proofs.YthemglpccpjokaaGreat.lawDWitn
