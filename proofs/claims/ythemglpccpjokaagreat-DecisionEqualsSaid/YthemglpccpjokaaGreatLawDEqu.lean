/- Equal and Compress of decision tables are the reference's (the law DecisionEquals holds for every input; no condition). -/
import Derived.Test.YthemglpccpjokaaGreatRows
import Derived.Test.YthemglpccpjokaaGreatDwN
namespace Go.Proofs.YthemglpccpjokaaGreat.lawDEqu
set_option linter.unusedSimpArgs false
set_option linter.unusedVariables false
set_option linter.unnecessarySimpa false
set_option linter.unusedSectionVars false
open Go.ChangeShapes Go.WideShapes Go.ChangeAt Go.RowKit Go.Joins Go.Deep
section
variable [Glob]
set_option maxRecDepth 100000
set_option maxHeartbeats 16000000 in
theorem main (a b : Dec) (ha : BgD a) (hb : BgD b) : Pure Tryz.prog 6 [.agg (decC a), .agg (decC b)] (.bool true) := by
  have hf := few_pure a ha
  have hg := few_pure b hb
  have haw := awake_pure
  simp only [decC] at hf hg
  by_cases q : fewB a = true
  rotate_left
  · have q : fewB a = false := by simpa using q
    rw [q] at hf
    clear hg
    refine pure_of mixed Tryz.func6 rfl (by kernel_rfl) (of_decide_eq_true rfl) (by kernel_rfl) (vc_run ?_)
    ((try simp -implicitDefEqProofs [-loopQ_n, decC]) <;> (repeat' (first | ((first | refine condD_dec ?_ ?_ | refine guardD_dec ?_ ?_) <;> (intro hc; (try simp -implicitDefEqProofs [-loopQ_n, hc, decC]))) | (refine callS_mk ?_; (try simp -implicitDefEqProofs [-loopQ_n, decC]); (first | refine callS_intro (haw) (.inl rfl) ?_ | refine callS_intro (hf) (.inl rfl) ?_); (try simp -implicitDefEqProofs [-loopQ_n, decC])))))
  rw [q] at hf
  by_cases r : fewB b = true
  rotate_left
  · have r : fewB b = false := by simpa using r
    rw [r] at hg
    refine pure_of mixed Tryz.func6 rfl (by kernel_rfl) (of_decide_eq_true rfl) (by kernel_rfl) (vc_run ?_)
    ((try simp -implicitDefEqProofs [-loopQ_n, decC]) <;> (repeat' (first | ((first | refine condD_dec ?_ ?_ | refine guardD_dec ?_ ?_) <;> (intro hc; (try simp -implicitDefEqProofs [-loopQ_n, hc, decC]))) | (refine callS_mk ?_; (try simp -implicitDefEqProofs [-loopQ_n, decC]); (first | refine callS_intro (haw) (.inl rfl) ?_ | refine callS_intro (hf) (.inl rfl) ?_ | refine callS_intro (hg) (.inl rfl) ?_); (try simp -implicitDefEqProofs [-loopQ_n, decC])))))
  rw [r] at hg
  have hs := few_sz q
  have g1 := equal_pure a b hs (few_sz r)
  have g2 := requal_pure a b hs (few_sz r)
  have c1 := compress_pure a hs
  have c2 := rcompress_pure a hs
  obtain ⟨c, G, e, hG, lG⟩ := equal_form a b hs
  obtain ⟨X, f, hX, sX⟩ := comp_form a hs
  rw [hG] at g1 g2
  rw [hX] at c1 c2
  have hsm := sameD_pure X sX
  simp only [decC] at g1 g2 c1 c2 hsm
  have e1 := veq_pure G G lG lG
  rw [decide_eq_true rfl] at e1
  refine pure_of mixed Tryz.func6 rfl (by kernel_rfl) (of_decide_eq_true rfl) (by kernel_rfl) (vc_run ?_)
  ((try simp -implicitDefEqProofs [-loopQ_n, decC]) <;> (repeat' (first | ((first | refine condD_dec ?_ ?_ | refine guardD_dec ?_ ?_) <;> (intro hc; (try simp -implicitDefEqProofs [-loopQ_n, hc, decC]))) | (refine callS_mk ?_; (try simp -implicitDefEqProofs [-loopQ_n, decC]); (first | refine callS_intro (haw) (.inl rfl) ?_ | refine callS_intro (hf) (.inl rfl) ?_ | refine callS_intro (hg) (.inl rfl) ?_ | refine callS_intro (g1) (.inr ⟨rfl, rfl⟩) ?_ | refine callS_intro (g2) (.inr ⟨rfl, rfl⟩) ?_ | refine callS_intro (c1) (.inr ⟨rfl, rfl⟩) ?_ | refine callS_intro (c2) (.inr ⟨rfl, rfl⟩) ?_ | refine callS_intro (e1) (.inl rfl) ?_ | refine callS_intro (hsm) (.inl rfl) ?_); (try simp -implicitDefEqProofs [-loopQ_n, decC])))))
theorem both (x0 : AV) (s0 : argS Tryz.prog 29 x0) (x1 : AV) (s1 : argS Tryz.prog 29 x1) : Pure Tryz.prog 6 [x0, x1] (.bool true) := by
  obtain ⟨a, rfl, ha⟩ := ddec_dec s0
  obtain ⟨b, rfl, hb⟩ := ddec_dec s1
  exact main a b ha hb
theorem walk (W : World) (hvo : VarsOk W (fun _ => False)) (v0 : Value) (x0 : AV) (r0 : RO W (fun _ => False) x0 v0) (s0 : argS Tryz.prog 29 x0) (v1 : Value) (x1 : AV) (r1 : RO W (fun _ => False) x1 v1) (s1 : argS Tryz.prog 29 x1) :
    Calls Tryz.prog 6 #[v0, v1] W fun e w' => e = .returned (.bool true) ∧ Below W.heap.size W w' := by
  refine ((both x0 s0 x1 s1).2 W (fun _ => False) _ (fun _ h => h.elim) hvo rfl ?_).mono ?_
  · intro j x v hj hv
    match j with
    | 0 => simp at hj hv; subst hj hv; exact r0
    | 1 => simp at hj hv; subst hj hv; exact r1
    | j + 2 => simp at hj
  · rintro e w' ⟨v, rfl, hv, hb⟩
    rw [ro_tt hv]
    exact ⟨rfl, hb⟩
end
set_option maxRecDepth 100000 in
theorem lifted (os : Os) (started : os.Started) (H : Type) (enc : TypeId × Value → H) :
    ReturnsInHanded {} Tryz.checked os 6 .any (Rows.decisionEqualsSpec.pre6 enc Tryz.prog Tryz.f6 Rows.decisionEqualsRow.domain false) (Rows.decisionEqualsSpec.post enc Tryz.prog Tryz.f6 false true false false) := by
  refine returnsInHanded_of_change (C := Tryz.checked) (@ownK { row := fun _ => none }) started (by kernel_rfl) Tryz.func6
    (ChangeSpec.witness6 (enc := enc) (C := Tryz.checked) false ⟨#[], #[.agg #[.slice none 0 0, .string ByteArray.empty, .int .i64 0, .int .i64 0, .int .i64 0, .slice none 0 0, .int .i64 0, .slice none 0 0, .slice none 0 0], .agg #[.slice none 0 0, .string ByteArray.empty, .int .i64 0, .int .i64 0, .int .i64 0, .slice none 0 0, .int .i64 0, .slice none 0 0, .slice none 0 0]], []⟩ 8 (by kernel_rfl) (by kernel_rfl) (by kernel_rfl) (by kernel_rfl)) ?_
  intro W base args ds gs before hval0 hW hcnd _
  have hval : ∀ (j : Nat) t v, Tryz.f6.params[j]? = some t → args[j]? = some v → Value.okWide Tryz.prog W .any base t v := hval0
  have hW' := hW
  obtain ⟨p, q, hA0, hV, rfl, hfz, hnd⟩ := hW
  have hA : DataW.TrodAll enc Tryz.prog W 0 (fun _ => true) true Tryz.f6.params.toList args.toList ds p := hA0
  rw [Tryz.params6] at hA hval
  obtain ⟨v0, vs0, d0, ds0, p0, q0, hargs, rfl, rfl, h0, r0⟩ := trodAll_cons hA
  obtain ⟨v1, vs1, d1, ds1, p1, q1, rfl, rfl, rfl, h1, r1⟩ := trodAll_cons r0
  obtain ⟨rfl, rfl, rfl⟩ := trodAll_nil r1
  obtain rfl : args = #[v0, v1] := by cases args; simp_all
  obtain ⟨rfl, rfl⟩ := trodVars_none hV
  letI : Glob := { row := fun _ => none }
  have k0 := h0
  have lt0 : ∀ x ∈ p0, x.block < W.heap.size := by obtain ⟨m, hm⟩ := k0; exact DataW.trod_lt m _ _ _ hm
  obtain ⟨x0, y0, s0⟩ := arg_open (P := Tryz.prog) (t := 29) (by kernel_rfl) (by kernel_rfl) (hval 0 29 v0 rfl rfl) h0
  have k1 := h1
  have lt1 : ∀ x ∈ p1, x.block < W.heap.size := by obtain ⟨m, hm⟩ := k1; exact DataW.trod_lt m _ _ _ hm
  obtain ⟨x1, y1, s1⟩ := arg_open (P := Tryz.prog) (t := 29) (by kernel_rfl) (by kernel_rfl) (hval 1 29 v1 rfl rfl) h1
  clear hA0 hval0
  refine (walk W ⟨fun g row h => (by cases h), fun g cs h => (by cases h)⟩ v0 x0 y0 s0 v1 x1 y1 s1).mono fun e W' ⟨he, bel⟩ => ?_
  subst he
  exact ⟨_, rfl, _, _, _, [], _, [], hW', trodAll_mk1 (shut_bool Tryz.underlying4 _), (trodAll_cons_mk (Below.trod laidK (by kernel_rfl) (of_decide_eq_true (by kernel_rfl)) k0 bel lt0) (trodAll_cons_mk (Below.trod laidK (by kernel_rfl) (of_decide_eq_true (by kernel_rfl)) k1 bel lt1) trodAll_mk0)), rfl, bel.frame _, fun h => by cases h⟩

theorem over : Rows.decisionEqualsRow.holds Tryz.pinned (OpenSpec.ofChange Rows.decisionEqualsSpec) :=
  OpenClaim.holds_of_wide 6 Tryz.f6 rfl rfl rfl rfl rfl rfl rfl ⟨rfl, rfl, rfl, rfl, rfl⟩ rfl rfl rfl rfl rfl (by kernel_rfl) Tryz.func6 (by kernel_rfl)
    (of_decide_eq_true (by kernel_rfl)) (by unfold Func.isWrapper; first | (rw [if_pos (by decide +kernel)]; kernel_rfl) | (rw [if_neg (by decide +kernel)]; exact ⟨rfl, rfl⟩))
    (fun os started H enc _ => lifted os started H enc)

theorem proved : Rows.DecisionEqualsSaid := over
end Go.Proofs.YthemglpccpjokaaGreat.lawDEqu
