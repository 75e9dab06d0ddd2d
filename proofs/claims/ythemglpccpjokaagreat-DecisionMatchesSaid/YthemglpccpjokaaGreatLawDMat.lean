/- Validity of decision tables, tests of values, and the rows that are hit are the reference's (the law DecisionMatches holds for every input; no condition). -/
import Derived.Test.YthemglpccpjokaaGreatRows
import Derived.Test.YthemglpccpjokaaGreatDwO
import Derived.Test.YthemglpccpjokaaGreatDwV
namespace Go.Proofs.YthemglpccpjokaaGreat.lawDMat
set_option linter.unusedSimpArgs false
set_option linter.unusedVariables false
set_option linter.unnecessarySimpa false
set_option linter.unusedSectionVars false
open Go.ChangeShapes Go.WideShapes Go.ChangeAt Go.RowKit Go.Joins Go.Deep
section
variable [Glob]
set_option maxRecDepth 100000
theorem match_form (x : Dom) (t : Tst) (v : Val) : ∃ (b : Bool) (e : Int), matchO x t v = .tup [.bool b, .int .i64 e] := by
  unfold matchO
  split
  · split
    · exact ⟨_, _, rfl⟩
    · exact ⟨_, _, rfl⟩
  · exact ⟨_, _, rfl⟩
set_option maxHeartbeats 16000000 in
theorem main (d : Dec) (v : List Val) (x : Dom) (t : Tst) (w : Val) (hb : BgD d) (hv : v.length ≤ 9223372036854775807) (hxl : x.items.length ≤ 9223372036854775807) (htl : t.items.length ≤ 9223372036854775807) : Pure Tryz.prog 7 [.agg (decC d), .rs (rowsOf valC v), .agg (domC x), .agg (tstC t), .agg (valC w)] (.bool true) := by
  have hf := few_pure d hb
  have hva := values_pure v hv
  have hwi := wide_pure x hxl
  have hte := test_pure t htl
  have haw := awake_pure
  simp only [decC] at hf
  simp only [domC] at hwi
  simp only [tstC, valC] at hte
  by_cases q : fewB d = true
  rotate_left
  · have q : fewB d = false := by simpa using q
    rw [q] at hf
    refine pure_of mixed Tryz.func7 rfl (by kernel_rfl) (of_decide_eq_true rfl) (by kernel_rfl) (vc_run ?_)
    ((try simp -implicitDefEqProofs [-loopQ_n, decC, domC, tstC, valC]) <;> (repeat' (first | ((first | refine condD_dec ?_ ?_ | refine guardD_dec ?_ ?_) <;> (intro hc; (try simp -implicitDefEqProofs [-loopQ_n, hc, decC, domC, tstC, valC]))) | (refine callS_mk ?_; (try simp -implicitDefEqProofs [-loopQ_n, decC, domC, tstC, valC]); (first | refine callS_intro (haw) (.inl rfl) ?_ | refine callS_intro (hf) (.inl rfl) ?_); (try simp -implicitDefEqProofs [-loopQ_n, decC, domC, tstC, valC])))))
  rw [q] at hf
  by_cases r : valuesB v = true
  rotate_left
  · have r : valuesB v = false := by simpa using r
    rw [r] at hva
    refine pure_of mixed Tryz.func7 rfl (by kernel_rfl) (of_decide_eq_true rfl) (by kernel_rfl) (vc_run ?_)
    ((try simp -implicitDefEqProofs [-loopQ_n, decC, domC, tstC, valC]) <;> (repeat' (first | ((first | refine condD_dec ?_ ?_ | refine guardD_dec ?_ ?_) <;> (intro hc; (try simp -implicitDefEqProofs [-loopQ_n, hc, decC, domC, tstC, valC]))) | (refine callS_mk ?_; (try simp -implicitDefEqProofs [-loopQ_n, decC, domC, tstC, valC]); (first | refine callS_intro (haw) (.inl rfl) ?_ | refine callS_intro (hf) (.inl rfl) ?_ | refine callS_intro (hva) (.inl rfl) ?_); (try simp -implicitDefEqProofs [-loopQ_n, decC, domC, tstC, valC])))))
  rw [r] at hva
  by_cases r2 : wideB x = true
  rotate_left
  · have r2 : wideB x = false := by simpa using r2
    rw [r2] at hwi
    refine pure_of mixed Tryz.func7 rfl (by kernel_rfl) (of_decide_eq_true rfl) (by kernel_rfl) (vc_run ?_)
    ((try simp -implicitDefEqProofs [-loopQ_n, decC, domC, tstC, valC]) <;> (repeat' (first | ((first | refine condD_dec ?_ ?_ | refine guardD_dec ?_ ?_) <;> (intro hc; (try simp -implicitDefEqProofs [-loopQ_n, hc, decC, domC, tstC, valC]))) | (refine callS_mk ?_; (try simp -implicitDefEqProofs [-loopQ_n, decC, domC, tstC, valC]); (first | refine callS_intro (haw) (.inl rfl) ?_ | refine callS_intro (hf) (.inl rfl) ?_ | refine callS_intro (hva) (.inl rfl) ?_ | refine callS_intro (hwi) (.inl rfl) ?_); (try simp -implicitDefEqProofs [-loopQ_n, decC, domC, tstC, valC])))))
  rw [r2] at hwi
  by_cases r3 : testB t = true
  rotate_left
  · have r3 : testB t = false := by simpa using r3
    rw [r3] at hte
    refine pure_of mixed Tryz.func7 rfl (by kernel_rfl) (of_decide_eq_true rfl) (by kernel_rfl) (vc_run ?_)
    ((try simp -implicitDefEqProofs [-loopQ_n, decC, domC, tstC, valC]) <;> (repeat' (first | ((first | refine condD_dec ?_ ?_ | refine guardD_dec ?_ ?_) <;> (intro hc; (try simp -implicitDefEqProofs [-loopQ_n, hc, decC, domC, tstC, valC]))) | (refine callS_mk ?_; (try simp -implicitDefEqProofs [-loopQ_n, decC, domC, tstC, valC]); (first | refine callS_intro (haw) (.inl rfl) ?_ | refine callS_intro (hf) (.inl rfl) ?_ | refine callS_intro (hva) (.inl rfl) ?_ | refine callS_intro (hwi) (.inl rfl) ?_ | refine callS_intro (hte) (.inl rfl) ?_); (try simp -implicitDefEqProofs [-loopQ_n, decC, domC, tstC, valC])))))
  rw [r3] at hte
  by_cases r4 : (w.s.size : Int) > 300
  · skip
    refine pure_of mixed Tryz.func7 rfl (by kernel_rfl) (of_decide_eq_true rfl) (by kernel_rfl) (vc_run ?_)
    ((try simp -implicitDefEqProofs [-loopQ_n, decC, domC, tstC, valC, r4]) <;> (repeat' (first | ((first | refine condD_dec ?_ ?_ | refine guardD_dec ?_ ?_) <;> (intro hc; (try simp -implicitDefEqProofs [-loopQ_n, hc, decC, domC, tstC, valC, r4]))) | (refine callS_mk ?_; (try simp -implicitDefEqProofs [-loopQ_n, decC, domC, tstC, valC, r4]); (first | refine callS_intro (haw) (.inl rfl) ?_ | refine callS_intro (hf) (.inl rfl) ?_ | refine callS_intro (hva) (.inl rfl) ?_ | refine callS_intro (hwi) (.inl rfl) ?_ | refine callS_intro (hte) (.inl rfl) ?_); (try simp -implicitDefEqProofs [-loopQ_n, decC, domC, tstC, valC, r4])))))
  have hl : v.length ≤ 1000000 := by simp only [valuesB, Bool.and_eq_true, decide_eq_true_eq] at r; omega
  have htl2 : t.items.length ≤ 1000000 := by simp only [testB, valuesB, Bool.and_eq_true, decide_eq_true_eq] at r3; omega
  have h1 := Hits_pure d v (few_sz q) hl
  have h2 := rHits_pure d v (few_sz q) hl
  have h3 := dvalid_pure d (few_sz q)
  have h4 := rvalid_pure d (few_sz q)
  have m1 := matches_pure x t w htl2
  have m2 := rmatches_pure x t w htl2
  obtain ⟨b, e, he⟩ := match_form x t w
  rw [he] at m1 m2
  have hn : (hitsO d v).length ≤ d.rows.length := by
    unfold hitsO
    split
    · rw [hits_len]; exact outs_le d v
    · simp
  have hrl := (few_sz q).2.2.1
  generalize hitsO d v = X at *
  generalize givenE d v = k at *
  generalize decV d = dv at *
  have h5 := ieq_pure X X (by omega) (by omega)
  rw [decide_eq_true rfl] at h5
  simp only [decC] at h1 h2 h3 h4
  simp only [domC, tstC, valC] at m1 m2
  refine pure_of mixed Tryz.func7 rfl (by kernel_rfl) (of_decide_eq_true rfl) (by kernel_rfl) (vc_run ?_)
  ((try simp -implicitDefEqProofs [-loopQ_n, decC, domC, tstC, valC, r4]) <;> (repeat' (first | ((first | refine condD_dec ?_ ?_ | refine guardD_dec ?_ ?_) <;> (intro hc; (try simp -implicitDefEqProofs [-loopQ_n, hc, decC, domC, tstC, valC, r4]))) | (refine callS_mk ?_; (try simp -implicitDefEqProofs [-loopQ_n, decC, domC, tstC, valC, r4]); (first | refine callS_intro (haw) (.inl rfl) ?_ | refine callS_intro (hf) (.inl rfl) ?_ | refine callS_intro (hva) (.inl rfl) ?_ | refine callS_intro (hwi) (.inl rfl) ?_ | refine callS_intro (hte) (.inl rfl) ?_ | refine callS_intro (m1) (.inl rfl) ?_ | refine callS_intro (m2) (.inl rfl) ?_ | refine callS_intro (h1) (.inr ⟨rfl, rfl⟩) ?_ | refine callS_intro (h2) (.inr ⟨rfl, rfl⟩) ?_ | refine callS_intro (h3) (.inl rfl) ?_ | refine callS_intro (h4) (.inl rfl) ?_ | refine callS_intro (h5) (.inl rfl) ?_); (try simp -implicitDefEqProofs [-loopQ_n, decC, domC, tstC, valC, r4])))))
theorem both (x0 : AV) (s0 : argS Tryz.prog 29 x0) (x1 : AV) (s1 : argS Tryz.prog 27 x1) (x2 : AV) (s2 : argS Tryz.prog 25 x2) (x3 : AV) (s3 : argS Tryz.prog 72 x3) (x4 : AV) (s4 : argS Tryz.prog 49 x4) : Pure Tryz.prog 7 [x0, x1, x2, x3, x4] (.bool true) := by
  obtain ⟨d, rfl, hb⟩ := ddec_dec s0
  obtain ⟨v, rfl, hv⟩ := avals_dec s1
  obtain ⟨x, rfl, hx⟩ := avar_dec s2
  obtain ⟨t, rfl, ht⟩ := atst_dec s3
  obtain ⟨w, rfl⟩ := aval_dec s4
  exact main d v x t w hb hv hx ht
theorem walk (W : World) (hvo : VarsOk W (fun _ => False)) (v0 : Value) (x0 : AV) (r0 : RO W (fun _ => False) x0 v0) (s0 : argS Tryz.prog 29 x0) (v1 : Value) (x1 : AV) (r1 : RO W (fun _ => False) x1 v1) (s1 : argS Tryz.prog 27 x1) (v2 : Value) (x2 : AV) (r2 : RO W (fun _ => False) x2 v2) (s2 : argS Tryz.prog 25 x2) (v3 : Value) (x3 : AV) (r3 : RO W (fun _ => False) x3 v3) (s3 : argS Tryz.prog 72 x3) (v4 : Value) (x4 : AV) (r4 : RO W (fun _ => False) x4 v4) (s4 : argS Tryz.prog 49 x4) :
    Calls Tryz.prog 7 #[v0, v1, v2, v3, v4] W fun e w' => e = .returned (.bool true) ∧ Below W.heap.size W w' := by
  refine ((both x0 s0 x1 s1 x2 s2 x3 s3 x4 s4).2 W (fun _ => False) _ (fun _ h => h.elim) hvo rfl ?_).mono ?_
  · intro j x v hj hv
    match j with
    | 0 => simp at hj hv; subst hj hv; exact r0
    | 1 => simp at hj hv; subst hj hv; exact r1
    | 2 => simp at hj hv; subst hj hv; exact r2
    | 3 => simp at hj hv; subst hj hv; exact r3
    | 4 => simp at hj hv; subst hj hv; exact r4
    | j + 5 => simp at hj
  · rintro e w' ⟨v, rfl, hv, hb⟩
    rw [ro_tt hv]
    exact ⟨rfl, hb⟩
end
set_option maxRecDepth 100000 in
theorem lifted (os : Os) (started : os.Started) (H : Type) (enc : TypeId × Value → H) :
    ReturnsInHanded {} Tryz.checked os 7 .any (Rows.decisionMatchesSpec.pre6 enc Tryz.prog Tryz.f7 Rows.decisionMatchesRow.domain false) (Rows.decisionMatchesSpec.post enc Tryz.prog Tryz.f7 false true false false) := by
  refine returnsInHanded_of_change (C := Tryz.checked) (@ownK { row := fun _ => none }) started (by kernel_rfl) Tryz.func7
    (ChangeSpec.witness6 (enc := enc) (C := Tryz.checked) false ⟨#[], #[.agg #[.slice none 0 0, .string ByteArray.empty, .int .i64 0, .int .i64 0, .int .i64 0, .slice none 0 0, .int .i64 0, .slice none 0 0, .slice none 0 0], .slice none 0 0, .agg #[.string ByteArray.empty, .int .i64 0, .int .i64 0, .int .i64 0, .slice none 0 0], .agg #[.int .i64 0, .int .i64 0, .int .i64 0, .string ByteArray.empty, .int .i64 0, .int .i64 0, .slice none 0 0], .agg #[.int .i64 0, .int .i64 0, .string ByteArray.empty]], []⟩ 8 (by kernel_rfl) (by kernel_rfl) (by kernel_rfl) (by kernel_rfl)) ?_
  intro W base args ds gs before hval0 hW hcnd _
  have hval : ∀ (j : Nat) t v, Tryz.f7.params[j]? = some t → args[j]? = some v → Value.okWide Tryz.prog W .any base t v := hval0
  have hW' := hW
  obtain ⟨p, q, hA0, hV, rfl, hfz, hnd⟩ := hW
  have hA : DataW.TrodAll enc Tryz.prog W 0 (fun _ => true) true Tryz.f7.params.toList args.toList ds p := hA0
  rw [Tryz.params7] at hA hval
  obtain ⟨v0, vs0, d0, ds0, p0, q0, hargs, rfl, rfl, h0, r0⟩ := trodAll_cons hA
  obtain ⟨v1, vs1, d1, ds1, p1, q1, rfl, rfl, rfl, h1, r1⟩ := trodAll_cons r0
  obtain ⟨v2, vs2, d2, ds2, p2, q2, rfl, rfl, rfl, h2, r2⟩ := trodAll_cons r1
  obtain ⟨v3, vs3, d3, ds3, p3, q3, rfl, rfl, rfl, h3, r3⟩ := trodAll_cons r2
  obtain ⟨v4, vs4, d4, ds4, p4, q4, rfl, rfl, rfl, h4, r4⟩ := trodAll_cons r3
  obtain ⟨rfl, rfl, rfl⟩ := trodAll_nil r4
  obtain rfl : args = #[v0, v1, v2, v3, v4] := by cases args; simp_all
  obtain ⟨rfl, rfl⟩ := trodVars_none hV
  letI : Glob := { row := fun _ => none }
  have k0 := h0
  have lt0 : ∀ x ∈ p0, x.block < W.heap.size := by obtain ⟨m, hm⟩ := k0; exact DataW.trod_lt m _ _ _ hm
  obtain ⟨x0, y0, s0⟩ := arg_open (P := Tryz.prog) (t := 29) (by kernel_rfl) (by kernel_rfl) (hval 0 29 v0 rfl rfl) h0
  have k1 := h1
  have lt1 : ∀ x ∈ p1, x.block < W.heap.size := by obtain ⟨m, hm⟩ := k1; exact DataW.trod_lt m _ _ _ hm
  obtain ⟨x1, y1, s1⟩ := arg_open (P := Tryz.prog) (t := 27) (by kernel_rfl) (by kernel_rfl) (hval 1 27 v1 rfl rfl) h1
  have k2 := h2
  have lt2 : ∀ x ∈ p2, x.block < W.heap.size := by obtain ⟨m, hm⟩ := k2; exact DataW.trod_lt m _ _ _ hm
  obtain ⟨x2, y2, s2⟩ := arg_open (P := Tryz.prog) (t := 25) (by kernel_rfl) (by kernel_rfl) (hval 2 25 v2 rfl rfl) h2
  have k3 := h3
  have lt3 : ∀ x ∈ p3, x.block < W.heap.size := by obtain ⟨m, hm⟩ := k3; exact DataW.trod_lt m _ _ _ hm
  obtain ⟨x3, y3, s3⟩ := arg_open (P := Tryz.prog) (t := 72) (by kernel_rfl) (by kernel_rfl) (hval 3 72 v3 rfl rfl) h3
  have k4 := h4
  have lt4 : ∀ x ∈ p4, x.block < W.heap.size := by obtain ⟨m, hm⟩ := k4; exact DataW.trod_lt m _ _ _ hm
  obtain ⟨x4, y4, s4⟩ := arg_open (P := Tryz.prog) (t := 49) (by kernel_rfl) (by kernel_rfl) (hval 4 49 v4 rfl rfl) h4
  clear hA0 hval0
  refine (walk W ⟨fun g row h => (by cases h), fun g cs h => (by cases h)⟩ v0 x0 y0 s0 v1 x1 y1 s1 v2 x2 y2 s2 v3 x3 y3 s3 v4 x4 y4 s4).mono fun e W' ⟨he, bel⟩ => ?_
  subst he
  exact ⟨_, rfl, _, _, _, [], _, [], hW', trodAll_mk1 (shut_bool Tryz.underlying4 _), (trodAll_cons_mk (Below.trod laidK (by kernel_rfl) (of_decide_eq_true (by kernel_rfl)) k0 bel lt0) (trodAll_cons_mk (Below.trod laidK (by kernel_rfl) (of_decide_eq_true (by kernel_rfl)) k1 bel lt1) (trodAll_cons_mk (Below.trod laidK (by kernel_rfl) (of_decide_eq_true (by kernel_rfl)) k2 bel lt2) (trodAll_cons_mk (Below.trod laidK (by kernel_rfl) (of_decide_eq_true (by kernel_rfl)) k3 bel lt3) (trodAll_cons_mk (Below.trod laidK (by kernel_rfl) (of_decide_eq_true (by kernel_rfl)) k4 bel lt4) trodAll_mk0))))), rfl, bel.frame _, fun h => by cases h⟩

theorem over : Rows.decisionMatchesRow.holds Tryz.pinned (OpenSpec.ofChange Rows.decisionMatchesSpec) :=
  OpenClaim.holds_of_wide 7 Tryz.f7 rfl rfl rfl rfl rfl rfl rfl ⟨rfl, rfl, rfl, rfl, rfl⟩ rfl rfl rfl rfl rfl (by kernel_rfl) Tryz.func7 (by kernel_rfl)
    (of_decide_eq_true (by kernel_rfl)) (by unfold Func.isWrapper; first | (rw [if_pos (by decide +kernel)]; kernel_rfl) | (rw [if_neg (by decide +kernel)]; exact ⟨rfl, rfl⟩))
    (fun os started H enc _ => lifted os started H enc)

theorem proved : Rows.DecisionMatchesSaid := over
end Go.Proofs.YthemglpccpjokaaGreat.lawDMat
