/- Valid, Total, and Make do what the reference does (the law TimingForms holds for every input; no condition). -/
import Derived.Test.YtibnaangfdohiaaRows
import Derived.Test.YtibnaangfdohiaaTimG
import Derived.Test.YtibnaangfdohiaaDec
namespace Go.Proofs.Ytibnaangfdohiaa.lawForms
open Go.ChangeShapes Go.WideShapes Go.ChangeAt Go.RowKit Go.Joins Go.Deep
set_option maxRecDepth 100000
def wfL (l : List Int) : Prop := ∀ x ∈ l, (Lit.int .i64 x).wf = true
theorem ints_shp {n : Nat} {rows : List (List AV)} (h : ∀ row ∈ rows, shp Try.prog (n + 1) 3 row) : ∃ l, rows = rowsOf intC l ∧ wfL l :=
  rows_dec rows fun row hr => shp_int Try.underlying3 (h row hr)
theorem ints_dec {x : AV} (h : argS Try.prog 22 x) : ∃ l, x = ints l ∧ wfL l := by
  obtain ⟨rows, h1, _, h2⟩ := arg_slice Try.underlying22 h
  obtain ⟨l, rfl, hw⟩ := ints_shp h2
  exact ⟨l, h1, hw⟩
theorem hist_dec {x : AV} (h : argS Try.prog 24 x) : ∃ e c, x = .agg [ints e, ints c] ∧ wfL e ∧ wfL c := by
  obtain ⟨l, rfl, hl, hf⟩ := arg_struct Try.underlying24 h
  have hc : Try.prog.cellsOf 24 = 2 := by kernel_rfl
  have hc1 : Try.prog.cellsOf 22 = 1 := by kernel_rfl
  rw [hc] at hl
  match l, hl with
  | [a, b], _ =>
    simp only [List.mem_cons, List.not_mem_nil, or_false, forall_eq_or_imp, forall_eq, hc1] at hf
    obtain ⟨r1, h1, _, k1⟩ := shp_slice Try.underlying22 hf.1
    obtain ⟨r2, h2, _, k2⟩ := shp_slice Try.underlying22 hf.2
    obtain ⟨e, rfl, he⟩ := ints_shp k1
    obtain ⟨c, rfl, hc⟩ := ints_shp k2
    simp at h1 h2
    exact ⟨e, c, by rw [h1, h2], he, hc⟩
theorem makeH_wf {e l : List Int} (he : e.length ≤ 25) (hw : wfL e) (hl : l.length ≤ 40) : okI (makeH e l).1 ∧ okI (makeH e l).2.1 := by
  have nil : okI [] := ⟨by simp, by simp⟩
  unfold makeH
  split
  · exact ⟨nil, nil⟩
  · split
    · exact ⟨nil, nil⟩
    · refine ⟨⟨by simp only; omega, hw⟩, ⟨by simp only [cntI_len]; omega, fun x hx => ?_⟩⟩
      have := cntI_bd e l x hx
      exact wf_of (by omega) (by omega)
set_option maxHeartbeats 8000000 in
theorem small {e c es l : List Int} (we : wfL e) (wc : wfL c) (wes : wfL es) (wl : wfL l) (h1 : e.length ≤ 25) (h2 : c.length ≤ 25) (h3 : es.length ≤ 25) (h4 : l.length ≤ 40) :
    Pure Try.prog 8 [.agg [ints e, ints c], ints es, ints l] (.bool true) := by
  have he : okI e := ⟨by omega, we⟩
  have hc : okI c := ⟨by omega, wc⟩
  have hes : okI es := ⟨by omega, wes⟩
  have m3 : ¬ (25 : Int) < es.length := by omega
  have m4 : ¬ (40 : Int) < l.length := by omega
  refine pure_of mixed Try.func8 rfl (by kernel_rfl) (of_decide_eq_true rfl) (by kernel_rfl) (vc_run ?_)
  simp -implicitDefEqProofs
  refine call_intro (awake_pure) (by simp -implicitDefEqProofs) (.inl rfl) ?_
  simp -implicitDefEqProofs
  refine call_intro (few_pure e c) (by simp -implicitDefEqProofs) (.inl rfl) ?_
  simp -implicitDefEqProofs [h1, h2, m3, m4]
  refine call_intro (rvalid_pure he hc) (by simp -implicitDefEqProofs) (.inl rfl) ?_
  simp -implicitDefEqProofs
  refine call_intro (ttotal_pure he hc) (by simp -implicitDefEqProofs) (.inl rfl) ?_
  simp -implicitDefEqProofs
  refine call_intro (tvalid_pure he hc) (by simp -implicitDefEqProofs) (.inl rfl) ?_
  have q0 := makeH_wf h3 wes h4
  by_cases v : validH e c = true
  · have t1 : totalR e c = (tot c, 0) := by rw [totalR, if_pos v]
    simp -implicitDefEqProofs [v, t1]
    refine call_intro (rtotal_pure he hc (validH_iff.1 v).small) (by simp -implicitDefEqProofs) (.inl rfl) ?_
    simp -implicitDefEqProofs
    refine call_intro (make_pure hes h4) (by simp -implicitDefEqProofs) (.inr ⟨rfl, rfl⟩) ?_
    simp -implicitDefEqProofs
    refine call_intro (rmake_pure hes h3 h4) (by simp -implicitDefEqProofs) (.inr ⟨rfl, rfl⟩) ?_
    simp -implicitDefEqProofs
    refine call_intro (rsame_pure q0.1 q0.2 q0.1 q0.2) (by simp -implicitDefEqProofs) (.inl rfl) ?_
    simp -implicitDefEqProofs
  · have v : validH e c = false := by simpa using v
    have t1 : totalR e c = (0, 1) := by rw [totalR, if_neg (by simp [v])]
    simp -implicitDefEqProofs [v, t1]
    refine call_intro (make_pure hes h4) (by simp -implicitDefEqProofs) (.inr ⟨rfl, rfl⟩) ?_
    simp -implicitDefEqProofs
    refine call_intro (rmake_pure hes h3 h4) (by simp -implicitDefEqProofs) (.inr ⟨rfl, rfl⟩) ?_
    simp -implicitDefEqProofs
    refine call_intro (rsame_pure q0.1 q0.2 q0.1 q0.2) (by simp -implicitDefEqProofs) (.inl rfl) ?_
    simp -implicitDefEqProofs
theorem large {e c es l : List Int} (h : ¬ (e.length ≤ 25 ∧ c.length ≤ 25 ∧ es.length ≤ 25 ∧ l.length ≤ 40)) :
    Pure Try.prog 8 [.agg [ints e, ints c], ints es, ints l] (.bool true) := by
  refine pure_of mixed Try.func8 rfl (by kernel_rfl) (of_decide_eq_true rfl) (by kernel_rfl) (vc_run ?_)
  simp -implicitDefEqProofs
  refine call_intro (awake_pure) (by simp -implicitDefEqProofs) (.inl rfl) ?_
  simp -implicitDefEqProofs
  refine call_intro (few_pure e c) (by simp -implicitDefEqProofs) (.inl rfl) ?_
  by_cases h1 : e.length ≤ 25
  · by_cases h2 : c.length ≤ 25
    · by_cases h3 : (25 : Int) < es.length
      · simp -implicitDefEqProofs [h1, h2, h3]
        refine call_intro (awake_pure) (by simp -implicitDefEqProofs) (.inl rfl) ?_
        simp -implicitDefEqProofs
      · have h4 : (40 : Int) < l.length := by omega
        simp -implicitDefEqProofs [h1, h2, h3, h4]
        refine call_intro (awake_pure) (by simp -implicitDefEqProofs) (.inl rfl) ?_
        simp -implicitDefEqProofs
    · simp -implicitDefEqProofs [h1, h2]
      refine call_intro (awake_pure) (by simp -implicitDefEqProofs) (.inl rfl) ?_
      simp -implicitDefEqProofs
  · simp -implicitDefEqProofs [h1]
    refine call_intro (awake_pure) (by simp -implicitDefEqProofs) (.inl rfl) ?_
    simp -implicitDefEqProofs
theorem both (x0 : AV) (s0 : argS Try.prog 24 x0) (x1 : AV) (s1 : argS Try.prog 22 x1) (x2 : AV) (s2 : argS Try.prog 22 x2) :
    Pure Try.prog 8 [x0, x1, x2] (.bool true) := by
  obtain ⟨e, c, rfl, we, wc⟩ := hist_dec s0
  obtain ⟨es, rfl, wes⟩ := ints_dec s1
  obtain ⟨l, rfl, wl⟩ := ints_dec s2
  by_cases h : e.length ≤ 25 ∧ c.length ≤ 25 ∧ es.length ≤ 25 ∧ l.length ≤ 40
  · exact small we wc wes wl h.1 h.2.1 h.2.2.1 h.2.2.2
  · exact large h
theorem walk (W : World) (v0 : Value) (x0 : AV) (r0 : RO W (fun _ => False) x0 v0) (s0 : argS Try.prog 24 x0) (v1 : Value) (x1 : AV) (r1 : RO W (fun _ => False) x1 v1) (s1 : argS Try.prog 22 x1) (v2 : Value) (x2 : AV) (r2 : RO W (fun _ => False) x2 v2) (s2 : argS Try.prog 22 x2) :
    Calls Try.prog 8 #[v0, v1, v2] W fun e w' => e = .returned (.bool true) ∧ Below W.heap.size W w' := by
  refine ((both x0 s0 x1 s1 x2 s2).2 W (fun _ => False) _ (fun _ h => h.elim) rfl ?_).mono ?_
  · intro j x v hj hv
    match j with
    | 0 => simp at hj hv; subst hj hv; exact r0
    | 1 => simp at hj hv; subst hj hv; exact r1
    | 2 => simp at hj hv; subst hj hv; exact r2
    | j + 3 => simp at hj
  · rintro e w' ⟨v, rfl, hv, hb⟩
    rw [ro_tt hv]
    exact ⟨rfl, hb⟩
set_option maxRecDepth 100000 in
theorem lifted (os : Os) (started : os.Started) (H : Type) (enc : TypeId × Value → H) :
    ReturnsInHanded {} Try.checked os 8 .any (Rows.timingFormsSpec.pre6 enc Try.prog Try.f8 Rows.timingFormsRow.domain false) (Rows.timingFormsSpec.post enc Try.prog Try.f8 false true false false) := by
  refine returnsInHanded_of_change (C := Try.checked) ownK started (by kernel_rfl) Try.func8
    (ChangeSpec.witness6 (enc := enc) (C := Try.checked) false ⟨#[], #[.agg #[.slice none 0 0, .slice none 0 0], .slice none 0 0, .slice none 0 0], []⟩ 8 (by kernel_rfl) (by kernel_rfl) (by kernel_rfl) (by kernel_rfl)) ?_
  intro W base args ds gs before hval0 hW hcnd _
  have hval : ∀ (j : Nat) t v, Try.f8.params[j]? = some t → args[j]? = some v → Value.okWide Try.prog W .any base t v := hval0
  have hW' := hW
  obtain ⟨p, q, hA0, hV, rfl, hfz, hnd⟩ := hW
  have hA : DataW.TrodAll enc Try.prog W 0 (fun _ => true) true Try.f8.params.toList args.toList ds p := hA0
  rw [Try.params8] at hA hval
  obtain ⟨v0, vs0, d0, ds0, p0, q0, hargs, rfl, rfl, h0, r0⟩ := trodAll_cons hA
  obtain ⟨v1, vs1, d1, ds1, p1, q1, rfl, rfl, rfl, h1, r1⟩ := trodAll_cons r0
  obtain ⟨v2, vs2, d2, ds2, p2, q2, rfl, rfl, rfl, h2, r2⟩ := trodAll_cons r1
  obtain ⟨rfl, rfl, rfl⟩ := trodAll_nil r2
  obtain rfl : args = #[v0, v1, v2] := by cases args; simp_all
  obtain ⟨rfl, rfl⟩ := trodVars_none hV
  have k0 := h0
  have lt0 : ∀ x ∈ p0, x.block < W.heap.size := by obtain ⟨m, hm⟩ := k0; exact DataW.trod_lt m _ _ _ hm
  obtain ⟨x0, y0, s0⟩ := arg_open (P := Try.prog) (t := 24) (by kernel_rfl) (by kernel_rfl) (hval 0 24 v0 rfl rfl) h0
  have k1 := h1
  have lt1 : ∀ x ∈ p1, x.block < W.heap.size := by obtain ⟨m, hm⟩ := k1; exact DataW.trod_lt m _ _ _ hm
  obtain ⟨x1, y1, s1⟩ := arg_open (P := Try.prog) (t := 22) (by kernel_rfl) (by kernel_rfl) (hval 1 22 v1 rfl rfl) h1
  have k2 := h2
  have lt2 : ∀ x ∈ p2, x.block < W.heap.size := by obtain ⟨m, hm⟩ := k2; exact DataW.trod_lt m _ _ _ hm
  obtain ⟨x2, y2, s2⟩ := arg_open (P := Try.prog) (t := 22) (by kernel_rfl) (by kernel_rfl) (hval 2 22 v2 rfl rfl) h2
  clear hA0 hval0
  refine (walk W v0 x0 y0 s0 v1 x1 y1 s1 v2 x2 y2 s2).mono fun e W' ⟨he, bel⟩ => ?_
  subst he
  exact ⟨_, rfl, _, _, _, [], _, [], hW', trodAll_mk1 (shut_bool Try.underlying4 _), (trodAll_cons_mk (Below.trod laidK (by kernel_rfl) (of_decide_eq_true (by kernel_rfl)) k0 bel lt0) (trodAll_cons_mk (Below.trod laidK (by kernel_rfl) (of_decide_eq_true (by kernel_rfl)) k1 bel lt1) (trodAll_cons_mk (Below.trod laidK (by kernel_rfl) (of_decide_eq_true (by kernel_rfl)) k2 bel lt2) trodAll_mk0))), rfl, bel.frame _, fun h => by cases h⟩

theorem over : Rows.timingFormsRow.holds Try.pinned (OpenSpec.ofChange Rows.timingFormsSpec) :=
  OpenClaim.holds_of_wide 8 Try.f8 rfl rfl rfl rfl rfl rfl rfl ⟨rfl, rfl, rfl, rfl, rfl⟩ rfl rfl rfl rfl rfl (by kernel_rfl) Try.func8 (by kernel_rfl)
    (of_decide_eq_true (by kernel_rfl)) (by unfold Func.isWrapper; first | (rw [if_pos (by decide +kernel)]; kernel_rfl) | (rw [if_neg (by decide +kernel)]; exact ⟨rfl, rfl⟩))
    (fun os started H enc _ => lifted os started H enc)

theorem proved : Rows.TimingFormsSaid := over
end Go.Proofs.Ytibnaangfdohiaa.lawForms
