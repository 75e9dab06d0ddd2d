/- Variants and Acts return the variants and activities of the reference (the law EventlogVariants holds for every input; no condition). -/
import Derived.Test.YtnldjmokemgaoaaGreatRows
import Derived.Test.YtnldjmokemgaoaaGreatElA
import Derived.Test.YtnldjmokemgaoaaGreatEl6
import Derived.Test.YtnldjmokemgaoaaGreatDecV
namespace Go.Proofs.YtnldjmokemgaoaaGreat.lawEVariants
set_option linter.unusedSimpArgs false
set_option linter.unusedVariables false
set_option linter.unnecessarySimpa false
set_option linter.unusedSectionVars false
open Go.ChangeShapes Go.WideShapes Go.ChangeAt Go.RowKit Go.Joins Go.Deep
section
variable [Glob]
set_option maxRecDepth 100000
open Classical in
noncomputable def sameW (a b : List Vr) : Bool := decide (a = b)
theorem sameW_self (a : List Vr) : sameW a a = true := by simp [sameW]
theorem few_spec {l : List Vr} (h : fewV l = true) : ∀ v ∈ l, ∀ s ∈ v.acts, s.size ≤ maxLen := fun v hv s hs => by
  simp only [fewV, Bool.and_eq_true, Bool.not_eq_true', List.any_eq_false] at h
  have h1 := h.2 v hv
  simp only [fewB, Bool.not_eq_true', Bool.not_eq_false, Bool.and_eq_true, List.any_eq_false] at h1
  have h2 := h1.2 s hs
  simp [bigS] at h2
  rw [maxLen_eq]; omega
theorem varL_bd {l : List Evt} (hl : l.length ≤ 2000) : (varL l).length ≤ 9223372036854775807 ∧ ∀ v ∈ varL l, v.acts.length ≤ 9223372036854775807 := by
  have key : ∀ (cs : List ByteArray) (acc : List Vr) (i : Nat), acc.length ≤ i → okV acc i → ((cs.map (wordL l)).foldl (fun acc w => addV w 1 acc) acc).length ≤ i + cs.length ∧ okV ((cs.map (wordL l)).foldl (fun acc w => addV w 1 acc) acc) (i + cs.length) := by
    intro cs
    induction cs with
    | nil => intro acc i h1 h2; exact ⟨h1, h2⟩
    | cons c cs ih =>
      intro acc i h1 h2
      have hw := word_len l c
      have := ih (addV (wordL l c) 1 acc) (i + 1) (by have := addV_len (wordL l c) 1 acc; omega) (okV_add h2 (by omega))
      simp only [List.map_cons, List.foldl_cons, List.length_cons]
      rw [show i + (cs.length + 1) = i + 1 + cs.length by omega]
      exact this
  have hc := cases_len (l := l) hl
  obtain ⟨h1, h2⟩ := key (casesL l) [] 0 (by simp) (fun v hv => by cases hv)
  exact ⟨by unfold varL; omega, fun v hv => by have := (h2 v hv).2.2; omega⟩
theorem varR_bd {l : List Evt} (hl : l.length ≤ 2000) : (varR l).1.length ≤ 9223372036854775807 ∧ ∀ v ∈ (varR l).1, v.acts.length ≤ 9223372036854775807 := by
  have := varL_bd hl
  unfold varR
  split
  · simp
  · split
    · simp
    · exact this
set_option maxHeartbeats 8000000 in
theorem both (x0 : AV) (s0 : argS Tryz.prog 24 x0) (x1 : AV) (s1 : argS Tryz.prog 25 x1) : Pure Tryz.prog 3 [x0, x1] (.bool true) := by
  obtain ⟨l, rfl, hl, hd⟩ := log_dec2 s0
  obtain ⟨v, rfl, lv, hv⟩ := vars_dec s1
  refine pure_of mixed Tryz.func3 rfl (by kernel_rfl) (of_decide_eq_true rfl) (by kernel_rfl) (vc_run ?_)
  by_cases hS : smallB l = true
  rotate_left
  · have hS : smallB l = false := by simpa using hS
    ((try simp -implicitDefEqProofs [-loopQ_n, hS]) <;> (repeat' (first | (refine condD_dec ?_ ?_ <;> (intro hc; (try simp -implicitDefEqProofs [-loopQ_n, hc, hS]))) | (refine guardD_dec ?_ ?_ <;> (intro hc; (try simp -implicitDefEqProofs [-loopQ_n, hc, hS]))) | (refine condD_intro ?_ ?_ <;> (intro hd; have hc := hd; (try simp at hc) <;> (try simp -implicitDefEqProofs [-loopQ_n, hd, hc, hS]))) | (refine guardD_intro ?_ ?_ <;> (intro hd; have hc := hd; (try simp at hc) <;> (try simp -implicitDefEqProofs [-loopQ_n, hd, hc, hS]))) | (refine ldD_ep ?_ ?_; (focus kernel_rfl); (try simp -implicitDefEqProofs [-loopQ_n, hS])) | (refine callS_mk ?_; (try simp -implicitDefEqProofs [-loopQ_n, hS]); (first | refine callS_intro (awake_pure) (.inl rfl) ?_ | refine callS_intro (small_pure _ hl hd) (.inl rfl) ?_); (try simp -implicitDefEqProofs [-loopQ_n, hS])))))
  by_cases hF : fewV v = true
  rotate_left
  · have hF : fewV v = false := by simpa using hF
    ((try simp -implicitDefEqProofs [-loopQ_n, hS, hF]) <;> (repeat' (first | (refine condD_dec ?_ ?_ <;> (intro hc; (try simp -implicitDefEqProofs [-loopQ_n, hc, hS, hF]))) | (refine guardD_dec ?_ ?_ <;> (intro hc; (try simp -implicitDefEqProofs [-loopQ_n, hc, hS, hF]))) | (refine condD_intro ?_ ?_ <;> (intro hd; have hc := hd; (try simp at hc) <;> (try simp -implicitDefEqProofs [-loopQ_n, hd, hc, hS, hF]))) | (refine guardD_intro ?_ ?_ <;> (intro hd; have hc := hd; (try simp at hc) <;> (try simp -implicitDefEqProofs [-loopQ_n, hd, hc, hS, hF]))) | (refine ldD_ep ?_ ?_; (focus kernel_rfl); (try simp -implicitDefEqProofs [-loopQ_n, hS, hF])) | (refine callS_mk ?_; (try simp -implicitDefEqProofs [-loopQ_n, hS, hF]); (first | refine callS_intro (awake_pure) (.inl rfl) ?_ | refine callS_intro (small_pure _ hl hd) (.inl rfl) ?_ | refine callS_intro (fewV_pure v lv hv) (.inl rfl) ?_); (try simp -implicitDefEqProofs [-loopQ_n, hS, hF])))))
  obtain ⟨hl40, hpl⟩ := small_spec hS
  have hsz : ∀ e ∈ l, e.case_.size ≤ maxLen := fun e he => by have := plain_case (hpl e he); rw [maxLen_eq]; omega
  have h1 : Pure Tryz.prog 8 [.agg [.rs (rowsOf evtC l)]] (varO (if logV l = true then varR l else ([], 1))) := by
    by_cases hV : logV l = true
    · rw [if_pos hV]; exact variants_pure l (by omega) hsz hV
    · rw [if_neg hV]; exact variants_bad l (by simpa using hV)
  have h2 := rvariants_pure l (by omega)
  have h3 := eacts_pure v hv (few_spec hF)
  have h4 := racts_pure v hv
  have hb : (if logV l = true then varR l else ([], 1)).1.length ≤ 9223372036854775807 ∧ ∀ u ∈ (if logV l = true then varR l else (([], 1) : List Vr × Int)).1, u.acts.length ≤ 9223372036854775807 := by
    split
    · exact varR_bd (by omega)
    · simp
  generalize (if logV l = true then varR l else (([], 1) : List Vr × Int)) = r at h1 h2 hb
  obtain ⟨R, e⟩ := r
  obtain ⟨A, a, hA, hAl⟩ : ∃ A a, actO v = .tup [.rs (rowsOf strC A), .int .i64 a] ∧ A.length ≤ 9223372036854775807 := by
    unfold actO
    split
    · split
      · exact ⟨[], 5, rfl, by simp⟩
      · rename_i h40
        exact ⟨_, 0, rfl, by omega⟩
    · exact ⟨[], 1, rfl, by simp⟩
  rw [hA] at h3 h4
  simp only [varO] at h1 h2
  have h5 : Pure Tryz.prog 12 [.rs (rowsOf vrC R), .rs (rowsOf vrC R)] (.bool (sameW R R)) := rsamev_pure R R hb.1 hb.1 hb.2 hb.2
  rw [sameW_self] at h5
  have h6 := eqS_pure A A hAl hAl
  rw [decide_eq_true rfl] at h6
  ((try simp -implicitDefEqProofs [-loopQ_n, hS, hF]) <;> (repeat' (first | (refine condD_dec ?_ ?_ <;> (intro hc; (try simp -implicitDefEqProofs [-loopQ_n, hc, hS, hF]))) | (refine guardD_dec ?_ ?_ <;> (intro hc; (try simp -implicitDefEqProofs [-loopQ_n, hc, hS, hF]))) | (refine condD_intro ?_ ?_ <;> (intro hd; have hc := hd; (try simp at hc) <;> (try simp -implicitDefEqProofs [-loopQ_n, hd, hc, hS, hF]))) | (refine guardD_intro ?_ ?_ <;> (intro hd; have hc := hd; (try simp at hc) <;> (try simp -implicitDefEqProofs [-loopQ_n, hd, hc, hS, hF]))) | (refine ldD_ep ?_ ?_; (focus kernel_rfl); (try simp -implicitDefEqProofs [-loopQ_n, hS, hF])) | (refine callS_mk ?_; (try simp -implicitDefEqProofs [-loopQ_n, hS, hF]); (first | refine callS_intro (awake_pure) (.inl rfl) ?_ | refine callS_intro (small_pure _ hl hd) (.inl rfl) ?_ | refine callS_intro (fewV_pure v lv hv) (.inl rfl) ?_ | refine callS_intro (h1) (.inr ⟨rfl, rfl⟩) ?_ | refine callS_intro (h2) (.inr ⟨rfl, rfl⟩) ?_ | refine callS_intro (h3) (.inr ⟨rfl, rfl⟩) ?_ | refine callS_intro (h4) (.inr ⟨rfl, rfl⟩) ?_ | refine callS_intro (h5) (.inl rfl) ?_ | refine callS_intro (h6) (.inl rfl) ?_); (try simp -implicitDefEqProofs [-loopQ_n, hS, hF])))))
theorem walk (W : World) (hvo : VarsOk W (fun _ => False)) (v0 : Value) (x0 : AV) (r0 : RO W (fun _ => False) x0 v0) (s0 : argS Tryz.prog 24 x0) (v1 : Value) (x1 : AV) (r1 : RO W (fun _ => False) x1 v1) (s1 : argS Tryz.prog 25 x1) :
    Calls Tryz.prog 3 #[v0, v1] W fun e w' => e = .returned (.bool true) ∧ Below W.heap.size W w' := by
  refine ((both x0 s0 x1 s1).2 W (fun _ => False) _ (fun _ h => h.elim) hvo rfl ?_).mono ?_
  · intro j x v hj hv
    match j with
    | 0 => simp at hj hv; subst hj hv; exact r0
    | 1 => simp at hj hv; subst hj hv; exact r1
    | j + 2 => simp at hj
  · rintro e w' ⟨v, rfl, hv, hb⟩
    rw [ro_tt hv]
    exact ⟨rfl, hb⟩
end
set_option maxRecDepth 100000 in
theorem lifted (os : Os) (started : os.Started) (H : Type) (enc : TypeId × Value → H) :
    ReturnsInHanded {} Tryz.checked os 3 .any (Rows.eventlogVariantsSpec.pre6 enc Tryz.prog Tryz.f3 Rows.eventlogVariantsRow.domain false) (Rows.eventlogVariantsSpec.post enc Tryz.prog Tryz.f3 false true false false) := by
  refine returnsInHanded_of_change (C := Tryz.checked) (@ownK ⟨fun _ => none⟩) started (by kernel_rfl) Tryz.func3
    (ChangeSpec.witness6 (enc := enc) (C := Tryz.checked) false ⟨#[], #[.agg #[.slice none 0 0], .slice none 0 0], []⟩ 8 (by kernel_rfl) (by kernel_rfl) (by kernel_rfl) (by kernel_rfl)) ?_
  intro W base args ds gs before hval0 hW hcnd _
  have hval : ∀ (j : Nat) t v, Tryz.f3.params[j]? = some t → args[j]? = some v → Value.okWide Tryz.prog W .any base t v := hval0
  have hW' := hW
  obtain ⟨p, q, hA0, hV, rfl, hfz, hnd⟩ := hW
  have hA : DataW.TrodAll enc Tryz.prog W 0 (fun _ => true) true Tryz.f3.params.toList args.toList ds p := hA0
  rw [Tryz.params3] at hA hval
  obtain ⟨v0, vs0, d0, ds0, p0, q0, hargs, rfl, rfl, h0, r0⟩ := trodAll_cons hA
  obtain ⟨v1, vs1, d1, ds1, p1, q1, rfl, rfl, rfl, h1, r1⟩ := trodAll_cons r0
  obtain ⟨rfl, rfl, rfl⟩ := trodAll_nil r1
  obtain rfl : args = #[v0, v1] := by cases args; simp_all
  obtain ⟨rfl, rfl⟩ := trodVars_none hV
  letI : Glob := ⟨fun _ => none⟩
  have k0 := h0
  have lt0 : ∀ x ∈ p0, x.block < W.heap.size := by obtain ⟨m, hm⟩ := k0; exact DataW.trod_lt m _ _ _ hm
  obtain ⟨x0, y0, s0⟩ := arg_open (P := Tryz.prog) (t := 24) (by kernel_rfl) (by kernel_rfl) (hval 0 24 v0 rfl rfl) h0
  have k1 := h1
  have lt1 : ∀ x ∈ p1, x.block < W.heap.size := by obtain ⟨m, hm⟩ := k1; exact DataW.trod_lt m _ _ _ hm
  obtain ⟨x1, y1, s1⟩ := arg_open (P := Tryz.prog) (t := 25) (by kernel_rfl) (by kernel_rfl) (hval 1 25 v1 rfl rfl) h1
  clear hA0 hval0
  refine (walk W (fun g row h => by cases h) v0 x0 y0 s0 v1 x1 y1 s1).mono fun e W' ⟨he, bel⟩ => ?_
  subst he
  exact ⟨_, rfl, _, _, _, [], _, [], hW', trodAll_mk1 (shut_bool Tryz.underlying4 _), (trodAll_cons_mk (Below.trod laidK (by kernel_rfl) (of_decide_eq_true (by kernel_rfl)) k0 bel lt0) (trodAll_cons_mk (Below.trod laidK (by kernel_rfl) (of_decide_eq_true (by kernel_rfl)) k1 bel lt1) trodAll_mk0)), rfl, bel.frame _, fun h => by cases h⟩

theorem over : Rows.eventlogVariantsRow.holds Tryz.pinned (OpenSpec.ofChange Rows.eventlogVariantsSpec) :=
  OpenClaim.holds_of_wide 3 Tryz.f3 rfl rfl rfl rfl rfl rfl rfl ⟨rfl, rfl, rfl, rfl, rfl⟩ rfl rfl rfl rfl rfl (by kernel_rfl) Tryz.func3 (by kernel_rfl)
    (of_decide_eq_true (by kernel_rfl)) (by unfold Func.isWrapper; first | (rw [if_pos (by decide +kernel)]; kernel_rfl) | (rw [if_neg (by decide +kernel)]; exact ⟨rfl, rfl⟩))
    (fun os started H enc _ => lifted os started H enc)

theorem proved : Rows.EventlogVariantsSaid := over
end Go.Proofs.YtnldjmokemgaoaaGreat.lawEVariants
