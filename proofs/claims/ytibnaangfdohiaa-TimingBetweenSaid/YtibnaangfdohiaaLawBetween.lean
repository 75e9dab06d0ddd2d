/- Between returns the times of the reference (the law TimingBetween holds for every input; no condition). -/
import Derived.Test.YtibnaangfdohiaaRows
import Derived.Test.YtibnaangfdohiaaTimM
import Derived.Test.YtibnaangfdohiaaBtwR
import Derived.Test.YtibnaangfdohiaaDecL
namespace Go.Proofs.Ytibnaangfdohiaa.lawBetween
open Go.ChangeShapes Go.WideShapes Go.ChangeAt Go.RowKit Go.Joins Go.Deep
set_option maxRecDepth 100000
theorem betw_bd {l : List Evt} (a b : ByteArray) (hv : logV l = true) : ∀ k, ∀ t ∈ betw l a b k, -1099511627776 ≤ t ∧ t ≤ 1099511627776 := by
  intro k
  induction k with
  | zero => simp [betw]
  | succ k ih =>
    intro t ht
    rw [betw_succ, List.mem_append] at ht
    rcases ht with ht | ht
    · exact ih t ht
    · unfold stepB at ht
      split at ht
      · simp at ht
      · rename_i e he
        obtain ⟨hk, hke⟩ := List.getElem?_eq_some_iff.1 he
        have h1 := log_time hv hk
        rw [hke] at h1
        split at ht
        · split at ht
          · rename_i x hx
            have hm := List.mem_of_find?_eq_some hx
            have hm := List.mem_of_mem_drop hm
            obtain ⟨j, hj, rfl⟩ := List.getElem_of_mem hm
            have h2 := log_time hv hj
            simp at ht
            omega
          · simp at ht
        · simp at ht
theorem betw_ok {l : List Evt} (a b : ByteArray) (hv : logV l = true) : okI (betw l a b l.length) :=
  ⟨by have := betw_len l a b l.length; have := log_len hv; omega, fun t ht => by have := betw_bd a b hv _ t ht; exact wf_of (by omega) (by omega)⟩
set_option maxHeartbeats 8000000 in
theorem body (l : List Evt) (a b : ByteArray) (hl : l.length ≤ 9223372036854775807) (hd : ∀ e ∈ l, e.data.length ≤ 9223372036854775807) :
    Pure Try.prog 9 [.agg [.rs (rowsOf evtC l)], .str a, .str b] (.bool true) := by
  refine pure_of mixed Try.func9 rfl (by kernel_rfl) (of_decide_eq_true rfl) (by kernel_rfl) (vc_run ?_)
  simp -implicitDefEqProofs
  refine call_intro (awake_pure) (by simp -implicitDefEqProofs) (.inl rfl) ?_
  simp -implicitDefEqProofs
  refine call_intro (small_pure l hl hd) (by simp -implicitDefEqProofs) (.inl rfl) ?_
  by_cases g1 : smallL l = true
  rotate_left
  · have g1 : smallL l = false := by simpa using g1
    simp -implicitDefEqProofs [g1]
    refine call_intro (awake_pure) (by simp -implicitDefEqProofs) (.inl rfl) ?_
    simp -implicitDefEqProofs
  by_cases g2 : (60 : Int) < a.size
  · simp -implicitDefEqProofs [g1, g2]
    refine call_intro (awake_pure) (by simp -implicitDefEqProofs) (.inl rfl) ?_
    simp -implicitDefEqProofs
  by_cases g3 : (60 : Int) < b.size
  · simp -implicitDefEqProofs [g1, g2, g3]
    refine call_intro (awake_pure) (by simp -implicitDefEqProofs) (.inl rfl) ?_
    simp -implicitDefEqProofs
  simp -implicitDefEqProofs [g1, g2, g3]
  refine call_intro (between_pure l a b) (by simp -implicitDefEqProofs) (.inr ⟨rfl, rfl⟩) ?_
  simp -implicitDefEqProofs
  refine call_intro (rlog_pure l) (by simp -implicitDefEqProofs) (.inl rfl) ?_
  by_cases h1 : logV l = true
  rotate_left
  · have h1 : logV l = false := by simpa using h1
    simp -implicitDefEqProofs [h1]
  simp -implicitDefEqProofs [h1]
  refine call_intro (risName_pure a) (by simp -implicitDefEqProofs) (.inl rfl) ?_
  by_cases h2 : isNameS a = true
  rotate_left
  · have h2 : isNameS a = false := by simpa using h2
    simp -implicitDefEqProofs [h2]
  simp -implicitDefEqProofs [h2]
  refine call_intro (risName_pure b) (by simp -implicitDefEqProofs) (.inl rfl) ?_
  by_cases h3 : isNameS b = true
  rotate_left
  · have h3 : isNameS b = false := by simpa using h3
    simp -implicitDefEqProofs [h3]
  simp -implicitDefEqProofs [h3]
  refine call_intro (rbetween_pure l a b h1) (by simp -implicitDefEqProofs) (.inr ⟨rfl, rfl⟩) ?_
  simp -implicitDefEqProofs
  refine call_intro (equal_pure (betw_ok a b h1) (betw_ok a b h1)) (by simp -implicitDefEqProofs) (.inl rfl) ?_
  simp -implicitDefEqProofs
theorem both (x0 : AV) (s0 : argS Try.prog 65 x0) (x1 : AV) (s1 : argS Try.prog 9 x1) (x2 : AV) (s2 : argS Try.prog 9 x2) :
    Pure Try.prog 9 [x0, x1, x2] (.bool true) := by
  obtain ⟨l, rfl, hl, hd⟩ := log_dec s0
  obtain ⟨a, rfl, _⟩ := arg_str Try.underlying9 s1
  obtain ⟨b, rfl, _⟩ := arg_str Try.underlying9 s2
  rw [maxLen_eq] at hl
  exact body l a b hl fun e he => by have := hd e he; rw [maxLen_eq] at this; exact this
theorem walk (W : World) (v0 : Value) (x0 : AV) (r0 : RO W (fun _ => False) x0 v0) (s0 : argS Try.prog 65 x0) (v1 : Value) (x1 : AV) (r1 : RO W (fun _ => False) x1 v1) (s1 : argS Try.prog 9 x1) (v2 : Value) (x2 : AV) (r2 : RO W (fun _ => False) x2 v2) (s2 : argS Try.prog 9 x2) :
    Calls Try.prog 9 #[v0, v1, v2] W fun e w' => e = .returned (.bool true) ∧ Below W.heap.size W w' := by
  refine ((both x0 s0 x1 s1 x2 s2).2 W (fun _ => False) _ (fun _ h => h.elim) rfl ?_).mono ?_
  · intro j x v hj hv
    match j with
    | 0 => simp at hj hv; subst hj hv; exact r0
    | 1 => simp at hj hv; subst hj hv; exact r1
    | 2 => simp at hj hv; subst hj hv; exact r2
    | j + 3 => simp at hj
  · rintro e w' ⟨v, rfl, hv, hb⟩
    rw [ro_tt hv]
    exact ⟨rfl, hb⟩
set_option maxRecDepth 100000 in
theorem lifted (os : Os) (started : os.Started) (H : Type) (enc : TypeId × Value → H) :
    ReturnsInHanded {} Try.checked os 9 .any (Rows.timingBetweenSpec.pre6 enc Try.prog Try.f9 Rows.timingBetweenRow.domain false) (Rows.timingBetweenSpec.post enc Try.prog Try.f9 false true false false) := by
  refine returnsInHanded_of_change (C := Try.checked) ownK started (by kernel_rfl) Try.func9
    (ChangeSpec.witness6 (enc := enc) (C := Try.checked) false ⟨#[], #[.agg #[.slice none 0 0], .string ByteArray.empty, .string ByteArray.empty], []⟩ 8 (by kernel_rfl) (by kernel_rfl) (by kernel_rfl) (by kernel_rfl)) ?_
  intro W base args ds gs before hval0 hW hcnd _
  have hval : ∀ (j : Nat) t v, Try.f9.params[j]? = some t → args[j]? = some v → Value.okWide Try.prog W .any base t v := hval0
  have hW' := hW
  obtain ⟨p, q, hA0, hV, rfl, hfz, hnd⟩ := hW
  have hA : DataW.TrodAll enc Try.prog W 0 (fun _ => true) true Try.f9.params.toList args.toList ds p := hA0
  rw [Try.params9] at hA hval
  obtain ⟨v0, vs0, d0, ds0, p0, q0, hargs, rfl, rfl, h0, r0⟩ := trodAll_cons hA
  obtain ⟨v1, vs1, d1, ds1, p1, q1, rfl, rfl, rfl, h1, r1⟩ := trodAll_cons r0
  obtain ⟨v2, vs2, d2, ds2, p2, q2, rfl, rfl, rfl, h2, r2⟩ := trodAll_cons r1
  obtain ⟨rfl, rfl, rfl⟩ := trodAll_nil r2
  obtain rfl : args = #[v0, v1, v2] := by cases args; simp_all
  obtain ⟨rfl, rfl⟩ := trodVars_none hV
  have k0 := h0
  have lt0 : ∀ x ∈ p0, x.block < W.heap.size := by obtain ⟨m, hm⟩ := k0; exact DataW.trod_lt m _ _ _ hm
  obtain ⟨x0, y0, s0⟩ := arg_open (P := Try.prog) (t := 65) (by kernel_rfl) (by kernel_rfl) (hval 0 65 v0 rfl rfl) h0
  have k1 := h1
  have lt1 : ∀ x ∈ p1, x.block < W.heap.size := by obtain ⟨m, hm⟩ := k1; exact DataW.trod_lt m _ _ _ hm
  obtain ⟨x1, y1, s1⟩ := arg_open (P := Try.prog) (t := 9) (by kernel_rfl) (by kernel_rfl) (hval 1 9 v1 rfl rfl) h1
  have k2 := h2
  have lt2 : ∀ x ∈ p2, x.block < W.heap.size := by obtain ⟨m, hm⟩ := k2; exact DataW.trod_lt m _ _ _ hm
  obtain ⟨x2, y2, s2⟩ := arg_open (P := Try.prog) (t := 9) (by kernel_rfl) (by kernel_rfl) (hval 2 9 v2 rfl rfl) h2
  clear hA0 hval0
  refine (walk W v0 x0 y0 s0 v1 x1 y1 s1 v2 x2 y2 s2).mono fun e W' ⟨he, bel⟩ => ?_
  subst he
  exact ⟨_, rfl, _, _, _, [], _, [], hW', trodAll_mk1 (shut_bool Try.underlying4 _), (trodAll_cons_mk (Below.trod laidK (by kernel_rfl) (of_decide_eq_true (by kernel_rfl)) k0 bel lt0) (trodAll_cons_mk (Below.trod laidK (by kernel_rfl) (of_decide_eq_true (by kernel_rfl)) k1 bel lt1) (trodAll_cons_mk (Below.trod laidK (by kernel_rfl) (of_decide_eq_true (by kernel_rfl)) k2 bel lt2) trodAll_mk0))), rfl, bel.frame _, fun h => by cases h⟩

theorem over : Rows.timingBetweenRow.holds Try.pinned (OpenSpec.ofChange Rows.timingBetweenSpec) :=
  OpenClaim.holds_of_wide 9 Try.f9 rfl rfl rfl rfl rfl rfl rfl ⟨rfl, rfl, rfl, rfl, rfl⟩ rfl rfl rfl rfl rfl (by kernel_rfl) Try.func9 (by kernel_rfl)
    (of_decide_eq_true (by kernel_rfl)) (by unfold Func.isWrapper; first | (rw [if_pos (by decide +kernel)]; kernel_rfl) | (rw [if_neg (by decide +kernel)]; exact ⟨rfl, rfl⟩))
    (fun os started H enc _ => lifted os started H enc)

theorem proved : Rows.TimingBetweenSaid := over
end Go.Proofs.Ytibnaangfdohiaa.lawBetween
