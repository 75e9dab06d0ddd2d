/- Generalize returns the spans of the table's division (the law PrivacyTimes holds for every input; no condition). -/
import Derived.Test.YtkppfaennogcmaaRows
import Derived.Test.YtkppfaennogcmaaPrvB
import Derived.Test.YtkppfaennogcmaaPrvX
import Derived.Test.YtkppfaennogcmaaPrvY
import Derived.Test.YtkppfaennogcmaaPrvD
import Derived.Test.YtkppfaennogcmaaOpen
namespace Go.Proofs.Ytkppfaennogcmaa.lawPTimes
set_option linter.unusedSimpArgs false
set_option linter.unusedVariables false
set_option linter.unnecessarySimpa false
set_option linter.unusedSectionVars false
open Go.ChangeShapes Go.WideShapes Go.ChangeAt Go.RowKit Go.Joins Go.Deep
section
variable [Glob]
set_option maxRecDepth 100000
set_option maxHeartbeats 16000000 in
theorem main (l : List Int) (k : Int) : Pure Try.prog 4 [.rs (rowsOf intC l), .int .i64 k] (.bool true) := by
  by_cases h1 : (60 : Int) < l.length ∧ (l.length : Int) ≤ 300
  · obtain ⟨h1, h2⟩ := h1
    refine pure_of mixed Try.func4 rfl (by kernel_rfl) (of_decide_eq_true rfl) (by kernel_rfl) (vc_run ?_)
    ((try simp -implicitDefEqProofs [-loopQ_n, h1, h2]) <;> (repeat' (first | (refine condD_dec ?_ ?_ <;> (intro hc; (try simp -implicitDefEqProofs [-loopQ_n, hc, h1, h2]))) | (refine guardD_dec ?_ ?_ <;> (intro hc; (try simp -implicitDefEqProofs [-loopQ_n, hc, h1, h2]))) | (refine condD_intro ?_ ?_ <;> (intro hd; have hc := hd; (try simp at hc) <;> (try simp -implicitDefEqProofs [-loopQ_n, hd, hc, h1, h2]))) | (refine guardD_intro ?_ ?_ <;> (intro hd; have hc := hd; (try simp at hc) <;> (try simp -implicitDefEqProofs [-loopQ_n, hd, hc, h1, h2]))) | (refine ldD_ep ?_ ?_; (focus kernel_rfl); (try simp -implicitDefEqProofs [-loopQ_n, h1, h2])) | (refine callS_mk ?_; (try simp -implicitDefEqProofs [-loopQ_n, h1, h2]); (first | refine callS_intro (awake_pure) (.inl rfl) ?_); (try simp -implicitDefEqProofs [-loopQ_n, h1, h2])))))
  by_cases h2 : (400 : Int) < l.length
  · have h3 : (60 : Int) < l.length := by omega
    have h4 : ¬ (l.length : Int) ≤ 300 := by omega
    refine pure_of mixed Try.func4 rfl (by kernel_rfl) (of_decide_eq_true rfl) (by kernel_rfl) (vc_run ?_)
    ((try simp -implicitDefEqProofs [-loopQ_n, h2, h3, h4]) <;> (repeat' (first | (refine condD_dec ?_ ?_ <;> (intro hc; (try simp -implicitDefEqProofs [-loopQ_n, hc, h2, h3, h4]))) | (refine guardD_dec ?_ ?_ <;> (intro hc; (try simp -implicitDefEqProofs [-loopQ_n, hc, h2, h3, h4]))) | (refine condD_intro ?_ ?_ <;> (intro hd; have hc := hd; (try simp at hc) <;> (try simp -implicitDefEqProofs [-loopQ_n, hd, hc, h2, h3, h4]))) | (refine guardD_intro ?_ ?_ <;> (intro hd; have hc := hd; (try simp at hc) <;> (try simp -implicitDefEqProofs [-loopQ_n, hd, hc, h2, h3, h4]))) | (refine ldD_ep ?_ ?_; (focus kernel_rfl); (try simp -implicitDefEqProofs [-loopQ_n, h2, h3, h4])) | (refine callS_mk ?_; (try simp -implicitDefEqProofs [-loopQ_n, h2, h3, h4]); (first | refine callS_intro (awake_pure) (.inl rfl) ?_); (try simp -implicitDefEqProofs [-loopQ_n, h2, h3, h4])))))
  have hA := gen_pure l k (by omega)
  have hB := rgen_pure l k (by omega)
  have hL := @genR_len _ l k
  have hE := eqP_pure (genR l k).1 (genR l k).1 (by omega) (by omega)
  generalize genR l k = R at *
  simp only [genV] at hA hB
  by_cases h3 : (60 : Int) < l.length
  · have h4 : ¬ (l.length : Int) ≤ 300 := by omega
    refine pure_of mixed Try.func4 rfl (by kernel_rfl) (of_decide_eq_true rfl) (by kernel_rfl) (vc_run ?_)
    ((try simp -implicitDefEqProofs [-loopQ_n, h2, h3, h4]) <;> (repeat' (first | (refine condD_dec ?_ ?_ <;> (intro hc; (try simp -implicitDefEqProofs [-loopQ_n, hc, h2, h3, h4]))) | (refine guardD_dec ?_ ?_ <;> (intro hc; (try simp -implicitDefEqProofs [-loopQ_n, hc, h2, h3, h4]))) | (refine condD_intro ?_ ?_ <;> (intro hd; have hc := hd; (try simp at hc) <;> (try simp -implicitDefEqProofs [-loopQ_n, hd, hc, h2, h3, h4]))) | (refine guardD_intro ?_ ?_ <;> (intro hd; have hc := hd; (try simp at hc) <;> (try simp -implicitDefEqProofs [-loopQ_n, hd, hc, h2, h3, h4]))) | (refine ldD_ep ?_ ?_; (focus kernel_rfl); (try simp -implicitDefEqProofs [-loopQ_n, h2, h3, h4])) | (refine callS_mk ?_; (try simp -implicitDefEqProofs [-loopQ_n, h2, h3, h4]); (first | refine callS_intro (awake_pure) (.inl rfl) ?_ | refine callS_intro (hA) (.inr ⟨rfl, rfl⟩) ?_ | refine callS_intro (hB) (.inr ⟨rfl, rfl⟩) ?_ | refine callS_intro (hE) (.inl rfl) ?_); (try simp -implicitDefEqProofs [-loopQ_n, h2, h3, h4])))))
  · skip
    refine pure_of mixed Try.func4 rfl (by kernel_rfl) (of_decide_eq_true rfl) (by kernel_rfl) (vc_run ?_)
    ((try simp -implicitDefEqProofs [-loopQ_n, h2, h3]) <;> (repeat' (first | (refine condD_dec ?_ ?_ <;> (intro hc; (try simp -implicitDefEqProofs [-loopQ_n, hc, h2, h3]))) | (refine guardD_dec ?_ ?_ <;> (intro hc; (try simp -implicitDefEqProofs [-loopQ_n, hc, h2, h3]))) | (refine condD_intro ?_ ?_ <;> (intro hd; have hc := hd; (try simp at hc) <;> (try simp -implicitDefEqProofs [-loopQ_n, hd, hc, h2, h3]))) | (refine guardD_intro ?_ ?_ <;> (intro hd; have hc := hd; (try simp at hc) <;> (try simp -implicitDefEqProofs [-loopQ_n, hd, hc, h2, h3]))) | (refine ldD_ep ?_ ?_; (focus kernel_rfl); (try simp -implicitDefEqProofs [-loopQ_n, h2, h3])) | (refine callS_mk ?_; (try simp -implicitDefEqProofs [-loopQ_n, h2, h3]); (first | refine callS_intro (awake_pure) (.inl rfl) ?_ | refine callS_intro (hA) (.inr ⟨rfl, rfl⟩) ?_ | refine callS_intro (hB) (.inr ⟨rfl, rfl⟩) ?_ | refine callS_intro (hE) (.inl rfl) ?_); (try simp -implicitDefEqProofs [-loopQ_n, h2, h3])))))
theorem both (x0 : AV) (s0 : argS Try.prog 38 x0) (x1 : AV) (s1 : argS Try.prog 3 x1) : Pure Try.prog 4 [x0, x1] (.bool true) := by
  obtain ⟨l, rfl, _, _⟩ := arg_ints s0
  obtain ⟨k, rfl, _⟩ := arg_i64 s1
  exact main l k
theorem walk (W : World) (hvo : VarsOk W (fun _ => False)) (v0 : Value) (x0 : AV) (r0 : RO W (fun _ => False) x0 v0) (s0 : argS Try.prog 38 x0) (v1 : Value) (x1 : AV) (r1 : RO W (fun _ => False) x1 v1) (s1 : argS Try.prog 3 x1) :
    Calls Try.prog 4 #[v0, v1] W fun e w' => e = .returned (.bool true) ∧ Below W.heap.size W w' := by
  refine ((both x0 s0 x1 s1).2 W (fun _ => False) _ (fun _ h => h.elim) hvo rfl ?_).mono ?_
  · intro j x v hj hv
    match j with
    | 0 => simp at hj hv; subst hj hv; exact r0
    | 1 => simp at hj hv; subst hj hv; exact r1
    | j + 2 => simp at hj
  · rintro e w' ⟨v, rfl, hv, hb⟩
    rw [ro_tt hv]
    exact ⟨rfl, hb⟩
end
set_option maxRecDepth 100000 in
theorem lifted (os : Os) (started : os.Started) (H : Type) (enc : TypeId × Value → H) :
    ReturnsInHanded {} Try.checked os 4 .any (Rows.privacyTimesSpec.pre6 enc Try.prog Try.f4 Rows.privacyTimesRow.domain false) (Rows.privacyTimesSpec.post enc Try.prog Try.f4 false true false false) := by
  refine returnsInHanded_of_change (C := Try.checked) (@ownK ⟨fun _ => none⟩) started (by kernel_rfl) Try.func4
    (ChangeSpec.witness6 (enc := enc) (C := Try.checked) false ⟨#[], #[.slice none 0 0, .int .i64 0], []⟩ 8 (by kernel_rfl) (by kernel_rfl) (by kernel_rfl) (by kernel_rfl)) ?_
  intro W base args ds gs before hval0 hW hcnd _
  have hval : ∀ (j : Nat) t v, Try.f4.params[j]? = some t → args[j]? = some v → Value.okWide Try.prog W .any base t v := hval0
  have hW' := hW
  obtain ⟨p, q, hA0, hV, rfl, hfz, hnd⟩ := hW
  have hA : DataW.TrodAll enc Try.prog W 0 (fun _ => true) true Try.f4.params.toList args.toList ds p := hA0
  rw [Try.params4] at hA hval
  obtain ⟨v0, vs0, d0, ds0, p0, q0, hargs, rfl, rfl, h0, r0⟩ := trodAll_cons hA
  obtain ⟨v1, vs1, d1, ds1, p1, q1, rfl, rfl, rfl, h1, r1⟩ := trodAll_cons r0
  obtain ⟨rfl, rfl, rfl⟩ := trodAll_nil r1
  obtain rfl : args = #[v0, v1] := by cases args; simp_all
  obtain ⟨rfl, rfl⟩ := trodVars_none hV
  letI : Glob := ⟨fun _ => none⟩
  have k0 := h0
  have lt0 : ∀ x ∈ p0, x.block < W.heap.size := by obtain ⟨m, hm⟩ := k0; exact DataW.trod_lt m _ _ _ hm
  obtain ⟨x0, y0, s0⟩ := arg_open (P := Try.prog) (t := 38) (by kernel_rfl) (by kernel_rfl) (hval 0 38 v0 rfl rfl) h0
  have k1 := h1
  have lt1 : ∀ x ∈ p1, x.block < W.heap.size := by obtain ⟨m, hm⟩ := k1; exact DataW.trod_lt m _ _ _ hm
  obtain ⟨x1, y1, s1⟩ := arg_open (P := Try.prog) (t := 3) (by kernel_rfl) (by kernel_rfl) (hval 1 3 v1 rfl rfl) h1
  clear hA0 hval0
  refine (walk W (fun g row h => by cases h) v0 x0 y0 s0 v1 x1 y1 s1).mono fun e W' ⟨he, bel⟩ => ?_
  subst he
  exact ⟨_, rfl, _, _, _, [], _, [], hW', trodAll_mk1 (shut_bool Try.underlying4 _), (trodAll_cons_mk (Below.trod laidK (by kernel_rfl) (of_decide_eq_true (by kernel_rfl)) k0 bel lt0) (trodAll_cons_mk (Below.trod laidK (by kernel_rfl) (of_decide_eq_true (by kernel_rfl)) k1 bel lt1) trodAll_mk0)), rfl, bel.frame _, fun h => by cases h⟩

theorem over : Rows.privacyTimesRow.holds Try.pinned (OpenSpec.ofChange Rows.privacyTimesSpec) :=
  OpenClaim.holds_of_wide 4 Try.f4 rfl rfl rfl rfl rfl rfl rfl ⟨rfl, rfl, rfl, rfl, rfl⟩ rfl rfl rfl rfl rfl (by kernel_rfl) Try.func4 (by kernel_rfl)
    (of_decide_eq_true (by kernel_rfl)) (by unfold Func.isWrapper; first | (rw [if_pos (by decide +kernel)]; kernel_rfl) | (rw [if_neg (by decide +kernel)]; exact ⟨rfl, rfl⟩))
    (fun os started H enc _ => lifted os started H enc)

theorem proved : Rows.PrivacyTimesSaid := over
end Go.Proofs.Ytkppfaennogcmaa.lawPTimes
