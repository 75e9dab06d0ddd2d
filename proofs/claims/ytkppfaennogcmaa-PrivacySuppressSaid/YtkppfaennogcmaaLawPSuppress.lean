/- Suppress and Loss return what is specified (the law PrivacySuppress holds for every input; no condition). -/
import Derived.Test.YtkppfaennogcmaaRows
import Derived.Test.YtkppfaennogcmaaPrvB
import Derived.Test.YtkppfaennogcmaaPrvO
import Derived.Test.YtkppfaennogcmaaPrvP
import Derived.Test.YtkppfaennogcmaaPrwG
import Derived.Test.YtkppfaennogcmaaOpen
namespace Go.Proofs.Ytkppfaennogcmaa.lawPSuppress
set_option linter.unusedSimpArgs false
set_option linter.unusedVariables false
set_option linter.unnecessarySimpa false
set_option linter.unusedSectionVars false
open Go.ChangeShapes Go.WideShapes Go.ChangeAt Go.RowKit Go.Joins Go.Deep
section
variable [Glob]
set_option maxRecDepth 100000
theorem rsup_bad (l : List Wd) (k : Int) (hl : l.length ≤ 300) (hw : ∀ v ∈ l, wdI v) (v1 : validW l = false) : Pure Try.prog 16 [.rs (rowsOf wdC l), .int .i64 k] (supV (supR l k)) := by
  have h1 := rplain_pure l hl
  have h2 := rvalid_pure l hl hw
  have hR : supR l k = ([], 1) := by unfold supR; rw [if_pos v1]
  rw [hR]
  rw [v1] at h2
  refine pure_of mixed Try.func16 rfl (by kernel_rfl) (of_decide_eq_true rfl) (by kernel_rfl) (vc_run ?_)
  ((try simp -implicitDefEqProofs [-loopQ_n, supV, rowsOf]) <;> (repeat' (first | (refine condD_dec ?_ ?_ <;> (intro hc; (try simp -implicitDefEqProofs [-loopQ_n, hc, supV, rowsOf]))) | (refine guardD_dec ?_ ?_ <;> (intro hc; (try simp -implicitDefEqProofs [-loopQ_n, hc, supV, rowsOf]))) | (refine condD_intro ?_ ?_ <;> (intro hd; have hc := hd; (try simp at hc) <;> (try simp -implicitDefEqProofs [-loopQ_n, hd, hc, supV, rowsOf]))) | (refine guardD_intro ?_ ?_ <;> (intro hd; have hc := hd; (try simp at hc) <;> (try simp -implicitDefEqProofs [-loopQ_n, hd, hc, supV, rowsOf]))) | (refine ldD_ep ?_ ?_; (focus kernel_rfl); (try simp -implicitDefEqProofs [-loopQ_n, supV, rowsOf])) | (refine callS_mk ?_; (try simp -implicitDefEqProofs [-loopQ_n, supV, rowsOf]); (first | refine callS_intro (h1) (.inr ⟨rfl, rfl⟩) ?_ | refine callS_intro (h2) (.inl rfl) ?_); (try simp -implicitDefEqProofs [-loopQ_n, supV, rowsOf])))))
theorem out_ok {l : List Wd} {k : Int} (hl : l.length ≤ 300) (v1 : validW l = true) : (∀ v ∈ supN k 201 l [], wdI v) ∧ (supN k 201 l []).length ≤ 300 := by
  have gL := validW_good v1
  have lL : lnW l := fun v hv => ⟨(gL v hv).2.1, (gL v hv).1⟩
  obtain ⟨h1, h2, h3⟩ := supN_ok (k := k) 201 l [] lL (by simp [lnW])
  have h4 := strI_supN (k := k) (Q := fun s => s.size ≤ 1000) 201 l [] (fun v hv s hs => wdG_size (gL v hv) s hs) (by simp [strI])
  have h5 := sumN_le l gL
  simp only [sumN, List.length_nil] at h2 h3
  refine ⟨fun v hv => ?_, by omega⟩
  have h6 := h1 v hv
  have h7 := (sumN_nn _ h1).2 v hv
  refine ⟨?_, by omega, fun s hs => by have := h4 v hv s hs; omega⟩
  unfold inI
  omega
theorem rsup_all (l : List Wd) (k : Int) (hl : l.length ≤ 300) (hw : ∀ v ∈ l, wdI v) : Pure Try.prog 16 [.rs (rowsOf wdC l), .int .i64 k] (supV (supR l k)) := by
  cases v1 : validW l with
  | false => exact rsup_bad l k hl hw v1
  | true => exact rsup_pure l k hl hw (out_ok hl v1).1 (out_ok hl v1).2
theorem out_len {l : List Wd} {k : Int} (v1 : validW l = true) : ∀ v ∈ supN k 201 l [], v.acts.length ≤ 1000 := by
  have gL := validW_good v1
  have lL : lnW l := fun v hv => ⟨(gL v hv).2.1, (gL v hv).1⟩
  have h1 := (supN_ok (k := k) 201 l [] lL (by simp [lnW])).1
  generalize supN k 201 l [] = O at h1
  intro v hv
  have := h1 v hv
  omega
theorem supR_val {l : List Wd} {k : Int} : (supR l k).1 = [] ∨ (validW l = true ∧ (supR l k).1 = supN k 201 l []) := by
  unfold supR
  generalize supN k 201 l [] = O
  cases v1 : validW l with
  | false => exact .inl (by simp)
  | true =>
    rw [if_neg (by simp)]
    split
    · exact .inl rfl
    · split
      · exact .inl rfl
      · exact .inr ⟨rfl, rfl⟩
theorem supR_ok {l : List Wd} {k : Int} : ∀ v ∈ (supR l k).1, v.acts.length ≤ 1000 := by
  rcases supR_val (l := l) (k := k) with h | ⟨h1, h2⟩
  · rw [h]; simp
  · rw [h2]; exact out_len h1
theorem supR_len {l : List Wd} {k : Int} (hl : l.length ≤ 300) : (supR l k).1.length ≤ 300 := by
  rcases supR_val (l := l) (k := k) with h | ⟨h1, h2⟩
  · rw [h]; simp
  · rw [h2]; exact (out_ok hl h1).2
set_option maxHeartbeats 16000000 in
theorem main (L : List Wd) (hL : L.length ≤ 9223372036854775807) (hLw : ∀ v ∈ L, wdI v) (P : List Wd) (hP : P.length ≤ 9223372036854775807) (hPw : ∀ v ∈ P, wdI v) (k : Int) :
    Pure Try.prog 3 [.rs (rowsOf wdC L), .rs (rowsOf wdC P), .int .i64 k] (.bool true) := by
  have hA := great_pure L hL hLw
  cases c1 : largeB L with
  | true =>
    rw [c1] at hA
    refine pure_of mixed Try.func3 rfl (by kernel_rfl) (of_decide_eq_true rfl) (by kernel_rfl) (vc_run ?_)
    ((try simp -implicitDefEqProofs [-loopQ_n]) <;> (repeat' (first | (refine condD_dec ?_ ?_ <;> (intro hc; (try simp -implicitDefEqProofs [-loopQ_n, hc]))) | (refine guardD_dec ?_ ?_ <;> (intro hc; (try simp -implicitDefEqProofs [-loopQ_n, hc]))) | (refine condD_intro ?_ ?_ <;> (intro hd; have hc := hd; (try simp at hc) <;> (try simp -implicitDefEqProofs [-loopQ_n, hd, hc]))) | (refine guardD_intro ?_ ?_ <;> (intro hd; have hc := hd; (try simp at hc) <;> (try simp -implicitDefEqProofs [-loopQ_n, hd, hc]))) | (refine ldD_ep ?_ ?_; (focus kernel_rfl); (try simp -implicitDefEqProofs [-loopQ_n])) | (refine callS_mk ?_; (try simp -implicitDefEqProofs [-loopQ_n]); (first | refine callS_intro (awake_pure) (.inl rfl) ?_ | refine callS_intro (hA) (.inl rfl) ?_); (try simp -implicitDefEqProofs [-loopQ_n])))))
  | false =>
  rw [c1] at hA
  have hB := large_pure P hP hPw
  cases c2 : largeB P with
  | true =>
    rw [c2] at hB
    refine pure_of mixed Try.func3 rfl (by kernel_rfl) (of_decide_eq_true rfl) (by kernel_rfl) (vc_run ?_)
    ((try simp -implicitDefEqProofs [-loopQ_n]) <;> (repeat' (first | (refine condD_dec ?_ ?_ <;> (intro hc; (try simp -implicitDefEqProofs [-loopQ_n, hc]))) | (refine guardD_dec ?_ ?_ <;> (intro hc; (try simp -implicitDefEqProofs [-loopQ_n, hc]))) | (refine condD_intro ?_ ?_ <;> (intro hd; have hc := hd; (try simp at hc) <;> (try simp -implicitDefEqProofs [-loopQ_n, hd, hc]))) | (refine guardD_intro ?_ ?_ <;> (intro hd; have hc := hd; (try simp at hc) <;> (try simp -implicitDefEqProofs [-loopQ_n, hd, hc]))) | (refine ldD_ep ?_ ?_; (focus kernel_rfl); (try simp -implicitDefEqProofs [-loopQ_n])) | (refine callS_mk ?_; (try simp -implicitDefEqProofs [-loopQ_n]); (first | refine callS_intro (awake_pure) (.inl rfl) ?_ | refine callS_intro (hA) (.inl rfl) ?_ | refine callS_intro (hB) (.inl rfl) ?_); (try simp -implicitDefEqProofs [-loopQ_n])))))
  | false =>
  rw [c2] at hB
  have l40 : ∀ X : List Wd, largeB X = false → X.length ≤ 40 := fun X h => by
    unfold largeB at h
    split at h
    · simp at h
    · omega
  have l1 := l40 L c1
  have l2 := l40 P c2
  have hC := sup_pure L k (by omega) hLw
  have hD := rsup_all L k (by omega) hLw
  have hE := loss_pure L P (by omega) (by omega) hLw hPw
  have hF := rloss_pure L P (by omega) (by omega) hLw hPw
  have hln := supR_len (l := L) (k := k) (by omega)
  have hG := psame_pure (supR L k).1 (supR L k).1 (by omega) (by omega) supR_ok supR_ok
  rw [sameL_self] at hG
  generalize supR L k = R at *
  generalize lossR L P = S at *
  obtain ⟨R, e⟩ := R
  obtain ⟨n, f⟩ := S
  simp only [supV, lossT] at hC hD hE hF hG
  refine pure_of mixed Try.func3 rfl (by kernel_rfl) (of_decide_eq_true rfl) (by kernel_rfl) (vc_run ?_)
  ((try simp -implicitDefEqProofs [-loopQ_n]) <;> (repeat' (first | (refine condD_dec ?_ ?_ <;> (intro hc; (try simp -implicitDefEqProofs [-loopQ_n, hc]))) | (refine guardD_dec ?_ ?_ <;> (intro hc; (try simp -implicitDefEqProofs [-loopQ_n, hc]))) | (refine condD_intro ?_ ?_ <;> (intro hd; have hc := hd; (try simp at hc) <;> (try simp -implicitDefEqProofs [-loopQ_n, hd, hc]))) | (refine guardD_intro ?_ ?_ <;> (intro hd; have hc := hd; (try simp at hc) <;> (try simp -implicitDefEqProofs [-loopQ_n, hd, hc]))) | (refine ldD_ep ?_ ?_; (focus kernel_rfl); (try simp -implicitDefEqProofs [-loopQ_n])) | (refine callS_mk ?_; (try simp -implicitDefEqProofs [-loopQ_n]); (first | refine callS_intro (awake_pure) (.inl rfl) ?_ | refine callS_intro (hA) (.inl rfl) ?_ | refine callS_intro (hB) (.inl rfl) ?_ | refine callS_intro (hC) (.inr ⟨rfl, rfl⟩) ?_ | refine callS_intro (hD) (.inr ⟨rfl, rfl⟩) ?_ | refine callS_intro (hE) (.inl rfl) ?_ | refine callS_intro (hF) (.inl rfl) ?_ | refine callS_intro (hG) (.inl rfl) ?_); (try simp -implicitDefEqProofs [-loopQ_n])))))
theorem both (x0 : AV) (s0 : argS Try.prog 22 x0) (x1 : AV) (s1 : argS Try.prog 23 x1) (x2 : AV) (s2 : argS Try.prog 3 x2) : Pure Try.prog 3 [x0, x1, x2] (.bool true) := by
  obtain ⟨L, rfl, hL, hLw⟩ := arg_vars s0
  obtain ⟨P, rfl, hP, hPw⟩ := arg_pubs s1
  obtain ⟨k, rfl, _⟩ := arg_i64 s2
  exact main L hL hLw P hP hPw k
theorem walk (W : World) (hvo : VarsOk W (fun _ => False)) (v0 : Value) (x0 : AV) (r0 : RO W (fun _ => False) x0 v0) (s0 : argS Try.prog 22 x0) (v1 : Value) (x1 : AV) (r1 : RO W (fun _ => False) x1 v1) (s1 : argS Try.prog 23 x1) (v2 : Value) (x2 : AV) (r2 : RO W (fun _ => False) x2 v2) (s2 : argS Try.prog 3 x2) :
    Calls Try.prog 3 #[v0, v1, v2] W fun e w' => e = .returned (.bool true) ∧ Below W.heap.size W w' := by
  refine ((both x0 s0 x1 s1 x2 s2).2 W (fun _ => False) _ (fun _ h => h.elim) hvo rfl ?_).mono ?_
  · intro j x v hj hv
    match j with
    | 0 => simp at hj hv; subst hj hv; exact r0
    | 1 => simp at hj hv; subst hj hv; exact r1
    | 2 => simp at hj hv; subst hj hv; exact r2
    | j + 3 => simp at hj
  · rintro e w' ⟨v, rfl, hv, hb⟩
    rw [ro_tt hv]
    exact ⟨rfl, hb⟩
end
set_option maxRecDepth 100000 in
theorem lifted (os : Os) (started : os.Started) (H : Type) (enc : TypeId × Value → H) :
    ReturnsInHanded {} Try.checked os 3 .any (Rows.privacySuppressSpec.pre6 enc Try.prog Try.f3 Rows.privacySuppressRow.domain false) (Rows.privacySuppressSpec.post enc Try.prog Try.f3 false true false false) := by
  refine returnsInHanded_of_change (C := Try.checked) (@ownK ⟨fun _ => none⟩) started (by kernel_rfl) Try.func3
    (ChangeSpec.witness6 (enc := enc) (C := Try.checked) false ⟨#[], #[.slice none 0 0, .slice none 0 0, .int .i64 0], []⟩ 8 (by kernel_rfl) (by kernel_rfl) (by kernel_rfl) (by kernel_rfl)) ?_
  intro W base args ds gs before hval0 hW hcnd _
  have hval : ∀ (j : Nat) t v, Try.f3.params[j]? = some t → args[j]? = some v → Value.okWide Try.prog W .any base t v := hval0
  have hW' := hW
  obtain ⟨p, q, hA0, hV, rfl, hfz, hnd⟩ := hW
  have hA : DataW.TrodAll enc Try.prog W 0 (fun _ => true) true Try.f3.params.toList args.toList ds p := hA0
  rw [Try.params3] at hA hval
  obtain ⟨v0, vs0, d0, ds0, p0, q0, hargs, rfl, rfl, h0, r0⟩ := trodAll_cons hA
  obtain ⟨v1, vs1, d1, ds1, p1, q1, rfl, rfl, rfl, h1, r1⟩ := trodAll_cons r0
  obtain ⟨v2, vs2, d2, ds2, p2, q2, rfl, rfl, rfl, h2, r2⟩ := trodAll_cons r1
  obtain ⟨rfl, rfl, rfl⟩ := trodAll_nil r2
  obtain rfl : args = #[v0, v1, v2] := by cases args; simp_all
  obtain ⟨rfl, rfl⟩ := trodVars_none hV
  letI : Glob := ⟨fun _ => none⟩
  have k0 := h0
  have lt0 : ∀ x ∈ p0, x.block < W.heap.size := by obtain ⟨m, hm⟩ := k0; exact DataW.trod_lt m _ _ _ hm
  obtain ⟨x0, y0, s0⟩ := arg_open (P := Try.prog) (t := 22) (by kernel_rfl) (by kernel_rfl) (hval 0 22 v0 rfl rfl) h0
  have k1 := h1
  have lt1 : ∀ x ∈ p1, x.block < W.heap.size := by obtain ⟨m, hm⟩ := k1; exact DataW.trod_lt m _ _ _ hm
  obtain ⟨x1, y1, s1⟩ := arg_open (P := Try.prog) (t := 23) (by kernel_rfl) (by kernel_rfl) (hval 1 23 v1 rfl rfl) h1
  have k2 := h2
  have lt2 : ∀ x ∈ p2, x.block < W.heap.size := by obtain ⟨m, hm⟩ := k2; exact DataW.trod_lt m _ _ _ hm
  obtain ⟨x2, y2, s2⟩ := arg_open (P := Try.prog) (t := 3) (by kernel_rfl) (by kernel_rfl) (hval 2 3 v2 rfl rfl) h2
  clear hA0 hval0
  refine (walk W (fun g row h => by cases h) v0 x0 y0 s0 v1 x1 y1 s1 v2 x2 y2 s2).mono fun e W' ⟨he, bel⟩ => ?_
  subst he
  exact ⟨_, rfl, _, _, _, [], _, [], hW', trodAll_mk1 (shut_bool Try.underlying4 _), (trodAll_cons_mk (Below.trod laidK (by kernel_rfl) (of_decide_eq_true (by kernel_rfl)) k0 bel lt0) (trodAll_cons_mk (Below.trod laidK (by kernel_rfl) (of_decide_eq_true (by kernel_rfl)) k1 bel lt1) (trodAll_cons_mk (Below.trod laidK (by kernel_rfl) (of_decide_eq_true (by kernel_rfl)) k2 bel lt2) trodAll_mk0))), rfl, bel.frame _, fun h => by cases h⟩

theorem over : Rows.privacySuppressRow.holds Try.pinned (OpenSpec.ofChange Rows.privacySuppressSpec) :=
  OpenClaim.holds_of_wide 3 Try.f3 rfl rfl rfl rfl rfl rfl rfl ⟨rfl, rfl, rfl, rfl, rfl⟩ rfl rfl rfl rfl rfl (by kernel_rfl) Try.func3 (by kernel_rfl)
    (of_decide_eq_true (by kernel_rfl)) (by unfold Func.isWrapper; first | (rw [if_pos (by decide +kernel)]; kernel_rfl) | (rw [if_neg (by decide +kernel)]; exact ⟨rfl, rfl⟩))
    (fun os started H enc _ => lifted os started H enc)

theorem proved : Rows.PrivacySuppressSaid := over
end Go.Proofs.Ytkppfaennogcmaa.lawPSuppress
