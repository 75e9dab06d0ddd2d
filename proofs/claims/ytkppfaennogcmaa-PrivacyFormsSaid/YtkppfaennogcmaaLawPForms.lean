/- What is valid, keeps k, and is diverse (the law PrivacyForms holds for every input; no condition). -/
import Derived.Test.YtkppfaennogcmaaRows
import Derived.Test.YtkppfaennogcmaaPrvB
import Derived.Test.YtkppfaennogcmaaPrvJ
import Derived.Test.YtkppfaennogcmaaPrvK
import Derived.Test.YtkppfaennogcmaaOpen
namespace Go.Proofs.Ytkppfaennogcmaa.lawPForms
set_option linter.unusedSimpArgs false
set_option linter.unusedVariables false
set_option linter.unnecessarySimpa false
set_option linter.unusedSectionVars false
open Go.ChangeShapes Go.WideShapes Go.ChangeAt Go.RowKit Go.Joins Go.Deep
section
variable [Glob]
set_option maxRecDepth 100000
def wideG (g : List ByteArray) : Bool := decide (30 < g.length ∧ g.length ≤ 1000 ∨ 1100 < g.length)
theorem forms1_pure (g : List ByteArray) : Pure Try.prog 38 [.rs (rowsOf strC g)] (.bool (wideG g)) := by
  unfold wideG
  by_cases h1 : (30 : Int) < g.length
  · by_cases h2 : (g.length : Int) ≤ 1000
    · skip
      refine pure_of mixed Try.func38 rfl (by kernel_rfl) (of_decide_eq_true rfl) (by kernel_rfl) (vc_run ?_)
      ((try simp -implicitDefEqProofs [-loopQ_n, h1, h2]) <;> (repeat' (first | (refine condD_dec ?_ ?_ <;> (intro hc; (try simp -implicitDefEqProofs [-loopQ_n, hc, h1, h2]))) | (refine guardD_dec ?_ ?_ <;> (intro hc; (try simp -implicitDefEqProofs [-loopQ_n, hc, h1, h2]))) | (refine condD_intro ?_ ?_ <;> (intro hd; have hc := hd; (try simp at hc) <;> (try simp -implicitDefEqProofs [-loopQ_n, hd, hc, h1, h2]))) | (refine guardD_intro ?_ ?_ <;> (intro hd; have hc := hd; (try simp at hc) <;> (try simp -implicitDefEqProofs [-loopQ_n, hd, hc, h1, h2]))) | (refine ldD_ep ?_ ?_; (focus kernel_rfl); (try simp -implicitDefEqProofs [-loopQ_n, h1, h2])))))
      all_goals omega
    · by_cases h3 : (1100 : Int) < g.length
      · skip
        refine pure_of mixed Try.func38 rfl (by kernel_rfl) (of_decide_eq_true rfl) (by kernel_rfl) (vc_run ?_)
        ((try simp -implicitDefEqProofs [-loopQ_n, h1, h2, h3]) <;> (repeat' (first | (refine condD_dec ?_ ?_ <;> (intro hc; (try simp -implicitDefEqProofs [-loopQ_n, hc, h1, h2, h3]))) | (refine guardD_dec ?_ ?_ <;> (intro hc; (try simp -implicitDefEqProofs [-loopQ_n, hc, h1, h2, h3]))) | (refine condD_intro ?_ ?_ <;> (intro hd; have hc := hd; (try simp at hc) <;> (try simp -implicitDefEqProofs [-loopQ_n, hd, hc, h1, h2, h3]))) | (refine guardD_intro ?_ ?_ <;> (intro hd; have hc := hd; (try simp at hc) <;> (try simp -implicitDefEqProofs [-loopQ_n, hd, hc, h1, h2, h3]))) | (refine ldD_ep ?_ ?_; (focus kernel_rfl); (try simp -implicitDefEqProofs [-loopQ_n, h1, h2, h3])))))
        all_goals omega
      · skip
        refine pure_of mixed Try.func38 rfl (by kernel_rfl) (of_decide_eq_true rfl) (by kernel_rfl) (vc_run ?_)
        ((try simp -implicitDefEqProofs [-loopQ_n, h1, h2, h3]) <;> (repeat' (first | (refine condD_dec ?_ ?_ <;> (intro hc; (try simp -implicitDefEqProofs [-loopQ_n, hc, h1, h2, h3]))) | (refine guardD_dec ?_ ?_ <;> (intro hc; (try simp -implicitDefEqProofs [-loopQ_n, hc, h1, h2, h3]))) | (refine condD_intro ?_ ?_ <;> (intro hd; have hc := hd; (try simp at hc) <;> (try simp -implicitDefEqProofs [-loopQ_n, hd, hc, h1, h2, h3]))) | (refine guardD_intro ?_ ?_ <;> (intro hd; have hc := hd; (try simp at hc) <;> (try simp -implicitDefEqProofs [-loopQ_n, hd, hc, h1, h2, h3]))) | (refine ldD_ep ?_ ?_; (focus kernel_rfl); (try simp -implicitDefEqProofs [-loopQ_n, h1, h2, h3])))))
        all_goals omega
  · have h3 : ¬ (1100 : Int) < g.length := by omega
    refine pure_of mixed Try.func38 rfl (by kernel_rfl) (of_decide_eq_true rfl) (by kernel_rfl) (vc_run ?_)
    ((try simp -implicitDefEqProofs [-loopQ_n, h1, h3]) <;> (repeat' (first | (refine condD_dec ?_ ?_ <;> (intro hc; (try simp -implicitDefEqProofs [-loopQ_n, hc, h1, h3]))) | (refine guardD_dec ?_ ?_ <;> (intro hc; (try simp -implicitDefEqProofs [-loopQ_n, hc, h1, h3]))) | (refine condD_intro ?_ ?_ <;> (intro hd; have hc := hd; (try simp at hc) <;> (try simp -implicitDefEqProofs [-loopQ_n, hd, hc, h1, h3]))) | (refine guardD_intro ?_ ?_ <;> (intro hd; have hc := hd; (try simp at hc) <;> (try simp -implicitDefEqProofs [-loopQ_n, hd, hc, h1, h3]))) | (refine ldD_ep ?_ ?_; (focus kernel_rfl); (try simp -implicitDefEqProofs [-loopQ_n, h1, h3])))))
    all_goals omega
set_option maxHeartbeats 16000000 in
theorem main (l : List Wd) (hl : l.length ≤ 9223372036854775807) (hw : ∀ v ∈ l, wdI v) (k : Int) (G : List (List ByteArray)) (hG : G.length ≤ 9223372036854775807) (hg : ∀ g ∈ G, g.length ≤ 9223372036854775807 ∧ ∀ s ∈ g, s.size ≤ 9223372036854775807) (n : Int) :
    Pure Try.prog 10 [.rs (rowsOf wdC l), .int .i64 k, .rs (rowsOf grC G), .int .i64 n] (.bool true) := by
  have hL := large_pure l hl hw
  cases hlb : largeB l with
  | true =>
    rw [hlb] at hL
    refine pure_of mixed Try.func10 rfl (by kernel_rfl) (of_decide_eq_true rfl) (by kernel_rfl) (vc_run ?_)
    ((try simp -implicitDefEqProofs [-loopQ_n]) <;> (repeat' (first | (refine condD_dec ?_ ?_ <;> (intro hc; (try simp -implicitDefEqProofs [-loopQ_n, hc]))) | (refine guardD_dec ?_ ?_ <;> (intro hc; (try simp -implicitDefEqProofs [-loopQ_n, hc]))) | (refine condD_intro ?_ ?_ <;> (intro hd; have hc := hd; (try simp at hc) <;> (try simp -implicitDefEqProofs [-loopQ_n, hd, hc]))) | (refine guardD_intro ?_ ?_ <;> (intro hd; have hc := hd; (try simp at hc) <;> (try simp -implicitDefEqProofs [-loopQ_n, hd, hc]))) | (refine ldD_ep ?_ ?_; (focus kernel_rfl); (try simp -implicitDefEqProofs [-loopQ_n])) | (refine callS_mk ?_; (try simp -implicitDefEqProofs [-loopQ_n]); (first | refine callS_intro (awake_pure) (.inl rfl) ?_ | refine callS_intro (hL) (.inl rfl) ?_); (try simp -implicitDefEqProofs [-loopQ_n])))))
  | false =>
    rw [hlb] at hL
    have hl40 : l.length ≤ 40 := by
      unfold largeB at hlb
      split at hlb
      · simp at hlb
      · omega
    by_cases g1 : (20 : Int) < G.length ∧ (G.length : Int) ≤ 1000
    · obtain ⟨g1, g2⟩ := g1
      refine pure_of mixed Try.func10 rfl (by kernel_rfl) (of_decide_eq_true rfl) (by kernel_rfl) (vc_run ?_)
      ((try simp -implicitDefEqProofs [-loopQ_n, g1, g2]) <;> (repeat' (first | (refine condD_dec ?_ ?_ <;> (intro hc; (try simp -implicitDefEqProofs [-loopQ_n, hc, g1, g2]))) | (refine guardD_dec ?_ ?_ <;> (intro hc; (try simp -implicitDefEqProofs [-loopQ_n, hc, g1, g2]))) | (refine condD_intro ?_ ?_ <;> (intro hd; have hc := hd; (try simp at hc) <;> (try simp -implicitDefEqProofs [-loopQ_n, hd, hc, g1, g2]))) | (refine guardD_intro ?_ ?_ <;> (intro hd; have hc := hd; (try simp at hc) <;> (try simp -implicitDefEqProofs [-loopQ_n, hd, hc, g1, g2]))) | (refine ldD_ep ?_ ?_; (focus kernel_rfl); (try simp -implicitDefEqProofs [-loopQ_n, g1, g2])) | (refine callS_mk ?_; (try simp -implicitDefEqProofs [-loopQ_n, g1, g2]); (first | refine callS_intro (awake_pure) (.inl rfl) ?_ | refine callS_intro (hL) (.inl rfl) ?_); (try simp -implicitDefEqProofs [-loopQ_n, g1, g2])))))
    by_cases g3 : (1100 : Int) < G.length
    · have g1 : (20 : Int) < G.length := by omega
      have g2 : ¬ (G.length : Int) ≤ 1000 := by omega
      refine pure_of mixed Try.func10 rfl (by kernel_rfl) (of_decide_eq_true rfl) (by kernel_rfl) (vc_run ?_)
      ((try simp -implicitDefEqProofs [-loopQ_n, g1, g2, g3]) <;> (repeat' (first | (refine condD_dec ?_ ?_ <;> (intro hc; (try simp -implicitDefEqProofs [-loopQ_n, hc, g1, g2, g3]))) | (refine guardD_dec ?_ ?_ <;> (intro hc; (try simp -implicitDefEqProofs [-loopQ_n, hc, g1, g2, g3]))) | (refine condD_intro ?_ ?_ <;> (intro hd; have hc := hd; (try simp at hc) <;> (try simp -implicitDefEqProofs [-loopQ_n, hd, hc, g1, g2, g3]))) | (refine guardD_intro ?_ ?_ <;> (intro hd; have hc := hd; (try simp at hc) <;> (try simp -implicitDefEqProofs [-loopQ_n, hd, hc, g1, g2, g3]))) | (refine ldD_ep ?_ ?_; (focus kernel_rfl); (try simp -implicitDefEqProofs [-loopQ_n, g1, g2, g3])) | (refine callS_mk ?_; (try simp -implicitDefEqProofs [-loopQ_n, g1, g2, g3]); (first | refine callS_intro (awake_pure) (.inl rfl) ?_ | refine callS_intro (hL) (.inl rfl) ?_); (try simp -implicitDefEqProofs [-loopQ_n, g1, g2, g3])))))
    have hF := grF_any (p := wideG) (l := G) (g := 38) (caps := []) (fun x _ => forms1_pure x) (fun H k => rfl) rfl hG
    have hg12 : (20 : Int) < G.length → ¬ (G.length : Int) ≤ 1000 := by omega
    cases hfb : G.any wideG with
    | true =>
      rw [hfb] at hF
      by_cases g1 : (20 : Int) < G.length
      · have g2 := hg12 g1
        refine pure_of mixed Try.func10 rfl (by kernel_rfl) (of_decide_eq_true rfl) (by kernel_rfl) (vc_run ?_)
        ((try simp -implicitDefEqProofs [-loopQ_n, g1, g2, g3]) <;> (repeat' (first | (refine condD_dec ?_ ?_ <;> (intro hc; (try simp -implicitDefEqProofs [-loopQ_n, hc, g1, g2, g3]))) | (refine guardD_dec ?_ ?_ <;> (intro hc; (try simp -implicitDefEqProofs [-loopQ_n, hc, g1, g2, g3]))) | (refine condD_intro ?_ ?_ <;> (intro hd; have hc := hd; (try simp at hc) <;> (try simp -implicitDefEqProofs [-loopQ_n, hd, hc, g1, g2, g3]))) | (refine guardD_intro ?_ ?_ <;> (intro hd; have hc := hd; (try simp at hc) <;> (try simp -implicitDefEqProofs [-loopQ_n, hd, hc, g1, g2, g3]))) | (refine ldD_ep ?_ ?_; (focus kernel_rfl); (try simp -implicitDefEqProofs [-loopQ_n, g1, g2, g3])) | (refine callS_mk ?_; (try simp -implicitDefEqProofs [-loopQ_n, g1, g2, g3]); (first | refine callS_intro (awake_pure) (.inl rfl) ?_ | refine callS_intro (hL) (.inl rfl) ?_ | refine callS_intro (hF) (.inl rfl) ?_); (try simp -implicitDefEqProofs [-loopQ_n, g1, g2, g3])))))
      · skip
        refine pure_of mixed Try.func10 rfl (by kernel_rfl) (of_decide_eq_true rfl) (by kernel_rfl) (vc_run ?_)
        ((try simp -implicitDefEqProofs [-loopQ_n, g1, g3]) <;> (repeat' (first | (refine condD_dec ?_ ?_ <;> (intro hc; (try simp -implicitDefEqProofs [-loopQ_n, hc, g1, g3]))) | (refine guardD_dec ?_ ?_ <;> (intro hc; (try simp -implicitDefEqProofs [-loopQ_n, hc, g1, g3]))) | (refine condD_intro ?_ ?_ <;> (intro hd; have hc := hd; (try simp at hc) <;> (try simp -implicitDefEqProofs [-loopQ_n, hd, hc, g1, g3]))) | (refine guardD_intro ?_ ?_ <;> (intro hd; have hc := hd; (try simp at hc) <;> (try simp -implicitDefEqProofs [-loopQ_n, hd, hc, g1, g3]))) | (refine ldD_ep ?_ ?_; (focus kernel_rfl); (try simp -implicitDefEqProofs [-loopQ_n, g1, g3])) | (refine callS_mk ?_; (try simp -implicitDefEqProofs [-loopQ_n, g1, g3]); (first | refine callS_intro (awake_pure) (.inl rfl) ?_ | refine callS_intro (hL) (.inl rfl) ?_ | refine callS_intro (hF) (.inl rfl) ?_); (try simp -implicitDefEqProofs [-loopQ_n, g1, g3])))))
    | false =>
      rw [hfb] at hF
      have hgs : ∀ g ∈ G, g.length ≤ 1100 := fun g hgm => by
        rw [List.any_eq_false] at hfb
        have := hfb g hgm
        simp only [wideG, decide_eq_true_eq] at this
        omega
      have h1 := keeps_pure l k (by omega) hw
      have h2 := rkeeps_pure l k (by omega) hw
      have h3 := div_pure G n (by omega) hgs
      have h4 := rdiv_pure G n (by omega) hgs
      have h5 := valid_pure l (by omega) hw
      have h6 := rvalid_pure l (by omega) hw
      obtain ⟨⟨a1, a2⟩, ha⟩ : ∃ x, keepsR l k = x := ⟨_, rfl⟩
      obtain ⟨⟨b1, b2⟩, hb⟩ : ∃ x, divR G n = x := ⟨_, rfl⟩
      rw [ha] at h1 h2
      rw [hb] at h3 h4
      simp only [keepsV, divV] at h1 h2 h3 h4
      generalize validW l = c at *
      by_cases g1 : (20 : Int) < G.length
      · have g2 := hg12 g1
        refine pure_of mixed Try.func10 rfl (by kernel_rfl) (of_decide_eq_true rfl) (by kernel_rfl) (vc_run ?_)
        ((try simp -implicitDefEqProofs [-loopQ_n, g1, g2, g3]) <;> (repeat' (first | (refine condD_dec ?_ ?_ <;> (intro hc; (try simp -implicitDefEqProofs [-loopQ_n, hc, g1, g2, g3]))) | (refine guardD_dec ?_ ?_ <;> (intro hc; (try simp -implicitDefEqProofs [-loopQ_n, hc, g1, g2, g3]))) | (refine condD_intro ?_ ?_ <;> (intro hd; have hc := hd; (try simp at hc) <;> (try simp -implicitDefEqProofs [-loopQ_n, hd, hc, g1, g2, g3]))) | (refine guardD_intro ?_ ?_ <;> (intro hd; have hc := hd; (try simp at hc) <;> (try simp -implicitDefEqProofs [-loopQ_n, hd, hc, g1, g2, g3]))) | (refine ldD_ep ?_ ?_; (focus kernel_rfl); (try simp -implicitDefEqProofs [-loopQ_n, g1, g2, g3])) | (refine callS_mk ?_; (try simp -implicitDefEqProofs [-loopQ_n, g1, g2, g3]); (first | refine callS_intro (awake_pure) (.inl rfl) ?_ | refine callS_intro (hL) (.inl rfl) ?_ | refine callS_intro (hF) (.inl rfl) ?_ | refine callS_intro (h1) (.inl rfl) ?_ | refine callS_intro (h2) (.inl rfl) ?_ | refine callS_intro (h3) (.inl rfl) ?_ | refine callS_intro (h4) (.inl rfl) ?_ | refine callS_intro (h5) (.inl rfl) ?_ | refine callS_intro (h6) (.inl rfl) ?_); (try simp -implicitDefEqProofs [-loopQ_n, g1, g2, g3])))))
      · skip
        refine pure_of mixed Try.func10 rfl (by kernel_rfl) (of_decide_eq_true rfl) (by kernel_rfl) (vc_run ?_)
        ((try simp -implicitDefEqProofs [-loopQ_n, g1, g3]) <;> (repeat' (first | (refine condD_dec ?_ ?_ <;> (intro hc; (try simp -implicitDefEqProofs [-loopQ_n, hc, g1, g3]))) | (refine guardD_dec ?_ ?_ <;> (intro hc; (try simp -implicitDefEqProofs [-loopQ_n, hc, g1, g3]))) | (refine condD_intro ?_ ?_ <;> (intro hd; have hc := hd; (try simp at hc) <;> (try simp -implicitDefEqProofs [-loopQ_n, hd, hc, g1, g3]))) | (refine guardD_intro ?_ ?_ <;> (intro hd; have hc := hd; (try simp at hc) <;> (try simp -implicitDefEqProofs [-loopQ_n, hd, hc, g1, g3]))) | (refine ldD_ep ?_ ?_; (focus kernel_rfl); (try simp -implicitDefEqProofs [-loopQ_n, g1, g3])) | (refine callS_mk ?_; (try simp -implicitDefEqProofs [-loopQ_n, g1, g3]); (first | refine callS_intro (awake_pure) (.inl rfl) ?_ | refine callS_intro (hL) (.inl rfl) ?_ | refine callS_intro (hF) (.inl rfl) ?_ | refine callS_intro (h1) (.inl rfl) ?_ | refine callS_intro (h2) (.inl rfl) ?_ | refine callS_intro (h3) (.inl rfl) ?_ | refine callS_intro (h4) (.inl rfl) ?_ | refine callS_intro (h5) (.inl rfl) ?_ | refine callS_intro (h6) (.inl rfl) ?_); (try simp -implicitDefEqProofs [-loopQ_n, g1, g3])))))
theorem both (x0 : AV) (s0 : argS Try.prog 23 x0) (x1 : AV) (s1 : argS Try.prog 3 x1) (x2 : AV) (s2 : argS Try.prog 76 x2) (x3 : AV) (s3 : argS Try.prog 3 x3) : Pure Try.prog 10 [x0, x1, x2, x3] (.bool true) := by
  obtain ⟨l, rfl, hl, hw⟩ := arg_pubs s0
  obtain ⟨k, rfl, _⟩ := arg_i64 s1
  obtain ⟨G, rfl, hG, hg⟩ := arg_groups s2
  obtain ⟨n, rfl, _⟩ := arg_i64 s3
  exact main l hl hw k G hG hg n
theorem walk (W : World) (hvo : VarsOk W (fun _ => False)) (v0 : Value) (x0 : AV) (r0 : RO W (fun _ => False) x0 v0) (s0 : argS Try.prog 23 x0) (v1 : Value) (x1 : AV) (r1 : RO W (fun _ => False) x1 v1) (s1 : argS Try.prog 3 x1) (v2 : Value) (x2 : AV) (r2 : RO W (fun _ => False) x2 v2) (s2 : argS Try.prog 76 x2) (v3 : Value) (x3 : AV) (r3 : RO W (fun _ => False) x3 v3) (s3 : argS Try.prog 3 x3) :
    Calls Try.prog 10 #[v0, v1, v2, v3] W fun e w' => e = .returned (.bool true) ∧ Below W.heap.size W w' := by
  refine ((both x0 s0 x1 s1 x2 s2 x3 s3).2 W (fun _ => False) _ (fun _ h => h.elim) hvo rfl ?_).mono ?_
  · intro j x v hj hv
    match j with
    | 0 => simp at hj hv; subst hj hv; exact r0
    | 1 => simp at hj hv; subst hj hv; exact r1
    | 2 => simp at hj hv; subst hj hv; exact r2
    | 3 => simp at hj hv; subst hj hv; exact r3
    | j + 4 => simp at hj
  · rintro e w' ⟨v, rfl, hv, hb⟩
    rw [ro_tt hv]
    exact ⟨rfl, hb⟩
end
set_option maxRecDepth 100000 in
theorem lifted (os : Os) (started : os.Started) (H : Type) (enc : TypeId × Value → H) :
    ReturnsInHanded {} Try.checked os 10 .any (Rows.privacyFormsSpec.pre6 enc Try.prog Try.f10 Rows.privacyFormsRow.domain false) (Rows.privacyFormsSpec.post enc Try.prog Try.f10 false true false false) := by
  refine returnsInHanded_of_change (C := Try.checked) (@ownK ⟨fun _ => none⟩) started (by kernel_rfl) Try.func10
    (ChangeSpec.witness6 (enc := enc) (C := Try.checked) false ⟨#[], #[.slice none 0 0, .int .i64 0, .slice none 0 0, .int .i64 0], []⟩ 8 (by kernel_rfl) (by kernel_rfl) (by kernel_rfl) (by kernel_rfl)) ?_
  intro W base args ds gs before hval0 hW hcnd _
  have hval : ∀ (j : Nat) t v, Try.f10.params[j]? = some t → args[j]? = some v → Value.okWide Try.prog W .any base t v := hval0
  have hW' := hW
  obtain ⟨p, q, hA0, hV, rfl, hfz, hnd⟩ := hW
  have hA : DataW.TrodAll enc Try.prog W 0 (fun _ => true) true Try.f10.params.toList args.toList ds p := hA0
  rw [Try.params10] at hA hval
  obtain ⟨v0, vs0, d0, ds0, p0, q0, hargs, rfl, rfl, h0, r0⟩ := trodAll_cons hA
  obtain ⟨v1, vs1, d1, ds1, p1, q1, rfl, rfl, rfl, h1, r1⟩ := trodAll_cons r0
  obtain ⟨v2, vs2, d2, ds2, p2, q2, rfl, rfl, rfl, h2, r2⟩ := trodAll_cons r1
  obtain ⟨v3, vs3, d3, ds3, p3, q3, rfl, rfl, rfl, h3, r3⟩ := trodAll_cons r2
  obtain ⟨rfl, rfl, rfl⟩ := trodAll_nil r3
  obtain rfl : args = #[v0, v1, v2, v3] := by cases args; simp_all
  obtain ⟨rfl, rfl⟩ := trodVars_none hV
  letI : Glob := ⟨fun _ => none⟩
  have k0 := h0
  have lt0 : ∀ x ∈ p0, x.block < W.heap.size := by obtain ⟨m, hm⟩ := k0; exact DataW.trod_lt m _ _ _ hm
  obtain ⟨x0, y0, s0⟩ := arg_open (P := Try.prog) (t := 23) (by kernel_rfl) (by kernel_rfl) (hval 0 23 v0 rfl rfl) h0
  have k1 := h1
  have lt1 : ∀ x ∈ p1, x.block < W.heap.size := by obtain ⟨m, hm⟩ := k1; exact DataW.trod_lt m _ _ _ hm
  obtain ⟨x1, y1, s1⟩ := arg_open (P := Try.prog) (t := 3) (by kernel_rfl) (by kernel_rfl) (hval 1 3 v1 rfl rfl) h1
  have k2 := h2
  have lt2 : ∀ x ∈ p2, x.block < W.heap.size := by obtain ⟨m, hm⟩ := k2; exact DataW.trod_lt m _ _ _ hm
  obtain ⟨x2, y2, s2⟩ := arg_open (P := Try.prog) (t := 76) (by kernel_rfl) (by kernel_rfl) (hval 2 76 v2 rfl rfl) h2
  have k3 := h3
  have lt3 : ∀ x ∈ p3, x.block < W.heap.size := by obtain ⟨m, hm⟩ := k3; exact DataW.trod_lt m _ _ _ hm
  obtain ⟨x3, y3, s3⟩ := arg_open (P := Try.prog) (t := 3) (by kernel_rfl) (by kernel_rfl) (hval 3 3 v3 rfl rfl) h3
  clear hA0 hval0
  refine (walk W (fun g row h => by cases h) v0 x0 y0 s0 v1 x1 y1 s1 v2 x2 y2 s2 v3 x3 y3 s3).mono fun e W' ⟨he, bel⟩ => ?_
  subst he
  exact ⟨_, rfl, _, _, _, [], _, [], hW', trodAll_mk1 (shut_bool Try.underlying4 _), (trodAll_cons_mk (Below.trod laidK (by kernel_rfl) (of_decide_eq_true (by kernel_rfl)) k0 bel lt0) (trodAll_cons_mk (Below.trod laidK (by kernel_rfl) (of_decide_eq_true (by kernel_rfl)) k1 bel lt1) (trodAll_cons_mk (Below.trod laidK (by kernel_rfl) (of_decide_eq_true (by kernel_rfl)) k2 bel lt2) (trodAll_cons_mk (Below.trod laidK (by kernel_rfl) (of_decide_eq_true (by kernel_rfl)) k3 bel lt3) trodAll_mk0)))), rfl, bel.frame _, fun h => by cases h⟩

theorem over : Rows.privacyFormsRow.holds Try.pinned (OpenSpec.ofChange Rows.privacyFormsSpec) :=
  OpenClaim.holds_of_wide 10 Try.f10 rfl rfl rfl rfl rfl rfl rfl ⟨rfl, rfl, rfl, rfl, rfl⟩ rfl rfl rfl rfl rfl (by kernel_rfl) Try.func10 (by kernel_rfl)
    (of_decide_eq_true (by kernel_rfl)) (by unfold Func.isWrapper; first | (rw [if_pos (by decide +kernel)]; kernel_rfl) | (rw [if_neg (by decide +kernel)]; exact ⟨rfl, rfl⟩))
    (fun os started H enc _ => lifted os started H enc)

theorem proved : Rows.PrivacyFormsSaid := over
end Go.Proofs.Ytkppfaennogcmaa.lawPForms
