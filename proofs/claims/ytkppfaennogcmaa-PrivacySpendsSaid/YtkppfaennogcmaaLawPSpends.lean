/- A budget is spent piece by piece (the law PrivacySpends holds for every input; no condition). -/
import Derived.Test.YtkppfaennogcmaaRows
import Derived.Test.YtkppfaennogcmaaPrvB
import Derived.Test.YtkppfaennogcmaaPrvS
import Derived.Test.YtkppfaennogcmaaPrvD
import Derived.Test.YtkppfaennogcmaaOpen
namespace Go.Proofs.Ytkppfaennogcmaa.lawPSpends
set_option linter.unusedSimpArgs false
set_option linter.unusedVariables false
set_option linter.unnecessarySimpa false
set_option linter.unusedSectionVars false
open Go.ChangeShapes Go.WideShapes Go.ChangeAt Go.RowKit Go.Joins Go.Deep
section
variable [Glob]
set_option maxRecDepth 100000
theorem parts {b : Fr} {l : List Fr} {k : Nat} (hl : l.length ≤ 1000) (hk : k ≤ l.length) (h : (spendF b l).2.2 ≠ 1) :
    ((spendF b (l.take k)).2.2 ≠ 0 → (spendF b (l.take k)).2.2 = (spendF b l).2.2 ∧ (spendF b (l.take k)).2.1 = (spendF b l).2.1) ∧
    ((spendF b (l.take k)).2.2 = 0 → (spendF (spendF b (l.take k)).1 (l.drop k)).2.2 = (spendF b l).2.2 ∧ (spendF (spendF b (l.take k)).1 (l.drop k)).1 = (spendF b l).1 ∧ k + (spendF (spendF b (l.take k)).1 (l.drop k)).2.1 = (spendF b l).2.1) := by
  have hbad : (badF b || l.any badF) = false := by
    cases hb : (badF b || l.any badF) with
    | false => rfl
    | true => exfalso; apply h; simp only [spendF, hb]; rfl
  have hb := hbad
  rw [Bool.or_eq_false_iff] at hb
  obtain ⟨hb1, hb2⟩ := hb
  have hlg : ∀ a ∈ l, goodF a := fun a h => badF_good.1 (by rw [List.any_eq_false] at hb2; simpa using hb2 a h)
  have key : ∀ (c : Fr) (x : List Fr), goodF c → (∀ a ∈ x, goodF a) → x.length ≤ 1000 → spendF c x = spendG c 0 x := fun c x hc hx hn => by
    have h1 : (badF c || x.any badF) = false := by
      rw [Bool.or_eq_false_iff, List.any_eq_false]
      exact ⟨badF_good.2 hc, fun a ha => by simpa using badF_good.2 (hx a ha)⟩
    simp only [spendF, h1]
    simp [show ¬ 1000 < x.length by omega]
  have hbg := badF_good.1 hb1
  have htg : ∀ a ∈ l.take k, goodF a := fun a ha => hlg a (List.mem_of_mem_take ha)
  have hdg : ∀ a ∈ l.drop k, goodF a := fun a ha => hlg a (List.mem_of_mem_drop ha)
  rw [key b l hbg hlg hl, key b (l.take k) hbg htg (by simp; omega)]
  have hap := spendG_append (l.take k) (l.drop k) b 0
  rw [List.take_append_drop] at hap
  refine ⟨fun h0 => ?_, fun h0 => ?_⟩
  · rw [if_neg h0] at hap
    rw [hap]
    exact ⟨rfl, rfl⟩
  · rw [if_pos h0] at hap
    have hgd := spendG_good (l.take k) b 0 hbg htg h0
    have hln := (spendG_len (l.take k) b 0).2.2 h0
    have hln2 : (spendG b 0 (l.take k)).2.1 = k := by rw [hln]; simp; omega
    rw [key _ (l.drop k) hgd hdg (by simp; omega), hap, hln2]
    have := spendG_shift (l.drop k) (spendG b 0 (l.take k)).1 0 k
    rw [Nat.add_zero] at this
    rw [this]
    exact ⟨rfl, rfl, rfl⟩
set_option maxHeartbeats 16000000 in
theorem main (b : Fr) (l : List Fr) (t : Int) (t0 : 0 ≤ t) (t1 : t ≤ 255) : Pure Try.prog 11 [.agg [.int .i64 b.1, .int .i64 b.2], .rs (rowsOf fracC l), .int .u8 t] (.bool true) := by
  by_cases h1 : (40 : Int) < l.length ∧ (l.length : Int) ≤ 1000
  · obtain ⟨h1, h2⟩ := h1
    refine pure_of mixed Try.func11 rfl (by kernel_rfl) (of_decide_eq_true rfl) (by kernel_rfl) (vc_run ?_)
    ((try simp -implicitDefEqProofs [-loopQ_n, h1, h2]) <;> (repeat' (first | (refine condD_dec ?_ ?_ <;> (intro hc; (try simp -implicitDefEqProofs [-loopQ_n, hc, h1, h2]))) | (refine guardD_dec ?_ ?_ <;> (intro hc; (try simp -implicitDefEqProofs [-loopQ_n, hc, h1, h2]))) | (refine condD_intro ?_ ?_ <;> (intro hd; have hc := hd; (try simp at hc) <;> (try simp -implicitDefEqProofs [-loopQ_n, hd, hc, h1, h2]))) | (refine guardD_intro ?_ ?_ <;> (intro hd; have hc := hd; (try simp at hc) <;> (try simp -implicitDefEqProofs [-loopQ_n, hd, hc, h1, h2]))) | (refine ldD_ep ?_ ?_; (focus kernel_rfl); (try simp -implicitDefEqProofs [-loopQ_n, h1, h2])) | (refine callS_mk ?_; (try simp -implicitDefEqProofs [-loopQ_n, h1, h2]); (first | refine callS_intro (awake_pure) (.inl rfl) ?_); (try simp -implicitDefEqProofs [-loopQ_n, h1, h2])))))
  by_cases h2 : (1100 : Int) < l.length
  · have h3 : (40 : Int) < l.length := by omega
    have h4 : ¬ (l.length : Int) ≤ 1000 := by omega
    refine pure_of mixed Try.func11 rfl (by kernel_rfl) (of_decide_eq_true rfl) (by kernel_rfl) (vc_run ?_)
    ((try simp -implicitDefEqProofs [-loopQ_n, h2, h3, h4]) <;> (repeat' (first | (refine condD_dec ?_ ?_ <;> (intro hc; (try simp -implicitDefEqProofs [-loopQ_n, hc, h2, h3, h4]))) | (refine guardD_dec ?_ ?_ <;> (intro hc; (try simp -implicitDefEqProofs [-loopQ_n, hc, h2, h3, h4]))) | (refine condD_intro ?_ ?_ <;> (intro hd; have hc := hd; (try simp at hc) <;> (try simp -implicitDefEqProofs [-loopQ_n, hd, hc, h2, h3, h4]))) | (refine guardD_intro ?_ ?_ <;> (intro hd; have hc := hd; (try simp at hc) <;> (try simp -implicitDefEqProofs [-loopQ_n, hd, hc, h2, h3, h4]))) | (refine ldD_ep ?_ ?_; (focus kernel_rfl); (try simp -implicitDefEqProofs [-loopQ_n, h2, h3, h4])) | (refine callS_mk ?_; (try simp -implicitDefEqProofs [-loopQ_n, h2, h3, h4]); (first | refine callS_intro (awake_pure) (.inl rfl) ?_); (try simp -implicitDefEqProofs [-loopQ_n, h2, h3, h4])))))
  have hA := spend_pure b l (by omega)
  have hB := rspend_pure b l (by omega)
  by_cases h3 : (40 : Int) < l.length
  · have h4 : ¬ (l.length : Int) ≤ 1000 := by omega
    generalize spendF b l = R at *
    simp only [spendV] at hA hB
    refine pure_of mixed Try.func11 rfl (by kernel_rfl) (of_decide_eq_true rfl) (by kernel_rfl) (vc_run ?_)
    ((try simp -implicitDefEqProofs [-loopQ_n, h2, h3, h4]) <;> (repeat' (first | (refine condD_dec ?_ ?_ <;> (intro hc; (try simp -implicitDefEqProofs [-loopQ_n, hc, h2, h3, h4]))) | (refine guardD_dec ?_ ?_ <;> (intro hc; (try simp -implicitDefEqProofs [-loopQ_n, hc, h2, h3, h4]))) | (refine condD_intro ?_ ?_ <;> (intro hd; have hc := hd; (try simp at hc) <;> (try simp -implicitDefEqProofs [-loopQ_n, hd, hc, h2, h3, h4]))) | (refine guardD_intro ?_ ?_ <;> (intro hd; have hc := hd; (try simp at hc) <;> (try simp -implicitDefEqProofs [-loopQ_n, hd, hc, h2, h3, h4]))) | (refine ldD_ep ?_ ?_; (focus kernel_rfl); (try simp -implicitDefEqProofs [-loopQ_n, h2, h3, h4])) | (refine callS_mk ?_; (try simp -implicitDefEqProofs [-loopQ_n, h2, h3, h4]); (first | refine callS_intro (awake_pure) (.inl rfl) ?_ | refine callS_intro (hA) (.inl rfl) ?_ | refine callS_intro (hB) (.inl rfl) ?_); (try simp -implicitDefEqProofs [-loopQ_n, h2, h3, h4])))))
  by_cases h5 : (spendF b l).2.2 = 1
  · generalize spendF b l = R at *
    simp only [spendV] at hA hB
    refine pure_of mixed Try.func11 rfl (by kernel_rfl) (of_decide_eq_true rfl) (by kernel_rfl) (vc_run ?_)
    ((try simp -implicitDefEqProofs [-loopQ_n, h2, h3, h5]) <;> (repeat' (first | (refine condD_dec ?_ ?_ <;> (intro hc; (try simp -implicitDefEqProofs [-loopQ_n, hc, h2, h3, h5]))) | (refine guardD_dec ?_ ?_ <;> (intro hc; (try simp -implicitDefEqProofs [-loopQ_n, hc, h2, h3, h5]))) | (refine condD_intro ?_ ?_ <;> (intro hd; have hc := hd; (try simp at hc) <;> (try simp -implicitDefEqProofs [-loopQ_n, hd, hc, h2, h3, h5]))) | (refine guardD_intro ?_ ?_ <;> (intro hd; have hc := hd; (try simp at hc) <;> (try simp -implicitDefEqProofs [-loopQ_n, hd, hc, h2, h3, h5]))) | (refine ldD_ep ?_ ?_; (focus kernel_rfl); (try simp -implicitDefEqProofs [-loopQ_n, h2, h3, h5])) | (refine callS_mk ?_; (try simp -implicitDefEqProofs [-loopQ_n, h2, h3, h5]); (first | refine callS_intro (awake_pure) (.inl rfl) ?_ | refine callS_intro (hA) (.inl rfl) ?_ | refine callS_intro (hB) (.inl rfl) ?_); (try simp -implicitDefEqProofs [-loopQ_n, h2, h3, h5])))))
  obtain ⟨k, hk⟩ : ∃ k : Nat, t.tmod ((l.length : Int) + 1) = (k : Int) := by
    rw [Int.tmod_eq_emod_of_nonneg t0]
    exact ⟨(t % ((l.length : Int) + 1)).toNat, by have := Int.emod_nonneg t (show (l.length : Int) + 1 ≠ 0 by omega); omega⟩
  have hkl : k ≤ l.length := by
    have := Int.tmod_lt_of_pos t (show (0 : Int) < (l.length : Int) + 1 by omega)
    omega
  obtain ⟨p1, p2⟩ := parts (k := k) (by omega) hkl h5
  have hC := spend_pure b (l.take k) (by simp; omega)
  have hD := spend_pure (spendF b (l.take k)).1 (l.drop k) (by simp; omega)
  have w1 : wrapI .i64 t = t := wrap_in (by omega) (by omega)
  have w2 : wrapI .i64 ((l.length : Int) + 1) = (l.length : Int) + 1 := wrap_in (by omega) (by omega)
  have hne : ¬ (l.length : Int) + 1 = 0 := by omega
  have e1 : (rowsOf fracC l).take k = rowsOf fracC (l.take k) := rowsOf_take
  have e2 : (rowsOf fracC l).drop k = rowsOf fracC (l.drop k) := rowsOf_drop
  have e3 : List.take (l.length - k) (rowsOf fracC (l.drop k)) = rowsOf fracC (l.drop k) := List.take_of_length_le (by rw [rowsOf_length]; simp)
  have hRl : (spendF b l).2.1 ≤ l.length := by
    unfold spendF
    split
    · simp
    · split
      · simp
      · have := (spendG_len l b 0).2.1; simpa using this
  generalize spendF b l = R at *
  generalize spendF b (l.take k) = S at *
  generalize spendF S.1 (l.drop k) = U at *
  simp only [spendV] at hA hB hC hD
  by_cases h6 : S.2.2 = 0
  · obtain ⟨q1, q2, q3⟩ := p2 h6
    have w3 : wrapI .i64 ((k : Int) + (U.2.1 : Int)) = (R.2.1 : Int) := by rw [wrap_in (by omega) (by omega)]; omega
    refine pure_of mixed Try.func11 rfl (by kernel_rfl) (of_decide_eq_true rfl) (by kernel_rfl) (vc_run ?_)
    ((try simp -implicitDefEqProofs [-loopQ_n, h2, h3, h5, h6, hk, hkl, w1, w2, w3, hne, e1, e2, e3, q1, q2, fracC]) <;> (repeat' (first | (refine condD_dec ?_ ?_ <;> (intro hc; (try simp -implicitDefEqProofs [-loopQ_n, hc, h2, h3, h5, h6, hk, hkl, w1, w2, w3, hne, e1, e2, e3, q1, q2, fracC]))) | (refine guardD_dec ?_ ?_ <;> (intro hc; (try simp -implicitDefEqProofs [-loopQ_n, hc, h2, h3, h5, h6, hk, hkl, w1, w2, w3, hne, e1, e2, e3, q1, q2, fracC]))) | (refine condD_intro ?_ ?_ <;> (intro hd; have hc := hd; (try simp at hc) <;> (try simp -implicitDefEqProofs [-loopQ_n, hd, hc, h2, h3, h5, h6, hk, hkl, w1, w2, w3, hne, e1, e2, e3, q1, q2, fracC]))) | (refine guardD_intro ?_ ?_ <;> (intro hd; have hc := hd; (try simp at hc) <;> (try simp -implicitDefEqProofs [-loopQ_n, hd, hc, h2, h3, h5, h6, hk, hkl, w1, w2, w3, hne, e1, e2, e3, q1, q2, fracC]))) | (refine ldD_ep ?_ ?_; (focus kernel_rfl); (try simp -implicitDefEqProofs [-loopQ_n, h2, h3, h5, h6, hk, hkl, w1, w2, w3, hne, e1, e2, e3, q1, q2, fracC])) | (refine callS_mk ?_; (try simp -implicitDefEqProofs [-loopQ_n, h2, h3, h5, h6, hk, hkl, w1, w2, w3, hne, e1, e2, e3, q1, q2, fracC]); (first | refine callS_intro (awake_pure) (.inl rfl) ?_ | refine callS_intro (hA) (.inl rfl) ?_ | refine callS_intro (hB) (.inl rfl) ?_ | refine callS_intro (hC) (.inl rfl) ?_ | refine callS_intro (hD) (.inl rfl) ?_); (try simp -implicitDefEqProofs [-loopQ_n, h2, h3, h5, h6, hk, hkl, w1, w2, w3, hne, e1, e2, e3, q1, q2, fracC])))))
  · obtain ⟨q1, q2⟩ := p1 h6
    have h7 : ¬ R.2.2 = 0 := by rw [← q1]; exact h6
    refine pure_of mixed Try.func11 rfl (by kernel_rfl) (of_decide_eq_true rfl) (by kernel_rfl) (vc_run ?_)
    ((try simp -implicitDefEqProofs [-loopQ_n, h2, h3, h5, h6, h7, hk, hkl, w1, w2, hne, e1, e2, e3, q1, q2, fracC]) <;> (repeat' (first | (refine condD_dec ?_ ?_ <;> (intro hc; (try simp -implicitDefEqProofs [-loopQ_n, hc, h2, h3, h5, h6, h7, hk, hkl, w1, w2, hne, e1, e2, e3, q1, q2, fracC]))) | (refine guardD_dec ?_ ?_ <;> (intro hc; (try simp -implicitDefEqProofs [-loopQ_n, hc, h2, h3, h5, h6, h7, hk, hkl, w1, w2, hne, e1, e2, e3, q1, q2, fracC]))) | (refine condD_intro ?_ ?_ <;> (intro hd; have hc := hd; (try simp at hc) <;> (try simp -implicitDefEqProofs [-loopQ_n, hd, hc, h2, h3, h5, h6, h7, hk, hkl, w1, w2, hne, e1, e2, e3, q1, q2, fracC]))) | (refine guardD_intro ?_ ?_ <;> (intro hd; have hc := hd; (try simp at hc) <;> (try simp -implicitDefEqProofs [-loopQ_n, hd, hc, h2, h3, h5, h6, h7, hk, hkl, w1, w2, hne, e1, e2, e3, q1, q2, fracC]))) | (refine ldD_ep ?_ ?_; (focus kernel_rfl); (try simp -implicitDefEqProofs [-loopQ_n, h2, h3, h5, h6, h7, hk, hkl, w1, w2, hne, e1, e2, e3, q1, q2, fracC])) | (refine callS_mk ?_; (try simp -implicitDefEqProofs [-loopQ_n, h2, h3, h5, h6, h7, hk, hkl, w1, w2, hne, e1, e2, e3, q1, q2, fracC]); (first | refine callS_intro (awake_pure) (.inl rfl) ?_ | refine callS_intro (hA) (.inl rfl) ?_ | refine callS_intro (hB) (.inl rfl) ?_ | refine callS_intro (hC) (.inl rfl) ?_ | refine callS_intro (hD) (.inl rfl) ?_); (try simp -implicitDefEqProofs [-loopQ_n, h2, h3, h5, h6, h7, hk, hkl, w1, w2, hne, e1, e2, e3, q1, q2, fracC])))))
theorem both (x0 : AV) (s0 : argS Try.prog 61 x0) (x1 : AV) (s1 : argS Try.prog 84 x1) (x2 : AV) (s2 : argS Try.prog 5 x2) : Pure Try.prog 11 [x0, x1, x2] (.bool true) := by
  obtain ⟨b, rfl, _⟩ := arg_frac s0
  obtain ⟨l, rfl, _, _⟩ := arg_fracs s1
  obtain ⟨t, rfl, t0, t1⟩ := arg_u8 s2
  exact main b l t t0 t1
theorem walk (W : World) (hvo : VarsOk W (fun _ => False)) (v0 : Value) (x0 : AV) (r0 : RO W (fun _ => False) x0 v0) (s0 : argS Try.prog 61 x0) (v1 : Value) (x1 : AV) (r1 : RO W (fun _ => False) x1 v1) (s1 : argS Try.prog 84 x1) (v2 : Value) (x2 : AV) (r2 : RO W (fun _ => False) x2 v2) (s2 : argS Try.prog 5 x2) :
    Calls Try.prog 11 #[v0, v1, v2] W fun e w' => e = .returned (.bool true) ∧ Below W.heap.size W w' := by
  refine ((both x0 s0 x1 s1 x2 s2).2 W (fun _ => False) _ (fun _ h => h.elim) hvo rfl ?_).mono ?_
  · intro j x v hj hv
    match j with
    | 0 => simp at hj hv; subst hj hv; exact r0
    | 1 => simp at hj hv; subst hj hv; exact r1
    | 2 => simp at hj hv; subst hj hv; exact r2
    | j + 3 => simp at hj
  · rintro e w' ⟨v, rfl, hv, hb⟩
    rw [ro_tt hv]
    exact ⟨rfl, hb⟩
end
set_option maxRecDepth 100000 in
theorem lifted (os : Os) (started : os.Started) (H : Type) (enc : TypeId × Value → H) :
    ReturnsInHanded {} Try.checked os 11 .any (Rows.privacySpendsSpec.pre6 enc Try.prog Try.f11 Rows.privacySpendsRow.domain false) (Rows.privacySpendsSpec.post enc Try.prog Try.f11 false true false false) := by
  refine returnsInHanded_of_change (C := Try.checked) (@ownK ⟨fun _ => none⟩) started (by kernel_rfl) Try.func11
    (ChangeSpec.witness6 (enc := enc) (C := Try.checked) false ⟨#[], #[.agg #[.int .i64 0, .int .i64 0], .slice none 0 0, .int .u8 0], []⟩ 8 (by kernel_rfl) (by kernel_rfl) (by kernel_rfl) (by kernel_rfl)) ?_
  intro W base args ds gs before hval0 hW hcnd _
  have hval : ∀ (j : Nat) t v, Try.f11.params[j]? = some t → args[j]? = some v → Value.okWide Try.prog W .any base t v := hval0
  have hW' := hW
  obtain ⟨p, q, hA0, hV, rfl, hfz, hnd⟩ := hW
  have hA : DataW.TrodAll enc Try.prog W 0 (fun _ => true) true Try.f11.params.toList args.toList ds p := hA0
  rw [Try.params11] at hA hval
  obtain ⟨v0, vs0, d0, ds0, p0, q0, hargs, rfl, rfl, h0, r0⟩ := trodAll_cons hA
  obtain ⟨v1, vs1, d1, ds1, p1, q1, rfl, rfl, rfl, h1, r1⟩ := trodAll_cons r0
  obtain ⟨v2, vs2, d2, ds2, p2, q2, rfl, rfl, rfl, h2, r2⟩ := trodAll_cons r1
  obtain ⟨rfl, rfl, rfl⟩ := trodAll_nil r2
  obtain rfl : args = #[v0, v1, v2] := by cases args; simp_all
  obtain ⟨rfl, rfl⟩ := trodVars_none hV
  letI : Glob := ⟨fun _ => none⟩
  have k0 := h0
  have lt0 : ∀ x ∈ p0, x.block < W.heap.size := by obtain ⟨m, hm⟩ := k0; exact DataW.trod_lt m _ _ _ hm
  obtain ⟨x0, y0, s0⟩ := arg_open (P := Try.prog) (t := 61) (by kernel_rfl) (by kernel_rfl) (hval 0 61 v0 rfl rfl) h0
  have k1 := h1
  have lt1 : ∀ x ∈ p1, x.block < W.heap.size := by obtain ⟨m, hm⟩ := k1; exact DataW.trod_lt m _ _ _ hm
  obtain ⟨x1, y1, s1⟩ := arg_open (P := Try.prog) (t := 84) (by kernel_rfl) (by kernel_rfl) (hval 1 84 v1 rfl rfl) h1
  have k2 := h2
  have lt2 : ∀ x ∈ p2, x.block < W.heap.size := by obtain ⟨m, hm⟩ := k2; exact DataW.trod_lt m _ _ _ hm
  obtain ⟨x2, y2, s2⟩ := arg_open (P := Try.prog) (t := 5) (by kernel_rfl) (by kernel_rfl) (hval 2 5 v2 rfl rfl) h2
  clear hA0 hval0
  refine (walk W (fun g row h => by cases h) v0 x0 y0 s0 v1 x1 y1 s1 v2 x2 y2 s2).mono fun e W' ⟨he, bel⟩ => ?_
  subst he
  exact ⟨_, rfl, _, _, _, [], _, [], hW', trodAll_mk1 (shut_bool Try.underlying4 _), (trodAll_cons_mk (Below.trod laidK (by kernel_rfl) (of_decide_eq_true (by kernel_rfl)) k0 bel lt0) (trodAll_cons_mk (Below.trod laidK (by kernel_rfl) (of_decide_eq_true (by kernel_rfl)) k1 bel lt1) (trodAll_cons_mk (Below.trod laidK (by kernel_rfl) (of_decide_eq_true (by kernel_rfl)) k2 bel lt2) trodAll_mk0))), rfl, bel.frame _, fun h => by cases h⟩

theorem over : Rows.privacySpendsRow.holds Try.pinned (OpenSpec.ofChange Rows.privacySpendsSpec) :=
  OpenClaim.holds_of_wide 11 Try.f11 rfl rfl rfl rfl rfl rfl rfl ⟨rfl, rfl, rfl, rfl, rfl⟩ rfl rfl rfl rfl rfl (by kernel_rfl) Try.func11 (by kernel_rfl)
    (of_decide_eq_true (by kernel_rfl)) (by unfold Func.isWrapper; first | (rw [if_pos (by decide +kernel)]; kernel_rfl) | (rw [if_neg (by decide +kernel)]; exact ⟨rfl, rfl⟩))
    (fun os started H enc _ => lifted os started H enc)

theorem proved : Rows.PrivacySpendsSaid := over
end Go.Proofs.Ytkppfaennogcmaa.lawPSpends
