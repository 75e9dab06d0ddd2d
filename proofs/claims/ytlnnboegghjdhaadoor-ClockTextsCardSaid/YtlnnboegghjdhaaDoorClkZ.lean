/- Texts of instants: Text, both sides. -/
import Derived.Test.YtlnnboegghjdhaaDoorClkY
namespace Go.Proofs.YtlnnboegghjdhaaDoor
set_option linter.unusedSimpArgs false
set_option linter.unusedVariables false
set_option linter.unnecessarySimpa false
set_option linter.unusedSectionVars false
open Go.RowKit
variable [Glob]
set_option maxRecDepth 100000
noncomputable def textR (t : Int) : AV := if inst t = true then .tup [.str (sb (textL t)), .int .i64 0] else .tup [.str (sb []), .int .i64 2]
theorem dec9 {n : Nat} (h : n ≤ 1099511627776) : (Lib.decDigits (n / 1440)).length ≤ 9 := by
  refine (dec_ok (n / 1440)).2.2.2.2.2 8 ?_
  have : p10 9 = 1000000000 := by decide
  rw [this]; omega
set_option maxHeartbeats 4000000 in
theorem text_pure (hx : Glob.exact 1 = some (Lib.pow10Tab.map fun z => Value.int .u64 z).toArray) (t : Int) : Pure Tryd.prog 5 [.int .i64 t] (textR t) := by
  have hi := instant_pure t
  unfold textR
  cases hv : inst t with
  | false =>
    rw [hv] at hi
    refine pure_of mixed Tryd.func5 rfl (by kernel_rfl) (of_decide_eq_true rfl) (by kernel_rfl) (vc_run ?_)
    ((try simp -implicitDefEqProofs [-loopQ_n, sb]) <;> (repeat' (first | (refine condD_dec ?_ ?_ <;> (intro hc; (try simp -implicitDefEqProofs [-loopQ_n, hc, sb]))) | (refine guardD_dec ?_ ?_ <;> (intro hc; (try simp -implicitDefEqProofs [-loopQ_n, hc, sb]))) | (refine condD_intro ?_ ?_ <;> (intro hd; have hc := hd; (try simp at hc) <;> (try simp -implicitDefEqProofs [-loopQ_n, hd, hc, sb]))) | (refine guardD_intro ?_ ?_ <;> (intro hd; have hc := hd; (try simp at hc) <;> (try simp -implicitDefEqProofs [-loopQ_n, hd, hc, sb]))) | (refine ldD_ep ?_ ?_; (focus kernel_rfl); (try simp -implicitDefEqProofs [-loopQ_n, sb])) | (refine callS_mk ?_; (try simp -implicitDefEqProofs [-loopQ_n, sb]); (first | refine callS_intro (hi) (.inl rfl) ?_); (try simp -implicitDefEqProofs [-loopQ_n, sb])))))
  | true =>
    rw [hv] at hi
    have hv' := hv
    simp only [inst, Bool.and_eq_true, decide_eq_true_eq] at hv'
    obtain ⟨n, rfl⟩ : ∃ n : Nat, t = n := ⟨t.toNat, by omega⟩
    have hI := itoa_pure hx (n / 1440) (by omega)
    have h1 := two_pure (n % 1440 / 60) (by omega)
    have h2 := two_pure (n % 60) (by omega)
    have hK := dec9 (n := n) (by omega)
    have e1 : ((n / 1440 : Nat) : Int) = (n : Int) / 1440 := by omega
    have e2 : ((n % 1440 / 60 : Nat) : Int) = (n : Int) % 1440 / 60 := by omega
    have e3 : ((n % 60 : Nat) : Int) = (n : Int) % 60 := by omega
    rw [e1] at hI
    rw [e2] at h1
    rw [e3] at h2
    have q1 : wrapI .i64 ((n : Int) / 1440) = (n : Int) / 1440 := wrap_in (by omega) (by omega)
    have q2 : ((n : Int)).tmod 1440 = (n : Int) % 1440 := Int.tmod_eq_emod_of_nonneg (by omega)
    have q3 : ((n : Int) % 1440).tdiv 60 = (n : Int) % 1440 / 60 := Int.tdiv_eq_ediv_of_nonneg (by omega)
    have q4 : wrapI .i64 ((n : Int) % 1440 / 60) = (n : Int) % 1440 / 60 := wrap_in (by omega) (by omega)
    have q5 : ((n : Int)).tmod 60 = (n : Int) % 60 := Int.tmod_eq_emod_of_nonneg (by omega)
    have c1 : ({ data := #[100, 32] } : ByteArray) = sb [100, 32] := rfl
    have c2 : ({ data := #[58] } : ByteArray) = sb [58] := rfl
    have ht : textL n = Lib.decDigits (n / 1440) ++ ([100, 32] ++ (twoL ((n : Int) % 1440 / 60) ++ ([58] ++ twoL ((n : Int) % 60)))) := by
      unfold textL
      rw [show ((n : Int) / 1440).toNat = n / 1440 by omega]
    rw [ht]
    clear ht
    have l1 : (twoL ((n : Int) % 1440 / 60)).length = 2 := rfl
    have l2 : (twoL ((n : Int) % 60)).length = 2 := rfl
    generalize Lib.decDigits (n / 1440) = D at *
    generalize twoL ((n : Int) % 1440 / 60) = A at *
    generalize twoL ((n : Int) % 60) = B at *
    have k1 : D.length ≤ 1073741823 := by omega
    have k2 : D.length ≤ 1073741822 := by omega
    have k3 : D.length ≤ 1073741821 := by omega
    have k4 : D.length ≤ 1073741820 := by omega
    have k5 : D.length ≤ 1073741819 := by omega
    have k6 : D.length ≤ 1073741818 := by omega
    have k7 : D.length ≤ 1073741817 := by omega
    have k8 : D.length ≤ 1073741816 := by omega
    refine pure_of mixed Tryd.func5 rfl (by kernel_rfl) (of_decide_eq_true rfl) (by kernel_rfl) (vc_run ?_)
    ((try simp -implicitDefEqProofs [-loopQ_n, k1, k2, k3, k4, k5, k6, k7, k8, q1, q2, q3, q4, q5, c1, c2, sb_app, sb_size, l1, l2]) <;> (repeat' (first | (refine condD_dec ?_ ?_ <;> (intro hc; (try simp -implicitDefEqProofs [-loopQ_n, hc, k1, k2, k3, k4, k5, k6, k7, k8, q1, q2, q3, q4, q5, c1, c2, sb_app, sb_size, l1, l2]))) | (refine guardD_dec ?_ ?_ <;> (intro hc; (try simp -implicitDefEqProofs [-loopQ_n, hc, k1, k2, k3, k4, k5, k6, k7, k8, q1, q2, q3, q4, q5, c1, c2, sb_app, sb_size, l1, l2]))) | (refine condD_intro ?_ ?_ <;> (intro hd; have hc := hd; (try simp at hc) <;> (try simp -implicitDefEqProofs [-loopQ_n, hd, hc, k1, k2, k3, k4, k5, k6, k7, k8, q1, q2, q3, q4, q5, c1, c2, sb_app, sb_size, l1, l2]))) | (refine guardD_intro ?_ ?_ <;> (intro hd; have hc := hd; (try simp at hc) <;> (try simp -implicitDefEqProofs [-loopQ_n, hd, hc, k1, k2, k3, k4, k5, k6, k7, k8, q1, q2, q3, q4, q5, c1, c2, sb_app, sb_size, l1, l2]))) | (refine ldD_ep ?_ ?_; (focus kernel_rfl); (try simp -implicitDefEqProofs [-loopQ_n, k1, k2, k3, k4, k5, k6, k7, k8, q1, q2, q3, q4, q5, c1, c2, sb_app, sb_size, l1, l2])) | (refine callS_mk ?_; (try simp -implicitDefEqProofs [-loopQ_n, k1, k2, k3, k4, k5, k6, k7, k8, q1, q2, q3, q4, q5, c1, c2, sb_app, sb_size, l1, l2]); (first | refine callS_intro (hi) (.inl rfl) ?_ | refine callS_intro (hI) (.inl rfl) ?_ | refine callS_intro (h1) (.inl rfl) ?_ | refine callS_intro (h2) (.inl rfl) ?_); (try simp -implicitDefEqProofs [-loopQ_n, k1, k2, k3, k4, k5, k6, k7, k8, q1, q2, q3, q4, q5, c1, c2, sb_app, sb_size, l1, l2])))))
set_option maxHeartbeats 4000000 in
theorem rtext_pure (t : Int) : Pure Tryd.prog 6 [.int .i64 t] (textR t) := by
  have hi := rinstant_pure t
  unfold textR
  cases hv : inst t with
  | false =>
    rw [hv] at hi
    refine pure_of mixed Tryd.func6 rfl (by kernel_rfl) (of_decide_eq_true rfl) (by kernel_rfl) (vc_run ?_)
    ((try simp -implicitDefEqProofs [-loopQ_n, sb]) <;> (repeat' (first | (refine condD_dec ?_ ?_ <;> (intro hc; (try simp -implicitDefEqProofs [-loopQ_n, hc, sb]))) | (refine guardD_dec ?_ ?_ <;> (intro hc; (try simp -implicitDefEqProofs [-loopQ_n, hc, sb]))) | (refine condD_intro ?_ ?_ <;> (intro hd; have hc := hd; (try simp at hc) <;> (try simp -implicitDefEqProofs [-loopQ_n, hd, hc, sb]))) | (refine guardD_intro ?_ ?_ <;> (intro hd; have hc := hd; (try simp at hc) <;> (try simp -implicitDefEqProofs [-loopQ_n, hd, hc, sb]))) | (refine ldD_ep ?_ ?_; (focus kernel_rfl); (try simp -implicitDefEqProofs [-loopQ_n, sb])) | (refine callS_mk ?_; (try simp -implicitDefEqProofs [-loopQ_n, sb]); (first | refine callS_intro (hi) (.inl rfl) ?_); (try simp -implicitDefEqProofs [-loopQ_n, sb])))))
  | true =>
    rw [hv] at hi
    have hv' := hv
    simp only [inst, Bool.and_eq_true, decide_eq_true_eq] at hv'
    obtain ⟨n, rfl⟩ : ∃ n : Nat, t = n := ⟨t.toNat, by omega⟩
    have hI := rdec_pure (n / 1440) (by omega)
    have h1 := rtwo_pure (n % 1440 / 60) (by omega)
    have h2 := rtwo_pure (n % 60) (by omega)
    have hK := dec9 (n := n) (by omega)
    have e1 : ((n / 1440 : Nat) : Int) = (n : Int) / 1440 := by omega
    have e2 : ((n % 1440 / 60 : Nat) : Int) = (n : Int) % 1440 / 60 := by omega
    have e3 : ((n % 60 : Nat) : Int) = (n : Int) % 60 := by omega
    rw [e1] at hI
    rw [e2] at h1
    rw [e3] at h2
    have q1 : wrapI .i64 ((n : Int) / 1440) = (n : Int) / 1440 := wrap_in (by omega) (by omega)
    have q2 : ((n : Int)).tmod 1440 = (n : Int) % 1440 := Int.tmod_eq_emod_of_nonneg (by omega)
    have q3 : ((n : Int) % 1440).tdiv 60 = (n : Int) % 1440 / 60 := Int.tdiv_eq_ediv_of_nonneg (by omega)
    have q4 : wrapI .i64 ((n : Int) % 1440 / 60) = (n : Int) % 1440 / 60 := wrap_in (by omega) (by omega)
    have q5 : ((n : Int) % 1440).tmod 60 = (n : Int) % 60 := by rw [Int.tmod_eq_emod_of_nonneg (by omega)]; omega
    have c1 : ({ data := #[100, 32] } : ByteArray) = sb [100, 32] := rfl
    have c2 : ({ data := #[58] } : ByteArray) = sb [58] := rfl
    have ht : textL n = Lib.decDigits (n / 1440) ++ ([100, 32] ++ (twoL ((n : Int) % 1440 / 60) ++ ([58] ++ twoL ((n : Int) % 60)))) := by
      unfold textL
      rw [show ((n : Int) / 1440).toNat = n / 1440 by omega]
    rw [ht]
    clear ht
    have l1 : (twoL ((n : Int) % 1440 / 60)).length = 2 := rfl
    have l2 : (twoL ((n : Int) % 60)).length = 2 := rfl
    generalize Lib.decDigits (n / 1440) = D at *
    generalize twoL ((n : Int) % 1440 / 60) = A at *
    generalize twoL ((n : Int) % 60) = B at *
    have k1 : D.length ≤ 1073741823 := by omega
    have k2 : D.length ≤ 1073741822 := by omega
    have k3 : D.length ≤ 1073741821 := by omega
    have k4 : D.length ≤ 1073741820 := by omega
    have k5 : D.length ≤ 1073741819 := by omega
    have k6 : D.length ≤ 1073741818 := by omega
    have k7 : D.length ≤ 1073741817 := by omega
    have k8 : D.length ≤ 1073741816 := by omega
    refine pure_of mixed Tryd.func6 rfl (by kernel_rfl) (of_decide_eq_true rfl) (by kernel_rfl) (vc_run ?_)
    ((try simp -implicitDefEqProofs [-loopQ_n, k1, k2, k3, k4, k5, k6, k7, k8, q1, q2, q3, q4, q5, c1, c2, sb_app, sb_size, l1, l2]) <;> (repeat' (first | (refine condD_dec ?_ ?_ <;> (intro hc; (try simp -implicitDefEqProofs [-loopQ_n, hc, k1, k2, k3, k4, k5, k6, k7, k8, q1, q2, q3, q4, q5, c1, c2, sb_app, sb_size, l1, l2]))) | (refine guardD_dec ?_ ?_ <;> (intro hc; (try simp -implicitDefEqProofs [-loopQ_n, hc, k1, k2, k3, k4, k5, k6, k7, k8, q1, q2, q3, q4, q5, c1, c2, sb_app, sb_size, l1, l2]))) | (refine condD_intro ?_ ?_ <;> (intro hd; have hc := hd; (try simp at hc) <;> (try simp -implicitDefEqProofs [-loopQ_n, hd, hc, k1, k2, k3, k4, k5, k6, k7, k8, q1, q2, q3, q4, q5, c1, c2, sb_app, sb_size, l1, l2]))) | (refine guardD_intro ?_ ?_ <;> (intro hd; have hc := hd; (try simp at hc) <;> (try simp -implicitDefEqProofs [-loopQ_n, hd, hc, k1, k2, k3, k4, k5, k6, k7, k8, q1, q2, q3, q4, q5, c1, c2, sb_app, sb_size, l1, l2]))) | (refine ldD_ep ?_ ?_; (focus kernel_rfl); (try simp -implicitDefEqProofs [-loopQ_n, k1, k2, k3, k4, k5, k6, k7, k8, q1, q2, q3, q4, q5, c1, c2, sb_app, sb_size, l1, l2])) | (refine callS_mk ?_; (try simp -implicitDefEqProofs [-loopQ_n, k1, k2, k3, k4, k5, k6, k7, k8, q1, q2, q3, q4, q5, c1, c2, sb_app, sb_size, l1, l2]); (first | refine callS_intro (hi) (.inl rfl) ?_ | refine callS_intro (hI) (.inl rfl) ?_ | refine callS_intro (h1) (.inl rfl) ?_ | refine callS_intro (h2) (.inl rfl) ?_); (try simp -implicitDefEqProofs [-loopQ_n, k1, k2, k3, k4, k5, k6, k7, k8, q1, q2, q3, q4, q5, c1, c2, sb_app, sb_size, l1, l2])))))
/-! Parse. -/
theorem sb_get {l : Bt} {i : Nat} {c : UInt8} (h : l[i]? = some c) : (sb l).data[i]? = some c := by simpa [sb] using h
theorem digR_good {D : Bt} {k : Nat} (h1 : D.all dg = true) (h2 : 1 ≤ D.length) (h3 : D.length ≤ k) : digR D k = (val 0 D, true) := by
  unfold digR
  rw [if_neg, if_pos h1]
  rintro (q | q)
  · rw [q] at h2; simp at h2
  · omega
theorem digR_true {D : Bt} {k : Nat} {v : Int} (h : digR D k = (v, true)) : D.all dg = true ∧ 1 ≤ D.length ∧ D.length ≤ k ∧ v = val 0 D := by
  unfold digR at h
  split at h
  · simp at h
  · rename_i q
    split at h
    · rename_i h1
      simp only [Prod.mk.injEq, and_true] at h
      refine ⟨h1, ?_, by omega, h.symm⟩
      cases D with
      | nil => exact absurd (.inl rfl) q
      | cons _ _ => simp
    · simp at h
theorem digR_two {a b : UInt8} : digR [a, b] 2 = if dg a = true ∧ dg b = true then (10 * dv a + dv b, true) else (0, false) := by
  unfold digR
  rw [if_neg (by simp)]
  by_cases h : dg a = true ∧ dg b = true
  · rw [if_pos (by simp [h.1, h.2]), if_pos h]
    simp [val]
  · rw [if_neg (by simpa using h), if_neg h]
theorem ext1 {a b e c d : UInt8} : (sb [a, b, e, c, d]).extract 0 2 = sb [a, b] := by
  apply ByteArray.ext; simp [sb]
theorem ext2 {a b e c d : UInt8} : (sb [a, b, e, c, d]).extract 3 5 = sb [c, d] := by
  apply ByteArray.ext; simp [sb]
def parT (R : Int × Int) : AV := .tup [.int .i64 R.1, .int .i64 R.2]
set_option maxHeartbeats 8000000 in
theorem parse_pure {m : Int} (hg : Glob.row 0 = some [.int .i64 m]) (s : ByteArray) (hs : s.size ≤ 1000) : Pure Tryd.prog 7 [.str s] (parT (parseL (bl s))) := by
  have hcut := cut_pure hg s ⟨#[100, 32]⟩ (by omega)
  have hgood : ∀ D a b c d, Good (bl s) D a b c d → Lib.cut (bl s) [100, 32] = (D, [a, b, 58, c, d], true) := fun D a b c d h => by
    rw [h.eq]; exact cut_good h.dig
  have hsome : (Lib.cut (bl s) [100, 32]).2.2 = true → bl s = (Lib.cut (bl s) [100, 32]).1 ++ 100 :: 32 :: (Lib.cut (bl s) [100, 32]).2.1 := cut_some
  obtain ⟨R, hR⟩ : ∃ R, parseL (bl s) = R := ⟨_, rfl⟩
  have rbad : (∀ D a b c d, ¬ Good (bl s) D a b c d) → R = (0, 3) := fun h => by rw [← hR, parseL_bad h]
  have rgood : ∀ D a b c d, Good (bl s) D a b c d → R = finV D a b c d := fun D a b c d h => by rw [← hR, parseL_good h]
  have hcl : (bl s).length = s.size := by simp [bl]
  rw [hR]
  clear hR
  change Pure Tryd.prog 18 [.str s, .str ⟨#[100, 32]⟩] (.tup [.str (sb (Lib.cut (bl s) [100, 32]).1), .str (sb (Lib.cut (bl s) [100, 32]).2.1), .bool (Lib.cut (bl s) [100, 32]).2.2]) at hcut
  generalize Lib.cut (bl s) [100, 32] = C at *
  obtain ⟨days, rest, ok⟩ := C
  simp only at hcut hgood hsome
  have hD := digits_pure (sb days) 9 (by omega)
  rw [bl_sb] at hD
  obtain ⟨dr, hdr⟩ : ∃ dr, digR days 9 = dr := ⟨_, rfl⟩
  rw [hdr] at hD
  obtain ⟨dv_, dok⟩ := dr
  cases ok with
  | false =>
    have := rbad fun D a b c d h => by have := hgood D a b c d h; simp at this
    subst this
    refine pure_of mixed Tryd.func7 rfl (by kernel_rfl) (of_decide_eq_true rfl) (by kernel_rfl) (vc_run ?_)
    ((try simp -implicitDefEqProofs [-loopQ_n, parT]) <;> (repeat' (first | (refine condD_dec ?_ ?_ <;> (intro hc; (try simp -implicitDefEqProofs [-loopQ_n, hc, parT]))) | (refine guardD_dec ?_ ?_ <;> (intro hc; (try simp -implicitDefEqProofs [-loopQ_n, hc, parT]))) | (refine condD_intro ?_ ?_ <;> (intro hd; have hc := hd; (try simp at hc) <;> (try simp -implicitDefEqProofs [-loopQ_n, hd, hc, parT]))) | (refine guardD_intro ?_ ?_ <;> (intro hd; have hc := hd; (try simp at hc) <;> (try simp -implicitDefEqProofs [-loopQ_n, hd, hc, parT]))) | (refine ldD_ep ?_ ?_; (focus kernel_rfl); (try simp -implicitDefEqProofs [-loopQ_n, parT])) | (refine callS_mk ?_; (try simp -implicitDefEqProofs [-loopQ_n, parT]); (first | refine callS_intro (hcut) (.inl rfl) ?_ | refine callS_intro (hD) (.inl rfl) ?_); (try simp -implicitDefEqProofs [-loopQ_n, parT])))))
  | true =>
  have hl := hsome rfl
  cases dok with
  | false =>
    have := rbad fun D a b c d h => by
      have h1 := hgood D a b c d h
      simp only [Prod.mk.injEq] at h1
      rw [h1.1, digR_good h.dig h.pos h.nine] at hdr
      simp at hdr
    subst this
    refine pure_of mixed Tryd.func7 rfl (by kernel_rfl) (of_decide_eq_true rfl) (by kernel_rfl) (vc_run ?_)
    ((try simp -implicitDefEqProofs [-loopQ_n, parT]) <;> (repeat' (first | (refine condD_dec ?_ ?_ <;> (intro hc; (try simp -implicitDefEqProofs [-loopQ_n, hc, parT]))) | (refine guardD_dec ?_ ?_ <;> (intro hc; (try simp -implicitDefEqProofs [-loopQ_n, hc, parT]))) | (refine condD_intro ?_ ?_ <;> (intro hd; have hc := hd; (try simp at hc) <;> (try simp -implicitDefEqProofs [-loopQ_n, hd, hc, parT]))) | (refine guardD_intro ?_ ?_ <;> (intro hd; have hc := hd; (try simp at hc) <;> (try simp -implicitDefEqProofs [-loopQ_n, hd, hc, parT]))) | (refine ldD_ep ?_ ?_; (focus kernel_rfl); (try simp -implicitDefEqProofs [-loopQ_n, parT])) | (refine callS_mk ?_; (try simp -implicitDefEqProofs [-loopQ_n, parT]); (first | refine callS_intro (hcut) (.inl rfl) ?_ | refine callS_intro (hD) (.inl rfl) ?_); (try simp -implicitDefEqProofs [-loopQ_n, parT])))))
  | true =>
  obtain ⟨d1, d2, d3, d4⟩ := digR_true hdr
  subst d4
  obtain ⟨x, r, rfl⟩ : ∃ x r, days = x :: r := by cases days with | nil => simp at d2 | cons x r => exact ⟨x, r, rfl⟩
  have gx : (sb (x :: r)).data[0]? = some x := by simp [sb]
  have gxE : ∀ h : 0 < (sb (x :: r)).data.size, (sb (x :: r)).data[0]'h = x := fun h => by rw [Array.getElem?_eq_getElem h] at gx; exact Option.some.inj gx
  have hsz : (sb (x :: r)).size = r.length + 1 := by rw [sb_size]; simp
  by_cases c3 : 0 < r.length ∧ x.toNat = 48
  · have := rbad fun D a b c d h => by
      have h1 := hgood D a b c d h
      simp only [Prod.mk.injEq] at h1
      refine h.lead ⟨by rw [← h1.1]; simp; omega, ?_⟩
      rw [← h1.1]
      exact congrArg some (UInt8.toNat_inj.1 c3.2)
    subst this
    obtain ⟨c3, c3'⟩ := c3
    refine pure_of mixed Tryd.func7 rfl (by kernel_rfl) (of_decide_eq_true rfl) (by kernel_rfl) (vc_run ?_)
    ((try simp -implicitDefEqProofs [-loopQ_n, parT, gx, gxE, hsz, c3, c3']) <;> (repeat' (first | (refine condD_dec ?_ ?_ <;> (intro hc; (try simp -implicitDefEqProofs [-loopQ_n, hc, parT, gx, gxE, hsz, c3, c3']))) | (refine guardD_dec ?_ ?_ <;> (intro hc; (try simp -implicitDefEqProofs [-loopQ_n, hc, parT, gx, gxE, hsz, c3, c3']))) | (refine condD_intro ?_ ?_ <;> (intro hd; have hc := hd; (try simp at hc) <;> (try simp -implicitDefEqProofs [-loopQ_n, hd, hc, parT, gx, gxE, hsz, c3, c3']))) | (refine guardD_intro ?_ ?_ <;> (intro hd; have hc := hd; (try simp at hc) <;> (try simp -implicitDefEqProofs [-loopQ_n, hd, hc, parT, gx, gxE, hsz, c3, c3']))) | (refine ldD_ep ?_ ?_; (focus kernel_rfl); (try simp -implicitDefEqProofs [-loopQ_n, parT, gx, gxE, hsz, c3, c3'])) | (refine callS_mk ?_; (try simp -implicitDefEqProofs [-loopQ_n, parT, gx, gxE, hsz, c3, c3']); (first | refine callS_intro (hcut) (.inl rfl) ?_ | refine callS_intro (hD) (.inl rfl) ?_); (try simp -implicitDefEqProofs [-loopQ_n, parT, gx, gxE, hsz, c3, c3'])))))
    all_goals (exfalso; omega)
  by_cases c4 : rest.length = 5
  rotate_left
  · have := rbad fun D a b c d h => by
      have h1 := hgood D a b c d h
      simp only [Prod.mk.injEq] at h1
      rw [h1.2.1] at c4; simp at c4
    subst this
    have c4i : ¬ (rest.length : Int) = 5 := by omega
    by_cases c5 : 0 < r.length
    · have c6 : ¬ x.toNat = 48 := fun q => c3 ⟨c5, q⟩
      refine pure_of mixed Tryd.func7 rfl (by kernel_rfl) (of_decide_eq_true rfl) (by kernel_rfl) (vc_run ?_)
      ((try simp -implicitDefEqProofs [-loopQ_n, parT, gx, gxE, hsz, c4, c4i, c5, c6, sb_size]) <;> (repeat' (first | (refine condD_dec ?_ ?_ <;> (intro hc; (try simp -implicitDefEqProofs [-loopQ_n, hc, parT, gx, gxE, hsz, c4, c4i, c5, c6, sb_size]))) | (refine guardD_dec ?_ ?_ <;> (intro hc; (try simp -implicitDefEqProofs [-loopQ_n, hc, parT, gx, gxE, hsz, c4, c4i, c5, c6, sb_size]))) | (refine condD_intro ?_ ?_ <;> (intro hd; have hc := hd; (try simp at hc) <;> (try simp -implicitDefEqProofs [-loopQ_n, hd, hc, parT, gx, gxE, hsz, c4, c4i, c5, c6, sb_size]))) | (refine guardD_intro ?_ ?_ <;> (intro hd; have hc := hd; (try simp at hc) <;> (try simp -implicitDefEqProofs [-loopQ_n, hd, hc, parT, gx, gxE, hsz, c4, c4i, c5, c6, sb_size]))) | (refine ldD_ep ?_ ?_; (focus kernel_rfl); (try simp -implicitDefEqProofs [-loopQ_n, parT, gx, gxE, hsz, c4, c4i, c5, c6, sb_size])) | (refine callS_mk ?_; (try simp -implicitDefEqProofs [-loopQ_n, parT, gx, gxE, hsz, c4, c4i, c5, c6, sb_size]); (first | refine callS_intro (hcut) (.inl rfl) ?_ | refine callS_intro (hD) (.inl rfl) ?_); (try simp -implicitDefEqProofs [-loopQ_n, parT, gx, gxE, hsz, c4, c4i, c5, c6, sb_size])))))
      all_goals (exfalso; omega)
    · have c6 : r.length = 0 := by omega
      refine pure_of mixed Tryd.func7 rfl (by kernel_rfl) (of_decide_eq_true rfl) (by kernel_rfl) (vc_run ?_)
      ((try simp -implicitDefEqProofs [-loopQ_n, parT, gx, gxE, hsz, c4, c4i, c5, c6, sb_size]) <;> (repeat' (first | (refine condD_dec ?_ ?_ <;> (intro hc; (try simp -implicitDefEqProofs [-loopQ_n, hc, parT, gx, gxE, hsz, c4, c4i, c5, c6, sb_size]))) | (refine guardD_dec ?_ ?_ <;> (intro hc; (try simp -implicitDefEqProofs [-loopQ_n, hc, parT, gx, gxE, hsz, c4, c4i, c5, c6, sb_size]))) | (refine condD_intro ?_ ?_ <;> (intro hd; have hc := hd; (try simp at hc) <;> (try simp -implicitDefEqProofs [-loopQ_n, hd, hc, parT, gx, gxE, hsz, c4, c4i, c5, c6, sb_size]))) | (refine guardD_intro ?_ ?_ <;> (intro hd; have hc := hd; (try simp at hc) <;> (try simp -implicitDefEqProofs [-loopQ_n, hd, hc, parT, gx, gxE, hsz, c4, c4i, c5, c6, sb_size]))) | (refine ldD_ep ?_ ?_; (focus kernel_rfl); (try simp -implicitDefEqProofs [-loopQ_n, parT, gx, gxE, hsz, c4, c4i, c5, c6, sb_size])) | (refine callS_mk ?_; (try simp -implicitDefEqProofs [-loopQ_n, parT, gx, gxE, hsz, c4, c4i, c5, c6, sb_size]); (first | refine callS_intro (hcut) (.inl rfl) ?_ | refine callS_intro (hD) (.inl rfl) ?_); (try simp -implicitDefEqProofs [-loopQ_n, parT, gx, gxE, hsz, c4, c4i, c5, c6, sb_size])))))
      all_goals (exfalso; omega)
  obtain ⟨a, b, e, c, d, rfl⟩ : ∃ a b e c d, rest = [a, b, e, c, d] := by
    match rest, c4 with
    | [a, b, e, c, d], _ => exact ⟨a, b, e, c, d, rfl⟩
  have ge : (sb [a, b, e, c, d]).data[2]? = some e := by simp [sb]
  have geE : ∀ h : 2 < (sb [a, b, e, c, d]).data.size, (sb [a, b, e, c, d]).data[2]'h = e := fun h => by rw [Array.getElem?_eq_getElem h] at ge; exact Option.some.inj ge
  have hs5 : (sb [a, b, e, c, d]).size = 5 := by rw [sb_size]; rfl
  have hh := digits_pure (sb [a, b]) 2 (by omega)
  have hm := digits_pure (sb [c, d]) 2 (by omega)
  rw [bl_sb] at hh hm
  have c33 : 0 < r.length → ¬ x.toNat = 48 := fun q q' => c3 ⟨q, q'⟩
  by_cases c5 : e.toNat = 58
  rotate_left
  · have := rbad fun D a b c d h => by
      have h1 := hgood D a b c d h
      simp only [Prod.mk.injEq, List.cons.injEq] at h1
      exact c5 (by rw [h1.2.1.2.2.1]; rfl)
    subst this
    have c5i : ¬ (e.toNat : Int) = 58 := by omega
    by_cases c6 : 0 < r.length
    · have c7 := c33 c6
      have c6i : (1 : Int) < r.length + 1 := by omega
      refine pure_of mixed Tryd.func7 rfl (by kernel_rfl) (of_decide_eq_true rfl) (by kernel_rfl) (vc_run ?_)
      ((try simp -implicitDefEqProofs [-loopQ_n, parT, gx, gxE, hsz, ge, geE, hs5, c5, c5i, c6, c6i, c7]) <;> (repeat' (first | (refine condD_dec ?_ ?_ <;> (intro hc; (try simp -implicitDefEqProofs [-loopQ_n, hc, parT, gx, gxE, hsz, ge, geE, hs5, c5, c5i, c6, c6i, c7]))) | (refine guardD_dec ?_ ?_ <;> (intro hc; (try simp -implicitDefEqProofs [-loopQ_n, hc, parT, gx, gxE, hsz, ge, geE, hs5, c5, c5i, c6, c6i, c7]))) | (refine condD_intro ?_ ?_ <;> (intro hd; have hc := hd; (try simp at hc) <;> (try simp -implicitDefEqProofs [-loopQ_n, hd, hc, parT, gx, gxE, hsz, ge, geE, hs5, c5, c5i, c6, c6i, c7]))) | (refine guardD_intro ?_ ?_ <;> (intro hd; have hc := hd; (try simp at hc) <;> (try simp -implicitDefEqProofs [-loopQ_n, hd, hc, parT, gx, gxE, hsz, ge, geE, hs5, c5, c5i, c6, c6i, c7]))) | (refine ldD_ep ?_ ?_; (focus kernel_rfl); (try simp -implicitDefEqProofs [-loopQ_n, parT, gx, gxE, hsz, ge, geE, hs5, c5, c5i, c6, c6i, c7])) | (refine callS_mk ?_; (try simp -implicitDefEqProofs [-loopQ_n, parT, gx, gxE, hsz, ge, geE, hs5, c5, c5i, c6, c6i, c7]); (first | refine callS_intro (hcut) (.inl rfl) ?_ | refine callS_intro (hD) (.inl rfl) ?_); (try simp -implicitDefEqProofs [-loopQ_n, parT, gx, gxE, hsz, ge, geE, hs5, c5, c5i, c6, c6i, c7])))))
      all_goals (exfalso; omega)
    · have c7 : r.length = 0 := by omega
      have c6i : ¬ (1 : Int) < r.length + 1 := by omega
      refine pure_of mixed Tryd.func7 rfl (by kernel_rfl) (of_decide_eq_true rfl) (by kernel_rfl) (vc_run ?_)
      ((try simp -implicitDefEqProofs [-loopQ_n, parT, gx, gxE, hsz, ge, geE, hs5, c5, c5i, c6, c6i, c7]) <;> (repeat' (first | (refine condD_dec ?_ ?_ <;> (intro hc; (try simp -implicitDefEqProofs [-loopQ_n, hc, parT, gx, gxE, hsz, ge, geE, hs5, c5, c5i, c6, c6i, c7]))) | (refine guardD_dec ?_ ?_ <;> (intro hc; (try simp -implicitDefEqProofs [-loopQ_n, hc, parT, gx, gxE, hsz, ge, geE, hs5, c5, c5i, c6, c6i, c7]))) | (refine condD_intro ?_ ?_ <;> (intro hd; have hc := hd; (try simp at hc) <;> (try simp -implicitDefEqProofs [-loopQ_n, hd, hc, parT, gx, gxE, hsz, ge, geE, hs5, c5, c5i, c6, c6i, c7]))) | (refine guardD_intro ?_ ?_ <;> (intro hd; have hc := hd; (try simp at hc) <;> (try simp -implicitDefEqProofs [-loopQ_n, hd, hc, parT, gx, gxE, hsz, ge, geE, hs5, c5, c5i, c6, c6i, c7]))) | (refine ldD_ep ?_ ?_; (focus kernel_rfl); (try simp -implicitDefEqProofs [-loopQ_n, parT, gx, gxE, hsz, ge, geE, hs5, c5, c5i, c6, c6i, c7])) | (refine callS_mk ?_; (try simp -implicitDefEqProofs [-loopQ_n, parT, gx, gxE, hsz, ge, geE, hs5, c5, c5i, c6, c6i, c7]); (first | refine callS_intro (hcut) (.inl rfl) ?_ | refine callS_intro (hD) (.inl rfl) ?_); (try simp -implicitDefEqProofs [-loopQ_n, parT, gx, gxE, hsz, ge, geE, hs5, c5, c5i, c6, c6i, c7])))))
      all_goals (exfalso; omega)
  have he : e = 58 := UInt8.toNat_inj.1 c5
  subst he
  by_cases c8 : (dg a = true ∧ dg b = true) ∧ (dg c = true ∧ dg d = true)
  rotate_left
  · have := rbad fun D a' b' c' d' h => by
      have h1 := hgood D a' b' c' d' h
      simp only [Prod.mk.injEq, List.cons.injEq] at h1
      obtain ⟨_, ⟨rfl, rfl, _, rfl, rfl, _⟩, _⟩ := h1
      exact c8 ⟨⟨h.a, h.b⟩, h.c, h.d⟩
    subst this
    rw [digR_two] at hh hm
    by_cases k1 : dg a = true ∧ dg b = true
    · have k2 : ¬ (dg c = true ∧ dg d = true) := fun q => c8 ⟨k1, q⟩
      rw [if_pos k1] at hh
      rw [if_neg k2] at hm
      by_cases c6 : 0 < r.length
      · have c7 := c33 c6
        have c6i : (1 : Int) < r.length + 1 := by omega
        refine pure_of mixed Tryd.func7 rfl (by kernel_rfl) (of_decide_eq_true rfl) (by kernel_rfl) (vc_run ?_)
        ((try simp -implicitDefEqProofs [-loopQ_n, parT, gx, gxE, hsz, ge, geE, hs5, c6, c6i, c7, ext1, ext2]) <;> (repeat' (first | (refine condD_dec ?_ ?_ <;> (intro hc; (try simp -implicitDefEqProofs [-loopQ_n, hc, parT, gx, gxE, hsz, ge, geE, hs5, c6, c6i, c7, ext1, ext2]))) | (refine guardD_dec ?_ ?_ <;> (intro hc; (try simp -implicitDefEqProofs [-loopQ_n, hc, parT, gx, gxE, hsz, ge, geE, hs5, c6, c6i, c7, ext1, ext2]))) | (refine condD_intro ?_ ?_ <;> (intro hd; have hc := hd; (try simp at hc) <;> (try simp -implicitDefEqProofs [-loopQ_n, hd, hc, parT, gx, gxE, hsz, ge, geE, hs5, c6, c6i, c7, ext1, ext2]))) | (refine guardD_intro ?_ ?_ <;> (intro hd; have hc := hd; (try simp at hc) <;> (try simp -implicitDefEqProofs [-loopQ_n, hd, hc, parT, gx, gxE, hsz, ge, geE, hs5, c6, c6i, c7, ext1, ext2]))) | (refine ldD_ep ?_ ?_; (focus kernel_rfl); (try simp -implicitDefEqProofs [-loopQ_n, parT, gx, gxE, hsz, ge, geE, hs5, c6, c6i, c7, ext1, ext2])) | (refine callS_mk ?_; (try simp -implicitDefEqProofs [-loopQ_n, parT, gx, gxE, hsz, ge, geE, hs5, c6, c6i, c7, ext1, ext2]); (first | refine callS_intro (hcut) (.inl rfl) ?_ | refine callS_intro (hD) (.inl rfl) ?_ | refine callS_intro (hh) (.inl rfl) ?_ | refine callS_intro (hm) (.inl rfl) ?_); (try simp -implicitDefEqProofs [-loopQ_n, parT, gx, gxE, hsz, ge, geE, hs5, c6, c6i, c7, ext1, ext2])))))
        all_goals (exfalso; omega)
      · have c7 : r.length = 0 := by omega
        have c6i : ¬ (1 : Int) < r.length + 1 := by omega
        refine pure_of mixed Tryd.func7 rfl (by kernel_rfl) (of_decide_eq_true rfl) (by kernel_rfl) (vc_run ?_)
        ((try simp -implicitDefEqProofs [-loopQ_n, parT, gx, gxE, hsz, ge, geE, hs5, c6, c6i, c7, ext1, ext2]) <;> (repeat' (first | (refine condD_dec ?_ ?_ <;> (intro hc; (try simp -implicitDefEqProofs [-loopQ_n, hc, parT, gx, gxE, hsz, ge, geE, hs5, c6, c6i, c7, ext1, ext2]))) | (refine guardD_dec ?_ ?_ <;> (intro hc; (try simp -implicitDefEqProofs [-loopQ_n, hc, parT, gx, gxE, hsz, ge, geE, hs5, c6, c6i, c7, ext1, ext2]))) | (refine condD_intro ?_ ?_ <;> (intro hd; have hc := hd; (try simp at hc) <;> (try simp -implicitDefEqProofs [-loopQ_n, hd, hc, parT, gx, gxE, hsz, ge, geE, hs5, c6, c6i, c7, ext1, ext2]))) | (refine guardD_intro ?_ ?_ <;> (intro hd; have hc := hd; (try simp at hc) <;> (try simp -implicitDefEqProofs [-loopQ_n, hd, hc, parT, gx, gxE, hsz, ge, geE, hs5, c6, c6i, c7, ext1, ext2]))) | (refine ldD_ep ?_ ?_; (focus kernel_rfl); (try simp -implicitDefEqProofs [-loopQ_n, parT, gx, gxE, hsz, ge, geE, hs5, c6, c6i, c7, ext1, ext2])) | (refine callS_mk ?_; (try simp -implicitDefEqProofs [-loopQ_n, parT, gx, gxE, hsz, ge, geE, hs5, c6, c6i, c7, ext1, ext2]); (first | refine callS_intro (hcut) (.inl rfl) ?_ | refine callS_intro (hD) (.inl rfl) ?_ | refine callS_intro (hh) (.inl rfl) ?_ | refine callS_intro (hm) (.inl rfl) ?_); (try simp -implicitDefEqProofs [-loopQ_n, parT, gx, gxE, hsz, ge, geE, hs5, c6, c6i, c7, ext1, ext2])))))
        all_goals (exfalso; omega)
    · rw [if_neg k1] at hh
      by_cases c6 : 0 < r.length
      · have c7 := c33 c6
        have c6i : (1 : Int) < r.length + 1 := by omega
        refine pure_of mixed Tryd.func7 rfl (by kernel_rfl) (of_decide_eq_true rfl) (by kernel_rfl) (vc_run ?_)
        ((try simp -implicitDefEqProofs [-loopQ_n, parT, gx, gxE, hsz, ge, geE, hs5, c6, c6i, c7, ext1, ext2]) <;> (repeat' (first | (refine condD_dec ?_ ?_ <;> (intro hc; (try simp -implicitDefEqProofs [-loopQ_n, hc, parT, gx, gxE, hsz, ge, geE, hs5, c6, c6i, c7, ext1, ext2]))) | (refine guardD_dec ?_ ?_ <;> (intro hc; (try simp -implicitDefEqProofs [-loopQ_n, hc, parT, gx, gxE, hsz, ge, geE, hs5, c6, c6i, c7, ext1, ext2]))) | (refine condD_intro ?_ ?_ <;> (intro hd; have hc := hd; (try simp at hc) <;> (try simp -implicitDefEqProofs [-loopQ_n, hd, hc, parT, gx, gxE, hsz, ge, geE, hs5, c6, c6i, c7, ext1, ext2]))) | (refine guardD_intro ?_ ?_ <;> (intro hd; have hc := hd; (try simp at hc) <;> (try simp -implicitDefEqProofs [-loopQ_n, hd, hc, parT, gx, gxE, hsz, ge, geE, hs5, c6, c6i, c7, ext1, ext2]))) | (refine ldD_ep ?_ ?_; (focus kernel_rfl); (try simp -implicitDefEqProofs [-loopQ_n, parT, gx, gxE, hsz, ge, geE, hs5, c6, c6i, c7, ext1, ext2])) | (refine callS_mk ?_; (try simp -implicitDefEqProofs [-loopQ_n, parT, gx, gxE, hsz, ge, geE, hs5, c6, c6i, c7, ext1, ext2]); (first | refine callS_intro (hcut) (.inl rfl) ?_ | refine callS_intro (hD) (.inl rfl) ?_ | refine callS_intro (hh) (.inl rfl) ?_ | refine callS_intro (hm) (.inl rfl) ?_); (try simp -implicitDefEqProofs [-loopQ_n, parT, gx, gxE, hsz, ge, geE, hs5, c6, c6i, c7, ext1, ext2])))))
        all_goals (exfalso; omega)
      · have c7 : r.length = 0 := by omega
        have c6i : ¬ (1 : Int) < r.length + 1 := by omega
        refine pure_of mixed Tryd.func7 rfl (by kernel_rfl) (of_decide_eq_true rfl) (by kernel_rfl) (vc_run ?_)
        ((try simp -implicitDefEqProofs [-loopQ_n, parT, gx, gxE, hsz, ge, geE, hs5, c6, c6i, c7, ext1, ext2]) <;> (repeat' (first | (refine condD_dec ?_ ?_ <;> (intro hc; (try simp -implicitDefEqProofs [-loopQ_n, hc, parT, gx, gxE, hsz, ge, geE, hs5, c6, c6i, c7, ext1, ext2]))) | (refine guardD_dec ?_ ?_ <;> (intro hc; (try simp -implicitDefEqProofs [-loopQ_n, hc, parT, gx, gxE, hsz, ge, geE, hs5, c6, c6i, c7, ext1, ext2]))) | (refine condD_intro ?_ ?_ <;> (intro hd; have hc := hd; (try simp at hc) <;> (try simp -implicitDefEqProofs [-loopQ_n, hd, hc, parT, gx, gxE, hsz, ge, geE, hs5, c6, c6i, c7, ext1, ext2]))) | (refine guardD_intro ?_ ?_ <;> (intro hd; have hc := hd; (try simp at hc) <;> (try simp -implicitDefEqProofs [-loopQ_n, hd, hc, parT, gx, gxE, hsz, ge, geE, hs5, c6, c6i, c7, ext1, ext2]))) | (refine ldD_ep ?_ ?_; (focus kernel_rfl); (try simp -implicitDefEqProofs [-loopQ_n, parT, gx, gxE, hsz, ge, geE, hs5, c6, c6i, c7, ext1, ext2])) | (refine callS_mk ?_; (try simp -implicitDefEqProofs [-loopQ_n, parT, gx, gxE, hsz, ge, geE, hs5, c6, c6i, c7, ext1, ext2]); (first | refine callS_intro (hcut) (.inl rfl) ?_ | refine callS_intro (hD) (.inl rfl) ?_ | refine callS_intro (hh) (.inl rfl) ?_ | refine callS_intro (hm) (.inl rfl) ?_); (try simp -implicitDefEqProofs [-loopQ_n, parT, gx, gxE, hsz, ge, geE, hs5, c6, c6i, c7, ext1, ext2])))))
        all_goals (exfalso; omega)
  obtain ⟨k1, k2⟩ := c8
  rw [digR_two, if_pos k1] at hh
  rw [digR_two, if_pos k2] at hm
  have := rgood (x :: r) a b c d ⟨hl, d1, d2, d3, fun q => c3 ⟨by have := q.1; simp at this; omega, by have := q.2; simp at this; rw [this]; rfl⟩, k1.1, k1.2, k2.1, k2.2⟩
  subst this
  have bv := val0_bd d1 d3
  have ba := dv_bd k1.1
  have bb := dv_bd k1.2
  have bc := dv_bd k2.1
  have bd := dv_bd k2.2
  unfold finV
  generalize val 0 (x :: r) = V at *
  obtain ⟨H, hH⟩ : ∃ H, 10 * dv a + dv b = H := ⟨_, rfl⟩
  obtain ⟨M, hM⟩ : ∃ M, 10 * dv c + dv d = M := ⟨_, rfl⟩
  rw [hH] at hh ⊢
  rw [hM] at hm ⊢
  have w1 : wrapI .i64 (V * 1440) = V * 1440 := wrap_in (by omega) (by omega)
  have w2 : wrapI .i64 (H * 60) = H * 60 := wrap_in (by omega) (by omega)
  have w3 : wrapI .i64 (V * 1440 + H * 60) = V * 1440 + H * 60 := wrap_in (by omega) (by omega)
  have w4 : wrapI .i64 (V * 1440 + H * 60 + M) = V * 1440 + H * 60 + M := wrap_in (by omega) (by omega)
  have hI := instant_pure (V * 1440 + H * 60 + M)
  by_cases c9 : 23 < H ∨ 59 < M
  · rw [if_pos c9]
    by_cases c10 : 23 < H
    · by_cases c6 : 0 < r.length
      · have c7 := c33 c6
        have c6i : (1 : Int) < r.length + 1 := by omega
        refine pure_of mixed Tryd.func7 rfl (by kernel_rfl) (of_decide_eq_true rfl) (by kernel_rfl) (vc_run ?_)
        ((try simp -implicitDefEqProofs [-loopQ_n, parT, gx, gxE, hsz, ge, geE, hs5, c6, c6i, c7, c10, ext1, ext2]) <;> (repeat' (first | (refine condD_dec ?_ ?_ <;> (intro hc; (try simp -implicitDefEqProofs [-loopQ_n, hc, parT, gx, gxE, hsz, ge, geE, hs5, c6, c6i, c7, c10, ext1, ext2]))) | (refine guardD_dec ?_ ?_ <;> (intro hc; (try simp -implicitDefEqProofs [-loopQ_n, hc, parT, gx, gxE, hsz, ge, geE, hs5, c6, c6i, c7, c10, ext1, ext2]))) | (refine condD_intro ?_ ?_ <;> (intro hd; have hc := hd; (try simp at hc) <;> (try simp -implicitDefEqProofs [-loopQ_n, hd, hc, parT, gx, gxE, hsz, ge, geE, hs5, c6, c6i, c7, c10, ext1, ext2]))) | (refine guardD_intro ?_ ?_ <;> (intro hd; have hc := hd; (try simp at hc) <;> (try simp -implicitDefEqProofs [-loopQ_n, hd, hc, parT, gx, gxE, hsz, ge, geE, hs5, c6, c6i, c7, c10, ext1, ext2]))) | (refine ldD_ep ?_ ?_; (focus kernel_rfl); (try simp -implicitDefEqProofs [-loopQ_n, parT, gx, gxE, hsz, ge, geE, hs5, c6, c6i, c7, c10, ext1, ext2])) | (refine callS_mk ?_; (try simp -implicitDefEqProofs [-loopQ_n, parT, gx, gxE, hsz, ge, geE, hs5, c6, c6i, c7, c10, ext1, ext2]); (first | refine callS_intro (hcut) (.inl rfl) ?_ | refine callS_intro (hD) (.inl rfl) ?_ | refine callS_intro (hh) (.inl rfl) ?_ | refine callS_intro (hm) (.inl rfl) ?_); (try simp -implicitDefEqProofs [-loopQ_n, parT, gx, gxE, hsz, ge, geE, hs5, c6, c6i, c7, c10, ext1, ext2])))))
        all_goals (exfalso; omega)
      · have c7 : r.length = 0 := by omega
        have c6i : ¬ (1 : Int) < r.length + 1 := by omega
        refine pure_of mixed Tryd.func7 rfl (by kernel_rfl) (of_decide_eq_true rfl) (by kernel_rfl) (vc_run ?_)
        ((try simp -implicitDefEqProofs [-loopQ_n, parT, gx, gxE, hsz, ge, geE, hs5, c6, c6i, c7, c10, ext1, ext2]) <;> (repeat' (first | (refine condD_dec ?_ ?_ <;> (intro hc; (try simp -implicitDefEqProofs [-loopQ_n, hc, parT, gx, gxE, hsz, ge, geE, hs5, c6, c6i, c7, c10, ext1, ext2]))) | (refine guardD_dec ?_ ?_ <;> (intro hc; (try simp -implicitDefEqProofs [-loopQ_n, hc, parT, gx, gxE, hsz, ge, geE, hs5, c6, c6i, c7, c10, ext1, ext2]))) | (refine condD_intro ?_ ?_ <;> (intro hd; have hc := hd; (try simp at hc) <;> (try simp -implicitDefEqProofs [-loopQ_n, hd, hc, parT, gx, gxE, hsz, ge, geE, hs5, c6, c6i, c7, c10, ext1, ext2]))) | (refine guardD_intro ?_ ?_ <;> (intro hd; have hc := hd; (try simp at hc) <;> (try simp -implicitDefEqProofs [-loopQ_n, hd, hc, parT, gx, gxE, hsz, ge, geE, hs5, c6, c6i, c7, c10, ext1, ext2]))) | (refine ldD_ep ?_ ?_; (focus kernel_rfl); (try simp -implicitDefEqProofs [-loopQ_n, parT, gx, gxE, hsz, ge, geE, hs5, c6, c6i, c7, c10, ext1, ext2])) | (refine callS_mk ?_; (try simp -implicitDefEqProofs [-loopQ_n, parT, gx, gxE, hsz, ge, geE, hs5, c6, c6i, c7, c10, ext1, ext2]); (first | refine callS_intro (hcut) (.inl rfl) ?_ | refine callS_intro (hD) (.inl rfl) ?_ | refine callS_intro (hh) (.inl rfl) ?_ | refine callS_intro (hm) (.inl rfl) ?_); (try simp -implicitDefEqProofs [-loopQ_n, parT, gx, gxE, hsz, ge, geE, hs5, c6, c6i, c7, c10, ext1, ext2])))))
        all_goals (exfalso; omega)
    · have c11 : 59 < M := by omega
      by_cases c6 : 0 < r.length
      · have c7 := c33 c6
        have c6i : (1 : Int) < r.length + 1 := by omega
        refine pure_of mixed Tryd.func7 rfl (by kernel_rfl) (of_decide_eq_true rfl) (by kernel_rfl) (vc_run ?_)
        ((try simp -implicitDefEqProofs [-loopQ_n, parT, gx, gxE, hsz, ge, geE, hs5, c6, c6i, c7, c10, c11, ext1, ext2]) <;> (repeat' (first | (refine condD_dec ?_ ?_ <;> (intro hc; (try simp -implicitDefEqProofs [-loopQ_n, hc, parT, gx, gxE, hsz, ge, geE, hs5, c6, c6i, c7, c10, c11, ext1, ext2]))) | (refine guardD_dec ?_ ?_ <;> (intro hc; (try simp -implicitDefEqProofs [-loopQ_n, hc, parT, gx, gxE, hsz, ge, geE, hs5, c6, c6i, c7, c10, c11, ext1, ext2]))) | (refine condD_intro ?_ ?_ <;> (intro hd; have hc := hd; (try simp at hc) <;> (try simp -implicitDefEqProofs [-loopQ_n, hd, hc, parT, gx, gxE, hsz, ge, geE, hs5, c6, c6i, c7, c10, c11, ext1, ext2]))) | (refine guardD_intro ?_ ?_ <;> (intro hd; have hc := hd; (try simp at hc) <;> (try simp -implicitDefEqProofs [-loopQ_n, hd, hc, parT, gx, gxE, hsz, ge, geE, hs5, c6, c6i, c7, c10, c11, ext1, ext2]))) | (refine ldD_ep ?_ ?_; (focus kernel_rfl); (try simp -implicitDefEqProofs [-loopQ_n, parT, gx, gxE, hsz, ge, geE, hs5, c6, c6i, c7, c10, c11, ext1, ext2])) | (refine callS_mk ?_; (try simp -implicitDefEqProofs [-loopQ_n, parT, gx, gxE, hsz, ge, geE, hs5, c6, c6i, c7, c10, c11, ext1, ext2]); (first | refine callS_intro (hcut) (.inl rfl) ?_ | refine callS_intro (hD) (.inl rfl) ?_ | refine callS_intro (hh) (.inl rfl) ?_ | refine callS_intro (hm) (.inl rfl) ?_); (try simp -implicitDefEqProofs [-loopQ_n, parT, gx, gxE, hsz, ge, geE, hs5, c6, c6i, c7, c10, c11, ext1, ext2])))))
        all_goals (exfalso; omega)
      · have c7 : r.length = 0 := by omega
        have c6i : ¬ (1 : Int) < r.length + 1 := by omega
        refine pure_of mixed Tryd.func7 rfl (by kernel_rfl) (of_decide_eq_true rfl) (by kernel_rfl) (vc_run ?_)
        ((try simp -implicitDefEqProofs [-loopQ_n, parT, gx, gxE, hsz, ge, geE, hs5, c6, c6i, c7, c10, c11, ext1, ext2]) <;> (repeat' (first | (refine condD_dec ?_ ?_ <;> (intro hc; (try simp -implicitDefEqProofs [-loopQ_n, hc, parT, gx, gxE, hsz, ge, geE, hs5, c6, c6i, c7, c10, c11, ext1, ext2]))) | (refine guardD_dec ?_ ?_ <;> (intro hc; (try simp -implicitDefEqProofs [-loopQ_n, hc, parT, gx, gxE, hsz, ge, geE, hs5, c6, c6i, c7, c10, c11, ext1, ext2]))) | (refine condD_intro ?_ ?_ <;> (intro hd; have hc := hd; (try simp at hc) <;> (try simp -implicitDefEqProofs [-loopQ_n, hd, hc, parT, gx, gxE, hsz, ge, geE, hs5, c6, c6i, c7, c10, c11, ext1, ext2]))) | (refine guardD_intro ?_ ?_ <;> (intro hd; have hc := hd; (try simp at hc) <;> (try simp -implicitDefEqProofs [-loopQ_n, hd, hc, parT, gx, gxE, hsz, ge, geE, hs5, c6, c6i, c7, c10, c11, ext1, ext2]))) | (refine ldD_ep ?_ ?_; (focus kernel_rfl); (try simp -implicitDefEqProofs [-loopQ_n, parT, gx, gxE, hsz, ge, geE, hs5, c6, c6i, c7, c10, c11, ext1, ext2])) | (refine callS_mk ?_; (try simp -implicitDefEqProofs [-loopQ_n, parT, gx, gxE, hsz, ge, geE, hs5, c6, c6i, c7, c10, c11, ext1, ext2]); (first | refine callS_intro (hcut) (.inl rfl) ?_ | refine callS_intro (hD) (.inl rfl) ?_ | refine callS_intro (hh) (.inl rfl) ?_ | refine callS_intro (hm) (.inl rfl) ?_); (try simp -implicitDefEqProofs [-loopQ_n, parT, gx, gxE, hsz, ge, geE, hs5, c6, c6i, c7, c10, c11, ext1, ext2])))))
        all_goals (exfalso; omega)
  rw [if_neg c9]
  have c10 : ¬ 23 < H := fun q => c9 (.inl q)
  have c11 : ¬ 59 < M := fun q => c9 (.inr q)
  generalize hT : V * 1440 + H * 60 + M = T at *
  cases hv : inst T with
  | true =>
    rw [hv] at hI
    by_cases c6 : 0 < r.length
    · have c7 := c33 c6
      have c6i : (1 : Int) < r.length + 1 := by omega
      refine pure_of mixed Tryd.func7 rfl (by kernel_rfl) (of_decide_eq_true rfl) (by kernel_rfl) (vc_run ?_)
      ((try simp -implicitDefEqProofs [-loopQ_n, parT, gx, gxE, hsz, ge, geE, hs5, c6, c6i, c7, c10, c11, ext1, ext2, w1, w2, w3, hT, w4]) <;> (repeat' (first | (refine condD_dec ?_ ?_ <;> (intro hc; (try simp -implicitDefEqProofs [-loopQ_n, hc, parT, gx, gxE, hsz, ge, geE, hs5, c6, c6i, c7, c10, c11, ext1, ext2, w1, w2, w3, hT, w4]))) | (refine guardD_dec ?_ ?_ <;> (intro hc; (try simp -implicitDefEqProofs [-loopQ_n, hc, parT, gx, gxE, hsz, ge, geE, hs5, c6, c6i, c7, c10, c11, ext1, ext2, w1, w2, w3, hT, w4]))) | (refine condD_intro ?_ ?_ <;> (intro hd; have hc := hd; (try simp at hc) <;> (try simp -implicitDefEqProofs [-loopQ_n, hd, hc, parT, gx, gxE, hsz, ge, geE, hs5, c6, c6i, c7, c10, c11, ext1, ext2, w1, w2, w3, hT, w4]))) | (refine guardD_intro ?_ ?_ <;> (intro hd; have hc := hd; (try simp at hc) <;> (try simp -implicitDefEqProofs [-loopQ_n, hd, hc, parT, gx, gxE, hsz, ge, geE, hs5, c6, c6i, c7, c10, c11, ext1, ext2, w1, w2, w3, hT, w4]))) | (refine ldD_ep ?_ ?_; (focus kernel_rfl); (try simp -implicitDefEqProofs [-loopQ_n, parT, gx, gxE, hsz, ge, geE, hs5, c6, c6i, c7, c10, c11, ext1, ext2, w1, w2, w3, hT, w4])) | (refine callS_mk ?_; (try simp -implicitDefEqProofs [-loopQ_n, parT, gx, gxE, hsz, ge, geE, hs5, c6, c6i, c7, c10, c11, ext1, ext2, w1, w2, w3, hT, w4]); (first | refine callS_intro (hcut) (.inl rfl) ?_ | refine callS_intro (hD) (.inl rfl) ?_ | refine callS_intro (hh) (.inl rfl) ?_ | refine callS_intro (hm) (.inl rfl) ?_ | refine callS_intro (hI) (.inl rfl) ?_); (try simp -implicitDefEqProofs [-loopQ_n, parT, gx, gxE, hsz, ge, geE, hs5, c6, c6i, c7, c10, c11, ext1, ext2, w1, w2, w3, hT, w4])))))
      all_goals (exfalso; omega)
    · have c7 : r.length = 0 := by omega
      have c6i : ¬ (1 : Int) < r.length + 1 := by omega
      refine pure_of mixed Tryd.func7 rfl (by kernel_rfl) (of_decide_eq_true rfl) (by kernel_rfl) (vc_run ?_)
      ((try simp -implicitDefEqProofs [-loopQ_n, parT, gx, gxE, hsz, ge, geE, hs5, c6, c6i, c7, c10, c11, ext1, ext2, w1, w2, w3, hT, w4]) <;> (repeat' (first | (refine condD_dec ?_ ?_ <;> (intro hc; (try simp -implicitDefEqProofs [-loopQ_n, hc, parT, gx, gxE, hsz, ge, geE, hs5, c6, c6i, c7, c10, c11, ext1, ext2, w1, w2, w3, hT, w4]))) | (refine guardD_dec ?_ ?_ <;> (intro hc; (try simp -implicitDefEqProofs [-loopQ_n, hc, parT, gx, gxE, hsz, ge, geE, hs5, c6, c6i, c7, c10, c11, ext1, ext2, w1, w2, w3, hT, w4]))) | (refine condD_intro ?_ ?_ <;> (intro hd; have hc := hd; (try simp at hc) <;> (try simp -implicitDefEqProofs [-loopQ_n, hd, hc, parT, gx, gxE, hsz, ge, geE, hs5, c6, c6i, c7, c10, c11, ext1, ext2, w1, w2, w3, hT, w4]))) | (refine guardD_intro ?_ ?_ <;> (intro hd; have hc := hd; (try simp at hc) <;> (try simp -implicitDefEqProofs [-loopQ_n, hd, hc, parT, gx, gxE, hsz, ge, geE, hs5, c6, c6i, c7, c10, c11, ext1, ext2, w1, w2, w3, hT, w4]))) | (refine ldD_ep ?_ ?_; (focus kernel_rfl); (try simp -implicitDefEqProofs [-loopQ_n, parT, gx, gxE, hsz, ge, geE, hs5, c6, c6i, c7, c10, c11, ext1, ext2, w1, w2, w3, hT, w4])) | (refine callS_mk ?_; (try simp -implicitDefEqProofs [-loopQ_n, parT, gx, gxE, hsz, ge, geE, hs5, c6, c6i, c7, c10, c11, ext1, ext2, w1, w2, w3, hT, w4]); (first | refine callS_intro (hcut) (.inl rfl) ?_ | refine callS_intro (hD) (.inl rfl) ?_ | refine callS_intro (hh) (.inl rfl) ?_ | refine callS_intro (hm) (.inl rfl) ?_ | refine callS_intro (hI) (.inl rfl) ?_); (try simp -implicitDefEqProofs [-loopQ_n, parT, gx, gxE, hsz, ge, geE, hs5, c6, c6i, c7, c10, c11, ext1, ext2, w1, w2, w3, hT, w4])))))
      all_goals (exfalso; omega)
  | false =>
    rw [hv] at hI
    by_cases c6 : 0 < r.length
    · have c7 := c33 c6
      have c6i : (1 : Int) < r.length + 1 := by omega
      refine pure_of mixed Tryd.func7 rfl (by kernel_rfl) (of_decide_eq_true rfl) (by kernel_rfl) (vc_run ?_)
      ((try simp -implicitDefEqProofs [-loopQ_n, parT, gx, gxE, hsz, ge, geE, hs5, c6, c6i, c7, c10, c11, ext1, ext2, w1, w2, w3, hT, w4]) <;> (repeat' (first | (refine condD_dec ?_ ?_ <;> (intro hc; (try simp -implicitDefEqProofs [-loopQ_n, hc, parT, gx, gxE, hsz, ge, geE, hs5, c6, c6i, c7, c10, c11, ext1, ext2, w1, w2, w3, hT, w4]))) | (refine guardD_dec ?_ ?_ <;> (intro hc; (try simp -implicitDefEqProofs [-loopQ_n, hc, parT, gx, gxE, hsz, ge, geE, hs5, c6, c6i, c7, c10, c11, ext1, ext2, w1, w2, w3, hT, w4]))) | (refine condD_intro ?_ ?_ <;> (intro hd; have hc := hd; (try simp at hc) <;> (try simp -implicitDefEqProofs [-loopQ_n, hd, hc, parT, gx, gxE, hsz, ge, geE, hs5, c6, c6i, c7, c10, c11, ext1, ext2, w1, w2, w3, hT, w4]))) | (refine guardD_intro ?_ ?_ <;> (intro hd; have hc := hd; (try simp at hc) <;> (try simp -implicitDefEqProofs [-loopQ_n, hd, hc, parT, gx, gxE, hsz, ge, geE, hs5, c6, c6i, c7, c10, c11, ext1, ext2, w1, w2, w3, hT, w4]))) | (refine ldD_ep ?_ ?_; (focus kernel_rfl); (try simp -implicitDefEqProofs [-loopQ_n, parT, gx, gxE, hsz, ge, geE, hs5, c6, c6i, c7, c10, c11, ext1, ext2, w1, w2, w3, hT, w4])) | (refine callS_mk ?_; (try simp -implicitDefEqProofs [-loopQ_n, parT, gx, gxE, hsz, ge, geE, hs5, c6, c6i, c7, c10, c11, ext1, ext2, w1, w2, w3, hT, w4]); (first | refine callS_intro (hcut) (.inl rfl) ?_ | refine callS_intro (hD) (.inl rfl) ?_ | refine callS_intro (hh) (.inl rfl) ?_ | refine callS_intro (hm) (.inl rfl) ?_ | refine callS_intro (hI) (.inl rfl) ?_); (try simp -implicitDefEqProofs [-loopQ_n, parT, gx, gxE, hsz, ge, geE, hs5, c6, c6i, c7, c10, c11, ext1, ext2, w1, w2, w3, hT, w4])))))
      all_goals (exfalso; omega)
    · have c7 : r.length = 0 := by omega
      have c6i : ¬ (1 : Int) < r.length + 1 := by omega
      refine pure_of mixed Tryd.func7 rfl (by kernel_rfl) (of_decide_eq_true rfl) (by kernel_rfl) (vc_run ?_)
      ((try simp -implicitDefEqProofs [-loopQ_n, parT, gx, gxE, hsz, ge, geE, hs5, c6, c6i, c7, c10, c11, ext1, ext2, w1, w2, w3, hT, w4]) <;> (repeat' (first | (refine condD_dec ?_ ?_ <;> (intro hc; (try simp -implicitDefEqProofs [-loopQ_n, hc, parT, gx, gxE, hsz, ge, geE, hs5, c6, c6i, c7, c10, c11, ext1, ext2, w1, w2, w3, hT, w4]))) | (refine guardD_dec ?_ ?_ <;> (intro hc; (try simp -implicitDefEqProofs [-loopQ_n, hc, parT, gx, gxE, hsz, ge, geE, hs5, c6, c6i, c7, c10, c11, ext1, ext2, w1, w2, w3, hT, w4]))) | (refine condD_intro ?_ ?_ <;> (intro hd; have hc := hd; (try simp at hc) <;> (try simp -implicitDefEqProofs [-loopQ_n, hd, hc, parT, gx, gxE, hsz, ge, geE, hs5, c6, c6i, c7, c10, c11, ext1, ext2, w1, w2, w3, hT, w4]))) | (refine guardD_intro ?_ ?_ <;> (intro hd; have hc := hd; (try simp at hc) <;> (try simp -implicitDefEqProofs [-loopQ_n, hd, hc, parT, gx, gxE, hsz, ge, geE, hs5, c6, c6i, c7, c10, c11, ext1, ext2, w1, w2, w3, hT, w4]))) | (refine ldD_ep ?_ ?_; (focus kernel_rfl); (try simp -implicitDefEqProofs [-loopQ_n, parT, gx, gxE, hsz, ge, geE, hs5, c6, c6i, c7, c10, c11, ext1, ext2, w1, w2, w3, hT, w4])) | (refine callS_mk ?_; (try simp -implicitDefEqProofs [-loopQ_n, parT, gx, gxE, hsz, ge, geE, hs5, c6, c6i, c7, c10, c11, ext1, ext2, w1, w2, w3, hT, w4]); (first | refine callS_intro (hcut) (.inl rfl) ?_ | refine callS_intro (hD) (.inl rfl) ?_ | refine callS_intro (hh) (.inl rfl) ?_ | refine callS_intro (hm) (.inl rfl) ?_ | refine callS_intro (hI) (.inl rfl) ?_); (try simp -implicitDefEqProofs [-loopQ_n, parT, gx, gxE, hsz, ge, geE, hs5, c6, c6i, c7, c10, c11, ext1, ext2, w1, w2, w3, hT, w4])))))
      all_goals (exfalso; omega)
end Go.Proofs.YtlnnboegghjdhaaDoor
