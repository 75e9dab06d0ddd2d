/- No division is cheaper (the law PrivacyBest holds for every input; no condition). -/
import Derived.Test.YtkppfaennogcmaaRows
import Derived.Test.YtkppfaennogcmaaPrvB
import Derived.Test.YtkppfaennogcmaaPrvU
import Derived.Test.YtkppfaennogcmaaPrvW
import Derived.Test.YtkppfaennogcmaaPrvD
import Derived.Test.YtkppfaennogcmaaOpen
namespace Go.Proofs.Ytkppfaennogcmaa.lawPBest
set_option linter.unusedSimpArgs false
set_option linter.unusedVariables false
set_option linter.unnecessarySimpa false
set_option linter.unusedSectionVars false
open Go.ChangeShapes Go.WideShapes Go.ChangeAt Go.RowKit Go.Joins Go.Deep
section
variable [Glob]
set_option maxRecDepth 100000
theorem genR_err {l : List Int} {k : Int} (h : (genR l k).2 ≠ 0) : (genR l k).1 = [] := by
  unfold genR at h ⊢
  repeat' split
  all_goals first | rfl | skip
  rename_i h1 h2 h3 h4 h5
  rw [if_neg h1, if_neg h2, if_neg h3, if_neg h4, if_neg h5] at h
  exact absurd rfl h
theorem genR_nil {l : List Int} {k : Int} (h : l.length = 0) : (genR l k).1 = [] := by
  unfold genR
  repeat' split
  all_goals first | rfl | contradiction
theorem genR_ok {l : List Int} {k : Int} (h : (genR l k).2 = 0) (hn : l.length ≠ 0) : timeV l = true ∧ ∃ K : Nat, k = K ∧ 1 ≤ K ∧ K ≤ l.length ∧ genR l k = (gpath l (tabT l K) (l.length + 1) 0, 0) := by
  unfold genR at h ⊢
  split at h
  · simp at h
  split at h
  · simp at h
  split at h
  · simp at h
  rename_i h1 h2 h3
  split at h
  · simp at h
  rename_i h4
  refine ⟨by simpa using h1, k.toNat, by omega, by omega, by omega, ?_⟩
  rw [if_neg h1, if_neg h2, if_neg h3, if_neg hn, if_neg h4]
set_option maxHeartbeats 16000000 in
theorem main (l : List Int) (k : Int) : Pure Try.prog 6 [.rs (rowsOf intC l), .int .i64 k] (.bool true) := by
  by_cases h10 : (10 : Int) < l.length
  · skip
    refine pure_of mixed Try.func6 rfl (by kernel_rfl) (of_decide_eq_true rfl) (by kernel_rfl) (vc_run ?_)
    ((try simp -implicitDefEqProofs [-loopQ_n, h10]) <;> (repeat' (first | (refine condD_dec ?_ ?_ <;> (intro hc; (try simp -implicitDefEqProofs [-loopQ_n, hc, h10]))) | (refine guardD_dec ?_ ?_ <;> (intro hc; (try simp -implicitDefEqProofs [-loopQ_n, hc, h10]))) | (refine condD_intro ?_ ?_ <;> (intro hd; have hc := hd; (try simp at hc) <;> (try simp -implicitDefEqProofs [-loopQ_n, hd, hc, h10]))) | (refine guardD_intro ?_ ?_ <;> (intro hd; have hc := hd; (try simp at hc) <;> (try simp -implicitDefEqProofs [-loopQ_n, hd, hc, h10]))) | (refine ldD_ep ?_ ?_; (focus kernel_rfl); (try simp -implicitDefEqProofs [-loopQ_n, h10])) | (refine callS_mk ?_; (try simp -implicitDefEqProofs [-loopQ_n, h10]); (first | refine callS_intro (awake_pure) (.inl rfl) ?_); (try simp -implicitDefEqProofs [-loopQ_n, h10])))))
  have hA := gen_pure l k (by omega)
  by_cases hE : (genR l k).2 = 0
  rotate_left
  · have h1 := genR_err hE
    generalize genR l k = R at *
    simp only [genV, h1] at hA
    refine pure_of mixed Try.func6 rfl (by kernel_rfl) (of_decide_eq_true rfl) (by kernel_rfl) (vc_run ?_)
    ((try simp -implicitDefEqProofs [-loopQ_n, h10, hE, rowsOf]) <;> (repeat' (first | (refine condD_dec ?_ ?_ <;> (intro hc; (try simp -implicitDefEqProofs [-loopQ_n, hc, h10, hE, rowsOf]))) | (refine guardD_dec ?_ ?_ <;> (intro hc; (try simp -implicitDefEqProofs [-loopQ_n, hc, h10, hE, rowsOf]))) | (refine condD_intro ?_ ?_ <;> (intro hd; have hc := hd; (try simp at hc) <;> (try simp -implicitDefEqProofs [-loopQ_n, hd, hc, h10, hE, rowsOf]))) | (refine guardD_intro ?_ ?_ <;> (intro hd; have hc := hd; (try simp at hc) <;> (try simp -implicitDefEqProofs [-loopQ_n, hd, hc, h10, hE, rowsOf]))) | (refine ldD_ep ?_ ?_; (focus kernel_rfl); (try simp -implicitDefEqProofs [-loopQ_n, h10, hE, rowsOf])) | (refine callS_mk ?_; (try simp -implicitDefEqProofs [-loopQ_n, h10, hE, rowsOf]); (first | refine callS_intro (awake_pure) (.inl rfl) ?_ | refine callS_intro (hA) (.inr ⟨rfl, rfl⟩) ?_); (try simp -implicitDefEqProofs [-loopQ_n, h10, hE, rowsOf])))))
  by_cases hn : l.length = 0
  · have h1 := @genR_nil _ l k hn
    have hn' : (l.length : Int) = 0 := by omega
    generalize genR l k = R at *
    simp only [genV, h1] at hA
    refine pure_of mixed Try.func6 rfl (by kernel_rfl) (of_decide_eq_true rfl) (by kernel_rfl) (vc_run ?_)
    ((try simp -implicitDefEqProofs [-loopQ_n, h10, hE, hn', hn, rowsOf]) <;> (repeat' (first | (refine condD_dec ?_ ?_ <;> (intro hc; (try simp -implicitDefEqProofs [-loopQ_n, hc, h10, hE, hn', hn, rowsOf]))) | (refine guardD_dec ?_ ?_ <;> (intro hc; (try simp -implicitDefEqProofs [-loopQ_n, hc, h10, hE, hn', hn, rowsOf]))) | (refine condD_intro ?_ ?_ <;> (intro hd; have hc := hd; (try simp at hc) <;> (try simp -implicitDefEqProofs [-loopQ_n, hd, hc, h10, hE, hn', hn, rowsOf]))) | (refine guardD_intro ?_ ?_ <;> (intro hd; have hc := hd; (try simp at hc) <;> (try simp -implicitDefEqProofs [-loopQ_n, hd, hc, h10, hE, hn', hn, rowsOf]))) | (refine ldD_ep ?_ ?_; (focus kernel_rfl); (try simp -implicitDefEqProofs [-loopQ_n, h10, hE, hn', hn, rowsOf])) | (refine callS_mk ?_; (try simp -implicitDefEqProofs [-loopQ_n, h10, hE, hn', hn, rowsOf]); (first | refine callS_intro (awake_pure) (.inl rfl) ?_ | refine callS_intro (hA) (.inr ⟨rfl, rfl⟩) ?_); (try simp -implicitDefEqProofs [-loopQ_n, h10, hE, hn', hn, rowsOf])))))
  obtain ⟨hv, K, rfl, hk1, hkn, hG⟩ := genR_ok hE hn
  obtain ⟨hT, hO⟩ := tabT_ok hv hk1
  rw [hG] at hA
  simp only [genV] at hA
  have hC := fun E hE => cost_pure l K E (by omega) hv hE
  have hge := fun E c h => costG_ge (E := E) hT hO hk1 l.length 0 0 0 c rfl (Nat.zero_le _) (Nat.le_refl _) (fun _ => rfl) h
  have hfu := fun i (h1 : 1 ≤ i) h2 h3 => gpath_fuel hT hk1 l.length (l.length + 1) i (by omega) (by omega) h2 h3
  have hz := (hT.done 0 (Nat.le_refl _) (by omega)).1 (by omega)
  have hzb := (hT.bd 0 (Nat.zero_le _)).2
  have hn' : ¬ (l.length : Int) = 0 := by omega
  clear hG hE
  generalize tabT l K = b at *
  obtain ⟨P, hP⟩ : ∃ P, gpath l b (l.length + 1) 0 = P := ⟨_, rfl⟩
  rw [hP] at hA
  obtain ⟨S, hS⟩ : ∃ S, (tat b 0).1 = S := ⟨_, rfl⟩
  rw [hS] at hz hzb hge
  have hPl : P.length ≤ 11 := by
    have : ∀ (f i : Nat), (gpath l b f i).length ≤ f := by
      intro f
      induction f with
      | zero => intro i; simp [gpath]
      | succ f ih => intro i; simp only [gpath]; split; · simp; exact ih _
                     · simp
    have := this (l.length + 1) 0
    rw [hP] at this; omega
  refine pure_of mixed Try.func6 rfl (by kernel_rfl) (of_decide_eq_true rfl) (by kernel_rfl) (vc_run ?_)
  ((try simp -implicitDefEqProofs [-loopQ_n, h10, hn', hn]) <;> (repeat' (first | (refine condD_dec ?_ ?_ <;> (intro hc; (try simp -implicitDefEqProofs [-loopQ_n, hc, h10, hn', hn]))) | (refine guardD_dec ?_ ?_ <;> (intro hc; (try simp -implicitDefEqProofs [-loopQ_n, hc, h10, hn', hn]))) | (refine condD_intro ?_ ?_ <;> (intro hd; have hc := hd; (try simp at hc) <;> (try simp -implicitDefEqProofs [-loopQ_n, hd, hc, h10, hn', hn]))) | (refine guardD_intro ?_ ?_ <;> (intro hd; have hc := hd; (try simp at hc) <;> (try simp -implicitDefEqProofs [-loopQ_n, hd, hc, h10, hn', hn]))) | (refine ldD_ep ?_ ?_; (focus kernel_rfl); (try simp -implicitDefEqProofs [-loopQ_n, h10, hn', hn])) | (refine callS_mk ?_; (try simp -implicitDefEqProofs [-loopQ_n, h10, hn', hn]); (first | refine callS_intro (awake_pure) (.inl rfl) ?_ | refine callS_intro (hA) (.inr ⟨rfl, rfl⟩) ?_); (try simp -implicitDefEqProofs [-loopQ_n, h10, hn', hn])))))
  refine loop_intro (σ := Nat × Nat × Int) (fun x => ⟨[(0, .rs (rowsOf intC l)), (1, .int .i64 K), (7, .int .i64 x.2.2), (8, .int .i64 x.2.1), (37, .rs (rowsOf spnC P)), (38, .int .i64 P.length), (39, .int .i64 x.1)], []⟩)
    (fun x => x.1 ≤ P.length ∧ x.2.1 ≤ l.length ∧ P.drop x.1 = gpath l b (l.length + 1) x.2.1 ∧ 0 ≤ (tat b x.2.1).1 ∧ 0 ≤ x.2.2 ∧ x.2.2 + (tat b x.2.1).1 = S) (fun x => P.length - x.1) (0, 0, 0) ⟨by simp, by simp, by simp [hP], by simp only; omega, by simp, by simp only; omega⟩ ?_ ?_
  · refine weak_of 0 0 rfl rfl ?_ ?_ <;> simp
  rintro ⟨j, i, s⟩ ⟨hj, hi, hD, h0, hs, hsum⟩
  simp only at hj hi hD h0 hs hsum
  by_cases h : j < P.length
  · have hil : i < l.length := by
      rcases Nat.lt_or_ge i l.length with q | q
      · exact q
      · rw [gpath, if_neg (by omega), List.drop_eq_nil_iff] at hD; omega
    rw [gpath, if_pos hil, List.drop_eq_getElem_cons h, List.cons.injEq] at hD
    obtain ⟨hPj, hD⟩ := hD
    obtain ⟨q1, q2, q3⟩ := (hT.done i (Nat.zero_le _) hil).2 h0
    obtain ⟨q4, q5⟩ := hO.path i (Nat.zero_le _) hil h0
    obtain ⟨e, he⟩ : ∃ e, (tat b i).2 = e := ⟨_, rfl⟩
    rw [he] at hPj hD q1 q2 q3 q4 q5
    rw [hfu e (by omega) q2 q3] at hD
    obtain ⟨e', he'⟩ : ∃ e', e' = e - 1 := ⟨_, rfl⟩
    unfold costAt at q5
    rw [← he'] at hPj q4 q5
    have hel : e' < l.length := by omega
    obtain ⟨x, hx⟩ : ∃ x, l[i] = x := ⟨_, rfl⟩
    obtain ⟨y, hy⟩ : ∃ y, l[e'] = y := ⟨_, rfl⟩
    have lx : lat l i = x := by rw [lat_get hil, hx]
    have ly : lat l e' = y := by rw [lat_get hel, hy]
    have ax := timeV_at hv hil
    have ay := timeV_at hv hel
    have am := timeV_mono hv (show i ≤ e' by omega) hel
    rw [lx] at ax am
    rw [ly] at ay am
    rw [lx, ly] at hPj q5
    rw [ly] at q4
    obtain ⟨C, hC'⟩ : ∃ C, C = e - i := ⟨_, rfl⟩
    rw [← hC'] at q5
    obtain ⟨q, hq⟩ : ∃ q, q = y - x := ⟨_, rfl⟩
    rw [← hq] at q5
    obtain ⟨r, hr⟩ : ∃ r, r = (C : Int) * q := ⟨_, rfl⟩
    rw [← hr] at q5
    have r0 : 0 ≤ r := by rw [hr]; exact Int.mul_nonneg (by omega) (by omega)
    have g1 : ¬ x < 0 := by omega
    have g2 : ¬ (1099511627777 : Int) < y + 1 := by omega
    have g3 : ¬ y + 1 ≤ x := by omega
    have g2' : ¬ (1099511627776 : Int) < y := by omega
    ((try simp -implicitDefEqProofs [-loopQ_n, h, hPj, spnC, g1, g2, g2', g3]) <;> (repeat' (first | (refine condD_dec ?_ ?_ <;> (intro hc; (try simp -implicitDefEqProofs [-loopQ_n, hc, h, hPj, spnC, g1, g2, g2', g3]))) | (refine guardD_dec ?_ ?_ <;> (intro hc; (try simp -implicitDefEqProofs [-loopQ_n, hc, h, hPj, spnC, g1, g2, g2', g3]))) | (refine condD_intro ?_ ?_ <;> (intro hd; have hc := hd; (try simp at hc) <;> (try simp -implicitDefEqProofs [-loopQ_n, hd, hc, h, hPj, spnC, g1, g2, g2', g3]))) | (refine guardD_intro ?_ ?_ <;> (intro hd; have hc := hd; (try simp at hc) <;> (try simp -implicitDefEqProofs [-loopQ_n, hd, hc, h, hPj, spnC, g1, g2, g2', g3]))) | (refine ldD_ep ?_ ?_; (focus kernel_rfl); (try simp -implicitDefEqProofs [-loopQ_n, h, hPj, spnC, g1, g2, g2', g3])))))
    refine loop_intro (σ := Nat) (fun c => ⟨[(0, .rs (rowsOf intC l)), (1, .int .i64 K), (7, .int .i64 s), (8, .int .i64 (i + c : Nat)), (10, .op 0 0), (11, .int .i64 c), (37, .rs (rowsOf spnC P)), (38, .int .i64 P.length), (39, .int .i64 j)], [.box 46 [.int .i64 x, .int .i64 (y + 1)]]⟩)
      (fun c => i + c ≤ e) (fun c => e - c) 0 (by omega) ?_ ?_
    · refine weak_of 1 0 rfl rfl ?_ ?_ <;> simp
    intro c hc
    obtain ⟨t, ht⟩ : ∃ t, t = i + c := ⟨_, rfl⟩
    rw [← ht]
    have w1 : wrapI .i64 ((t : Int) + 1) = ((t + 1 : Nat) : Int) := by rw [wrap_in (by omega) (by omega)]; omega
    have w2 : wrapI .i64 ((c : Int) + 1) = ((c + 1 : Nat) : Int) := by rw [wrap_in (by omega) (by omega)]; omega
    by_cases hce : t < e
    · have htl : t < l.length := by omega
      obtain ⟨z, hz2⟩ : ∃ z, l[t] = z := ⟨_, rfl⟩
      have lz : lat l t = z := by rw [lat_get htl, hz2]
      have m1 := timeV_mono hv (show i ≤ t by omega) htl
      have m2 := timeV_mono hv (show t ≤ e' by omega) hel
      rw [lx, lz] at m1
      rw [ly, lz] at m2
      have m3 : z < y + 1 := by omega
      ((try simp -implicitDefEqProofs [-loopQ_n, htl, hz2, m1, m2, m3, w1, w2]) <;> (repeat' (first | (refine condD_dec ?_ ?_ <;> (intro hc; (try simp -implicitDefEqProofs [-loopQ_n, hc, htl, hz2, m1, m2, m3, w1, w2]))) | (refine guardD_dec ?_ ?_ <;> (intro hc; (try simp -implicitDefEqProofs [-loopQ_n, hc, htl, hz2, m1, m2, m3, w1, w2]))) | (refine condD_intro ?_ ?_ <;> (intro hd; have hc := hd; (try simp at hc) <;> (try simp -implicitDefEqProofs [-loopQ_n, hd, hc, htl, hz2, m1, m2, m3, w1, w2]))) | (refine guardD_intro ?_ ?_ <;> (intro hd; have hc := hd; (try simp at hc) <;> (try simp -implicitDefEqProofs [-loopQ_n, hd, hc, htl, hz2, m1, m2, m3, w1, w2]))) | (refine ldD_ep ?_ ?_; (focus kernel_rfl); (try simp -implicitDefEqProofs [-loopQ_n, htl, hz2, m1, m2, m3, w1, w2])))))
      refine loop_next (c + 1) (by omega) (by omega) (weak_of 1 0 rfl rfl ?_ ?_) <;> simp [ht]
      omega
    · have hte : t = e := by omega
      have hcC : c = C := by omega
      have v1 : wrapI .i64 ((t : Int) - c) = (i : Int) := by rw [wrap_in (by omega) (by omega)]; omega
      have v2 : wrapI .i64 ((t : Int) - 1) = (e' : Int) := by rw [wrap_in (by omega) (by omega)]; omega
      have v3 : wrapI .i64 (y + 1 - 1) = y := by rw [wrap_in (by omega) (by omega)]; omega
      have v3' : wrapI .i64 y = y := wrap_in (by omega) (by omega)
      have v4 : wrapI .i64 (y - x) = q := by rw [wrap_in (by omega) (by omega)]; omega
      have v5 : wrapI .i64 ((c : Int) * q) = r := by rw [hcC, ← hr]; exact wrap_in (by omega) (by omega)
      have v6 : wrapI .i64 (s + r) = s + r := wrap_in (by omega) (by omega)
      have v7 : wrapI .i64 ((j : Int) + 1) = ((j + 1 : Nat) : Int) := by rw [wrap_in (by omega) (by omega)]; omega
      have v8 : ¬ (c : Int) < K := by omega
      have v9 : ¬ c < K := by omega
      by_cases htl : t < l.length
      · obtain ⟨z, hz2⟩ : ∃ z, l[t] = z := ⟨_, rfl⟩
        have lz : lat l t = z := by rw [lat_get htl, hz2]
        have m1 := timeV_mono hv (show e' ≤ t by omega) htl
        rw [ly, lz] at m1
        have m2 := q4 (by omega)
        rw [← hte, lz] at m2
        have m3 : ¬ z < y + 1 := by omega
        have m4 : x ≤ z := by omega
        ((try simp -implicitDefEqProofs [-loopQ_n, htl, hz2, m3, m4, hil, hel, hx, hy, v1, v2, v3, v3', v4, v5, v6, v7, v8, v9]) <;> (repeat' (first | (refine condD_dec ?_ ?_ <;> (intro hc; (try simp -implicitDefEqProofs [-loopQ_n, hc, htl, hz2, m3, m4, hil, hel, hx, hy, v1, v2, v3, v3', v4, v5, v6, v7, v8, v9]))) | (refine guardD_dec ?_ ?_ <;> (intro hc; (try simp -implicitDefEqProofs [-loopQ_n, hc, htl, hz2, m3, m4, hil, hel, hx, hy, v1, v2, v3, v3', v4, v5, v6, v7, v8, v9]))) | (refine condD_intro ?_ ?_ <;> (intro hd; have hc := hd; (try simp at hc) <;> (try simp -implicitDefEqProofs [-loopQ_n, hd, hc, htl, hz2, m3, m4, hil, hel, hx, hy, v1, v2, v3, v3', v4, v5, v6, v7, v8, v9]))) | (refine guardD_intro ?_ ?_ <;> (intro hd; have hc := hd; (try simp at hc) <;> (try simp -implicitDefEqProofs [-loopQ_n, hd, hc, htl, hz2, m3, m4, hil, hel, hx, hy, v1, v2, v3, v3', v4, v5, v6, v7, v8, v9]))) | (refine ldD_ep ?_ ?_; (focus kernel_rfl); (try simp -implicitDefEqProofs [-loopQ_n, htl, hz2, m3, m4, hil, hel, hx, hy, v1, v2, v3, v3', v4, v5, v6, v7, v8, v9])))))
        refine loop_next (j + 1, t, s + r) ⟨by simp only; omega, by simp only; omega, by simp only; rw [hte]; exact hD, by simp only; rw [hte]; exact q3, by simp only; omega, by simp only; rw [hte]; omega⟩ (by simp only; omega) (weak_of 0 0 rfl rfl ?_ ?_) <;> simp
      · ((try simp -implicitDefEqProofs [-loopQ_n, htl, hil, hel, hx, hy, v1, v2, v3, v3', v4, v5, v6, v7, v8, v9]) <;> (repeat' (first | (refine condD_dec ?_ ?_ <;> (intro hc; (try simp -implicitDefEqProofs [-loopQ_n, hc, htl, hil, hel, hx, hy, v1, v2, v3, v3', v4, v5, v6, v7, v8, v9]))) | (refine guardD_dec ?_ ?_ <;> (intro hc; (try simp -implicitDefEqProofs [-loopQ_n, hc, htl, hil, hel, hx, hy, v1, v2, v3, v3', v4, v5, v6, v7, v8, v9]))) | (refine condD_intro ?_ ?_ <;> (intro hd; have hc := hd; (try simp at hc) <;> (try simp -implicitDefEqProofs [-loopQ_n, hd, hc, htl, hil, hel, hx, hy, v1, v2, v3, v3', v4, v5, v6, v7, v8, v9]))) | (refine guardD_intro ?_ ?_ <;> (intro hd; have hc := hd; (try simp at hc) <;> (try simp -implicitDefEqProofs [-loopQ_n, hd, hc, htl, hil, hel, hx, hy, v1, v2, v3, v3', v4, v5, v6, v7, v8, v9]))) | (refine ldD_ep ?_ ?_; (focus kernel_rfl); (try simp -implicitDefEqProofs [-loopQ_n, htl, hil, hel, hx, hy, v1, v2, v3, v3', v4, v5, v6, v7, v8, v9])))))
        refine loop_next (j + 1, t, s + r) ⟨by simp only; omega, by simp only; omega, by simp only; rw [hte]; exact hD, by simp only; rw [hte]; exact q3, by simp only; omega, by simp only; rw [hte]; omega⟩ (by simp only; omega) (weak_of 0 0 rfl rfl ?_ ?_) <;> simp
  · have hil : i = l.length := by
      rcases Nat.lt_or_ge i l.length with q | q
      · rw [gpath, if_pos q, List.drop_eq_nil_of_le (by omega)] at hD; cases hD
      · omega
    subst hil
    have hsS : s = S := by rw [hT.zero] at hsum; omega
    subst hsS
    obtain ⟨m, hm⟩ : ∃ m, m = l.length - 1 := ⟨_, rfl⟩
    have w1 : wrapI .i64 ((l.length : Int) - 1) = (m : Int) := by rw [wrap_in (by omega) (by omega)]; omega
    obtain ⟨M, hM⟩ : ∃ M : Nat, M = 2 ^ m := ⟨_, rfl⟩
    have hM' : (2 : Int) ^ m = M := by rw [hM]; simp
    have hMb : M ≤ 512 := by rw [hM]; exact Nat.pow_le_pow_right (by omega) (show m ≤ 9 by omega)
    have hm64 : (m : Int) ≤ 64 := by omega
    have w2 : wrapI .i64 (M : Int) = M := wrap_in (by omega) (by omega)
    ((try simp -implicitDefEqProofs [-loopQ_n, h, w1, hM', hm64, w2]) <;> (repeat' (first | (refine condD_dec ?_ ?_ <;> (intro hc; (try simp -implicitDefEqProofs [-loopQ_n, hc, h, w1, hM', hm64, w2]))) | (refine guardD_dec ?_ ?_ <;> (intro hc; (try simp -implicitDefEqProofs [-loopQ_n, hc, h, w1, hM', hm64, w2]))) | (refine condD_intro ?_ ?_ <;> (intro hd; have hc := hd; (try simp at hc) <;> (try simp -implicitDefEqProofs [-loopQ_n, hd, hc, h, w1, hM', hm64, w2]))) | (refine guardD_intro ?_ ?_ <;> (intro hd; have hc := hd; (try simp at hc) <;> (try simp -implicitDefEqProofs [-loopQ_n, hd, hc, h, w1, hM', hm64, w2]))) | (refine ldD_ep ?_ ?_; (focus kernel_rfl); (try simp -implicitDefEqProofs [-loopQ_n, h, w1, hM', hm64, w2])))))
    refine loop_intro (σ := Nat) (fun E => ⟨[(0, .rs (rowsOf intC l)), (1, .int .i64 K), (7, .int .i64 s), (127, .int .i64 M), (128, .int .i64 E)], []⟩)
      (fun E => E ≤ M) (fun E => M - E) 0 (by omega) ?_ ?_
    · refine weak_of 0 0 rfl rfl ?_ ?_ <;> simp
    intro E hE
    by_cases hEM : E < M
    · have hc := hC E (by omega)
      obtain ⟨⟨c, ok⟩, hcr⟩ : ∃ x, costG l K E l.length 0 0 0 = x := ⟨_, rfl⟩
      rw [hcr] at hc
      have w3 : wrapI .i64 ((E : Int) + 1) = ((E + 1 : Nat) : Int) := by rw [wrap_in (by omega) (by omega)]; omega
      cases ok with
      | true =>
        have := (hge E c hcr).2
        have k1 : ¬ c < s := by omega
        ((try simp -implicitDefEqProofs [-loopQ_n, hEM, w3, k1]) <;> (repeat' (first | (refine condD_dec ?_ ?_ <;> (intro hc; (try simp -implicitDefEqProofs [-loopQ_n, hc, hEM, w3, k1]))) | (refine guardD_dec ?_ ?_ <;> (intro hc; (try simp -implicitDefEqProofs [-loopQ_n, hc, hEM, w3, k1]))) | (refine condD_intro ?_ ?_ <;> (intro hd; have hc := hd; (try simp at hc) <;> (try simp -implicitDefEqProofs [-loopQ_n, hd, hc, hEM, w3, k1]))) | (refine guardD_intro ?_ ?_ <;> (intro hd; have hc := hd; (try simp at hc) <;> (try simp -implicitDefEqProofs [-loopQ_n, hd, hc, hEM, w3, k1]))) | (refine ldD_ep ?_ ?_; (focus kernel_rfl); (try simp -implicitDefEqProofs [-loopQ_n, hEM, w3, k1])) | (refine callS_mk ?_; (try simp -implicitDefEqProofs [-loopQ_n, hEM, w3, k1]); (first | refine callS_intro (hc) (.inl rfl) ?_); (try simp -implicitDefEqProofs [-loopQ_n, hEM, w3, k1])))))
        refine loop_next (E + 1) (by omega) (by omega) (weak_of 0 0 rfl rfl ?_ ?_) <;> simp
      | false =>
        ((try simp -implicitDefEqProofs [-loopQ_n, hEM, w3]) <;> (repeat' (first | (refine condD_dec ?_ ?_ <;> (intro hc; (try simp -implicitDefEqProofs [-loopQ_n, hc, hEM, w3]))) | (refine guardD_dec ?_ ?_ <;> (intro hc; (try simp -implicitDefEqProofs [-loopQ_n, hc, hEM, w3]))) | (refine condD_intro ?_ ?_ <;> (intro hd; have hc := hd; (try simp at hc) <;> (try simp -implicitDefEqProofs [-loopQ_n, hd, hc, hEM, w3]))) | (refine guardD_intro ?_ ?_ <;> (intro hd; have hc := hd; (try simp at hc) <;> (try simp -implicitDefEqProofs [-loopQ_n, hd, hc, hEM, w3]))) | (refine ldD_ep ?_ ?_; (focus kernel_rfl); (try simp -implicitDefEqProofs [-loopQ_n, hEM, w3])) | (refine callS_mk ?_; (try simp -implicitDefEqProofs [-loopQ_n, hEM, w3]); (first | refine callS_intro (hc) (.inl rfl) ?_); (try simp -implicitDefEqProofs [-loopQ_n, hEM, w3])))))
        refine loop_next (E + 1) (by omega) (by omega) (weak_of 0 0 rfl rfl ?_ ?_) <;> simp
    · obtain rfl : E = M := by omega
      ((try simp -implicitDefEqProofs [-loopQ_n]) <;> (repeat' (first | (refine condD_dec ?_ ?_ <;> (intro hc; (try simp -implicitDefEqProofs [-loopQ_n, hc]))) | (refine guardD_dec ?_ ?_ <;> (intro hc; (try simp -implicitDefEqProofs [-loopQ_n, hc]))) | (refine condD_intro ?_ ?_ <;> (intro hd; have hc := hd; (try simp at hc) <;> (try simp -implicitDefEqProofs [-loopQ_n, hd, hc]))) | (refine guardD_intro ?_ ?_ <;> (intro hd; have hc := hd; (try simp at hc) <;> (try simp -implicitDefEqProofs [-loopQ_n, hd, hc]))) | (refine ldD_ep ?_ ?_; (focus kernel_rfl); (try simp -implicitDefEqProofs [-loopQ_n])))))
theorem both (x0 : AV) (s0 : argS Try.prog 38 x0) (x1 : AV) (s1 : argS Try.prog 3 x1) : Pure Try.prog 6 [x0, x1] (.bool true) := by
  obtain ⟨l, rfl, _, _⟩ := arg_ints s0
  obtain ⟨k, rfl, _⟩ := arg_i64 s1
  exact main l k
theorem walk (W : World) (hvo : VarsOk W (fun _ => False)) (v0 : Value) (x0 : AV) (r0 : RO W (fun _ => False) x0 v0) (s0 : argS Try.prog 38 x0) (v1 : Value) (x1 : AV) (r1 : RO W (fun _ => False) x1 v1) (s1 : argS Try.prog 3 x1) :
    Calls Try.prog 6 #[v0, v1] W fun e w' => e = .returned (.bool true) ∧ Below W.heap.size W w' := by
  refine ((both x0 s0 x1 s1).2 W (fun _ => False) _ (fun _ h => h.elim) hvo rfl ?_).mono ?_
  · intro j x v hj hv
    match j with
    | 0 => simp at hj hv; subst hj hv; exact r0
    | 1 => simp at hj hv; subst hj hv; exact r1
    | j + 2 => simp at hj
  · rintro e w' ⟨v, rfl, hv, hb⟩
    rw [ro_tt hv]
    exact ⟨rfl, hb⟩
end
set_option maxRecDepth 100000 in
theorem lifted (os : Os) (started : os.Started) (H : Type) (enc : TypeId × Value → H) :
    ReturnsInHanded {} Try.checked os 6 .any (Rows.privacyBestSpec.pre6 enc Try.prog Try.f6 Rows.privacyBestRow.domain false) (Rows.privacyBestSpec.post enc Try.prog Try.f6 false true false false) := by
  refine returnsInHanded_of_change (C := Try.checked) (@ownK ⟨fun _ => none⟩) started (by kernel_rfl) Try.func6
    (ChangeSpec.witness6 (enc := enc) (C := Try.checked) false ⟨#[], #[.slice none 0 0, .int .i64 0], []⟩ 8 (by kernel_rfl) (by kernel_rfl) (by kernel_rfl) (by kernel_rfl)) ?_
  intro W base args ds gs before hval0 hW hcnd _
  have hval : ∀ (j : Nat) t v, Try.f6.params[j]? = some t → args[j]? = some v → Value.okWide Try.prog W .any base t v := hval0
  have hW' := hW
  obtain ⟨p, q, hA0, hV, rfl, hfz, hnd⟩ := hW
  have hA : DataW.TrodAll enc Try.prog W 0 (fun _ => true) true Try.f6.params.toList args.toList ds p := hA0
  rw [Try.params6] at hA hval
  obtain ⟨v0, vs0, d0, ds0, p0, q0, hargs, rfl, rfl, h0, r0⟩ := trodAll_cons hA
  obtain ⟨v1, vs1, d1, ds1, p1, q1, rfl, rfl, rfl, h1, r1⟩ := trodAll_cons r0
  obtain ⟨rfl, rfl, rfl⟩ := trodAll_nil r1
  obtain rfl : args = #[v0, v1] := by cases args; simp_all
  obtain ⟨rfl, rfl⟩ := trodVars_none hV
  letI : Glob := ⟨fun _ => none⟩
  have k0 := h0
  have lt0 : ∀ x ∈ p0, x.block < W.heap.size := by obtain ⟨m, hm⟩ := k0; exact DataW.trod_lt m _ _ _ hm
  obtain ⟨x0, y0, s0⟩ := arg_open (P := Try.prog) (t := 38) (by kernel_rfl) (by kernel_rfl) (hval 0 38 v0 rfl rfl) h0
  have k1 := h1
  have lt1 : ∀ x ∈ p1, x.block < W.heap.size := by obtain ⟨m, hm⟩ := k1; exact DataW.trod_lt m _ _ _ hm
  obtain ⟨x1, y1, s1⟩ := arg_open (P := Try.prog) (t := 3) (by kernel_rfl) (by kernel_rfl) (hval 1 3 v1 rfl rfl) h1
  clear hA0 hval0
  refine (walk W (fun g row h => by cases h) v0 x0 y0 s0 v1 x1 y1 s1).mono fun e W' ⟨he, bel⟩ => ?_
  subst he
  exact ⟨_, rfl, _, _, _, [], _, [], hW', trodAll_mk1 (shut_bool Try.underlying4 _), (trodAll_cons_mk (Below.trod laidK (by kernel_rfl) (of_decide_eq_true (by kernel_rfl)) k0 bel lt0) (trodAll_cons_mk (Below.trod laidK (by kernel_rfl) (of_decide_eq_true (by kernel_rfl)) k1 bel lt1) trodAll_mk0)), rfl, bel.frame _, fun h => by cases h⟩

theorem over : Rows.privacyBestRow.holds Try.pinned (OpenSpec.ofChange Rows.privacyBestSpec) :=
  OpenClaim.holds_of_wide 6 Try.f6 rfl rfl rfl rfl rfl rfl rfl ⟨rfl, rfl, rfl, rfl, rfl⟩ rfl rfl rfl rfl rfl (by kernel_rfl) Try.func6 (by kernel_rfl)
    (of_decide_eq_true (by kernel_rfl)) (by unfold Func.isWrapper; first | (rw [if_pos (by decide +kernel)]; kernel_rfl) | (rw [if_neg (by decide +kernel)]; exact ⟨rfl, rfl⟩))
    (fun os started H enc _ => lifted os started H enc)

theorem proved : Rows.PrivacyBestSaid := over
end Go.Proofs.Ytkppfaennogcmaa.lawPBest
