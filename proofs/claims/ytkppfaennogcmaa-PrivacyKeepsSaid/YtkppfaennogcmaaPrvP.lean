/- Loss of the reference, walked: it is lossR, too. -/
import Derived.Test.YtkppfaennogcmaaPrvO
import Derived.Test.YtkppfaennogcmaaPrvR
namespace Go.Proofs.Ytkppfaennogcmaa
set_option linter.unusedSimpArgs false
set_option linter.unusedVariables false
set_option linter.unnecessarySimpa false
set_option linter.unusedSectionVars false
open Go.RowKit
variable [Glob]
set_option maxRecDepth 100000
theorem begins_pure (w u : Wo) (hw : w.length ≤ 1000) (hu : u.length ≤ 1000) : Pure Try.prog 93 [.rs (rowsOf strC w), .rs (rowsOf strC u)] (.bool (decide (pre u w))) := by
  by_cases h : u.length ≤ w.length
  · have h' : (u.length : Int) ≤ w.length := by omega
    have e1 : (rowsOf strC w).take u.length = rowsOf strC (w.take u.length) := rowsOf_take
    have hC := rcompare_pure (w.take u.length) u (by simp; omega) (by omega)
    have hd : decide (cmpL (w.take u.length) u = 0) = decide (pre u w) := by unfold pre; congr 1; simp only [eq_iff_iff]; exact cmpL_iff
    obtain ⟨c, hc⟩ : ∃ c, cmpL (w.take u.length) u = c := ⟨_, rfl⟩
    rw [hc] at hC hd
    rw [← hd]
    refine pure_of mixed Try.func93 rfl (by kernel_rfl) (of_decide_eq_true rfl) (by kernel_rfl) (vc_run ?_)
    ((try simp -implicitDefEqProofs [-loopQ_n, h, h', e1]) <;> (repeat' (first | (refine condD_dec ?_ ?_ <;> (intro hc; (try simp -implicitDefEqProofs [-loopQ_n, hc, h, h', e1]))) | (refine guardD_dec ?_ ?_ <;> (intro hc; (try simp -implicitDefEqProofs [-loopQ_n, hc, h, h', e1]))) | (refine condD_intro ?_ ?_ <;> (intro hd; have hc := hd; (try simp at hc) <;> (try simp -implicitDefEqProofs [-loopQ_n, hd, hc, h, h', e1]))) | (refine guardD_intro ?_ ?_ <;> (intro hd; have hc := hd; (try simp at hc) <;> (try simp -implicitDefEqProofs [-loopQ_n, hd, hc, h, h', e1]))) | (refine ldD_ep ?_ ?_; (focus kernel_rfl); (try simp -implicitDefEqProofs [-loopQ_n, h, h', e1])) | (refine callS_mk ?_; (try simp -implicitDefEqProofs [-loopQ_n, h, h', e1]); (first | refine callS_intro (hC) (.inl rfl) ?_); (try simp -implicitDefEqProofs [-loopQ_n, h, h', e1])))))
  · have h' : ¬ (u.length : Int) ≤ w.length := by omega
    have hd : decide (pre u w) = false := decide_eq_false fun q => h (pre_len q)
    rw [hd]
    refine pure_of mixed Try.func93 rfl (by kernel_rfl) (of_decide_eq_true rfl) (by kernel_rfl) (vc_run ?_)
    ((try simp -implicitDefEqProofs [-loopQ_n, h, h']) <;> (repeat' (first | (refine condD_dec ?_ ?_ <;> (intro hc; (try simp -implicitDefEqProofs [-loopQ_n, hc, h, h']))) | (refine guardD_dec ?_ ?_ <;> (intro hc; (try simp -implicitDefEqProofs [-loopQ_n, hc, h, h']))) | (refine condD_intro ?_ ?_ <;> (intro hd; have hc := hd; (try simp at hc) <;> (try simp -implicitDefEqProofs [-loopQ_n, hd, hc, h, h']))) | (refine guardD_intro ?_ ?_ <;> (intro hd; have hc := hd; (try simp at hc) <;> (try simp -implicitDefEqProofs [-loopQ_n, hd, hc, h, h']))) | (refine ldD_ep ?_ ?_; (focus kernel_rfl); (try simp -implicitDefEqProofs [-loopQ_n, h, h'])))))
def sumI (u : Wo) (l : List Wd) (i : Nat) : Int := sumU u (l.drop i)
def smallW (l : List Wd) : Prop := ∀ v ∈ l, 0 ≤ v.n ∧ v.n ≤ 1048576 ∧ v.acts.length ≤ 200
theorem sumU_bd {u : Wo} : ∀ l : List Wd, smallW l → 0 ≤ sumU u l ∧ sumU u l ≤ (l.length : Int) * 1048576 := by
  intro l
  induction l with
  | nil => intro _; simp [sumU]
  | cons v l ih =>
    intro h
    have h1 := ih fun x hx => h x (by simp [hx])
    have h2 := h v (by simp)
    simp only [sumU, List.length_cons]
    split <;> omega
set_option maxHeartbeats 8000000 in
theorem cases_pure (l : List Wd) (u : Wo) (hl : l.length ≤ 300) (hs : smallW l) (hu : u.length ≤ 1000) : Pure Try.prog 59 [.rs (rowsOf wdC l), .rs (rowsOf strC u)] (.int .i64 (sumU u l)) := by
  obtain ⟨R, hR⟩ : ∃ R, sumU u l = R := ⟨_, rfl⟩
  have hb := sumU_bd (u := u) l hs
  rw [hR] at hb ⊢
  refine pure_of mixed Try.func59 rfl (by kernel_rfl) (of_decide_eq_true rfl) (by kernel_rfl) (vc_run ?_)
  ((try simp -implicitDefEqProofs [-loopQ_n]) <;> (repeat' (first | (refine condD_dec ?_ ?_ <;> (intro hc; (try simp -implicitDefEqProofs [-loopQ_n, hc]))) | (refine guardD_dec ?_ ?_ <;> (intro hc; (try simp -implicitDefEqProofs [-loopQ_n, hc]))) | (refine condD_intro ?_ ?_ <;> (intro hd; have hc := hd; (try simp at hc) <;> (try simp -implicitDefEqProofs [-loopQ_n, hd, hc]))) | (refine guardD_intro ?_ ?_ <;> (intro hd; have hc := hd; (try simp at hc) <;> (try simp -implicitDefEqProofs [-loopQ_n, hd, hc]))) | (refine ldD_ep ?_ ?_; (focus kernel_rfl); (try simp -implicitDefEqProofs [-loopQ_n])))))
  refine loop_intro (σ := Nat × Int) (fun x => ⟨[(0, .rs (rowsOf wdC l)), (1, .rs (rowsOf strC u)), (5, .int .i64 x.2), (6, .int .i64 x.1)], []⟩)
    (fun x => x.1 ≤ l.length ∧ 0 ≤ x.2 ∧ x.2 + sumI u l x.1 = R) (fun x => l.length - x.1) (0, 0) ⟨by simp, by simp, by simp [sumI, hR]⟩ ?_ ?_
  · refine weak_of 0 0 rfl rfl ?_ ?_ <;> simp
  rintro ⟨i, s⟩ ⟨hi, hs0, hR⟩
  simp only at hi hs0 hR
  by_cases h : i < l.length
  · have w1 : wrapI .i64 ((i : Int) + 1) = (i : Int) + 1 := wrap_in (by omega) (by omega)
    obtain ⟨⟨A, n⟩, hx⟩ : ∃ x, l[i] = x := ⟨_, rfl⟩
    have hv := hs l[i] (by simp)
    rw [hx] at hv
    simp only at hv
    have hrest := (sumU_bd (u := u) (l.drop (i + 1)) fun x hx => hs x (List.mem_of_mem_drop hx)).1
    unfold sumI at hR
    rw [List.drop_eq_getElem_cons h, hx, sumU] at hR
    simp only at hR
    have hB := begins_pure A u (by omega) hu
    by_cases c : pre u A
    · rw [if_pos c] at hR
      rw [decide_eq_true c] at hB
      have w2 : wrapI .i64 (s + n) = s + n := wrap_in (by omega) (by omega)
      ((try simp -implicitDefEqProofs [-loopQ_n, h, hx, wdC, w2]) <;> (repeat' (first | (refine condD_dec ?_ ?_ <;> (intro hc; (try simp -implicitDefEqProofs [-loopQ_n, hc, h, hx, wdC, w2]))) | (refine guardD_dec ?_ ?_ <;> (intro hc; (try simp -implicitDefEqProofs [-loopQ_n, hc, h, hx, wdC, w2]))) | (refine condD_intro ?_ ?_ <;> (intro hd; have hc := hd; (try simp at hc) <;> (try simp -implicitDefEqProofs [-loopQ_n, hd, hc, h, hx, wdC, w2]))) | (refine guardD_intro ?_ ?_ <;> (intro hd; have hc := hd; (try simp at hc) <;> (try simp -implicitDefEqProofs [-loopQ_n, hd, hc, h, hx, wdC, w2]))) | (refine ldD_ep ?_ ?_; (focus kernel_rfl); (try simp -implicitDefEqProofs [-loopQ_n, h, hx, wdC, w2])) | (refine callS_mk ?_; (try simp -implicitDefEqProofs [-loopQ_n, h, hx, wdC, w2]); (first | refine callS_intro (hB) (.inl rfl) ?_); (try simp -implicitDefEqProofs [-loopQ_n, h, hx, wdC, w2])))))
      refine loop_next (i + 1, s + n) ⟨by simp only; omega, by simp only; omega, by simp only [sumI]; omega⟩ (by simp only; omega) (weak_of 0 0 rfl rfl ?_ ?_) <;> simp [w1]
    · rw [if_neg c] at hR
      rw [decide_eq_false c] at hB
      ((try simp -implicitDefEqProofs [-loopQ_n, h, hx, wdC]) <;> (repeat' (first | (refine condD_dec ?_ ?_ <;> (intro hc; (try simp -implicitDefEqProofs [-loopQ_n, hc, h, hx, wdC]))) | (refine guardD_dec ?_ ?_ <;> (intro hc; (try simp -implicitDefEqProofs [-loopQ_n, hc, h, hx, wdC]))) | (refine condD_intro ?_ ?_ <;> (intro hd; have hc := hd; (try simp at hc) <;> (try simp -implicitDefEqProofs [-loopQ_n, hd, hc, h, hx, wdC]))) | (refine guardD_intro ?_ ?_ <;> (intro hd; have hc := hd; (try simp at hc) <;> (try simp -implicitDefEqProofs [-loopQ_n, hd, hc, h, hx, wdC]))) | (refine ldD_ep ?_ ?_; (focus kernel_rfl); (try simp -implicitDefEqProofs [-loopQ_n, h, hx, wdC])) | (refine callS_mk ?_; (try simp -implicitDefEqProofs [-loopQ_n, h, hx, wdC]); (first | refine callS_intro (hB) (.inl rfl) ?_); (try simp -implicitDefEqProofs [-loopQ_n, h, hx, wdC])))))
      refine loop_next (i + 1, s) ⟨by simp only; omega, by simp only; omega, by simp only [sumI]; omega⟩ (by simp only; omega) (weak_of 0 0 rfl rfl ?_ ?_) <;> simp [w1]
  · unfold sumI at hR
    rw [List.drop_eq_nil_of_le (by omega), sumU] at hR
    have : s = R := by omega
    subst this
    ((try simp -implicitDefEqProofs [-loopQ_n, h]) <;> (repeat' (first | (refine condD_dec ?_ ?_ <;> (intro hc; (try simp -implicitDefEqProofs [-loopQ_n, hc, h]))) | (refine guardD_dec ?_ ?_ <;> (intro hc; (try simp -implicitDefEqProofs [-loopQ_n, hc, h]))) | (refine condD_intro ?_ ?_ <;> (intro hd; have hc := hd; (try simp at hc) <;> (try simp -implicitDefEqProofs [-loopQ_n, hd, hc, h]))) | (refine guardD_intro ?_ ?_ <;> (intro hd; have hc := hd; (try simp at hc) <;> (try simp -implicitDefEqProofs [-loopQ_n, hd, hc, h]))) | (refine ldD_ep ?_ ?_; (focus kernel_rfl); (try simp -implicitDefEqProofs [-loopQ_n, h])))))
set_option maxHeartbeats 8000000 in
theorem acts_pure (l : List Wd) (hl : l.length ≤ 300) (hw : ∀ v ∈ l, wdG v) : Pure Try.prog 60 [.rs (rowsOf wdC l)] (.int .i64 (actsS l)) := by
  obtain ⟨R, hR⟩ : ∃ R, actsS l = R := ⟨_, rfl⟩
  have hb := actsS_bd l hw
  rw [hR] at hb ⊢
  refine pure_of mixed Try.func60 rfl (by kernel_rfl) (of_decide_eq_true rfl) (by kernel_rfl) (vc_run ?_)
  ((try simp -implicitDefEqProofs [-loopQ_n]) <;> (repeat' (first | (refine condD_dec ?_ ?_ <;> (intro hc; (try simp -implicitDefEqProofs [-loopQ_n, hc]))) | (refine guardD_dec ?_ ?_ <;> (intro hc; (try simp -implicitDefEqProofs [-loopQ_n, hc]))) | (refine condD_intro ?_ ?_ <;> (intro hd; have hc := hd; (try simp at hc) <;> (try simp -implicitDefEqProofs [-loopQ_n, hd, hc]))) | (refine guardD_intro ?_ ?_ <;> (intro hd; have hc := hd; (try simp at hc) <;> (try simp -implicitDefEqProofs [-loopQ_n, hd, hc]))) | (refine ldD_ep ?_ ?_; (focus kernel_rfl); (try simp -implicitDefEqProofs [-loopQ_n])))))
  refine loop_intro (σ := Nat × Int) (fun x => ⟨[(0, .rs (rowsOf wdC l)), (3, .int .i64 x.2), (4, .int .i64 x.1)], []⟩)
    (fun x => x.1 ≤ l.length ∧ 0 ≤ x.2 ∧ x.2 + actI l x.1 = R) (fun x => l.length - x.1) (0, 0) ⟨by simp, by simp, by simp [actI, hR]⟩ ?_ ?_
  · refine weak_of 0 0 rfl rfl ?_ ?_ <;> simp
  rintro ⟨i, s⟩ ⟨hi, hs0, hR⟩
  simp only at hi hs0 hR
  by_cases h : i < l.length
  · have w1 : wrapI .i64 ((i : Int) + 1) = (i : Int) + 1 := wrap_in (by omega) (by omega)
    obtain ⟨⟨A, n⟩, hx⟩ : ∃ x, l[i] = x := ⟨_, rfl⟩
    have hv := hw l[i] (by simp)
    rw [hx] at hv
    obtain ⟨hv1, hv2, hv3, _⟩ := hv
    simp only at hv1 hv2 hv3
    have hrest := (actsS_bd (l.drop (i + 1)) fun x hx => hw x (List.mem_of_mem_drop hx)).1
    unfold actI at hR
    rw [List.drop_eq_getElem_cons h, hx, actsS] at hR
    simp only at hR
    have hp0 : 0 ≤ n * A.length := Int.mul_nonneg (by omega) (by omega)
    obtain ⟨q, hq⟩ : ∃ q, n * (A.length : Int) = q := ⟨_, rfl⟩
    rw [hq] at hR hp0
    have w3 : wrapI .i64 q = q := wrap_in (by omega) (by omega)
    have w4 : wrapI .i64 (s + q) = s + q := wrap_in (by omega) (by omega)
    ((try simp -implicitDefEqProofs [-loopQ_n, h, hx, wdC, hq, w3, w4]) <;> (repeat' (first | (refine condD_dec ?_ ?_ <;> (intro hc; (try simp -implicitDefEqProofs [-loopQ_n, hc, h, hx, wdC, hq, w3, w4]))) | (refine guardD_dec ?_ ?_ <;> (intro hc; (try simp -implicitDefEqProofs [-loopQ_n, hc, h, hx, wdC, hq, w3, w4]))) | (refine condD_intro ?_ ?_ <;> (intro hd; have hc := hd; (try simp at hc) <;> (try simp -implicitDefEqProofs [-loopQ_n, hd, hc, h, hx, wdC, hq, w3, w4]))) | (refine guardD_intro ?_ ?_ <;> (intro hd; have hc := hd; (try simp at hc) <;> (try simp -implicitDefEqProofs [-loopQ_n, hd, hc, h, hx, wdC, hq, w3, w4]))) | (refine ldD_ep ?_ ?_; (focus kernel_rfl); (try simp -implicitDefEqProofs [-loopQ_n, h, hx, wdC, hq, w3, w4])))))
    refine loop_next (i + 1, s + q) ⟨by simp only; omega, by simp only; omega, by simp only [actI]; omega⟩ (by simp only; omega) (weak_of 0 0 rfl rfl ?_ ?_) <;> simp [w1, hq, w3, w4]
  · unfold actI at hR
    rw [List.drop_eq_nil_of_le (by omega), actsS] at hR
    have : s = R := by omega
    subst this
    ((try simp -implicitDefEqProofs [-loopQ_n, h]) <;> (repeat' (first | (refine condD_dec ?_ ?_ <;> (intro hc; (try simp -implicitDefEqProofs [-loopQ_n, hc, h]))) | (refine guardD_dec ?_ ?_ <;> (intro hc; (try simp -implicitDefEqProofs [-loopQ_n, hc, h]))) | (refine condD_intro ?_ ?_ <;> (intro hd; have hc := hd; (try simp at hc) <;> (try simp -implicitDefEqProofs [-loopQ_n, hd, hc, h]))) | (refine guardD_intro ?_ ?_ <;> (intro hd; have hc := hd; (try simp at hc) <;> (try simp -implicitDefEqProofs [-loopQ_n, hd, hc, h]))) | (refine ldD_ep ?_ ?_; (focus kernel_rfl); (try simp -implicitDefEqProofs [-loopQ_n, h])))))
def okU (L P : List Wd) (u : Wo) : Prop := sumU u P ≤ sumU u L
theorem okU_all {L P : List Wd} (hL : ∀ v ∈ L, wdG v) (h : ∀ j (hj : j < P.length) k, k ≤ P[j].acts.length → okU L P (P[j].acts.take k)) : ∀ u, sumU u P ≤ sumU u L := by
  intro u
  have h0 : 0 ≤ sumU u L := sumU_nonneg fun v hv => by have := (hL v hv).2.1; omega
  by_cases hp : 0 < sumU u P
  · obtain ⟨v, hv, hpre⟩ := sumU_pos P hp
    obtain ⟨j, hj, rfl⟩ := List.getElem_of_mem hv
    have := h j hj u.length (pre_len hpre)
    unfold pre at hpre
    rw [hpre] at this
    exact this
  · omega
set_option maxHeartbeats 16000000 in
theorem rloss_pure (L P : List Wd) (hL : L.length ≤ 300) (hP : P.length ≤ 300) (hLw : ∀ v ∈ L, wdI v) (hPw : ∀ v ∈ P, wdI v) : Pure Try.prog 18 [.rs (rowsOf wdC L), .rs (rowsOf wdC P)] (lossT (lossR L P)) := by
  have h1 := rplain_pure L hL
  have h2 := rvalid_pure L hL hLw
  have h3 := rvalid_pure P hP hPw
  cases v1 : validW L with
  | false =>
    have hR : lossR L P = (0, 1) := by unfold lossR; rw [if_pos v1]
    rw [hR]
    rw [v1] at h2
    refine pure_of mixed Try.func18 rfl (by kernel_rfl) (of_decide_eq_true rfl) (by kernel_rfl) (vc_run ?_)
    ((try simp -implicitDefEqProofs [-loopQ_n, lossT]) <;> (repeat' (first | (refine condD_dec ?_ ?_ <;> (intro hc; (try simp -implicitDefEqProofs [-loopQ_n, hc, lossT]))) | (refine guardD_dec ?_ ?_ <;> (intro hc; (try simp -implicitDefEqProofs [-loopQ_n, hc, lossT]))) | (refine condD_intro ?_ ?_ <;> (intro hd; have hc := hd; (try simp at hc) <;> (try simp -implicitDefEqProofs [-loopQ_n, hd, hc, lossT]))) | (refine guardD_intro ?_ ?_ <;> (intro hd; have hc := hd; (try simp at hc) <;> (try simp -implicitDefEqProofs [-loopQ_n, hd, hc, lossT]))) | (refine ldD_ep ?_ ?_; (focus kernel_rfl); (try simp -implicitDefEqProofs [-loopQ_n, lossT])) | (refine callS_mk ?_; (try simp -implicitDefEqProofs [-loopQ_n, lossT]); (first | refine callS_intro (h1) (.inr ⟨rfl, rfl⟩) ?_ | refine callS_intro (h2) (.inl rfl) ?_); (try simp -implicitDefEqProofs [-loopQ_n, lossT])))))
  | true =>
  cases v2 : validW P with
  | false =>
    have hR : lossR L P = (0, 1) := by unfold lossR; rw [if_neg (by rw [v1]; simp), if_pos v2]
    rw [hR]
    rw [v1] at h2
    rw [v2] at h3
    refine pure_of mixed Try.func18 rfl (by kernel_rfl) (of_decide_eq_true rfl) (by kernel_rfl) (vc_run ?_)
    ((try simp -implicitDefEqProofs [-loopQ_n, lossT]) <;> (repeat' (first | (refine condD_dec ?_ ?_ <;> (intro hc; (try simp -implicitDefEqProofs [-loopQ_n, hc, lossT]))) | (refine guardD_dec ?_ ?_ <;> (intro hc; (try simp -implicitDefEqProofs [-loopQ_n, hc, lossT]))) | (refine condD_intro ?_ ?_ <;> (intro hd; have hc := hd; (try simp at hc) <;> (try simp -implicitDefEqProofs [-loopQ_n, hd, hc, lossT]))) | (refine guardD_intro ?_ ?_ <;> (intro hd; have hc := hd; (try simp at hc) <;> (try simp -implicitDefEqProofs [-loopQ_n, hd, hc, lossT]))) | (refine ldD_ep ?_ ?_; (focus kernel_rfl); (try simp -implicitDefEqProofs [-loopQ_n, lossT])) | (refine callS_mk ?_; (try simp -implicitDefEqProofs [-loopQ_n, lossT]); (first | refine callS_intro (h1) (.inr ⟨rfl, rfl⟩) ?_ | refine callS_intro (h2) (.inl rfl) ?_ | refine callS_intro (h3) (.inl rfl) ?_); (try simp -implicitDefEqProofs [-loopQ_n, lossT])))))
  | true =>
  have gL := validW_good v1
  have gP := validW_good v2
  have n1 := actsS_bd L gL
  have n2 := actsS_bd P gP
  have sL : smallW L := fun v hv => ⟨by have := (gL v hv).2.1; omega, (gL v hv).2.2.1, (gL v hv).1⟩
  have sP : smallW P := fun v hv => ⟨by have := (gP v hv).2.1; omega, (gP v hv).2.2.1, (gP v hv).1⟩
  have aL := acts_pure L hL gL
  have aP := acts_pure P hP gP
  have hov := over_iff gL gP
  have hR : lossR L P = if (begE P).any (overE (begE L)) = true then (0, 28) else (actsS L - actsS P, 0) := by unfold lossR; rw [if_neg (by rw [v1]; simp), if_neg (by rw [v2]; simp)]
  rw [v1] at h2
  rw [v2] at h3
  have r1 : ∀ u, ¬ okU L P u → lossR L P = (0, 28) := fun u hu => by
    rw [hR, if_pos (hov.2 ⟨u, by unfold okU at hu; omega⟩)]
  have r2 : (∀ u, sumU u P ≤ sumU u L) → lossR L P = (actsS L - actsS P, 0) := fun h => by
    rw [hR, if_neg fun q => by obtain ⟨u, hu⟩ := hov.1 q; have := h u; omega]
  have okall := @okU_all _ L P gL
  clear hR hov
  generalize actsS L = a at *
  generalize actsS P = b at *
  have w0 : wrapI .i64 (a - b) = a - b := wrap_in (by omega) (by omega)
  generalize lossR L P = R at *
  refine pure_of mixed Try.func18 rfl (by kernel_rfl) (of_decide_eq_true rfl) (by kernel_rfl) (vc_run ?_)
  ((try simp -implicitDefEqProofs [-loopQ_n]) <;> (repeat' (first | (refine condD_dec ?_ ?_ <;> (intro hc; (try simp -implicitDefEqProofs [-loopQ_n, hc]))) | (refine guardD_dec ?_ ?_ <;> (intro hc; (try simp -implicitDefEqProofs [-loopQ_n, hc]))) | (refine condD_intro ?_ ?_ <;> (intro hd; have hc := hd; (try simp at hc) <;> (try simp -implicitDefEqProofs [-loopQ_n, hd, hc]))) | (refine guardD_intro ?_ ?_ <;> (intro hd; have hc := hd; (try simp at hc) <;> (try simp -implicitDefEqProofs [-loopQ_n, hd, hc]))) | (refine ldD_ep ?_ ?_; (focus kernel_rfl); (try simp -implicitDefEqProofs [-loopQ_n])) | (refine callS_mk ?_; (try simp -implicitDefEqProofs [-loopQ_n]); (first | refine callS_intro (h1) (.inr ⟨rfl, rfl⟩) ?_ | refine callS_intro (h2) (.inl rfl) ?_ | refine callS_intro (h3) (.inl rfl) ?_); (try simp -implicitDefEqProofs [-loopQ_n])))))
  refine loop_intro (σ := Nat) (fun i => ⟨[(1, .rs (rowsOf wdC P)), (6, .rs (rowsOf wdC L)), (7, .int .i64 i)], []⟩)
    (fun i => i ≤ P.length ∧ ∀ j (hj : j < P.length) k, j < i → k ≤ P[j].acts.length → okU L P (P[j].acts.take k)) (fun i => P.length - i) 0 ⟨by simp, fun j hj k h => by omega⟩ ?_ ?_
  · refine weak_of 0 0 rfl rfl ?_ ?_ <;> simp
  rintro i ⟨hi, hok⟩
  by_cases h : i < P.length
  · have w1 : wrapI .i64 ((i : Int) + 1) = (i : Int) + 1 := wrap_in (by omega) (by omega)
    obtain ⟨⟨A, n⟩, hx⟩ : ∃ x, P[i] = x := ⟨_, rfl⟩
    have hA := (gP P[i] (by simp)).1
    rw [hx] at hA
    simp only at hA
    ((try simp -implicitDefEqProofs [-loopQ_n, h]) <;> (repeat' (first | (refine condD_dec ?_ ?_ <;> (intro hc; (try simp -implicitDefEqProofs [-loopQ_n, hc, h]))) | (refine guardD_dec ?_ ?_ <;> (intro hc; (try simp -implicitDefEqProofs [-loopQ_n, hc, h]))) | (refine condD_intro ?_ ?_ <;> (intro hd; have hc := hd; (try simp at hc) <;> (try simp -implicitDefEqProofs [-loopQ_n, hd, hc, h]))) | (refine guardD_intro ?_ ?_ <;> (intro hd; have hc := hd; (try simp at hc) <;> (try simp -implicitDefEqProofs [-loopQ_n, hd, hc, h]))) | (refine ldD_ep ?_ ?_; (focus kernel_rfl); (try simp -implicitDefEqProofs [-loopQ_n, h])))))
    refine loop_intro (σ := Nat) (fun k => ⟨[(1, .rs (rowsOf wdC P)), (6, .rs (rowsOf wdC L)), (7, .int .i64 i), (8, .int .i64 k)], []⟩)
      (fun k => k ≤ A.length + 1 ∧ ∀ q, q < k → okU L P (A.take q)) (fun k => A.length + 1 - k) 0 ⟨by simp, fun q h => by omega⟩ ?_ ?_
    · refine weak_of 0 0 rfl rfl ?_ ?_ <;> simp
    rintro k ⟨hk, hq⟩
    by_cases c : k ≤ A.length
    · have c' : (k : Int) ≤ A.length := by omega
      have w2 : wrapI .i64 ((k : Int) + 1) = (k : Int) + 1 := wrap_in (by omega) (by omega)
      have e1 : (rowsOf strC A).take k = rowsOf strC (A.take k) := rowsOf_take
      have cP := cases_pure P (A.take k) hP sP (by simp; omega)
      have cL := cases_pure L (A.take k) hL sL (by simp; omega)
      obtain ⟨y, hy⟩ : ∃ y, sumU (A.take k) P = y := ⟨_, rfl⟩
      obtain ⟨z, hz⟩ : ∃ z, sumU (A.take k) L = z := ⟨_, rfl⟩
      rw [hy] at cP
      rw [hz] at cL
      by_cases g : z < y
      · have := r1 (A.take k) (by unfold okU; omega)
        subst this
        ((try simp -implicitDefEqProofs [-loopQ_n, h, hx, wdC, c, c', e1, g, lossT]) <;> (repeat' (first | (refine condD_dec ?_ ?_ <;> (intro hc; (try simp -implicitDefEqProofs [-loopQ_n, hc, h, hx, wdC, c, c', e1, g, lossT]))) | (refine guardD_dec ?_ ?_ <;> (intro hc; (try simp -implicitDefEqProofs [-loopQ_n, hc, h, hx, wdC, c, c', e1, g, lossT]))) | (refine condD_intro ?_ ?_ <;> (intro hd; have hc := hd; (try simp at hc) <;> (try simp -implicitDefEqProofs [-loopQ_n, hd, hc, h, hx, wdC, c, c', e1, g, lossT]))) | (refine guardD_intro ?_ ?_ <;> (intro hd; have hc := hd; (try simp at hc) <;> (try simp -implicitDefEqProofs [-loopQ_n, hd, hc, h, hx, wdC, c, c', e1, g, lossT]))) | (refine ldD_ep ?_ ?_; (focus kernel_rfl); (try simp -implicitDefEqProofs [-loopQ_n, h, hx, wdC, c, c', e1, g, lossT])) | (refine callS_mk ?_; (try simp -implicitDefEqProofs [-loopQ_n, h, hx, wdC, c, c', e1, g, lossT]); (first | refine callS_intro (cP) (.inl rfl) ?_ | refine callS_intro (cL) (.inl rfl) ?_); (try simp -implicitDefEqProofs [-loopQ_n, h, hx, wdC, c, c', e1, g, lossT])))))
      · ((try simp -implicitDefEqProofs [-loopQ_n, h, hx, wdC, c, c', e1, g]) <;> (repeat' (first | (refine condD_dec ?_ ?_ <;> (intro hc; (try simp -implicitDefEqProofs [-loopQ_n, hc, h, hx, wdC, c, c', e1, g]))) | (refine guardD_dec ?_ ?_ <;> (intro hc; (try simp -implicitDefEqProofs [-loopQ_n, hc, h, hx, wdC, c, c', e1, g]))) | (refine condD_intro ?_ ?_ <;> (intro hd; have hc := hd; (try simp at hc) <;> (try simp -implicitDefEqProofs [-loopQ_n, hd, hc, h, hx, wdC, c, c', e1, g]))) | (refine guardD_intro ?_ ?_ <;> (intro hd; have hc := hd; (try simp at hc) <;> (try simp -implicitDefEqProofs [-loopQ_n, hd, hc, h, hx, wdC, c, c', e1, g]))) | (refine ldD_ep ?_ ?_; (focus kernel_rfl); (try simp -implicitDefEqProofs [-loopQ_n, h, hx, wdC, c, c', e1, g])) | (refine callS_mk ?_; (try simp -implicitDefEqProofs [-loopQ_n, h, hx, wdC, c, c', e1, g]); (first | refine callS_intro (cP) (.inl rfl) ?_ | refine callS_intro (cL) (.inl rfl) ?_); (try simp -implicitDefEqProofs [-loopQ_n, h, hx, wdC, c, c', e1, g])))))
        refine loop_next (k + 1) ⟨by omega, fun q hqk => ?_⟩ (by omega) (weak_of 0 0 rfl rfl ?_ ?_)
        · by_cases e : q = k
          · subst e; unfold okU; omega
          · exact hq q (by omega)
        · simp [w2]
        · simp
    · have c' : ¬ (k : Int) ≤ A.length := by omega
      ((try simp -implicitDefEqProofs [-loopQ_n, h, hx, wdC, c, c']) <;> (repeat' (first | (refine condD_dec ?_ ?_ <;> (intro hc; (try simp -implicitDefEqProofs [-loopQ_n, hc, h, hx, wdC, c, c']))) | (refine guardD_dec ?_ ?_ <;> (intro hc; (try simp -implicitDefEqProofs [-loopQ_n, hc, h, hx, wdC, c, c']))) | (refine condD_intro ?_ ?_ <;> (intro hd; have hc := hd; (try simp at hc) <;> (try simp -implicitDefEqProofs [-loopQ_n, hd, hc, h, hx, wdC, c, c']))) | (refine guardD_intro ?_ ?_ <;> (intro hd; have hc := hd; (try simp at hc) <;> (try simp -implicitDefEqProofs [-loopQ_n, hd, hc, h, hx, wdC, c, c']))) | (refine ldD_ep ?_ ?_; (focus kernel_rfl); (try simp -implicitDefEqProofs [-loopQ_n, h, hx, wdC, c, c'])))))
      refine loop_next (i + 1) ⟨by omega, fun j hj q hji hqA => ?_⟩ (by omega) (weak_of 0 0 rfl rfl ?_ ?_)
      · by_cases e : j = i
        · subst e
          rw [hx] at hqA ⊢
          exact hq q (by simp only at hqA; omega)
        · exact hok j hj q (by omega) hqA
      · simp [w1]
      · simp
  · have := r2 (okall fun j hj k hk => hok j hj k (by omega) hk)
    subst this
    ((try simp -implicitDefEqProofs [-loopQ_n, h, w0, lossT]) <;> (repeat' (first | (refine condD_dec ?_ ?_ <;> (intro hc; (try simp -implicitDefEqProofs [-loopQ_n, hc, h, w0, lossT]))) | (refine guardD_dec ?_ ?_ <;> (intro hc; (try simp -implicitDefEqProofs [-loopQ_n, hc, h, w0, lossT]))) | (refine condD_intro ?_ ?_ <;> (intro hd; have hc := hd; (try simp at hc) <;> (try simp -implicitDefEqProofs [-loopQ_n, hd, hc, h, w0, lossT]))) | (refine guardD_intro ?_ ?_ <;> (intro hd; have hc := hd; (try simp at hc) <;> (try simp -implicitDefEqProofs [-loopQ_n, hd, hc, h, w0, lossT]))) | (refine ldD_ep ?_ ?_; (focus kernel_rfl); (try simp -implicitDefEqProofs [-loopQ_n, h, w0, lossT])) | (refine callS_mk ?_; (try simp -implicitDefEqProofs [-loopQ_n, h, w0, lossT]); (first | refine callS_intro (aL) (.inl rfl) ?_ | refine callS_intro (aP) (.inl rfl) ?_); (try simp -implicitDefEqProofs [-loopQ_n, h, w0, lossT])))))
end Go.Proofs.Ytkppfaennogcmaa
