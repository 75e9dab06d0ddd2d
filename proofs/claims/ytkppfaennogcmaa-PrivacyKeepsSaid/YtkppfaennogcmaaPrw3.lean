/- Suppress of the reference, walked. -/
import Derived.Test.YtkppfaennogcmaaM4
namespace Go.Proofs.Ytkppfaennogcmaa
set_option linter.unusedSimpArgs false
set_option linter.unusedVariables false
set_option linter.unnecessarySimpa false
set_option linter.unusedSectionVars false
open Go.RowKit
variable [Glob]
set_option maxRecDepth 100000
def pasA (m : Nat) (k : Int) (ws : List Wd) (j : Nat) (s : List Wd × List Wd) : List Wd × List Wd := passA m k (ws.drop j) s
def pasB (m : Nat) (k : Int) (ws : List Wd) (j : Nat) (s : List Wd) : List Wd := passB m k (ws.drop j) s
def sumD (ws : List Wd) (j : Nat) : Int := sumN (ws.drop j)
theorem sumD_step {ws : List Wd} {j : Nat} (h : j < ws.length) : sumD ws j = ws[j].n + sumD ws (j + 1) := by
  unfold sumD; rw [List.drop_eq_getElem_cons h, sumN]
theorem sumD_nn {ws : List Wd} {j : Nat} (h : lnW ws) : 0 ≤ sumD ws j := (sumN_nn _ fun x hx => h x (List.mem_of_mem_drop hx)).1
set_option maxHeartbeats 32000000 in
theorem rsup_pure (l : List Wd) (k : Int) (hl : l.length ≤ 300) (hw : ∀ v ∈ l, wdI v) (hout : ∀ v ∈ supN k 201 l [], wdI v) (hol : (supN k 201 l []).length ≤ 300) : Pure Try.prog 16 [.rs (rowsOf wdC l), .int .i64 k] (supV (supR l k)) := by
  have h1 := rplain_pure l hl
  have h2 := rvalid_pure l hl hw
  have h3 := rentry_pure k
  cases v1 : validW l with
  | false =>
    have hR : supR l k = ([], 1) := by unfold supR; rw [if_pos v1]
    rw [hR]
    rw [v1] at h2
    refine pure_of mixed Try.func16 rfl (by kernel_rfl) (of_decide_eq_true rfl) (by kernel_rfl) (vc_run ?_)
    ((try simp -implicitDefEqProofs [-loopQ_n, supV, rowsOf]) <;> (repeat' (first | (refine condD_dec ?_ ?_ <;> (intro hc; (try simp -implicitDefEqProofs [-loopQ_n, hc, supV, rowsOf]))) | (refine guardD_dec ?_ ?_ <;> (intro hc; (try simp -implicitDefEqProofs [-loopQ_n, hc, supV, rowsOf]))) | (refine condD_intro ?_ ?_ <;> (intro hd; have hc := hd; (try simp at hc) <;> (try simp -implicitDefEqProofs [-loopQ_n, hd, hc, supV, rowsOf]))) | (refine guardD_intro ?_ ?_ <;> (intro hd; have hc := hd; (try simp at hc) <;> (try simp -implicitDefEqProofs [-loopQ_n, hd, hc, supV, rowsOf]))) | (refine ldD_ep ?_ ?_; (focus kernel_rfl); (try simp -implicitDefEqProofs [-loopQ_n, supV, rowsOf])) | (refine callS_mk ?_; (try simp -implicitDefEqProofs [-loopQ_n, supV, rowsOf]); (first | refine callS_intro (h1) (.inr ⟨rfl, rfl⟩) ?_ | refine callS_intro (h2) (.inl rfl) ?_); (try simp -implicitDefEqProofs [-loopQ_n, supV, rowsOf])))))
  | true =>
  rw [v1] at h2
  by_cases ke : 1 ≤ k ∧ k ≤ 1048576
  rotate_left
  · have hR : supR l k = ([], 2) := by unfold supR; rw [if_neg (by rw [v1]; simp), if_pos ke]
    rw [hR]
    rw [decide_eq_false ke] at h3
    refine pure_of mixed Try.func16 rfl (by kernel_rfl) (of_decide_eq_true rfl) (by kernel_rfl) (vc_run ?_)
    ((try simp -implicitDefEqProofs [-loopQ_n, supV, rowsOf]) <;> (repeat' (first | (refine condD_dec ?_ ?_ <;> (intro hc; (try simp -implicitDefEqProofs [-loopQ_n, hc, supV, rowsOf]))) | (refine guardD_dec ?_ ?_ <;> (intro hc; (try simp -implicitDefEqProofs [-loopQ_n, hc, supV, rowsOf]))) | (refine condD_intro ?_ ?_ <;> (intro hd; have hc := hd; (try simp at hc) <;> (try simp -implicitDefEqProofs [-loopQ_n, hd, hc, supV, rowsOf]))) | (refine guardD_intro ?_ ?_ <;> (intro hd; have hc := hd; (try simp at hc) <;> (try simp -implicitDefEqProofs [-loopQ_n, hd, hc, supV, rowsOf]))) | (refine ldD_ep ?_ ?_; (focus kernel_rfl); (try simp -implicitDefEqProofs [-loopQ_n, supV, rowsOf])) | (refine callS_mk ?_; (try simp -implicitDefEqProofs [-loopQ_n, supV, rowsOf]); (first | refine callS_intro (h1) (.inr ⟨rfl, rfl⟩) ?_ | refine callS_intro (h2) (.inl rfl) ?_ | refine callS_intro (h3) (.inl rfl) ?_); (try simp -implicitDefEqProofs [-loopQ_n, supV, rowsOf])))))
  rw [decide_eq_true ke] at h3
  have gL := validW_good v1
  have lL : lnW l := fun v hv => ⟨(gL v hv).2.1, (gL v hv).1⟩
  obtain ⟨T, hT⟩ : ∃ T, sumN l = T := ⟨_, rfl⟩
  have hTb : T ≤ 314572800 := by
    have : ∀ x : List Wd, (∀ v ∈ x, wdG v) → sumN x ≤ (x.length : Int) * 1048576 := by
      intro x
      induction x with
      | nil => intro _; simp [sumN]
      | cons v r ih =>
        intro h
        have := ih fun y hy => h y (by simp [hy])
        have := (h v (by simp)).2.2.1
        simp only [sumN, List.length_cons]; omega
    have := this l gL
    omega
  obtain ⟨O, hO⟩ : ∃ O, supN k 201 l [] = O := ⟨_, rfl⟩
  have hR : supR l k = if validW O = false then ([], 5) else (O, 0) := by unfold supR; rw [if_neg (by rw [v1]; simp), if_neg (by simpa using ke), hO]
  rw [hR]
  rw [hO] at hout hol
  have h4 := rvalid_pure O hol hout
  clear hR
  have w200 : wrapI .i64 200 = 200 := wrap_in (by omega) (by omega)
  refine pure_of mixed Try.func16 rfl (by kernel_rfl) (of_decide_eq_true rfl) (by kernel_rfl) (vc_run ?_)
  ((try simp -implicitDefEqProofs [-loopQ_n]) <;> (repeat' (first | (refine condD_dec ?_ ?_ <;> (intro hc; (try simp -implicitDefEqProofs [-loopQ_n, hc]))) | (refine guardD_dec ?_ ?_ <;> (intro hc; (try simp -implicitDefEqProofs [-loopQ_n, hc]))) | (refine condD_intro ?_ ?_ <;> (intro hd; have hc := hd; (try simp at hc) <;> (try simp -implicitDefEqProofs [-loopQ_n, hd, hc]))) | (refine guardD_intro ?_ ?_ <;> (intro hd; have hc := hd; (try simp at hc) <;> (try simp -implicitDefEqProofs [-loopQ_n, hd, hc]))) | (refine ldD_ep ?_ ?_; (focus kernel_rfl); (try simp -implicitDefEqProofs [-loopQ_n])) | (refine callS_mk ?_; (try simp -implicitDefEqProofs [-loopQ_n]); (first | refine callS_intro (h1) (.inr ⟨rfl, rfl⟩) ?_ | refine callS_intro (h2) (.inl rfl) ?_ | refine callS_intro (h3) (.inl rfl) ?_); (try simp -implicitDefEqProofs [-loopQ_n])))))
  refine loop_intro (σ := Nat × List Wd × List Wd) (fun x => ⟨[(1, .int .i64 k), (6, .rs (rowsOf wdC x.2.1)), (7, .rs (rowsOf wdC x.2.2)), (8, .int .i64 ((x.1 : Int) - 1))], []⟩)
    (fun x => x.1 ≤ 201 ∧ lnW x.2.1 ∧ lnW x.2.2 ∧ x.2.1.length + x.2.2.length ≤ 300 ∧ sumN x.2.1 + sumN x.2.2 ≤ T ∧ supN k x.1 x.2.1 x.2.2 = O) (fun x => x.1) (201, l, []) ⟨by simp, lL, by simp [lnW], by simpa using hl, by simp only [sumN]; omega, hO⟩ ?_ ?_
  · refine weak_of 0 0 rfl rfl ?_ ?_ <;> simp [rowsOf]
  clear hO
  rintro ⟨m, ws, out⟩ ⟨hm, l1, l2, hln, hsm, hO⟩
  simp only at hm l1 l2 hln hsm hO
  cases m with
  | zero =>
    have g1 : ¬ (0 : Int) ≤ -1 := by omega
    simp only [supN] at hO
    subst hO
    cases v3 : validW out with
    | false =>
      rw [v3] at h4
      rw [if_pos rfl]
      ((try simp -implicitDefEqProofs [-loopQ_n, g1, supV, rowsOf]) <;> (repeat' (first | (refine condD_dec ?_ ?_ <;> (intro hc; (try simp -implicitDefEqProofs [-loopQ_n, hc, g1, supV, rowsOf]))) | (refine guardD_dec ?_ ?_ <;> (intro hc; (try simp -implicitDefEqProofs [-loopQ_n, hc, g1, supV, rowsOf]))) | (refine condD_intro ?_ ?_ <;> (intro hd; have hc := hd; (try simp at hc) <;> (try simp -implicitDefEqProofs [-loopQ_n, hd, hc, g1, supV, rowsOf]))) | (refine guardD_intro ?_ ?_ <;> (intro hd; have hc := hd; (try simp at hc) <;> (try simp -implicitDefEqProofs [-loopQ_n, hd, hc, g1, supV, rowsOf]))) | (refine ldD_ep ?_ ?_; (focus kernel_rfl); (try simp -implicitDefEqProofs [-loopQ_n, g1, supV, rowsOf])) | (refine callS_mk ?_; (try simp -implicitDefEqProofs [-loopQ_n, g1, supV, rowsOf]); (first | refine callS_intro (h4) (.inl rfl) ?_); (try simp -implicitDefEqProofs [-loopQ_n, g1, supV, rowsOf])))))
    | true =>
      rw [v3] at h4
      rw [if_neg (by simp)]
      ((try simp -implicitDefEqProofs [-loopQ_n, g1, supV]) <;> (repeat' (first | (refine condD_dec ?_ ?_ <;> (intro hc; (try simp -implicitDefEqProofs [-loopQ_n, hc, g1, supV]))) | (refine guardD_dec ?_ ?_ <;> (intro hc; (try simp -implicitDefEqProofs [-loopQ_n, hc, g1, supV]))) | (refine condD_intro ?_ ?_ <;> (intro hd; have hc := hd; (try simp at hc) <;> (try simp -implicitDefEqProofs [-loopQ_n, hd, hc, g1, supV]))) | (refine guardD_intro ?_ ?_ <;> (intro hd; have hc := hd; (try simp at hc) <;> (try simp -implicitDefEqProofs [-loopQ_n, hd, hc, g1, supV]))) | (refine ldD_ep ?_ ?_; (focus kernel_rfl); (try simp -implicitDefEqProofs [-loopQ_n, g1, supV])) | (refine callS_mk ?_; (try simp -implicitDefEqProofs [-loopQ_n, g1, supV]); (first | refine callS_intro (h4) (.inl rfl) ?_); (try simp -implicitDefEqProofs [-loopQ_n, g1, supV])))))
  | succ m =>
    have g2 : (0 : Int) ≤ m := by omega
    have g3 : ((m + 1 : Nat) : Int) - 1 = m := by omega
    have w2 : wrapI .i64 ((m : Int) - 1) = (m : Int) - 1 := wrap_in (by omega) (by omega)
    obtain ⟨⟨rA, oA⟩, hA⟩ : ∃ s, passA m k ws ([], out) = s := ⟨_, rfl⟩
    obtain ⟨⟨rB, oB⟩, hB⟩ : ∃ s, supL m k ws out = s := ⟨_, rfl⟩
    have hok := supL_ok (m := m) (k := k) l1 l2
    have hBe : passB m k ws rA = rB ∧ oA = oB := by
      unfold supL at hB
      rw [hA] at hB
      simpa using hB
    rw [hB] at hok
    simp only [supN, hB] at hO
    simp only at hok
    have n0 := (sumN_nn out l2).1
    have nw := (sumN_nn ws l1)
    dsimp only
    rw [g3]
    ((try simp -implicitDefEqProofs [-loopQ_n, g2]) <;> (repeat' (first | (refine condD_dec ?_ ?_ <;> (intro hc; (try simp -implicitDefEqProofs [-loopQ_n, hc, g2]))) | (refine guardD_dec ?_ ?_ <;> (intro hc; (try simp -implicitDefEqProofs [-loopQ_n, hc, g2]))) | (refine condD_intro ?_ ?_ <;> (intro hd; have hc := hd; (try simp at hc) <;> (try simp -implicitDefEqProofs [-loopQ_n, hd, hc, g2]))) | (refine guardD_intro ?_ ?_ <;> (intro hd; have hc := hd; (try simp at hc) <;> (try simp -implicitDefEqProofs [-loopQ_n, hd, hc, g2]))) | (refine ldD_ep ?_ ?_; (focus kernel_rfl); (try simp -implicitDefEqProofs [-loopQ_n, g2])))))
    refine loop_intro (σ := Nat × List Wd × List Wd) (fun x => ⟨[(1, .int .i64 k), (6, .rs (rowsOf wdC ws)), (7, .rs (rowsOf wdC x.2.2)), (8, .int .i64 m), (9, .rs (rowsOf wdC x.2.1)), (10, .int .i64 x.1)], []⟩)
      (fun x => x.1 ≤ ws.length ∧ lnW x.2.1 ∧ lnW x.2.2 ∧ x.2.1.length + x.2.2.length + (ws.length - x.1) ≤ 300 ∧ sumN x.2.1 + sumN x.2.2 + sumD ws x.1 ≤ T ∧ pasA m k ws x.1 (x.2.1, x.2.2) = (rA, oA)) (fun x => ws.length - x.1) (0, [], out) ⟨by simp, by simp [lnW], l2, by simp; omega, by simp only [sumN, sumD, List.drop_zero]; omega, by simpa [pasA] using hA⟩ ?_ ?_
    · refine weak_of 0 0 rfl rfl ?_ ?_ <;> simp [rowsOf]
    clear hA
    rintro ⟨j, rest, o⟩ ⟨hj, m1, m2, hjl, hjs, hA⟩
    simp only at hj m1 m2 hjl hjs hA
    have nr := (sumN_nn rest m1).1
    have no := (sumN_nn o m2).1
    by_cases h : j < ws.length
    · have w1 : wrapI .i64 ((j : Int) + 1) = (j : Int) + 1 := wrap_in (by omega) (by omega)
      have hD := sumD_step h
      have hDn := sumD_nn (j := j + 1) l1
      have hv := l1 ws[j] (by simp)
      obtain ⟨⟨A, n⟩, hx⟩ : ∃ x, ws[j] = x := ⟨_, rfl⟩
      rw [hx] at hv hD
      obtain ⟨hv1, hv2⟩ := hv
      simp only at hv1 hv2 hD
      unfold pasA at hA
      rw [List.drop_eq_getElem_cons h, hx, passA] at hA
      by_cases a1 : A.length = m
      · have a1' : (A.length : Int) = m := by omega
        by_cases a2 : k ≤ n
        · have e : supA m k (rest, o) ⟨A, n⟩ = (rest, insP A n o) := by unfold supA; rw [if_pos ⟨a1, a2⟩]
          rw [e] at hA
          have hI := rinsert_pure o A n (by omega) (by omega) (fun v hv => by have := (m2 v hv).2; omega) (big_ok m2 (T := T) (by omega) (by omega)) (by omega) (by omega)
          have hl2 := insP_len1 (w := A) (c := n) o
          have hs2 := sumN_ins (w := A) (c := n) o
          ((try simp -implicitDefEqProofs [-loopQ_n, h, hx, wdC, a1, a1', a2]) <;> (repeat' (first | (refine condD_dec ?_ ?_ <;> (intro hc; (try simp -implicitDefEqProofs [-loopQ_n, hc, h, hx, wdC, a1, a1', a2]))) | (refine guardD_dec ?_ ?_ <;> (intro hc; (try simp -implicitDefEqProofs [-loopQ_n, hc, h, hx, wdC, a1, a1', a2]))) | (refine condD_intro ?_ ?_ <;> (intro hd; have hc := hd; (try simp at hc) <;> (try simp -implicitDefEqProofs [-loopQ_n, hd, hc, h, hx, wdC, a1, a1', a2]))) | (refine guardD_intro ?_ ?_ <;> (intro hd; have hc := hd; (try simp at hc) <;> (try simp -implicitDefEqProofs [-loopQ_n, hd, hc, h, hx, wdC, a1, a1', a2]))) | (refine ldD_ep ?_ ?_; (focus kernel_rfl); (try simp -implicitDefEqProofs [-loopQ_n, h, hx, wdC, a1, a1', a2])) | (refine callS_mk ?_; (try simp -implicitDefEqProofs [-loopQ_n, h, hx, wdC, a1, a1', a2]); (first | refine callS_intro (hI) (.inr ⟨rfl, rfl⟩) ?_); (try simp -implicitDefEqProofs [-loopQ_n, h, hx, wdC, a1, a1', a2])))))
          refine loop_next (j + 1, rest, insP A n o) ⟨by simp only; omega, m1, lnW_ins hv1 hv2 _ m2, by simp only; omega, by simp only; omega, hA⟩ (by simp only; omega) (weak_of 0 0 rfl rfl ?_ ?_) <;> simp [w1]
        · have e : supA m k (rest, o) ⟨A, n⟩ = (rest, o) := by unfold supA; rw [if_neg (fun q => a2 q.2), if_neg (fun q => q a1)]
          rw [e] at hA
          ((try simp -implicitDefEqProofs [-loopQ_n, h, hx, wdC, a1, a1', a2]) <;> (repeat' (first | (refine condD_dec ?_ ?_ <;> (intro hc; (try simp -implicitDefEqProofs [-loopQ_n, hc, h, hx, wdC, a1, a1', a2]))) | (refine guardD_dec ?_ ?_ <;> (intro hc; (try simp -implicitDefEqProofs [-loopQ_n, hc, h, hx, wdC, a1, a1', a2]))) | (refine condD_intro ?_ ?_ <;> (intro hd; have hc := hd; (try simp at hc) <;> (try simp -implicitDefEqProofs [-loopQ_n, hd, hc, h, hx, wdC, a1, a1', a2]))) | (refine guardD_intro ?_ ?_ <;> (intro hd; have hc := hd; (try simp at hc) <;> (try simp -implicitDefEqProofs [-loopQ_n, hd, hc, h, hx, wdC, a1, a1', a2]))) | (refine ldD_ep ?_ ?_; (focus kernel_rfl); (try simp -implicitDefEqProofs [-loopQ_n, h, hx, wdC, a1, a1', a2])))))
          refine loop_next (j + 1, rest, o) ⟨by simp only; omega, m1, m2, by simp only; omega, by simp only; omega, hA⟩ (by simp only; omega) (weak_of 0 0 rfl rfl ?_ ?_) <;> simp [w1]
      · have a1' : ¬ (A.length : Int) = m := by omega
        have e : supA m k (rest, o) ⟨A, n⟩ = (insP A n rest, o) := by unfold supA; rw [if_neg (fun q => a1 q.1), if_pos a1]
        rw [e] at hA
        have hI := rinsert_pure rest A n (by omega) (by omega) (fun v hv => by have := (m1 v hv).2; omega) (big_ok m1 (T := T) (by omega) (by omega)) (by omega) (by omega)
        have hl2 := insP_len1 (w := A) (c := n) rest
        have hs2 := sumN_ins (w := A) (c := n) rest
        ((try simp -implicitDefEqProofs [-loopQ_n, h, hx, wdC, a1, a1']) <;> (repeat' (first | (refine condD_dec ?_ ?_ <;> (intro hc; (try simp -implicitDefEqProofs [-loopQ_n, hc, h, hx, wdC, a1, a1']))) | (refine guardD_dec ?_ ?_ <;> (intro hc; (try simp -implicitDefEqProofs [-loopQ_n, hc, h, hx, wdC, a1, a1']))) | (refine condD_intro ?_ ?_ <;> (intro hd; have hc := hd; (try simp at hc) <;> (try simp -implicitDefEqProofs [-loopQ_n, hd, hc, h, hx, wdC, a1, a1']))) | (refine guardD_intro ?_ ?_ <;> (intro hd; have hc := hd; (try simp at hc) <;> (try simp -implicitDefEqProofs [-loopQ_n, hd, hc, h, hx, wdC, a1, a1']))) | (refine ldD_ep ?_ ?_; (focus kernel_rfl); (try simp -implicitDefEqProofs [-loopQ_n, h, hx, wdC, a1, a1'])) | (refine callS_mk ?_; (try simp -implicitDefEqProofs [-loopQ_n, h, hx, wdC, a1, a1']); (first | refine callS_intro (hI) (.inr ⟨rfl, rfl⟩) ?_); (try simp -implicitDefEqProofs [-loopQ_n, h, hx, wdC, a1, a1'])))))
        refine loop_next (j + 1, insP A n rest, o) ⟨by simp only; omega, lnW_ins hv1 hv2 _ m1, m2, by simp only; omega, by simp only; omega, hA⟩ (by simp only; omega) (weak_of 0 0 rfl rfl ?_ ?_) <;> simp [w1]
    · unfold pasA at hA
      rw [List.drop_eq_nil_of_le (by omega), passA] at hA
      rw [Prod.mk.injEq] at hA
      obtain ⟨e1, e2⟩ := hA
      subst e1 e2
      have hjz : sumD ws j = 0 := by unfold sumD; rw [List.drop_eq_nil_of_le (by omega)]; rfl
      obtain ⟨hB1, e2⟩ := hBe
      subst e2
      ((try simp -implicitDefEqProofs [-loopQ_n, h]) <;> (repeat' (first | (refine condD_dec ?_ ?_ <;> (intro hc; (try simp -implicitDefEqProofs [-loopQ_n, hc, h]))) | (refine guardD_dec ?_ ?_ <;> (intro hc; (try simp -implicitDefEqProofs [-loopQ_n, hc, h]))) | (refine condD_intro ?_ ?_ <;> (intro hd; have hc := hd; (try simp at hc) <;> (try simp -implicitDefEqProofs [-loopQ_n, hd, hc, h]))) | (refine guardD_intro ?_ ?_ <;> (intro hd; have hc := hd; (try simp at hc) <;> (try simp -implicitDefEqProofs [-loopQ_n, hd, hc, h]))) | (refine ldD_ep ?_ ?_; (focus kernel_rfl); (try simp -implicitDefEqProofs [-loopQ_n, h])))))
      refine loop_intro (σ := Nat × List Wd) (fun x => ⟨[(1, .int .i64 k), (6, .rs (rowsOf wdC ws)), (7, .rs (rowsOf wdC o)), (8, .int .i64 m), (9, .rs (rowsOf wdC x.2)), (11, .int .i64 x.1)], []⟩)
        (fun x => x.1 ≤ ws.length ∧ lnW x.2 ∧ x.2.length + (ws.length - x.1) ≤ 600 ∧ sumN x.2 + sumD ws x.1 ≤ T + T ∧ pasB m k ws x.1 x.2 = rB) (fun x => ws.length - x.1) (0, rest) ⟨by simp, m1, by simp only; omega, by simp only [sumD, List.drop_zero]; omega, by simpa [pasB] using hB1⟩ ?_ ?_
      · refine weak_of 0 0 rfl rfl ?_ ?_ <;> simp
      clear hB1 m1 hjl hjs hj nr h hjz j
      rintro ⟨j, rest⟩ ⟨hj, m1, hjl, hjs, hBB⟩
      simp only at hj m1 hjl hjs hBB
      have nr := (sumN_nn rest m1).1
      by_cases h : j < ws.length
      · have w1 : wrapI .i64 ((j : Int) + 1) = (j : Int) + 1 := wrap_in (by omega) (by omega)
        have hD := sumD_step h
        have hDn := sumD_nn (j := j + 1) l1
        have hv := l1 ws[j] (by simp)
        obtain ⟨⟨A, n⟩, hx⟩ : ∃ x, ws[j] = x := ⟨_, rfl⟩
        rw [hx] at hv hD
        obtain ⟨hv1, hv2⟩ := hv
        simp only at hv1 hv2 hD
        unfold pasB at hBB
        rw [List.drop_eq_getElem_cons h, hx, passB] at hBB
        have hno : ¬ (A.length = m ∧ n < k ∧ 0 < m) → supBw m k rest ⟨A, n⟩ = rest := fun q => by unfold supBw; rw [if_neg q]
        by_cases a1 : A.length = m
        · have a1' : (A.length : Int) = m := by omega
          by_cases a2 : n < k
          · by_cases a3 : m = 0
            · rw [hno (by omega)] at hBB
              have a3' : ¬ (0 : Int) < m := by omega
              have a3'' : ¬ 0 < m := by omega
              ((try simp -implicitDefEqProofs [-loopQ_n, h, hx, wdC, a1, a1', a2, a3', a3'']) <;> (repeat' (first | (refine condD_dec ?_ ?_ <;> (intro hc; (try simp -implicitDefEqProofs [-loopQ_n, hc, h, hx, wdC, a1, a1', a2, a3', a3'']))) | (refine guardD_dec ?_ ?_ <;> (intro hc; (try simp -implicitDefEqProofs [-loopQ_n, hc, h, hx, wdC, a1, a1', a2, a3', a3'']))) | (refine condD_intro ?_ ?_ <;> (intro hd; have hc := hd; (try simp at hc) <;> (try simp -implicitDefEqProofs [-loopQ_n, hd, hc, h, hx, wdC, a1, a1', a2, a3', a3'']))) | (refine guardD_intro ?_ ?_ <;> (intro hd; have hc := hd; (try simp at hc) <;> (try simp -implicitDefEqProofs [-loopQ_n, hd, hc, h, hx, wdC, a1, a1', a2, a3', a3'']))) | (refine ldD_ep ?_ ?_; (focus kernel_rfl); (try simp -implicitDefEqProofs [-loopQ_n, h, hx, wdC, a1, a1', a2, a3', a3''])))))
              refine loop_next (j + 1, rest) ⟨by simp only; omega, m1, by simp only; omega, by simp only; omega, hBB⟩ (by simp only; omega) (weak_of 0 0 rfl rfl ?_ ?_) <;> simp [w1]
            · have e : supBw m k rest ⟨A, n⟩ = insP (A.take (m - 1)) n rest := by unfold supBw; rw [if_pos ⟨a1, a2, by omega⟩]
              rw [e] at hBB
              obtain ⟨p, hp⟩ : ∃ p, m = p + 1 := ⟨m - 1, by omega⟩
              have a3' : (0 : Int) < m := by omega
              have a3'' : 0 < m := by omega
              have w3 : wrapI .i64 ((m : Int) - 1) = (p : Int) := by rw [wrap_in (by omega) (by omega)]; omega
              have hpA : p ≤ m := by omega
              have e1 : (rowsOf strC A).take p = rowsOf strC (A.take p) := rowsOf_take
              rw [show m - 1 = p by omega] at hBB
              have hI := rinsert_pure rest (A.take p) n (by omega) (by simp; omega) (fun v hv => by have := (m1 v hv).2; omega) (big_ok m1 (T := T + T) (by omega) (by omega)) (by omega) (by omega)
              have hl2 := insP_len1 (w := A.take p) (c := n) rest
              have hs2 := sumN_ins (w := A.take p) (c := n) rest
              ((try simp -implicitDefEqProofs [-loopQ_n, h, hx, wdC, a1, a1', a2, a3', a3'', w3, hpA, e1]) <;> (repeat' (first | (refine condD_dec ?_ ?_ <;> (intro hc; (try simp -implicitDefEqProofs [-loopQ_n, hc, h, hx, wdC, a1, a1', a2, a3', a3'', w3, hpA, e1]))) | (refine guardD_dec ?_ ?_ <;> (intro hc; (try simp -implicitDefEqProofs [-loopQ_n, hc, h, hx, wdC, a1, a1', a2, a3', a3'', w3, hpA, e1]))) | (refine condD_intro ?_ ?_ <;> (intro hd; have hc := hd; (try simp at hc) <;> (try simp -implicitDefEqProofs [-loopQ_n, hd, hc, h, hx, wdC, a1, a1', a2, a3', a3'', w3, hpA, e1]))) | (refine guardD_intro ?_ ?_ <;> (intro hd; have hc := hd; (try simp at hc) <;> (try simp -implicitDefEqProofs [-loopQ_n, hd, hc, h, hx, wdC, a1, a1', a2, a3', a3'', w3, hpA, e1]))) | (refine ldD_ep ?_ ?_; (focus kernel_rfl); (try simp -implicitDefEqProofs [-loopQ_n, h, hx, wdC, a1, a1', a2, a3', a3'', w3, hpA, e1])) | (refine callS_mk ?_; (try simp -implicitDefEqProofs [-loopQ_n, h, hx, wdC, a1, a1', a2, a3', a3'', w3, hpA, e1]); (first | refine callS_intro (hI) (.inr ⟨rfl, rfl⟩) ?_); (try simp -implicitDefEqProofs [-loopQ_n, h, hx, wdC, a1, a1', a2, a3', a3'', w3, hpA, e1])))))
              refine loop_next (j + 1, insP (A.take p) n rest) ⟨by simp only; omega, lnW_ins hv1 (by simp; omega) _ m1, by simp only; omega, by simp only; omega, hBB⟩ (by simp only; omega) (weak_of 0 0 rfl rfl ?_ ?_) <;> simp [w1]
          · rw [hno (by omega)] at hBB
            ((try simp -implicitDefEqProofs [-loopQ_n, h, hx, wdC, a1, a1', a2]) <;> (repeat' (first | (refine condD_dec ?_ ?_ <;> (intro hc; (try simp -implicitDefEqProofs [-loopQ_n, hc, h, hx, wdC, a1, a1', a2]))) | (refine guardD_dec ?_ ?_ <;> (intro hc; (try simp -implicitDefEqProofs [-loopQ_n, hc, h, hx, wdC, a1, a1', a2]))) | (refine condD_intro ?_ ?_ <;> (intro hd; have hc := hd; (try simp at hc) <;> (try simp -implicitDefEqProofs [-loopQ_n, hd, hc, h, hx, wdC, a1, a1', a2]))) | (refine guardD_intro ?_ ?_ <;> (intro hd; have hc := hd; (try simp at hc) <;> (try simp -implicitDefEqProofs [-loopQ_n, hd, hc, h, hx, wdC, a1, a1', a2]))) | (refine ldD_ep ?_ ?_; (focus kernel_rfl); (try simp -implicitDefEqProofs [-loopQ_n, h, hx, wdC, a1, a1', a2])))))
            refine loop_next (j + 1, rest) ⟨by simp only; omega, m1, by simp only; omega, by simp only; omega, hBB⟩ (by simp only; omega) (weak_of 0 0 rfl rfl ?_ ?_) <;> simp [w1]
        · have a1' : ¬ (A.length : Int) = m := by omega
          rw [hno (by omega)] at hBB
          ((try simp -implicitDefEqProofs [-loopQ_n, h, hx, wdC, a1, a1']) <;> (repeat' (first | (refine condD_dec ?_ ?_ <;> (intro hc; (try simp -implicitDefEqProofs [-loopQ_n, hc, h, hx, wdC, a1, a1']))) | (refine guardD_dec ?_ ?_ <;> (intro hc; (try simp -implicitDefEqProofs [-loopQ_n, hc, h, hx, wdC, a1, a1']))) | (refine condD_intro ?_ ?_ <;> (intro hd; have hc := hd; (try simp at hc) <;> (try simp -implicitDefEqProofs [-loopQ_n, hd, hc, h, hx, wdC, a1, a1']))) | (refine guardD_intro ?_ ?_ <;> (intro hd; have hc := hd; (try simp at hc) <;> (try simp -implicitDefEqProofs [-loopQ_n, hd, hc, h, hx, wdC, a1, a1']))) | (refine ldD_ep ?_ ?_; (focus kernel_rfl); (try simp -implicitDefEqProofs [-loopQ_n, h, hx, wdC, a1, a1'])))))
          refine loop_next (j + 1, rest) ⟨by simp only; omega, m1, by simp only; omega, by simp only; omega, hBB⟩ (by simp only; omega) (weak_of 0 0 rfl rfl ?_ ?_) <;> simp [w1]
      · unfold pasB at hBB
        rw [List.drop_eq_nil_of_le (by omega), passB] at hBB
        subst hBB
        ((try simp -implicitDefEqProofs [-loopQ_n, h, w2]) <;> (repeat' (first | (refine condD_dec ?_ ?_ <;> (intro hc; (try simp -implicitDefEqProofs [-loopQ_n, hc, h, w2]))) | (refine guardD_dec ?_ ?_ <;> (intro hc; (try simp -implicitDefEqProofs [-loopQ_n, hc, h, w2]))) | (refine condD_intro ?_ ?_ <;> (intro hd; have hc := hd; (try simp at hc) <;> (try simp -implicitDefEqProofs [-loopQ_n, hd, hc, h, w2]))) | (refine guardD_intro ?_ ?_ <;> (intro hd; have hc := hd; (try simp at hc) <;> (try simp -implicitDefEqProofs [-loopQ_n, hd, hc, h, w2]))) | (refine ldD_ep ?_ ?_; (focus kernel_rfl); (try simp -implicitDefEqProofs [-loopQ_n, h, w2])))))
        refine loop_next (m, rest, o) ⟨by simp only; omega, hok.1, hok.2.1, by simp only; omega, by simp only; omega, hO⟩ (by simp only; omega) (weak_of 0 0 rfl rfl ?_ ?_) <;> simp [w2]
end Go.Proofs.Ytkppfaennogcmaa
