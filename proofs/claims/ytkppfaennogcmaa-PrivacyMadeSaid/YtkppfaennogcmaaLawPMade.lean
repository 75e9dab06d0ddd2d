/- A publication is accepted exactly if it can be made (the law PrivacyMade holds for every input; no condition). -/
import Derived.Test.YtkppfaennogcmaaRows
import Derived.Test.YtkppfaennogcmaaPrvB
import Derived.Test.YtkppfaennogcmaaPrvO
import Derived.Test.YtkppfaennogcmaaPrvR
import Derived.Test.YtkppfaennogcmaaOpen
namespace Go.Proofs.Ytkppfaennogcmaa.lawPMade
set_option linter.unusedSimpArgs false
set_option linter.unusedVariables false
set_option linter.unnecessarySimpa false
set_option linter.unusedSectionVars false
open Go.ChangeShapes Go.WideShapes Go.ChangeAt Go.RowKit Go.Joins Go.Deep
section
variable [Glob]
set_option maxRecDepth 100000
theorem posW_good {l : List Wd} (h : ∀ v ∈ l, wdG v) : posW l := fun v hv => by
  obtain ⟨h1, h2, h3, _⟩ := h v hv
  exact ⟨by omega, h3, h1⟩
theorem made_over {L P : List Wd} (hL : ∀ v ∈ L, wdG v) (hP : ∀ v ∈ P, wdG v) (h12 : ∀ v ∈ P, v.acts.length ≤ 12) : lvls P 12 L = !((begE P).any (overE (begE L))) := by
  have h1 := made_iff (L := L) (P := P) (fun v hv => by have := (hL v hv).2.1; omega) (fun v hv => by have := (hP v hv).2.1; omega) h12
  have h2 := over_iff hL hP
  cases ho : (begE P).any (overE (begE L)) with
  | true =>
    rw [ho] at h2
    obtain ⟨u, hu⟩ := h2.1 rfl
    cases hm : lvls P 12 L with
    | false => rfl
    | true =>
      rw [hm] at h1
      have := h1.1 rfl u
      omega
  | false =>
    rw [ho] at h2
    rw [h1.2 fun u => ?_]; rfl
    apply Decidable.byContradiction
    intro hc
    have := h2.2 ⟨u, by omega⟩
    cases this
set_option maxHeartbeats 16000000 in
theorem main (L : List Wd) (hL : L.length ≤ 9223372036854775807) (hLw : ∀ v ∈ L, wdI v) (P : List Wd) (hP : P.length ≤ 9223372036854775807) (hPw : ∀ v ∈ P, wdI v) :
    Pure Try.prog 5 [.rs (rowsOf wdC L), .rs (rowsOf wdC P)] (.bool true) := by
  by_cases l1 : (12 : Int) < L.length
  · skip
    refine pure_of mixed Try.func5 rfl (by kernel_rfl) (of_decide_eq_true rfl) (by kernel_rfl) (vc_run ?_)
    ((try simp -implicitDefEqProofs [-loopQ_n, l1]) <;> (repeat' (first | (refine condD_dec ?_ ?_ <;> (intro hc; (try simp -implicitDefEqProofs [-loopQ_n, hc, l1]))) | (refine guardD_dec ?_ ?_ <;> (intro hc; (try simp -implicitDefEqProofs [-loopQ_n, hc, l1]))) | (refine condD_intro ?_ ?_ <;> (intro hd; have hc := hd; (try simp at hc) <;> (try simp -implicitDefEqProofs [-loopQ_n, hd, hc, l1]))) | (refine guardD_intro ?_ ?_ <;> (intro hd; have hc := hd; (try simp at hc) <;> (try simp -implicitDefEqProofs [-loopQ_n, hd, hc, l1]))) | (refine ldD_ep ?_ ?_; (focus kernel_rfl); (try simp -implicitDefEqProofs [-loopQ_n, l1])) | (refine callS_mk ?_; (try simp -implicitDefEqProofs [-loopQ_n, l1]); (first | refine callS_intro (awake_pure) (.inl rfl) ?_); (try simp -implicitDefEqProofs [-loopQ_n, l1])))))
  by_cases l2 : (12 : Int) < P.length
  · skip
    refine pure_of mixed Try.func5 rfl (by kernel_rfl) (of_decide_eq_true rfl) (by kernel_rfl) (vc_run ?_)
    ((try simp -implicitDefEqProofs [-loopQ_n, l1, l2]) <;> (repeat' (first | (refine condD_dec ?_ ?_ <;> (intro hc; (try simp -implicitDefEqProofs [-loopQ_n, hc, l1, l2]))) | (refine guardD_dec ?_ ?_ <;> (intro hc; (try simp -implicitDefEqProofs [-loopQ_n, hc, l1, l2]))) | (refine condD_intro ?_ ?_ <;> (intro hd; have hc := hd; (try simp at hc) <;> (try simp -implicitDefEqProofs [-loopQ_n, hd, hc, l1, l2]))) | (refine guardD_intro ?_ ?_ <;> (intro hd; have hc := hd; (try simp at hc) <;> (try simp -implicitDefEqProofs [-loopQ_n, hd, hc, l1, l2]))) | (refine ldD_ep ?_ ?_; (focus kernel_rfl); (try simp -implicitDefEqProofs [-loopQ_n, l1, l2])) | (refine callS_mk ?_; (try simp -implicitDefEqProofs [-loopQ_n, l1, l2]); (first | refine callS_intro (awake_pure) (.inl rfl) ?_); (try simp -implicitDefEqProofs [-loopQ_n, l1, l2])))))
  have hA := great_pure L hL hLw
  cases c1 : largeB L with
  | true =>
    rw [c1] at hA
    refine pure_of mixed Try.func5 rfl (by kernel_rfl) (of_decide_eq_true rfl) (by kernel_rfl) (vc_run ?_)
    ((try simp -implicitDefEqProofs [-loopQ_n, l1, l2]) <;> (repeat' (first | (refine condD_dec ?_ ?_ <;> (intro hc; (try simp -implicitDefEqProofs [-loopQ_n, hc, l1, l2]))) | (refine guardD_dec ?_ ?_ <;> (intro hc; (try simp -implicitDefEqProofs [-loopQ_n, hc, l1, l2]))) | (refine condD_intro ?_ ?_ <;> (intro hd; have hc := hd; (try simp at hc) <;> (try simp -implicitDefEqProofs [-loopQ_n, hd, hc, l1, l2]))) | (refine guardD_intro ?_ ?_ <;> (intro hd; have hc := hd; (try simp at hc) <;> (try simp -implicitDefEqProofs [-loopQ_n, hd, hc, l1, l2]))) | (refine ldD_ep ?_ ?_; (focus kernel_rfl); (try simp -implicitDefEqProofs [-loopQ_n, l1, l2])) | (refine callS_mk ?_; (try simp -implicitDefEqProofs [-loopQ_n, l1, l2]); (first | refine callS_intro (awake_pure) (.inl rfl) ?_ | refine callS_intro (hA) (.inl rfl) ?_); (try simp -implicitDefEqProofs [-loopQ_n, l1, l2])))))
  | false =>
  rw [c1] at hA
  have hB := large_pure P hP hPw
  cases c2 : largeB P with
  | true =>
    rw [c2] at hB
    refine pure_of mixed Try.func5 rfl (by kernel_rfl) (of_decide_eq_true rfl) (by kernel_rfl) (vc_run ?_)
    ((try simp -implicitDefEqProofs [-loopQ_n, l1, l2]) <;> (repeat' (first | (refine condD_dec ?_ ?_ <;> (intro hc; (try simp -implicitDefEqProofs [-loopQ_n, hc, l1, l2]))) | (refine guardD_dec ?_ ?_ <;> (intro hc; (try simp -implicitDefEqProofs [-loopQ_n, hc, l1, l2]))) | (refine condD_intro ?_ ?_ <;> (intro hd; have hc := hd; (try simp at hc) <;> (try simp -implicitDefEqProofs [-loopQ_n, hd, hc, l1, l2]))) | (refine guardD_intro ?_ ?_ <;> (intro hd; have hc := hd; (try simp at hc) <;> (try simp -implicitDefEqProofs [-loopQ_n, hd, hc, l1, l2]))) | (refine ldD_ep ?_ ?_; (focus kernel_rfl); (try simp -implicitDefEqProofs [-loopQ_n, l1, l2])) | (refine callS_mk ?_; (try simp -implicitDefEqProofs [-loopQ_n, l1, l2]); (first | refine callS_intro (awake_pure) (.inl rfl) ?_ | refine callS_intro (hA) (.inl rfl) ?_ | refine callS_intro (hB) (.inl rfl) ?_); (try simp -implicitDefEqProofs [-loopQ_n, l1, l2])))))
  | false =>
  rw [c2] at hB
  have hC := varF_any (p := fun v => decide (12 < v.acts.length)) (l := L) (g := 24) (caps := []) (fun x _ => made1_pure x) (fun H k => rfl) rfl hL
  cases c3 : (L.any fun v => decide (12 < v.acts.length)) with
  | true =>
    rw [c3] at hC
    refine pure_of mixed Try.func5 rfl (by kernel_rfl) (of_decide_eq_true rfl) (by kernel_rfl) (vc_run ?_)
    ((try simp -implicitDefEqProofs [-loopQ_n, l1, l2]) <;> (repeat' (first | (refine condD_dec ?_ ?_ <;> (intro hc; (try simp -implicitDefEqProofs [-loopQ_n, hc, l1, l2]))) | (refine guardD_dec ?_ ?_ <;> (intro hc; (try simp -implicitDefEqProofs [-loopQ_n, hc, l1, l2]))) | (refine condD_intro ?_ ?_ <;> (intro hd; have hc := hd; (try simp at hc) <;> (try simp -implicitDefEqProofs [-loopQ_n, hd, hc, l1, l2]))) | (refine guardD_intro ?_ ?_ <;> (intro hd; have hc := hd; (try simp at hc) <;> (try simp -implicitDefEqProofs [-loopQ_n, hd, hc, l1, l2]))) | (refine ldD_ep ?_ ?_; (focus kernel_rfl); (try simp -implicitDefEqProofs [-loopQ_n, l1, l2])) | (refine callS_mk ?_; (try simp -implicitDefEqProofs [-loopQ_n, l1, l2]); (first | refine callS_intro (awake_pure) (.inl rfl) ?_ | refine callS_intro (hA) (.inl rfl) ?_ | refine callS_intro (hB) (.inl rfl) ?_ | refine callS_intro (hC) (.inl rfl) ?_); (try simp -implicitDefEqProofs [-loopQ_n, l1, l2])))))
  | false =>
  rw [c3] at hC
  have hD := pubF_any (p := fun v => decide (12 < v.acts.length)) (l := P) (g := 26) (caps := []) (fun x _ => made2_pure x) (fun H k => rfl) rfl hP
  cases c4 : (P.any fun v => decide (12 < v.acts.length)) with
  | true =>
    rw [c4] at hD
    refine pure_of mixed Try.func5 rfl (by kernel_rfl) (of_decide_eq_true rfl) (by kernel_rfl) (vc_run ?_)
    ((try simp -implicitDefEqProofs [-loopQ_n, l1, l2]) <;> (repeat' (first | (refine condD_dec ?_ ?_ <;> (intro hc; (try simp -implicitDefEqProofs [-loopQ_n, hc, l1, l2]))) | (refine guardD_dec ?_ ?_ <;> (intro hc; (try simp -implicitDefEqProofs [-loopQ_n, hc, l1, l2]))) | (refine condD_intro ?_ ?_ <;> (intro hd; have hc := hd; (try simp at hc) <;> (try simp -implicitDefEqProofs [-loopQ_n, hd, hc, l1, l2]))) | (refine guardD_intro ?_ ?_ <;> (intro hd; have hc := hd; (try simp at hc) <;> (try simp -implicitDefEqProofs [-loopQ_n, hd, hc, l1, l2]))) | (refine ldD_ep ?_ ?_; (focus kernel_rfl); (try simp -implicitDefEqProofs [-loopQ_n, l1, l2])) | (refine callS_mk ?_; (try simp -implicitDefEqProofs [-loopQ_n, l1, l2]); (first | refine callS_intro (awake_pure) (.inl rfl) ?_ | refine callS_intro (hA) (.inl rfl) ?_ | refine callS_intro (hB) (.inl rfl) ?_ | refine callS_intro (hC) (.inl rfl) ?_ | refine callS_intro (hD) (.inl rfl) ?_); (try simp -implicitDefEqProofs [-loopQ_n, l1, l2])))))
  | false =>
  rw [c4] at hD
  have h12 : ∀ v ∈ P, v.acts.length ≤ 12 := fun v hv => by
    rw [List.any_eq_false] at c4
    have := c4 v hv
    simp only [decide_eq_true_eq] at this
    omega
  have hE := loss_pure L P (by omega) (by omega) hLw hPw
  have hF := rvalid_pure P (by omega) hPw
  have hG := rplain_pure L (by omega)
  have hH := rvalid_pure L (by omega) hLw
  cases v1 : validW L with
  | false =>
    have : lossR L P = (0, 1) := by unfold lossR; rw [if_pos v1]
    rw [this] at hE
    rw [v1] at hH
    simp only [lossT] at hE
    cases v2 : validW P with
    | false =>
      rw [v2] at hF
      refine pure_of mixed Try.func5 rfl (by kernel_rfl) (of_decide_eq_true rfl) (by kernel_rfl) (vc_run ?_)
      ((try simp -implicitDefEqProofs [-loopQ_n, l1, l2]) <;> (repeat' (first | (refine condD_dec ?_ ?_ <;> (intro hc; (try simp -implicitDefEqProofs [-loopQ_n, hc, l1, l2]))) | (refine guardD_dec ?_ ?_ <;> (intro hc; (try simp -implicitDefEqProofs [-loopQ_n, hc, l1, l2]))) | (refine condD_intro ?_ ?_ <;> (intro hd; have hc := hd; (try simp at hc) <;> (try simp -implicitDefEqProofs [-loopQ_n, hd, hc, l1, l2]))) | (refine guardD_intro ?_ ?_ <;> (intro hd; have hc := hd; (try simp at hc) <;> (try simp -implicitDefEqProofs [-loopQ_n, hd, hc, l1, l2]))) | (refine ldD_ep ?_ ?_; (focus kernel_rfl); (try simp -implicitDefEqProofs [-loopQ_n, l1, l2])) | (refine callS_mk ?_; (try simp -implicitDefEqProofs [-loopQ_n, l1, l2]); (first | refine callS_intro (awake_pure) (.inl rfl) ?_ | refine callS_intro (hA) (.inl rfl) ?_ | refine callS_intro (hB) (.inl rfl) ?_ | refine callS_intro (hC) (.inl rfl) ?_ | refine callS_intro (hD) (.inl rfl) ?_ | refine callS_intro (hE) (.inl rfl) ?_ | refine callS_intro (hF) (.inl rfl) ?_ | refine callS_intro (hG) (.inr ⟨rfl, rfl⟩) ?_ | refine callS_intro (hH) (.inl rfl) ?_); (try simp -implicitDefEqProofs [-loopQ_n, l1, l2])))))
    | true =>
      rw [v2] at hF
      refine pure_of mixed Try.func5 rfl (by kernel_rfl) (of_decide_eq_true rfl) (by kernel_rfl) (vc_run ?_)
      ((try simp -implicitDefEqProofs [-loopQ_n, l1, l2]) <;> (repeat' (first | (refine condD_dec ?_ ?_ <;> (intro hc; (try simp -implicitDefEqProofs [-loopQ_n, hc, l1, l2]))) | (refine guardD_dec ?_ ?_ <;> (intro hc; (try simp -implicitDefEqProofs [-loopQ_n, hc, l1, l2]))) | (refine condD_intro ?_ ?_ <;> (intro hd; have hc := hd; (try simp at hc) <;> (try simp -implicitDefEqProofs [-loopQ_n, hd, hc, l1, l2]))) | (refine guardD_intro ?_ ?_ <;> (intro hd; have hc := hd; (try simp at hc) <;> (try simp -implicitDefEqProofs [-loopQ_n, hd, hc, l1, l2]))) | (refine ldD_ep ?_ ?_; (focus kernel_rfl); (try simp -implicitDefEqProofs [-loopQ_n, l1, l2])) | (refine callS_mk ?_; (try simp -implicitDefEqProofs [-loopQ_n, l1, l2]); (first | refine callS_intro (awake_pure) (.inl rfl) ?_ | refine callS_intro (hA) (.inl rfl) ?_ | refine callS_intro (hB) (.inl rfl) ?_ | refine callS_intro (hC) (.inl rfl) ?_ | refine callS_intro (hD) (.inl rfl) ?_ | refine callS_intro (hE) (.inl rfl) ?_ | refine callS_intro (hF) (.inl rfl) ?_ | refine callS_intro (hG) (.inr ⟨rfl, rfl⟩) ?_ | refine callS_intro (hH) (.inl rfl) ?_); (try simp -implicitDefEqProofs [-loopQ_n, l1, l2])))))
  | true =>
  cases v2 : validW P with
  | false =>
    have : lossR L P = (0, 1) := by unfold lossR; rw [if_neg (by rw [v1]; simp), if_pos v2]
    rw [this] at hE
    rw [v2] at hF
    simp only [lossT] at hE
    refine pure_of mixed Try.func5 rfl (by kernel_rfl) (of_decide_eq_true rfl) (by kernel_rfl) (vc_run ?_)
    ((try simp -implicitDefEqProofs [-loopQ_n, l1, l2]) <;> (repeat' (first | (refine condD_dec ?_ ?_ <;> (intro hc; (try simp -implicitDefEqProofs [-loopQ_n, hc, l1, l2]))) | (refine guardD_dec ?_ ?_ <;> (intro hc; (try simp -implicitDefEqProofs [-loopQ_n, hc, l1, l2]))) | (refine condD_intro ?_ ?_ <;> (intro hd; have hc := hd; (try simp at hc) <;> (try simp -implicitDefEqProofs [-loopQ_n, hd, hc, l1, l2]))) | (refine guardD_intro ?_ ?_ <;> (intro hd; have hc := hd; (try simp at hc) <;> (try simp -implicitDefEqProofs [-loopQ_n, hd, hc, l1, l2]))) | (refine ldD_ep ?_ ?_; (focus kernel_rfl); (try simp -implicitDefEqProofs [-loopQ_n, l1, l2])) | (refine callS_mk ?_; (try simp -implicitDefEqProofs [-loopQ_n, l1, l2]); (first | refine callS_intro (awake_pure) (.inl rfl) ?_ | refine callS_intro (hA) (.inl rfl) ?_ | refine callS_intro (hB) (.inl rfl) ?_ | refine callS_intro (hC) (.inl rfl) ?_ | refine callS_intro (hD) (.inl rfl) ?_ | refine callS_intro (hE) (.inl rfl) ?_ | refine callS_intro (hF) (.inl rfl) ?_ | refine callS_intro (hG) (.inr ⟨rfl, rfl⟩) ?_ | refine callS_intro (hH) (.inl rfl) ?_); (try simp -implicitDefEqProofs [-loopQ_n, l1, l2])))))
  | true =>
  have gL := validW_good v1
  have gP := validW_good v2
  have hM := made_pure L P (by omega) (by omega) (posW_good gL) (posW_good gP)
  rw [made_over gL gP h12] at hM
  have hR : lossR L P = if (begE P).any (overE (begE L)) = true then (0, 28) else (actsS L - actsS P, 0) := by unfold lossR; rw [if_neg (by rw [v1]; simp), if_neg (by rw [v2]; simp)]
  rw [hR] at hE
  generalize (begE P).any (overE (begE L)) = o at *
  generalize actsS L - actsS P = a at *
  cases o with
  | true =>
    simp only [if_true, lossT] at hE
    simp only [Bool.not_true] at hM
    refine pure_of mixed Try.func5 rfl (by kernel_rfl) (of_decide_eq_true rfl) (by kernel_rfl) (vc_run ?_)
    ((try simp -implicitDefEqProofs [-loopQ_n, l1, l2]) <;> (repeat' (first | (refine condD_dec ?_ ?_ <;> (intro hc; (try simp -implicitDefEqProofs [-loopQ_n, hc, l1, l2]))) | (refine guardD_dec ?_ ?_ <;> (intro hc; (try simp -implicitDefEqProofs [-loopQ_n, hc, l1, l2]))) | (refine condD_intro ?_ ?_ <;> (intro hd; have hc := hd; (try simp at hc) <;> (try simp -implicitDefEqProofs [-loopQ_n, hd, hc, l1, l2]))) | (refine guardD_intro ?_ ?_ <;> (intro hd; have hc := hd; (try simp at hc) <;> (try simp -implicitDefEqProofs [-loopQ_n, hd, hc, l1, l2]))) | (refine ldD_ep ?_ ?_; (focus kernel_rfl); (try simp -implicitDefEqProofs [-loopQ_n, l1, l2])) | (refine callS_mk ?_; (try simp -implicitDefEqProofs [-loopQ_n, l1, l2]); (first | refine callS_intro (awake_pure) (.inl rfl) ?_ | refine callS_intro (hA) (.inl rfl) ?_ | refine callS_intro (hB) (.inl rfl) ?_ | refine callS_intro (hC) (.inl rfl) ?_ | refine callS_intro (hD) (.inl rfl) ?_ | refine callS_intro (hE) (.inl rfl) ?_ | refine callS_intro (hM) (.inl rfl) ?_); (try simp -implicitDefEqProofs [-loopQ_n, l1, l2])))))
  | false =>
    simp only [Bool.false_eq_true, if_false, lossT] at hE
    simp only [Bool.not_false] at hM
    refine pure_of mixed Try.func5 rfl (by kernel_rfl) (of_decide_eq_true rfl) (by kernel_rfl) (vc_run ?_)
    ((try simp -implicitDefEqProofs [-loopQ_n, l1, l2]) <;> (repeat' (first | (refine condD_dec ?_ ?_ <;> (intro hc; (try simp -implicitDefEqProofs [-loopQ_n, hc, l1, l2]))) | (refine guardD_dec ?_ ?_ <;> (intro hc; (try simp -implicitDefEqProofs [-loopQ_n, hc, l1, l2]))) | (refine condD_intro ?_ ?_ <;> (intro hd; have hc := hd; (try simp at hc) <;> (try simp -implicitDefEqProofs [-loopQ_n, hd, hc, l1, l2]))) | (refine guardD_intro ?_ ?_ <;> (intro hd; have hc := hd; (try simp at hc) <;> (try simp -implicitDefEqProofs [-loopQ_n, hd, hc, l1, l2]))) | (refine ldD_ep ?_ ?_; (focus kernel_rfl); (try simp -implicitDefEqProofs [-loopQ_n, l1, l2])) | (refine callS_mk ?_; (try simp -implicitDefEqProofs [-loopQ_n, l1, l2]); (first | refine callS_intro (awake_pure) (.inl rfl) ?_ | refine callS_intro (hA) (.inl rfl) ?_ | refine callS_intro (hB) (.inl rfl) ?_ | refine callS_intro (hC) (.inl rfl) ?_ | refine callS_intro (hD) (.inl rfl) ?_ | refine callS_intro (hE) (.inl rfl) ?_ | refine callS_intro (hM) (.inl rfl) ?_); (try simp -implicitDefEqProofs [-loopQ_n, l1, l2])))))
theorem both (x0 : AV) (s0 : argS Try.prog 22 x0) (x1 : AV) (s1 : argS Try.prog 23 x1) : Pure Try.prog 5 [x0, x1] (.bool true) := by
  obtain ⟨L, rfl, hL, hLw⟩ := arg_vars s0
  obtain ⟨P, rfl, hP, hPw⟩ := arg_pubs s1
  exact main L hL hLw P hP hPw
theorem walk (W : World) (hvo : VarsOk W (fun _ => False)) (v0 : Value) (x0 : AV) (r0 : RO W (fun _ => False) x0 v0) (s0 : argS Try.prog 22 x0) (v1 : Value) (x1 : AV) (r1 : RO W (fun _ => False) x1 v1) (s1 : argS Try.prog 23 x1) :
    Calls Try.prog 5 #[v0, v1] W fun e w' => e = .returned (.bool true) ∧ Below W.heap.size W w' := by
  refine ((both x0 s0 x1 s1).2 W (fun _ => False) _ (fun _ h => h.elim) hvo rfl ?_).mono ?_
  · intro j x v hj hv
    match j with
    | 0 => simp at hj hv; subst hj hv; exact r0
    | 1 => simp at hj hv; subst hj hv; exact r1
    | j + 2 => simp at hj
  · rintro e w' ⟨v, rfl, hv, hb⟩
    rw [ro_tt hv]
    exact ⟨rfl, hb⟩
end
set_option maxRecDepth 100000 in
theorem lifted (os : Os) (started : os.Started) (H : Type) (enc : TypeId × Value → H) :
    ReturnsInHanded {} Try.checked os 5 .any (Rows.privacyMadeSpec.pre6 enc Try.prog Try.f5 Rows.privacyMadeRow.domain false) (Rows.privacyMadeSpec.post enc Try.prog Try.f5 false true false false) := by
  refine returnsInHanded_of_change (C := Try.checked) (@ownK ⟨fun _ => none⟩) started (by kernel_rfl) Try.func5
    (ChangeSpec.witness6 (enc := enc) (C := Try.checked) false ⟨#[], #[.slice none 0 0, .slice none 0 0], []⟩ 8 (by kernel_rfl) (by kernel_rfl) (by kernel_rfl) (by kernel_rfl)) ?_
  intro W base args ds gs before hval0 hW hcnd _
  have hval : ∀ (j : Nat) t v, Try.f5.params[j]? = some t → args[j]? = some v → Value.okWide Try.prog W .any base t v := hval0
  have hW' := hW
  obtain ⟨p, q, hA0, hV, rfl, hfz, hnd⟩ := hW
  have hA : DataW.TrodAll enc Try.prog W 0 (fun _ => true) true Try.f5.params.toList args.toList ds p := hA0
  rw [Try.params5] at hA hval
  obtain ⟨v0, vs0, d0, ds0, p0, q0, hargs, rfl, rfl, h0, r0⟩ := trodAll_cons hA
  obtain ⟨v1, vs1, d1, ds1, p1, q1, rfl, rfl, rfl, h1, r1⟩ := trodAll_cons r0
  obtain ⟨rfl, rfl, rfl⟩ := trodAll_nil r1
  obtain rfl : args = #[v0, v1] := by cases args; simp_all
  obtain ⟨rfl, rfl⟩ := trodVars_none hV
  letI : Glob := ⟨fun _ => none⟩
  have k0 := h0
  have lt0 : ∀ x ∈ p0, x.block < W.heap.size := by obtain ⟨m, hm⟩ := k0; exact DataW.trod_lt m _ _ _ hm
  obtain ⟨x0, y0, s0⟩ := arg_open (P := Try.prog) (t := 22) (by kernel_rfl) (by kernel_rfl) (hval 0 22 v0 rfl rfl) h0
  have k1 := h1
  have lt1 : ∀ x ∈ p1, x.block < W.heap.size := by obtain ⟨m, hm⟩ := k1; exact DataW.trod_lt m _ _ _ hm
  obtain ⟨x1, y1, s1⟩ := arg_open (P := Try.prog) (t := 23) (by kernel_rfl) (by kernel_rfl) (hval 1 23 v1 rfl rfl) h1
  clear hA0 hval0
  refine (walk W (fun g row h => by cases h) v0 x0 y0 s0 v1 x1 y1 s1).mono fun e W' ⟨he, bel⟩ => ?_
  subst he
  exact ⟨_, rfl, _, _, _, [], _, [], hW', trodAll_mk1 (shut_bool Try.underlying4 _), (trodAll_cons_mk (Below.trod laidK (by kernel_rfl) (of_decide_eq_true (by kernel_rfl)) k0 bel lt0) (trodAll_cons_mk (Below.trod laidK (by kernel_rfl) (of_decide_eq_true (by kernel_rfl)) k1 bel lt1) trodAll_mk0)), rfl, bel.frame _, fun h => by cases h⟩

theorem over : Rows.privacyMadeRow.holds Try.pinned (OpenSpec.ofChange Rows.privacyMadeSpec) :=
  OpenClaim.holds_of_wide 5 Try.f5 rfl rfl rfl rfl rfl rfl rfl ⟨rfl, rfl, rfl, rfl, rfl⟩ rfl rfl rfl rfl rfl (by kernel_rfl) Try.func5 (by kernel_rfl)
    (of_decide_eq_true (by kernel_rfl)) (by unfold Func.isWrapper; first | (rw [if_pos (by decide +kernel)]; kernel_rfl) | (rw [if_neg (by decide +kernel)]; exact ⟨rfl, rfl⟩))
    (fun os started H enc _ => lifted os started H enc)

theorem proved : Rows.PrivacyMadeSaid := over
end Go.Proofs.Ytkppfaennogcmaa.lawPMade
