/- made (the law's own function), great, and the reference's Plain, walked. -/
import Derived.Test.YtkppfaennogcmaaPrvJ
import Derived.Test.YtkppfaennogcmaaPrvH
import Derived.Test.YtkppfaennogcmaaStrW
namespace Go.Proofs.Ytkppfaennogcmaa
set_option linter.unusedSimpArgs false
set_option linter.unusedVariables false
set_option linter.unnecessarySimpa false
set_option linter.unusedSectionVars false
open Go.RowKit
variable [Glob]
set_option maxRecDepth 100000
theorem varF_idx {p : Wd → Bool} {l : List Wd} {g : Nat} {caps : List AV} (hp : ∀ x ∈ l, Pure Try.prog g (.agg (wdC x) :: caps) (.bool (p x))) (hc : ∀ H k, caps.mapM (reify H (k + 5)) = some caps) (hf : refsL 0 caps = true) (hl : l.length ≤ 9223372036854775807) :
    Pure Try.prog 62 [.rs (rowsOf wdC l), .fn g caps] (.int .i64 (idxOf p l)) := by
  refine pure_of mixed Try.func62 rfl (by kernel_rfl) (of_decide_eq_true rfl) (by kernel_rfl) (vc_run ?_)
  simp -implicitDefEqProofs
  refine loop_intro (σ := Nat) (fun i => ⟨[(0, .rs (rowsOf wdC l)), (1, .fn g caps), (7, .int .i64 l.length), (8, .int .i64 i)], []⟩) (fun i => i ≤ l.length ∧ allF p (l.take i)) (fun i => l.length - i) 0 ⟨Nat.zero_le _, allF_nil⟩ ?_ ?_
  · refine weak_of 0 0 rfl rfl ?_ ?_ <;> simp [hf]
  · rintro i ⟨hi, hall⟩
    by_cases h : i < l.length
    · simp -implicitDefEqProofs [h, wdC]
      have hc8 : ∀ H, caps.mapM (reify H 8) = some caps := fun H => hc H 3
      refine call_intro (hp l[i] (by simp)) (by simp -implicitDefEqProofs [hc8, wdC]) (.inl rfl) ?_
      by_cases hpx : p l[i] = true
      · simp -implicitDefEqProofs [hpx]
        exact (idxOf_some p l i h hall hpx).symm
      · have hpx : p l[i] = false := by simpa using hpx
        simp -implicitDefEqProofs [hpx]
        refine ⟨i + 1, ⟨by omega, allF_succ hall h hpx⟩, by omega, weak_of 0 0 rfl rfl ?_ ?_⟩
        · simp [hf]
          exact (wrap_in (by omega) (by omega)).symm
        · simp
    · simp -implicitDefEqProofs [h]
      rw [idxOf_none p l (allF_all hall h)]
theorem varF_any {p : Wd → Bool} {l : List Wd} {g : Nat} {caps : List AV} (hp : ∀ x ∈ l, Pure Try.prog g (.agg (wdC x) :: caps) (.bool (p x))) (hc : ∀ H k, caps.mapM (reify H (k + 5)) = some caps) (hf : refsL 0 caps = true) (hl : l.length ≤ 9223372036854775807) :
    Pure Try.prog 23 [.rs (rowsOf wdC l), .fn g caps] (.bool (l.any p)) := by
  refine pure_of mixed Try.func23 rfl (by kernel_rfl) (of_decide_eq_true rfl) (by kernel_rfl) (vc_run ?_)
  simp -implicitDefEqProofs
  have hc7 : ∀ H, caps.mapM (reify H 7) = some caps := fun H => hc H 2
  refine call_intro (varF_idx hp hc hf hl) (by simp -implicitDefEqProofs [hc7]) (.inl rfl) ?_
  simp -implicitDefEqProofs
  rw [← ge_idxOf]

theorem great1_pure (v : Wd) (hv : v.acts.length ≤ 9223372036854775807) : Pure Try.prog 44 [.agg (wdC v)] (.bool (wideB v.acts)) := by
  unfold wdC
  refine pure_of mixed Try.func44 rfl (by kernel_rfl) (of_decide_eq_true rfl) (by kernel_rfl) (vc_run ?_)
  ((try simp -implicitDefEqProofs [-loopQ_n]) <;> (repeat' (first | (refine condD_dec ?_ ?_ <;> (intro hc; (try simp -implicitDefEqProofs [-loopQ_n, hc]))) | (refine guardD_dec ?_ ?_ <;> (intro hc; (try simp -implicitDefEqProofs [-loopQ_n, hc]))) | (refine condD_intro ?_ ?_ <;> (intro hd; have hc := hd; (try simp at hc) <;> (try simp -implicitDefEqProofs [-loopQ_n, hd, hc]))) | (refine guardD_intro ?_ ?_ <;> (intro hd; have hc := hd; (try simp at hc) <;> (try simp -implicitDefEqProofs [-loopQ_n, hd, hc]))) | (refine ldD_ep ?_ ?_; (focus kernel_rfl); (try simp -implicitDefEqProofs [-loopQ_n])) | (refine callS_mk ?_; (try simp -implicitDefEqProofs [-loopQ_n]); (first | refine callS_intro (wide_pure v.acts hv) (.inl rfl) ?_); (try simp -implicitDefEqProofs [-loopQ_n])))))
theorem great_pure (l : List Wd) (hl : l.length ≤ 9223372036854775807) (hw : ∀ v ∈ l, wdI v) : Pure Try.prog 13 [.rs (rowsOf wdC l)] (.bool (largeB l)) := by
  have hA := varF_any (p := fun v => wideB v.acts) (l := l) (g := 44) (caps := []) (fun x hx => great1_pure x (hw x hx).2.1) (fun H k => rfl) rfl hl
  unfold largeB
  by_cases h : 40 < l.length
  · have h' : (40 : Int) < l.length := by omega
    rw [if_pos h]
    refine pure_of mixed Try.func13 rfl (by kernel_rfl) (of_decide_eq_true rfl) (by kernel_rfl) (vc_run ?_)
    ((try simp -implicitDefEqProofs [-loopQ_n, h, h']) <;> (repeat' (first | (refine condD_dec ?_ ?_ <;> (intro hc; (try simp -implicitDefEqProofs [-loopQ_n, hc, h, h']))) | (refine guardD_dec ?_ ?_ <;> (intro hc; (try simp -implicitDefEqProofs [-loopQ_n, hc, h, h']))) | (refine condD_intro ?_ ?_ <;> (intro hd; have hc := hd; (try simp at hc) <;> (try simp -implicitDefEqProofs [-loopQ_n, hd, hc, h, h']))) | (refine guardD_intro ?_ ?_ <;> (intro hd; have hc := hd; (try simp at hc) <;> (try simp -implicitDefEqProofs [-loopQ_n, hd, hc, h, h']))) | (refine ldD_ep ?_ ?_; (focus kernel_rfl); (try simp -implicitDefEqProofs [-loopQ_n, h, h'])))))
  · have h' : ¬ (40 : Int) < l.length := by omega
    rw [if_neg h]
    refine pure_of mixed Try.func13 rfl (by kernel_rfl) (of_decide_eq_true rfl) (by kernel_rfl) (vc_run ?_)
    ((try simp -implicitDefEqProofs [-loopQ_n, h, h']) <;> (repeat' (first | (refine condD_dec ?_ ?_ <;> (intro hc; (try simp -implicitDefEqProofs [-loopQ_n, hc, h, h']))) | (refine guardD_dec ?_ ?_ <;> (intro hc; (try simp -implicitDefEqProofs [-loopQ_n, hc, h, h']))) | (refine condD_intro ?_ ?_ <;> (intro hd; have hc := hd; (try simp at hc) <;> (try simp -implicitDefEqProofs [-loopQ_n, hd, hc, h, h']))) | (refine guardD_intro ?_ ?_ <;> (intro hd; have hc := hd; (try simp at hc) <;> (try simp -implicitDefEqProofs [-loopQ_n, hd, hc, h, h']))) | (refine ldD_ep ?_ ?_; (focus kernel_rfl); (try simp -implicitDefEqProofs [-loopQ_n, h, h'])) | (refine callS_mk ?_; (try simp -implicitDefEqProofs [-loopQ_n, h, h']); (first | refine callS_intro (hA) (.inl rfl) ?_); (try simp -implicitDefEqProofs [-loopQ_n, h, h'])))))
theorem made1_pure (v : Wd) : Pure Try.prog 24 [.agg (wdC v)] (.bool (decide (12 < v.acts.length))) := by
  unfold wdC
  refine pure_of mixed Try.func24 rfl (by kernel_rfl) (of_decide_eq_true rfl) (by kernel_rfl) (vc_run ?_)
  ((try simp -implicitDefEqProofs [-loopQ_n]) <;> (repeat' (first | (refine condD_dec ?_ ?_ <;> (intro hc; (try simp -implicitDefEqProofs [-loopQ_n, hc]))) | (refine guardD_dec ?_ ?_ <;> (intro hc; (try simp -implicitDefEqProofs [-loopQ_n, hc]))) | (refine condD_intro ?_ ?_ <;> (intro hd; have hc := hd; (try simp at hc) <;> (try simp -implicitDefEqProofs [-loopQ_n, hd, hc]))) | (refine guardD_intro ?_ ?_ <;> (intro hd; have hc := hd; (try simp at hc) <;> (try simp -implicitDefEqProofs [-loopQ_n, hd, hc]))) | (refine ldD_ep ?_ ?_; (focus kernel_rfl); (try simp -implicitDefEqProofs [-loopQ_n])))))
  omega
theorem made2_pure (v : Wd) : Pure Try.prog 26 [.agg (wdC v)] (.bool (decide (12 < v.acts.length))) := by
  unfold wdC
  refine pure_of mixed Try.func26 rfl (by kernel_rfl) (of_decide_eq_true rfl) (by kernel_rfl) (vc_run ?_)
  ((try simp -implicitDefEqProofs [-loopQ_n]) <;> (repeat' (first | (refine condD_dec ?_ ?_ <;> (intro hc; (try simp -implicitDefEqProofs [-loopQ_n, hc]))) | (refine guardD_dec ?_ ?_ <;> (intro hc; (try simp -implicitDefEqProofs [-loopQ_n, hc]))) | (refine condD_intro ?_ ?_ <;> (intro hd; have hc := hd; (try simp at hc) <;> (try simp -implicitDefEqProofs [-loopQ_n, hd, hc]))) | (refine guardD_intro ?_ ?_ <;> (intro hd; have hc := hd; (try simp at hc) <;> (try simp -implicitDefEqProofs [-loopQ_n, hd, hc]))) | (refine ldD_ep ?_ ?_; (focus kernel_rfl); (try simp -implicitDefEqProofs [-loopQ_n])))))
  omega
set_option maxHeartbeats 16000000 in
theorem rplain_pure (l : List Wd) (hl : l.length ≤ 300) : Pure Try.prog 28 [.rs (rowsOf wdC l)] (.rs (rowsOf wdC l)) := by
  refine pure_of mixed Try.func28 rfl (by kernel_rfl) (of_decide_eq_true rfl) (by kernel_rfl) (vc_run ?_)
  ((try simp -implicitDefEqProofs [-loopQ_n]) <;> (repeat' (first | (refine condD_dec ?_ ?_ <;> (intro hc; (try simp -implicitDefEqProofs [-loopQ_n, hc]))) | (refine guardD_dec ?_ ?_ <;> (intro hc; (try simp -implicitDefEqProofs [-loopQ_n, hc]))) | (refine condD_intro ?_ ?_ <;> (intro hd; have hc := hd; (try simp at hc) <;> (try simp -implicitDefEqProofs [-loopQ_n, hd, hc]))) | (refine guardD_intro ?_ ?_ <;> (intro hd; have hc := hd; (try simp at hc) <;> (try simp -implicitDefEqProofs [-loopQ_n, hd, hc]))) | (refine ldD_ep ?_ ?_; (focus kernel_rfl); (try simp -implicitDefEqProofs [-loopQ_n])))))
  refine loop_intro (σ := Nat × List Wd) (fun x => ⟨[(0, .rs (rowsOf wdC l)), (3, .os 0 x.2.length), (4, .int .i64 x.1)], [.row 54 true (rowsOf wdC x.2)]⟩)
    (fun x => x.1 ≤ l.length ∧ x.2.length = x.1 ∧ x.2 ++ l.drop x.1 = l) (fun x => l.length - x.1) (0, []) ⟨by simp, by simp, by simp⟩ ?_ ?_
  · refine weak_of 0 1 rfl rfl ?_ ?_ <;> simp
  rintro ⟨i, o⟩ ⟨hi, ho, hR⟩
  simp only at hi ho hR
  by_cases h : i < l.length
  · have w1 : wrapI .i64 ((i : Int) + 1) = (i : Int) + 1 := wrap_in (by omega) (by omega)
    obtain ⟨⟨A, n⟩, hx⟩ : ∃ x, l[i] = x := ⟨_, rfl⟩
    have hlen : o.length + 1 ≤ 1073741824 := by omega
    have hsn : rowsOf wdC o ++ [[.rs (rowsOf strC A), .int .i64 n]] = rowsOf wdC (o ++ [⟨A, n⟩]) := wd_snoc (v := ⟨A, n⟩)
    ((try simp -implicitDefEqProofs [-loopQ_n, h, hx, wdC, hlen, hsn]) <;> (repeat' (first | (refine condD_dec ?_ ?_ <;> (intro hc; (try simp -implicitDefEqProofs [-loopQ_n, hc, h, hx, wdC, hlen, hsn]))) | (refine guardD_dec ?_ ?_ <;> (intro hc; (try simp -implicitDefEqProofs [-loopQ_n, hc, h, hx, wdC, hlen, hsn]))) | (refine condD_intro ?_ ?_ <;> (intro hd; have hc := hd; (try simp at hc) <;> (try simp -implicitDefEqProofs [-loopQ_n, hd, hc, h, hx, wdC, hlen, hsn]))) | (refine guardD_intro ?_ ?_ <;> (intro hd; have hc := hd; (try simp at hc) <;> (try simp -implicitDefEqProofs [-loopQ_n, hd, hc, h, hx, wdC, hlen, hsn]))) | (refine ldD_ep ?_ ?_; (focus kernel_rfl); (try simp -implicitDefEqProofs [-loopQ_n, h, hx, wdC, hlen, hsn])))))
    refine loop_next (i + 1, o ++ [⟨A, n⟩]) ⟨by simp only; omega, by simp; omega, ?_⟩ (by simp only; omega) (weak_of 1 0 rfl rfl ?_ ?_)
    · rw [← hR, List.append_assoc, List.singleton_append]
      simp only
      conv => rhs; rw [List.drop_eq_getElem_cons h, hx]
      rw [hR]
    · simp [w1]
    · simp [wd_refs, hsn]
  · rw [List.drop_eq_nil_of_le (by omega), List.append_nil] at hR
    subst hR
    ((try simp -implicitDefEqProofs [-loopQ_n, h, wd_reify]) <;> (repeat' (first | (refine condD_dec ?_ ?_ <;> (intro hc; (try simp -implicitDefEqProofs [-loopQ_n, hc, h, wd_reify]))) | (refine guardD_dec ?_ ?_ <;> (intro hc; (try simp -implicitDefEqProofs [-loopQ_n, hc, h, wd_reify]))) | (refine condD_intro ?_ ?_ <;> (intro hd; have hc := hd; (try simp at hc) <;> (try simp -implicitDefEqProofs [-loopQ_n, hd, hc, h, wd_reify]))) | (refine guardD_intro ?_ ?_ <;> (intro hd; have hc := hd; (try simp at hc) <;> (try simp -implicitDefEqProofs [-loopQ_n, hd, hc, h, wd_reify]))) | (refine ldD_ep ?_ ?_; (focus kernel_rfl); (try simp -implicitDefEqProofs [-loopQ_n, h, wd_reify])))))
def mkB (P : List Wd) : Nat → List Wd → Bool
  | 0, _ => true
  | m + 1, C => match lvl m P C with
    | none => false
    | some C' => mkB P m C'
theorem lvls_mkB {P : List Wd} : ∀ (m : Nat) (C : List Wd), lvls P m C = mkB P (m + 1) C := by
  intro m
  induction m with
  | zero => intro C; simp only [lvls, mkB]; cases lvl 0 P C <;> rfl
  | succ m ih =>
    intro C
    rw [mkB, lvls]
    cases lvl (m + 1) P C with
    | none => rfl
    | some C' => simp only; exact ih C'
def lvlI (m : Nat) (P : List Wd) (j : Nat) (C : List Wd) : Option (List Wd) := lvl m (P.drop j) C
def endO (P : List Wd) (m : Nat) (O : Option (List Wd)) : Bool := match O with | none => false | some C' => mkB P m C'
def posW (C : List Wd) : Prop := ∀ v ∈ C, 0 ≤ v.n ∧ v.n ≤ 1048576 ∧ v.acts.length ≤ 200
/-- Cases are taken from a place on. -/
def takI (w : Wo) (need : Int) (X : List Wd) (i : Nat) : Int × List Wd := ((takeL w need (X.drop i)).1, X.take i ++ (takeL w need (X.drop i)).2)
theorem takI_no {w : Wo} {need : Int} {X : List Wd} {i : Nat} (h : i < X.length) (hp : ¬ pre w X[i].acts) : takI w need X i = takI w need X (i + 1) := by
  unfold takI
  rw [List.drop_eq_getElem_cons h, takeL, if_neg hp, List.take_succ_eq_append_getElem h, List.append_assoc]
  rfl
theorem takI_yes {w : Wo} {need : Int} {X : List Wd} {i : Nat} (h : i < X.length) (hp : pre w X[i].acts) : takI w need X i = takI w (need - min need X[i].n) (X.set i ⟨X[i].acts, X[i].n - min need X[i].n⟩) (i + 1) := by
  unfold takI
  rw [List.drop_eq_getElem_cons h, takeL, if_pos hp]
  have h1 : (X.set i ⟨X[i].acts, X[i].n - min need X[i].n⟩).drop (i + 1) = X.drop (i + 1) := by rw [List.drop_set]; simp
  have h2 : (X.set i ⟨X[i].acts, X[i].n - min need X[i].n⟩).take (i + 1) = X.take i ++ [⟨X[i].acts, X[i].n - min need X[i].n⟩] := by
    rw [List.take_succ_eq_append_getElem (by simpa using h), List.take_set, List.set_eq_of_length_le (by simp; omega), List.getElem_set_self]
  rw [h1, h2, List.append_assoc]
  rfl
theorem takI_end {w : Wo} {need : Int} {X : List Wd} : takI w need X X.length = (need, X) := by simp [takI, takeL]
theorem posW_set {C : List Wd} {i : Nat} {v : Wd} (h : posW C) (hv : 0 ≤ v.n ∧ v.n ≤ 1048576 ∧ v.acts.length ≤ 200) : posW (C.set i v) := fun x hx => by
  rcases List.mem_or_eq_of_mem_set hx with hx | rfl
  · exact h x hx
  · exact hv
set_option maxHeartbeats 32000000 in
theorem made_pure (L P : List Wd) (hL : L.length ≤ 300) (hP : P.length ≤ 300) (pL : posW L) (pP : posW P) : Pure Try.prog 29 [.rs (rowsOf wdC L), .rs (rowsOf wdC P)] (.bool (lvls P 12 L)) := by
  rw [lvls_mkB]
  obtain ⟨R, hR⟩ : ∃ R, mkB P 13 L = R := ⟨_, rfl⟩
  rw [hR]
  refine pure_of mixed Try.func29 rfl (by kernel_rfl) (of_decide_eq_true rfl) (by kernel_rfl) (vc_run ?_)
  ((try simp -implicitDefEqProofs [-loopQ_n]) <;> (repeat' (first | (refine condD_dec ?_ ?_ <;> (intro hc; (try simp -implicitDefEqProofs [-loopQ_n, hc]))) | (refine guardD_dec ?_ ?_ <;> (intro hc; (try simp -implicitDefEqProofs [-loopQ_n, hc]))) | (refine condD_intro ?_ ?_ <;> (intro hd; have hc := hd; (try simp at hc) <;> (try simp -implicitDefEqProofs [-loopQ_n, hd, hc]))) | (refine guardD_intro ?_ ?_ <;> (intro hd; have hc := hd; (try simp at hc) <;> (try simp -implicitDefEqProofs [-loopQ_n, hd, hc]))) | (refine ldD_ep ?_ ?_; (focus kernel_rfl); (try simp -implicitDefEqProofs [-loopQ_n])))))
  refine loop_intro (σ := Nat × List Wd) (fun x => ⟨[(1, .rs (rowsOf wdC P)), (5, .os 0 x.2.length), (14, .rs (rowsOf wdC L)), (15, .int .i64 L.length), (16, .int .i64 x.1)], [.row 51 true (rowsOf wdC x.2)]⟩)
    (fun x => x.1 ≤ L.length ∧ x.2.length = x.1 ∧ x.2 ++ L.drop x.1 = L) (fun x => L.length - x.1) (0, []) ⟨by simp, by simp, by simp⟩ ?_ ?_
  · refine weak_of 0 1 rfl rfl ?_ ?_ <;> simp
  rintro ⟨i, o⟩ ⟨hi, ho, hX⟩
  simp only at hi ho hX
  by_cases h : i < L.length
  · have w1 : wrapI .i64 ((i : Int) + 1) = (i : Int) + 1 := wrap_in (by omega) (by omega)
    obtain ⟨⟨A, n⟩, hx⟩ : ∃ x, L[i] = x := ⟨_, rfl⟩
    have hlen : o.length + 1 ≤ 1073741824 := by omega
    have hsn : rowsOf wdC o ++ [[.rs (rowsOf strC A), .int .i64 n]] = rowsOf wdC (o ++ [⟨A, n⟩]) := wd_snoc (v := ⟨A, n⟩)
    ((try simp -implicitDefEqProofs [-loopQ_n, h, hx, wdC, hlen, hsn]) <;> (repeat' (first | (refine condD_dec ?_ ?_ <;> (intro hc; (try simp -implicitDefEqProofs [-loopQ_n, hc, h, hx, wdC, hlen, hsn]))) | (refine guardD_dec ?_ ?_ <;> (intro hc; (try simp -implicitDefEqProofs [-loopQ_n, hc, h, hx, wdC, hlen, hsn]))) | (refine condD_intro ?_ ?_ <;> (intro hd; have hc := hd; (try simp at hc) <;> (try simp -implicitDefEqProofs [-loopQ_n, hd, hc, h, hx, wdC, hlen, hsn]))) | (refine guardD_intro ?_ ?_ <;> (intro hd; have hc := hd; (try simp at hc) <;> (try simp -implicitDefEqProofs [-loopQ_n, hd, hc, h, hx, wdC, hlen, hsn]))) | (refine ldD_ep ?_ ?_; (focus kernel_rfl); (try simp -implicitDefEqProofs [-loopQ_n, h, hx, wdC, hlen, hsn])))))
    refine loop_next (i + 1, o ++ [⟨A, n⟩]) ⟨by simp only; omega, by simp; omega, ?_⟩ (by simp only; omega) (weak_of 1 0 rfl rfl ?_ ?_)
    · rw [← hX, List.append_assoc, List.singleton_append]
      simp only
      conv => rhs; rw [List.drop_eq_getElem_cons h, hx]
      rw [hX]
    · simp [w1]
    · simp [wd_refs, hsn]
  rw [List.drop_eq_nil_of_le (by omega), List.append_nil] at hX
  subst hX
  have w12 : wrapI .i64 12 = 12 := wrap_in (by omega) (by omega)
  ((try simp -implicitDefEqProofs [-loopQ_n, h]) <;> (repeat' (first | (refine condD_dec ?_ ?_ <;> (intro hc; (try simp -implicitDefEqProofs [-loopQ_n, hc, h]))) | (refine guardD_dec ?_ ?_ <;> (intro hc; (try simp -implicitDefEqProofs [-loopQ_n, hc, h]))) | (refine condD_intro ?_ ?_ <;> (intro hd; have hc := hd; (try simp at hc) <;> (try simp -implicitDefEqProofs [-loopQ_n, hd, hc, h]))) | (refine guardD_intro ?_ ?_ <;> (intro hd; have hc := hd; (try simp at hc) <;> (try simp -implicitDefEqProofs [-loopQ_n, hd, hc, h]))) | (refine ldD_ep ?_ ?_; (focus kernel_rfl); (try simp -implicitDefEqProofs [-loopQ_n, h])))))
  refine loop_intro (σ := Nat × List Wd) (fun x => ⟨[(1, .rs (rowsOf wdC P)), (5, .os 0 o.length), (8, .int .i64 ((x.1 : Int) - 1))], [.row 51 true (rowsOf wdC x.2)]⟩)
    (fun x => x.1 ≤ 13 ∧ x.2.length = o.length ∧ posW x.2 ∧ mkB P x.1 x.2 = R) (fun x => x.1) (13, o) ⟨by simp, rfl, pL, hR⟩ ?_ ?_
  · refine weak_of 1 0 rfl rfl ?_ ?_ <;> simp [wd_refs]
  clear hR h hi ho i
  rintro ⟨m, C⟩ ⟨hm, hC, pC, hR⟩
  simp only at hm hC pC hR
  cases m with
  | zero =>
    have g1 : ¬ (0 : Int) ≤ -1 := by omega
    simp only [mkB] at hR
    subst hR
    ((try simp -implicitDefEqProofs [-loopQ_n, g1]) <;> (repeat' (first | (refine condD_dec ?_ ?_ <;> (intro hc; (try simp -implicitDefEqProofs [-loopQ_n, hc, g1]))) | (refine guardD_dec ?_ ?_ <;> (intro hc; (try simp -implicitDefEqProofs [-loopQ_n, hc, g1]))) | (refine condD_intro ?_ ?_ <;> (intro hd; have hc := hd; (try simp at hc) <;> (try simp -implicitDefEqProofs [-loopQ_n, hd, hc, g1]))) | (refine guardD_intro ?_ ?_ <;> (intro hd; have hc := hd; (try simp at hc) <;> (try simp -implicitDefEqProofs [-loopQ_n, hd, hc, g1]))) | (refine ldD_ep ?_ ?_; (focus kernel_rfl); (try simp -implicitDefEqProofs [-loopQ_n, g1])))))
  | succ m =>
    obtain ⟨O, hO⟩ : ∃ O, lvl m P C = O := ⟨_, rfl⟩
    have hE : endO P m O = R := by rw [← hR, mkB, hO]; cases O <;> rfl
    have w2 : wrapI .i64 ((m : Int) - 1) = (m : Int) - 1 := wrap_in (by omega) (by omega)
    have g2 : (0 : Int) ≤ m := by omega
    have g3 : ((m + 1 : Nat) : Int) - 1 = m := by omega
    dsimp only
    rw [g3]
    ((try simp -implicitDefEqProofs [-loopQ_n, g2]) <;> (repeat' (first | (refine condD_dec ?_ ?_ <;> (intro hc; (try simp -implicitDefEqProofs [-loopQ_n, hc, g2]))) | (refine guardD_dec ?_ ?_ <;> (intro hc; (try simp -implicitDefEqProofs [-loopQ_n, hc, g2]))) | (refine condD_intro ?_ ?_ <;> (intro hd; have hc := hd; (try simp at hc) <;> (try simp -implicitDefEqProofs [-loopQ_n, hd, hc, g2]))) | (refine guardD_intro ?_ ?_ <;> (intro hd; have hc := hd; (try simp at hc) <;> (try simp -implicitDefEqProofs [-loopQ_n, hd, hc, g2]))) | (refine ldD_ep ?_ ?_; (focus kernel_rfl); (try simp -implicitDefEqProofs [-loopQ_n, g2])))))
    refine loop_intro (σ := Nat × List Wd) (fun x => ⟨[(1, .rs (rowsOf wdC P)), (5, .os 0 o.length), (8, .int .i64 m), (33, .rs (rowsOf wdC P)), (34, .int .i64 P.length), (35, .int .i64 x.1)], [.row 51 true (rowsOf wdC x.2)]⟩)
      (fun x => x.1 ≤ P.length ∧ x.2.length = o.length ∧ posW x.2 ∧ lvlI m P x.1 x.2 = O) (fun x => P.length - x.1) (0, C) ⟨by simp, hC, pC, by simpa [lvlI] using hO⟩ ?_ ?_
    · refine weak_of 1 0 rfl rfl ?_ ?_ <;> simp [wd_refs]
    clear hO hC pC hR
    rintro ⟨j, C⟩ ⟨hj, hC, pC, hO⟩
    simp only at hj hC pC hO
    by_cases h : j < P.length
    · have w1 : wrapI .i64 ((j : Int) + 1) = ((j + 1 : Nat) : Int) := by rw [wrap_in (by omega) (by omega)]; omega
      obtain ⟨⟨A, n⟩, hx⟩ : ∃ x, P[j] = x := ⟨_, rfl⟩
      have hpA := pP P[j] (by simp)
      rw [hx] at hpA
      simp only at hpA
      unfold lvlI at hO
      rw [List.drop_eq_getElem_cons h, hx, lvl] at hO
      simp only at hO
      by_cases c : A.length = m
      · rw [if_pos c] at hO
        have c' : (A.length : Int) = m := by omega
        obtain ⟨⟨k, D⟩, hT⟩ : ∃ x, takeL A n C = x := ⟨_, rfl⟩
        rw [hT] at hO
        simp only at hO
        have hCl : (rowsOf wdC C).length = o.length := by rw [rowsOf_length, hC]
        ((try simp -implicitDefEqProofs [-loopQ_n, h, hx, c, c', wdC, hC]) <;> (repeat' (first | (refine condD_dec ?_ ?_ <;> (intro hc; (try simp -implicitDefEqProofs [-loopQ_n, hc, h, hx, c, c', wdC, hC]))) | (refine guardD_dec ?_ ?_ <;> (intro hc; (try simp -implicitDefEqProofs [-loopQ_n, hc, h, hx, c, c', wdC, hC]))) | (refine condD_intro ?_ ?_ <;> (intro hd; have hc := hd; (try simp at hc) <;> (try simp -implicitDefEqProofs [-loopQ_n, hd, hc, h, hx, c, c', wdC, hC]))) | (refine guardD_intro ?_ ?_ <;> (intro hd; have hc := hd; (try simp at hc) <;> (try simp -implicitDefEqProofs [-loopQ_n, hd, hc, h, hx, c, c', wdC, hC]))) | (refine ldD_ep ?_ ?_; (focus kernel_rfl); (try simp -implicitDefEqProofs [-loopQ_n, h, hx, c, c', wdC, hC])))))
        refine loop_intro (σ := Nat × Int × List Wd) (fun x => ⟨[(1, .rs (rowsOf wdC P)), (5, .os 0 o.length), (8, .int .i64 m), (10, .op 1 0), (11, .int .i64 x.2.1), (33, .rs (rowsOf wdC P)), (34, .int .i64 P.length), (35, .int .i64 j), (47, .int .i64 o.length), (48, .int .i64 x.1)], [.row 51 true (rowsOf wdC x.2.2), .box 54 [.rs (rowsOf strC A), .int .i64 n]]⟩)
          (fun x => x.1 ≤ o.length ∧ x.2.2.length = o.length ∧ posW x.2.2 ∧ 0 ≤ x.2.1 ∧ x.2.1 ≤ 1048576 ∧ takI A x.2.1 x.2.2 x.1 = (k, D)) (fun x => o.length - x.1) (0, n, C) ⟨by simp, hC, pC, by simp only; omega, by simp only; omega, by simp [takI, hT]⟩ ?_ ?_
        · refine weak_of 2 0 rfl rfl ?_ ?_ <;> simp [wd_refs, sw_refs]
        clear hT hC pC hCl
        rintro ⟨i, need, X⟩ ⟨hi, hX, pX, hn0, hn1, hT⟩
        simp only at hi hX pX hn0 hn1 hT
        by_cases hh : i < o.length
        · have w3 : wrapI .i64 ((i : Int) + 1) = ((i + 1 : Nat) : Int) := by rw [wrap_in (by omega) (by omega)]; omega
          have hiX : i < X.length := by omega
          obtain ⟨⟨B, b⟩, hv⟩ : ∃ x, X[i] = x := ⟨_, rfl⟩
          have hpB := pX X[i] (by simp)
          rw [hv] at hpB
          simp only at hpB
          have hXl : (rowsOf wdC X).length = o.length := by rw [rowsOf_length, hX]
          have hrow : (rowsOf wdC X)[i]? = some [.rs (rowsOf strC B), .int .i64 b] := by rw [rowsOf_get, List.getElem?_eq_getElem hiX, hv]; rfl
          have hnx : ∀ p : Prop, p → True := fun _ _ => trivial
          by_cases d1 : m ≤ B.length
          rotate_left
          · have d1' : ¬ (m : Int) ≤ B.length := by omega
            have hp : ¬ pre A X[i].acts := fun q => by have := pre_len q; rw [hv] at this; simp only at this; omega
            rw [takI_no hiX hp] at hT
            ((try simp -implicitDefEqProofs [-loopQ_n, h, hh, hx, hv, hiX, hX, wdC, d1, d1', w3]) <;> (repeat' (first | (refine condD_dec ?_ ?_ <;> (intro hc; (try simp -implicitDefEqProofs [-loopQ_n, hc, h, hh, hx, hv, hiX, hX, wdC, d1, d1', w3]))) | (refine guardD_dec ?_ ?_ <;> (intro hc; (try simp -implicitDefEqProofs [-loopQ_n, hc, h, hh, hx, hv, hiX, hX, wdC, d1, d1', w3]))) | (refine condD_intro ?_ ?_ <;> (intro hd; have hc := hd; (try simp at hc) <;> (try simp -implicitDefEqProofs [-loopQ_n, hd, hc, h, hh, hx, hv, hiX, hX, wdC, d1, d1', w3]))) | (refine guardD_intro ?_ ?_ <;> (intro hd; have hc := hd; (try simp at hc) <;> (try simp -implicitDefEqProofs [-loopQ_n, hd, hc, h, hh, hx, hv, hiX, hX, wdC, d1, d1', w3]))) | (refine ldD_ep ?_ ?_; (focus kernel_rfl); (try simp -implicitDefEqProofs [-loopQ_n, h, hh, hx, hv, hiX, hX, wdC, d1, d1', w3])))))
            refine loop_next (i + 1, need, X) ⟨by simp only; omega, hX, pX, hn0, hn1, hT⟩ (by simp only; omega) (weak_of 2 0 rfl rfl ?_ ?_) <;> simp [wd_refs, sw_refs, w3]
          have d1' : (m : Int) ≤ B.length := by omega
          have e1 : (rowsOf strC B).take m = rowsOf strC (B.take m) := rowsOf_take
          have hQ := eqS_pure (B.take m) A (by simp; omega) (by omega)
          by_cases d2 : B.take m = A
          · have hp : pre A X[i].acts := by rw [hv]; unfold pre; rw [c]; exact d2
            rw [takI_yes hiX hp, hv] at hT
            simp only at hT
            obtain ⟨t, ht, ht1, ht2⟩ : ∃ t, min need b = t ∧ (need ≤ b → t = need) ∧ (b ≤ need → t = b) := ⟨_, rfl, Int.min_eq_left, Int.min_eq_right⟩
            rw [ht] at hT
            have hmin : (if b < need then b else need) = t := by split <;> omega
            have w4 : wrapI .i64 (need - t) = need - t := wrap_in (by omega) (by omega)
            have w5 : wrapI .i64 (b - t) = b - t := wrap_in (by omega) (by omega)
            have hset : (rowsOf wdC X).set i [.rs (rowsOf strC B), .int .i64 (b - t)] = rowsOf wdC (X.set i ⟨B, b - t⟩) := by rw [← rowsOf_set]; rfl
            rw [decide_eq_true d2] at hQ
            ((try simp -implicitDefEqProofs [-loopQ_n, h, hh, hx, hv, hiX, hX, wdC, d1, d1', w3, w4, w5, hmin, e1, hset]) <;> (repeat' (first | (refine condD_dec ?_ ?_ <;> (intro hc; (try simp -implicitDefEqProofs [-loopQ_n, hc, h, hh, hx, hv, hiX, hX, wdC, d1, d1', w3, w4, w5, hmin, e1, hset]))) | (refine guardD_dec ?_ ?_ <;> (intro hc; (try simp -implicitDefEqProofs [-loopQ_n, hc, h, hh, hx, hv, hiX, hX, wdC, d1, d1', w3, w4, w5, hmin, e1, hset]))) | (refine condD_intro ?_ ?_ <;> (intro hd; have hc := hd; (try simp at hc) <;> (try simp -implicitDefEqProofs [-loopQ_n, hd, hc, h, hh, hx, hv, hiX, hX, wdC, d1, d1', w3, w4, w5, hmin, e1, hset]))) | (refine guardD_intro ?_ ?_ <;> (intro hd; have hc := hd; (try simp at hc) <;> (try simp -implicitDefEqProofs [-loopQ_n, hd, hc, h, hh, hx, hv, hiX, hX, wdC, d1, d1', w3, w4, w5, hmin, e1, hset]))) | (refine ldD_ep ?_ ?_; (focus kernel_rfl); (try simp -implicitDefEqProofs [-loopQ_n, h, hh, hx, hv, hiX, hX, wdC, d1, d1', w3, w4, w5, hmin, e1, hset])) | (refine callS_mk ?_; (try simp -implicitDefEqProofs [-loopQ_n, h, hh, hx, hv, hiX, hX, wdC, d1, d1', w3, w4, w5, hmin, e1, hset]); (first | refine callS_intro (hQ) (.inl rfl) ?_); (try simp -implicitDefEqProofs [-loopQ_n, h, hh, hx, hv, hiX, hX, wdC, d1, d1', w3, w4, w5, hmin, e1, hset])))))
            refine loop_next (i + 1, need - t, X.set i ⟨B, b - t⟩) ⟨by simp only; omega, by simpa using hX, posW_set pX (by simp only; omega), by simp only; omega, by simp only; omega, hT⟩ (by simp only; omega) (weak_of 2 0 rfl rfl ?_ ?_) <;> simp [wd_refs, sw_refs, w3, w4, w5, hmin, hset]
          · have hp : ¬ pre A X[i].acts := fun q => d2 (by rw [hv] at q; unfold pre at q; rw [c] at q; exact q)
            rw [takI_no hiX hp] at hT
            rw [decide_eq_false d2] at hQ
            ((try simp -implicitDefEqProofs [-loopQ_n, h, hh, hx, hv, hiX, hX, wdC, d1, d1', w3, e1]) <;> (repeat' (first | (refine condD_dec ?_ ?_ <;> (intro hc; (try simp -implicitDefEqProofs [-loopQ_n, hc, h, hh, hx, hv, hiX, hX, wdC, d1, d1', w3, e1]))) | (refine guardD_dec ?_ ?_ <;> (intro hc; (try simp -implicitDefEqProofs [-loopQ_n, hc, h, hh, hx, hv, hiX, hX, wdC, d1, d1', w3, e1]))) | (refine condD_intro ?_ ?_ <;> (intro hd; have hc := hd; (try simp at hc) <;> (try simp -implicitDefEqProofs [-loopQ_n, hd, hc, h, hh, hx, hv, hiX, hX, wdC, d1, d1', w3, e1]))) | (refine guardD_intro ?_ ?_ <;> (intro hd; have hc := hd; (try simp at hc) <;> (try simp -implicitDefEqProofs [-loopQ_n, hd, hc, h, hh, hx, hv, hiX, hX, wdC, d1, d1', w3, e1]))) | (refine ldD_ep ?_ ?_; (focus kernel_rfl); (try simp -implicitDefEqProofs [-loopQ_n, h, hh, hx, hv, hiX, hX, wdC, d1, d1', w3, e1])) | (refine callS_mk ?_; (try simp -implicitDefEqProofs [-loopQ_n, h, hh, hx, hv, hiX, hX, wdC, d1, d1', w3, e1]); (first | refine callS_intro (hQ) (.inl rfl) ?_); (try simp -implicitDefEqProofs [-loopQ_n, h, hh, hx, hv, hiX, hX, wdC, d1, d1', w3, e1])))))
            refine loop_next (i + 1, need, X) ⟨by simp only; omega, hX, pX, hn0, hn1, hT⟩ (by simp only; omega) (weak_of 2 0 rfl rfl ?_ ?_) <;> simp [wd_refs, sw_refs, w3]
        · obtain rfl : i = X.length := by omega
          rw [takI_end] at hT
          cases hT
          by_cases g : 0 < k
          · rw [if_pos g] at hO
            subst hO
            simp only [endO] at hE
            subst hE
            ((try simp -implicitDefEqProofs [-loopQ_n, hh, g]) <;> (repeat' (first | (refine condD_dec ?_ ?_ <;> (intro hc; (try simp -implicitDefEqProofs [-loopQ_n, hc, hh, g]))) | (refine guardD_dec ?_ ?_ <;> (intro hc; (try simp -implicitDefEqProofs [-loopQ_n, hc, hh, g]))) | (refine condD_intro ?_ ?_ <;> (intro hd; have hc := hd; (try simp at hc) <;> (try simp -implicitDefEqProofs [-loopQ_n, hd, hc, hh, g]))) | (refine guardD_intro ?_ ?_ <;> (intro hd; have hc := hd; (try simp at hc) <;> (try simp -implicitDefEqProofs [-loopQ_n, hd, hc, hh, g]))) | (refine ldD_ep ?_ ?_; (focus kernel_rfl); (try simp -implicitDefEqProofs [-loopQ_n, hh, g])))))
          · rw [if_neg g] at hO
            ((try simp -implicitDefEqProofs [-loopQ_n, hh, g, w1]) <;> (repeat' (first | (refine condD_dec ?_ ?_ <;> (intro hc; (try simp -implicitDefEqProofs [-loopQ_n, hc, hh, g, w1]))) | (refine guardD_dec ?_ ?_ <;> (intro hc; (try simp -implicitDefEqProofs [-loopQ_n, hc, hh, g, w1]))) | (refine condD_intro ?_ ?_ <;> (intro hd; have hc := hd; (try simp at hc) <;> (try simp -implicitDefEqProofs [-loopQ_n, hd, hc, hh, g, w1]))) | (refine guardD_intro ?_ ?_ <;> (intro hd; have hc := hd; (try simp at hc) <;> (try simp -implicitDefEqProofs [-loopQ_n, hd, hc, hh, g, w1]))) | (refine ldD_ep ?_ ?_; (focus kernel_rfl); (try simp -implicitDefEqProofs [-loopQ_n, hh, g, w1])))))
            refine loop_next (j + 1, D) ⟨by simp only; omega, hX, pX, hO⟩ (by simp only; omega) (weak_of 1 0 rfl rfl ?_ ?_) <;> simp [wd_refs, w1]
      · rw [if_neg c] at hO
        have c' : ¬ (A.length : Int) = m := by omega
        ((try simp -implicitDefEqProofs [-loopQ_n, h, hx, c, c', wdC, w1]) <;> (repeat' (first | (refine condD_dec ?_ ?_ <;> (intro hc; (try simp -implicitDefEqProofs [-loopQ_n, hc, h, hx, c, c', wdC, w1]))) | (refine guardD_dec ?_ ?_ <;> (intro hc; (try simp -implicitDefEqProofs [-loopQ_n, hc, h, hx, c, c', wdC, w1]))) | (refine condD_intro ?_ ?_ <;> (intro hd; have hc := hd; (try simp at hc) <;> (try simp -implicitDefEqProofs [-loopQ_n, hd, hc, h, hx, c, c', wdC, w1]))) | (refine guardD_intro ?_ ?_ <;> (intro hd; have hc := hd; (try simp at hc) <;> (try simp -implicitDefEqProofs [-loopQ_n, hd, hc, h, hx, c, c', wdC, w1]))) | (refine ldD_ep ?_ ?_; (focus kernel_rfl); (try simp -implicitDefEqProofs [-loopQ_n, h, hx, c, c', wdC, w1])))))
        refine loop_next (j + 1, C) ⟨by simp only; omega, hC, pC, hO⟩ (by simp only; omega) (weak_of 1 0 rfl rfl ?_ ?_) <;> simp [wd_refs, w1]
    · unfold lvlI at hO
      rw [List.drop_eq_nil_of_le (by omega), lvl] at hO
      subst hO
      simp only [endO] at hE
      ((try simp -implicitDefEqProofs [-loopQ_n, h, w2]) <;> (repeat' (first | (refine condD_dec ?_ ?_ <;> (intro hc; (try simp -implicitDefEqProofs [-loopQ_n, hc, h, w2]))) | (refine guardD_dec ?_ ?_ <;> (intro hc; (try simp -implicitDefEqProofs [-loopQ_n, hc, h, w2]))) | (refine condD_intro ?_ ?_ <;> (intro hd; have hc := hd; (try simp at hc) <;> (try simp -implicitDefEqProofs [-loopQ_n, hd, hc, h, w2]))) | (refine guardD_intro ?_ ?_ <;> (intro hd; have hc := hd; (try simp at hc) <;> (try simp -implicitDefEqProofs [-loopQ_n, hd, hc, h, w2]))) | (refine ldD_ep ?_ ?_; (focus kernel_rfl); (try simp -implicitDefEqProofs [-loopQ_n, h, w2])))))
      refine loop_next (m, C) ⟨by simp only; omega, hC, pC, hE⟩ (by simp only; omega) (weak_of 1 0 rfl rfl ?_ ?_) <;> simp [wd_refs, w2]
end Go.Proofs.Ytkppfaennogcmaa
