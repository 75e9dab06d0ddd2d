/- Publications: large ones, valid ones, such as keep k (program and reference). -/
import Derived.Test.YtkppfaennogcmaaPrvD
import Derived.Test.YtkppfaennogcmaaStrN
import Derived.Test.YtkppfaennogcmaaM6
namespace Go.Proofs.Ytkppfaennogcmaa
set_option linter.unusedSimpArgs false
set_option linter.unusedVariables false
set_option linter.unnecessarySimpa false
set_option linter.unusedSectionVars false
open Go.RowKit
variable [Glob]
set_option maxRecDepth 100000
theorem strF_idx {p : ByteArray → Bool} {l : List ByteArray} {g : Nat} {caps : List AV} (hp : ∀ x ∈ l, Pure Try.prog g (.str x :: caps) (.bool (p x))) (hc : ∀ H k, caps.mapM (reify H (k + 5)) = some caps) (hf : refsL 0 caps = true) (hl : l.length ≤ 9223372036854775807) :
    Pure Try.prog 97 [.rs (rowsOf strC l), .fn g caps] (.int .i64 (idxOf p l)) := by
  refine pure_of mixed Try.func97 rfl (by kernel_rfl) (of_decide_eq_true rfl) (by kernel_rfl) (vc_run ?_)
  simp -implicitDefEqProofs
  refine loop_intro (σ := Nat) (fun i => ⟨[(0, .rs (rowsOf strC l)), (1, .fn g caps), (7, .int .i64 l.length), (8, .int .i64 i)], []⟩) (fun i => i ≤ l.length ∧ allF p (l.take i)) (fun i => l.length - i) 0 ⟨Nat.zero_le _, allF_nil⟩ ?_ ?_
  · refine weak_of 0 0 rfl rfl ?_ ?_ <;> simp [hf]
  · rintro i ⟨hi, hall⟩
    by_cases h : i < l.length
    · simp -implicitDefEqProofs [h, strC]
      have hc8 : ∀ H, caps.mapM (reify H 8) = some caps := fun H => hc H 3
      refine call_intro (hp l[i] (by simp)) (by simp -implicitDefEqProofs [hc8, strC]) (.inl rfl) ?_
      by_cases hpx : p l[i] = true
      · simp -implicitDefEqProofs [hpx]
        exact (idxOf_some p l i h hall hpx).symm
      · have hpx : p l[i] = false := by simpa using hpx
        simp -implicitDefEqProofs [hpx]
        refine ⟨i + 1, ⟨by omega, allF_succ hall h hpx⟩, by omega, weak_of 0 0 rfl rfl ?_ ?_⟩
        · simp [hf]
          exact (wrap_in (by omega) (by omega)).symm
        · simp
    · simp -implicitDefEqProofs [h]
      rw [idxOf_none p l (allF_all hall h)]
theorem strF_any {p : ByteArray → Bool} {l : List ByteArray} {g : Nat} {caps : List AV} (hp : ∀ x ∈ l, Pure Try.prog g (.str x :: caps) (.bool (p x))) (hc : ∀ H k, caps.mapM (reify H (k + 5)) = some caps) (hf : refsL 0 caps = true) (hl : l.length ≤ 9223372036854775807) :
    Pure Try.prog 73 [.rs (rowsOf strC l), .fn g caps] (.bool (l.any p)) := by
  refine pure_of mixed Try.func73 rfl (by kernel_rfl) (of_decide_eq_true rfl) (by kernel_rfl) (vc_run ?_)
  simp -implicitDefEqProofs
  have hc7 : ∀ H, caps.mapM (reify H 7) = some caps := fun H => hc H 2
  refine call_intro (strF_idx hp hc hf hl) (by simp -implicitDefEqProofs [hc7]) (.inl rfl) ?_
  simp -implicitDefEqProofs
  rw [← ge_idxOf]

theorem pubF_idx {p : Wd → Bool} {l : List Wd} {g : Nat} {caps : List AV} (hp : ∀ x ∈ l, Pure Try.prog g (.agg (wdC x) :: caps) (.bool (p x))) (hc : ∀ H k, caps.mapM (reify H (k + 5)) = some caps) (hf : refsL 0 caps = true) (hl : l.length ≤ 9223372036854775807) :
    Pure Try.prog 63 [.rs (rowsOf wdC l), .fn g caps] (.int .i64 (idxOf p l)) := by
  refine pure_of mixed Try.func63 rfl (by kernel_rfl) (of_decide_eq_true rfl) (by kernel_rfl) (vc_run ?_)
  simp -implicitDefEqProofs
  refine loop_intro (σ := Nat) (fun i => ⟨[(0, .rs (rowsOf wdC l)), (1, .fn g caps), (7, .int .i64 l.length), (8, .int .i64 i)], []⟩) (fun i => i ≤ l.length ∧ allF p (l.take i)) (fun i => l.length - i) 0 ⟨Nat.zero_le _, allF_nil⟩ ?_ ?_
  · refine weak_of 0 0 rfl rfl ?_ ?_ <;> simp [hf]
  · rintro i ⟨hi, hall⟩
    by_cases h : i < l.length
    · simp -implicitDefEqProofs [h, wdC]
      have hc8 : ∀ H, caps.mapM (reify H 8) = some caps := fun H => hc H 3
      refine call_intro (hp l[i] (by simp)) (by simp -implicitDefEqProofs [hc8, wdC]) (.inl rfl) ?_
      by_cases hpx : p l[i] = true
      · simp -implicitDefEqProofs [hpx]
        exact (idxOf_some p l i h hall hpx).symm
      · have hpx : p l[i] = false := by simpa using hpx
        simp -implicitDefEqProofs [hpx]
        refine ⟨i + 1, ⟨by omega, allF_succ hall h hpx⟩, by omega, weak_of 0 0 rfl rfl ?_ ?_⟩
        · simp [hf]
          exact (wrap_in (by omega) (by omega)).symm
        · simp
    · simp -implicitDefEqProofs [h]
      rw [idxOf_none p l (allF_all hall h)]
theorem pubF_any {p : Wd → Bool} {l : List Wd} {g : Nat} {caps : List AV} (hp : ∀ x ∈ l, Pure Try.prog g (.agg (wdC x) :: caps) (.bool (p x))) (hc : ∀ H k, caps.mapM (reify H (k + 5)) = some caps) (hf : refsL 0 caps = true) (hl : l.length ≤ 9223372036854775807) :
    Pure Try.prog 25 [.rs (rowsOf wdC l), .fn g caps] (.bool (l.any p)) := by
  refine pure_of mixed Try.func25 rfl (by kernel_rfl) (of_decide_eq_true rfl) (by kernel_rfl) (vc_run ?_)
  simp -implicitDefEqProofs
  have hc7 : ∀ H, caps.mapM (reify H 7) = some caps := fun H => hc H 2
  refine call_intro (pubF_idx hp hc hf hl) (by simp -implicitDefEqProofs [hc7]) (.inl rfl) ?_
  simp -implicitDefEqProofs
  rw [← ge_idxOf]

theorem wd_refs {m : Nat} {l : List Wd} : refsR m (rowsOf wdC l) = true := rowsOf_refs fun x => by simp [wdC, refs, sw_refs]
theorem wd_reify {H : List Blk} {n : Nat} {l : List Wd} : (rowsOf wdC l).mapM (fun row => row.mapM (reify H (n + 2))) = some (rowsOf wdC l) := rowsOf_reify fun x => by simp [wdC, reify, sw_reify]
theorem wide1_pure (s : ByteArray) : Pure Try.prog 85 [.str s] (.bool (decide (100 < s.size))) := by
  refine pure_of mixed Try.func85 rfl (by kernel_rfl) (of_decide_eq_true rfl) (by kernel_rfl) (vc_run ?_)
  ((try simp -implicitDefEqProofs [-loopQ_n]) <;> (repeat' (first | (refine condD_dec ?_ ?_ <;> (intro hc; (try simp -implicitDefEqProofs [-loopQ_n, hc]))) | (refine guardD_dec ?_ ?_ <;> (intro hc; (try simp -implicitDefEqProofs [-loopQ_n, hc]))) | (refine condD_intro ?_ ?_ <;> (intro hd; have hc := hd; (try simp at hc) <;> (try simp -implicitDefEqProofs [-loopQ_n, hd, hc]))) | (refine guardD_intro ?_ ?_ <;> (intro hd; have hc := hd; (try simp at hc) <;> (try simp -implicitDefEqProofs [-loopQ_n, hd, hc]))) | (refine ldD_ep ?_ ?_; (focus kernel_rfl); (try simp -implicitDefEqProofs [-loopQ_n])))))
  omega
def wideB (w : List ByteArray) : Bool := if 60 < w.length ∧ w.length ≤ 200 then true else if 220 < w.length then true else w.any fun s => decide (100 < s.size)
theorem wide_pure (w : List ByteArray) (hw : w.length ≤ 9223372036854775807) : Pure Try.prog 45 [.rs (rowsOf strC w)] (.bool (wideB w)) := by
  have hA := strF_any (p := fun s => decide (100 < s.size)) (l := w) (g := 85) (caps := []) (fun x _ => wide1_pure x) (fun H k => rfl) rfl hw
  unfold wideB
  by_cases h1 : 60 < w.length ∧ w.length ≤ 200
  · rw [if_pos h1]
    obtain ⟨h1, h2⟩ := h1
    have h1' : (60 : Int) < w.length := by omega
    have h2' : (w.length : Int) ≤ 200 := by omega
    refine pure_of mixed Try.func45 rfl (by kernel_rfl) (of_decide_eq_true rfl) (by kernel_rfl) (vc_run ?_)
    ((try simp -implicitDefEqProofs [-loopQ_n, h1, h2, h1', h2']) <;> (repeat' (first | (refine condD_dec ?_ ?_ <;> (intro hc; (try simp -implicitDefEqProofs [-loopQ_n, hc, h1, h2, h1', h2']))) | (refine guardD_dec ?_ ?_ <;> (intro hc; (try simp -implicitDefEqProofs [-loopQ_n, hc, h1, h2, h1', h2']))) | (refine condD_intro ?_ ?_ <;> (intro hd; have hc := hd; (try simp at hc) <;> (try simp -implicitDefEqProofs [-loopQ_n, hd, hc, h1, h2, h1', h2']))) | (refine guardD_intro ?_ ?_ <;> (intro hd; have hc := hd; (try simp at hc) <;> (try simp -implicitDefEqProofs [-loopQ_n, hd, hc, h1, h2, h1', h2']))) | (refine ldD_ep ?_ ?_; (focus kernel_rfl); (try simp -implicitDefEqProofs [-loopQ_n, h1, h2, h1', h2'])))))
  rw [if_neg h1]
  by_cases h2 : 220 < w.length
  · rw [if_pos h2]
    have h1' : (60 : Int) < w.length := by omega
    have h2' : ¬ (w.length : Int) ≤ 200 := by omega
    have h3' : (220 : Int) < w.length := by omega
    refine pure_of mixed Try.func45 rfl (by kernel_rfl) (of_decide_eq_true rfl) (by kernel_rfl) (vc_run ?_)
    ((try simp -implicitDefEqProofs [-loopQ_n, h2, h1', h2', h3']) <;> (repeat' (first | (refine condD_dec ?_ ?_ <;> (intro hc; (try simp -implicitDefEqProofs [-loopQ_n, hc, h2, h1', h2', h3']))) | (refine guardD_dec ?_ ?_ <;> (intro hc; (try simp -implicitDefEqProofs [-loopQ_n, hc, h2, h1', h2', h3']))) | (refine condD_intro ?_ ?_ <;> (intro hd; have hc := hd; (try simp at hc) <;> (try simp -implicitDefEqProofs [-loopQ_n, hd, hc, h2, h1', h2', h3']))) | (refine guardD_intro ?_ ?_ <;> (intro hd; have hc := hd; (try simp at hc) <;> (try simp -implicitDefEqProofs [-loopQ_n, hd, hc, h2, h1', h2', h3']))) | (refine ldD_ep ?_ ?_; (focus kernel_rfl); (try simp -implicitDefEqProofs [-loopQ_n, h2, h1', h2', h3'])))))
  rw [if_neg h2]
  have h3' : ¬ (220 : Int) < w.length := by omega
  by_cases h4 : 60 < w.length
  · have h1' : (60 : Int) < w.length := by omega
    have h2' : ¬ (w.length : Int) ≤ 200 := by omega
    refine pure_of mixed Try.func45 rfl (by kernel_rfl) (of_decide_eq_true rfl) (by kernel_rfl) (vc_run ?_)
    ((try simp -implicitDefEqProofs [-loopQ_n, h1', h2', h3']) <;> (repeat' (first | (refine condD_dec ?_ ?_ <;> (intro hc; (try simp -implicitDefEqProofs [-loopQ_n, hc, h1', h2', h3']))) | (refine guardD_dec ?_ ?_ <;> (intro hc; (try simp -implicitDefEqProofs [-loopQ_n, hc, h1', h2', h3']))) | (refine condD_intro ?_ ?_ <;> (intro hd; have hc := hd; (try simp at hc) <;> (try simp -implicitDefEqProofs [-loopQ_n, hd, hc, h1', h2', h3']))) | (refine guardD_intro ?_ ?_ <;> (intro hd; have hc := hd; (try simp at hc) <;> (try simp -implicitDefEqProofs [-loopQ_n, hd, hc, h1', h2', h3']))) | (refine ldD_ep ?_ ?_; (focus kernel_rfl); (try simp -implicitDefEqProofs [-loopQ_n, h1', h2', h3'])) | (refine callS_mk ?_; (try simp -implicitDefEqProofs [-loopQ_n, h1', h2', h3']); (first | refine callS_intro (hA) (.inl rfl) ?_); (try simp -implicitDefEqProofs [-loopQ_n, h1', h2', h3'])))))
  · have h1' : ¬ (60 : Int) < w.length := by omega
    refine pure_of mixed Try.func45 rfl (by kernel_rfl) (of_decide_eq_true rfl) (by kernel_rfl) (vc_run ?_)
    ((try simp -implicitDefEqProofs [-loopQ_n, h1', h3']) <;> (repeat' (first | (refine condD_dec ?_ ?_ <;> (intro hc; (try simp -implicitDefEqProofs [-loopQ_n, hc, h1', h3']))) | (refine guardD_dec ?_ ?_ <;> (intro hc; (try simp -implicitDefEqProofs [-loopQ_n, hc, h1', h3']))) | (refine condD_intro ?_ ?_ <;> (intro hd; have hc := hd; (try simp at hc) <;> (try simp -implicitDefEqProofs [-loopQ_n, hd, hc, h1', h3']))) | (refine guardD_intro ?_ ?_ <;> (intro hd; have hc := hd; (try simp at hc) <;> (try simp -implicitDefEqProofs [-loopQ_n, hd, hc, h1', h3']))) | (refine ldD_ep ?_ ?_; (focus kernel_rfl); (try simp -implicitDefEqProofs [-loopQ_n, h1', h3'])) | (refine callS_mk ?_; (try simp -implicitDefEqProofs [-loopQ_n, h1', h3']); (first | refine callS_intro (hA) (.inl rfl) ?_); (try simp -implicitDefEqProofs [-loopQ_n, h1', h3'])))))
theorem large1_pure (v : Wd) (hv : v.acts.length ≤ 9223372036854775807) : Pure Try.prog 46 [.agg (wdC v)] (.bool (wideB v.acts)) := by
  unfold wdC
  refine pure_of mixed Try.func46 rfl (by kernel_rfl) (of_decide_eq_true rfl) (by kernel_rfl) (vc_run ?_)
  ((try simp -implicitDefEqProofs [-loopQ_n]) <;> (repeat' (first | (refine condD_dec ?_ ?_ <;> (intro hc; (try simp -implicitDefEqProofs [-loopQ_n, hc]))) | (refine guardD_dec ?_ ?_ <;> (intro hc; (try simp -implicitDefEqProofs [-loopQ_n, hc]))) | (refine condD_intro ?_ ?_ <;> (intro hd; have hc := hd; (try simp at hc) <;> (try simp -implicitDefEqProofs [-loopQ_n, hd, hc]))) | (refine guardD_intro ?_ ?_ <;> (intro hd; have hc := hd; (try simp at hc) <;> (try simp -implicitDefEqProofs [-loopQ_n, hd, hc]))) | (refine ldD_ep ?_ ?_; (focus kernel_rfl); (try simp -implicitDefEqProofs [-loopQ_n])) | (refine callS_mk ?_; (try simp -implicitDefEqProofs [-loopQ_n]); (first | refine callS_intro (wide_pure v.acts hv) (.inl rfl) ?_); (try simp -implicitDefEqProofs [-loopQ_n])))))
def largeB (l : List Wd) : Bool := if 40 < l.length then true else l.any fun v => wideB v.acts
theorem large_pure (l : List Wd) (hl : l.length ≤ 9223372036854775807) (hw : ∀ v ∈ l, wdI v) : Pure Try.prog 14 [.rs (rowsOf wdC l)] (.bool (largeB l)) := by
  have hA := pubF_any (p := fun v => wideB v.acts) (l := l) (g := 46) (caps := []) (fun x hx => large1_pure x (hw x hx).2.1) (fun H k => rfl) rfl hl
  unfold largeB
  by_cases h : 40 < l.length
  · have h' : (40 : Int) < l.length := by omega
    rw [if_pos h]
    refine pure_of mixed Try.func14 rfl (by kernel_rfl) (of_decide_eq_true rfl) (by kernel_rfl) (vc_run ?_)
    ((try simp -implicitDefEqProofs [-loopQ_n, h, h']) <;> (repeat' (first | (refine condD_dec ?_ ?_ <;> (intro hc; (try simp -implicitDefEqProofs [-loopQ_n, hc, h, h']))) | (refine guardD_dec ?_ ?_ <;> (intro hc; (try simp -implicitDefEqProofs [-loopQ_n, hc, h, h']))) | (refine condD_intro ?_ ?_ <;> (intro hd; have hc := hd; (try simp at hc) <;> (try simp -implicitDefEqProofs [-loopQ_n, hd, hc, h, h']))) | (refine guardD_intro ?_ ?_ <;> (intro hd; have hc := hd; (try simp at hc) <;> (try simp -implicitDefEqProofs [-loopQ_n, hd, hc, h, h']))) | (refine ldD_ep ?_ ?_; (focus kernel_rfl); (try simp -implicitDefEqProofs [-loopQ_n, h, h'])))))
  · have h' : ¬ (40 : Int) < l.length := by omega
    rw [if_neg h]
    refine pure_of mixed Try.func14 rfl (by kernel_rfl) (of_decide_eq_true rfl) (by kernel_rfl) (vc_run ?_)
    ((try simp -implicitDefEqProofs [-loopQ_n, h, h']) <;> (repeat' (first | (refine condD_dec ?_ ?_ <;> (intro hc; (try simp -implicitDefEqProofs [-loopQ_n, hc, h, h']))) | (refine guardD_dec ?_ ?_ <;> (intro hc; (try simp -implicitDefEqProofs [-loopQ_n, hc, h, h']))) | (refine condD_intro ?_ ?_ <;> (intro hd; have hc := hd; (try simp at hc) <;> (try simp -implicitDefEqProofs [-loopQ_n, hd, hc, h, h']))) | (refine guardD_intro ?_ ?_ <;> (intro hd; have hc := hd; (try simp at hc) <;> (try simp -implicitDefEqProofs [-loopQ_n, hd, hc, h, h']))) | (refine ldD_ep ?_ ?_; (focus kernel_rfl); (try simp -implicitDefEqProofs [-loopQ_n, h, h'])) | (refine callS_mk ?_; (try simp -implicitDefEqProofs [-loopQ_n, h, h']); (first | refine callS_intro (hA) (.inl rfl) ?_); (try simp -implicitDefEqProofs [-loopQ_n, h, h'])))))
/-! Valid ones. -/
def wat (l : List Wd) (i : Nat) : Wd := l.getD i ⟨[], 0⟩
theorem wat_get {l : List Wd} {i : Nat} (h : i < l.length) : wat l i = l[i] := by simp [wat, h]
def badW (l : List Wd) (i : Nat) : Bool := decide (200 < (wat l i).acts.length) || decide ((wat l i).n < 1) || decide (1048576 < (wat l i).n) || !namesL (wat l i).acts || (decide (0 < i) && decide (0 ≤ cmpL (wat l (i - 1)).acts (wat l i).acts))
def validW (l : List Wd) : Bool := (List.range l.length).all fun i => !badW l i
theorem validW_of {l : List Wd} (h : ∀ j, j < l.length → badW l j = false) : validW l = true := by
  unfold validW
  rw [List.all_eq_true]
  intro j hj
  simp [h j (by simpa using hj)]
theorem validW_no {l : List Wd} {i : Nat} (hi : i < l.length) (h : badW l i = true) : validW l = false := by
  cases ht : validW l with
  | false => rfl
  | true =>
    have := (List.all_eq_true.1 ht) i (by simpa using hi)
    simp [h] at this
theorem right1_pure (s : ByteArray) : Pure Try.prog 86 [.str s] (.bool (!isNameS s)) := by
  refine pure_of mixed Try.func86 rfl (by kernel_rfl) (of_decide_eq_true rfl) (by kernel_rfl) (vc_run ?_)
  ((try simp -implicitDefEqProofs [-loopQ_n]) <;> (repeat' (first | (refine condD_dec ?_ ?_ <;> (intro hc; (try simp -implicitDefEqProofs [-loopQ_n, hc]))) | (refine guardD_dec ?_ ?_ <;> (intro hc; (try simp -implicitDefEqProofs [-loopQ_n, hc]))) | (refine condD_intro ?_ ?_ <;> (intro hd; have hc := hd; (try simp at hc) <;> (try simp -implicitDefEqProofs [-loopQ_n, hd, hc]))) | (refine guardD_intro ?_ ?_ <;> (intro hd; have hc := hd; (try simp at hc) <;> (try simp -implicitDefEqProofs [-loopQ_n, hd, hc]))) | (refine ldD_ep ?_ ?_; (focus kernel_rfl); (try simp -implicitDefEqProofs [-loopQ_n])) | (refine callS_mk ?_; (try simp -implicitDefEqProofs [-loopQ_n]); (first | refine callS_intro (isName_pure s) (.inl rfl) ?_); (try simp -implicitDefEqProofs [-loopQ_n])))))
set_option maxHeartbeats 16000000 in
theorem right_pure (l : List Wd) (hl : l.length ≤ 300) (hw : ∀ v ∈ l, wdI v) : Pure Try.prog 47 [.rs (rowsOf wdC l)] (.bool (validW l)) := by
  have hl' : ¬ (300 : Int) < l.length := by omega
  obtain ⟨R, hR⟩ : ∃ R, validW l = R := ⟨_, rfl⟩
  rw [hR]
  refine pure_of mixed Try.func47 rfl (by kernel_rfl) (of_decide_eq_true rfl) (by kernel_rfl) (vc_run ?_)
  ((try simp -implicitDefEqProofs [-loopQ_n, hl']) <;> (repeat' (first | (refine condD_dec ?_ ?_ <;> (intro hc; (try simp -implicitDefEqProofs [-loopQ_n, hc, hl']))) | (refine guardD_dec ?_ ?_ <;> (intro hc; (try simp -implicitDefEqProofs [-loopQ_n, hc, hl']))) | (refine condD_intro ?_ ?_ <;> (intro hd; have hc := hd; (try simp at hc) <;> (try simp -implicitDefEqProofs [-loopQ_n, hd, hc, hl']))) | (refine guardD_intro ?_ ?_ <;> (intro hd; have hc := hd; (try simp at hc) <;> (try simp -implicitDefEqProofs [-loopQ_n, hd, hc, hl']))) | (refine ldD_ep ?_ ?_; (focus kernel_rfl); (try simp -implicitDefEqProofs [-loopQ_n, hl'])))))
  refine loop_intro (σ := Nat) (fun i => ⟨[(0, .rs (rowsOf wdC l)), (8, .rs (rowsOf wdC l)), (9, .int .i64 l.length), (10, .int .i64 i)], []⟩)
    (fun i => i ≤ l.length ∧ ∀ j, j < l.length → j < i → badW l j = false) (fun i => l.length - i) 0 ⟨by simp, fun j _ h => by omega⟩ ?_ ?_
  · refine weak_of 0 0 rfl rfl ?_ ?_ <;> simp
  rintro i ⟨hi, hok⟩
  by_cases h : i < l.length
  · have w1 : wrapI .i64 ((i : Int) + 1) = (i : Int) + 1 := wrap_in (by omega) (by omega)
    obtain ⟨⟨A, n⟩, hx⟩ : ∃ x, l[i] = x := ⟨_, rfl⟩
    have hxl : wat l i = ⟨A, n⟩ := by rw [wat_get h, hx]
    have hA := (hw l[i] (by simp)).2.1
    rw [hx] at hA
    simp only at hA
    have hQ := strF_any (p := fun s => !isNameS s) (l := A) (g := 86) (caps := []) (fun x _ => right1_pure x) (fun H k => rfl) rfl hA
    rw [show (A.any fun s => !isNameS s) = !namesL A by simp [namesL, List.any_eq_not_all_not]] at hQ
    have hno : badW l i = true → R = false := fun hb => by rw [← hR]; exact validW_no h hb
    have hyes : badW l i = false → ∀ j, j < l.length → j < i + 1 → badW l j = false := fun hb j hj hji => by
      by_cases e : j = i
      · subst e; exact hb
      · exact hok j hj (by omega)
    by_cases d1 : 200 < A.length
    · have d1' : (200 : Int) < A.length := by omega
      have := hno (by simp [badW, hxl, d1])
      subst this
      ((try simp -implicitDefEqProofs [-loopQ_n, h, hx, d1, d1', wdC]) <;> (repeat' (first | (refine condD_dec ?_ ?_ <;> (intro hc; (try simp -implicitDefEqProofs [-loopQ_n, hc, h, hx, d1, d1', wdC]))) | (refine guardD_dec ?_ ?_ <;> (intro hc; (try simp -implicitDefEqProofs [-loopQ_n, hc, h, hx, d1, d1', wdC]))) | (refine condD_intro ?_ ?_ <;> (intro hd; have hc := hd; (try simp at hc) <;> (try simp -implicitDefEqProofs [-loopQ_n, hd, hc, h, hx, d1, d1', wdC]))) | (refine guardD_intro ?_ ?_ <;> (intro hd; have hc := hd; (try simp at hc) <;> (try simp -implicitDefEqProofs [-loopQ_n, hd, hc, h, hx, d1, d1', wdC]))) | (refine ldD_ep ?_ ?_; (focus kernel_rfl); (try simp -implicitDefEqProofs [-loopQ_n, h, hx, d1, d1', wdC])))))
    have d1' : ¬ (200 : Int) < A.length := by omega
    by_cases d2 : n < 1
    · have := hno (by simp [badW, hxl, d2])
      subst this
      ((try simp -implicitDefEqProofs [-loopQ_n, h, hx, d1, d1', d2, wdC]) <;> (repeat' (first | (refine condD_dec ?_ ?_ <;> (intro hc; (try simp -implicitDefEqProofs [-loopQ_n, hc, h, hx, d1, d1', d2, wdC]))) | (refine guardD_dec ?_ ?_ <;> (intro hc; (try simp -implicitDefEqProofs [-loopQ_n, hc, h, hx, d1, d1', d2, wdC]))) | (refine condD_intro ?_ ?_ <;> (intro hd; have hc := hd; (try simp at hc) <;> (try simp -implicitDefEqProofs [-loopQ_n, hd, hc, h, hx, d1, d1', d2, wdC]))) | (refine guardD_intro ?_ ?_ <;> (intro hd; have hc := hd; (try simp at hc) <;> (try simp -implicitDefEqProofs [-loopQ_n, hd, hc, h, hx, d1, d1', d2, wdC]))) | (refine ldD_ep ?_ ?_; (focus kernel_rfl); (try simp -implicitDefEqProofs [-loopQ_n, h, hx, d1, d1', d2, wdC])))))
    by_cases d3 : 1048576 < n
    · have := hno (by simp [badW, hxl, d3])
      subst this
      ((try simp -implicitDefEqProofs [-loopQ_n, h, hx, d1, d1', d2, d3, wdC]) <;> (repeat' (first | (refine condD_dec ?_ ?_ <;> (intro hc; (try simp -implicitDefEqProofs [-loopQ_n, hc, h, hx, d1, d1', d2, d3, wdC]))) | (refine guardD_dec ?_ ?_ <;> (intro hc; (try simp -implicitDefEqProofs [-loopQ_n, hc, h, hx, d1, d1', d2, d3, wdC]))) | (refine condD_intro ?_ ?_ <;> (intro hd; have hc := hd; (try simp at hc) <;> (try simp -implicitDefEqProofs [-loopQ_n, hd, hc, h, hx, d1, d1', d2, d3, wdC]))) | (refine guardD_intro ?_ ?_ <;> (intro hd; have hc := hd; (try simp at hc) <;> (try simp -implicitDefEqProofs [-loopQ_n, hd, hc, h, hx, d1, d1', d2, d3, wdC]))) | (refine ldD_ep ?_ ?_; (focus kernel_rfl); (try simp -implicitDefEqProofs [-loopQ_n, h, hx, d1, d1', d2, d3, wdC])))))
    cases d4 : namesL A with
    | false =>
      have := hno (by simp [badW, hxl, d4])
      subst this
      rw [d4] at hQ
      ((try simp -implicitDefEqProofs [-loopQ_n, h, hx, d1, d1', d2, d3, wdC]) <;> (repeat' (first | (refine condD_dec ?_ ?_ <;> (intro hc; (try simp -implicitDefEqProofs [-loopQ_n, hc, h, hx, d1, d1', d2, d3, wdC]))) | (refine guardD_dec ?_ ?_ <;> (intro hc; (try simp -implicitDefEqProofs [-loopQ_n, hc, h, hx, d1, d1', d2, d3, wdC]))) | (refine condD_intro ?_ ?_ <;> (intro hd; have hc := hd; (try simp at hc) <;> (try simp -implicitDefEqProofs [-loopQ_n, hd, hc, h, hx, d1, d1', d2, d3, wdC]))) | (refine guardD_intro ?_ ?_ <;> (intro hd; have hc := hd; (try simp at hc) <;> (try simp -implicitDefEqProofs [-loopQ_n, hd, hc, h, hx, d1, d1', d2, d3, wdC]))) | (refine ldD_ep ?_ ?_; (focus kernel_rfl); (try simp -implicitDefEqProofs [-loopQ_n, h, hx, d1, d1', d2, d3, wdC])) | (refine callS_mk ?_; (try simp -implicitDefEqProofs [-loopQ_n, h, hx, d1, d1', d2, d3, wdC]); (first | refine callS_intro (hQ) (.inl rfl) ?_); (try simp -implicitDefEqProofs [-loopQ_n, h, hx, d1, d1', d2, d3, wdC])))))
    | true =>
      rw [d4] at hQ
      by_cases d5 : i = 0
      · have hb : badW l i = false := by
          unfold badW
          rw [hxl]
          simp [d1, d2, d3, d4, d5]
        have c5 : ¬ (0 : Int) < i := by omega
        have c6 : ¬ 0 < i := by omega
        ((try simp -implicitDefEqProofs [-loopQ_n, h, hx, d1, d1', d2, d3, wdC, c5, c6]) <;> (repeat' (first | (refine condD_dec ?_ ?_ <;> (intro hc; (try simp -implicitDefEqProofs [-loopQ_n, hc, h, hx, d1, d1', d2, d3, wdC, c5, c6]))) | (refine guardD_dec ?_ ?_ <;> (intro hc; (try simp -implicitDefEqProofs [-loopQ_n, hc, h, hx, d1, d1', d2, d3, wdC, c5, c6]))) | (refine condD_intro ?_ ?_ <;> (intro hd; have hc := hd; (try simp at hc) <;> (try simp -implicitDefEqProofs [-loopQ_n, hd, hc, h, hx, d1, d1', d2, d3, wdC, c5, c6]))) | (refine guardD_intro ?_ ?_ <;> (intro hd; have hc := hd; (try simp at hc) <;> (try simp -implicitDefEqProofs [-loopQ_n, hd, hc, h, hx, d1, d1', d2, d3, wdC, c5, c6]))) | (refine ldD_ep ?_ ?_; (focus kernel_rfl); (try simp -implicitDefEqProofs [-loopQ_n, h, hx, d1, d1', d2, d3, wdC, c5, c6])) | (refine callS_mk ?_; (try simp -implicitDefEqProofs [-loopQ_n, h, hx, d1, d1', d2, d3, wdC, c5, c6]); (first | refine callS_intro (hQ) (.inl rfl) ?_); (try simp -implicitDefEqProofs [-loopQ_n, h, hx, d1, d1', d2, d3, wdC, c5, c6])))))
        refine loop_next (i + 1) ⟨by omega, hyes hb⟩ (by omega) (weak_of 0 0 rfl rfl ?_ ?_) <;> simp [w1]
      · obtain ⟨i', hi'⟩ : ∃ i', i = i' + 1 := ⟨i - 1, by omega⟩
        have h' : i' < l.length := by omega
        obtain ⟨⟨B, m⟩, hy⟩ : ∃ y, l[i'] = y := ⟨_, rfl⟩
        have hyl : wat l (i - 1) = ⟨B, m⟩ := by rw [show i - 1 = i' by omega, wat_get h', hy]
        have hB := (hw l[i'] (by simp)).2.1
        rw [hy] at hB
        simp only at hB
        have hC := ncompare_pure B A hB hA
        have c5 : (0 : Int) < i := by omega
        have c6 : 0 < i := by omega
        have w2 : wrapI .i64 ((i : Int) - 1) = (i' : Int) := by rw [wrap_in (by omega) (by omega)]; omega
        obtain ⟨c, hc⟩ : ∃ c, cmpL B A = c := ⟨_, rfl⟩
        rw [hc] at hC
        by_cases d6 : 0 ≤ c
        · have := hno (by simp [badW, hxl, hyl, hc, d6]; omega)
          subst this
          ((try simp -implicitDefEqProofs [-loopQ_n, h, hx, h', hy, d1, d1', d2, d3, wdC, c5, c6, w2, d6]) <;> (repeat' (first | (refine condD_dec ?_ ?_ <;> (intro hc; (try simp -implicitDefEqProofs [-loopQ_n, hc, h, hx, h', hy, d1, d1', d2, d3, wdC, c5, c6, w2, d6]))) | (refine guardD_dec ?_ ?_ <;> (intro hc; (try simp -implicitDefEqProofs [-loopQ_n, hc, h, hx, h', hy, d1, d1', d2, d3, wdC, c5, c6, w2, d6]))) | (refine condD_intro ?_ ?_ <;> (intro hd; have hc := hd; (try simp at hc) <;> (try simp -implicitDefEqProofs [-loopQ_n, hd, hc, h, hx, h', hy, d1, d1', d2, d3, wdC, c5, c6, w2, d6]))) | (refine guardD_intro ?_ ?_ <;> (intro hd; have hc := hd; (try simp at hc) <;> (try simp -implicitDefEqProofs [-loopQ_n, hd, hc, h, hx, h', hy, d1, d1', d2, d3, wdC, c5, c6, w2, d6]))) | (refine ldD_ep ?_ ?_; (focus kernel_rfl); (try simp -implicitDefEqProofs [-loopQ_n, h, hx, h', hy, d1, d1', d2, d3, wdC, c5, c6, w2, d6])) | (refine callS_mk ?_; (try simp -implicitDefEqProofs [-loopQ_n, h, hx, h', hy, d1, d1', d2, d3, wdC, c5, c6, w2, d6]); (first | refine callS_intro (hQ) (.inl rfl) ?_ | refine callS_intro (hC) (.inl rfl) ?_); (try simp -implicitDefEqProofs [-loopQ_n, h, hx, h', hy, d1, d1', d2, d3, wdC, c5, c6, w2, d6])))))
        · have hb : badW l i = false := by
            simp [badW, hxl, hyl, hc, d1, d2, d3, d4]
            omega
          ((try simp -implicitDefEqProofs [-loopQ_n, h, hx, h', hy, d1, d1', d2, d3, wdC, c5, c6, w2, d6]) <;> (repeat' (first | (refine condD_dec ?_ ?_ <;> (intro hc; (try simp -implicitDefEqProofs [-loopQ_n, hc, h, hx, h', hy, d1, d1', d2, d3, wdC, c5, c6, w2, d6]))) | (refine guardD_dec ?_ ?_ <;> (intro hc; (try simp -implicitDefEqProofs [-loopQ_n, hc, h, hx, h', hy, d1, d1', d2, d3, wdC, c5, c6, w2, d6]))) | (refine condD_intro ?_ ?_ <;> (intro hd; have hc := hd; (try simp at hc) <;> (try simp -implicitDefEqProofs [-loopQ_n, hd, hc, h, hx, h', hy, d1, d1', d2, d3, wdC, c5, c6, w2, d6]))) | (refine guardD_intro ?_ ?_ <;> (intro hd; have hc := hd; (try simp at hc) <;> (try simp -implicitDefEqProofs [-loopQ_n, hd, hc, h, hx, h', hy, d1, d1', d2, d3, wdC, c5, c6, w2, d6]))) | (refine ldD_ep ?_ ?_; (focus kernel_rfl); (try simp -implicitDefEqProofs [-loopQ_n, h, hx, h', hy, d1, d1', d2, d3, wdC, c5, c6, w2, d6])) | (refine callS_mk ?_; (try simp -implicitDefEqProofs [-loopQ_n, h, hx, h', hy, d1, d1', d2, d3, wdC, c5, c6, w2, d6]); (first | refine callS_intro (hQ) (.inl rfl) ?_ | refine callS_intro (hC) (.inl rfl) ?_); (try simp -implicitDefEqProofs [-loopQ_n, h, hx, h', hy, d1, d1', d2, d3, wdC, c5, c6, w2, d6])))))
          refine loop_next (i + 1) ⟨by omega, hyes hb⟩ (by omega) (weak_of 0 0 rfl rfl ?_ ?_) <;> simp [w1]
  · have hv : validW l = true := validW_of fun j hj => hok j hj (by omega)
    rw [hR] at hv
    subst hv
    ((try simp -implicitDefEqProofs [-loopQ_n, h]) <;> (repeat' (first | (refine condD_dec ?_ ?_ <;> (intro hc; (try simp -implicitDefEqProofs [-loopQ_n, hc, h]))) | (refine guardD_dec ?_ ?_ <;> (intro hc; (try simp -implicitDefEqProofs [-loopQ_n, hc, h]))) | (refine condD_intro ?_ ?_ <;> (intro hd; have hc := hd; (try simp at hc) <;> (try simp -implicitDefEqProofs [-loopQ_n, hd, hc, h]))) | (refine guardD_intro ?_ ?_ <;> (intro hd; have hc := hd; (try simp at hc) <;> (try simp -implicitDefEqProofs [-loopQ_n, hd, hc, h]))) | (refine ldD_ep ?_ ?_; (focus kernel_rfl); (try simp -implicitDefEqProofs [-loopQ_n, h])))))
end Go.Proofs.Ytkppfaennogcmaa
