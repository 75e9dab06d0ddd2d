/- Variants, events and logs: which are valid, which are the same (program and reference); few strings, few variants. -/
import Derived.Test.YtnldjmokemgaoaaEl3
namespace Go.Proofs.Ytnldjmokemgaoaa
set_option linter.unusedSimpArgs false
set_option linter.unusedVariables false
set_option linter.unnecessarySimpa false
set_option linter.unusedSectionVars false
open Go.RowKit
variable [Glob]
set_option maxRecDepth 100000
theorem tl_iff {x y : ByteArray} : (x.toList = y.toList) = (x = y) := propext ⟨fun h => ba_eq (by rw [ba_toList, ba_toList] at h; exact h), fun h => by rw [h]⟩
theorem nmE_idx {p : ByteArray → Bool} {l : List ByteArray} {g : Nat} {caps : List AV} (hp : ∀ x ∈ l, Pure Try.prog g (.str x :: caps) (.bool (p x))) (hc : ∀ H k, caps.mapM (reify H (k + 5)) = some caps) (hf : refsL 0 caps = true) (hl : l.length ≤ 9223372036854775807) :
    Pure Try.prog 84 [.rs (rowsOf strC l), .fn g caps] (.int .i64 (idxOf p l)) := by
  refine pure_of mixed Try.func84 rfl (by kernel_rfl) (of_decide_eq_true rfl) (by kernel_rfl) (vc_run ?_)
  simp -implicitDefEqProofs
  refine loop_intro (σ := Nat) (fun i => ⟨[(0, .rs (rowsOf strC l)), (1, .fn g caps), (7, .int .i64 l.length), (8, .int .i64 i)], []⟩) (fun i => i ≤ l.length ∧ allF p (l.take i)) (fun i => l.length - i) 0 ⟨Nat.zero_le _, allF_nil⟩ ?_ ?_
  · refine weak_of 0 0 rfl rfl ?_ ?_ <;> simp [hf]
  · rintro i ⟨hi, hall⟩
    by_cases h : i < l.length
    · simp -implicitDefEqProofs [h, strC]
      have hc8 : ∀ H, caps.mapM (reify H 8) = some caps := fun H => hc H 3
      refine call_intro (hp l[i] (by simp)) (by simp -implicitDefEqProofs [hc8, strC]) (.inl rfl) ?_
      by_cases hpx : p l[i] = true
      · simp -implicitDefEqProofs [hpx]
        exact (idxOf_some p l i h hall hpx).symm
      · have hpx : p l[i] = false := by simpa using hpx
        simp -implicitDefEqProofs [hpx]
        refine ⟨i + 1, ⟨by omega, allF_succ hall h hpx⟩, by omega, weak_of 0 0 rfl rfl ?_ ?_⟩
        · simp [hf]
          exact (wrap_in (by omega) (by omega)).symm
        · simp
    · simp -implicitDefEqProofs [h]
      rw [idxOf_none p l (allF_all hall h)]
theorem nmE_any {p : ByteArray → Bool} {l : List ByteArray} {g : Nat} {caps : List AV} (hp : ∀ x ∈ l, Pure Try.prog g (.str x :: caps) (.bool (p x))) (hc : ∀ H k, caps.mapM (reify H (k + 5)) = some caps) (hf : refsL 0 caps = true) (hl : l.length ≤ 9223372036854775807) :
    Pure Try.prog 63 [.rs (rowsOf strC l), .fn g caps] (.bool (l.any p)) := by
  refine pure_of mixed Try.func63 rfl (by kernel_rfl) (of_decide_eq_true rfl) (by kernel_rfl) (vc_run ?_)
  simp -implicitDefEqProofs
  have hc7 : ∀ H, caps.mapM (reify H 7) = some caps := fun H => hc H 2
  refine call_intro (nmE_idx hp hc hf hl) (by simp -implicitDefEqProofs [hc7]) (.inl rfl) ?_
  simp -implicitDefEqProofs
  rw [← ge_idxOf]

theorem enames1_pure (s : ByteArray) : Pure Try.prog 73 [.str s] (.bool (!isNameS s)) := by
  refine pure_of mixed Try.func73 rfl (by kernel_rfl) (of_decide_eq_true rfl) (by kernel_rfl) (vc_run ?_)
  ((try simp -implicitDefEqProofs [-loopQ_n]) <;> (repeat' (first | (refine condD_dec ?_ ?_ <;> (intro hc; (try simp -implicitDefEqProofs [-loopQ_n, hc]))) | (refine guardD_dec ?_ ?_ <;> (intro hc; (try simp -implicitDefEqProofs [-loopQ_n, hc]))) | (refine condD_intro ?_ ?_ <;> (intro hd; have hc := hd; (try simp at hc) <;> (try simp -implicitDefEqProofs [-loopQ_n, hd, hc]))) | (refine guardD_intro ?_ ?_ <;> (intro hd; have hc := hd; (try simp at hc) <;> (try simp -implicitDefEqProofs [-loopQ_n, hd, hc]))) | (refine ldD_ep ?_ ?_; (focus kernel_rfl); (try simp -implicitDefEqProofs [-loopQ_n])) | (refine callS_mk ?_; (try simp -implicitDefEqProofs [-loopQ_n]); (first | refine callS_intro (isName_pure s) (.inl rfl) ?_); (try simp -implicitDefEqProofs [-loopQ_n])))))
theorem enames_pure (l : List ByteArray) (hl : l.length ≤ 9223372036854775807) : Pure Try.prog 46 [.rs (rowsOf strC l)] (.bool (namesL l)) := by
  have hA := nmE_any (p := fun s => !isNameS s) (l := l) (g := 73) (caps := []) (fun x _ => enames1_pure x) (fun H k => rfl) rfl hl
  rw [show (l.any fun s => !isNameS s) = !namesL l by simp [namesL, List.any_eq_not_all_not]] at hA
  refine pure_of mixed Try.func46 rfl (by kernel_rfl) (of_decide_eq_true rfl) (by kernel_rfl) (vc_run ?_)
  ((try simp -implicitDefEqProofs [-loopQ_n]) <;> (repeat' (first | (refine condD_dec ?_ ?_ <;> (intro hc; (try simp -implicitDefEqProofs [-loopQ_n, hc]))) | (refine guardD_dec ?_ ?_ <;> (intro hc; (try simp -implicitDefEqProofs [-loopQ_n, hc]))) | (refine condD_intro ?_ ?_ <;> (intro hd; have hc := hd; (try simp at hc) <;> (try simp -implicitDefEqProofs [-loopQ_n, hd, hc]))) | (refine guardD_intro ?_ ?_ <;> (intro hd; have hc := hd; (try simp at hc) <;> (try simp -implicitDefEqProofs [-loopQ_n, hd, hc]))) | (refine ldD_ep ?_ ?_; (focus kernel_rfl); (try simp -implicitDefEqProofs [-loopQ_n])) | (refine callS_mk ?_; (try simp -implicitDefEqProofs [-loopQ_n]); (first | refine callS_intro (hA) (.inl rfl) ?_); (try simp -implicitDefEqProofs [-loopQ_n])))))
/-! Variants. -/
structure Vr where
  acts : List ByteArray
  count : Int
def vrC (v : Vr) : List AV := [.rs (rowsOf strC v.acts), .int .i64 v.count]
def vOk (v : Vr) : Bool := decide (v.acts.length ≤ 200) && namesL v.acts && decide (1 ≤ v.count) && decide (v.count ≤ 1048576)
def vFrom : Option Vr → List Vr → Bool
  | _, [] => true
  | none, v :: r => vOk v && vFrom (some v) r
  | some q, v :: r => vOk v && decide (cmpL q.acts v.acts < 0) && vFrom (some v) r
def pv (l : List Vr) (i : Nat) : Option Vr := if i = 0 then none else l[i - 1]?
theorem pv_zero {l : List Vr} : pv l 0 = none := rfl
theorem pv_succ {l : List Vr} {i : Nat} (h : i < l.length) : pv l (i + 1) = some l[i] := by simp [pv, h]
def vlV (l : List Vr) : Bool := decide (l.length ≤ 300) && vFrom none l
set_option maxHeartbeats 8000000 in
theorem evv_pure (l : List Vr) (hd : ∀ v ∈ l, v.acts.length ≤ 9223372036854775807) : Pure Try.prog 18 [.rs (rowsOf vrC l)] (.bool (vlV l)) := by
  refine pure_of mixed Try.func18 rfl (by kernel_rfl) (of_decide_eq_true rfl) (by kernel_rfl) (vc_run ?_)
  by_cases hb : (300 : Int) < l.length
  · have hb' : ¬ l.length ≤ 300 := by omega
    ((try simp -implicitDefEqProofs [-loopQ_n, hb]) <;> (repeat' (first | (refine condD_dec ?_ ?_ <;> (intro hc; (try simp -implicitDefEqProofs [-loopQ_n, hc, hb]))) | (refine guardD_dec ?_ ?_ <;> (intro hc; (try simp -implicitDefEqProofs [-loopQ_n, hc, hb]))) | (refine condD_intro ?_ ?_ <;> (intro hd; have hc := hd; (try simp at hc) <;> (try simp -implicitDefEqProofs [-loopQ_n, hd, hc, hb]))) | (refine guardD_intro ?_ ?_ <;> (intro hd; have hc := hd; (try simp at hc) <;> (try simp -implicitDefEqProofs [-loopQ_n, hd, hc, hb]))) | (refine ldD_ep ?_ ?_; (focus kernel_rfl); (try simp -implicitDefEqProofs [-loopQ_n, hb])))))
    simp [vlV, hb']
  have hb' : l.length ≤ 300 := by omega
  have hv : vlV l = vFrom none l := by simp [vlV, hb']
  rw [hv]
  obtain ⟨R, hRR⟩ : ∃ R, vFrom none l = R := ⟨_, rfl⟩
  rw [hRR]
  ((try simp -implicitDefEqProofs [-loopQ_n, hb]) <;> (repeat' (first | (refine condD_dec ?_ ?_ <;> (intro hc; (try simp -implicitDefEqProofs [-loopQ_n, hc, hb]))) | (refine guardD_dec ?_ ?_ <;> (intro hc; (try simp -implicitDefEqProofs [-loopQ_n, hc, hb]))) | (refine condD_intro ?_ ?_ <;> (intro hd; have hc := hd; (try simp at hc) <;> (try simp -implicitDefEqProofs [-loopQ_n, hd, hc, hb]))) | (refine guardD_intro ?_ ?_ <;> (intro hd; have hc := hd; (try simp at hc) <;> (try simp -implicitDefEqProofs [-loopQ_n, hd, hc, hb]))) | (refine ldD_ep ?_ ?_; (focus kernel_rfl); (try simp -implicitDefEqProofs [-loopQ_n, hb])))))
  refine loop_intro (σ := Nat) (fun i => ⟨[(0, .rs (rowsOf vrC l)), (8, .rs (rowsOf vrC l)), (9, .int .i64 l.length), (10, .int .i64 i)], []⟩) (fun i => i ≤ l.length ∧ vFrom (pv l i) (l.drop i) = R) (fun i => l.length - i) 0 ⟨by omega, by simpa [pv] using hRR⟩ ?_ ?_
  · refine weak_of 0 0 rfl rfl ?_ ?_ <;> simp
  rintro i ⟨hi, hR⟩
  by_cases h : i < l.length
  · have w1 : wrapI .i64 ((i : Int) + 1) = ((i + 1 : Nat) : Int) := by rw [wrap_in (by omega) (by omega)]; omega
    have hps := pv_succ h
    obtain ⟨⟨ac, n⟩, hf⟩ : ∃ e, l[i] = e := ⟨_, rfl⟩
    have hac : ac.length ≤ 9223372036854775807 := by have := hd _ (List.getElem_mem h); rw [hf] at this; exact this
    rw [List.drop_eq_getElem_cons h] at hR
    rw [hf] at hR hps
    by_cases hi0 : i = 0
    · subst hi0
      rw [pv_zero, vFrom] at hR
      have w1' : wrapI .i64 1 = 1 := wrap_in (by omega) (by omega)
      ((try simp -implicitDefEqProofs [-loopQ_n, h, hf, vrC, w1]) <;> (repeat' (first | (refine condD_dec ?_ ?_ <;> (intro hc; (try simp -implicitDefEqProofs [-loopQ_n, hc, h, hf, vrC, w1]))) | (refine guardD_dec ?_ ?_ <;> (intro hc; (try simp -implicitDefEqProofs [-loopQ_n, hc, h, hf, vrC, w1]))) | (refine condD_intro ?_ ?_ <;> (intro hd; have hc := hd; (try simp at hc) <;> (try simp -implicitDefEqProofs [-loopQ_n, hd, hc, h, hf, vrC, w1]))) | (refine guardD_intro ?_ ?_ <;> (intro hd; have hc := hd; (try simp at hc) <;> (try simp -implicitDefEqProofs [-loopQ_n, hd, hc, h, hf, vrC, w1]))) | (refine ldD_ep ?_ ?_; (focus kernel_rfl); (try simp -implicitDefEqProofs [-loopQ_n, h, hf, vrC, w1])) | (refine callS_mk ?_; (try simp -implicitDefEqProofs [-loopQ_n, h, hf, vrC, w1]); (first | refine callS_intro (enames_pure ac hac) (.inl rfl) ?_); (try simp -implicitDefEqProofs [-loopQ_n, h, hf, vrC, w1])))))
      all_goals first
        | (rw [← hR]; simp [vOk, *]; done)
        | (rw [← hR]; simp [vOk, *]; omega)
        | (refine loop_next (0 + 1) ⟨by omega, ?_⟩ (by omega) (weak_of 0 0 rfl rfl ?_ ?_) <;> first | (rw [hps, ← hR]; simp [vOk, *]; done) | (simp [*]; done) | (rw [hps, ← hR]; simp [vOk, *]; omega))
    · have hi1 : i - 1 < l.length := by omega
      have hi2 : (0 : Int) < i := by omega
      have hi3 : 0 < i := by omega
      have hw0 : wrapI .i64 ((i : Int) - 1) = ((i - 1 : Nat) : Int) := by rw [wrap_in (by omega) (by omega)]; omega
      obtain ⟨⟨ac2, n2⟩, hg⟩ : ∃ e, l[i - 1] = e := ⟨_, rfl⟩
      have hac2 : ac2.length ≤ 9223372036854775807 := by have := hd _ (List.getElem_mem hi1); rw [hg] at this; exact this
      have hgq : l[i - 1]? = some ⟨ac2, n2⟩ := by rw [List.getElem?_eq_getElem hi1, hg]
      have hpv : pv l i = some ⟨ac2, n2⟩ := by rw [pv, if_neg hi0, hgq]
      rw [hpv, vFrom] at hR
      ((try simp -implicitDefEqProofs [-loopQ_n, h, hf, hi1, hi2, hi3, hw0, hg, hgq, vrC]) <;> (repeat' (first | (refine condD_dec ?_ ?_ <;> (intro hc; (try simp -implicitDefEqProofs [-loopQ_n, hc, h, hf, hi1, hi2, hi3, hw0, hg, hgq, vrC]))) | (refine guardD_dec ?_ ?_ <;> (intro hc; (try simp -implicitDefEqProofs [-loopQ_n, hc, h, hf, hi1, hi2, hi3, hw0, hg, hgq, vrC]))) | (refine condD_intro ?_ ?_ <;> (intro hd; have hc := hd; (try simp at hc) <;> (try simp -implicitDefEqProofs [-loopQ_n, hd, hc, h, hf, hi1, hi2, hi3, hw0, hg, hgq, vrC]))) | (refine guardD_intro ?_ ?_ <;> (intro hd; have hc := hd; (try simp at hc) <;> (try simp -implicitDefEqProofs [-loopQ_n, hd, hc, h, hf, hi1, hi2, hi3, hw0, hg, hgq, vrC]))) | (refine ldD_ep ?_ ?_; (focus kernel_rfl); (try simp -implicitDefEqProofs [-loopQ_n, h, hf, hi1, hi2, hi3, hw0, hg, hgq, vrC])) | (refine callS_mk ?_; (try simp -implicitDefEqProofs [-loopQ_n, h, hf, hi1, hi2, hi3, hw0, hg, hgq, vrC]); (first | refine callS_intro (enames_pure ac hac) (.inl rfl) ?_ | refine callS_intro (ncompare_pure ac2 ac hac2 hac) (.inl rfl) ?_); (try simp -implicitDefEqProofs [-loopQ_n, h, hf, hi1, hi2, hi3, hw0, hg, hgq, vrC])))))
      all_goals first
        | (rw [← hR]; simp [vOk, *]; done)
        | (rw [← hR]; simp [vOk, *]; omega)
        | (refine loop_next (i + 1) ⟨by omega, ?_⟩ (by omega) (weak_of 0 0 rfl rfl ?_ ?_) <;> first | (rw [hps, ← hR]; simp [vOk, *]; done) | (simp [w1]; done) | (rw [hps, ← hR]; simp [vOk, *]; omega))
  · rw [List.drop_eq_nil_of_le (by omega)] at hR
    have hR : true = R := by cases h2 : pv l i <;> rw [h2, vFrom] at hR <;> exact hR
    ((try simp -implicitDefEqProofs [-loopQ_n, h]) <;> (repeat' (first | (refine condD_dec ?_ ?_ <;> (intro hc; (try simp -implicitDefEqProofs [-loopQ_n, hc, h]))) | (refine guardD_dec ?_ ?_ <;> (intro hc; (try simp -implicitDefEqProofs [-loopQ_n, hc, h]))) | (refine condD_intro ?_ ?_ <;> (intro hd; have hc := hd; (try simp at hc) <;> (try simp -implicitDefEqProofs [-loopQ_n, hd, hc, h]))) | (refine guardD_intro ?_ ?_ <;> (intro hd; have hc := hd; (try simp at hc) <;> (try simp -implicitDefEqProofs [-loopQ_n, hd, hc, h]))) | (refine ldD_ep ?_ ?_; (focus kernel_rfl); (try simp -implicitDefEqProofs [-loopQ_n, h])))))
    exact hR.symm
set_option maxHeartbeats 8000000 in
theorem revv_pure (l : List Vr) (hd : ∀ v ∈ l, v.acts.length ≤ 9223372036854775807) : Pure Try.prog 19 [.rs (rowsOf vrC l)] (.bool (vlV l)) := by
  refine pure_of mixed Try.func19 rfl (by kernel_rfl) (of_decide_eq_true rfl) (by kernel_rfl) (vc_run ?_)
  by_cases hb : (300 : Int) < l.length
  · have hb' : ¬ l.length ≤ 300 := by omega
    ((try simp -implicitDefEqProofs [-loopQ_n, hb]) <;> (repeat' (first | (refine condD_dec ?_ ?_ <;> (intro hc; (try simp -implicitDefEqProofs [-loopQ_n, hc, hb]))) | (refine guardD_dec ?_ ?_ <;> (intro hc; (try simp -implicitDefEqProofs [-loopQ_n, hc, hb]))) | (refine condD_intro ?_ ?_ <;> (intro hd; have hc := hd; (try simp at hc) <;> (try simp -implicitDefEqProofs [-loopQ_n, hd, hc, hb]))) | (refine guardD_intro ?_ ?_ <;> (intro hd; have hc := hd; (try simp at hc) <;> (try simp -implicitDefEqProofs [-loopQ_n, hd, hc, hb]))) | (refine ldD_ep ?_ ?_; (focus kernel_rfl); (try simp -implicitDefEqProofs [-loopQ_n, hb])))))
    simp [vlV, hb']
  have hb' : l.length ≤ 300 := by omega
  have hv : vlV l = vFrom none l := by simp [vlV, hb']
  rw [hv]
  obtain ⟨R, hRR⟩ : ∃ R, vFrom none l = R := ⟨_, rfl⟩
  rw [hRR]
  ((try simp -implicitDefEqProofs [-loopQ_n, hb]) <;> (repeat' (first | (refine condD_dec ?_ ?_ <;> (intro hc; (try simp -implicitDefEqProofs [-loopQ_n, hc, hb]))) | (refine guardD_dec ?_ ?_ <;> (intro hc; (try simp -implicitDefEqProofs [-loopQ_n, hc, hb]))) | (refine condD_intro ?_ ?_ <;> (intro hd; have hc := hd; (try simp at hc) <;> (try simp -implicitDefEqProofs [-loopQ_n, hd, hc, hb]))) | (refine guardD_intro ?_ ?_ <;> (intro hd; have hc := hd; (try simp at hc) <;> (try simp -implicitDefEqProofs [-loopQ_n, hd, hc, hb]))) | (refine ldD_ep ?_ ?_; (focus kernel_rfl); (try simp -implicitDefEqProofs [-loopQ_n, hb])))))
  refine loop_intro (σ := Nat) (fun i => ⟨[(0, .rs (rowsOf vrC l)), (3, .int .i64 i)], []⟩) (fun i => i ≤ l.length ∧ vFrom (pv l i) (l.drop i) = R) (fun i => l.length - i) 0 ⟨by omega, by simpa [pv] using hRR⟩ ?_ ?_
  · refine weak_of 0 0 rfl rfl ?_ ?_ <;> simp
  rintro i ⟨hi, hR⟩
  by_cases h : i < l.length
  · have w1 : wrapI .i64 ((i : Int) + 1) = ((i + 1 : Nat) : Int) := by rw [wrap_in (by omega) (by omega)]; omega
    have hps := pv_succ h
    obtain ⟨⟨ac, n⟩, hf⟩ : ∃ e, l[i] = e := ⟨_, rfl⟩
    have hac : ac.length ≤ 9223372036854775807 := by have := hd _ (List.getElem_mem h); rw [hf] at this; exact this
    rw [List.drop_eq_getElem_cons h] at hR
    rw [hf] at hR hps
    by_cases hi0 : i = 0
    · subst hi0
      rw [pv_zero, vFrom] at hR
      have w1' : wrapI .i64 1 = 1 := wrap_in (by omega) (by omega)
      ((try simp -implicitDefEqProofs [-loopQ_n, h, hf, vrC, w1]) <;> (repeat' (first | (refine condD_dec ?_ ?_ <;> (intro hc; (try simp -implicitDefEqProofs [-loopQ_n, hc, h, hf, vrC, w1]))) | (refine guardD_dec ?_ ?_ <;> (intro hc; (try simp -implicitDefEqProofs [-loopQ_n, hc, h, hf, vrC, w1]))) | (refine condD_intro ?_ ?_ <;> (intro hd; have hc := hd; (try simp at hc) <;> (try simp -implicitDefEqProofs [-loopQ_n, hd, hc, h, hf, vrC, w1]))) | (refine guardD_intro ?_ ?_ <;> (intro hd; have hc := hd; (try simp at hc) <;> (try simp -implicitDefEqProofs [-loopQ_n, hd, hc, h, hf, vrC, w1]))) | (refine ldD_ep ?_ ?_; (focus kernel_rfl); (try simp -implicitDefEqProofs [-loopQ_n, h, hf, vrC, w1])) | (refine callS_mk ?_; (try simp -implicitDefEqProofs [-loopQ_n, h, hf, vrC, w1]); (first | refine callS_intro (rnames_pure ac hac) (.inl rfl) ?_); (try simp -implicitDefEqProofs [-loopQ_n, h, hf, vrC, w1])))))
      all_goals first
        | (rw [← hR]; simp [vOk, *]; done)
        | (rw [← hR]; simp [vOk, *]; omega)
        | (refine loop_next (0 + 1) ⟨by omega, ?_⟩ (by omega) (weak_of 0 0 rfl rfl ?_ ?_) <;> first | (rw [hps, ← hR]; simp [vOk, *]; done) | (simp [*]; done) | (rw [hps, ← hR]; simp [vOk, *]; omega))
    · have hi1 : i - 1 < l.length := by omega
      have hi2 : (0 : Int) < i := by omega
      have hi3 : 0 < i := by omega
      have hw0 : wrapI .i64 ((i : Int) - 1) = ((i - 1 : Nat) : Int) := by rw [wrap_in (by omega) (by omega)]; omega
      obtain ⟨⟨ac2, n2⟩, hg⟩ : ∃ e, l[i - 1] = e := ⟨_, rfl⟩
      have hac2 : ac2.length ≤ 9223372036854775807 := by have := hd _ (List.getElem_mem hi1); rw [hg] at this; exact this
      have hgq : l[i - 1]? = some ⟨ac2, n2⟩ := by rw [List.getElem?_eq_getElem hi1, hg]
      have hpv : pv l i = some ⟨ac2, n2⟩ := by rw [pv, if_neg hi0, hgq]
      rw [hpv, vFrom] at hR
      ((try simp -implicitDefEqProofs [-loopQ_n, h, hf, hi1, hi2, hi3, hw0, hg, hgq, vrC]) <;> (repeat' (first | (refine condD_dec ?_ ?_ <;> (intro hc; (try simp -implicitDefEqProofs [-loopQ_n, hc, h, hf, hi1, hi2, hi3, hw0, hg, hgq, vrC]))) | (refine guardD_dec ?_ ?_ <;> (intro hc; (try simp -implicitDefEqProofs [-loopQ_n, hc, h, hf, hi1, hi2, hi3, hw0, hg, hgq, vrC]))) | (refine condD_intro ?_ ?_ <;> (intro hd; have hc := hd; (try simp at hc) <;> (try simp -implicitDefEqProofs [-loopQ_n, hd, hc, h, hf, hi1, hi2, hi3, hw0, hg, hgq, vrC]))) | (refine guardD_intro ?_ ?_ <;> (intro hd; have hc := hd; (try simp at hc) <;> (try simp -implicitDefEqProofs [-loopQ_n, hd, hc, h, hf, hi1, hi2, hi3, hw0, hg, hgq, vrC]))) | (refine ldD_ep ?_ ?_; (focus kernel_rfl); (try simp -implicitDefEqProofs [-loopQ_n, h, hf, hi1, hi2, hi3, hw0, hg, hgq, vrC])) | (refine callS_mk ?_; (try simp -implicitDefEqProofs [-loopQ_n, h, hf, hi1, hi2, hi3, hw0, hg, hgq, vrC]); (first | refine callS_intro (rnames_pure ac hac) (.inl rfl) ?_ | refine callS_intro (rcompare_pure ac2 ac hac2 hac) (.inl rfl) ?_); (try simp -implicitDefEqProofs [-loopQ_n, h, hf, hi1, hi2, hi3, hw0, hg, hgq, vrC])))))
      all_goals first
        | (rw [← hR]; simp [vOk, *]; done)
        | (rw [← hR]; simp [vOk, *]; omega)
        | (refine loop_next (i + 1) ⟨by omega, ?_⟩ (by omega) (weak_of 0 0 rfl rfl ?_ ?_) <;> first | (rw [hps, ← hR]; simp [vOk, *]; done) | (simp [w1]; done) | (rw [hps, ← hR]; simp [vOk, *]; omega))
  · rw [List.drop_eq_nil_of_le (by omega)] at hR
    have hR : true = R := by cases h2 : pv l i <;> rw [h2, vFrom] at hR <;> exact hR
    ((try simp -implicitDefEqProofs [-loopQ_n, h]) <;> (repeat' (first | (refine condD_dec ?_ ?_ <;> (intro hc; (try simp -implicitDefEqProofs [-loopQ_n, hc, h]))) | (refine guardD_dec ?_ ?_ <;> (intro hc; (try simp -implicitDefEqProofs [-loopQ_n, hc, h]))) | (refine condD_intro ?_ ?_ <;> (intro hd; have hc := hd; (try simp at hc) <;> (try simp -implicitDefEqProofs [-loopQ_n, hd, hc, h]))) | (refine guardD_intro ?_ ?_ <;> (intro hd; have hc := hd; (try simp at hc) <;> (try simp -implicitDefEqProofs [-loopQ_n, hd, hc, h]))) | (refine ldD_ep ?_ ?_; (focus kernel_rfl); (try simp -implicitDefEqProofs [-loopQ_n, h])))))
    exact hR.symm
/-! The same fields, events, logs. -/
open Classical in
theorem eqFld_pure (a b : List Fld) (ha : a.length ≤ 9223372036854775807) (hb : b.length ≤ 9223372036854775807) : Pure Try.prog 75 [.rs (rowsOf fldC a), .rs (rowsOf fldC b)] (.bool (decide (a = b))) := by
  refine pure_of mixed Try.func75 rfl (by kernel_rfl) (of_decide_eq_true rfl) (by kernel_rfl) (vc_run ?_)
  by_cases hl : a.length = b.length
  · ((try simp -implicitDefEqProofs [-loopQ_n, hl]) <;> (repeat' (first | (refine condD_dec ?_ ?_ <;> (intro hc; (try simp -implicitDefEqProofs [-loopQ_n, hc, hl]))) | (refine guardD_dec ?_ ?_ <;> (intro hc; (try simp -implicitDefEqProofs [-loopQ_n, hc, hl]))) | (refine condD_intro ?_ ?_ <;> (intro hd; have hc := hd; (try simp at hc) <;> (try simp -implicitDefEqProofs [-loopQ_n, hd, hc, hl]))) | (refine guardD_intro ?_ ?_ <;> (intro hd; have hc := hd; (try simp at hc) <;> (try simp -implicitDefEqProofs [-loopQ_n, hd, hc, hl]))) | (refine ldD_ep ?_ ?_; (focus kernel_rfl); (try simp -implicitDefEqProofs [-loopQ_n, hl])))))
    refine loop_intro (σ := Nat) (fun i => ⟨[(0, .rs (rowsOf fldC a)), (1, .rs (rowsOf fldC b)), (12, .int .i64 b.length), (13, .int .i64 i)], []⟩) (fun i => i ≤ b.length ∧ (a = b ↔ a.drop i = b.drop i)) (fun i => b.length - i) 0 ⟨by omega, by simp⟩ ?_ ?_
    · refine weak_of 0 0 rfl rfl ?_ ?_ <;> simp [hl]
    rintro i ⟨hi, hR⟩
    by_cases h : i < b.length
    · have w1 := sw_suc h (by omega)
      have g : i < a.length := by omega
      rw [List.drop_eq_getElem_cons g, List.drop_eq_getElem_cons h, List.cons.injEq] at hR
      obtain ⟨⟨n1, ⟨k1, m1, s1⟩⟩, e1⟩ : ∃ e, a[i] = e := ⟨_, rfl⟩
      obtain ⟨⟨n2, ⟨k2, m2, s2⟩⟩, e2⟩ : ∃ e, b[i] = e := ⟨_, rfl⟩
      rw [e1, e2] at hR
      by_cases e : n1 = n2 ∧ k1 = k2 ∧ m1 = m2 ∧ s1 = s2
      · obtain ⟨rfl, rfl, rfl, rfl⟩ := e
        ((try simp -implicitDefEqProofs [-loopQ_n, h, g, w1, fldC, e1, e2, tl_iff]) <;> (repeat' (first | (refine condD_dec ?_ ?_ <;> (intro hc; (try simp -implicitDefEqProofs [-loopQ_n, hc, h, g, w1, fldC, e1, e2, tl_iff]))) | (refine guardD_dec ?_ ?_ <;> (intro hc; (try simp -implicitDefEqProofs [-loopQ_n, hc, h, g, w1, fldC, e1, e2, tl_iff]))) | (refine condD_intro ?_ ?_ <;> (intro hd; have hc := hd; (try simp at hc) <;> (try simp -implicitDefEqProofs [-loopQ_n, hd, hc, h, g, w1, fldC, e1, e2, tl_iff]))) | (refine guardD_intro ?_ ?_ <;> (intro hd; have hc := hd; (try simp at hc) <;> (try simp -implicitDefEqProofs [-loopQ_n, hd, hc, h, g, w1, fldC, e1, e2, tl_iff]))) | (refine ldD_ep ?_ ?_; (focus kernel_rfl); (try simp -implicitDefEqProofs [-loopQ_n, h, g, w1, fldC, e1, e2, tl_iff])))))
        refine loop_next (i + 1) ⟨h, by rw [hR]; simp⟩ (by omega) (weak_of 0 0 rfl rfl ?_ ?_) <;> simp
      · have hne : ¬ a = b := by rw [hR]; simp only [Fld.mk.injEq, Val.mk.injEq]; exact fun q => e ⟨q.1.1, q.1.2.1, q.1.2.2.1, q.1.2.2.2⟩
        ((try simp -implicitDefEqProofs [-loopQ_n, h, g, w1, fldC, e1, e2, tl_iff]) <;> (repeat' (first | (refine condD_dec ?_ ?_ <;> (intro hc; (try simp -implicitDefEqProofs [-loopQ_n, hc, h, g, w1, fldC, e1, e2, tl_iff]))) | (refine guardD_dec ?_ ?_ <;> (intro hc; (try simp -implicitDefEqProofs [-loopQ_n, hc, h, g, w1, fldC, e1, e2, tl_iff]))) | (refine condD_intro ?_ ?_ <;> (intro hd; have hc := hd; (try simp at hc) <;> (try simp -implicitDefEqProofs [-loopQ_n, hd, hc, h, g, w1, fldC, e1, e2, tl_iff]))) | (refine guardD_intro ?_ ?_ <;> (intro hd; have hc := hd; (try simp at hc) <;> (try simp -implicitDefEqProofs [-loopQ_n, hd, hc, h, g, w1, fldC, e1, e2, tl_iff]))) | (refine ldD_ep ?_ ?_; (focus kernel_rfl); (try simp -implicitDefEqProofs [-loopQ_n, h, g, w1, fldC, e1, e2, tl_iff])))))
        all_goals first | (simp [hne]; done) | (exfalso; simp_all [tl_iff]; done)
    · rw [List.drop_eq_nil_of_le (by omega), List.drop_eq_nil_of_le (by omega)] at hR
      have he : a = b := hR.2 rfl
      ((try simp -implicitDefEqProofs [-loopQ_n, h]) <;> (repeat' (first | (refine condD_dec ?_ ?_ <;> (intro hc; (try simp -implicitDefEqProofs [-loopQ_n, hc, h]))) | (refine guardD_dec ?_ ?_ <;> (intro hc; (try simp -implicitDefEqProofs [-loopQ_n, hc, h]))) | (refine condD_intro ?_ ?_ <;> (intro hd; have hc := hd; (try simp at hc) <;> (try simp -implicitDefEqProofs [-loopQ_n, hd, hc, h]))) | (refine guardD_intro ?_ ?_ <;> (intro hd; have hc := hd; (try simp at hc) <;> (try simp -implicitDefEqProofs [-loopQ_n, hd, hc, h]))) | (refine ldD_ep ?_ ?_; (focus kernel_rfl); (try simp -implicitDefEqProofs [-loopQ_n, h])))))
      simp [he]
  · have hl' : ¬ (a.length : Int) = b.length := by omega
    have hne : ¬ a = b := fun e => hl (by rw [e])
    ((try simp -implicitDefEqProofs [-loopQ_n, hl']) <;> (repeat' (first | (refine condD_dec ?_ ?_ <;> (intro hc; (try simp -implicitDefEqProofs [-loopQ_n, hc, hl']))) | (refine guardD_dec ?_ ?_ <;> (intro hc; (try simp -implicitDefEqProofs [-loopQ_n, hc, hl']))) | (refine condD_intro ?_ ?_ <;> (intro hd; have hc := hd; (try simp at hc) <;> (try simp -implicitDefEqProofs [-loopQ_n, hd, hc, hl']))) | (refine guardD_intro ?_ ?_ <;> (intro hd; have hc := hd; (try simp at hc) <;> (try simp -implicitDefEqProofs [-loopQ_n, hd, hc, hl']))) | (refine ldD_ep ?_ ?_; (focus kernel_rfl); (try simp -implicitDefEqProofs [-loopQ_n, hl'])))))
    simp [hne]
open Classical in
theorem esame_pure (a b : Evt) (ha : a.data.length ≤ 9223372036854775807) (hb : b.data.length ≤ 9223372036854775807) : Pure Try.prog 51 [.agg (evtC a), .agg (evtC b)] (.bool (decide (a = b))) := by
  obtain ⟨c, x, r, life, time, data⟩ := a
  obtain ⟨c2, x2, r2, life2, time2, data2⟩ := b
  refine pure_of mixed Try.func51 rfl (by kernel_rfl) (of_decide_eq_true rfl) (by kernel_rfl) (vc_run ?_)
  ((try simp -implicitDefEqProofs [-loopQ_n, evtC, tl_iff]) <;> (repeat' (first | (refine condD_dec ?_ ?_ <;> (intro hc; (try simp -implicitDefEqProofs [-loopQ_n, hc, evtC, tl_iff]))) | (refine guardD_dec ?_ ?_ <;> (intro hc; (try simp -implicitDefEqProofs [-loopQ_n, hc, evtC, tl_iff]))) | (refine condD_intro ?_ ?_ <;> (intro hd; have hc := hd; (try simp at hc) <;> (try simp -implicitDefEqProofs [-loopQ_n, hd, hc, evtC, tl_iff]))) | (refine guardD_intro ?_ ?_ <;> (intro hd; have hc := hd; (try simp at hc) <;> (try simp -implicitDefEqProofs [-loopQ_n, hd, hc, evtC, tl_iff]))) | (refine ldD_ep ?_ ?_; (focus kernel_rfl); (try simp -implicitDefEqProofs [-loopQ_n, evtC, tl_iff])) | (refine callS_mk ?_; (try simp -implicitDefEqProofs [-loopQ_n, evtC, tl_iff]); (first | refine callS_intro (eqFld_pure data data2 ha hb) (.inl rfl) ?_); (try simp -implicitDefEqProofs [-loopQ_n, evtC, tl_iff])))))
  all_goals simp [*]
open Classical in
theorem eqFunc_pure (a b : List Evt) (ha : ∀ e ∈ a, e.data.length ≤ 9223372036854775807) (hb : ∀ e ∈ b, e.data.length ≤ 9223372036854775807) (la : a.length ≤ 9223372036854775807) (lb : b.length ≤ 9223372036854775807) :
    Pure Try.prog 50 [.rs (rowsOf evtC a), .rs (rowsOf evtC b), .fn 51 []] (.bool (decide (a = b))) := by
  refine pure_of mixed Try.func50 rfl (by kernel_rfl) (of_decide_eq_true rfl) (by kernel_rfl) (vc_run ?_)
  by_cases hl : a.length = b.length
  · ((try simp -implicitDefEqProofs [-loopQ_n, hl]) <;> (repeat' (first | (refine condD_dec ?_ ?_ <;> (intro hc; (try simp -implicitDefEqProofs [-loopQ_n, hc, hl]))) | (refine guardD_dec ?_ ?_ <;> (intro hc; (try simp -implicitDefEqProofs [-loopQ_n, hc, hl]))) | (refine condD_intro ?_ ?_ <;> (intro hd; have hc := hd; (try simp at hc) <;> (try simp -implicitDefEqProofs [-loopQ_n, hd, hc, hl]))) | (refine guardD_intro ?_ ?_ <;> (intro hd; have hc := hd; (try simp at hc) <;> (try simp -implicitDefEqProofs [-loopQ_n, hd, hc, hl]))) | (refine ldD_ep ?_ ?_; (focus kernel_rfl); (try simp -implicitDefEqProofs [-loopQ_n, hl])))))
    refine loop_intro (σ := Nat) (fun i => ⟨[(1, .rs (rowsOf evtC b)), (2, .fn 51 []), (15, .rs (rowsOf evtC a)), (16, .int .i64 b.length), (17, .int .i64 i)], []⟩) (fun i => i ≤ b.length ∧ (a = b ↔ a.drop i = b.drop i)) (fun i => b.length - i) 0 ⟨by omega, by simp⟩ ?_ ?_
    · refine weak_of 0 0 rfl rfl ?_ ?_ <;> simp [hl]
    rintro i ⟨hi, hR⟩
    by_cases h : i < b.length
    · have w1 := sw_suc h (by omega)
      have g : i < a.length := by omega
      have hda := ha a[i] (List.getElem_mem g)
      have hdb := hb b[i] (List.getElem_mem h)
      rw [List.drop_eq_getElem_cons g, List.drop_eq_getElem_cons h, List.cons.injEq] at hR
      obtain ⟨⟨c1, x1, r1, l1, t1, d1⟩, e1⟩ : ∃ e, a[i] = e := ⟨_, rfl⟩
      obtain ⟨⟨c2, x2, r2, l2, t2, d2⟩, e2⟩ : ∃ e, b[i] = e := ⟨_, rfl⟩
      rw [e1, e2] at hR
      rw [e1] at hda
      rw [e2] at hdb
      have hS := esame_pure ⟨c1, x1, r1, l1, t1, d1⟩ ⟨c2, x2, r2, l2, t2, d2⟩ hda hdb
      by_cases e : (⟨c1, x1, r1, l1, t1, d1⟩ : Evt) = ⟨c2, x2, r2, l2, t2, d2⟩
      · rw [decide_eq_true e] at hS
        ((try simp -implicitDefEqProofs [-loopQ_n, h, g, w1, evtC, e1, e2]) <;> (repeat' (first | (refine condD_dec ?_ ?_ <;> (intro hc; (try simp -implicitDefEqProofs [-loopQ_n, hc, h, g, w1, evtC, e1, e2]))) | (refine guardD_dec ?_ ?_ <;> (intro hc; (try simp -implicitDefEqProofs [-loopQ_n, hc, h, g, w1, evtC, e1, e2]))) | (refine condD_intro ?_ ?_ <;> (intro hd; have hc := hd; (try simp at hc) <;> (try simp -implicitDefEqProofs [-loopQ_n, hd, hc, h, g, w1, evtC, e1, e2]))) | (refine guardD_intro ?_ ?_ <;> (intro hd; have hc := hd; (try simp at hc) <;> (try simp -implicitDefEqProofs [-loopQ_n, hd, hc, h, g, w1, evtC, e1, e2]))) | (refine ldD_ep ?_ ?_; (focus kernel_rfl); (try simp -implicitDefEqProofs [-loopQ_n, h, g, w1, evtC, e1, e2])) | (refine callS_mk ?_; (try simp -implicitDefEqProofs [-loopQ_n, h, g, w1, evtC, e1, e2]); (first | refine callS_intro (hS) (.inl rfl) ?_); (try simp -implicitDefEqProofs [-loopQ_n, h, g, w1, evtC, e1, e2])))))
        refine loop_next (i + 1) ⟨h, by rw [hR]; simp [e]⟩ (by omega) (weak_of 0 0 rfl rfl ?_ ?_) <;> simp
      · have hne : ¬ a = b := by rw [hR]; exact fun q => e q.1
        rw [decide_eq_false e] at hS
        ((try simp -implicitDefEqProofs [-loopQ_n, h, g, w1, evtC, e1, e2]) <;> (repeat' (first | (refine condD_dec ?_ ?_ <;> (intro hc; (try simp -implicitDefEqProofs [-loopQ_n, hc, h, g, w1, evtC, e1, e2]))) | (refine guardD_dec ?_ ?_ <;> (intro hc; (try simp -implicitDefEqProofs [-loopQ_n, hc, h, g, w1, evtC, e1, e2]))) | (refine condD_intro ?_ ?_ <;> (intro hd; have hc := hd; (try simp at hc) <;> (try simp -implicitDefEqProofs [-loopQ_n, hd, hc, h, g, w1, evtC, e1, e2]))) | (refine guardD_intro ?_ ?_ <;> (intro hd; have hc := hd; (try simp at hc) <;> (try simp -implicitDefEqProofs [-loopQ_n, hd, hc, h, g, w1, evtC, e1, e2]))) | (refine ldD_ep ?_ ?_; (focus kernel_rfl); (try simp -implicitDefEqProofs [-loopQ_n, h, g, w1, evtC, e1, e2])) | (refine callS_mk ?_; (try simp -implicitDefEqProofs [-loopQ_n, h, g, w1, evtC, e1, e2]); (first | refine callS_intro (hS) (.inl rfl) ?_); (try simp -implicitDefEqProofs [-loopQ_n, h, g, w1, evtC, e1, e2])))))
        simp [hne]
    · rw [List.drop_eq_nil_of_le (by omega), List.drop_eq_nil_of_le (by omega)] at hR
      have he : a = b := hR.2 rfl
      ((try simp -implicitDefEqProofs [-loopQ_n, h]) <;> (repeat' (first | (refine condD_dec ?_ ?_ <;> (intro hc; (try simp -implicitDefEqProofs [-loopQ_n, hc, h]))) | (refine guardD_dec ?_ ?_ <;> (intro hc; (try simp -implicitDefEqProofs [-loopQ_n, hc, h]))) | (refine condD_intro ?_ ?_ <;> (intro hd; have hc := hd; (try simp at hc) <;> (try simp -implicitDefEqProofs [-loopQ_n, hd, hc, h]))) | (refine guardD_intro ?_ ?_ <;> (intro hd; have hc := hd; (try simp at hc) <;> (try simp -implicitDefEqProofs [-loopQ_n, hd, hc, h]))) | (refine ldD_ep ?_ ?_; (focus kernel_rfl); (try simp -implicitDefEqProofs [-loopQ_n, h])))))
      simp [he]
  · have hl' : ¬ (a.length : Int) = b.length := by omega
    have hne : ¬ a = b := fun e => hl (by rw [e])
    ((try simp -implicitDefEqProofs [-loopQ_n, hl']) <;> (repeat' (first | (refine condD_dec ?_ ?_ <;> (intro hc; (try simp -implicitDefEqProofs [-loopQ_n, hc, hl']))) | (refine guardD_dec ?_ ?_ <;> (intro hc; (try simp -implicitDefEqProofs [-loopQ_n, hc, hl']))) | (refine condD_intro ?_ ?_ <;> (intro hd; have hc := hd; (try simp at hc) <;> (try simp -implicitDefEqProofs [-loopQ_n, hd, hc, hl']))) | (refine guardD_intro ?_ ?_ <;> (intro hd; have hc := hd; (try simp at hc) <;> (try simp -implicitDefEqProofs [-loopQ_n, hd, hc, hl']))) | (refine ldD_ep ?_ ?_; (focus kernel_rfl); (try simp -implicitDefEqProofs [-loopQ_n, hl'])))))
    simp [hne]
open Classical in
theorem elsame_pure (a b : List Evt) (ha : ∀ e ∈ a, e.data.length ≤ 9223372036854775807) (hb : ∀ e ∈ b, e.data.length ≤ 9223372036854775807) (la : a.length ≤ 9223372036854775807) (lb : b.length ≤ 9223372036854775807) :
    Pure Try.prog 20 [.agg [.rs (rowsOf evtC a)], .agg [.rs (rowsOf evtC b)]] (.bool (decide (a = b))) := by
  refine pure_of mixed Try.func20 rfl (by kernel_rfl) (of_decide_eq_true rfl) (by kernel_rfl) (vc_run ?_)
  ((try simp -implicitDefEqProofs [-loopQ_n]) <;> (repeat' (first | (refine condD_dec ?_ ?_ <;> (intro hc; (try simp -implicitDefEqProofs [-loopQ_n, hc]))) | (refine guardD_dec ?_ ?_ <;> (intro hc; (try simp -implicitDefEqProofs [-loopQ_n, hc]))) | (refine condD_intro ?_ ?_ <;> (intro hd; have hc := hd; (try simp at hc) <;> (try simp -implicitDefEqProofs [-loopQ_n, hd, hc]))) | (refine guardD_intro ?_ ?_ <;> (intro hd; have hc := hd; (try simp at hc) <;> (try simp -implicitDefEqProofs [-loopQ_n, hd, hc]))) | (refine ldD_ep ?_ ?_; (focus kernel_rfl); (try simp -implicitDefEqProofs [-loopQ_n])) | (refine callS_mk ?_; (try simp -implicitDefEqProofs [-loopQ_n]); (first | refine callS_intro (eqFunc_pure a b ha hb la lb) (.inl rfl) ?_); (try simp -implicitDefEqProofs [-loopQ_n])))))
open Classical in
set_option maxHeartbeats 4000000 in
theorem resame_pure (a b : Evt) (ha : a.data.length ≤ 9223372036854775807) (hb : b.data.length ≤ 9223372036854775807) : Pure Try.prog 52 [.agg (evtC a), .agg (evtC b)] (.bool (decide (a = b))) := by
  obtain ⟨c, x, r, life, time, data⟩ := a
  obtain ⟨c2, x2, r2, life2, time2, data2⟩ := b
  refine pure_of mixed Try.func52 rfl (by kernel_rfl) (of_decide_eq_true rfl) (by kernel_rfl) (vc_run ?_)
  by_cases h5 : c = c2 ∧ x = x2 ∧ r = r2 ∧ life = life2 ∧ time = time2 ∧ data.length = data2.length
  rotate_left
  · have hne : ¬ (⟨c, x, r, life, time, data⟩ : Evt) = ⟨c2, x2, r2, life2, time2, data2⟩ := fun q => h5 (by
      simp only [Evt.mk.injEq] at q
      exact ⟨q.1, q.2.1, q.2.2.1, q.2.2.2.1, q.2.2.2.2.1, by rw [q.2.2.2.2.2]⟩)
    ((try simp -implicitDefEqProofs [-loopQ_n, evtC, tl_iff]) <;> (repeat' (first | (refine condD_dec ?_ ?_ <;> (intro hc; (try simp -implicitDefEqProofs [-loopQ_n, hc, evtC, tl_iff]))) | (refine guardD_dec ?_ ?_ <;> (intro hc; (try simp -implicitDefEqProofs [-loopQ_n, hc, evtC, tl_iff]))) | (refine condD_intro ?_ ?_ <;> (intro hd; have hc := hd; (try simp at hc) <;> (try simp -implicitDefEqProofs [-loopQ_n, hd, hc, evtC, tl_iff]))) | (refine guardD_intro ?_ ?_ <;> (intro hd; have hc := hd; (try simp at hc) <;> (try simp -implicitDefEqProofs [-loopQ_n, hd, hc, evtC, tl_iff]))) | (refine ldD_ep ?_ ?_; (focus kernel_rfl); (try simp -implicitDefEqProofs [-loopQ_n, evtC, tl_iff])))))
    all_goals first | (simp [hne]; done) | (exfalso; simp_all [tl_iff]; done) | (exfalso; simp_all [tl_iff]; omega) | (intro q; subst q; simp_all; done)
  obtain ⟨rfl, rfl, rfl, rfl, rfl, hl⟩ := h5
  have hde : decide ((⟨c, x, r, life, time, data⟩ : Evt) = ⟨c, x, r, life, time, data2⟩) = decide (data = data2) := by simp
  rw [hde]
  obtain ⟨R, hRR⟩ : ∃ R, decide (data = data2) = R := ⟨_, rfl⟩
  rw [hRR]
  ((try simp -implicitDefEqProofs [-loopQ_n, evtC, hl]) <;> (repeat' (first | (refine condD_dec ?_ ?_ <;> (intro hc; (try simp -implicitDefEqProofs [-loopQ_n, hc, evtC, hl]))) | (refine guardD_dec ?_ ?_ <;> (intro hc; (try simp -implicitDefEqProofs [-loopQ_n, hc, evtC, hl]))) | (refine condD_intro ?_ ?_ <;> (intro hd; have hc := hd; (try simp at hc) <;> (try simp -implicitDefEqProofs [-loopQ_n, hd, hc, evtC, hl]))) | (refine guardD_intro ?_ ?_ <;> (intro hd; have hc := hd; (try simp at hc) <;> (try simp -implicitDefEqProofs [-loopQ_n, hd, hc, evtC, hl]))) | (refine ldD_ep ?_ ?_; (focus kernel_rfl); (try simp -implicitDefEqProofs [-loopQ_n, evtC, hl])))))
  refine loop_intro (σ := Nat) (fun i => ⟨[(2, .op 0 0), (3, .op 1 0), (5, .int .i64 i)], [.box 54 [.str c, .str x, .str r, .int .i64 life, .int .i64 time, .rs (rowsOf fldC data)], .box 54 [.str c, .str x, .str r, .int .i64 life, .int .i64 time, .rs (rowsOf fldC data2)]]⟩)
    (fun i => i ≤ data2.length ∧ decide (data.drop i = data2.drop i) = R) (fun i => data2.length - i) 0 ⟨by simp, by simpa using hRR⟩ ?_ ?_
  · refine weak_of 2 0 rfl rfl ?_ ?_ <;> simp
  rintro i ⟨hi, hR⟩
  by_cases h : i < data2.length
  · have w1 := sw_suc h (by omega)
    have g : i < data.length := by omega
    rw [List.drop_eq_getElem_cons g, List.drop_eq_getElem_cons h] at hR
    obtain ⟨⟨n1, ⟨k1, m1, s1⟩⟩, e1⟩ : ∃ e, data[i] = e := ⟨_, rfl⟩
    obtain ⟨⟨n2, ⟨k2, m2, s2⟩⟩, e2⟩ : ∃ e, data2[i] = e := ⟨_, rfl⟩
    rw [e1, e2] at hR
    by_cases e : n1 = n2 ∧ k1 = k2 ∧ m1 = m2 ∧ s1 = s2
    · obtain ⟨rfl, rfl, rfl, rfl⟩ := e
      ((try simp -implicitDefEqProofs [-loopQ_n, h, g, w1, hl, fldC, e1, e2, tl_iff]) <;> (repeat' (first | (refine condD_dec ?_ ?_ <;> (intro hc; (try simp -implicitDefEqProofs [-loopQ_n, hc, h, g, w1, hl, fldC, e1, e2, tl_iff]))) | (refine guardD_dec ?_ ?_ <;> (intro hc; (try simp -implicitDefEqProofs [-loopQ_n, hc, h, g, w1, hl, fldC, e1, e2, tl_iff]))) | (refine condD_intro ?_ ?_ <;> (intro hd; have hc := hd; (try simp at hc) <;> (try simp -implicitDefEqProofs [-loopQ_n, hd, hc, h, g, w1, hl, fldC, e1, e2, tl_iff]))) | (refine guardD_intro ?_ ?_ <;> (intro hd; have hc := hd; (try simp at hc) <;> (try simp -implicitDefEqProofs [-loopQ_n, hd, hc, h, g, w1, hl, fldC, e1, e2, tl_iff]))) | (refine ldD_ep ?_ ?_; (focus kernel_rfl); (try simp -implicitDefEqProofs [-loopQ_n, h, g, w1, hl, fldC, e1, e2, tl_iff])))))
      refine loop_next (i + 1) ⟨h, by rw [← hR]; simp⟩ (by omega) (weak_of 2 0 rfl rfl ?_ ?_) <;> simp
    · have hne : false = R := by
        rw [← hR]; symm; rw [decide_eq_false_iff_not, List.cons.injEq]
        simp only [Fld.mk.injEq, Val.mk.injEq]; exact fun q => e ⟨q.1.1, q.1.2.1, q.1.2.2.1, q.1.2.2.2⟩
      ((try simp -implicitDefEqProofs [-loopQ_n, h, g, w1, hl, fldC, e1, e2, tl_iff]) <;> (repeat' (first | (refine condD_dec ?_ ?_ <;> (intro hc; (try simp -implicitDefEqProofs [-loopQ_n, hc, h, g, w1, hl, fldC, e1, e2, tl_iff]))) | (refine guardD_dec ?_ ?_ <;> (intro hc; (try simp -implicitDefEqProofs [-loopQ_n, hc, h, g, w1, hl, fldC, e1, e2, tl_iff]))) | (refine condD_intro ?_ ?_ <;> (intro hd; have hc := hd; (try simp at hc) <;> (try simp -implicitDefEqProofs [-loopQ_n, hd, hc, h, g, w1, hl, fldC, e1, e2, tl_iff]))) | (refine guardD_intro ?_ ?_ <;> (intro hd; have hc := hd; (try simp at hc) <;> (try simp -implicitDefEqProofs [-loopQ_n, hd, hc, h, g, w1, hl, fldC, e1, e2, tl_iff]))) | (refine ldD_ep ?_ ?_; (focus kernel_rfl); (try simp -implicitDefEqProofs [-loopQ_n, h, g, w1, hl, fldC, e1, e2, tl_iff])))))
      all_goals first | (exact hne.symm) | (exact hne) | (simp [← hne]; done) | (exfalso; simp_all [tl_iff]; done)
  · rw [List.drop_eq_nil_of_le (by omega), List.drop_eq_nil_of_le (by omega)] at hR
    have he : R = true := by rw [← hR]; simp
    ((try simp -implicitDefEqProofs [-loopQ_n, h, hl]) <;> (repeat' (first | (refine condD_dec ?_ ?_ <;> (intro hc; (try simp -implicitDefEqProofs [-loopQ_n, hc, h, hl]))) | (refine guardD_dec ?_ ?_ <;> (intro hc; (try simp -implicitDefEqProofs [-loopQ_n, hc, h, hl]))) | (refine condD_intro ?_ ?_ <;> (intro hd; have hc := hd; (try simp at hc) <;> (try simp -implicitDefEqProofs [-loopQ_n, hd, hc, h, hl]))) | (refine guardD_intro ?_ ?_ <;> (intro hd; have hc := hd; (try simp at hc) <;> (try simp -implicitDefEqProofs [-loopQ_n, hd, hc, h, hl]))) | (refine ldD_ep ?_ ?_; (focus kernel_rfl); (try simp -implicitDefEqProofs [-loopQ_n, h, hl])))))
    exact he
open Classical in
theorem rlsame_pure (a b : List Evt) (ha : ∀ e ∈ a, e.data.length ≤ 9223372036854775807) (hb : ∀ e ∈ b, e.data.length ≤ 9223372036854775807) (la : a.length ≤ 9223372036854775807) (lb : b.length ≤ 9223372036854775807) :
    Pure Try.prog 21 [.agg [.rs (rowsOf evtC a)], .agg [.rs (rowsOf evtC b)]] (.bool (decide (a = b))) := by
  refine pure_of mixed Try.func21 rfl (by kernel_rfl) (of_decide_eq_true rfl) (by kernel_rfl) (vc_run ?_)
  by_cases hl : a.length = b.length
  · ((try simp -implicitDefEqProofs [-loopQ_n, hl]) <;> (repeat' (first | (refine condD_dec ?_ ?_ <;> (intro hc; (try simp -implicitDefEqProofs [-loopQ_n, hc, hl]))) | (refine guardD_dec ?_ ?_ <;> (intro hc; (try simp -implicitDefEqProofs [-loopQ_n, hc, hl]))) | (refine condD_intro ?_ ?_ <;> (intro hd; have hc := hd; (try simp at hc) <;> (try simp -implicitDefEqProofs [-loopQ_n, hd, hc, hl]))) | (refine guardD_intro ?_ ?_ <;> (intro hd; have hc := hd; (try simp at hc) <;> (try simp -implicitDefEqProofs [-loopQ_n, hd, hc, hl]))) | (refine ldD_ep ?_ ?_; (focus kernel_rfl); (try simp -implicitDefEqProofs [-loopQ_n, hl])))))
    refine loop_intro (σ := Nat) (fun i => ⟨[(2, .op 0 0), (3, .op 1 0), (5, .int .i64 i)], [.box 24 [.rs (rowsOf evtC a)], .box 24 [.rs (rowsOf evtC b)]]⟩) (fun i => i ≤ b.length ∧ (a = b ↔ a.drop i = b.drop i)) (fun i => b.length - i) 0 ⟨by omega, by simp⟩ ?_ ?_
    · refine weak_of 2 0 rfl rfl ?_ ?_ <;> simp [hl]
    rintro i ⟨hi, hR⟩
    by_cases h : i < b.length
    · have w1 := sw_suc h (by omega)
      have g : i < a.length := by omega
      have hda := ha a[i] (List.getElem_mem g)
      have hdb := hb b[i] (List.getElem_mem h)
      rw [List.drop_eq_getElem_cons g, List.drop_eq_getElem_cons h, List.cons.injEq] at hR
      obtain ⟨⟨c1, x1, r1, l1, t1, d1⟩, e1⟩ : ∃ e, a[i] = e := ⟨_, rfl⟩
      obtain ⟨⟨c2, x2, r2, l2, t2, d2⟩, e2⟩ : ∃ e, b[i] = e := ⟨_, rfl⟩
      rw [e1, e2] at hR
      rw [e1] at hda
      rw [e2] at hdb
      have hS := resame_pure ⟨c1, x1, r1, l1, t1, d1⟩ ⟨c2, x2, r2, l2, t2, d2⟩ hda hdb
      by_cases e : (⟨c1, x1, r1, l1, t1, d1⟩ : Evt) = ⟨c2, x2, r2, l2, t2, d2⟩
      · rw [decide_eq_true e] at hS
        ((try simp -implicitDefEqProofs [-loopQ_n, h, g, w1, hl, evtC, e1, e2]) <;> (repeat' (first | (refine condD_dec ?_ ?_ <;> (intro hc; (try simp -implicitDefEqProofs [-loopQ_n, hc, h, g, w1, hl, evtC, e1, e2]))) | (refine guardD_dec ?_ ?_ <;> (intro hc; (try simp -implicitDefEqProofs [-loopQ_n, hc, h, g, w1, hl, evtC, e1, e2]))) | (refine condD_intro ?_ ?_ <;> (intro hd; have hc := hd; (try simp at hc) <;> (try simp -implicitDefEqProofs [-loopQ_n, hd, hc, h, g, w1, hl, evtC, e1, e2]))) | (refine guardD_intro ?_ ?_ <;> (intro hd; have hc := hd; (try simp at hc) <;> (try simp -implicitDefEqProofs [-loopQ_n, hd, hc, h, g, w1, hl, evtC, e1, e2]))) | (refine ldD_ep ?_ ?_; (focus kernel_rfl); (try simp -implicitDefEqProofs [-loopQ_n, h, g, w1, hl, evtC, e1, e2])) | (refine callS_mk ?_; (try simp -implicitDefEqProofs [-loopQ_n, h, g, w1, hl, evtC, e1, e2]); (first | refine callS_intro (hS) (.inl rfl) ?_); (try simp -implicitDefEqProofs [-loopQ_n, h, g, w1, hl, evtC, e1, e2])))))
        refine loop_next (i + 1) ⟨h, by rw [hR]; simp [e]⟩ (by omega) (weak_of 2 0 rfl rfl ?_ ?_) <;> simp
      · have hne : ¬ a = b := by rw [hR]; exact fun q => e q.1
        rw [decide_eq_false e] at hS
        ((try simp -implicitDefEqProofs [-loopQ_n, h, g, w1, hl, evtC, e1, e2]) <;> (repeat' (first | (refine condD_dec ?_ ?_ <;> (intro hc; (try simp -implicitDefEqProofs [-loopQ_n, hc, h, g, w1, hl, evtC, e1, e2]))) | (refine guardD_dec ?_ ?_ <;> (intro hc; (try simp -implicitDefEqProofs [-loopQ_n, hc, h, g, w1, hl, evtC, e1, e2]))) | (refine condD_intro ?_ ?_ <;> (intro hd; have hc := hd; (try simp at hc) <;> (try simp -implicitDefEqProofs [-loopQ_n, hd, hc, h, g, w1, hl, evtC, e1, e2]))) | (refine guardD_intro ?_ ?_ <;> (intro hd; have hc := hd; (try simp at hc) <;> (try simp -implicitDefEqProofs [-loopQ_n, hd, hc, h, g, w1, hl, evtC, e1, e2]))) | (refine ldD_ep ?_ ?_; (focus kernel_rfl); (try simp -implicitDefEqProofs [-loopQ_n, h, g, w1, hl, evtC, e1, e2])) | (refine callS_mk ?_; (try simp -implicitDefEqProofs [-loopQ_n, h, g, w1, hl, evtC, e1, e2]); (first | refine callS_intro (hS) (.inl rfl) ?_); (try simp -implicitDefEqProofs [-loopQ_n, h, g, w1, hl, evtC, e1, e2])))))
        simp [hne]
    · rw [List.drop_eq_nil_of_le (by omega), List.drop_eq_nil_of_le (by omega)] at hR
      have he : a = b := hR.2 rfl
      ((try simp -implicitDefEqProofs [-loopQ_n, h, hl]) <;> (repeat' (first | (refine condD_dec ?_ ?_ <;> (intro hc; (try simp -implicitDefEqProofs [-loopQ_n, hc, h, hl]))) | (refine guardD_dec ?_ ?_ <;> (intro hc; (try simp -implicitDefEqProofs [-loopQ_n, hc, h, hl]))) | (refine condD_intro ?_ ?_ <;> (intro hd; have hc := hd; (try simp at hc) <;> (try simp -implicitDefEqProofs [-loopQ_n, hd, hc, h, hl]))) | (refine guardD_intro ?_ ?_ <;> (intro hd; have hc := hd; (try simp at hc) <;> (try simp -implicitDefEqProofs [-loopQ_n, hd, hc, h, hl]))) | (refine ldD_ep ?_ ?_; (focus kernel_rfl); (try simp -implicitDefEqProofs [-loopQ_n, h, hl])))))
      simp [he]
  · have hl' : ¬ (a.length : Int) = b.length := by omega
    have hne : ¬ a = b := fun e => hl (by rw [e])
    ((try simp -implicitDefEqProofs [-loopQ_n, hl']) <;> (repeat' (first | (refine condD_dec ?_ ?_ <;> (intro hc; (try simp -implicitDefEqProofs [-loopQ_n, hc, hl']))) | (refine guardD_dec ?_ ?_ <;> (intro hc; (try simp -implicitDefEqProofs [-loopQ_n, hc, hl']))) | (refine condD_intro ?_ ?_ <;> (intro hd; have hc := hd; (try simp at hc) <;> (try simp -implicitDefEqProofs [-loopQ_n, hd, hc, hl']))) | (refine guardD_intro ?_ ?_ <;> (intro hd; have hc := hd; (try simp at hc) <;> (try simp -implicitDefEqProofs [-loopQ_n, hd, hc, hl']))) | (refine ldD_ep ?_ ?_; (focus kernel_rfl); (try simp -implicitDefEqProofs [-loopQ_n, hl'])))))
    simp [hne]
/-! Few strings, few variants. -/
def bigS (s : ByteArray) : Bool := decide ((60 : Int) < s.size)
def fewB (l : List ByteArray) : Bool := decide ((l.length : Int) ≤ 20) && !l.any bigS
def fewV (l : List Vr) : Bool := decide ((l.length : Int) ≤ 20) && !l.any fun v => !fewB v.acts
theorem few1_pure (s : ByteArray) : Pure Try.prog 64 [.str s] (.bool (bigS s)) := by
  refine pure_of mixed Try.func64 rfl (by kernel_rfl) (of_decide_eq_true rfl) (by kernel_rfl) (vc_run ?_)
  ((try simp -implicitDefEqProofs [-loopQ_n]) <;> (repeat' (first | (refine condD_dec ?_ ?_ <;> (intro hc; (try simp -implicitDefEqProofs [-loopQ_n, hc]))) | (refine guardD_dec ?_ ?_ <;> (intro hc; (try simp -implicitDefEqProofs [-loopQ_n, hc]))) | (refine condD_intro ?_ ?_ <;> (intro hd; have hc := hd; (try simp at hc) <;> (try simp -implicitDefEqProofs [-loopQ_n, hd, hc]))) | (refine guardD_intro ?_ ?_ <;> (intro hd; have hc := hd; (try simp at hc) <;> (try simp -implicitDefEqProofs [-loopQ_n, hd, hc]))) | (refine ldD_ep ?_ ?_; (focus kernel_rfl); (try simp -implicitDefEqProofs [-loopQ_n]))))) <;> simp [bigS, *]
theorem few_pure (l : List ByteArray) (hl : l.length ≤ 9223372036854775807) : Pure Try.prog 33 [.rs (rowsOf strC l)] (.bool (fewB l)) := by
  refine pure_of mixed Try.func33 rfl (by kernel_rfl) (of_decide_eq_true rfl) (by kernel_rfl) (vc_run ?_)
  ((try simp -implicitDefEqProofs [-loopQ_n]) <;> (repeat' (first | (refine condD_dec ?_ ?_ <;> (intro hc; (try simp -implicitDefEqProofs [-loopQ_n, hc]))) | (refine guardD_dec ?_ ?_ <;> (intro hc; (try simp -implicitDefEqProofs [-loopQ_n, hc]))) | (refine condD_intro ?_ ?_ <;> (intro hd; have hc := hd; (try simp at hc) <;> (try simp -implicitDefEqProofs [-loopQ_n, hd, hc]))) | (refine guardD_intro ?_ ?_ <;> (intro hd; have hc := hd; (try simp at hc) <;> (try simp -implicitDefEqProofs [-loopQ_n, hd, hc]))) | (refine ldD_ep ?_ ?_; (focus kernel_rfl); (try simp -implicitDefEqProofs [-loopQ_n])) | (refine callS_mk ?_; (try simp -implicitDefEqProofs [-loopQ_n]); (first | refine callS_intro (nmE_any (p := bigS) (l := l) (g := 64) (caps := []) (fun x _ => few1_pure x) (fun H k => rfl) rfl hl) (.inl rfl) ?_); (try simp -implicitDefEqProofs [-loopQ_n])))))
  all_goals simp [fewB, *]
theorem cfVr_idx {p : Vr → Bool} {l : List Vr} {g : Nat} {caps : List AV} (hp : ∀ x ∈ l, Pure Try.prog g (.agg (vrC x) :: caps) (.bool (p x))) (hc : ∀ H k, caps.mapM (reify H (k + 5)) = some caps) (hf : refsL 0 caps = true) (hl : l.length ≤ 9223372036854775807) :
    Pure Try.prog 70 [.rs (rowsOf vrC l), .fn g caps] (.int .i64 (idxOf p l)) := by
  refine pure_of mixed Try.func70 rfl (by kernel_rfl) (of_decide_eq_true rfl) (by kernel_rfl) (vc_run ?_)
  simp -implicitDefEqProofs
  refine loop_intro (σ := Nat) (fun i => ⟨[(0, .rs (rowsOf vrC l)), (1, .fn g caps), (7, .int .i64 l.length), (8, .int .i64 i)], []⟩) (fun i => i ≤ l.length ∧ allF p (l.take i)) (fun i => l.length - i) 0 ⟨Nat.zero_le _, allF_nil⟩ ?_ ?_
  · refine weak_of 0 0 rfl rfl ?_ ?_ <;> simp [hf]
  · rintro i ⟨hi, hall⟩
    by_cases h : i < l.length
    · simp -implicitDefEqProofs [h, vrC]
      have hc8 : ∀ H, caps.mapM (reify H 8) = some caps := fun H => hc H 3
      refine call_intro (hp l[i] (by simp)) (by simp -implicitDefEqProofs [hc8, vrC]) (.inl rfl) ?_
      by_cases hpx : p l[i] = true
      · simp -implicitDefEqProofs [hpx]
        exact (idxOf_some p l i h hall hpx).symm
      · have hpx : p l[i] = false := by simpa using hpx
        simp -implicitDefEqProofs [hpx]
        refine ⟨i + 1, ⟨by omega, allF_succ hall h hpx⟩, by omega, weak_of 0 0 rfl rfl ?_ ?_⟩
        · simp [hf]
          exact (wrap_in (by omega) (by omega)).symm
        · simp
    · simp -implicitDefEqProofs [h]
      rw [idxOf_none p l (allF_all hall h)]
theorem cfVr_any {p : Vr → Bool} {l : List Vr} {g : Nat} {caps : List AV} (hp : ∀ x ∈ l, Pure Try.prog g (.agg (vrC x) :: caps) (.bool (p x))) (hc : ∀ H k, caps.mapM (reify H (k + 5)) = some caps) (hf : refsL 0 caps = true) (hl : l.length ≤ 9223372036854775807) :
    Pure Try.prog 43 [.rs (rowsOf vrC l), .fn g caps] (.bool (l.any p)) := by
  refine pure_of mixed Try.func43 rfl (by kernel_rfl) (of_decide_eq_true rfl) (by kernel_rfl) (vc_run ?_)
  simp -implicitDefEqProofs
  have hc7 : ∀ H, caps.mapM (reify H 7) = some caps := fun H => hc H 2
  refine call_intro (cfVr_idx hp hc hf hl) (by simp -implicitDefEqProofs [hc7]) (.inl rfl) ?_
  simp -implicitDefEqProofs
  rw [← ge_idxOf]

theorem fewv1_pure (v : Vr) (hl : v.acts.length ≤ 9223372036854775807) : Pure Try.prog 44 [.agg (vrC v)] (.bool (!fewB v.acts)) := by
  obtain ⟨ac, n⟩ := v
  refine pure_of mixed Try.func44 rfl (by kernel_rfl) (of_decide_eq_true rfl) (by kernel_rfl) (vc_run ?_)
  ((try simp -implicitDefEqProofs [-loopQ_n, vrC]) <;> (repeat' (first | (refine condD_dec ?_ ?_ <;> (intro hc; (try simp -implicitDefEqProofs [-loopQ_n, hc, vrC]))) | (refine guardD_dec ?_ ?_ <;> (intro hc; (try simp -implicitDefEqProofs [-loopQ_n, hc, vrC]))) | (refine condD_intro ?_ ?_ <;> (intro hd; have hc := hd; (try simp at hc) <;> (try simp -implicitDefEqProofs [-loopQ_n, hd, hc, vrC]))) | (refine guardD_intro ?_ ?_ <;> (intro hd; have hc := hd; (try simp at hc) <;> (try simp -implicitDefEqProofs [-loopQ_n, hd, hc, vrC]))) | (refine ldD_ep ?_ ?_; (focus kernel_rfl); (try simp -implicitDefEqProofs [-loopQ_n, vrC])) | (refine callS_mk ?_; (try simp -implicitDefEqProofs [-loopQ_n, vrC]); (first | refine callS_intro (few_pure ac hl) (.inl rfl) ?_); (try simp -implicitDefEqProofs [-loopQ_n, vrC])))))
theorem fewV_pure (l : List Vr) (hl : l.length ≤ 9223372036854775807) (hd : ∀ v ∈ l, v.acts.length ≤ 9223372036854775807) : Pure Try.prog 16 [.rs (rowsOf vrC l)] (.bool (fewV l)) := by
  refine pure_of mixed Try.func16 rfl (by kernel_rfl) (of_decide_eq_true rfl) (by kernel_rfl) (vc_run ?_)
  ((try simp -implicitDefEqProofs [-loopQ_n]) <;> (repeat' (first | (refine condD_dec ?_ ?_ <;> (intro hc; (try simp -implicitDefEqProofs [-loopQ_n, hc]))) | (refine guardD_dec ?_ ?_ <;> (intro hc; (try simp -implicitDefEqProofs [-loopQ_n, hc]))) | (refine condD_intro ?_ ?_ <;> (intro hd; have hc := hd; (try simp at hc) <;> (try simp -implicitDefEqProofs [-loopQ_n, hd, hc]))) | (refine guardD_intro ?_ ?_ <;> (intro hd; have hc := hd; (try simp at hc) <;> (try simp -implicitDefEqProofs [-loopQ_n, hd, hc]))) | (refine ldD_ep ?_ ?_; (focus kernel_rfl); (try simp -implicitDefEqProofs [-loopQ_n])) | (refine callS_mk ?_; (try simp -implicitDefEqProofs [-loopQ_n]); (first | refine callS_intro (cfVr_any (p := fun v => !fewB v.acts) (l := l) (g := 44) (caps := []) (fun x hx => fewv1_pure x (hd x hx)) (fun H k => rfl) rfl hl) (.inl rfl) ?_); (try simp -implicitDefEqProofs [-loopQ_n])))))
  all_goals simp [fewV, *]
end Go.Proofs.Ytnldjmokemgaoaa
