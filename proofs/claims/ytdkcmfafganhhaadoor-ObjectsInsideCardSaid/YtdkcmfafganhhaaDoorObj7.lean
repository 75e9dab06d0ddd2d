/- References that two events have in common; divergence (both sides). -/
import Derived.Test.YtdkcmfafganhhaaDoorObj6
import Derived.Test.YtdkcmfafganhhaaDoorMapL
namespace Go.Proofs.YtdkcmfafganhhaaDoor
set_option linter.unusedSimpArgs false
set_option linter.unusedVariables false
set_option linter.unnecessarySimpa false
set_option linter.unusedSectionVars false
open Go.RowKit
variable [Glob]
set_option maxRecDepth 100000
def eqR (x y : Rf) : Bool := x.a.toList == y.a.toList && x.b.toList == y.b.toList
theorem ba_ext {x y : ByteArray} (h : x.toList = y.toList) : x = y := by
  rw [ba_toList, ba_toList] at h
  cases x; cases y; simp_all
theorem eqR_iff {x y : Rf} : eqR x y = true ↔ x = y := by
  cases x; cases y
  simp only [eqR, Bool.and_eq_true, beq_iff_eq, Rf.mk.injEq]
  exact ⟨fun h => ⟨ba_ext h.1, ba_ext h.2⟩, fun h => ⟨by rw [h.1], by rw [h.2]⟩⟩
instance : DecidableEq Rf := fun x y => decidable_of_iff (eqR x y = true) eqR_iff
theorem eqR_dec {x y : Rf} : eqR x y = decide (x = y) := by rw [Bool.eq_iff_iff]; simp [eqR_iff]
theorem cfRef_idx {p : Rf → Bool} {l : List Rf} {g : Nat} {caps : List AV} (hp : ∀ x ∈ l, Pure Tryd.prog g (.agg (refC x) :: caps) (.bool (p x))) (hc : ∀ H k, caps.mapM (reify H (k + 5)) = some caps) (hf : refsL 0 caps = true) (hl : l.length ≤ 9223372036854775807) :
    Pure Tryd.prog 49 [.rs (rowsOf refC l), .fn g caps] (.int .i64 (idxOf p l)) := by
  refine pure_of mixed Tryd.func49 rfl (by kernel_rfl) (of_decide_eq_true rfl) (by kernel_rfl) (vc_run ?_)
  simp -implicitDefEqProofs
  refine loop_intro (σ := Nat) (fun i => ⟨[(0, .rs (rowsOf refC l)), (1, .fn g caps), (7, .int .i64 l.length), (8, .int .i64 i)], []⟩) (fun i => i ≤ l.length ∧ allF p (l.take i)) (fun i => l.length - i) 0 ⟨Nat.zero_le _, allF_nil⟩ ?_ ?_
  · refine weak_of 0 0 rfl rfl ?_ ?_ <;> simp [hf]
  · rintro i ⟨hi, hall⟩
    by_cases h : i < l.length
    · simp -implicitDefEqProofs [h, refC]
      have hc8 : ∀ H, caps.mapM (reify H 8) = some caps := fun H => hc H 3
      refine call_intro (hp l[i] (by simp)) (by simp -implicitDefEqProofs [hc8, refC]) (.inl rfl) ?_
      by_cases hpx : p l[i] = true
      · simp -implicitDefEqProofs [hpx]
        exact (idxOf_some p l i h hall hpx).symm
      · have hpx : p l[i] = false := by simpa using hpx
        simp -implicitDefEqProofs [hpx]
        refine ⟨i + 1, ⟨by omega, allF_succ hall h hpx⟩, by omega, weak_of 0 0 rfl rfl ?_ ?_⟩
        · simp [hf]
          exact (wrap_in (by omega) (by omega)).symm
        · simp
    · simp -implicitDefEqProofs [h]
      rw [idxOf_none p l (allF_all hall h)]
theorem cfRef_any {p : Rf → Bool} {l : List Rf} {g : Nat} {caps : List AV} (hp : ∀ x ∈ l, Pure Tryd.prog g (.agg (refC x) :: caps) (.bool (p x))) (hc : ∀ H k, caps.mapM (reify H (k + 5)) = some caps) (hf : refsL 0 caps = true) (hl : l.length ≤ 9223372036854775807) :
    Pure Tryd.prog 24 [.rs (rowsOf refC l), .fn g caps] (.bool (l.any p)) := by
  refine pure_of mixed Tryd.func24 rfl (by kernel_rfl) (of_decide_eq_true rfl) (by kernel_rfl) (vc_run ?_)
  simp -implicitDefEqProofs
  have hc7 : ∀ H, caps.mapM (reify H 7) = some caps := fun H => hc H 2
  refine call_intro (cfRef_idx hp hc hf hl) (by simp -implicitDefEqProofs [hc7]) (.inl rfl) ?_
  simp -implicitDefEqProofs
  rw [← ge_idxOf]

set_option maxHeartbeats 8000000 in
theorem rfIndex_pure (l : List Rf) (a b : ByteArray) (hl : l.length ≤ 9223372036854775807) : Pure Tryd.prog 79 [.rs (rowsOf refC l), .agg [.str a, .str b]] (.int .i64 (idxOf (eqR ⟨a, b⟩) l)) := by
  refine pure_of mixed Tryd.func79 rfl (by kernel_rfl) (of_decide_eq_true rfl) (by kernel_rfl) (vc_run ?_)
  ((try simp -implicitDefEqProofs [-loopQ_n]) <;> (repeat' (first | (refine condD_dec ?_ ?_ <;> (intro hc; (try simp -implicitDefEqProofs [-loopQ_n, hc]))) | (refine guardD_dec ?_ ?_ <;> (intro hc; (try simp -implicitDefEqProofs [-loopQ_n, hc]))) | (refine condD_intro ?_ ?_ <;> (intro hd; have hc := hd; (try simp at hc) <;> (try simp -implicitDefEqProofs [-loopQ_n, hd, hc]))) | (refine guardD_intro ?_ ?_ <;> (intro hd; have hc := hd; (try simp at hc) <;> (try simp -implicitDefEqProofs [-loopQ_n, hd, hc]))) | (refine ldD_ep ?_ ?_; (focus kernel_rfl); (try simp -implicitDefEqProofs [-loopQ_n])))))
  refine loop_intro (σ := Nat) (fun i => ⟨[(0, .rs (rowsOf refC l)), (3, .op 0 0), (7, .int .i64 l.length), (8, .int .i64 i)], [.box 53 [.str a, .str b]]⟩) (fun i => i ≤ l.length ∧ allF (eqR ⟨a, b⟩) (l.take i)) (fun i => l.length - i) 0 ⟨Nat.zero_le _, allF_nil⟩ ?_ ?_
  · refine weak_of 1 0 rfl rfl ?_ ?_ <;> simp
  · rintro i ⟨hi, hall⟩
    by_cases h : i < l.length
    · obtain ⟨⟨c, d⟩, hf⟩ : ∃ e, l[i] = e := ⟨_, rfl⟩
      have w1 := w_succ h hl
      ((try simp -implicitDefEqProofs [-loopQ_n, h, hf, refC]) <;> (repeat' (first | (refine condD_dec ?_ ?_ <;> (intro hc; (try simp -implicitDefEqProofs [-loopQ_n, hc, h, hf, refC]))) | (refine guardD_dec ?_ ?_ <;> (intro hc; (try simp -implicitDefEqProofs [-loopQ_n, hc, h, hf, refC]))) | (refine condD_intro ?_ ?_ <;> (intro hd; have hc := hd; (try simp at hc) <;> (try simp -implicitDefEqProofs [-loopQ_n, hd, hc, h, hf, refC]))) | (refine guardD_intro ?_ ?_ <;> (intro hd; have hc := hd; (try simp at hc) <;> (try simp -implicitDefEqProofs [-loopQ_n, hd, hc, h, hf, refC]))) | (refine ldD_ep ?_ ?_; (focus kernel_rfl); (try simp -implicitDefEqProofs [-loopQ_n, h, hf, refC])))))
      · rw [idxOf_some _ l i h hall (by rw [hf]; simp_all [eqR])]
      · refine loop_next (i + 1) ⟨by omega, allF_succ hall h (by rw [hf]; clear hall; simp_all [eqR])⟩ (by omega) (weak_of 1 0 rfl rfl ?_ ?_) <;> simp [w1]
    · ((try simp -implicitDefEqProofs [-loopQ_n, h]) <;> (repeat' (first | (refine condD_dec ?_ ?_ <;> (intro hc; (try simp -implicitDefEqProofs [-loopQ_n, hc, h]))) | (refine guardD_dec ?_ ?_ <;> (intro hc; (try simp -implicitDefEqProofs [-loopQ_n, hc, h]))) | (refine condD_intro ?_ ?_ <;> (intro hd; have hc := hd; (try simp at hc) <;> (try simp -implicitDefEqProofs [-loopQ_n, hd, hc, h]))) | (refine guardD_intro ?_ ?_ <;> (intro hd; have hc := hd; (try simp at hc) <;> (try simp -implicitDefEqProofs [-loopQ_n, hd, hc, h]))) | (refine ldD_ep ?_ ?_; (focus kernel_rfl); (try simp -implicitDefEqProofs [-loopQ_n, h])))))
      rw [idxOf_none _ l (allF_all hall h)]
theorem rfContains_pure (l : List Rf) (a b : ByteArray) (hl : l.length ≤ 9223372036854775807) : Pure Tryd.prog 62 [.rs (rowsOf refC l), .agg [.str a, .str b]] (.bool (l.any (eqR ⟨a, b⟩))) := by
  refine pure_of mixed Tryd.func62 rfl (by kernel_rfl) (of_decide_eq_true rfl) (by kernel_rfl) (vc_run ?_)
  ((try simp -implicitDefEqProofs [-loopQ_n]) <;> (repeat' (first | (refine condD_dec ?_ ?_ <;> (intro hc; (try simp -implicitDefEqProofs [-loopQ_n, hc]))) | (refine guardD_dec ?_ ?_ <;> (intro hc; (try simp -implicitDefEqProofs [-loopQ_n, hc]))) | (refine condD_intro ?_ ?_ <;> (intro hd; have hc := hd; (try simp at hc) <;> (try simp -implicitDefEqProofs [-loopQ_n, hd, hc]))) | (refine guardD_intro ?_ ?_ <;> (intro hd; have hc := hd; (try simp at hc) <;> (try simp -implicitDefEqProofs [-loopQ_n, hd, hc]))) | (refine ldD_ep ?_ ?_; (focus kernel_rfl); (try simp -implicitDefEqProofs [-loopQ_n])) | (refine callS_mk ?_; (try simp -implicitDefEqProofs [-loopQ_n]); (first | refine callS_intro (rfIndex_pure _ _ _ hl) (.inl rfl) ?_); (try simp -implicitDefEqProofs [-loopQ_n])))))
  rw [← ge_idxOf]
/-- Is there another common one? -/
def othR (b : List Rf) (r : Rf) (x : Rf) : Bool := !eqR x r && b.any (eqR x)
theorem ocommon1_pure (x1 x2 act : ByteArray) (time : Int) (refs : List Rf) (a b : ByteArray) (hl : refs.length ≤ 9223372036854775807) : Pure Tryd.prog 61 [.agg [.str x1, .str x2], .rp [.str a, .str b], .rp [.str act, .int .i64 time, .rs (rowsOf refC refs)]] (.bool (othR refs ⟨a, b⟩ ⟨x1, x2⟩)) := by
  refine pure_of mixed Tryd.func61 rfl (by kernel_rfl) (of_decide_eq_true rfl) (by kernel_rfl) (vc_run ?_)
  ((try simp -implicitDefEqProofs [-loopQ_n]) <;> (repeat' (first | (refine condD_dec ?_ ?_ <;> (intro hc; (try simp -implicitDefEqProofs [-loopQ_n, hc]))) | (refine guardD_dec ?_ ?_ <;> (intro hc; (try simp -implicitDefEqProofs [-loopQ_n, hc]))) | (refine condD_intro ?_ ?_ <;> (intro hd; have hc := hd; (try simp at hc) <;> (try simp -implicitDefEqProofs [-loopQ_n, hd, hc]))) | (refine guardD_intro ?_ ?_ <;> (intro hd; have hc := hd; (try simp at hc) <;> (try simp -implicitDefEqProofs [-loopQ_n, hd, hc]))) | (refine ldD_ep ?_ ?_; (focus kernel_rfl); (try simp -implicitDefEqProofs [-loopQ_n])) | (refine callS_mk ?_; (try simp -implicitDefEqProofs [-loopQ_n]); (first | refine callS_intro (rfContains_pure _ _ _ hl) (.inl rfl) ?_); (try simp -implicitDefEqProofs [-loopQ_n])))))
  all_goals (simp_all [othR, eqR])
theorem ocommon_pure (a1 a2 : ByteArray) (t1 t2 : Int) (r1 r2 : List Rf) (a b : ByteArray) (h1 : r1.length ≤ 20) (h2 : r2.length ≤ 20) : Pure Tryd.prog 47 [.agg [.str a1, .int .i64 t1, .rs (rowsOf refC r1)], .agg [.str a2, .int .i64 t2, .rs (rowsOf refC r2)], .agg [.str a, .str b]] (.bool (r1.any (othR r2 ⟨a, b⟩))) := by
  refine pure_of mixed Tryd.func47 rfl (by kernel_rfl) (of_decide_eq_true rfl) (by kernel_rfl) (vc_run ?_)
  ((try simp -implicitDefEqProofs [-loopQ_n]) <;> (repeat' (first | (refine condD_dec ?_ ?_ <;> (intro hc; (try simp -implicitDefEqProofs [-loopQ_n, hc]))) | (refine guardD_dec ?_ ?_ <;> (intro hc; (try simp -implicitDefEqProofs [-loopQ_n, hc]))) | (refine condD_intro ?_ ?_ <;> (intro hd; have hc := hd; (try simp at hc) <;> (try simp -implicitDefEqProofs [-loopQ_n, hd, hc]))) | (refine guardD_intro ?_ ?_ <;> (intro hd; have hc := hd; (try simp at hc) <;> (try simp -implicitDefEqProofs [-loopQ_n, hd, hc]))) | (refine ldD_ep ?_ ?_; (focus kernel_rfl); (try simp -implicitDefEqProofs [-loopQ_n])))))
  refine call_a (by simp -implicitDefEqProofs) (cfRef_any (p := othR r2 ⟨a, b⟩) (l := r1) (g := 61) (caps := [.rp [.str a, .str b], .rp [.str a2, .int .i64 t2, .rs (rowsOf refC r2)]]) (fun x _ => ocommon1_pure x.a x.b a2 t2 r2 a b (by omega)) (fun H k => by simp) (by simp) (by omega)) (.inl rfl) ?_
  ((try simp -implicitDefEqProofs [-loopQ_n]) <;> (repeat' (first | (refine condD_dec ?_ ?_ <;> (intro hc; (try simp -implicitDefEqProofs [-loopQ_n, hc]))) | (refine guardD_dec ?_ ?_ <;> (intro hc; (try simp -implicitDefEqProofs [-loopQ_n, hc]))) | (refine condD_intro ?_ ?_ <;> (intro hd; have hc := hd; (try simp at hc) <;> (try simp -implicitDefEqProofs [-loopQ_n, hd, hc]))) | (refine guardD_intro ?_ ?_ <;> (intro hd; have hc := hd; (try simp at hc) <;> (try simp -implicitDefEqProofs [-loopQ_n, hd, hc]))) | (refine ldD_ep ?_ ?_; (focus kernel_rfl); (try simp -implicitDefEqProofs [-loopQ_n])))))
def hasR (l : List Rf) (r : Rf) : Bool := l.any fun x => eqR x r
set_option maxHeartbeats 8000000 in
theorem rrefers_pure (act : ByteArray) (time : Int) (l : List Rf) (a b : ByteArray) (hl : l.length ≤ 20) : Pure Tryd.prog 65 [.agg [.str act, .int .i64 time, .rs (rowsOf refC l)], .agg [.str a, .str b]] (.bool (hasR l ⟨a, b⟩)) := by
  refine pure_of mixed Tryd.func65 rfl (by kernel_rfl) (of_decide_eq_true rfl) (by kernel_rfl) (vc_run ?_)
  ((try simp -implicitDefEqProofs [-loopQ_n]) <;> (repeat' (first | (refine condD_dec ?_ ?_ <;> (intro hc; (try simp -implicitDefEqProofs [-loopQ_n, hc]))) | (refine guardD_dec ?_ ?_ <;> (intro hc; (try simp -implicitDefEqProofs [-loopQ_n, hc]))) | (refine condD_intro ?_ ?_ <;> (intro hd; have hc := hd; (try simp at hc) <;> (try simp -implicitDefEqProofs [-loopQ_n, hd, hc]))) | (refine guardD_intro ?_ ?_ <;> (intro hd; have hc := hd; (try simp at hc) <;> (try simp -implicitDefEqProofs [-loopQ_n, hd, hc]))) | (refine ldD_ep ?_ ?_; (focus kernel_rfl); (try simp -implicitDefEqProofs [-loopQ_n])))))
  refine loop_intro (σ := Nat) (fun i => ⟨[(2, .op 0 0), (3, .op 1 0), (5, .int .i64 i)], [.box 48 [.str act, .int .i64 time, .rs (rowsOf refC l)], .box 53 [.str a, .str b]]⟩) (fun i => i ≤ l.length ∧ hasR (l.drop i) ⟨a, b⟩ = hasR l ⟨a, b⟩) (fun i => l.length - i) 0 ⟨Nat.zero_le _, rfl⟩ ?_ ?_
  · refine weak_of 2 0 rfl rfl ?_ ?_ <;> simp
  · rintro i ⟨hi, hR⟩
    by_cases h : i < l.length
    · obtain ⟨⟨c, d⟩, hf⟩ : ∃ e, l[i] = e := ⟨_, rfl⟩
      have w1 := w_succ h (by omega)
      rw [List.drop_eq_getElem_cons h, hf, hasR, List.any_cons] at hR
      ((try simp -implicitDefEqProofs [-loopQ_n, h, hf, refC]) <;> (repeat' (first | (refine condD_dec ?_ ?_ <;> (intro hc; (try simp -implicitDefEqProofs [-loopQ_n, hc, h, hf, refC]))) | (refine guardD_dec ?_ ?_ <;> (intro hc; (try simp -implicitDefEqProofs [-loopQ_n, hc, h, hf, refC]))) | (refine condD_intro ?_ ?_ <;> (intro hd; have hc := hd; (try simp at hc) <;> (try simp -implicitDefEqProofs [-loopQ_n, hd, hc, h, hf, refC]))) | (refine guardD_intro ?_ ?_ <;> (intro hd; have hc := hd; (try simp at hc) <;> (try simp -implicitDefEqProofs [-loopQ_n, hd, hc, h, hf, refC]))) | (refine ldD_ep ?_ ?_; (focus kernel_rfl); (try simp -implicitDefEqProofs [-loopQ_n, h, hf, refC])))))
      · rw [← hR]; simp_all [eqR]
      · refine loop_next (i + 1) ⟨by omega, by rw [← hR]; clear hR; simp_all [eqR, hasR]⟩ (by omega) (weak_of 2 0 rfl rfl ?_ ?_) <;> simp [w1]
    · rw [List.drop_eq_nil_of_le (by omega)] at hR
      ((try simp -implicitDefEqProofs [-loopQ_n, h]) <;> (repeat' (first | (refine condD_dec ?_ ?_ <;> (intro hc; (try simp -implicitDefEqProofs [-loopQ_n, hc, h]))) | (refine guardD_dec ?_ ?_ <;> (intro hc; (try simp -implicitDefEqProofs [-loopQ_n, hc, h]))) | (refine condD_intro ?_ ?_ <;> (intro hd; have hc := hd; (try simp at hc) <;> (try simp -implicitDefEqProofs [-loopQ_n, hd, hc, h]))) | (refine guardD_intro ?_ ?_ <;> (intro hd; have hc := hd; (try simp at hc) <;> (try simp -implicitDefEqProofs [-loopQ_n, hd, hc, h]))) | (refine ldD_ep ?_ ?_; (focus kernel_rfl); (try simp -implicitDefEqProofs [-loopQ_n, h])))))
      rw [← hR]; rfl
/-- How many references two events share. -/
def comR (b : List Rf) : List Rf → Nat
  | [] => 0
  | x :: r => (if hasR b x = true then 1 else 0) + comR b r
theorem comR_le (b : List Rf) : ∀ l, comR b l ≤ l.length := by
  intro l
  induction l with
  | nil => simp [comR]
  | cons x r ih => simp only [comR, List.length_cons]; split <;> omega
set_option maxHeartbeats 8000000 in
theorem rcommon_pure (a1 a2 : ByteArray) (t1 t2 : Int) (r1 r2 : List Rf) (h1 : r1.length ≤ 20) (h2 : r2.length ≤ 20) : Pure Tryd.prog 55 [.agg [.str a1, .int .i64 t1, .rs (rowsOf refC r1)], .agg [.str a2, .int .i64 t2, .rs (rowsOf refC r2)]] (.int .i64 (comR r2 r1 : Nat)) := by
  refine pure_of mixed Tryd.func55 rfl (by kernel_rfl) (of_decide_eq_true rfl) (by kernel_rfl) (vc_run ?_)
  ((try simp -implicitDefEqProofs [-loopQ_n]) <;> (repeat' (first | (refine condD_dec ?_ ?_ <;> (intro hc; (try simp -implicitDefEqProofs [-loopQ_n, hc]))) | (refine guardD_dec ?_ ?_ <;> (intro hc; (try simp -implicitDefEqProofs [-loopQ_n, hc]))) | (refine condD_intro ?_ ?_ <;> (intro hd; have hc := hd; (try simp at hc) <;> (try simp -implicitDefEqProofs [-loopQ_n, hd, hc]))) | (refine guardD_intro ?_ ?_ <;> (intro hd; have hc := hd; (try simp at hc) <;> (try simp -implicitDefEqProofs [-loopQ_n, hd, hc]))) | (refine ldD_ep ?_ ?_; (focus kernel_rfl); (try simp -implicitDefEqProofs [-loopQ_n])))))
  have hle := comR_le r2 r1
  refine loop_intro (σ := Nat × Nat) (fun x => ⟨[(2, .op 0 0), (3, .op 1 0), (5, .int .i64 x.2), (6, .int .i64 x.1)], [.box 48 [.str a1, .int .i64 t1, .rs (rowsOf refC r1)], .box 48 [.str a2, .int .i64 t2, .rs (rowsOf refC r2)]]⟩) (fun x => x.1 ≤ r1.length ∧ x.2 + comR r2 (r1.drop x.1) = comR r2 r1) (fun x => r1.length - x.1) (0, 0) ⟨by simp, by simp⟩ ?_ ?_
  · refine weak_of 2 0 rfl rfl ?_ ?_ <;> simp
  · rintro ⟨i, n⟩ ⟨hi, hR⟩
    simp only at hi hR
    by_cases h : i < r1.length
    · obtain ⟨⟨c, d⟩, hf⟩ : ∃ e, r1[i] = e := ⟨_, rfl⟩
      have w1 := w_succ h (by omega)
      rw [List.drop_eq_getElem_cons h, hf, comR] at hR
      ((try simp -implicitDefEqProofs [-loopQ_n, h, hf, refC]) <;> (repeat' (first | (refine condD_dec ?_ ?_ <;> (intro hc; (try simp -implicitDefEqProofs [-loopQ_n, hc, h, hf, refC]))) | (refine guardD_dec ?_ ?_ <;> (intro hc; (try simp -implicitDefEqProofs [-loopQ_n, hc, h, hf, refC]))) | (refine condD_intro ?_ ?_ <;> (intro hd; have hc := hd; (try simp at hc) <;> (try simp -implicitDefEqProofs [-loopQ_n, hd, hc, h, hf, refC]))) | (refine guardD_intro ?_ ?_ <;> (intro hd; have hc := hd; (try simp at hc) <;> (try simp -implicitDefEqProofs [-loopQ_n, hd, hc, h, hf, refC]))) | (refine ldD_ep ?_ ?_; (focus kernel_rfl); (try simp -implicitDefEqProofs [-loopQ_n, h, hf, refC])) | (refine callS_mk ?_; (try simp -implicitDefEqProofs [-loopQ_n, h, hf, refC]); (first | refine callS_intro (rrefers_pure _ _ _ c d h2) (.inl rfl) ?_); (try simp -implicitDefEqProofs [-loopQ_n, h, hf, refC])))))
      · have w2 : wrapI .i64 ((n : Int) + 1) = ((n + 1 : Nat) : Int) := by rw [wrap_in (by omega) (by omega)]; omega
        rw [if_pos ‹_›] at hR
        refine loop_next (i + 1, n + 1) ⟨by simp only; omega, by simp only; omega⟩ (by simp only; omega) (weak_of 2 0 rfl rfl ?_ ?_) <;> simp [w1, w2]
      · rw [if_neg (by simp [*])] at hR
        refine loop_next (i + 1, n) ⟨by simp only; omega, by simp only; omega⟩ (by simp only; omega) (weak_of 2 0 rfl rfl ?_ ?_) <;> simp [w1]
    · rw [List.drop_eq_nil_of_le (by omega), comR] at hR
      ((try simp -implicitDefEqProofs [-loopQ_n, h]) <;> (repeat' (first | (refine condD_dec ?_ ?_ <;> (intro hc; (try simp -implicitDefEqProofs [-loopQ_n, hc, h]))) | (refine guardD_dec ?_ ?_ <;> (intro hc; (try simp -implicitDefEqProofs [-loopQ_n, hc, h]))) | (refine condD_intro ?_ ?_ <;> (intro hd; have hc := hd; (try simp at hc) <;> (try simp -implicitDefEqProofs [-loopQ_n, hd, hc, h]))) | (refine guardD_intro ?_ ?_ <;> (intro hd; have hc := hd; (try simp at hc) <;> (try simp -implicitDefEqProofs [-loopQ_n, hd, hc, h]))) | (refine ldD_ep ?_ ?_; (focus kernel_rfl); (try simp -implicitDefEqProofs [-loopQ_n, h])))))
      omega
end Go.Proofs.YtdkcmfafganhhaaDoor
