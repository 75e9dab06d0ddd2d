/- The body of TimingMetric in the abstract machine. -/
import Derived.Test.YtibnaangfdohiaaTimM
import Derived.Test.YtibnaangfdohiaaH40d
namespace Go.Proofs.Ytibnaangfdohiaa
open Go.RowKit
set_option maxRecDepth 100000
open Classical in
noncomputable def sameB (x y : List Int) (k : Nat) : Bool := decide (sameS x y k)
theorem sameB_zero (x y : List Int) : sameB x y 0 = true := by simp [sameB, sameS]
theorem sameB_succ {x y : List Int} {k : Nat} (h1 : k < x.length) (h2 : k < y.length) : sameB x y (k + 1) = (sameB x y k && decide (x[k] * tot y = y[k] * tot x)) := by
  have : sameS x y (k + 1) ↔ sameS x y k ∧ x[k] * tot y = y[k] * tot x := by
    constructor
    · intro h
      exact ⟨fun i a b c => h i a b (by omega), h k h1 h2 (by omega)⟩
    · rintro ⟨h, h'⟩ i a b c
      by_cases e : i = k
      · subst e; exact h'
      · exact h i a b (by omega)
  by_cases q : sameS x y k <;> simp [sameB, this, q]
theorem metric_same {e x y : List Int} (D : DistOk e x y) (hlen : x.length = y.length) : sameB x y y.length = ((distR e x e y).1 == 0) := by
  have V1 := validH_iff.1 D.v1
  have V2 := validH_iff.1 D.v2
  have h := same_iff V1 V2
  have e1 := D.eq
  have b1 := validF_bd D.val
  have hp : tot x * tot y ≠ 0 := by have := Int.mul_pos (show 0 < tot x by have := D.t1; omega) (show 0 < tot y by have := D.t2; omega); omega
  rw [← hlen]
  by_cases q : sameS x y x.length
  · have h0 := h.1 q
    rw [h0, Int.zero_mul] at e1
    have := (Int.mul_eq_zero.1 e1).resolve_right hp
    simp [sameB, q, this]
  · have h0 : ¬ dsum x y x.length = 0 := fun k => q (h.2 k)
    have : ¬ (distR e x e y).1 = 0 := by
      intro k
      rw [k, Int.zero_mul] at e1
      rcases Int.mul_eq_zero.1 e1.symm with k | k
      · exact h0 k
      · omega
    simp [sameB, q, this]
theorem metric_neg {e x y : List Int} (D : DistOk e x y) : ¬ (distR e x e y).1 < 0 := by
  intro h
  have V1 := validH_iff.1 D.v1
  have V2 := validH_iff.1 D.v2
  have l1 := V1.2.1
  have l2 := V2.2.1
  have e1 := D.eq
  have b1 := validF_bd D.val
  have hd := (dsum_bd V1.small V2.small x.length (by omega) (by omega)).1
  have hp : 0 < tot x * tot y := Int.mul_pos (show 0 < tot x by have := D.t1; omega) (show 0 < tot y by have := D.t2; omega)
  have := Int.mul_neg_of_neg_of_pos h hp
  have := Int.mul_nonneg hd (show 0 ≤ (distR e x e y).2.1 by omega)
  omega
theorem metric_le {e x y z : List Int} (D : DistOk e x y) (D2 : DistOk e y z) (D3 : DistOk e x z)
    (h : (addF ((distR e x e y).1, (distR e x e y).2.1) ((distR e y e z).1, (distR e y e z).2.1)).2.2 = 0) :
    ¬ 0 < (cmpF ((distR e x e z).1, (distR e x e z).2.1) ((addF ((distR e x e y).1, (distR e x e y).2.1) ((distR e y e z).1, (distR e y e z).2.1)).1, (addF ((distR e x e y).1, (distR e x e y).2.1) ((distR e y e z).1, (distR e y e z).2.1)).2.1)).1 := by
  obtain ⟨k1, k2⟩ := addF_ok (a := ((distR e x e y).1, (distR e x e y).2.1)) (b := ((distR e y e z).1, (distR e y e z).2.1)) D.val D2.val h
  generalize addF ((distR e x e y).1, (distR e x e y).2.1) ((distR e y e z).1, (distR e y e z).2.1) = r at *
  obtain ⟨s, t, f⟩ := r
  have b1 := validF_bd k1
  have := tri (s := (s, t)) D D2 D3 (by simp only at b1 ⊢; omega) k2
  simp only at this
  unfold cmpF
  split
  · split
    · simp
    · simp only
      rw [if_neg (by omega)]
      simp
  · simp
theorem metric_cmp {e x y z : List Int} (D : DistOk e x y) (D2 : DistOk e y z) (D3 : DistOk e x z)
    (h : (addF ((distR e x e y).1, (distR e x e y).2.1) ((distR e y e z).1, (distR e y e z).2.1)).2.2 = 0) :
    Pure Try.prog 29 [.agg (fracC ((distR e x e z).1, (distR e x e z).2.1)), .agg (fracC ((addF ((distR e x e y).1, (distR e x e y).2.1) ((distR e y e z).1, (distR e y e z).2.1)).1, (addF ((distR e x e y).1, (distR e x e y).2.1) ((distR e y e z).1, (distR e y e z).2.1)).2.1))]
      (.tup [.int .i64 (cmpF ((distR e x e z).1, (distR e x e z).2.1) ((addF ((distR e x e y).1, (distR e x e y).2.1) ((distR e y e z).1, (distR e y e z).2.1)).1, (addF ((distR e x e y).1, (distR e x e y).2.1) ((distR e y e z).1, (distR e y e z).2.1)).2.1)).1, .int .i64 0]) := by
  obtain ⟨k1, _⟩ := addF_ok (a := ((distR e x e y).1, (distR e x e y).2.1)) (b := ((distR e y e z).1, (distR e y e z).2.1)) D.val D2.val h
  have := cmp_pure ((distR e x e z).1, (distR e x e z).2.1) ((addF ((distR e x e y).1, (distR e x e y).2.1) ((distR e y e z).1, (distR e y e z).2.1)).1, (addF ((distR e x e y).1, (distR e x e y).2.1) ((distR e y e z).1, (distR e y e z).2.1)).2.1)
  have hz : (cmpF ((distR e x e z).1, (distR e x e z).2.1) ((addF ((distR e x e y).1, (distR e x e y).2.1) ((distR e y e z).1, (distR e y e z).2.1)).1, (addF ((distR e x e y).1, (distR e x e y).2.1) ((distR e y e z).1, (distR e y e z).2.1)).2.1)).2 = 0 := by
    have v := D3.val
    unfold cmpF
    simp only [v, k1, Bool.and_self, if_true]
    split
    · rfl
    · split <;> rfl
  rw [hz] at this
  exact this
set_option maxHeartbeats 4000000 in
theorem metric_small {e x y z : List Int} (he : okI e) (hx : okI x) (hy : okI y) (hz : okI z) (se : ¬ (25 : Int) < e.length) (sx : ¬ (25 : Int) < x.length) (sy : ¬ (25 : Int) < y.length) (sz : ¬ (25 : Int) < z.length) :
    Pure Try.prog 7 [ints e, ints x, ints y, ints z] (.bool true) := by
  refine pure_of mixed Try.func7 rfl (by kernel_rfl) (of_decide_eq_true rfl) (by kernel_rfl) (vc_run ?_)
  simp -implicitDefEqProofs
  refine call_intro awake_pure (by simp -implicitDefEqProofs) (.inl rfl) ?_
  simp -implicitDefEqProofs [se, sx, sy, sz]
  refine call_intro (distance_pure he hx he hy) (by simp -implicitDefEqProofs) (.inl rfl) ?_
  simp -implicitDefEqProofs
  have hyx := distance_pure he hy he hx
  rw [distR_symm e y x] at hyx
  refine call_intro hyx (by simp -implicitDefEqProofs) (.inl rfl) ?_
  simp -implicitDefEqProofs
  by_cases h0 : (distR e x e y).2.2 = 0
  rotate_left
  · have k := ((distR_cases e x y).resolve_left h0).1
    have k1 : (distR e x e y).1 = 0 := by rw [k]
    have k2 : (distR e x e y).2.1 = 0 := by rw [k]
    simp -implicitDefEqProofs [h0, k1, k2]
  have D := distR_zero h0
  have V1 := validH_iff.1 D.v1
  have V2 := validH_iff.1 D.v2
  have l1 := V1.2.1
  have l2 := V2.2.1
  have hlen : x.length = y.length := by omega
  have hlenI : (x.length : Int) = y.length := by omega
  have T1 : totalR e x = (tot x, 0) := by rw [totalR, if_pos D.v1]
  have T2 : totalR e y = (tot y, 0) := by rw [totalR, if_pos D.v2]
  have p1 := ttotal_pure he hx
  have p2 := ttotal_pure he hy
  rw [T1] at p1
  rw [T2] at p2
  simp -implicitDefEqProofs [h0]
  refine call_intro p1 (by simp -implicitDefEqProofs) (.inl rfl) ?_
  simp -implicitDefEqProofs
  refine call_intro p2 (by simp -implicitDefEqProofs) (.inl rfl) ?_
  simp -implicitDefEqProofs [hlen]
  refine loop_intro (σ := Nat) (fun i => ⟨[(1, ints x), (2, ints y), (8, .bool false), (9, .op 0 0), (10, .op 1 0), (11, .op 2 0), (12, .op 3 0), (16, .int .i64 (tot x)), (18, .int .i64 (tot y)), (20, .bool (sameB x y i)), (112, .int .i64 y.length), (113, .int .i64 i)], [.box 24 [ints e, ints x], .box 24 [ints e, ints y], .box 24 [ints e, ints z], .box 26 [.int .i64 (distR e x e y).1, .int .i64 (distR e x e y).2.1], .box 26 [.int .i64 (distR e x e y).1, .int .i64 (distR e x e y).2.1]]⟩) (fun i => i ≤ y.length) (fun i => y.length - i) 0 (by omega) ?_ ?_
  · refine weak_of 5 0 rfl rfl ?_ ?_
    · simp [sameB_zero]
    · simp
  · intro i hi
    by_cases h : i < y.length
    · have hx1 : i < x.length := by omega
      have b1 := V1.small.at_ hx1
      have b2 := V2.small.at_ h
      have t1 := tot_bd V1.small
      have t2 := tot_bd V2.small
      have m1 : 0 ≤ x[i] * tot y ∧ x[i] * tot y ≤ 1048576 * 26214400 := ⟨Int.mul_nonneg b1.1 t2.1, Int.mul_le_mul b1.2 t2.2 t2.1 (by omega)⟩
      have m2 : 0 ≤ y[i] * tot x ∧ y[i] * tot x ≤ 1048576 * 26214400 := ⟨Int.mul_nonneg b2.1 t1.1, Int.mul_le_mul b2.2 t1.2 t1.1 (by omega)⟩
      have w1 : wrapI .i64 (x[i] * tot y) = x[i] * tot y := wrap_in (by omega) (by omega)
      have w2 : wrapI .i64 (y[i] * tot x) = y[i] * tot x := wrap_in (by omega) (by omega)
      by_cases hs : sameB x y i = true
      · simp -implicitDefEqProofs [h, hlen, hs, w1, w2]
        refine ⟨i + 1, by omega, by omega, weak_of 5 0 rfl rfl ?_ ?_⟩
        · simp [sameB_succ hx1 h, hs]
          exact ⟨by rw [Bool.eq_iff_iff]; simp, (wrap_in (by omega) (by omega)).symm⟩
        · simp
      · have hs : sameB x y i = false := by simpa using hs
        simp -implicitDefEqProofs [h, hlen, hs, w1, w2]
        refine ⟨i + 1, by omega, by omega, weak_of 5 0 rfl rfl ?_ ?_⟩
        · simp [sameB_succ hx1 h, hs]
          exact (wrap_in (by omega) (by omega)).symm
        · simp
    · have hi : i = y.length := by omega
      subst hi
      have hsame : sameB x y y.length = ((distR e x e y).1 == 0) := metric_same D hlen
      have hneg : ¬ (distR e x e y).1 < 0 := metric_neg D
      rw [hsame]
      have hadd := Lib.hid (wrap_in (n := tot x + tot y) (by have := tot_bd V1.small; have := tot_bd V2.small; omega) (by have := tot_bd V1.small; have := tot_bd V2.small; omega))
      simp -implicitDefEqProofs [hneg]
      have pm := merge_pure he hx he hy
      by_cases hm : (mergeR e x e y).2.2 = 0
      · obtain ⟨k1, k2, k3⟩ := mergeR_valid hm D.v1 D.v2
        rw [k1] at pm
        have hk : okI (addL x y) := by
          refine ⟨by rw [addL_len hlen]; exact hx.1, fun w hw => ?_⟩
          have := (validH_iff.1 k2).2.2 w hw
          exact wf_of (by omega) (by omega)
        have pt := ttotal_pure he hk
        rw [show totalR e (addL x y) = (tot x + tot y, 0) by rw [totalR, if_pos k2, k3]] at pt
        refine call_intro pm (by simp -implicitDefEqProofs) (.inr ⟨rfl, rfl⟩) ?_
        simp -implicitDefEqProofs
        refine call_intro pt (by simp -implicitDefEqProofs) (.inl rfl) ?_
        simp -implicitDefEqProofs [hadd.out]
        refine call_intro (distance_pure he hy he hz) (by simp -implicitDefEqProofs) (.inl rfl) ?_
        simp -implicitDefEqProofs
        refine call_intro (distance_pure he hx he hz) (by simp -implicitDefEqProofs) (.inl rfl) ?_
        by_cases f0 : (distR e y e z).2.2 = 0
        rotate_left
        · simp -implicitDefEqProofs [f0]
        have D2 := distR_zero f0
        rcases distR_six D.v1 D2.v2 D.t1 D2.t2 with g0 | g6
        rotate_left
        · simp -implicitDefEqProofs [f0, g6]
        have D3 := distR_zero g0
        simp -implicitDefEqProofs [f0, g0]
        refine call_intro (add_pure ((distR e x e y).1, (distR e x e y).2.1) ((distR e y e z).1, (distR e y e z).2.1)) (by simp -implicitDefEqProofs [fracC]) (.inl rfl) ?_
        rcases addF_err (a := ((distR e x e y).1, (distR e x e y).2.1)) (b := ((distR e y e z).1, (distR e y e z).2.1)) D.val D2.val with a0 | a6
        rotate_left
        · simp -implicitDefEqProofs [a6]
        simp -implicitDefEqProofs [a0]
        refine call_intro (metric_cmp D D2 D3 a0) (by simp -implicitDefEqProofs [fracC]) (.inl rfl) ?_
        simp -implicitDefEqProofs
        exact Int.not_lt.1 (metric_le D D2 D3 a0)
      · refine call_intro pm (by simp -implicitDefEqProofs) (.inr ⟨rfl, rfl⟩) ?_
        simp -implicitDefEqProofs [hm]
        refine call_intro (distance_pure he hy he hz) (by simp -implicitDefEqProofs) (.inl rfl) ?_
        simp -implicitDefEqProofs
        refine call_intro (distance_pure he hx he hz) (by simp -implicitDefEqProofs) (.inl rfl) ?_
        by_cases f0 : (distR e y e z).2.2 = 0
        rotate_left
        · simp -implicitDefEqProofs [f0]
        have D2 := distR_zero f0
        rcases distR_six D.v1 D2.v2 D.t1 D2.t2 with g0 | g6
        rotate_left
        · simp -implicitDefEqProofs [f0, g6]
        have D3 := distR_zero g0
        simp -implicitDefEqProofs [f0, g0]
        refine call_intro (add_pure ((distR e x e y).1, (distR e x e y).2.1) ((distR e y e z).1, (distR e y e z).2.1)) (by simp -implicitDefEqProofs [fracC]) (.inl rfl) ?_
        rcases addF_err (a := ((distR e x e y).1, (distR e x e y).2.1)) (b := ((distR e y e z).1, (distR e y e z).2.1)) D.val D2.val with a0 | a6
        rotate_left
        · simp -implicitDefEqProofs [a6]
        simp -implicitDefEqProofs [a0]
        refine call_intro (metric_cmp D D2 D3 a0) (by simp -implicitDefEqProofs [fracC]) (.inl rfl) ?_
        simp -implicitDefEqProofs
        exact Int.not_lt.1 (metric_le D D2 D3 a0)
theorem metric_large {e x y z : List Int} (h : (25 : Int) < e.length ∨ (25 : Int) < x.length ∨ (25 : Int) < y.length ∨ (25 : Int) < z.length) :
    Pure Try.prog 7 [ints e, ints x, ints y, ints z] (.bool true) := by
  refine pure_of mixed Try.func7 rfl (by kernel_rfl) (of_decide_eq_true rfl) (by kernel_rfl) (vc_run ?_)
  simp -implicitDefEqProofs
  refine call_intro awake_pure (by simp -implicitDefEqProofs) (.inl rfl) ?_
  by_cases se : (25 : Int) < e.length
  · simp -implicitDefEqProofs [se]
    refine call_intro awake_pure (by simp -implicitDefEqProofs) (.inl rfl) ?_
    simp -implicitDefEqProofs
  by_cases sx : (25 : Int) < x.length
  · simp -implicitDefEqProofs [se, sx]
    refine call_intro awake_pure (by simp -implicitDefEqProofs) (.inl rfl) ?_
    simp -implicitDefEqProofs
  by_cases sy : (25 : Int) < y.length
  · simp -implicitDefEqProofs [se, sx, sy]
    refine call_intro awake_pure (by simp -implicitDefEqProofs) (.inl rfl) ?_
    simp -implicitDefEqProofs
  have sz : (25 : Int) < z.length := by omega
  simp -implicitDefEqProofs [se, sx, sy, sz]
  refine call_intro awake_pure (by simp -implicitDefEqProofs) (.inl rfl) ?_
  simp -implicitDefEqProofs
end Go.Proofs.Ytibnaangfdohiaa
