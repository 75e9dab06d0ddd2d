/- The cost of a division of times, walked (the law's own function). -/
import Derived.Test.YtkppfaennogcmaaPrvV
import Derived.Test.YtkppfaennogcmaaTy
import Derived.Test.YtkppfaennogcmaaPrvN
namespace Go.Proofs.Ytkppfaennogcmaa
set_option linter.unusedSimpArgs false
set_option linter.unusedVariables false
set_option linter.unnecessarySimpa false
set_option linter.unusedSectionVars false
open Go.RowKit
variable [Glob]
set_option maxRecDepth 100000
theorem and1024 : ∀ a : Fin 1024, bits .and .i64 (a.val : Int) 1 = ((a.val % 2 : Nat) : Int) := by decide +kernel
theorem bitZ_fact {E i : Nat} (hE : E < 1024) : bitI .and .i64 ((E : Int) / 2 ^ i) 1 = if bitZ E i then 0 else 1 := by
  have h2 : E / 2 ^ i < 1024 := Nat.lt_of_le_of_lt (Nat.div_le_self _ _) hE
  have h3 : ((E : Int) / 2 ^ i) = ((E / 2 ^ i : Nat) : Int) := by simp
  rw [bitI_eq, h3, and1024 ⟨_, h2⟩]
  unfold bitZ
  have : E / 2 ^ i % 2 = 0 ∨ E / 2 ^ i % 2 = 1 := by omega
  rcases this with h | h <;> simp [h]
set_option maxHeartbeats 8000000 in
theorem cost_pure (l : List Int) (k : Int) (E : Nat) (hl : l.length ≤ 10) (hv : timeV l = true) (hE : E < 1024) : Pure Try.prog 30 [.rs (rowsOf intC l), .int .i64 k, .int .i64 E] (.tup [.int .i64 (costG l k E l.length 0 0 0).1, .bool (costG l k E l.length 0 0 0).2]) := by
  obtain ⟨R, hR⟩ : ∃ R, costG l k E l.length 0 0 0 = R := ⟨_, rfl⟩
  rw [hR]
  refine pure_of mixed Try.func30 rfl (by kernel_rfl) (of_decide_eq_true rfl) (by kernel_rfl) (vc_run ?_)
  ((try simp -implicitDefEqProofs [-loopQ_n]) <;> (repeat' (first | (refine condD_dec ?_ ?_ <;> (intro hc; (try simp -implicitDefEqProofs [-loopQ_n, hc]))) | (refine guardD_dec ?_ ?_ <;> (intro hc; (try simp -implicitDefEqProofs [-loopQ_n, hc]))) | (refine condD_intro ?_ ?_ <;> (intro hd; have hc := hd; (try simp at hc) <;> (try simp -implicitDefEqProofs [-loopQ_n, hd, hc]))) | (refine guardD_intro ?_ ?_ <;> (intro hd; have hc := hd; (try simp at hc) <;> (try simp -implicitDefEqProofs [-loopQ_n, hd, hc]))) | (refine ldD_ep ?_ ?_; (focus kernel_rfl); (try simp -implicitDefEqProofs [-loopQ_n])))))
  refine loop_intro (σ := Nat × Int × Nat) (fun x => ⟨[(0, .rs (rowsOf intC l)), (1, .int .i64 k), (2, .int .i64 E), (8, .int .i64 x.2.1), (9, .int .i64 x.2.2), (12, .int .i64 l.length), (13, .int .i64 x.1)], []⟩)
    (fun x => x.1 ≤ l.length ∧ x.2.2 ≤ x.1 ∧ 0 ≤ x.2.1 ∧ x.2.1 ≤ x.1 * 10995116277760 ∧ costG l k E (l.length - x.1) x.1 x.2.1 x.2.2 = R) (fun x => l.length - x.1) (0, 0, 0) ⟨by simp, by simp, by simp, by simp, hR⟩ ?_ ?_
  · refine weak_of 0 0 rfl rfl ?_ ?_ <;> simp
  clear hR
  rintro ⟨i, s, f⟩ ⟨hi, hf, hs0, hs1, hR⟩
  simp only at hi hf hs0 hs1 hR
  by_cases h : i < l.length
  · rw [show l.length - i = (l.length - (i + 1)) + 1 by omega, costG] at hR
    obtain ⟨D, hD⟩ : ∃ D, i + 1 - f = D := ⟨_, rfl⟩
    obtain ⟨j, hj⟩ : ∃ j, i + 1 = j := ⟨_, rfl⟩
    rw [hD, hj] at hR
    have w1 : wrapI .i64 ((i : Int) + 1) = (j : Int) := by rw [wrap_in (by omega) (by omega)]; omega
    have w2 : wrapI .i64 ((l.length : Int) - 1) = (l.length : Int) - 1 := wrap_in (by omega) (by omega)
    have w3 : wrapI .i64 ((j : Int) - f) = (D : Int) := by rw [wrap_in (by omega) (by omega)]; omega
    have hb := @bitZ_fact _ E i hE
    have i64 : (i : Int) ≤ 64 := by omega
    have hfl : f < l.length := by omega
    obtain ⟨x, hx⟩ : ∃ x, l[i] = x := ⟨_, rfl⟩
    obtain ⟨y, hy⟩ : ∃ y, l[f] = y := ⟨_, rfl⟩
    have lx : lat l i = x := by rw [lat_get h, hx]
    have ly : lat l f = y := by rw [lat_get hfl, hy]
    have ax := timeV_at hv h
    have ay := timeV_at hv hfl
    have am := timeV_mono hv hf h
    rw [lx] at ax am
    rw [ly] at ay am
    rw [lx, ly] at hR
    obtain ⟨q, hq⟩ : ∃ q, q = x - y := ⟨_, rfl⟩
    rw [← hq] at hR
    obtain ⟨r, hr⟩ : ∃ r, r = (D : Int) * q := ⟨_, rfl⟩
    rw [← hr] at hR
    have r0 : 0 ≤ r := by rw [hr]; exact Int.mul_nonneg (by omega) (by omega)
    have r1 : r ≤ 10 * 1099511627776 := by rw [hr]; exact Int.mul_le_mul (by omega) (by omega) (by omega) (by omega)
    have w4 : wrapI .i64 (x - y) = q := by rw [wrap_in (by omega) (by omega)]; omega
    have w5 : wrapI .i64 ((D : Int) * q) = r := by rw [← hr]; exact wrap_in (by omega) (by omega)
    have w6 : wrapI .i64 (s + r) = s + r := wrap_in (by omega) (by omega)
    by_cases c0 : j < l.length
    · have c0' : (i : Int) < (l.length : Int) - 1 := by omega
      by_cases c1 : bitZ E i
      · rw [if_pos c1] at hb
        rw [if_pos ⟨c0, c1⟩] at hR
        ((try simp -implicitDefEqProofs [-loopQ_n, h, c0, c0', w1, w2, hb, i64]) <;> (repeat' (first | (refine condD_dec ?_ ?_ <;> (intro hc; (try simp -implicitDefEqProofs [-loopQ_n, hc, h, c0, c0', w1, w2, hb, i64]))) | (refine guardD_dec ?_ ?_ <;> (intro hc; (try simp -implicitDefEqProofs [-loopQ_n, hc, h, c0, c0', w1, w2, hb, i64]))) | (refine condD_intro ?_ ?_ <;> (intro hd; have hc := hd; (try simp at hc) <;> (try simp -implicitDefEqProofs [-loopQ_n, hd, hc, h, c0, c0', w1, w2, hb, i64]))) | (refine guardD_intro ?_ ?_ <;> (intro hd; have hc := hd; (try simp at hc) <;> (try simp -implicitDefEqProofs [-loopQ_n, hd, hc, h, c0, c0', w1, w2, hb, i64]))) | (refine ldD_ep ?_ ?_; (focus kernel_rfl); (try simp -implicitDefEqProofs [-loopQ_n, h, c0, c0', w1, w2, hb, i64])))))
        refine loop_next (j, s, f) ⟨by simp only; omega, by simp only; omega, by simp only; omega, by simp only; omega, hR⟩ (by simp only; omega) (weak_of 0 0 rfl rfl ?_ ?_) <;> simp
      · rw [if_neg c1] at hb
        rw [if_neg (fun h => c1 h.2)] at hR
        by_cases c2 : (D : Int) < k
        · rw [if_pos (.inl c2)] at hR
          subst hR
          ((try simp -implicitDefEqProofs [-loopQ_n, h, c0, c0', w1, w2, w3, hb, i64, c2]) <;> (repeat' (first | (refine condD_dec ?_ ?_ <;> (intro hc; (try simp -implicitDefEqProofs [-loopQ_n, hc, h, c0, c0', w1, w2, w3, hb, i64, c2]))) | (refine guardD_dec ?_ ?_ <;> (intro hc; (try simp -implicitDefEqProofs [-loopQ_n, hc, h, c0, c0', w1, w2, w3, hb, i64, c2]))) | (refine condD_intro ?_ ?_ <;> (intro hd; have hc := hd; (try simp at hc) <;> (try simp -implicitDefEqProofs [-loopQ_n, hd, hc, h, c0, c0', w1, w2, w3, hb, i64, c2]))) | (refine guardD_intro ?_ ?_ <;> (intro hd; have hc := hd; (try simp at hc) <;> (try simp -implicitDefEqProofs [-loopQ_n, hd, hc, h, c0, c0', w1, w2, w3, hb, i64, c2]))) | (refine ldD_ep ?_ ?_; (focus kernel_rfl); (try simp -implicitDefEqProofs [-loopQ_n, h, c0, c0', w1, w2, w3, hb, i64, c2])))))
        · obtain ⟨z, hz⟩ : ∃ z, l[j] = z := ⟨_, rfl⟩
          have lz : lat l j = z := by rw [lat_get c0, hz]
          rw [lz] at hR
          by_cases c3 : x = z
          · rw [if_pos (.inr ⟨c0, c3⟩)] at hR
            subst hR
            ((try simp -implicitDefEqProofs [-loopQ_n, h, hx, hz, c0, c0', w1, w2, w3, hb, i64, c2, c3]) <;> (repeat' (first | (refine condD_dec ?_ ?_ <;> (intro hc; (try simp -implicitDefEqProofs [-loopQ_n, hc, h, hx, hz, c0, c0', w1, w2, w3, hb, i64, c2, c3]))) | (refine guardD_dec ?_ ?_ <;> (intro hc; (try simp -implicitDefEqProofs [-loopQ_n, hc, h, hx, hz, c0, c0', w1, w2, w3, hb, i64, c2, c3]))) | (refine condD_intro ?_ ?_ <;> (intro hd; have hc := hd; (try simp at hc) <;> (try simp -implicitDefEqProofs [-loopQ_n, hd, hc, h, hx, hz, c0, c0', w1, w2, w3, hb, i64, c2, c3]))) | (refine guardD_intro ?_ ?_ <;> (intro hd; have hc := hd; (try simp at hc) <;> (try simp -implicitDefEqProofs [-loopQ_n, hd, hc, h, hx, hz, c0, c0', w1, w2, w3, hb, i64, c2, c3]))) | (refine ldD_ep ?_ ?_; (focus kernel_rfl); (try simp -implicitDefEqProofs [-loopQ_n, h, hx, hz, c0, c0', w1, w2, w3, hb, i64, c2, c3])))))
          · rw [if_neg (by omega)] at hR
            ((try simp -implicitDefEqProofs [-loopQ_n, h, hx, hy, hz, hfl, c0, c0', w1, w2, w3, w4, w5, w6, hb, i64, c2, c3]) <;> (repeat' (first | (refine condD_dec ?_ ?_ <;> (intro hc; (try simp -implicitDefEqProofs [-loopQ_n, hc, h, hx, hy, hz, hfl, c0, c0', w1, w2, w3, w4, w5, w6, hb, i64, c2, c3]))) | (refine guardD_dec ?_ ?_ <;> (intro hc; (try simp -implicitDefEqProofs [-loopQ_n, hc, h, hx, hy, hz, hfl, c0, c0', w1, w2, w3, w4, w5, w6, hb, i64, c2, c3]))) | (refine condD_intro ?_ ?_ <;> (intro hd; have hc := hd; (try simp at hc) <;> (try simp -implicitDefEqProofs [-loopQ_n, hd, hc, h, hx, hy, hz, hfl, c0, c0', w1, w2, w3, w4, w5, w6, hb, i64, c2, c3]))) | (refine guardD_intro ?_ ?_ <;> (intro hd; have hc := hd; (try simp at hc) <;> (try simp -implicitDefEqProofs [-loopQ_n, hd, hc, h, hx, hy, hz, hfl, c0, c0', w1, w2, w3, w4, w5, w6, hb, i64, c2, c3]))) | (refine ldD_ep ?_ ?_; (focus kernel_rfl); (try simp -implicitDefEqProofs [-loopQ_n, h, hx, hy, hz, hfl, c0, c0', w1, w2, w3, w4, w5, w6, hb, i64, c2, c3])))))
            refine loop_next (j, s + r, j) ⟨by simp only; omega, by simp only; omega, by simp only; omega, by simp only; omega, hR⟩ (by simp only; omega) (weak_of 0 0 rfl rfl ?_ ?_) <;> simp
    · have c0' : ¬ (i : Int) < (l.length : Int) - 1 := by omega
      rw [if_neg (fun h => c0 h.1)] at hR
      by_cases c2 : (D : Int) < k
      · rw [if_pos (.inl c2)] at hR
        subst hR
        ((try simp -implicitDefEqProofs [-loopQ_n, h, c0, c0', w1, w2, w3, hb, i64, c2]) <;> (repeat' (first | (refine condD_dec ?_ ?_ <;> (intro hc; (try simp -implicitDefEqProofs [-loopQ_n, hc, h, c0, c0', w1, w2, w3, hb, i64, c2]))) | (refine guardD_dec ?_ ?_ <;> (intro hc; (try simp -implicitDefEqProofs [-loopQ_n, hc, h, c0, c0', w1, w2, w3, hb, i64, c2]))) | (refine condD_intro ?_ ?_ <;> (intro hd; have hc := hd; (try simp at hc) <;> (try simp -implicitDefEqProofs [-loopQ_n, hd, hc, h, c0, c0', w1, w2, w3, hb, i64, c2]))) | (refine guardD_intro ?_ ?_ <;> (intro hd; have hc := hd; (try simp at hc) <;> (try simp -implicitDefEqProofs [-loopQ_n, hd, hc, h, c0, c0', w1, w2, w3, hb, i64, c2]))) | (refine ldD_ep ?_ ?_; (focus kernel_rfl); (try simp -implicitDefEqProofs [-loopQ_n, h, c0, c0', w1, w2, w3, hb, i64, c2])))))
      · rw [if_neg (by omega)] at hR
        ((try simp -implicitDefEqProofs [-loopQ_n, h, hx, hy, hfl, c0, c0', w1, w2, w3, w4, w5, w6, hb, i64, c2]) <;> (repeat' (first | (refine condD_dec ?_ ?_ <;> (intro hc; (try simp -implicitDefEqProofs [-loopQ_n, hc, h, hx, hy, hfl, c0, c0', w1, w2, w3, w4, w5, w6, hb, i64, c2]))) | (refine guardD_dec ?_ ?_ <;> (intro hc; (try simp -implicitDefEqProofs [-loopQ_n, hc, h, hx, hy, hfl, c0, c0', w1, w2, w3, w4, w5, w6, hb, i64, c2]))) | (refine condD_intro ?_ ?_ <;> (intro hd; have hc := hd; (try simp at hc) <;> (try simp -implicitDefEqProofs [-loopQ_n, hd, hc, h, hx, hy, hfl, c0, c0', w1, w2, w3, w4, w5, w6, hb, i64, c2]))) | (refine guardD_intro ?_ ?_ <;> (intro hd; have hc := hd; (try simp at hc) <;> (try simp -implicitDefEqProofs [-loopQ_n, hd, hc, h, hx, hy, hfl, c0, c0', w1, w2, w3, w4, w5, w6, hb, i64, c2]))) | (refine ldD_ep ?_ ?_; (focus kernel_rfl); (try simp -implicitDefEqProofs [-loopQ_n, h, hx, hy, hfl, c0, c0', w1, w2, w3, w4, w5, w6, hb, i64, c2])))))
        refine loop_next (j, s + r, j) ⟨by simp only; omega, by simp only; omega, by simp only; omega, by simp only; omega, hR⟩ (by simp only; omega) (weak_of 0 0 rfl rfl ?_ ?_) <;> simp
  · rw [show l.length - i = 0 by omega, costG] at hR
    subst hR
    ((try simp -implicitDefEqProofs [-loopQ_n, h]) <;> (repeat' (first | (refine condD_dec ?_ ?_ <;> (intro hc; (try simp -implicitDefEqProofs [-loopQ_n, hc, h]))) | (refine guardD_dec ?_ ?_ <;> (intro hc; (try simp -implicitDefEqProofs [-loopQ_n, hc, h]))) | (refine condD_intro ?_ ?_ <;> (intro hd; have hc := hd; (try simp at hc) <;> (try simp -implicitDefEqProofs [-loopQ_n, hd, hc, h]))) | (refine guardD_intro ?_ ?_ <;> (intro hd; have hc := hd; (try simp at hc) <;> (try simp -implicitDefEqProofs [-loopQ_n, hd, hc, h]))) | (refine ldD_ep ?_ ?_; (focus kernel_rfl); (try simp -implicitDefEqProofs [-loopQ_n, h])))))
end Go.Proofs.Ytkppfaennogcmaa
