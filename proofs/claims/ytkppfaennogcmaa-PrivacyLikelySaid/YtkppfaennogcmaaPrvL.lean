/- Noise among all strings of ten bits, and coins as fractions (plain words). -/
import Derived.Test.YtkppfaennogcmaaPrvG
namespace Go.Proofs.Ytkppfaennogcmaa
set_option linter.unusedSimpArgs false
set_option linter.unusedVariables false
set_option linter.unnecessarySimpa false
set_option linter.unusedSectionVars false
open Go.RowKit
variable [Glob]
set_option maxRecDepth 100000
def blOf (i : Nat) : List UInt8 := [UInt8.ofNat (i / 4), UInt8.ofNat (i * 64)]
def outK (R : Int × Int × Int) : Nat := if R.2.2 = 0 ∧ R.2.1 ≤ 10 ∧ 0 < R.2.1 ∧ 0 < R.1 ∧ R.1 < 12 then R.1.toNat else 12
def outC (i : Nat) : Nat := outK (noiseR 1 2 (blOf i))
def cntN (k : Nat) : Nat → Nat
  | 0 => 0
  | n + 1 => cntN k n + if outC n = k then 1 else 0
def cntV (n : Nat) : List AV := (List.range 12).map fun k => AV.int .i64 (cntN k n : Nat)
theorem cnt_zero : cntV 0 = List.replicate 12 (AV.int .i64 0) := rfl
theorem cnt_len {n : Nat} : (cntV n).length = 12 := by simp [cntV]
theorem cnt_le {k : Nat} : ∀ {n : Nat}, cntN k n ≤ n := by
  intro n
  induction n with
  | zero => simp [cntN]
  | succ n ih => simp only [cntN]; split <;> omega
theorem cnt_get {n k : Nat} (h : k < 12) : (cntV n)[k]? = some (.int .i64 (cntN k n : Nat)) := by simp [cntV, h]
theorem cnt_same {n : Nat} (h : outC n = 12) : cntV (n + 1) = cntV n := by
  unfold cntV
  apply List.map_congr_left
  intro k hk
  simp only [List.mem_range] at hk
  simp only [cntN, h, if_neg (show ¬ 12 = k by omega), Nat.add_zero]
theorem cnt_set {n k : Nat} (hk : k < 12) (h : outC n = k) : (cntV n).set k (.int .i64 (cntN k n + 1 : Nat)) = cntV (n + 1) := by
  apply List.ext_getElem?
  intro j
  by_cases hj : j < 12
  · rw [List.getElem?_set, cnt_get hj, cnt_get hj, cnt_len]
    by_cases e : k = j
    · subst e
      simp [hk, cntN, h]
    · rw [if_neg e]
      simp only [cntN, h, if_neg e, Nat.add_zero]
  · rw [List.getElem?_eq_none (by simp [cnt_len]; omega), List.getElem?_eq_none (by simp [cnt_len]; omega)]
def wantN (n : Nat) : Nat := ((List.range 5).filter fun s => decide (n + 2 + 2 * s ≤ 10)).foldl (fun a s => a + 2 ^ (10 - (n + 2 + 2 * s))) 0
theorem cnt_want : ∀ n : Fin 8, cntN (n.val + 1) 1024 = wantN (n.val + 1) := by decide +kernel
/-- Bits as a number. -/
def valB : List Bool → Nat
  | [] => 0
  | b :: bs => (if b = true then 2 ^ bs.length else 0) + valB bs
theorem coin_low {d : Int} : ∀ (bs : List Bool) (r : Int), 0 ≤ r → r < d → ∀ x, coinL d r bs = (false, x, false) → r * 2 ^ bs.length < ((valB bs : Nat) + 1 : Int) * d := by
  intro bs
  induction bs with
  | nil =>
    intro r h0 h1 x h
    simp [coinL] at h
    obtain ⟨_, h⟩ := h
    subst h
    simp [valB]; omega
  | cons b bs ih =>
    intro r h0 h1 x h
    simp only [coinL] at h
    obtain ⟨w, hw⟩ : ∃ w : Nat, w = 2 ^ bs.length := ⟨_, rfl⟩
    have hw' : (2 : Int) ^ bs.length = w := by rw [hw]; simp
    have hw1 : 1 ≤ w := by rw [hw]; exact Nat.one_le_two_pow
    have hp : (2 : Int) ^ (b :: bs).length = 2 * w := by rw [List.length_cons, Int.pow_succ, hw', Int.mul_comm]
    rw [hp]
    have hvd : (0 : Int) ≤ (valB bs : Nat) * d := Int.mul_nonneg (by omega) (by omega)
    split at h
    · rename_i hr
      subst hr
      have : (0 : Int) < ((valB (b :: bs) : Nat) + 1 : Int) * d := Int.mul_pos (by omega) (by omega)
      omega
    · rename_i hr
      split at h
      · rename_i hb
        by_cases c : d ≤ r * 2
        · rw [if_pos c] at h
          have := ih _ (by omega) (by omega) x h
          rw [hw'] at this
          have hbt : b = true := by rw [hb]; simp [c]
          simp only [valB, hbt, if_true, ← hw]
          have e1 : (r * 2 - d) * (w : Int) = r * (2 * w) - d * w := by grind
          have e2 : (((w + valB bs : Nat) : Int) + 1) * d = ((valB bs : Nat) + 1 : Int) * d + d * w := by grind
          omega
        · rw [if_neg c] at h
          have := ih _ (by omega) (by omega) x h
          rw [hw'] at this
          have hbf : b = false := by rw [hb]; simp [c]
          simp only [valB, hbf]
          have e1 : r * 2 * (w : Int) = r * (2 * w) := by grind
          simp
          omega
      · rename_i hb
        simp only [Prod.mk.injEq, decide_eq_false_iff_not] at h
        obtain ⟨c, _, _⟩ := h
        have hbt : b = true := by
          cases b
          · simp [c] at hb
          · rfl
        simp only [valB, hbt, if_true, ← hw]
        have e2 : (((w + valB bs : Nat) : Int) + 1) * d = (valB bs : Nat) * d + d * w + d := by grind
        have e3 : r * (2 * w) = (r * 2) * w := by grind
        have e4 : (r * 2) * (w : Int) ≤ d * w := Int.mul_le_mul_of_nonneg_right (by omega) (by omega)
        omega
theorem valB_append : ∀ (a b : List Bool), valB (a ++ b) = valB a * 2 ^ b.length + valB b := by
  intro a b
  induction a with
  | nil => simp [valB]
  | cons x a ih =>
    simp only [List.cons_append, valB, ih, List.length_append]
    split
    · rw [Nat.add_mul, Nat.pow_add]; omega
    · simp
theorem valB_byte : ∀ n : Fin 256, valB (bitsB (UInt8.ofNat n.val)) = n.val := by decide +kernel
theorem valB_c (c : UInt8) : valB (bitsB c) = c.toNat := by
  have := valB_byte ⟨c.toNat, c.toNat_lt⟩
  simpa using this
theorem valB_two (a b : UInt8) : valB (bitsL [a, b]) = a.toNat * 256 + b.toNat := by
  simp only [bitsL, List.append_nil]
  rw [valB_append, valB_c, valB_c, bitsB_len]
/-- With no noise the first coin is false. -/
theorem noise_coin {d num : Int} (f : Nat) (bs : List Bool) (h1 : (noiseL d num (f + 1) bs).1 = 0) (h2 : (noiseL d num (f + 1) bs).2.2 = false) : ∃ x, coinL d num bs = (false, x, false) := by
  have key : ∀ x : Bool × List Bool, (headsL d num (bs.length + 1) bs) = (0, x.2, x.1) → x.1 = false → ∃ y, coinL d num bs = (false, y, false) := fun x h hx => by
    simp only [headsL] at h
    obtain ⟨⟨c, y, e⟩, hc⟩ : ∃ x, coinL d num bs = x := ⟨_, rfl⟩
    rw [hc] at h
    cases c with
    | true => simp at h
    | false =>
      simp at h
      obtain ⟨h3, h4⟩ := h
      rw [hx] at h4
      subst h4
      exact ⟨y, hc⟩
  simp only [noiseL] at h1 h2
  split at h1
  · rename_i n b1 hh
    rw [hh] at h2; simp at h2
  · rename_i n hh
    rw [hh] at h2; simp at h2
  · rename_i n b bs2 hh
    by_cases hn : n = 0
    · subst hn; exact key (false, b :: bs2) hh rfl
    · exfalso
      split at h1
      · split at h1
        · simp only at h1; omega
        · omega
      · simp only at h1; omega
theorem or_two : ∀ a b : Fin 256, bits .or .i64 (a.val * 256 : Int) b.val = (a.val * 256 + b.val : Int) := by decide +kernel
theorem or_bytes (a b : UInt8) : bitI .or .i64 ((a.toNat : Int) * 256) b.toNat = ((a.toNat * 256 + b.toNat : Nat) : Int) := by
  rw [bitI_eq]
  have := or_two ⟨a.toNat, a.toNat_lt⟩ ⟨b.toNat, b.toNat_lt⟩
  simp only at this
  rw [this]; omega
theorem likely {num d : Int} {a b : UInt8} (h : (noiseR num d [a, b]).2.2 = 0) (h0 : (noiseR num d [a, b]).1 = 0) : num * 65536 < ((a.toNat * 256 + b.toNat : Nat) + 1 : Int) * d := by
  unfold noiseR at h h0
  split at h
  · simp at h
  · rename_i c1
    rw [if_neg c1] at h0
    split at h
    · simp at h
    · rename_i c2
      rw [if_neg c2] at h0
      split at h
      · simp at h
      · rename_i c3
        rw [if_neg c3] at h0
        obtain ⟨⟨n, x, e⟩, hN⟩ : ∃ x, noiseL d num (8 * [a, b].length + 1) (bitsL [a, b]) = x := ⟨_, rfl⟩
        rw [hN] at h h0
        cases e with
        | true => simp at h
        | false =>
          simp at h0
          obtain ⟨y, hy⟩ := noise_coin (d := d) (num := num) (8 * [a, b].length) (bitsL [a, b]) (by rw [hN]; exact h0) (by rw [hN])
          have := coin_low _ _ (by omega) (by omega) y hy
          rw [valB_two, bitsL_len] at this
          simpa using this
end Go.Proofs.Ytkppfaennogcmaa
