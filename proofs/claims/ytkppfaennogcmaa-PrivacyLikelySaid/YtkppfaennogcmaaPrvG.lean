/- Bits turned in bytes (plain words). -/
import Derived.Test.YtkppfaennogcmaaPrvE
import Derived.Test.YtkppfaennogcmaaPrvC
namespace Go.Proofs.Ytkppfaennogcmaa
set_option linter.unusedSimpArgs false
set_option linter.unusedVariables false
set_option linter.unnecessarySimpa false
set_option linter.unusedSectionVars false
open Go.RowKit
variable [Glob]
set_option maxRecDepth 100000
/-- The bits behind bit k turned. -/
def turnB (c : UInt8) (k : Nat) : UInt8 := UInt8.ofNat (bits .xor .u8 c.toNat (255 / 2 ^ (k + 1))).toNat
/-- Bit k turned. -/
def flipB (c : UInt8) (k : Nat) : UInt8 := UInt8.ofNat (bits .xor .u8 c.toNat (128 / 2 ^ k)).toNat
theorem turn_all : ∀ n : Fin 256, ∀ k : Fin 8, bits .xor .u8 ((UInt8.ofNat n.val).toNat : Int) (255 / 2 ^ (k.val + 1)) = ((turnB (UInt8.ofNat n.val) k.val).toNat : Int) ∧ (bitsB (turnB (UInt8.ofNat n.val) k.val)).take (k.val + 1) = (bitsB (UInt8.ofNat n.val)).take (k.val + 1) := by decide +kernel
theorem flip_all : ∀ n : Fin 256, ∀ k : Fin 8, bits .xor .u8 ((UInt8.ofNat n.val).toNat : Int) (128 / 2 ^ k.val) = ((flipB (UInt8.ofNat n.val) k.val).toNat : Int) ∧ (bitsB (flipB (UInt8.ofNat n.val) k.val)).take (k.val + 1) = (bitsB (UInt8.ofNat n.val)).take k.val ++ [!(bitC (UInt8.ofNat n.val) k.val)] := by decide +kernel
theorem u8_of (c : UInt8) : ∃ n : Fin 256, c = UInt8.ofNat n.val := ⟨⟨c.toNat, c.toNat_lt⟩, by simp⟩
theorem turn_spec (c : UInt8) (k : Nat) (hk : k < 8) : bitI .xor .u8 (c.toNat : Int) (255 / 2 ^ (k + 1)) = ((turnB c k).toNat : Int) ∧ (bitsB (turnB c k)).take (k + 1) = (bitsB c).take (k + 1) := by
  obtain ⟨n, rfl⟩ := u8_of c
  rw [bitI_eq]
  exact turn_all n ⟨k, hk⟩
theorem flip_spec (c : UInt8) (k : Nat) (hk : k < 8) : bitI .xor .u8 (c.toNat : Int) (128 / 2 ^ k) = ((flipB c k).toNat : Int) ∧ (bitsB (flipB c k)).take (k + 1) = (bitsB c).take k ++ [!(bitC c k)] := by
  obtain ⟨n, rfl⟩ := u8_of c
  rw [bitI_eq]
  exact flip_all n ⟨k, hk⟩
theorem bitsL_append : ∀ (a b : List UInt8), bitsL (a ++ b) = bitsL a ++ bitsL b := by
  intro a
  induction a with
  | nil => intro b; rfl
  | cons c a ih => intro b; simp only [List.cons_append, bitsL, ih, List.append_assoc]
theorem bitsB_get (c : UInt8) (k : Nat) (hk : k < 8) : (bitsB c).drop k = bitC c k :: (bitsB c).drop (k + 1) := by
  rw [List.drop_eq_getElem_cons (by simpa [bitsB] using hk)]
  simp [bitsB]
/-- The bits of bytes, parted at bit k of byte q. -/
theorem bits_at {l : List UInt8} {q k : Nat} (h : q < l.length) (hk : k < 8) {p rest : List Bool} {b : Bool} (hl : bitsL l = p ++ b :: rest) (hp : p.length = 8 * q + k) :
    p = bitsL (l.take q) ++ (bitsB l[q]).take k ∧ b = bitC l[q] k := by
  have e : bitsL l = (bitsL (l.take q) ++ (bitsB l[q]).take k) ++ bitC l[q] k :: ((bitsB l[q]).drop (k + 1) ++ bitsL (l.drop (q + 1))) := by
    conv => lhs; rw [← List.take_append_drop q l, List.drop_eq_getElem_cons h, bitsL_append]
    simp only [bitsL]
    conv => lhs; rw [← List.take_append_drop k (bitsB l[q]), bitsB_get _ _ hk]
    simp only [List.append_assoc, List.cons_append]
  rw [hl] at e
  have hlen : p.length = (bitsL (l.take q) ++ (bitsB l[q]).take k).length := by
    rw [hp, List.length_append, bitsL_len, List.length_take, List.length_take, bitsB_len]; omega
  obtain ⟨e1, e2⟩ := List.append_inj e hlen
  exact ⟨e1, (List.cons.inj e2).1⟩
theorem bits_mk {l : List UInt8} {q k : Nat} (h : q < l.length) (hk : k < 8) {c : UInt8} {x : List Bool} {b : Bool} (hc : (bitsB c).take (k + 1) = x ++ [b]) (more : List UInt8) : ∃ y, bitsL (l.take q ++ c :: more) = (bitsL (l.take q) ++ x) ++ b :: y := by
  refine ⟨(bitsB c).drop (k + 1) ++ bitsL more, ?_⟩
  rw [bitsL_append]
  simp only [bitsL]
  conv => lhs; rw [← List.take_append_drop (k + 1) (bitsB c), hc]
  simp
theorem take_bit {c : UInt8} {k : Nat} (hk : k < 8) : (bitsB c).take (k + 1) = (bitsB c).take k ++ [bitC c k] := by
  rw [List.take_succ_eq_append_getElem (by simpa [bitsB] using hk)]
  simp [bitsB]
/-- Without a chance there is no noise. -/
theorem heads_zero {d : Int} (f : Nat) (bs : List Bool) : (headsL d 0 f bs).1 = 0 := by
  cases f with
  | zero => rfl
  | succ f => cases bs <;> simp [headsL, coinL]
theorem noise_zero {d : Int} : ∀ (f : Nat) (bs : List Bool), (noiseL d 0 f bs).1 = 0 := by
  intro f
  induction f with
  | zero => intro bs; rfl
  | succ f ih =>
    intro bs
    have h0 := heads_zero (d := d) (bs.length + 1) bs
    simp only [noiseL]
    split
    · rename_i hh; rw [hh] at h0; simpa using h0
    · rename_i hh; rw [hh] at h0; simpa using h0
    · rename_i n b bs2 hh
      rw [hh] at h0
      simp only at h0
      subst h0
      split
      · simp [ih]
      · rfl
/-- What Noise says where it hands back a number. -/
structure Noisy (num d n : Int) (used : Nat) (l : List UInt8) : Prop where
  v : validF num d = true
  r1 : 0 ≤ num
  r2 : num < d
  len : l.length ≤ 16384
  took : ∃ p b rest, bitsL l = p ++ b :: rest ∧ p.length + 1 = used ∧ Took d num n p b
  zero : num = 0 → n = 0
theorem noiseR_ok {num d : Int} {l : List UInt8} (h : (noiseR num d l).2.2 = 0) : ∃ used : Nat, (noiseR num d l).2.1 = (used : Int) ∧ Noisy num d (noiseR num d l).1 used l := by
  unfold noiseR at h ⊢
  split at h
  · simp at h
  · rename_i hv
    rw [if_neg hv]
    split at h
    · simp at h
    · rename_i hr
      rw [if_neg hr]
      split at h
      · simp at h
      · rename_i hl
        rw [if_neg hl]
        obtain ⟨⟨n, rest, e⟩, hN⟩ : ∃ x, noiseL d num (8 * l.length + 1) (bitsL l) = x := ⟨_, rfl⟩
        rw [hN] at h ⊢
        simp only at h ⊢
        cases e with
        | true => simp at h
        | false =>
          simp only [Bool.false_eq_true, if_false]
          obtain ⟨p, b, h1, h2⟩ := noise_took d num _ _ n rest (by rw [bitsL_len]; omega) hN
          have hln := congrArg List.length h1
          rw [bitsL_len] at hln
          simp only [List.length_append, List.length_cons] at hln
          refine ⟨p.length + 1, by omega, by simpa using hv, by omega, by omega, by omega, ⟨p, b, rest, h1, rfl, h2⟩, fun h0 => ?_⟩
          subst h0
          have := noise_zero (d := d) (8 * l.length + 1) (bitsL l)
          rw [hN] at this; exact this
theorem noiseR_of {num d n : Int} {used : Nat} {l : List UInt8} (h : Noisy num d n used l) {x : List UInt8} (hx : x.length ≤ 16384) :
    noiseR num d x = (if (noiseL d num (8 * x.length + 1) (bitsL x)).2.2 = true then (0, 0, 4) else ((noiseL d num (8 * x.length + 1) (bitsL x)).1, 8 * (x.length : Int) - (noiseL d num (8 * x.length + 1) (bitsL x)).2.1.length, 0)) := by
  unfold noiseR
  rw [h.v, if_neg (by simp), if_neg (by have := h.r1; have := h.r2; omega), if_neg (by omega)]
theorem noiseR_errs (num d : Int) (l : List UInt8) (hl : l.length ≤ 16384) (h : (noiseR num d l).2.2 ≠ 0) : (noiseR num d l).1 = 0 ∧ (noiseR num d l).2.1 = 0 ∧ ((noiseR num d l).2.2 = 4 ∨ (noiseR num d l).2.2 = 1 ∨ (noiseR num d l).2.2 = 2) := by
  unfold noiseR at h ⊢
  split
  · simp
  · rename_i hv
    rw [if_neg hv] at h
    split
    · simp
    · rename_i hr
      rw [if_neg hr] at h
      split
      · omega
      · rename_i hl
        rw [if_neg hl] at h
        split at h
        rename_i n bs e hN
        split at h
        · rename_i he; rw [if_pos he]; simp
        · simp at h
theorem noise_abs (d num : Int) : ∀ (f : Nat) (bs : List Bool), -(bs.length : Int) ≤ (noiseL d num f bs).1 ∧ (noiseL d num f bs).1 ≤ bs.length := by
  intro f
  induction f with
  | zero => intro bs; simp only [noiseL]; omega
  | succ f ih =>
    intro bs
    have hb := headsL_bd (d := d) (num := num) (bs.length + 1) bs
    simp only [noiseL]
    split
    · rename_i hh; rw [hh] at hb; simp only at hb ⊢; omega
    · rename_i hh; rw [hh] at hb; simp only at hb ⊢; omega
    · rename_i n b bs2 hh
      rw [hh] at hb
      simp only [List.length_cons] at hb
      have := ih bs2
      split
      · split
        · simp only; omega
        · omega
      · simp only; omega
theorem noiseR_bd (num d : Int) (l : List UInt8) : -(8 * l.length : Int) ≤ (noiseR num d l).1 ∧ (noiseR num d l).1 ≤ 8 * l.length := by
  unfold noiseR
  split
  · simp; omega
  · split
    · simp; omega
    · split
      · simp; omega
      · have := noise_abs d num (8 * l.length + 1) (bitsL l)
        rw [bitsL_len] at this
        split
        rename_i n bs e hN
        rw [hN] at this
        simp only at this
        split
        · simp; omega
        · simp only; omega
end Go.Proofs.Ytkppfaennogcmaa
