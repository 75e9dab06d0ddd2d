/- The reader of bits of layer 55: bits, coins and noise. -/
import Derived.Test.YtkppfaennogcmaaTy
import Derived.Test.YtkppfaennogcmaaAbBase
import Derived.Test.YtkppfaennogcmaaM3
namespace Go.Proofs.Ytkppfaennogcmaa
set_option linter.unusedSimpArgs false
set_option linter.unusedVariables false
set_option linter.unnecessarySimpa false
set_option linter.unusedSectionVars false
open Go.RowKit
variable [Glob]
set_option maxRecDepth 100000
def byC (c : UInt8) : List AV := [.int .u8 c.toNat]
/-- Bit number k of a byte, the highest first. -/
def bitC (c : UInt8) (k : Nat) : Bool := decide (c.toNat / 2 ^ (7 - k) % 2 = 1)
def bitsB (c : UInt8) : List Bool := (List.range 8).map (bitC c)
def bitsL : List UInt8 → List Bool
  | [] => []
  | c :: l => bitsB c ++ bitsL l
theorem bitsB_len (c : UInt8) : (bitsB c).length = 8 := by simp [bitsB]
theorem bitsL_len (l : List UInt8) : (bitsL l).length = 8 * l.length := by
  induction l with
  | nil => rfl
  | cons c l ih => simp [bitsL, bitsB_len, ih]; omega
theorem bitsL_get : ∀ (l : List UInt8) (q k : Nat) (h : q < l.length), k < 8 → (bitsL l)[8 * q + k]? = some (bitC l[q] k) := by
  intro l
  induction l with
  | nil => intro q k h; simp at h
  | cons c l ih =>
    intro q k h hk
    cases q with
    | zero => simp [bitsL, List.getElem?_append, bitsB, hk]
    | succ q =>
      have := ih q k (by simpa using h) hk
      rw [bitsL, List.getElem?_append_right (by rw [bitsB_len]; omega), bitsB_len, show 8 * (q + 1) + k - 8 = 8 * q + k by omega, this]
      simp
theorem and1 : ∀ a : Fin 256, bits .and .u8 (a.val : Int) 1 = ((a.val % 2 : Nat) : Int) := by decide +kernel
theorem bit_fact (c : UInt8) (k m : Nat) (h : m = 7 - k) : decide (bitI .and .u8 ((c.toNat : Int) / 2 ^ m) 1 = 1) = bitC c k := by
  subst h
  have h1 : c.toNat < 256 := c.toNat_lt
  have h2 : c.toNat / 2 ^ (7 - k) < 256 := Nat.lt_of_le_of_lt (Nat.div_le_self _ _) h1
  have h3 : ((c.toNat : Int) / 2 ^ (7 - k)) = ((c.toNat / 2 ^ (7 - k) : Nat) : Int) := by simp
  rw [bitI_eq, h3, and1 ⟨_, h2⟩]
  unfold bitC
  congr 1
  simp only [eq_iff_iff]
  omega
/-- A coin: what it shows, the bits that are left, and whether they ended. -/
def coinL (d : Int) : Int → List Bool → Bool × List Bool × Bool
  | r, [] => (false, [], decide (r ≠ 0))
  | r, b :: bs => if r = 0 then (false, b :: bs, false) else if b = decide (d ≤ r * 2) then coinL d (if d ≤ r * 2 then r * 2 - d else r * 2) bs else (decide (d ≤ r * 2), bs, false)
theorem coinL_true {d : Int} : ∀ (bs : List Bool) (r : Int) (bs' : List Bool) (e : Bool), coinL d r bs = (true, bs', e) → e = false ∧ bs'.length < bs.length := by
  intro bs
  induction bs with
  | nil => intro r bs' e h; simp [coinL] at h
  | cons b bs ih =>
    intro r bs' e h
    simp only [coinL] at h
    split at h
    · simp at h
    · split at h
      · obtain ⟨h1, h2⟩ := ih _ _ _ h; exact ⟨h1, by simp; omega⟩
      · simp at h; obtain ⟨_, rfl, rfl⟩ := h; exact ⟨rfl, by simp⟩
theorem coinL_suf {d : Int} : ∀ (bs : List Bool) (r : Int), ∃ p, bs = p ++ (coinL d r bs).2.1 := by
  intro bs
  induction bs with
  | nil => intro r; exact ⟨[], rfl⟩
  | cons b bs ih =>
    intro r
    simp only [coinL]
    split
    · exact ⟨[], rfl⟩
    · split
      · obtain ⟨p, hp⟩ := ih (if d ≤ r * 2 then r * 2 - d else r * 2); exact ⟨b :: p, by rw [List.cons_append, ← hp]⟩
      · exact ⟨[b], rfl⟩
theorem coinL_end {d : Int} : ∀ (bs : List Bool) (r : Int), (coinL d r bs).2.2 = true → (coinL d r bs).2.1 = [] ∧ (coinL d r bs).1 = false := by
  intro bs
  induction bs with
  | nil => intro r _; exact ⟨rfl, rfl⟩
  | cons b bs ih =>
    intro r h
    simp only [coinL] at h ⊢
    split at h
    · simp at h
    · rename_i h0
      rw [if_neg h0]
      split at h
      · rename_i h1; rw [if_pos h1]; exact ih _ h
      · simp at h
/-- Coins until one shows false: how often true, the bits that are left, and whether they ended. -/
def headsL (d num : Int) : Nat → List Bool → Nat × List Bool × Bool
  | 0, bs => (0, bs, false)
  | f + 1, bs => if (coinL d num bs).1 = true then ((headsL d num f (coinL d num bs).2.1).1 + 1, (headsL d num f (coinL d num bs).2.1).2) else (0, (coinL d num bs).2)
/-- Noise: its number, the bits that are left, and whether they ended. -/
def noiseL (d num : Int) : Nat → List Bool → Int × List Bool × Bool
  | 0, bs => (0, bs, false)
  | f + 1, bs =>
    match headsL d num (bs.length + 1) bs with
    | (n, bs1, true) => (n, bs1, true)
    | (n, [], false) => (n, [], true)
    | (n, b :: bs2, false) => if b = true then (if 0 < n then (-(n : Int), bs2, false) else noiseL d num f bs2) else (n, bs2, false)
theorem drop_len {B : List Bool} {i : Nat} {p q : List Bool} (h : B.drop i = p ++ q) (hi : i ≤ B.length) : B.drop (B.length - q.length) = q ∧ q.length ≤ B.length - i := by
  have h1 : B = B.take i ++ (p ++ q) := by rw [← h]; exact (List.take_append_drop i B).symm
  have h2 : (B.take i).length = i := by simp; omega
  have h3 : B.length = i + (p.length + q.length) := by have := congrArg List.length h1; simp only [List.length_append] at this; omega
  refine ⟨?_, by omega⟩
  conv => lhs; rw [h1]
  rw [← List.append_assoc, List.drop_append_of_le_length (by simp only [List.length_append]; omega)]
  rw [List.drop_eq_nil_of_le (by simp only [List.length_append]; omega)]
  rfl
/-- The reader. -/
def stB (l : List UInt8) (i : Nat) (e : Bool) : Blk := .box 122 [.rs (rowsOf byC l), .int .i64 i, .bool e]
theorem stB_mB {ρ : Nat → Nat} {l : List UInt8} {i : Nat} {e : Bool} : mB ρ (stB l i e) = stB l i e := by simp [stB, mL, mA]
set_option maxHeartbeats 8000000 in
theorem bit_G (l : List UInt8) (i : Nat) (e : Bool) (hl : l.length ≤ 1000000) (hi : i ≤ 8 * l.length) :
    CallG Try.prog 96 [.op 0 0] [stB l i e] fun r H => r = .bool ((bitsL l).getD i false) ∧ H = [if i < 8 * l.length then stB l (i + 1) e else stB l i true] := by
  unfold stB
  refine inl_G mixed Try.func96 rfl (by kernel_rfl) (of_decide_eq_true rfl) (by kernel_rfl) (vc_run ?_)
  have w1 : wrapI .i64 (8 * (l.length : Int)) = 8 * l.length := wrap_in (by omega) (by omega)
  by_cases h : i < 8 * l.length
  · obtain ⟨q, hq⟩ : ∃ q, i / 8 = q := ⟨_, rfl⟩
    obtain ⟨k, hk⟩ : ∃ k, i % 8 = k := ⟨_, rfl⟩
    have hik : i = 8 * q + k := by omega
    have hk8 : k < 8 := by omega
    have hql : q < l.length := by omega
    obtain ⟨m, hm⟩ : ∃ m, m = 7 - k := ⟨_, rfl⟩
    have hm8 : (m : Int) ≤ 8 := by omega
    have g1 : ¬ 8 * (l.length : Int) ≤ i := by omega
    have g2 : wrapI .i64 ((i : Int) / 8) = (q : Int) := by rw [wrap_in (by omega) (by omega)]; omega
    have g3 : (i : Int).tmod 8 = (k : Int) := by rw [Int.tmod_eq_emod_of_nonneg (by omega)]; omega
    have g4 : wrapI .i64 (7 - (k : Int)) = (m : Int) := by rw [wrap_in (by omega) (by omega)]; omega
    have g5 : wrapI .i64 ((i : Int) + 1) = (i : Int) + 1 := wrap_in (by omega) (by omega)
    have g6 := bit_fact l[q] k m hm
    have hB : (bitsL l).getD i false = bitC l[q] k := by rw [List.getD_eq_getElem?_getD, hik, bitsL_get l q k hql hk8]; rfl
    rw [hB, if_pos h]
    ((try simp -implicitDefEqProofs [-loopQ_n, w1, g1, g2, g3, g4, g5, g6, hql, hm8, byC]) <;> (repeat' (first | (refine condD_dec ?_ ?_ <;> (intro hc; (try simp -implicitDefEqProofs [-loopQ_n, hc, w1, g1, g2, g3, g4, g5, g6, hql, hm8, byC]))) | (refine guardD_dec ?_ ?_ <;> (intro hc; (try simp -implicitDefEqProofs [-loopQ_n, hc, w1, g1, g2, g3, g4, g5, g6, hql, hm8, byC]))) | (refine condD_intro ?_ ?_ <;> (intro hd; have hc := hd; (try simp at hc) <;> (try simp -implicitDefEqProofs [-loopQ_n, hd, hc, w1, g1, g2, g3, g4, g5, g6, hql, hm8, byC]))) | (refine guardD_intro ?_ ?_ <;> (intro hd; have hc := hd; (try simp at hc) <;> (try simp -implicitDefEqProofs [-loopQ_n, hd, hc, w1, g1, g2, g3, g4, g5, g6, hql, hm8, byC]))) | (refine ldD_ep ?_ ?_; (focus kernel_rfl); (try simp -implicitDefEqProofs [-loopQ_n, w1, g1, g2, g3, g4, g5, g6, hql, hm8, byC])))))
    trace_state
    exact endG_r (.bool (bitC l[q] k)) rfl ⟨rfl, by simp⟩
  · have g1 : 8 * (l.length : Int) ≤ i := by omega
    have hB : (bitsL l).getD i false = false := by rw [List.getD_eq_getElem?_getD, List.getElem?_eq_none (by rw [bitsL_len]; omega)]; rfl
    rw [hB, if_neg h]
    ((try simp -implicitDefEqProofs [-loopQ_n, w1, g1]) <;> (repeat' (first | (refine condD_dec ?_ ?_ <;> (intro hc; (try simp -implicitDefEqProofs [-loopQ_n, hc, w1, g1]))) | (refine guardD_dec ?_ ?_ <;> (intro hc; (try simp -implicitDefEqProofs [-loopQ_n, hc, w1, g1]))) | (refine condD_intro ?_ ?_ <;> (intro hd; have hc := hd; (try simp at hc) <;> (try simp -implicitDefEqProofs [-loopQ_n, hd, hc, w1, g1]))) | (refine guardD_intro ?_ ?_ <;> (intro hd; have hc := hd; (try simp at hc) <;> (try simp -implicitDefEqProofs [-loopQ_n, hd, hc, w1, g1]))) | (refine ldD_ep ?_ ?_; (focus kernel_rfl); (try simp -implicitDefEqProofs [-loopQ_n, w1, g1])))))
    exact endG_r (.bool false) rfl ⟨rfl, rfl⟩
def coinE (d r : Int) (e : Bool) (bs : List Bool) : Bool × List Bool × Bool := if e = true then (false, [], true) else coinL d r bs
set_option maxHeartbeats 8000000 in
theorem coin_G (l : List UInt8) (i : Nat) (n d : Int) (hl : l.length ≤ 1000000) (hi : i ≤ 8 * l.length) (h0 : 0 ≤ n) (h1 : n < d) (h2 : d ≤ 1073741824) :
    CallG Try.prog 95 [.op 0 0, .agg [.int .i64 n, .int .i64 d]] [stB l i false] fun r H =>
      r = .bool (coinL d n ((bitsL l).drop i)).1 ∧ H = [stB l (8 * l.length - (coinL d n ((bitsL l).drop i)).2.1.length) (coinL d n ((bitsL l).drop i)).2.2] := by
  have hBl := bitsL_len l
  generalize hR : coinL d n ((bitsL l).drop i) = R
  unfold stB
  refine inl_G mixed Try.func95 rfl (by kernel_rfl) (of_decide_eq_true rfl) (by kernel_rfl) (vc_run ?_)
  ((try simp -implicitDefEqProofs [-loopQ_n]) <;> (repeat' (first | (refine condD_dec ?_ ?_ <;> (intro hc; (try simp -implicitDefEqProofs [-loopQ_n, hc]))) | (refine guardD_dec ?_ ?_ <;> (intro hc; (try simp -implicitDefEqProofs [-loopQ_n, hc]))) | (refine condD_intro ?_ ?_ <;> (intro hd; have hc := hd; (try simp at hc) <;> (try simp -implicitDefEqProofs [-loopQ_n, hd, hc]))) | (refine guardD_intro ?_ ?_ <;> (intro hd; have hc := hd; (try simp at hc) <;> (try simp -implicitDefEqProofs [-loopQ_n, hd, hc]))) | (refine ldD_ep ?_ ?_; (focus kernel_rfl); (try simp -implicitDefEqProofs [-loopQ_n])))))
  refine loop_intro (σ := Int × Nat × Bool) (fun x => ⟨[(0, .op 0 0), (3, .op 1 0), (5, .int .i64 x.1)], [stB l x.2.1 x.2.2, .box 61 [.int .i64 n, .int .i64 d]]⟩)
    (fun x => 0 ≤ x.1 ∧ x.1 < d ∧ x.2.1 ≤ 8 * l.length ∧ (x.2.2 = true → x.2.1 = 8 * l.length) ∧ coinE d x.1 x.2.2 ((bitsL l).drop x.2.1) = R) (fun x => if x.2.2 = true then 0 else 8 * l.length - x.2.1 + 1) (n, i, false) ⟨h0, h1, hi, by simp, by simpa [coinE] using hR⟩ ?_ ?_
  · refine weak_ofL 2 0 rfl (by simp) rfl ?_ ?_ <;> simp [stB]
  rintro ⟨r, j, e⟩ ⟨r0, r1, hj, hje, hC⟩
  simp only at r0 r1 hj hje hC
  have w2 : wrapI .i64 (r * 2) = r * 2 := wrap_in (by omega) (by omega)
  have fin : ∀ (b : Bool) (j' : Nat) (e' : Bool) (s : St), R = (b, (bitsL l).drop j', e') → j' ≤ 8 * l.length → resA Try.prog Try.f95 s = some (.bool b) → s.H = [stB l j' e', .box 61 [.int .i64 n, .int .i64 d]] →
      ∀ q : Ex, q = .ret ∨ q = .normal → endG Try.prog 1 Try.f95 (fun r H => r = .bool R.1 ∧ H = [.box 122 [.rs (rowsOf byC l), .int .i64 (8 * l.length - R.2.1.length : Nat), .bool R.2.2]]) q s := by
    intro b j' e' s hR' hj' hs hH q hq
    have : 8 * l.length - ((bitsL l).drop j').length = j' := by rw [List.length_drop, hBl]; omega
    rcases hq with rfl | rfl
    all_goals
      refine ⟨.bool b, .bool b, [stB l j' e'], hs, ?_, by rw [hR'], by rw [hR']; simp only [stB, this]⟩
      rw [hH]
      refine weak_ofL 1 0 (by simp) (by simp) (by simp) ?_ ?_ <;> simp [stB]
  cases e with
  | true =>
    obtain rfl := hje rfl
    simp only [coinE, if_true] at hC
    ((try simp -implicitDefEqProofs [-loopQ_n, stB]) <;> (repeat' (first | (refine condD_dec ?_ ?_ <;> (intro hc; (try simp -implicitDefEqProofs [-loopQ_n, hc, stB]))) | (refine guardD_dec ?_ ?_ <;> (intro hc; (try simp -implicitDefEqProofs [-loopQ_n, hc, stB]))) | (refine condD_intro ?_ ?_ <;> (intro hd; have hc := hd; (try simp at hc) <;> (try simp -implicitDefEqProofs [-loopQ_n, hd, hc, stB]))) | (refine guardD_intro ?_ ?_ <;> (intro hd; have hc := hd; (try simp at hc) <;> (try simp -implicitDefEqProofs [-loopQ_n, hd, hc, stB]))) | (refine ldD_ep ?_ ?_; (focus kernel_rfl); (try simp -implicitDefEqProofs [-loopQ_n, stB])))))
    all_goals exact fin false (8 * l.length) true _ (by rw [← hC, List.drop_eq_nil_of_le (by omega)]) (by omega) rfl (by simp [stB]) _ (.inl rfl)
  | false =>
    simp only [coinE, Bool.false_eq_true, if_false] at hC
    by_cases hr0 : r = 0
    · subst hr0
      have hC0 : R = (false, (bitsL l).drop j, false) := by
        rw [← hC]
        cases (bitsL l).drop j <;> simp [coinL]
      ((try simp -implicitDefEqProofs [-loopQ_n, stB]) <;> (repeat' (first | (refine condD_dec ?_ ?_ <;> (intro hc; (try simp -implicitDefEqProofs [-loopQ_n, hc, stB]))) | (refine guardD_dec ?_ ?_ <;> (intro hc; (try simp -implicitDefEqProofs [-loopQ_n, hc, stB]))) | (refine condD_intro ?_ ?_ <;> (intro hd; have hc := hd; (try simp at hc) <;> (try simp -implicitDefEqProofs [-loopQ_n, hd, hc, stB]))) | (refine guardD_intro ?_ ?_ <;> (intro hd; have hc := hd; (try simp at hc) <;> (try simp -implicitDefEqProofs [-loopQ_n, hd, hc, stB]))) | (refine ldD_ep ?_ ?_; (focus kernel_rfl); (try simp -implicitDefEqProofs [-loopQ_n, stB])))))
      exact fin false j false _ hC0 hj rfl (by simp [stB]) _ (.inl rfl)
    · by_cases hjl : j < 8 * l.length
      · obtain ⟨b, hb⟩ : ∃ b, (bitsL l)[j]? = some b := ⟨_, List.getElem?_eq_getElem (by omega)⟩
        have hgd : (bitsL l).getD j false = b := by rw [List.getD_eq_getElem?_getD, hb]; rfl
        have hdr : (bitsL l).drop j = b :: (bitsL l).drop (j + 1) := by
          rw [List.drop_eq_getElem_cons (by omega)]
          congr 1
          have := List.getElem?_eq_getElem (l := bitsL l) (i := j) (by omega)
          rw [hb] at this; exact (Option.some.inj this).symm
        rw [hdr] at hC
        simp only [coinL, if_neg hr0] at hC
        ((try simp -implicitDefEqProofs [-loopQ_n, stB, hr0, w2]) <;> (repeat' (first | (refine condD_dec ?_ ?_ <;> (intro hc; (try simp -implicitDefEqProofs [-loopQ_n, hc, stB, hr0, w2]))) | (refine guardD_dec ?_ ?_ <;> (intro hc; (try simp -implicitDefEqProofs [-loopQ_n, hc, stB, hr0, w2]))) | (refine condD_intro ?_ ?_ <;> (intro hd; have hc := hd; (try simp at hc) <;> (try simp -implicitDefEqProofs [-loopQ_n, hd, hc, stB, hr0, w2]))) | (refine guardD_intro ?_ ?_ <;> (intro hd; have hc := hd; (try simp at hc) <;> (try simp -implicitDefEqProofs [-loopQ_n, hd, hc, stB, hr0, w2]))) | (refine ldD_ep ?_ ?_; (focus kernel_rfl); (try simp -implicitDefEqProofs [-loopQ_n, stB, hr0, w2])))))
        refine callG_intro (foot1 (bit_G l j false hl hj) 0 rfl (fun ρ => stB_mB) (fun ρ hρ => by simp [hρ]) ?_)
        rintro _ _ ⟨rfl, rfl⟩
        rw [if_pos hjl, hgd]
        refine ⟨_, rfl, fun ρ => stB_mB, fun ρ => by simp, ?_⟩
        by_cases hg : d ≤ r * 2
        · have w3 : wrapI .i64 (r * 2 - d) = r * 2 - d := wrap_in (by omega) (by omega)
          simp only [hg, decide_true, if_true] at hC
          cases b with
          | true =>
            simp only [if_true] at hC
            ((try simp -implicitDefEqProofs [-loopQ_n, stB, hg, w2, w3]) <;> (repeat' (first | (refine condD_dec ?_ ?_ <;> (intro hc; (try simp -implicitDefEqProofs [-loopQ_n, hc, stB, hg, w2, w3]))) | (refine guardD_dec ?_ ?_ <;> (intro hc; (try simp -implicitDefEqProofs [-loopQ_n, hc, stB, hg, w2, w3]))) | (refine condD_intro ?_ ?_ <;> (intro hd; have hc := hd; (try simp at hc) <;> (try simp -implicitDefEqProofs [-loopQ_n, hd, hc, stB, hg, w2, w3]))) | (refine guardD_intro ?_ ?_ <;> (intro hd; have hc := hd; (try simp at hc) <;> (try simp -implicitDefEqProofs [-loopQ_n, hd, hc, stB, hg, w2, w3]))) | (refine ldD_ep ?_ ?_; (focus kernel_rfl); (try simp -implicitDefEqProofs [-loopQ_n, stB, hg, w2, w3])))))
            refine loop_next (r * 2 - d, j + 1, false) ⟨by simp only; omega, by simp only; omega, by simp only; omega, by simp, by simpa [coinE] using hC⟩ (by simp; omega) (weak_ofL 2 0 rfl (by simp) rfl ?_ ?_) <;> simp [stB]
          | false =>
            simp only [Bool.false_eq_true, if_false] at hC
            ((try simp -implicitDefEqProofs [-loopQ_n, stB, hg, w2, w3]) <;> (repeat' (first | (refine condD_dec ?_ ?_ <;> (intro hc; (try simp -implicitDefEqProofs [-loopQ_n, hc, stB, hg, w2, w3]))) | (refine guardD_dec ?_ ?_ <;> (intro hc; (try simp -implicitDefEqProofs [-loopQ_n, hc, stB, hg, w2, w3]))) | (refine condD_intro ?_ ?_ <;> (intro hd; have hc := hd; (try simp at hc) <;> (try simp -implicitDefEqProofs [-loopQ_n, hd, hc, stB, hg, w2, w3]))) | (refine guardD_intro ?_ ?_ <;> (intro hd; have hc := hd; (try simp at hc) <;> (try simp -implicitDefEqProofs [-loopQ_n, hd, hc, stB, hg, w2, w3]))) | (refine ldD_ep ?_ ?_; (focus kernel_rfl); (try simp -implicitDefEqProofs [-loopQ_n, stB, hg, w2, w3])))))
            exact fin true (j + 1) false _ hC.symm (by omega) rfl (by simp [stB]) _ (.inl rfl)
        · simp only [hg, decide_false, if_false] at hC
          cases b with
          | true =>
            simp only [Bool.true_eq_false, if_false] at hC
            ((try simp -implicitDefEqProofs [-loopQ_n, stB, hg, w2]) <;> (repeat' (first | (refine condD_dec ?_ ?_ <;> (intro hc; (try simp -implicitDefEqProofs [-loopQ_n, hc, stB, hg, w2]))) | (refine guardD_dec ?_ ?_ <;> (intro hc; (try simp -implicitDefEqProofs [-loopQ_n, hc, stB, hg, w2]))) | (refine condD_intro ?_ ?_ <;> (intro hd; have hc := hd; (try simp at hc) <;> (try simp -implicitDefEqProofs [-loopQ_n, hd, hc, stB, hg, w2]))) | (refine guardD_intro ?_ ?_ <;> (intro hd; have hc := hd; (try simp at hc) <;> (try simp -implicitDefEqProofs [-loopQ_n, hd, hc, stB, hg, w2]))) | (refine ldD_ep ?_ ?_; (focus kernel_rfl); (try simp -implicitDefEqProofs [-loopQ_n, stB, hg, w2])))))
            exact fin false (j + 1) false _ hC.symm (by omega) rfl (by simp [stB]) _ (.inl rfl)
          | false =>
            simp only [if_true] at hC
            ((try simp -implicitDefEqProofs [-loopQ_n, stB, hg, w2]) <;> (repeat' (first | (refine condD_dec ?_ ?_ <;> (intro hc; (try simp -implicitDefEqProofs [-loopQ_n, hc, stB, hg, w2]))) | (refine guardD_dec ?_ ?_ <;> (intro hc; (try simp -implicitDefEqProofs [-loopQ_n, hc, stB, hg, w2]))) | (refine condD_intro ?_ ?_ <;> (intro hd; have hc := hd; (try simp at hc) <;> (try simp -implicitDefEqProofs [-loopQ_n, hd, hc, stB, hg, w2]))) | (refine guardD_intro ?_ ?_ <;> (intro hd; have hc := hd; (try simp at hc) <;> (try simp -implicitDefEqProofs [-loopQ_n, hd, hc, stB, hg, w2]))) | (refine ldD_ep ?_ ?_; (focus kernel_rfl); (try simp -implicitDefEqProofs [-loopQ_n, stB, hg, w2])))))
            refine loop_next (r * 2, j + 1, false) ⟨by simp only; omega, by simp only; omega, by simp only; omega, by simp, by simpa [coinE] using hC⟩ (by simp; omega) (weak_ofL 2 0 rfl (by simp) rfl ?_ ?_) <;> simp [stB]
      · obtain rfl : j = 8 * l.length := by omega
        have hgd : (bitsL l).getD (8 * l.length) false = false := by rw [List.getD_eq_getElem?_getD, List.getElem?_eq_none (by omega)]; rfl
        have hC1 : R = (false, (bitsL l).drop (8 * l.length), true) := by rw [← hC, List.drop_eq_nil_of_le (by omega)]; simp [coinL, hr0]
        ((try simp -implicitDefEqProofs [-loopQ_n, stB, hr0, w2]) <;> (repeat' (first | (refine condD_dec ?_ ?_ <;> (intro hc; (try simp -implicitDefEqProofs [-loopQ_n, hc, stB, hr0, w2]))) | (refine guardD_dec ?_ ?_ <;> (intro hc; (try simp -implicitDefEqProofs [-loopQ_n, hc, stB, hr0, w2]))) | (refine condD_intro ?_ ?_ <;> (intro hd; have hc := hd; (try simp at hc) <;> (try simp -implicitDefEqProofs [-loopQ_n, hd, hc, stB, hr0, w2]))) | (refine guardD_intro ?_ ?_ <;> (intro hd; have hc := hd; (try simp at hc) <;> (try simp -implicitDefEqProofs [-loopQ_n, hd, hc, stB, hr0, w2]))) | (refine ldD_ep ?_ ?_; (focus kernel_rfl); (try simp -implicitDefEqProofs [-loopQ_n, stB, hr0, w2])))))
        refine callG_intro (foot1 (bit_G l (8 * l.length) false hl hj) 0 rfl (fun ρ => stB_mB) (fun ρ hρ => by simp [hρ]) ?_)
        rintro _ _ ⟨rfl, rfl⟩
        rw [if_neg (by omega), hgd]
        refine ⟨_, rfl, fun ρ => stB_mB, fun ρ => by simp, ?_⟩
        by_cases hg : d ≤ r * 2
        · have w3 : wrapI .i64 (r * 2 - d) = r * 2 - d := wrap_in (by omega) (by omega)
          ((try simp -implicitDefEqProofs [-loopQ_n, stB, hg, w2, w3]) <;> (repeat' (first | (refine condD_dec ?_ ?_ <;> (intro hc; (try simp -implicitDefEqProofs [-loopQ_n, hc, stB, hg, w2, w3]))) | (refine guardD_dec ?_ ?_ <;> (intro hc; (try simp -implicitDefEqProofs [-loopQ_n, hc, stB, hg, w2, w3]))) | (refine condD_intro ?_ ?_ <;> (intro hd; have hc := hd; (try simp at hc) <;> (try simp -implicitDefEqProofs [-loopQ_n, hd, hc, stB, hg, w2, w3]))) | (refine guardD_intro ?_ ?_ <;> (intro hd; have hc := hd; (try simp at hc) <;> (try simp -implicitDefEqProofs [-loopQ_n, hd, hc, stB, hg, w2, w3]))) | (refine ldD_ep ?_ ?_; (focus kernel_rfl); (try simp -implicitDefEqProofs [-loopQ_n, stB, hg, w2, w3])))))
          exact fin false (8 * l.length) true _ hC1 (by omega) rfl (by simp [stB]) _ (.inl rfl)
        · ((try simp -implicitDefEqProofs [-loopQ_n, stB, hg, w2]) <;> (repeat' (first | (refine condD_dec ?_ ?_ <;> (intro hc; (try simp -implicitDefEqProofs [-loopQ_n, hc, stB, hg, w2]))) | (refine guardD_dec ?_ ?_ <;> (intro hc; (try simp -implicitDefEqProofs [-loopQ_n, hc, stB, hg, w2]))) | (refine condD_intro ?_ ?_ <;> (intro hd; have hc := hd; (try simp at hc) <;> (try simp -implicitDefEqProofs [-loopQ_n, hd, hc, stB, hg, w2]))) | (refine guardD_intro ?_ ?_ <;> (intro hd; have hc := hd; (try simp at hc) <;> (try simp -implicitDefEqProofs [-loopQ_n, hd, hc, stB, hg, w2]))) | (refine ldD_ep ?_ ?_; (focus kernel_rfl); (try simp -implicitDefEqProofs [-loopQ_n, stB, hg, w2])))))
          refine loop_next (r * 2, 8 * l.length, true) ⟨by simp only; omega, by simp only; omega, by simp, by simp, by simp [coinE]; rw [hC1, List.drop_eq_nil_of_le (by omega)]⟩ (by simp) (weak_ofL 2 0 rfl (by simp) rfl ?_ ?_) <;> simp [stB]
end Go.Proofs.Ytkppfaennogcmaa
