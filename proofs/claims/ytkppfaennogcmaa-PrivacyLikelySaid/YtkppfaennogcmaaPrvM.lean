/- Noise of layer 55. -/
import Derived.Test.YtkppfaennogcmaaPrvN
import Derived.Test.YtkppfaennogcmaaFracQ
namespace Go.Proofs.Ytkppfaennogcmaa
set_option linter.unusedSimpArgs false
set_option linter.unusedVariables false
set_option linter.unnecessarySimpa false
set_option linter.unusedSectionVars false
open Go.RowKit
variable [Glob]
set_option maxRecDepth 100000
theorem headsL_bd {d num : Int} : ∀ (f : Nat) (bs : List Bool), (headsL d num f bs).1 + (headsL d num f bs).2.1.length ≤ bs.length := by
  intro f
  induction f with
  | zero => intro bs; simp [headsL]
  | succ f ih =>
    intro bs
    obtain ⟨p, hp⟩ := coinL_suf (d := d) bs num
    simp only [headsL]
    split
    · rename_i h
      have := ih (coinL d num bs).2.1
      have h2 := (coinL_true bs num (coinL d num bs).2.1 (coinL d num bs).2.2 (by rw [← h])).2
      simp only
      omega
    · have := congrArg List.length hp
      simp only [List.length_append] at this
      simp only
      omega
theorem headsL_suf {d num : Int} : ∀ (f : Nat) (bs : List Bool), ∃ p, bs = p ++ (headsL d num f bs).2.1 := by
  intro f
  induction f with
  | zero => intro bs; exact ⟨[], rfl⟩
  | succ f ih =>
    intro bs
    obtain ⟨p, hp⟩ := coinL_suf (d := d) bs num
    simp only [headsL]
    split
    · obtain ⟨q, hq⟩ := ih (coinL d num bs).2.1
      exact ⟨p ++ q, by simp only; rw [List.append_assoc, ← hq, ← hp]⟩
    · exact ⟨p, hp⟩
theorem headsL_end {d num : Int} : ∀ (f : Nat) (bs : List Bool), (headsL d num f bs).2.2 = true → (headsL d num f bs).2.1 = [] := by
  intro f
  induction f with
  | zero => intro bs h; simp [headsL] at h
  | succ f ih =>
    intro bs h
    simp only [headsL] at h ⊢
    split at h
    · rename_i h1; rw [if_pos h1]; exact ih _ h
    · rename_i h1; rw [if_neg h1]; exact (coinL_end _ _ h).1
/-- With enough fuel it does not matter how much. -/
theorem headsL_fuel {d num : Int} : ∀ (f g : Nat) (bs : List Bool), bs.length < f → bs.length < g → headsL d num f bs = headsL d num g bs := by
  intro f
  induction f with
  | zero => intro g bs h; omega
  | succ f ih =>
    intro g bs h1 h2
    cases g with
    | zero => omega
    | succ g =>
      simp only [headsL]
      split
      · rename_i h
        have h3 := (coinL_true bs num (coinL d num bs).2.1 (coinL d num bs).2.2 (by rw [← h])).2
        rw [ih g _ (by omega) (by omega)]
      · rfl
theorem noiseL_fuel {d num : Int} : ∀ (f g : Nat) (bs : List Bool), bs.length < f → bs.length < g → noiseL d num f bs = noiseL d num g bs := by
  intro f
  induction f with
  | zero => intro g bs h; omega
  | succ f ih =>
    intro g bs h1 h2
    cases g with
    | zero => omega
    | succ g =>
      simp only [noiseL]
      have hb := headsL_bd (d := d) (num := num) (bs.length + 1) bs
      split
      · rfl
      · rfl
      · rename_i n b bs2 hh
        rw [hh] at hb
        simp at hb
        rw [ih g bs2 (by omega) (by omega)]
def headsAt (d num : Int) (l : List UInt8) (j : Nat) : Nat × List Bool × Bool := headsL d num (((bitsL l).drop j).length + 1) ((bitsL l).drop j)
def noiseAt (d num : Int) (l : List UInt8) (j : Nat) : Int × List Bool × Bool := noiseL d num (((bitsL l).drop j).length + 1) ((bitsL l).drop j)
theorem headsAt_eq {d num : Int} {l : List UInt8} {j : Nat} {B : List Bool} (h : (bitsL l).drop j = B) : headsAt d num l j = headsL d num (B.length + 1) B := by unfold headsAt; rw [h]
theorem noiseAt_eq {d num : Int} {l : List UInt8} {j : Nat} {B : List Bool} (h : (bitsL l).drop j = B) : noiseAt d num l j = noiseL d num (B.length + 1) B := by unfold noiseAt; rw [h]
set_option maxHeartbeats 8000000 in
theorem noise_G (l : List UInt8) (i : Nat) (num d : Int) (hl : l.length ≤ 1000000) (hi : i ≤ 8 * l.length) (h0 : 0 ≤ num) (h1 : num < d) (h2 : d ≤ 1073741824) (R : Int × List Bool × Bool) (hR : noiseAt d num l i = R) :
    CallG Try.prog 68 [.op 0 0, .agg [.int .i64 num, .int .i64 d]] [stB l i false] fun r H => r = .int .i64 R.1 ∧ H = [stB l (8 * l.length - R.2.1.length) R.2.2] := by
  have hBl := bitsL_len l
  unfold stB
  refine inl_G mixed Try.func68 rfl (by kernel_rfl) (of_decide_eq_true rfl) (by kernel_rfl) (vc_run ?_)
  ((try simp -implicitDefEqProofs [-loopQ_n]) <;> (repeat' (first | (refine condD_dec ?_ ?_ <;> (intro hc; (try simp -implicitDefEqProofs [-loopQ_n, hc]))) | (refine guardD_dec ?_ ?_ <;> (intro hc; (try simp -implicitDefEqProofs [-loopQ_n, hc]))) | (refine condD_intro ?_ ?_ <;> (intro hd; have hc := hd; (try simp at hc) <;> (try simp -implicitDefEqProofs [-loopQ_n, hd, hc]))) | (refine guardD_intro ?_ ?_ <;> (intro hd; have hc := hd; (try simp at hc) <;> (try simp -implicitDefEqProofs [-loopQ_n, hd, hc]))) | (refine ldD_ep ?_ ?_; (focus kernel_rfl); (try simp -implicitDefEqProofs [-loopQ_n])))))
  refine loop_intro (σ := Nat) (fun i => ⟨[(0, .op 0 0), (3, .op 1 0)], [stB l i false, .box 61 [.int .i64 num, .int .i64 d]]⟩)
    (fun i => i ≤ 8 * l.length ∧ noiseAt d num l i = R) (fun i => 8 * l.length - i) i ⟨hi, hR⟩ ?_ ?_
  · refine weak_ofL 2 0 rfl (by simp) rfl ?_ ?_ <;> simp [stB]
  clear hR hi
  rintro i ⟨hi, hR⟩
  have fin : ∀ (x : Int) (j' : Nat) (e' : Bool) (s : St), R = (x, (bitsL l).drop j', e') → j' ≤ 8 * l.length → resA Try.prog Try.f68 s = some (.int .i64 x) → s.H = [stB l j' e', .box 61 [.int .i64 num, .int .i64 d]] →
      endG Try.prog 1 Try.f68 (fun r H => r = .int .i64 R.1 ∧ H = [.box 122 [.rs (rowsOf byC l), .int .i64 (8 * l.length - R.2.1.length : Nat), .bool R.2.2]]) .ret s := by
    intro b j' e' s hR' hj' hs hH
    have : 8 * l.length - ((bitsL l).drop j').length = j' := by rw [List.length_drop, hBl]; omega
    refine ⟨.int .i64 b, .int .i64 b, [stB l j' e'], hs, ?_, by rw [hR'], by rw [hR']; simp only [stB, this]⟩
    rw [hH]
    refine weak_ofL 1 0 (by simp) (by simp) (by simp) ?_ ?_ <;> simp [stB]
  obtain ⟨B, hB⟩ : ∃ B, (bitsL l).drop i = B := ⟨_, rfl⟩
  rw [noiseAt_eq hB] at hR
  have hBlen : B.length = 8 * l.length - i := by rw [← hB, List.length_drop, hBl]
  obtain ⟨⟨N, bs1, e1⟩, hHd⟩ : ∃ x, headsL d num (B.length + 1) B = x := ⟨_, rfl⟩
  simp only [noiseL, hHd] at hR
  have hbd := headsL_bd (d := d) (num := num) (B.length + 1) B
  rw [hHd] at hbd
  simp only at hbd
  ((try simp -implicitDefEqProofs [-loopQ_n, stB]) <;> (repeat' (first | (refine condD_dec ?_ ?_ <;> (intro hc; (try simp -implicitDefEqProofs [-loopQ_n, hc, stB]))) | (refine guardD_dec ?_ ?_ <;> (intro hc; (try simp -implicitDefEqProofs [-loopQ_n, hc, stB]))) | (refine condD_intro ?_ ?_ <;> (intro hd; have hc := hd; (try simp at hc) <;> (try simp -implicitDefEqProofs [-loopQ_n, hd, hc, stB]))) | (refine guardD_intro ?_ ?_ <;> (intro hd; have hc := hd; (try simp at hc) <;> (try simp -implicitDefEqProofs [-loopQ_n, hd, hc, stB]))) | (refine ldD_ep ?_ ?_; (focus kernel_rfl); (try simp -implicitDefEqProofs [-loopQ_n, stB])))))
  refine loop_intro (σ := Nat × Nat) (fun x => ⟨[(0, .op 0 0), (3, .op 1 0), (5, .int .i64 x.1)], [stB l x.2 false, .box 61 [.int .i64 num, .int .i64 d]]⟩)
    (fun x => i ≤ x.2 ∧ x.2 ≤ 8 * l.length ∧ x.1 + (headsAt d num l x.2).1 = N ∧ (headsAt d num l x.2).2 = (bs1, e1)) (fun x => 8 * l.length - x.2) (0, i) ⟨Nat.le_refl _, hi, by rw [headsAt_eq hB, hHd]; simp, by rw [headsAt_eq hB, hHd]⟩ ?_ ?_
  · refine weak_ofL 2 0 rfl (by simp) rfl ?_ ?_ <;> simp [stB]
  rintro ⟨n, j⟩ ⟨hij, hj, hn1, hn2⟩
  simp only at hij hj hn1 hn2
  have hjb := headsL_bd (d := d) (num := num) (((bitsL l).drop j).length + 1) ((bitsL l).drop j)
  obtain ⟨⟨cb, cbs, ce⟩, hc⟩ : ∃ x, coinL d num ((bitsL l).drop j) = x := ⟨_, rfl⟩
  obtain ⟨p, hp⟩ := coinL_suf (d := d) ((bitsL l).drop j) num
  rw [hc] at hp
  simp only at hp
  obtain ⟨k1, k2⟩ := drop_len hp (by omega)
  rw [hBl] at k1 k2
  rw [headsAt_eq rfl] at hn1 hn2
  simp only [headsL, hc] at hn1 hn2
  ((try simp -implicitDefEqProofs [-loopQ_n, stB]) <;> (repeat' (first | (refine condD_dec ?_ ?_ <;> (intro hc; (try simp -implicitDefEqProofs [-loopQ_n, hc, stB]))) | (refine guardD_dec ?_ ?_ <;> (intro hc; (try simp -implicitDefEqProofs [-loopQ_n, hc, stB]))) | (refine condD_intro ?_ ?_ <;> (intro hd; have hc := hd; (try simp at hc) <;> (try simp -implicitDefEqProofs [-loopQ_n, hd, hc, stB]))) | (refine guardD_intro ?_ ?_ <;> (intro hd; have hc := hd; (try simp at hc) <;> (try simp -implicitDefEqProofs [-loopQ_n, hd, hc, stB]))) | (refine ldD_ep ?_ ?_; (focus kernel_rfl); (try simp -implicitDefEqProofs [-loopQ_n, stB])))))
  refine callG_intro (foot1 (coin_G l j num d hl hj h0 h1 h2) 0 rfl (fun ρ => stB_mB) (fun ρ hρ => by simp [hρ]) ?_)
  rintro _ _ ⟨rfl, rfl⟩
  rw [hc]
  refine ⟨_, rfl, fun ρ => stB_mB, fun ρ => by simp, ?_⟩
  cases cb with
  | true =>
    obtain ⟨rfl, hlt⟩ := coinL_true _ _ _ _ hc
    simp only [if_true] at hn1 hn2
    have hdl : ((bitsL l).drop j).length = 8 * l.length - j := by rw [List.length_drop, hBl]
    have w1 : wrapI .i64 ((n : Int) + 1) = ((n + 1 : Nat) : Int) := by rw [wrap_in (by omega) (by omega)]; omega
    ((try simp -implicitDefEqProofs [-loopQ_n, stB, w1]) <;> (repeat' (first | (refine condD_dec ?_ ?_ <;> (intro hc; (try simp -implicitDefEqProofs [-loopQ_n, hc, stB, w1]))) | (refine guardD_dec ?_ ?_ <;> (intro hc; (try simp -implicitDefEqProofs [-loopQ_n, hc, stB, w1]))) | (refine condD_intro ?_ ?_ <;> (intro hd; have hc := hd; (try simp at hc) <;> (try simp -implicitDefEqProofs [-loopQ_n, hd, hc, stB, w1]))) | (refine guardD_intro ?_ ?_ <;> (intro hd; have hc := hd; (try simp at hc) <;> (try simp -implicitDefEqProofs [-loopQ_n, hd, hc, stB, w1]))) | (refine ldD_ep ?_ ?_; (focus kernel_rfl); (try simp -implicitDefEqProofs [-loopQ_n, stB, w1])))))
    refine loop_next (n + 1, 8 * l.length - cbs.length) ⟨by simp only; omega, by simp only; omega, ?_, ?_⟩ (by simp only; omega) (weak_ofL 2 0 rfl (by simp) rfl ?_ ?_)
    · show n + 1 + (headsAt d num l (8 * l.length - cbs.length)).1 = N
      rw [headsAt_eq k1, headsL_fuel (cbs.length + 1) ((bitsL l).drop j).length cbs (by omega) (by omega)]
      omega
    · show (headsAt d num l (8 * l.length - cbs.length)).2 = (bs1, e1)
      rw [headsAt_eq k1, headsL_fuel (cbs.length + 1) ((bitsL l).drop j).length cbs (by omega) (by omega)]
      exact hn2
    · simp [w1]
    · simp [stB]
  | false =>
    simp only [Bool.false_eq_true, if_false] at hn1 hn2
    obtain rfl : n = N := by omega
    cases hn2
    obtain ⟨J, hJ⟩ : ∃ J, J = 8 * l.length - bs1.length := ⟨_, rfl⟩
    rw [← hJ] at k1 ⊢
    have hJl : J ≤ 8 * l.length := by omega
    have hxl : ∀ j, ((bitsL l).drop j).length = 8 * l.length - j := fun j => by rw [List.length_drop, hBl]
    have hend : bs1 = [] → J = 8 * l.length := fun h => by have := hxl J; rw [k1, h] at this; simp at this; omega
    ((try simp -implicitDefEqProofs [-loopQ_n, stB]) <;> (repeat' (first | (refine condD_dec ?_ ?_ <;> (intro hc; (try simp -implicitDefEqProofs [-loopQ_n, hc, stB]))) | (refine guardD_dec ?_ ?_ <;> (intro hc; (try simp -implicitDefEqProofs [-loopQ_n, hc, stB]))) | (refine condD_intro ?_ ?_ <;> (intro hd; have hc := hd; (try simp at hc) <;> (try simp -implicitDefEqProofs [-loopQ_n, hd, hc, stB]))) | (refine guardD_intro ?_ ?_ <;> (intro hd; have hc := hd; (try simp at hc) <;> (try simp -implicitDefEqProofs [-loopQ_n, hd, hc, stB]))) | (refine ldD_ep ?_ ?_; (focus kernel_rfl); (try simp -implicitDefEqProofs [-loopQ_n, stB])))))
    refine callG_intro (foot1 (bit_G l J e1 hl hJl) 0 rfl (fun ρ => stB_mB) (fun ρ hρ => by simp [hρ]) ?_)
    rintro _ _ ⟨rfl, rfl⟩
    refine ⟨_, rfl, fun ρ => by split <;> exact stB_mB, fun ρ => by simp, ?_⟩
    have hw : wrapI .i64 (-(n : Int)) = -(n : Int) := wrap_in (by omega) (by omega)
    cases bs1 with
    | nil =>
      obtain rfl := hend rfl
      have hgd : (bitsL l).getD (8 * l.length) false = false := by rw [List.getD_eq_getElem?_getD, List.getElem?_eq_none (by omega)]; rfl
      have hR2 : R = ((n : Int), (bitsL l).drop (8 * l.length), true) := by rw [← hR, k1]; cases e1 <;> rfl
      rw [if_neg (by omega), hgd]
      ((try simp -implicitDefEqProofs [-loopQ_n, stB]) <;> (repeat' (first | (refine condD_dec ?_ ?_ <;> (intro hc; (try simp -implicitDefEqProofs [-loopQ_n, hc, stB]))) | (refine guardD_dec ?_ ?_ <;> (intro hc; (try simp -implicitDefEqProofs [-loopQ_n, hc, stB]))) | (refine condD_intro ?_ ?_ <;> (intro hd; have hc := hd; (try simp at hc) <;> (try simp -implicitDefEqProofs [-loopQ_n, hd, hc, stB]))) | (refine guardD_intro ?_ ?_ <;> (intro hd; have hc := hd; (try simp at hc) <;> (try simp -implicitDefEqProofs [-loopQ_n, hd, hc, stB]))) | (refine ldD_ep ?_ ?_; (focus kernel_rfl); (try simp -implicitDefEqProofs [-loopQ_n, stB])))))
      exact fin n (8 * l.length) true _ hR2 (by omega) rfl (by simp [stB])
    | cons b bs2 =>
      have hJ2 : J < 8 * l.length := by have := hxl J; rw [k1] at this; simp at this; omega
      have he1 : e1 = false := by
        cases e1
        · rfl
        · have := headsL_end (d := d) (num := num) (B.length + 1) B (by rw [hHd])
          rw [hHd] at this; simp at this
      subst he1
      rw [if_pos hJ2]
      have hgd : (bitsL l).getD J false = b := by
        rw [List.getD_eq_getElem?_getD, ← List.head?_drop, k1]; rfl
      have hdr : (bitsL l).drop (J + 1) = bs2 := by rw [← List.drop_drop, k1]; rfl
      rw [hgd]
      simp only at hR
      cases b with
      | true =>
        by_cases hn0 : 0 < n
        · have hn0' : (0 : Int) < n := by omega
          simp only [if_true, hn0] at hR
          ((try simp -implicitDefEqProofs [-loopQ_n, stB, hn0, hn0', hw]) <;> (repeat' (first | (refine condD_dec ?_ ?_ <;> (intro hc; (try simp -implicitDefEqProofs [-loopQ_n, hc, stB, hn0, hn0', hw]))) | (refine guardD_dec ?_ ?_ <;> (intro hc; (try simp -implicitDefEqProofs [-loopQ_n, hc, stB, hn0, hn0', hw]))) | (refine condD_intro ?_ ?_ <;> (intro hd; have hc := hd; (try simp at hc) <;> (try simp -implicitDefEqProofs [-loopQ_n, hd, hc, stB, hn0, hn0', hw]))) | (refine guardD_intro ?_ ?_ <;> (intro hd; have hc := hd; (try simp at hc) <;> (try simp -implicitDefEqProofs [-loopQ_n, hd, hc, stB, hn0, hn0', hw]))) | (refine ldD_ep ?_ ?_; (focus kernel_rfl); (try simp -implicitDefEqProofs [-loopQ_n, stB, hn0, hn0', hw])))))
          exact fin (-n) (J + 1) false _ (by rw [← hR, hdr]) (by omega) rfl (by simp [stB])
        · obtain rfl : n = 0 := by omega
          simp only [if_true, Nat.lt_irrefl, if_false] at hR
          ((try simp -implicitDefEqProofs [-loopQ_n, stB]) <;> (repeat' (first | (refine condD_dec ?_ ?_ <;> (intro hc; (try simp -implicitDefEqProofs [-loopQ_n, hc, stB]))) | (refine guardD_dec ?_ ?_ <;> (intro hc; (try simp -implicitDefEqProofs [-loopQ_n, hc, stB]))) | (refine condD_intro ?_ ?_ <;> (intro hd; have hc := hd; (try simp at hc) <;> (try simp -implicitDefEqProofs [-loopQ_n, hd, hc, stB]))) | (refine guardD_intro ?_ ?_ <;> (intro hd; have hc := hd; (try simp at hc) <;> (try simp -implicitDefEqProofs [-loopQ_n, hd, hc, stB]))) | (refine ldD_ep ?_ ?_; (focus kernel_rfl); (try simp -implicitDefEqProofs [-loopQ_n, stB])))))
          refine loop_next (J + 1) ⟨by omega, ?_⟩ (by omega) (weak_ofL 2 0 rfl (by simp) rfl ?_ ?_)
          · rw [noiseAt_eq hdr, ← hR]
            simp only [List.length_cons] at hbd
            exact noiseL_fuel _ _ _ (by omega) (by omega)
          · simp
          · simp [stB]
      | false =>
        simp only [Bool.false_eq_true, if_false] at hR
        ((try simp -implicitDefEqProofs [-loopQ_n, stB]) <;> (repeat' (first | (refine condD_dec ?_ ?_ <;> (intro hc; (try simp -implicitDefEqProofs [-loopQ_n, hc, stB]))) | (refine guardD_dec ?_ ?_ <;> (intro hc; (try simp -implicitDefEqProofs [-loopQ_n, hc, stB]))) | (refine condD_intro ?_ ?_ <;> (intro hd; have hc := hd; (try simp at hc) <;> (try simp -implicitDefEqProofs [-loopQ_n, hd, hc, stB]))) | (refine guardD_intro ?_ ?_ <;> (intro hd; have hc := hd; (try simp at hc) <;> (try simp -implicitDefEqProofs [-loopQ_n, hd, hc, stB]))) | (refine ldD_ep ?_ ?_; (focus kernel_rfl); (try simp -implicitDefEqProofs [-loopQ_n, stB])))))
        exact fin n (J + 1) false _ (by rw [← hR, hdr]) (by omega) rfl (by simp [stB])
/-- What Noise hands back. -/
def noiseR (num d : Int) (l : List UInt8) : Int × Int × Int :=
  if validF num d = false then (0, 0, 1) else if num < 0 ∨ d ≤ num then (0, 0, 2) else if 16384 < l.length then (0, 0, 5) else
    match noiseL d num (8 * l.length + 1) (bitsL l) with
    | (n, bs, e) => if e = true then (0, 0, 4) else (n, 8 * l.length - bs.length, 0)
set_option maxHeartbeats 8000000 in
theorem Noise_pure (num d : Int) (l : List UInt8) (hl : l.length ≤ 1000000) : Pure Try.prog 31 [.agg [.int .i64 num, .int .i64 d], .rs (rowsOf byC l)] (.tup [.int .i64 (noiseR num d l).1, .int .i64 (noiseR num d l).2.1, .int .i64 (noiseR num d l).2.2]) := by
  have hv := fvalid_pure (num, d)
  simp only [fracC] at hv
  refine pure_of mixed Try.func31 rfl (by kernel_rfl) (of_decide_eq_true rfl) (by kernel_rfl) (vc_run ?_)
  ((try simp -implicitDefEqProofs [-loopQ_n]) <;> (repeat' (first | (refine condD_dec ?_ ?_ <;> (intro hc; (try simp -implicitDefEqProofs [-loopQ_n, hc]))) | (refine guardD_dec ?_ ?_ <;> (intro hc; (try simp -implicitDefEqProofs [-loopQ_n, hc]))) | (refine condD_intro ?_ ?_ <;> (intro hd; have hc := hd; (try simp at hc) <;> (try simp -implicitDefEqProofs [-loopQ_n, hd, hc]))) | (refine guardD_intro ?_ ?_ <;> (intro hd; have hc := hd; (try simp at hc) <;> (try simp -implicitDefEqProofs [-loopQ_n, hd, hc]))) | (refine ldD_ep ?_ ?_; (focus kernel_rfl); (try simp -implicitDefEqProofs [-loopQ_n])))))
  refine inl_intro mixed Try.func67 rfl (by kernel_rfl) (of_decide_eq_true rfl) (by kernel_rfl) ?_
  by_cases h1 : validF num d = true
  · have hb := validF_bd h1
    by_cases h2 : num < 0
    · have hr : noiseR num d l = (0, 0, 2) := by simp [noiseR, h1, h2]
      rw [hr]
      ((try simp -implicitDefEqProofs [-loopQ_n, h1, h2]) <;> (repeat' (first | (refine condD_dec ?_ ?_ <;> (intro hc; (try simp -implicitDefEqProofs [-loopQ_n, hc, h1, h2]))) | (refine guardD_dec ?_ ?_ <;> (intro hc; (try simp -implicitDefEqProofs [-loopQ_n, hc, h1, h2]))) | (refine condD_intro ?_ ?_ <;> (intro hd; have hc := hd; (try simp at hc) <;> (try simp -implicitDefEqProofs [-loopQ_n, hd, hc, h1, h2]))) | (refine guardD_intro ?_ ?_ <;> (intro hd; have hc := hd; (try simp at hc) <;> (try simp -implicitDefEqProofs [-loopQ_n, hd, hc, h1, h2]))) | (refine ldD_ep ?_ ?_; (focus kernel_rfl); (try simp -implicitDefEqProofs [-loopQ_n, h1, h2])) | (refine callS_mk ?_; (try simp -implicitDefEqProofs [-loopQ_n, h1, h2]); (first | refine callS_intro (hv) (.inl rfl) ?_); (try simp -implicitDefEqProofs [-loopQ_n, h1, h2])))))
      refine endG_r (.tup [.nilp, .int .i64 2]) (by simp) ?_
      simp -implicitDefEqProofs [contK]
    · by_cases h3 : d ≤ num
      · have hr : noiseR num d l = (0, 0, 2) := by simp [noiseR, h1, h3]
        rw [hr]
        ((try simp -implicitDefEqProofs [-loopQ_n, h1, h2, h3]) <;> (repeat' (first | (refine condD_dec ?_ ?_ <;> (intro hc; (try simp -implicitDefEqProofs [-loopQ_n, hc, h1, h2, h3]))) | (refine guardD_dec ?_ ?_ <;> (intro hc; (try simp -implicitDefEqProofs [-loopQ_n, hc, h1, h2, h3]))) | (refine condD_intro ?_ ?_ <;> (intro hd; have hc := hd; (try simp at hc) <;> (try simp -implicitDefEqProofs [-loopQ_n, hd, hc, h1, h2, h3]))) | (refine guardD_intro ?_ ?_ <;> (intro hd; have hc := hd; (try simp at hc) <;> (try simp -implicitDefEqProofs [-loopQ_n, hd, hc, h1, h2, h3]))) | (refine ldD_ep ?_ ?_; (focus kernel_rfl); (try simp -implicitDefEqProofs [-loopQ_n, h1, h2, h3])) | (refine callS_mk ?_; (try simp -implicitDefEqProofs [-loopQ_n, h1, h2, h3]); (first | refine callS_intro (hv) (.inl rfl) ?_); (try simp -implicitDefEqProofs [-loopQ_n, h1, h2, h3])))))
        refine endG_r (.tup [.nilp, .int .i64 2]) (by simp) ?_
        simp -implicitDefEqProofs [contK]
      · by_cases h4 : 16384 < l.length
        · have h4a : (16384 : Int) < l.length := by omega
          have hr : noiseR num d l = (0, 0, 5) := by simp [noiseR, h1, h2, h3, h4]
          rw [hr]
          ((try simp -implicitDefEqProofs [-loopQ_n, h1, h2, h3, h4a]) <;> (repeat' (first | (refine condD_dec ?_ ?_ <;> (intro hc; (try simp -implicitDefEqProofs [-loopQ_n, hc, h1, h2, h3, h4a]))) | (refine guardD_dec ?_ ?_ <;> (intro hc; (try simp -implicitDefEqProofs [-loopQ_n, hc, h1, h2, h3, h4a]))) | (refine condD_intro ?_ ?_ <;> (intro hd; have hc := hd; (try simp at hc) <;> (try simp -implicitDefEqProofs [-loopQ_n, hd, hc, h1, h2, h3, h4a]))) | (refine guardD_intro ?_ ?_ <;> (intro hd; have hc := hd; (try simp at hc) <;> (try simp -implicitDefEqProofs [-loopQ_n, hd, hc, h1, h2, h3, h4a]))) | (refine ldD_ep ?_ ?_; (focus kernel_rfl); (try simp -implicitDefEqProofs [-loopQ_n, h1, h2, h3, h4a])) | (refine callS_mk ?_; (try simp -implicitDefEqProofs [-loopQ_n, h1, h2, h3, h4a]); (first | refine callS_intro (hv) (.inl rfl) ?_); (try simp -implicitDefEqProofs [-loopQ_n, h1, h2, h3, h4a])))))
          refine endG_r (.tup [.nilp, .int .i64 5]) (by simp) ?_
          simp -implicitDefEqProofs [contK]
        · have h4a : ¬ (16384 : Int) < l.length := by omega
          obtain ⟨R, hR⟩ : ∃ R, noiseAt d num l 0 = R := ⟨_, rfl⟩
          have hr : noiseR num d l = if R.2.2 = true then ((0, 0, 4) : Int × Int × Int) else ((R.1, 8 * (l.length : Int) - R.2.1.length, 0) : Int × Int × Int) := by
            simp only [noiseR, h1, h2, h3, h4]
            unfold noiseAt at hR
            rw [List.drop_zero, bitsL_len] at hR
            rw [hR]
            simp
          rw [hr]
          ((try simp -implicitDefEqProofs [-loopQ_n, h1, h2, h3, h4a]) <;> (repeat' (first | (refine condD_dec ?_ ?_ <;> (intro hc; (try simp -implicitDefEqProofs [-loopQ_n, hc, h1, h2, h3, h4a]))) | (refine guardD_dec ?_ ?_ <;> (intro hc; (try simp -implicitDefEqProofs [-loopQ_n, hc, h1, h2, h3, h4a]))) | (refine condD_intro ?_ ?_ <;> (intro hd; have hc := hd; (try simp at hc) <;> (try simp -implicitDefEqProofs [-loopQ_n, hd, hc, h1, h2, h3, h4a]))) | (refine guardD_intro ?_ ?_ <;> (intro hd; have hc := hd; (try simp at hc) <;> (try simp -implicitDefEqProofs [-loopQ_n, hd, hc, h1, h2, h3, h4a]))) | (refine ldD_ep ?_ ?_; (focus kernel_rfl); (try simp -implicitDefEqProofs [-loopQ_n, h1, h2, h3, h4a])) | (refine callS_mk ?_; (try simp -implicitDefEqProofs [-loopQ_n, h1, h2, h3, h4a]); (first | refine callS_intro (hv) (.inl rfl) ?_); (try simp -implicitDefEqProofs [-loopQ_n, h1, h2, h3, h4a])))))
          refine endG_r (.tup [.op 2 0, .int .i64 0]) (by simp) ?_
          simp -implicitDefEqProofs [contK]
          ((try simp -implicitDefEqProofs [-loopQ_n]) <;> (repeat' (first | (refine condD_dec ?_ ?_ <;> (intro hc; (try simp -implicitDefEqProofs [-loopQ_n, hc]))) | (refine guardD_dec ?_ ?_ <;> (intro hc; (try simp -implicitDefEqProofs [-loopQ_n, hc]))) | (refine condD_intro ?_ ?_ <;> (intro hd; have hc := hd; (try simp at hc) <;> (try simp -implicitDefEqProofs [-loopQ_n, hd, hc]))) | (refine guardD_intro ?_ ?_ <;> (intro hd; have hc := hd; (try simp at hc) <;> (try simp -implicitDefEqProofs [-loopQ_n, hd, hc]))) | (refine ldD_ep ?_ ?_; (focus kernel_rfl); (try simp -implicitDefEqProofs [-loopQ_n])))))
          refine callG_intro (foot1 (noise_G l 0 num d hl (by omega) (by omega) (by omega) (by omega) R hR) 2 rfl (fun ρ => stB_mB) (fun ρ hρ => by simp [hρ]) ?_)
          rintro _ _ ⟨rfl, rfl⟩
          refine ⟨_, rfl, fun ρ => stB_mB, fun ρ => by simp, ?_⟩
          have hsz : R.2.1.length ≤ 8 * l.length := by
            rw [← hR]
            have : ∀ (f : Nat) (bs : List Bool), (noiseL d num f bs).2.1.length ≤ bs.length := by
              intro f
              induction f with
              | zero => intro bs; simp [noiseL]
              | succ f ih =>
                intro bs
                have hb := headsL_bd (d := d) (num := num) (bs.length + 1) bs
                simp only [noiseL]
                split
                · rename_i hh; rw [hh] at hb; simp only at hb ⊢; omega
                · simp
                · rename_i n b bs2 hh
                  rw [hh] at hb
                  simp only [List.length_cons] at hb
                  have := ih bs2
                  split
                  · split
                    · show bs2.length ≤ bs.length; omega
                    · omega
                  · show bs2.length ≤ bs.length; omega
            have := this (((bitsL l).drop 0).length + 1) ((bitsL l).drop 0)
            rw [List.drop_zero, bitsL_len] at this
            unfold noiseAt; rw [List.drop_zero, bitsL_len]; exact this
          have hc : ((8 * l.length - R.2.1.length : Nat) : Int) = 8 * (l.length : Int) - R.2.1.length := by omega
          by_cases h5 : R.2.2 = true
          · rw [if_pos h5]
            ((try simp -implicitDefEqProofs [-loopQ_n, stB, h5]) <;> (repeat' (first | (refine condD_dec ?_ ?_ <;> (intro hc; (try simp -implicitDefEqProofs [-loopQ_n, hc, stB, h5]))) | (refine guardD_dec ?_ ?_ <;> (intro hc; (try simp -implicitDefEqProofs [-loopQ_n, hc, stB, h5]))) | (refine condD_intro ?_ ?_ <;> (intro hd; have hc := hd; (try simp at hc) <;> (try simp -implicitDefEqProofs [-loopQ_n, hd, hc, stB, h5]))) | (refine guardD_intro ?_ ?_ <;> (intro hd; have hc := hd; (try simp at hc) <;> (try simp -implicitDefEqProofs [-loopQ_n, hd, hc, stB, h5]))) | (refine ldD_ep ?_ ?_; (focus kernel_rfl); (try simp -implicitDefEqProofs [-loopQ_n, stB, h5])))))
          · rw [if_neg h5]
            have h5 : R.2.2 = false := by simpa using h5
            ((try simp -implicitDefEqProofs [-loopQ_n, stB, h5, hc]) <;> (repeat' (first | (refine condD_dec ?_ ?_ <;> (intro hc; (try simp -implicitDefEqProofs [-loopQ_n, hc, stB, h5, hc]))) | (refine guardD_dec ?_ ?_ <;> (intro hc; (try simp -implicitDefEqProofs [-loopQ_n, hc, stB, h5, hc]))) | (refine condD_intro ?_ ?_ <;> (intro hd; have hc := hd; (try simp at hc) <;> (try simp -implicitDefEqProofs [-loopQ_n, hd, hc, stB, h5, hc]))) | (refine guardD_intro ?_ ?_ <;> (intro hd; have hc := hd; (try simp at hc) <;> (try simp -implicitDefEqProofs [-loopQ_n, hd, hc, stB, h5, hc]))) | (refine ldD_ep ?_ ?_; (focus kernel_rfl); (try simp -implicitDefEqProofs [-loopQ_n, stB, h5, hc])))))
  · have h1 : validF num d = false := by simpa using h1
    have hr : noiseR num d l = (0, 0, 1) := by simp [noiseR, h1]
    rw [hr]
    ((try simp -implicitDefEqProofs [-loopQ_n, h1]) <;> (repeat' (first | (refine condD_dec ?_ ?_ <;> (intro hc; (try simp -implicitDefEqProofs [-loopQ_n, hc, h1]))) | (refine guardD_dec ?_ ?_ <;> (intro hc; (try simp -implicitDefEqProofs [-loopQ_n, hc, h1]))) | (refine condD_intro ?_ ?_ <;> (intro hd; have hc := hd; (try simp at hc) <;> (try simp -implicitDefEqProofs [-loopQ_n, hd, hc, h1]))) | (refine guardD_intro ?_ ?_ <;> (intro hd; have hc := hd; (try simp at hc) <;> (try simp -implicitDefEqProofs [-loopQ_n, hd, hc, h1]))) | (refine ldD_ep ?_ ?_; (focus kernel_rfl); (try simp -implicitDefEqProofs [-loopQ_n, h1])) | (refine callS_mk ?_; (try simp -implicitDefEqProofs [-loopQ_n, h1]); (first | refine callS_intro (hv) (.inl rfl) ?_); (try simp -implicitDefEqProofs [-loopQ_n, h1])))))
    refine endG_r (.tup [.nilp, .int .i64 1]) (by simp) ?_
    simp -implicitDefEqProofs [contK]
end Go.Proofs.Ytkppfaennogcmaa
