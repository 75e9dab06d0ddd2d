/- A histogram is made again of its items (the law TimingAgain holds for every input; no condition). -/
import Derived.Test.YtibnaangfdohiaaTimG
import Derived.Test.YtibnaangfdohiaaTim3
import Derived.Test.YtibnaangfdohiaaTim6
import Derived.Test.YtibnaangfdohiaaTimB
import Derived.Test.YtibnaangfdohiaaH40e
import Derived.Test.YtibnaangfdohiaaH40d
import Derived.Test.YtibnaangfdohiaaRows
import Derived.Test.YtibnaangfdohiaaLawForms
namespace Go.Proofs.Ytibnaangfdohiaa
open Go.RowKit
/-- Where item number i lies. -/
theorem item_at {e c : List Int} (V : validHP e c) {i : Int} (h0 : 0 ≤ i) (h1 : i < tot c) :
    ∃ k, ∃ (hk : k < c.length), (∀ x, x < k → pre c (x + 1) ≤ i) ∧ pre c k ≤ i ∧ i < pre c (k + 1) := by
  have hne : 0 < c.length := by
    cases c with
    | nil => simp [tot] at h1; omega
    | cons => simp
  obtain ⟨s1, s2, s3⟩ := firstIx_spec (p := fun k => decide (i < pre c (k + 1))) (n := c.length) ⟨c.length - 1, by omega, by
    rw [show c.length - 1 + 1 = c.length by omega, pre_all (Nat.le_refl _)]; simpa using h1⟩
  refine ⟨_, s1, fun x hx => by have := s3 x hx; simp at this; exact this, ?_, by simpa using s2⟩
  generalize firstIx (fun k => decide (i < pre c (k + 1))) c.length = k at *
  cases k with
  | zero => rw [pre_zero]; exact h0
  | succ k => have := s3 k (by omega); simpa using this
theorem item_eq {e c : List Int} (V : validHP e c) {i : Int} {k : Nat} (hk : k < c.length) (h1 : ∀ x, x < k → pre c (x + 1) ≤ i) (h2 : pre c k ≤ i) (h3 : i < pre c (k + 1)) :
    ∃ (hk1 : k + 1 < e.length), 0 < c[k] ∧ sampV e c i = e[k] + (i - pre c k) * (e[k + 1] - e[k]) / c[k] ∧ e[k] ≤ sampV e c i ∧ sampV e c i < e[k + 1] := by
  have hl := V.2.1
  have hk1 : k + 1 < e.length := by omega
  have hs := V.1.sorted k (k + 1) hk1 (by omega)
  have hp := pre_succ hk
  have hc : 0 < c[k] := by omega
  have heq := sampV_eq hl hk h1 h3
  refine ⟨hk1, hc, heq, ?_, ?_⟩
  · rw [heq]
    have := Int.ediv_nonneg (Int.mul_nonneg (show 0 ≤ i - pre c k by omega) (show 0 ≤ e[k + 1] - e[k] by omega)) (show 0 ≤ c[k] by omega)
    omega
  · rw [heq]
    have : (i - pre c k) * (e[k + 1] - e[k]) / c[k] < e[k + 1] - e[k] := by
      apply Int.ediv_lt_of_lt_mul hc
      rw [Int.mul_comm]
      exact Int.mul_lt_mul_of_pos_left (by omega) (by omega)
    omega
theorem item_bI {e c : List Int} (V : validHP e c) {i : Int} {k : Nat} (hk : k < c.length) (h1 : ∀ x, x < k → pre c (x + 1) ≤ i) (h2 : pre c k ≤ i) (h3 : i < pre c (k + 1)) : bI e (sampV e c i) = k := by
  obtain ⟨hk1, _, _, h4, h5⟩ := item_eq V hk h1 h2 h3
  exact (bI_iff V.1.sorted hk1).2 ⟨h4, h5⟩
/-- Items ascend. -/
theorem item_mono {e c : List Int} (V : validHP e c) {i : Int} (h0 : 0 ≤ i) (h1 : i + 1 < tot c) : sampV e c i ≤ sampV e c (i + 1) := by
  obtain ⟨k, hk, a1, a2, a3⟩ := item_at V h0 (by omega)
  obtain ⟨k', hk', b1, b2, b3⟩ := item_at V (show 0 ≤ i + 1 by omega) h1
  obtain ⟨q1, q2, q3, q4, q5⟩ := item_eq V hk a1 a2 a3
  obtain ⟨r1, r2, r3, r4, r5⟩ := item_eq V hk' b1 b2 b3
  have hge : k ≤ k' := by
    apply Nat.le_of_not_lt
    intro h
    have := a1 k' h
    omega
  by_cases e1 : k = k'
  · subst e1
    rw [q3, r3]
    have hs := V.1.sorted k (k + 1) q1 (by omega)
    have : (i - pre c k) * (e[k + 1] - e[k]) / c[k] ≤ (i + 1 - pre c k) * (e[k + 1] - e[k]) / c[k] := by
      apply Int.ediv_le_ediv q2
      exact Int.mul_le_mul_of_nonneg_right (by omega) (by omega)
    omega
  · have : e[k + 1] ≤ e[k'] := by
      by_cases e2 : k + 1 = k'
      · subst e2; exact Int.le_refl _
      · have := V.1.sorted (k + 1) k' (by omega) (by omega); omega
    omega
/-- The share of the items up to this one. -/
theorem share_ok {i n : Int} (h0 : 0 ≤ i) (h1 : i < n) (h2 : n ≤ 40) : (makeF (i + 1) n).2.2 = 0 ∧ validF (makeF (i + 1) n).1 (makeF (i + 1) n).2.1 = true ∧ (makeF (i + 1) n).1 * n = (i + 1) * (makeF (i + 1) n).2.1 ∧ 1 ≤ (makeF (i + 1) n).1 ∧ (makeF (i + 1) n).1 ≤ (makeF (i + 1) n).2.1 := by
  have hok : (makeF (i + 1) n).2.2 = 0 := by
    rw [makeF_pos (by omega), fitF]
    have e1 : (i + 1).natAbs / Nat.gcd (i + 1).natAbs n.natAbs ≤ (i + 1).natAbs := Nat.div_le_self _ _
    have e2 : n.natAbs / Nat.gcd (i + 1).natAbs n.natAbs ≤ n.natAbs := Nat.div_le_self _ _
    rw [if_neg (by omega)]
  obtain ⟨k1, k2⟩ := makeF_ok (show 0 ≤ i + 1 by omega) (show 1 ≤ n by omega) hok
  have b := validF_bd k1
  generalize (makeF (i + 1) n).1 = a at *
  generalize (makeF (i + 1) n).2.1 = d at *
  refine ⟨hok, k1, k2, ?_, ?_⟩
  · have : 0 < a * n := by rw [k2]; exact Int.mul_pos (by omega) (by omega)
    have := Int.pos_of_mul_pos_left this (by omega)
    omega
  · have h3 : (i + 1) * d ≤ n * d := Int.mul_le_mul_of_nonneg_right (by omega) (by omega)
    rw [← k2, Int.mul_comm n d] at h3
    exact Int.le_of_mul_le_mul_right h3 (by omega)
/-- The bucket of the quantile is the item's. -/
theorem quant_item {e c : List Int} (V : validHP e c) (ht : tot c ≤ 40) {i : Int} {k : Nat} (h0 : 0 ≤ i) (hlt : i < tot c) (hk : k < c.length) (h1 : ∀ x, x < k → pre c (x + 1) ≤ i) (h2 : pre c k ≤ i) (h3 : i < pre c (k + 1)) (hk1 : k + 1 < e.length) :
    quantR e c (makeF (i + 1) (tot c)).1 (makeF (i + 1) (tot c)).2.1 = (e[k], e[k + 1], 0) := by
  obtain ⟨s1, s2, s3, s4, s5⟩ := share_ok h0 hlt ht
  have b := validF_bd s2
  generalize (makeF (i + 1) (tot c)).1 = a at *
  generalize (makeF (i + 1) (tot c)).2.1 = d at *
  refine quantR_ok (validH_iff.2 V) s2 s4 s5 (by omega) hk1 (fun x hx => ?_) (.inr ?_)
  · rw [s3]
    exact Int.mul_lt_mul_of_pos_right (by have := h1 x hx; omega) (by omega)
  · rw [s3]
    exact Int.mul_le_mul_of_nonneg_right (by omega) (by omega)
/-- All items. -/
def itemsL (e c : List Int) (N : Nat) : List Int := (List.range N).map fun (i : Nat) => sampV e c (i : Int)
theorem itemsL_succ (e c : List Int) (N : Nat) : itemsL e c (N + 1) = itemsL e c N ++ [sampV e c (N : Int)] := by simp [itemsL, List.range_succ]
theorem itemsL_len (e c : List Int) (N : Nat) : (itemsL e c N).length = N := by simp [itemsL]
theorem count_iv (a b : Nat) (hab : a ≤ b) : ∀ N : Nat, (List.range N).countP (fun i => decide (a ≤ i ∧ i < b)) = min b N - min a N := by
  intro N
  induction N with
  | zero => simp
  | succ N ih =>
    rw [List.range_succ, List.countP_append, ih]
    by_cases h : a ≤ N ∧ N < b
    · simp [h]; omega
    · simp [h]; omega
theorem cnt_items {e c : List Int} (V : validHP e c) {N : Nat} (hN : tot c = N) : cntI e (itemsL e c N) = c := by
  apply List.ext_getElem
  · rw [cntI_len]; have := V.2.1; omega
  · intro j h1 h2
    rw [cntI_get h1]
    have hsm := V.small
    have hp := pre_succ h2
    have hc := hsm.at_ h2
    have p0 := (pre_bd hsm j (by omega)).1
    have pN : pre c (j + 1) ≤ N := by rw [← hN, ← pre_all (Nat.le_refl c.length)]; exact pre_mono hsm (by omega) (Nat.le_refl _)
    obtain ⟨a, ha⟩ : ∃ a : Nat, pre c j = a := ⟨(pre c j).toNat, by omega⟩
    obtain ⟨b, hb⟩ : ∃ b : Nat, pre c (j + 1) = b := ⟨(pre c (j + 1)).toNat, by omega⟩
    have : (itemsL e c N).countP (fun x => decide (bI e x = (j : Int))) = (List.range N).countP (fun i => decide (a ≤ i ∧ i < b)) := by
      unfold itemsL
      rw [List.countP_map]
      apply List.countP_congr
      intro i hi
      have hi : i < N := by simpa using hi
      obtain ⟨k, hk, a1, a2, a3⟩ := item_at V (show (0 : Int) ≤ i by omega) (by omega)
      have hbk := item_bI V hk a1 a2 a3
      simp only [Function.comp, decide_eq_true_eq, hbk]
      constructor
      · intro e1
        have e1 : k = j := by omega
        subst e1
        omega
      · rintro ⟨q1, q2⟩
        rcases Nat.lt_trichotomy k j with h | h | h
        · have := pre_mono hsm (show k + 1 ≤ j by omega) (by omega); omega
        · omega
        · have := pre_mono hsm (show j + 1 ≤ k by omega) (by omega); omega
    rw [this, count_iv a b (by omega) N]
    omega
/-- The sum of the first items. -/
def sumI (e c : List Int) : Nat → Int
  | 0 => 0
  | i + 1 => sumI e c i + sampV e c (i : Int)
theorem sum_part {e c : List Int} (V : validHP e c) {k : Nat} (hk : k < c.length) {m : Nat} (hm : pre c k = m) (hk1 : k + 1 < e.length) : ∀ t : Nat, (t : Int) ≤ c[k] →
    sumI e c m + t * e[k] ≤ sumI e c (m + t) ∧ sumI e c (m + t) ≤ sumI e c m + t * (e[k + 1] - 1) := by
  intro t
  induction t with
  | zero => intro _; simp
  | succ t ih =>
    intro ht
    obtain ⟨i1, i2⟩ := ih (by omega)
    have hp := pre_succ hk
    obtain ⟨_, _, _, q4, q5⟩ := item_eq V hk (i := ((m + t : Nat) : Int)) (fun x hx => by have := pre_mono V.small (show x + 1 ≤ k by omega) (by omega); omega) (by omega) (by omega)
    rw [show m + (t + 1) = (m + t) + 1 by omega, sumI]
    have e1 : ((t + 1 : Nat) : Int) * e[k] = t * e[k] + e[k] := by rw [Int.natCast_add, Int.add_mul]; simp
    have e2 : ((t + 1 : Nat) : Int) * (e[k + 1] - 1) = t * (e[k + 1] - 1) + (e[k + 1] - 1) := by rw [Int.natCast_add, Int.add_mul]; simp
    rw [e1, e2]
    omega
theorem sum_bd {e c : List Int} (V : validHP e c) : ∀ k, k ≤ c.length → lowS e c k ≤ sumI e c (pre c k).toNat ∧ sumI e c (pre c k).toNat ≤ highS e c k := by
  intro k
  induction k with
  | zero => intro _; simp [pre_zero, lowS, highS, sumI]
  | succ k ih =>
    intro hk
    have hk : k < c.length := by omega
    obtain ⟨i1, i2⟩ := ih (by omega)
    have hl := V.2.1
    have hk1 : k + 1 < e.length := by omega
    have hc := V.small.at_ hk
    have hp := pre_succ hk
    have p0 := (pre_bd V.small k (by omega)).1
    obtain ⟨q1, q2⟩ := sum_part V hk (m := (pre c k).toNat) (by omega) hk1 c[k].toNat (by omega)
    have e1 : (pre c k).toNat + c[k].toNat = (pre c (k + 1)).toNat := by omega
    have e2 : ((c[k].toNat : Nat) : Int) = c[k] := by omega
    rw [e1, e2] at q1 q2
    rw [lowS_succ hk (by omega), highS_succ hk hk1]
    omega
theorem item_rng {e c : List Int} (V : validHP e c) {i : Int} (h0 : 0 ≤ i) (h1 : i < tot c) : 0 ≤ sampV e c i ∧ sampV e c i ≤ 1073741824 := by
  obtain ⟨k, hk, a1, a2, a3⟩ := item_at V h0 h1
  obtain ⟨q1, q2, q3, q4, q5⟩ := item_eq V hk a1 a2 a3
  have := V.1.2.2.1 k (by omega)
  have := V.1.2.2.1 (k + 1) q1
  omega
theorem sumI_rng {e c : List Int} (V : validHP e c) : ∀ i : Nat, (i : Int) ≤ tot c → 0 ≤ sumI e c i ∧ sumI e c i ≤ i * 1073741824 := by
  intro i
  induction i with
  | zero => intro _; simp [sumI]
  | succ i ih =>
    intro h
    have := ih (by omega)
    have := item_rng V (show (0 : Int) ≤ i by omega) (by omega)
    simp only [sumI]
    omega
/-- A fraction that is not greater. -/
theorem frac_le {p q n : Int} (hn : 1 ≤ n) (hp : 0 ≤ p) (hq : 0 ≤ q) (hpq : p ≤ q) (h1 : (makeF p n).2.2 = 0) (h2 : (makeF q n).2.2 = 0) :
    (cmpF ((makeF p n).1, (makeF p n).2.1) ((makeF q n).1, (makeF q n).2.1)).2 = 0 ∧ ¬ 0 < (cmpF ((makeF p n).1, (makeF p n).2.1) ((makeF q n).1, (makeF q n).2.1)).1 := by
  obtain ⟨v1, e1⟩ := makeF_ok hp hn h1
  obtain ⟨v2, e2⟩ := makeF_ok hq hn h2
  have b1 := validF_bd v1
  have b2 := validF_bd v2
  generalize (makeF p n).1 = a at *
  generalize (makeF p n).2.1 = b at *
  generalize (makeF q n).1 = c at *
  generalize (makeF q n).2.1 = d at *
  have key : a * d ≤ c * b := by
    -- a*d*n = p*b*d <= q*b*d = c*b*n
    have h3 : p * (b * d) ≤ q * (b * d) := Int.mul_le_mul_of_nonneg_right hpq (Int.mul_nonneg (by omega) (by omega))
    have h4 : (a * d) * n = p * (b * d) := by
      rw [Int.mul_assoc, Int.mul_comm d n, ← Int.mul_assoc, e1, Int.mul_assoc]
    have h5 : (c * b) * n = q * (b * d) := by
      rw [Int.mul_assoc, Int.mul_comm b n, ← Int.mul_assoc, e2, Int.mul_assoc, Int.mul_comm d b]
    rw [← h4, ← h5] at h3
    exact Int.le_of_mul_le_mul_right h3 (by omega)
  unfold cmpF
  simp only [v1, v2, Bool.and_self, if_true]
  split
  · simp
  · rw [if_neg (by omega)]
    simp
end Go.Proofs.Ytibnaangfdohiaa
namespace Go.Proofs.Ytibnaangfdohiaa
open Go.RowKit
set_option maxRecDepth 100000
theorem sample_pure {e c : List Int} (he : okI e) (hc : okI c) (N : Int) : Pure Try.prog 16 [.agg [ints e, ints c], .int .i64 N] (.tup [.int .i64 (sampR e c N).1, .int .i64 (sampR e c N).2]) := by
  refine ⟨by kernel_rfl, fun w X vs hX hl hv => ?_⟩
  obtain ⟨v, u, rfl⟩ := args2 hl
  obtain ⟨A, n, k, B, m, l, rfl, i0, i1⟩ := hist_of_ro he.2 hc.2 (by have := he.1; omega) (by have := hc.1; omega) (hv 0 _ v (by simp) (by simp))
  have hu := toV_eq (hv 1 (.int .i64 N) u (by simp) (by simp)) (u := .int .i64 N) rfl
  subst hu
  exact (sample_any A B n k m l e c N w i0 i1).mono fun e w' ⟨h1, h2⟩ => ⟨_, h1, toV_ro _ _ _ (Nat.lt_succ_self _) rfl, h2⟩
theorem quantile_pure {e c : List Int} (he : okI e) (hc : okI c) (a b : Int) : Pure Try.prog 14 [.agg [ints e, ints c], .agg [.int .i64 a, .int .i64 b]] (.tup [.agg [.int .i64 (quantR e c a b).1, .int .i64 (quantR e c a b).2.1], .int .i64 (quantR e c a b).2.2]) := by
  refine ⟨by kernel_rfl, fun w X vs hX hl hv => ?_⟩
  obtain ⟨v, u, rfl⟩ := args2 hl
  obtain ⟨A, n, k, B, m, l, rfl, i0, i1⟩ := hist_of_ro he.2 hc.2 (by have := he.1; omega) (by have := hc.1; omega) (hv 0 _ v (by simp) (by simp))
  have hu := toV_eq (hv 1 (.agg [.int .i64 a, .int .i64 b]) u (by simp) (by simp)) (u := .agg #[.int .i64 a, .int .i64 b]) rfl
  subst hu
  exact (quantile_any A B n k m l e c a b w i0 i1).mono fun e w' ⟨h1, h2⟩ => ⟨_, h1, toV_ro _ _ _ (Nat.lt_succ_self _) rfl, h2⟩
theorem mean_pure {e c : List Int} (he : okI e) (hc : okI c) : Pure Try.prog 22 [.agg [ints e, ints c]] (.tup [.agg [.int .i64 (meanR e c).1.1, .int .i64 (meanR e c).1.2, .int .i64 (meanR e c).2.1.1, .int .i64 (meanR e c).2.1.2], .int .i64 (meanR e c).2.2]) := by
  refine ⟨by kernel_rfl, fun w X vs hX hl hv => ?_⟩
  obtain ⟨v, rfl⟩ := args1 hl
  obtain ⟨A, n, k, B, m, l, rfl, i0, i1⟩ := hist_of_ro he.2 hc.2 (by have := he.1; omega) (by have := hc.1; omega) (hv 0 _ v (by simp) (by simp))
  exact (mean_any A B n k m l e c w i0 i1).mono fun e w' ⟨h1, h2⟩ => ⟨_, h1, toV_ro _ _ _ (Nat.lt_succ_self _) rfl, h2⟩
theorem rfmake_pure (n d : Int) (h1 : -4611686018427387904 ≤ n) (h2 : n ≤ 4611686018427387904) (h3 : -4611686018427387904 ≤ d) (h4 : d ≤ 4611686018427387904) :
    Pure Try.prog 53 [.int .i64 n, .int .i64 d] (.tup [.agg [.int .i64 (makeF n d).1, .int .i64 (makeF n d).2.1], .int .i64 (makeF n d).2.2]) :=
  pure_flat (by kernel_rfl) rfl rfl fun w => rmake_any n d w h1 h2 h3 h4
theorem share_pure (a b : Int) (h1 : -4611686018427387904 ≤ a) (h2 : a ≤ 4611686018427387904) (h3 : -4611686018427387904 ≤ b) (h4 : b ≤ 4611686018427387904) : Pure Try.prog 41 [.int .i64 a, .int .i64 b] (.agg [.int .i64 (makeF a b).1, .int .i64 (makeF a b).2.1]) := by
  refine pure_of mixed Try.func41 rfl (by kernel_rfl) (of_decide_eq_true rfl) (by kernel_rfl) (vc_run ?_)
  simp -implicitDefEqProofs
  refine call_intro (r := .tup [.agg [.int .i64 (makeF a b).1, .int .i64 (makeF a b).2.1], .int .i64 (makeF a b).2.2]) (rfmake_pure a b h1 h2 h3 h4) (by simp -implicitDefEqProofs) (.inl rfl) ?_
  simp -implicitDefEqProofs
theorem again1_pure (x : Int) : Pure Try.prog 40 [.int .i64 x] (.bool (decide (40 < x))) := by
  refine pure_of mixed Try.func40 rfl (by kernel_rfl) (of_decide_eq_true rfl) (by kernel_rfl) (vc_run ?_)
  simp -implicitDefEqProofs
end Go.Proofs.Ytibnaangfdohiaa
namespace Go.Proofs.Ytibnaangfdohiaa.lawAgain
open Go.ChangeShapes Go.WideShapes Go.ChangeAt Go.RowKit Go.Joins Go.Deep
open lawForms (wfL hist_dec)
set_option maxRecDepth 100000
set_option maxHeartbeats 8000000 in
/-- Make, of numbers that all lie in a bucket: memory of its own. -/
theorem make_new {e l : List Int} (he : okI e) (hp : properB e = true) (hl : l.length ≤ 40) (hall : ∀ i (hi : i < l.length), inB e l[i]) :
    New Try.prog 31 [ints e, ints l] (.tup [.agg [.os 1 e.length, .os 2 (e.length - 1)], .int .i64 0])
      [.box 24 [.os 1 e.length, .os 2 (e.length - 1)], .row 3 false (rowsOf intC e), .row 3 false (rowsOf intC (cntI e l)), .box 24 [.os 1 e.length, .os 2 (e.length - 1)]] := by
  refine new_of mixed Try.func31 rfl (by kernel_rfl) (of_decide_eq_true rfl) (by kernel_rfl) (vc_run ?_)
  simp -implicitDefEqProofs
  refine call_intro (proper_pure he) (by simp -implicitDefEqProofs) (.inl rfl) ?_
  have P := properB_iff.1 hp
  have hs := P.sorted
  have h2 := P.1
  have h20 := P.2.1
  have hne : e ≠ [] := by intro h; subst h; simp at h2
  have hl1 : ¬ (1048576 : Int) < l.length := by omega
  have w1 : wrapI .i64 ((e.length : Int) - 1) = (e.length : Int) - 1 := wrap_in (by omega) (by omega)
  have hc0 : (1 : Int) ≤ (e.length : Int) := by omega
  have hc1 : (e.length : Int) - 1 ≤ 1073741824 := by omega
  have hc2 : ((e.length : Int) - 1).toNat = e.length - 1 := by omega
  simp -implicitDefEqProofs [hp, hl1]
  refine fresh_intro (cloneI_fresh e hne (by omega)) (by simp -implicitDefEqProofs) (.inl (rowsOf_flat (by simp [intC, flat]))) ?_
  simp -implicitDefEqProofs [w1, hc0, hc1, hc2]
  refine loop_intro (σ := Nat) (fun i => ⟨[(0, ints e), (4, .op 0 0), (6, .op 3 0), (26, ints l), (27, .int .i64 l.length), (28, .int .i64 i)], [.box 24 [.nils, .nils], .row 3 false (rowsOf intC e), .row 3 false (rowsOf intC (cntI e (l.take i))), .box 24 [.os 1 e.length, .os 2 (e.length - 1)]]⟩)
    (fun i => i ≤ l.length) (fun i => l.length - i) 0 (by omega) ?_ ?_
  · refine weak_of 4 0 rfl rfl ?_ ?_
    · simp
    · simp [cntI_nil, show refsR 4 (List.replicate (e.length - 1) [AV.int .i64 0]) = true from by rw [← cntI_nil e]; simp]
  · intro i hi
    by_cases h : i < l.length
    · simp -implicitDefEqProofs [h]
      refine call_intro (bsearch_pure (x := l[i]) hs (by omega)) (by simp -implicitDefEqProofs) (.inl rfl) ?_
      have hb := bI_lb (x := l[i]) hs
      have hle := lb_le e l[i]
      have hin := hall i h
      have w2 : wrapI .i64 ((lbI e l[i] : Int) - 1) = (lbI e l[i] : Int) - 1 := wrap_in (by omega) (by omega)
      have hcl := cntI_len e (l.take i)
      by_cases hf : foundI e l[i] = true
      · rw [if_pos hf] at hb
        obtain ⟨n, hn⟩ : ∃ n : Nat, (lbI e l[i] : Int) = n := ⟨_, rfl⟩
        have hnn : lbI e l[i] = n := by omega
        have hlt : n < e.length - 1 := by have := hin.2; rw [hb] at this; omega
        have q2 : ¬ e.length - 1 ≤ n := by omega
        have hlt' : n < (cntI e (l.take i)).length := by omega
        have hbd := cntI_bd e (l.take i) _ (List.getElem_mem hlt')
        have w3 : wrapI .i64 ((cntI e (l.take i))[n] + 1) = (cntI e (l.take i))[n] + 1 := wrap_in (by omega) (by have := List.length_take_le i l; omega)
        rw [hnn] at hb
        simp -implicitDefEqProofs [hf, hnn, q2, hcl, hlt, w3]
        refine ⟨i + 1, by omega, by omega, ?_⟩
        refine weak_of 4 0 rfl rfl ?_ ?_
        · simp; exact (wrap_in (by omega) (by omega)).symm
        · have hset : (rowsOf intC (cntI e (l.take i))).set n [.int .i64 ((cntI e (l.take i))[n] + 1)] = rowsOf intC (cntI e (l.take (i + 1))) := by
            rw [show ([.int .i64 ((cntI e (l.take i))[n] + 1)] : List AV) = intC ((cntI e (l.take i))[n] + 1) from rfl, rowsOf_set, take_snoc h, cntI_snoc hb hlt']
          rw [hset]
          simp
      · have hf' : foundI e l[i] = false := by simpa using hf
        rw [if_neg hf] at hb
        obtain ⟨n, hn⟩ : ∃ n : Nat, (lbI e l[i] : Int) - 1 = n := ⟨((lbI e l[i] : Int) - 1).toNat, by have := hin.1; rw [hb] at this; omega⟩
        have hlt : n < e.length - 1 := by have := hin.2; rw [hb] at this; omega
        rw [hn] at hb
        have q2 : ¬ e.length - 1 ≤ n := by omega
        have hlt' : n < (cntI e (l.take i)).length := by omega
        have hbd := cntI_bd e (l.take i) _ (List.getElem_mem hlt')
        have w3 : wrapI .i64 ((cntI e (l.take i))[n] + 1) = (cntI e (l.take i))[n] + 1 := wrap_in (by omega) (by have := List.length_take_le i l; omega)
        have w4 : wrapI .i64 (n : Int) = n := wrap_in (by omega) (by omega)
        simp -implicitDefEqProofs [hf', hn, w4, q2, hcl, hlt, w3]
        refine ⟨i + 1, by omega, by omega, ?_⟩
        refine weak_of 4 0 rfl rfl ?_ ?_
        · simp; exact (wrap_in (by omega) (by omega)).symm
        · have hset : (rowsOf intC (cntI e (l.take i))).set n [.int .i64 ((cntI e (l.take i))[n] + 1)] = rowsOf intC (cntI e (l.take (i + 1))) := by
            rw [show ([.int .i64 ((cntI e (l.take i))[n] + 1)] : List AV) = intC ((cntI e (l.take i))[n] + 1) from rfl, rowsOf_set, take_snoc h, cntI_snoc hb hlt']
          rw [hset]
          simp
    · have hil : i = l.length := by omega
      subst hil
      simp -implicitDefEqProofs [h, endG]
      exact Weak.refl _
theorem shL_rows (k : Nat) (l : List Int) : (rowsOf intC l).map (shL k) = rowsOf intC l := by simp [rowsOf, intC, shL, shA]
theorem itemsL_get {e c : List Int} {N i : Nat} (h : i < (itemsL e c N).length) : (itemsL e c N)[i] = sampV e c (i : Int) := by simp [itemsL]
theorem makeF_six {p n : Int} (hn : 1 ≤ n) : (makeF p n).2.2 = 0 ∨ (makeF p n).2.2 = 6 := by
  rw [makeF_pos (by omega)]
  rcases fitF_err (!(decide (p < 0) == decide (n < 0))) p.natAbs n.natAbs with h | h
  · exact .inl h
  · exact .inr (by rw [h])
set_option maxHeartbeats 16000000 in
theorem small {e c : List Int} (we : wfL e) (wc : wfL c) (h1 : e.length ≤ 25) (h2 : c.length ≤ 25) (h3 : c.any (fun x => decide (40 < x)) = false) :
    Pure Try.prog 10 [.agg [ints e, ints c]] (.bool true) := by
  have he : okI e := ⟨by omega, we⟩
  have hc : okI c := ⟨by omega, wc⟩
  refine pure_of mixed Try.func10 rfl (by kernel_rfl) (of_decide_eq_true rfl) (by kernel_rfl) (vc_run ?_)
  simp -implicitDefEqProofs
  refine call_intro (awake_pure) (by simp -implicitDefEqProofs) (.inl rfl) ?_
  simp -implicitDefEqProofs
  refine call_intro (few_pure e c) (by simp -implicitDefEqProofs) (.inl rfl) ?_
  simp -implicitDefEqProofs [h1, h2]
  refine call_intro (intsF_any (p := fun x => decide (40 < x)) (l := c) (g := 40) (caps := []) (fun x _ => again1_pure x) (fun H k => rfl) rfl (by omega)) (by simp -implicitDefEqProofs) (.inl rfl) ?_
  rw [h3]
  simp -implicitDefEqProofs
  refine call_intro (ttotal_pure he hc) (by simp -implicitDefEqProofs) (.inl rfl) ?_
  by_cases v : validH e c = true
  rotate_left
  · have v : validH e c = false := by simpa using v
    have t1 : totalR e c = (0, 1) := by rw [totalR, if_neg (by simp [v])]
    simp -implicitDefEqProofs [t1]
  have t1 : totalR e c = (tot c, 0) := by rw [totalR, if_pos v]
  have V := validH_iff.1 v
  have P := V.1
  have hp := properB_iff.2 P
  have htb := tot_bd V.small
  by_cases big : 40 < tot c
  · have hnz : ¬ tot c = 0 := by omega
    simp -implicitDefEqProofs [t1, big, hnz]
  obtain ⟨N, hN⟩ : ∃ N : Nat, tot c = N := ⟨(tot c).toNat, by omega⟩
  have hN40 : N ≤ 40 := by omega
  have big' : ¬ (40 : Int) < N := by omega
  rw [hN] at t1
  simp -implicitDefEqProofs [t1, big']
  refine loop_intro (σ := Nat) (fun i => ⟨[(1, .op 0 0), (3, .int .i64 N), (5, .os 1 i), (6, .int .i64 (sumI e c i)), (52, .int .i64 N), (53, .int .i64 i)], [.box 24 [ints e, ints c], .row 3 true (rowsOf intC (itemsL e c i))]⟩) (fun i => i ≤ N) (fun i => N - i) 0 (by omega) ?_ ?_
  · refine weak_of 1 1 rfl rfl ?_ ?_ <;> simp [sumI, itemsL]
  · intro i hi
    have w1 : wrapI .i64 ((i : Int) + 1) = (i : Int) + 1 := wrap_in (by omega) (by omega)
    by_cases h : i < N
    · have hs := sample_pure he hc (i : Int)
      rw [sampR_ok v (by omega) (by omega)] at hs
      obtain ⟨k, hk, a1, a2, a3⟩ := item_at V (show (0 : Int) ≤ i by omega) (by omega)
      obtain ⟨q1, q2, q3, q4, q5⟩ := item_eq V hk a1 a2 a3
      have hq := quantile_pure he hc (makeF ((i : Int) + 1) (tot c)).1 (makeF ((i : Int) + 1) (tot c)).2.1
      rw [quant_item V (by omega) (by omega) (by omega) hk a1 a2 a3 q1, hN] at hq
      have hr := item_rng V (show (0 : Int) ≤ i by omega) (by omega)
      have hsr := sumI_rng V i (by omega)
      have w3 : wrapI .i64 (sumI e c i + sampV e c i) = sumI e c (i + 1) := by rw [wrap_in (by omega) (by omega)]; rfl
      have q4' : ¬ sampV e c i < e[k] := by omega
      have q5' : ¬ e[k + 1] ≤ sampV e c i := by omega
      have hli := itemsL_len e c i
      have hap : rowsOf intC (itemsL e c i) ++ [[AV.int .i64 (sampV e c i)]] = rowsOf intC (itemsL e c (i + 1)) := by
        rw [show ([AV.int .i64 (sampV e c i)] : List AV) = intC (sampV e c i) from rfl, rowsOf_snoc, itemsL_succ]
      have hli2 : i + 1 ≤ 1073741824 := by omega
      simp -implicitDefEqProofs [h]
      refine call_intro (hs) (by simp -implicitDefEqProofs) (.inl rfl) ?_
      simp -implicitDefEqProofs
      simp -implicitDefEqProofs [w1]
      refine call_intro (share_pure ((i : Int) + 1) N (by omega) (by omega) (by omega) (by omega)) (by simp -implicitDefEqProofs) (.inl rfl) ?_
      simp -implicitDefEqProofs
      refine call_intro (hq) (by simp -implicitDefEqProofs) (.inl rfl) ?_
      by_cases hi0 : 0 < i
      · have hp1 : i - 1 < i := by omega
        have w2 : wrapI .i64 ((i : Int) - 1) = ((i - 1 : Nat) : Int) := by rw [wrap_in (by omega) (by omega)]; omega
        have hgi : (itemsL e c i)[i - 1]? = some (sampV e c ((i - 1 : Nat) : Int)) := by rw [List.getElem?_eq_getElem (by omega), itemsL_get]
        have hm := item_mono V (i := ((i - 1 : Nat) : Int)) (by omega) (by omega)
        rw [show (((i - 1 : Nat) : Int) + 1) = i by omega] at hm
        have hm' : ¬ sampV e c i < sampV e c ((i - 1 : Nat) : Int) := by omega
        simp -implicitDefEqProofs [hi0, w2, hli, hp1, hgi, hm', q4', q5', w3, hli2, itemsL_get]
        refine ⟨i + 1, by omega, by omega, ?_⟩
        refine weak_of 2 0 rfl rfl ?_ ?_
        · simp
          exact (wrap_in (by omega) (by omega)).symm
        · simp [hap]
      · simp -implicitDefEqProofs [hi0, hli, q4', q5', w3, hli2]
        refine ⟨i + 1, by omega, by omega, ?_⟩
        refine weak_of 2 0 rfl rfl ?_ ?_
        · simp
          exact (wrap_in (by omega) (by omega)).symm
        · simp [hap]
    · have hiN : i = N := by omega
      subst hiN
      have hli := itemsL_len e c i
      have hall : ∀ j (hj : j < (itemsL e c i).length), inB e (itemsL e c i)[j] := by
        intro j hj
        rw [hli] at hj
        rw [itemsL_get]
        obtain ⟨k, hk, a1, a2, a3⟩ := item_at V (show (0 : Int) ≤ j by omega) (by omega)
        have hcl := V.2.1
        rw [inB, item_bI V hk a1 a2 a3]
        omega
      have mk := make_new he hp (l := itemsL e c i) (by omega) hall
      rw [cnt_items V hN] at mk
      have hcl : c.length = e.length - 1 := by have := V.2.1; omega
      have hm := mean_pure he hc
      have lb := sum_bd V c.length (Nat.le_refl _)
      rw [pre_all (Nat.le_refl _), hN, Int.toNat_natCast] at lb
      have mb := mean_bd V c.length (Nat.le_refl _)
      have sr := sumI_rng V i (by omega)
      simp -implicitDefEqProofs []
      refine new_intro mk (by simp -implicitDefEqProofs [hli, ints_reify]) (.inl ⟨by simp [flatO, flatOL], by simp [flatB, flatO, flatOL, rowsOf, intC]⟩) ?_
      simp -implicitDefEqProofs [shA, shL, shB, hcl, hli, shL_rows]
      refine call_intro (rsame_pure he hc he hc) (by simp -implicitDefEqProofs [hcl, ints_reify]) (.inl rfl) ?_
      simp -implicitDefEqProofs
      by_cases hz : i = 0
      · rw [meanR_none v (by omega)] at hm
        refine call_intro (hm) (by simp -implicitDefEqProofs) (.inl rfl) ?_
        simp -implicitDefEqProofs [hz]
      · have hz0 : 0 < i := by omega
        have hz' : ¬ tot c = 0 := by omega
        by_cases hb : (makeF (lowS e c c.length) (tot c)).2.2 ≠ 0 ∨ (makeF (highS e c c.length) (tot c)).2.2 ≠ 0
        · rw [meanR_big v hz' hb] at hm
          refine call_intro (hm) (by simp -implicitDefEqProofs) (.inl rfl) ?_
          simp -implicitDefEqProofs [hz, hz0]
        · have hb1 : (makeF (lowS e c c.length) (tot c)).2.2 = 0 := by
            apply Classical.byContradiction
            intro h; exact hb (.inl h)
          have hb2 : (makeF (highS e c c.length) (tot c)).2.2 = 0 := by
            apply Classical.byContradiction
            intro h; exact hb (.inr h)
          rw [meanR_ok v hz' hb1 hb2] at hm
          rw [hN] at hm hb1 hb2
          refine call_intro (hm) (by simp -implicitDefEqProofs) (.inl rfl) ?_
          simp -implicitDefEqProofs [hz]
          refine call_intro (fmake_pure (sumI e c i) i (by omega) (by omega) (by omega) (by omega)) (by simp -implicitDefEqProofs) (.inl rfl) ?_
          rcases makeF_six (p := sumI e c i) (n := i) (by omega) with k | k
          · have g1 := frac_le (p := lowS e c c.length) (q := sumI e c i) (n := i) (by omega) (by omega) (by omega) lb.1 hb1 k
            have g2 := frac_le (p := sumI e c i) (q := highS e c c.length) (n := i) (by omega) (by omega) (by omega) lb.2 k hb2
            have c1 := cmp_pure ((makeF (lowS e c c.length) i).1, (makeF (lowS e c c.length) i).2.1) ((makeF (sumI e c i) i).1, (makeF (sumI e c i) i).2.1)
            have c2 := cmp_pure ((makeF (sumI e c i) i).1, (makeF (sumI e c i) i).2.1) ((makeF (highS e c c.length) i).1, (makeF (highS e c c.length) i).2.1)
            rw [g1.1] at c1
            rw [g2.1] at c2
            have d1 : (cmpF ((makeF (lowS e c c.length) i).1, (makeF (lowS e c c.length) i).2.1) ((makeF (sumI e c i) i).1, (makeF (sumI e c i) i).2.1)).1 ≤ 0 := by omega
            have d2 : (cmpF ((makeF (sumI e c i) i).1, (makeF (sumI e c i) i).2.1) ((makeF (highS e c c.length) i).1, (makeF (highS e c c.length) i).2.1)).1 ≤ 0 := by omega
            simp -implicitDefEqProofs [k]
            refine call_intro (c1) (by simp -implicitDefEqProofs [fracC]) (.inl rfl) ?_
            simp -implicitDefEqProofs
            refine call_intro (c2) (by simp -implicitDefEqProofs [fracC]) (.inl rfl) ?_
            simp -implicitDefEqProofs [d1, d2]
          · simp -implicitDefEqProofs [k]
theorem large {e c : List Int} (h : ¬ (e.length ≤ 25 ∧ c.length ≤ 25 ∧ c.any (fun x => decide (40 < x)) = false)) :
    Pure Try.prog 10 [.agg [ints e, ints c]] (.bool true) := by
  refine pure_of mixed Try.func10 rfl (by kernel_rfl) (of_decide_eq_true rfl) (by kernel_rfl) (vc_run ?_)
  simp -implicitDefEqProofs
  refine call_intro (awake_pure) (by simp -implicitDefEqProofs) (.inl rfl) ?_
  simp -implicitDefEqProofs
  refine call_intro (few_pure e c) (by simp -implicitDefEqProofs) (.inl rfl) ?_
  by_cases h1 : e.length ≤ 25
  · by_cases h2 : c.length ≤ 25
    · have h3 : c.any (fun x => decide (40 < x)) = true := by
        cases h3 : c.any (fun x => decide (40 < x))
        · exact absurd ⟨h1, h2, h3⟩ h
        · rfl
      simp -implicitDefEqProofs [h1, h2]
      refine call_intro (intsF_any (p := fun x => decide (40 < x)) (l := c) (g := 40) (caps := []) (fun x _ => again1_pure x) (fun H k => rfl) rfl (by omega)) (by simp -implicitDefEqProofs) (.inl rfl) ?_
      rw [h3]
      simp -implicitDefEqProofs
      refine call_intro (awake_pure) (by simp -implicitDefEqProofs) (.inl rfl) ?_
      simp -implicitDefEqProofs
    · simp -implicitDefEqProofs [h1, h2]
      refine call_intro (awake_pure) (by simp -implicitDefEqProofs) (.inl rfl) ?_
      simp -implicitDefEqProofs
  · simp -implicitDefEqProofs [h1]
    refine call_intro (awake_pure) (by simp -implicitDefEqProofs) (.inl rfl) ?_
    simp -implicitDefEqProofs
theorem both (x0 : AV) (s0 : argS Try.prog 24 x0) : Pure Try.prog 10 [x0] (.bool true) := by
  obtain ⟨e, c, rfl, we, wc⟩ := hist_dec s0
  by_cases h : e.length ≤ 25 ∧ c.length ≤ 25 ∧ c.any (fun x => decide (40 < x)) = false
  · exact small we wc h.1 h.2.1 h.2.2
  · exact large h
theorem walk (W : World) (v0 : Value) (x0 : AV) (r0 : RO W (fun _ => False) x0 v0) (s0 : argS Try.prog 24 x0) :
    Calls Try.prog 10 #[v0] W fun e w' => e = .returned (.bool true) ∧ Below W.heap.size W w' := by
  refine ((both x0 s0).2 W (fun _ => False) _ (fun _ h => h.elim) rfl ?_).mono ?_
  · intro j x v hj hv
    match j with
    | 0 => simp at hj hv; subst hj hv; exact r0
    | j + 1 => simp at hj
  · rintro e w' ⟨v, rfl, hv, hb⟩
    rw [ro_tt hv]
    exact ⟨rfl, hb⟩
set_option maxRecDepth 100000 in
theorem lifted (os : Os) (started : os.Started) (H : Type) (enc : TypeId × Value → H) :
    ReturnsInHanded {} Try.checked os 10 .any (Rows.timingAgainSpec.pre6 enc Try.prog Try.f10 Rows.timingAgainRow.domain false) (Rows.timingAgainSpec.post enc Try.prog Try.f10 false true false false) := by
  refine returnsInHanded_of_change (C := Try.checked) ownK started (by kernel_rfl) Try.func10
    (ChangeSpec.witness6 (enc := enc) (C := Try.checked) false ⟨#[], #[.agg #[.slice none 0 0, .slice none 0 0]], []⟩ 8 (by kernel_rfl) (by kernel_rfl) (by kernel_rfl) (by kernel_rfl)) ?_
  intro W base args ds gs before hval0 hW hcnd _
  have hval : ∀ (j : Nat) t v, Try.f10.params[j]? = some t → args[j]? = some v → Value.okWide Try.prog W .any base t v := hval0
  have hW' := hW
  obtain ⟨p, q, hA0, hV, rfl, hfz, hnd⟩ := hW
  have hA : DataW.TrodAll enc Try.prog W 0 (fun _ => true) true Try.f10.params.toList args.toList ds p := hA0
  rw [Try.params10] at hA hval
  obtain ⟨v0, vs0, d0, ds0, p0, q0, hargs, rfl, rfl, h0, r0⟩ := trodAll_cons hA
  obtain ⟨rfl, rfl, rfl⟩ := trodAll_nil r0
  obtain rfl : args = #[v0] := by cases args; simp_all
  obtain ⟨rfl, rfl⟩ := trodVars_none hV
  have k0 := h0
  have lt0 : ∀ x ∈ p0, x.block < W.heap.size := by obtain ⟨m, hm⟩ := k0; exact DataW.trod_lt m _ _ _ hm
  obtain ⟨x0, y0, s0⟩ := arg_open (P := Try.prog) (t := 24) (by kernel_rfl) (by kernel_rfl) (hval 0 24 v0 rfl rfl) h0
  clear hA0 hval0
  refine (walk W v0 x0 y0 s0).mono fun e W' ⟨he, bel⟩ => ?_
  subst he
  exact ⟨_, rfl, _, _, _, [], _, [], hW', trodAll_mk1 (shut_bool Try.underlying4 _), (trodAll_cons_mk (Below.trod laidK (by kernel_rfl) (of_decide_eq_true (by kernel_rfl)) k0 bel lt0) trodAll_mk0), rfl, bel.frame _, fun h => by cases h⟩

theorem over : Rows.timingAgainRow.holds Try.pinned (OpenSpec.ofChange Rows.timingAgainSpec) :=
  OpenClaim.holds_of_wide 10 Try.f10 rfl rfl rfl rfl rfl rfl rfl ⟨rfl, rfl, rfl, rfl, rfl⟩ rfl rfl rfl rfl rfl (by kernel_rfl) Try.func10 (by kernel_rfl)
    (of_decide_eq_true (by kernel_rfl)) (by unfold Func.isWrapper; first | (rw [if_pos (by decide +kernel)]; kernel_rfl) | (rw [if_neg (by decide +kernel)]; exact ⟨rfl, rfl⟩))
    (fun os started H enc _ => lifted os started H enc)

theorem proved : Rows.TimingAgainSaid := over
end Go.Proofs.Ytibnaangfdohiaa.lawAgain
