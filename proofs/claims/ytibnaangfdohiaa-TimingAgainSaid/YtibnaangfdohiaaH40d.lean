/- Distances of histograms are a metric, as plain words. -/
import Derived.Test.YtibnaangfdohiaaH40b
import Derived.Test.YtibnaangfdohiaaH40c
import Derived.Test.YtibnaangfdohiaaFracA
namespace Go.Proofs.Ytibnaangfdohiaa
/-- A fraction that fits. -/
theorem fitF_ok {neg : Bool} {n d : Nat} (hd : 1 ≤ d) (h : (fitF neg n d).2.2 = 0) :
    validF (fitF neg n d).1 (fitF neg n d).2.1 = true ∧ (fitF neg n d).1 * (d : Int) = (if neg then -(n : Int) else n) * (fitF neg n d).2.1 := by
  have hg : 0 < Nat.gcd n d := Nat.gcd_pos_of_pos_right _ hd
  obtain ⟨a, ha⟩ := Nat.gcd_dvd_left n d
  obtain ⟨b, hb⟩ := Nat.gcd_dvd_right n d
  have e1 : n / Nat.gcd n d = a := Nat.div_eq_of_eq_mul_right hg ha
  have e2 : d / Nat.gcd n d = b := Nat.div_eq_of_eq_mul_right hg hb
  have e3 : Nat.gcd a b = 1 := by rw [← e1, ← e2]; exact Nat.coprime_div_gcd_div_gcd hg
  have hfit : fitF neg n d = if 1073741824 < a ∨ 1073741824 < b then (0, 0, 6) else (if neg then -(a : Int) else (a : Int), (b : Int), 0) := by
    unfold fitF
    rw [e1, e2]
  generalize Nat.gcd n d = G at *
  rw [hfit] at h ⊢
  by_cases hbig : 1073741824 < a ∨ 1073741824 < b
  · rw [if_pos hbig] at h; simp at h
  · rw [if_neg hbig]
    have hb1 : 1 ≤ b := by
      rcases Nat.eq_zero_or_pos b with h | h
      · subst h; omega
      · exact h
    have hnI : (n : Int) = (G : Int) * a := by rw [ha]; simp
    have hdI : (d : Int) = (G : Int) * b := by rw [hb]; simp
    refine ⟨?_, ?_⟩
    · rw [validF_iff]
      cases neg
      · exact ⟨by simp only [Bool.false_eq_true, if_false]; omega, by simp only [Bool.false_eq_true, if_false]; omega, by simp only [Bool.false_eq_true, if_false]; omega, by simp only [Bool.false_eq_true, if_false]; omega, by simpa using e3⟩
      · exact ⟨by simp only [if_true]; omega, by simp only [if_true]; omega, by simp only [if_true]; omega, by simp only [if_true]; omega, by simpa using e3⟩
    · rw [hnI, hdI]
      cases neg <;> simp <;> grind
theorem makeF_ok {n d : Int} (hn : 0 ≤ n) (hd : 1 ≤ d) (h : (makeF n d).2.2 = 0) : validF (makeF n d).1 (makeF n d).2.1 = true ∧ (makeF n d).1 * d = n * (makeF n d).2.1 := by
  have e : makeF n d = fitF false n.natAbs d.natAbs := by
    rw [makeF_pos (by omega)]
    congr 1
    simp
    omega
  rw [e] at h ⊢
  obtain ⟨h1, h2⟩ := fitF_ok (by omega) h
  refine ⟨h1, ?_⟩
  rw [show ((d.natAbs : Nat) : Int) = d by omega] at h2
  rw [h2]
  simp only [Bool.false_eq_true, if_false]
  rw [show ((n.natAbs : Nat) : Int) = n by omega]
theorem addF_err {a b : Int × Int} (h1 : validF a.1 a.2 = true) (h2 : validF b.1 b.2 = true) : (addF a b).2.2 = 0 ∨ (addF a b).2.2 = 6 := by
  rw [addF, h1, h2]
  simp only [Bool.and_self, if_true]
  rcases fitF_err (decide (sumN a b < 0)) (sumN a b).natAbs (sumD a b).natAbs with h | h
  · left; exact h
  · right; rw [h]
theorem addF_ok {a b : Int × Int} (h1 : validF a.1 a.2 = true) (h2 : validF b.1 b.2 = true) (h : (addF a b).2.2 = 0) :
    validF (addF a b).1 (addF a b).2.1 = true ∧ (addF a b).1 * (a.2 * b.2) = (a.1 * b.2 + b.1 * a.2) * (addF a b).2.1 := by
  obtain ⟨p, q⟩ := a
  obtain ⟨p', q'⟩ := b
  have b1 := validF_bd h1
  have b2 := validF_bd h2
  have e : addF (p, q) (p', q') = fitF (decide (sumN (p, q) (p', q') < 0)) (sumN (p, q) (p', q')).natAbs (sumD (p, q) (p', q')).natAbs := by
    rw [addF, h1, h2]; rfl
  rw [e] at h ⊢
  simp only at b1 b2
  obtain ⟨G, hG⟩ : ∃ G, G = Nat.gcd q.natAbs q'.natAbs := ⟨_, rfl⟩
  have hG1 : 1 ≤ G := by rw [hG]; exact Nat.gcd_pos_of_pos_left _ (by omega)
  have hGq : (G : Int) ∣ q := by rw [hG]; exact Int.ofNat_dvd_left.2 (Nat.gcd_dvd_left _ _)
  have hGq' : (G : Int) ∣ q' := by rw [hG]; exact Int.ofNat_dvd_left.2 (Nat.gcd_dvd_right _ _)
  obtain ⟨R, hR⟩ := hGq
  obtain ⟨R', hR'⟩ := hGq'
  have hG0 : (G : Int) ≠ 0 := by omega
  have hd1 : q / (G : Int) = R := by rw [hR]; exact Int.mul_ediv_cancel_left _ hG0
  have hd2 : q' / (G : Int) = R' := by rw [hR']; exact Int.mul_ediv_cancel_left _ hG0
  have hRp' : 0 < R' := by
    rcases Int.lt_or_le 0 R' with h | h
    · exact h
    · exfalso; have := Int.mul_nonpos_of_nonneg_of_nonpos (show (0 : Int) ≤ G by omega) h; omega
  have hS : sumN (p, q) (p', q') = p * R' + p' * R := by simp only [sumN, ← hG, hd1, hd2]
  have hD : sumD (p, q) (p', q') = q * R' := by simp only [sumD, ← hG, hd2]
  have hDp : 1 ≤ q * R' := by have := Int.mul_pos (show 0 < q by omega) hRp'; omega
  rw [hS, hD] at h ⊢
  obtain ⟨k1, k2⟩ := fitF_ok (by omega) h
  refine ⟨k1, ?_⟩
  have hd' : (((q * R').natAbs : Nat) : Int) = q * R' := by omega
  have hn' : (if decide (p * R' + p' * R < 0) = true then -(((p * R' + p' * R).natAbs : Nat) : Int) else (((p * R' + p' * R).natAbs : Nat) : Int)) = p * R' + p' * R := by
    by_cases hneg : p * R' + p' * R < 0
    · rw [if_pos (by simpa using hneg)]; omega
    · rw [if_neg (by simpa using hneg)]; omega
  rw [hd', hn'] at k2
  generalize fitF (decide (p * R' + p' * R < 0)) (p * R' + p' * R).natAbs (q * R').natAbs = r at *
  obtain ⟨s, t, f⟩ := r
  simp only at k2 ⊢
  generalize (G : Int) = g at *
  grind
theorem dsum_symm (x y : List Int) (k : Nat) : dsum x y k = dsum y x k := by
  induction k with
  | zero => rfl
  | succ k ih => simp only [dsum, ih]; omega
theorem distR_symm (e x y : List Int) : distR e x e y = distR e y e x := by
  by_cases h : validH e x = true
  · by_cases h' : validH e y = true
    · by_cases hz : tot x = 0 ∨ tot y = 0
      · rw [distR_none h h' hz, distR_none h' h hz.symm]
      · have l1 := (validH_iff.1 h).2.1
        have l2 := (validH_iff.1 h').2.1
        rw [distR_ok h h' hz, distR_ok h' h (fun k => hz k.symm), dsum_symm, Int.mul_comm (tot x), show x.length = y.length by omega]
    · have h' : validH e y = false := by simpa using h'
      rw [distR_arg (.inr h'), distR_arg (.inl h')]
  · have h : validH e x = false := by simpa using h
    rw [distR_arg (.inl h), distR_arg (.inr h)]
/-- Errors of distances: 1, 10, 6 (of histograms with the same edges). -/
theorem distR_cases (e x y : List Int) : (distR e x e y).2.2 = 0 ∨ (distR e x e y = (0, 0, (distR e x e y).2.2) ∧ (distR e x e y).2.2 ≠ 0) := by
  by_cases h : validH e x = true
  · by_cases h' : validH e y = true
    · by_cases hz : tot x = 0 ∨ tot y = 0
      · right; rw [distR_none h h' hz]; decide
      · rw [distR_ok h h' hz]
        rcases makeF_err (dsum x y x.length) (tot x * tot y) with k | ⟨k1, k2, k3⟩
        · left; exact k
        · right
          refine ⟨?_, k3⟩
          generalize makeF (dsum x y x.length) (tot x * tot y) = r at *
          obtain ⟨a, b, c⟩ := r
          simp only at k1 k2
          rw [k1, k2]
    · have h' : validH e y = false := by simpa using h'
      right; rw [distR_arg (.inr h')]; decide
  · have h : validH e x = false := by simpa using h
    right; rw [distR_arg (.inl h)]; decide
structure DistOk (e x y : List Int) : Prop where
  v1 : validH e x = true
  v2 : validH e y = true
  t1 : 1 ≤ tot x
  t2 : 1 ≤ tot y
  val : validF (distR e x e y).1 (distR e x e y).2.1 = true
  eq : (distR e x e y).1 * (tot x * tot y) = dsum x y x.length * (distR e x e y).2.1
theorem tot_pos {e x : List Int} (h : validH e x = true) (hz : ¬ tot x = 0) : 1 ≤ tot x := by
  have := tot_bd (validH_iff.1 h).small
  omega
theorem distR_zero {e x y : List Int} (h : (distR e x e y).2.2 = 0) : DistOk e x y := by
  by_cases v1 : validH e x = true
  · by_cases v2 : validH e y = true
    · by_cases hz : tot x = 0 ∨ tot y = 0
      · rw [distR_none v1 v2 hz] at h; simp at h
      · have t1 := tot_pos v1 (fun k => hz (.inl k))
        have t2 := tot_pos v2 (fun k => hz (.inr k))
        have l1 := (validH_iff.1 v1).2.1
        have l2 := (validH_iff.1 v2).2.1
        have hd := (dsum_bd (validH_iff.1 v1).small (validH_iff.1 v2).small x.length (by omega) (by omega)).1
        have hp : 1 ≤ tot x * tot y := by have := Int.mul_pos (show 0 < tot x by omega) (show 0 < tot y by omega); omega
        have k := distR_ok v1 v2 hz
        rw [k] at h
        have m := makeF_ok hd hp h
        rw [← k] at m
        exact ⟨v1, v2, t1, t2, m.1, m.2⟩
    · have v2 : validH e y = false := by simpa using v2
      rw [distR_arg (.inr v2)] at h; simp at h
  · have v1 : validH e x = false := by simpa using v1
    rw [distR_arg (.inl v1)] at h; simp at h
/-- Valid histograms with the same edges that are not empty: no error but 6. -/
theorem distR_six {e x y : List Int} (v1 : validH e x = true) (v2 : validH e y = true) (t1 : 1 ≤ tot x) (t2 : 1 ≤ tot y) : (distR e x e y).2.2 = 0 ∨ (distR e x e y).2.2 = 6 := by
  rw [distR_ok v1 v2 (by omega)]
  have hp : 1 ≤ tot x * tot y := by have := Int.mul_pos (show 0 < tot x by omega) (show 0 < tot y by omega); omega
  rw [makeF_pos (by omega)]
  rcases fitF_err (!(decide (dsum x y x.length < 0) == decide (tot x * tot y < 0))) (dsum x y x.length).natAbs (tot x * tot y).natAbs with k | k
  · left; exact k
  · right; rw [k]
/-- Equal shares. -/
def sameS (x y : List Int) (k : Nat) : Prop := ∀ i (h : i < x.length) (h' : i < y.length), i < k → x[i] * tot y = y[i] * tot x
theorem dsum_zero {e x y : List Int} (v1 : validHP e x) (v2 : validHP e y) : ∀ k, k ≤ x.length → (dsum x y k = 0 ↔ ∀ j, j < k → pre x (j + 1) * tot y = pre y (j + 1) * tot x) := by
  intro k
  have l1 := v1.2.1
  have l2 := v2.2.1
  induction k with
  | zero => intro _; simp [dsum]
  | succ k ih =>
    intro hk
    have h := ih (by omega)
    have hb := (dsum_bd v1.small v2.small k (by omega) (by omega)).1
    simp only [dsum]
    constructor
    · intro hz j hj
      have h0 : dsum x y k = 0 := by omega
      by_cases e : j = k
      · subst e; omega
      · exact h.1 h0 j (by omega)
    · intro hz
      have h0 := h.2 fun j hj => hz j (by omega)
      have := hz k (by omega)
      omega
theorem same_iff {e x y : List Int} (v1 : validHP e x) (v2 : validHP e y) : sameS x y x.length ↔ dsum x y x.length = 0 := by
  have l1 := v1.2.1
  have l2 := v2.2.1
  rw [dsum_zero v1 v2 x.length (Nat.le_refl _)]
  constructor
  · intro h j hj
    have : ∀ j, j ≤ x.length → pre x j * tot y = pre y j * tot x := by
      intro j
      induction j with
      | zero => intro _; simp [pre_zero]
      | succ j ih =>
        intro hj
        have h0 := ih (by omega)
        have h1 := h j (by omega) (by omega) (by omega)
        rw [pre_succ (by omega), pre_succ (by omega), Int.add_mul, Int.add_mul, h0, h1]
    exact this (j + 1) (by omega)
  · intro h i h1 h2 _
    have a := h i h1
    rw [pre_succ h1, pre_succ h2, Int.add_mul, Int.add_mul] at a
    have b : pre x i * tot y = pre y i * tot x := by
      cases i with
      | zero => simp [pre_zero]
      | succ i => exact h i (by omega)
    omega
theorem dsum_tri {e x y z : List Int} (v1 : validHP e x) (v2 : validHP e y) (v3 : validHP e z) : ∀ k, k ≤ x.length → dsum x z k * tot y ≤ dsum x y k * tot z + dsum y z k * tot x := by
  have p1 := (tot_bd v1.small).1
  have p2 := (tot_bd v2.small).1
  have p3 := (tot_bd v3.small).1
  intro k
  induction k with
  | zero => intro _; simp [dsum]
  | succ k ih =>
    intro hk
    have h := ih (by omega)
    simp only [dsum]
    generalize pre x (k + 1) = X
    generalize pre y (k + 1) = Y
    generalize pre z (k + 1) = Z
    generalize tot x = a at *
    generalize tot y = b at *
    generalize tot z = c at *
    have m : (((X * c - Z * a).natAbs : Nat) : Int) * b ≤ (((X * b - Y * a).natAbs : Nat) : Int) * c + (((Y * c - Z * b).natAbs : Nat) : Int) * a := by
      have e : (X * c - Z * a) * b = (X * b - Y * a) * c + (Y * c - Z * b) * a := by grind
      generalize X * c - Z * a = A at *
      generalize X * b - Y * a = B at *
      generalize Y * c - Z * b = C at *
      have q1 : ((A.natAbs : Nat) : Int) * b = (((A * b).natAbs : Nat) : Int) := by rw [Int.natAbs_mul, Int.natCast_mul, show ((b.natAbs : Nat) : Int) = b by omega]
      have q2 : ((B.natAbs : Nat) : Int) * c = (((B * c).natAbs : Nat) : Int) := by rw [Int.natAbs_mul, Int.natCast_mul, show ((c.natAbs : Nat) : Int) = c by omega]
      have q3 : ((C.natAbs : Nat) : Int) * a = (((C * a).natAbs : Nat) : Int) := by rw [Int.natAbs_mul, Int.natCast_mul, show ((a.natAbs : Nat) : Int) = a by omega]
      rw [q1, q2, q3, e]
      omega
    generalize (((X * c - Z * a).natAbs : Nat) : Int) = A at *
    generalize (((X * b - Y * a).natAbs : Nat) : Int) = B at *
    generalize (((Y * c - Z * b).natAbs : Nat) : Int) = C at *
    rw [Int.add_mul, Int.add_mul, Int.add_mul]
    omega
/-- The triangle inequality. -/
theorem tri {e x y z : List Int} {s : Int × Int} (d1 : DistOk e x y) (d2 : DistOk e y z) (d3 : DistOk e x z) (hs : 1 ≤ s.2)
    (h : s.1 * ((distR e x e y).2.1 * (distR e y e z).2.1) = ((distR e x e y).1 * (distR e y e z).2.1 + (distR e y e z).1 * (distR e x e y).2.1) * s.2) :
    (distR e x e z).1 * s.2 ≤ s.1 * (distR e x e z).2.1 := by
  have v1 := validH_iff.1 d1.v1
  have v2 := validH_iff.1 d1.v2
  have v3 := validH_iff.1 d2.v2
  have T := dsum_tri v1 v2 v3 x.length (Nat.le_refl _)
  have e1 := d1.eq
  have e2 := d2.eq
  have e3 := d3.eq
  have l1 := v1.2.1
  have l2 := v2.2.1
  rw [show y.length = x.length by omega] at e2
  have b1 := validF_bd d1.val
  have b2 := validF_bd d2.val
  have b3 := validF_bd d3.val
  have t1 := d1.t1
  have t2 := d1.t2
  have t3 := d2.t2
  generalize tot x = a at *
  generalize tot y = b at *
  generalize tot z = c at *
  generalize dsum x y x.length = D1 at *
  generalize dsum y z x.length = D2 at *
  generalize dsum x z x.length = D3 at *
  generalize distR e x e y = r1 at *
  generalize distR e y e z = r2 at *
  generalize distR e x e z = r3 at *
  obtain ⟨p, q, _⟩ := r1
  obtain ⟨p', q', _⟩ := r2
  obtain ⟨u, v, _⟩ := r3
  obtain ⟨s, t⟩ := s
  simp only at *
  have P : 0 < (a * b * c) * (q * q') := Int.mul_pos (Int.mul_pos (Int.mul_pos (by omega) (by omega)) (by omega)) (Int.mul_pos (by omega) (by omega))
  refine Int.le_of_mul_le_mul_right ?_ P
  have L : u * t * (a * b * c * (q * q')) = D3 * b * (v * q * q' * t) := by grind
  have Rr : s * v * (a * b * c * (q * q')) = (D1 * c + D2 * a) * (v * q * q' * t) := by grind
  rw [L, Rr]
  exact Int.mul_le_mul_of_nonneg_right T (Int.mul_nonneg (Int.mul_nonneg (Int.mul_nonneg (by omega) (by omega)) (by omega)) (by omega))
/-- Totals add up. -/
theorem tot_addL : ∀ {x y : List Int}, x.length = y.length → tot (addL x y) = tot x + tot y := by
  intro x
  induction x with
  | nil => intro y h; cases y with | nil => rfl | cons _ _ => simp at h
  | cons a x ih =>
    intro y h
    cases y with
    | nil => simp at h
    | cons b y =>
      have := ih (y := y) (by simpa using h)
      simp [tot, addL] at this ⊢
      omega
theorem mergeR_valid {e x y : List Int} (h : (mergeR e x e y).2.2 = 0) (v1 : validH e x = true) (v2 : validH e y = true) : mergeR e x e y = (e, addL x y, 0) ∧ validH e (addL x y) = true ∧ tot (addL x y) = tot x + tot y := by
  have V1 := validH_iff.1 v1
  have V2 := validH_iff.1 v2
  have l1 := V1.2.1
  have l2 := V2.2.1
  by_cases ho : overP x y
  · obtain ⟨i, h1, h2, h3⟩ := ho
    rw [mergeR_big v1 v2 h1 h2 h3] at h
    simp at h
  · have hb : ∀ i (h1 : i < x.length) (h2 : i < y.length), x[i] + y[i] ≤ 1048576 := fun i h1 h2 => Int.not_lt.1 fun h => ho ⟨i, h1, h2, h⟩
    refine ⟨mergeR_ok v1 v2 hb, validH_iff.2 ⟨V1.1, by rw [addL_len (by omega)]; exact l1, fun w hw => ?_⟩, tot_addL (by omega)⟩
    obtain ⟨i, hi, rfl⟩ := List.getElem_of_mem hw
    have hl := addL_len (a := x) (b := y) (by omega)
    rw [addL_at]
    have := V1.2.2 _ (List.getElem_mem (show i < x.length by omega))
    have := V2.2.2 _ (List.getElem_mem (show i < y.length by omega))
    have := hb i (by omega) (by omega)
    omega
end Go.Proofs.Ytibnaangfdohiaa
