/- Histograms of times, as plain functions: what the chapter defines. -/
import Derived.Test.YtibnaangfdohiaaFracH
namespace Go.Proofs.Ytibnaangfdohiaa

def properP (e : List Int) : Prop :=
  2 ≤ e.length ∧ e.length ≤ 20 ∧ (∀ i (h : i < e.length), 0 ≤ e[i] ∧ e[i] ≤ 1073741824) ∧ ∀ i (h : i + 1 < e.length), e[i] < e[i + 1]
def entryB (n : Int) : Bool := decide (n < 0) || decide (1048576 < n)
def validHP (e c : List Int) : Prop := properP e ∧ c.length + 1 = e.length ∧ ∀ x ∈ c, 0 ≤ x ∧ x ≤ 1048576
open Classical in
/-- The edges are those of a histogram. -/
noncomputable def properB (e : List Int) : Bool := decide (properP e)
open Classical in
/-- The histogram is valid. -/
noncomputable def validH (e c : List Int) : Bool := decide (validHP e c)
theorem properB_iff {e : List Int} : properB e = true ↔ properP e := by simp [properB]
theorem validH_iff {e c : List Int} : validH e c = true ↔ validHP e c := by simp [validH]
theorem properB_false {e : List Int} (h : ¬ properP e) : properB e = false := by simp [properB, h]
theorem validH_false {e c : List Int} (h : ¬ validHP e c) : validH e c = false := by simp [validH, h]

/-- The number of items in the first k buckets. -/
def pre (c : List Int) (k : Nat) : Int := (c.take k).sum
/-- The number of items. -/
def tot (c : List Int) : Int := c.sum
theorem pre_zero (c : List Int) : pre c 0 = 0 := rfl
theorem pre_succ {c : List Int} {k : Nat} (h : k < c.length) : pre c (k + 1) = pre c k + c[k] := by
  unfold pre
  rw [List.take_succ_eq_append_getElem h, List.sum_append]
  simp
theorem pre_all {c : List Int} {k : Nat} (h : c.length ≤ k) : pre c k = tot c := by
  unfold pre tot
  rw [List.take_of_length_le h]
/-- All counts are at least 0 and at most 2^20; there are at most 25. -/
def smallC (c : List Int) : Prop := c.length ≤ 25 ∧ ∀ x ∈ c, 0 ≤ x ∧ x ≤ 1048576
theorem smallC.at_ {c : List Int} (h : smallC c) {k : Nat} (hk : k < c.length) : 0 ≤ c[k] ∧ c[k] ≤ 1048576 := h.2 _ (List.getElem_mem hk)
theorem pre_bd {c : List Int} (h : smallC c) : ∀ k, k ≤ c.length → 0 ≤ pre c k ∧ pre c k ≤ k * 1048576 := by
  intro k
  induction k with
  | zero => intro _; rw [pre_zero]; omega
  | succ k ih =>
    intro hk
    have := ih (by omega)
    have := h.at_ (show k < c.length by omega)
    rw [pre_succ (by omega)]
    omega
theorem pre_mono {c : List Int} (h : smallC c) {i j : Nat} (hij : i ≤ j) (hj : j ≤ c.length) : pre c i ≤ pre c j := by
  induction j with
  | zero => obtain rfl : i = 0 := by omega
            exact Int.le_refl _
  | succ j ih =>
    rcases Nat.lt_or_ge i (j + 1) with h1 | h1
    · have := ih (by omega) (by omega)
      have := h.at_ (show j < c.length by omega)
      rw [pre_succ (by omega)]
      omega
    · obtain rfl : i = j + 1 := by omega
      exact Int.le_refl _
theorem tot_bd {c : List Int} (h : smallC c) : 0 ≤ tot c ∧ tot c ≤ 26214400 := by
  have h1 := pre_bd h c.length (Nat.le_refl _)
  rw [pre_all (Nat.le_refl _)] at h1
  have := h.1
  omega
theorem validHP.small {e c : List Int} (h : validHP e c) : smallC c := ⟨by have := h.1.2.1; have := h.2.1; omega, h.2.2⟩

/-- The first number below n of which p holds (n, if there is none). -/
def firstIx (p : Nat → Bool) (n : Nat) : Nat := (List.range n).findIdx p
theorem firstIx_eq {p : Nat → Bool} {n k : Nat} (hk : k < n) (h : ∀ j, j < k → p j = false) (hp : p k = true) : firstIx p n = k := by
  unfold firstIx
  rw [List.findIdx_eq (by simpa using hk)]
  refine ⟨by simpa using hp, fun j hj => ?_⟩
  simpa using h j hj
theorem firstIx_spec {p : Nat → Bool} {n : Nat} (h : ∃ k, k < n ∧ p k = true) : firstIx p n < n ∧ p (firstIx p n) = true ∧ ∀ j, j < firstIx p n → p j = false := by
  unfold firstIx
  obtain ⟨k, hk, hp⟩ := h
  have hlt : (List.range n).findIdx p < (List.range n).length := List.findIdx_lt_length_of_exists ⟨k, by simpa using hk, hp⟩
  refine ⟨by simpa using hlt, by simpa using List.findIdx_getElem (w := hlt), fun j hj => ?_⟩
  have := List.not_of_lt_findIdx (p := p) (xs := List.range n) hj
  simpa using this

/-- The bucket in which the share num/den of the items is reached. -/
def qIx (c : List Int) (num den : Int) : Nat := firstIx (fun i => decide (num * tot c ≤ pre c (i + 1) * den)) c.length
/-- Quantile: from, to, error. -/
noncomputable def quantR (e c : List Int) (num den : Int) : Int × Int × Int :=
  if validH e c = false ∨ validF num den = false then (0, 0, 1)
  else if num < 1 ∨ den < num then (0, 0, 2)
  else if tot c = 0 then (0, 0, 10)
  else (e.getD (qIx c num den) 0, e.getD (qIx c num den + 1) 0, 0)
theorem validF_iff {n d : Int} : validF n d = true ↔ validFP n d := by simp [validF]
theorem quantR_arg {e c : List Int} {num den : Int} (h : validH e c = false ∨ validF num den = false) : quantR e c num den = (0, 0, 1) := by rw [quantR, if_pos h]
theorem quantR_range {e c : List Int} {num den : Int} (h : validH e c = true) (h' : validF num den = true) (hr : num < 1 ∨ den < num) : quantR e c num den = (0, 0, 2) := by
  rw [quantR, if_neg (by simp [h, h']), if_pos hr]
theorem quantR_none {e c : List Int} {num den : Int} (h : validH e c = true) (h' : validF num den = true) (h1 : 1 ≤ num) (h2 : num ≤ den) (ht : tot c = 0) : quantR e c num den = (0, 0, 10) := by
  rw [quantR, if_neg (by simp [h, h']), if_neg (by omega), if_pos ht]
theorem quantR_ok {e c : List Int} {num den : Int} (h : validH e c = true) (h' : validF num den = true) (h1 : 1 ≤ num) (h2 : num ≤ den) (ht : ¬ tot c = 0) {j : Nat} (hj : j + 1 < e.length) (hp : ∀ x, x < j → pre c (x + 1) * den < num * tot c)
    (hq : j + 1 = c.length ∨ num * tot c ≤ pre c (j + 1) * den) : quantR e c num den = (e[j], e[j + 1], 0) := by
  have hv := validH_iff.1 h
  have hl := hv.2.1
  have hb := tot_bd hv.small
  have hlast : num * tot c ≤ pre c (j + 1) * den := by
    rcases hq with hq | hq
    · rw [pre_all (by omega), Int.mul_comm (tot c)]
      exact Int.mul_le_mul_of_nonneg_right h2 hb.1
    · exact hq
  have hix : qIx c num den = j := firstIx_eq (by omega) (fun x hx => by have := hp x hx; simp; omega) (by simpa using hlast)
  rw [quantR, if_neg (by simp [h, h']), if_neg (by omega), if_neg ht, hix]
  simp [List.getD_eq_getElem?_getD, List.getElem?_eq_getElem hj, List.getElem?_eq_getElem (show j < e.length by omega)]
/-- The bucket of item number n. -/
def sIx (c : List Int) (n : Int) : Nat := firstIx (fun i => decide (n < pre c (i + 1))) c.length
/-- The number that item number n stands for. -/
def sampV (e c : List Int) (n : Int) : Int :=
  e.getD (sIx c n) 0 + (n - pre c (sIx c n)) * (e.getD (sIx c n + 1) 0 - e.getD (sIx c n) 0) / c.getD (sIx c n) 0
/-- Sample: value, error. -/
noncomputable def sampR (e c : List Int) (n : Int) : Int × Int :=
  if validH e c = false then (0, 1) else if n < 0 ∨ tot c ≤ n then (0, 2) else (sampV e c n, 0)
theorem sampR_arg {e c : List Int} {n : Int} (h : validH e c = false) : sampR e c n = (0, 1) := by rw [sampR, if_pos h]
theorem sampR_range {e c : List Int} {n : Int} (h : validH e c = true) (hr : n < 0 ∨ tot c ≤ n) : sampR e c n = (0, 2) := by
  rw [sampR, if_neg (by simp [h]), if_pos hr]
theorem sampV_eq {e c : List Int} {n : Int} (hl : c.length + 1 = e.length) {j : Nat} (hj : j < c.length) (hp : ∀ x, x < j → pre c (x + 1) ≤ n) (hq : n < pre c (j + 1)) :
    sampV e c n = e[j] + (n - pre c j) * (e[j + 1] - e[j]) / c[j] := by
  have hix : sIx c n = j := firstIx_eq hj (fun x hx => by have := hp x hx; simp; omega) (by simpa using hq)
  rw [sampV, hix]
  simp [List.getD_eq_getElem?_getD, List.getElem?_eq_getElem hj, List.getElem?_eq_getElem (show j < e.length by omega), List.getElem?_eq_getElem (show j + 1 < e.length by omega)]
theorem sampR_ok {e c : List Int} {n : Int} (h : validH e c = true) (h1 : 0 ≤ n) (h2 : n < tot c) : sampR e c n = (sampV e c n, 0) := by
  rw [sampR, if_neg (by simp [h]), if_neg (by omega)]

/-- The sum of the differences of the first k cumulated counts, times both totals. -/
def dsum (a b : List Int) : Nat → Int
  | 0 => 0
  | k + 1 => dsum a b k + ((pre a (k + 1) * tot b - pre b (k + 1) * tot a).natAbs : Int)
theorem dsum_bd {a b : List Int} (ha : smallC a) (hb : smallC b) : ∀ k, k ≤ a.length → k ≤ b.length → 0 ≤ dsum a b k ∧ dsum a b k ≤ k * 687194767360000 := by
  intro k
  induction k with
  | zero => intro _ _; simp [dsum]
  | succ k ih =>
    intro h1 h2
    have := ih (by omega) (by omega)
    have p1 := pre_bd ha (k + 1) h1
    have p2 := pre_bd hb (k + 1) h2
    have l1 := ha.1
    have l2 := hb.1
    have t1 := tot_bd ha
    have t2 := tot_bd hb
    have m1 : 0 ≤ pre a (k + 1) * tot b ∧ pre a (k + 1) * tot b ≤ 26214400 * 26214400 := ⟨Int.mul_nonneg p1.1 t2.1, Int.mul_le_mul (by omega) t2.2 t2.1 (by omega)⟩
    have m2 : 0 ≤ pre b (k + 1) * tot a ∧ pre b (k + 1) * tot a ≤ 26214400 * 26214400 := ⟨Int.mul_nonneg p2.1 t1.1, Int.mul_le_mul (by omega) t1.2 t1.1 (by omega)⟩
    simp only [dsum]
    omega
open Classical in
/-- Distance: numerator, denominator, error. -/
noncomputable def distR (e c e' c' : List Int) : Int × Int × Int :=
  if validH e c = false ∨ validH e' c' = false then (0, 0, 1)
  else if e ≠ e' then (0, 0, 29)
  else if tot c = 0 ∨ tot c' = 0 then (0, 0, 10)
  else makeF (dsum c c' c.length) (tot c * tot c')
theorem distR_arg {e c e' c' : List Int} (h : validH e c = false ∨ validH e' c' = false) : distR e c e' c' = (0, 0, 1) := by rw [distR, if_pos h]
theorem distR_size {e c e' c' : List Int} (h : validH e c = true) (h' : validH e' c' = true) (hne : e ≠ e') : distR e c e' c' = (0, 0, 29) := by
  rw [distR, if_neg (by simp [h, h']), if_pos hne]
theorem distR_none {e c c' : List Int} (h : validH e c = true) (h' : validH e c' = true) (hz : tot c = 0 ∨ tot c' = 0) : distR e c e c' = (0, 0, 10) := by
  rw [distR, if_neg (by simp [h, h']), if_neg (by simp), if_pos hz]
theorem distR_ok {e c c' : List Int} (h : validH e c = true) (h' : validH e c' = true) (hz : ¬ (tot c = 0 ∨ tot c' = 0)) : distR e c e c' = makeF (dsum c c' c.length) (tot c * tot c') := by
  rw [distR, if_neg (by simp [h, h']), if_neg (by simp), if_neg hz]
end Go.Proofs.Ytibnaangfdohiaa
