/- The mean of a histogram, as a plain function. -/
import Derived.Test.YtibnaangfdohiaaH40
namespace Go.Proofs.Ytibnaangfdohiaa

/-- The sum of the first k products of a count and an edge (from bucket j's lower edge, or its greatest number). -/
def lowS (e c : List Int) : Nat → Int
  | 0 => 0
  | k + 1 => lowS e c k + c.getD k 0 * e.getD k 0
def highS (e c : List Int) : Nat → Int
  | 0 => 0
  | k + 1 => highS e c k + c.getD k 0 * (e.getD (k + 1) 0 - 1)
theorem lowS_succ {e c : List Int} {k : Nat} (h1 : k < c.length) (h2 : k < e.length) : lowS e c (k + 1) = lowS e c k + c[k] * e[k] := by
  simp [lowS, List.getD_eq_getElem?_getD, List.getElem?_eq_getElem h1, List.getElem?_eq_getElem h2]
theorem highS_succ {e c : List Int} {k : Nat} (h1 : k < c.length) (h2 : k + 1 < e.length) : highS e c (k + 1) = highS e c k + c[k] * (e[k + 1] - 1) := by
  simp [highS, List.getD_eq_getElem?_getD, List.getElem?_eq_getElem h1, List.getElem?_eq_getElem h2]
theorem prod_bd {e c : List Int} (V : validHP e c) {k : Nat} (h1 : k < c.length) (h2 : k + 1 < e.length) :
    (0 ≤ c[k] * e[k] ∧ c[k] * e[k] ≤ 1125899906842624) ∧ (0 ≤ c[k] * (e[k + 1] - 1) ∧ c[k] * (e[k + 1] - 1) ≤ 1125899906842624) := by
  have hc := V.small.at_ h1
  have he := V.1.2.2.1 k (by omega)
  have he' := V.1.2.2.1 (k + 1) h2
  have hs := V.1.2.2.2 k h2
  have m1 : c[k] * e[k] ≤ 1048576 * 1073741824 := Int.mul_le_mul hc.2 he.2 he.1 (by omega)
  have m2 : c[k] * (e[k + 1] - 1) ≤ 1048576 * 1073741824 := Int.mul_le_mul hc.2 (by omega) (by omega) (by omega)
  exact ⟨⟨Int.mul_nonneg hc.1 he.1, by omega⟩, ⟨Int.mul_nonneg hc.1 (by omega), by omega⟩⟩
theorem mean_bd {e c : List Int} (V : validHP e c) : ∀ k, k ≤ c.length → (0 ≤ lowS e c k ∧ lowS e c k ≤ k * 1125899906842624) ∧ (0 ≤ highS e c k ∧ highS e c k ≤ k * 1125899906842624) := by
  intro k
  induction k with
  | zero => intro _; simp [lowS, highS]
  | succ k ih =>
    intro hk
    have := ih (by omega)
    have h1 : k < c.length := by omega
    have h2 : k + 1 < e.length := by have := V.2.1; omega
    have := prod_bd V h1 h2
    rw [lowS_succ h1 (by omega), highS_succ h1 h2]
    omega
/-- Mean: both fractions, error. -/
noncomputable def meanR (e c : List Int) : (Int × Int) × (Int × Int) × Int :=
  if validH e c = false then ((0, 0), (0, 0), 1)
  else if tot c = 0 then ((0, 0), (0, 0), 10)
  else if (makeF (lowS e c c.length) (tot c)).2.2 ≠ 0 ∨ (makeF (highS e c c.length) (tot c)).2.2 ≠ 0 then ((0, 0), (0, 0), 6)
  else (((makeF (lowS e c c.length) (tot c)).1, (makeF (lowS e c c.length) (tot c)).2.1), ((makeF (highS e c c.length) (tot c)).1, (makeF (highS e c c.length) (tot c)).2.1), 0)
theorem meanR_arg {e c : List Int} (h : validH e c = false) : meanR e c = ((0, 0), (0, 0), 1) := by rw [meanR, if_pos h]
theorem meanR_none {e c : List Int} (h : validH e c = true) (hz : tot c = 0) : meanR e c = ((0, 0), (0, 0), 10) := by
  rw [meanR, if_neg (by simp [h]), if_pos hz]
theorem meanR_big {e c : List Int} (h : validH e c = true) (hz : ¬ tot c = 0) (hb : (makeF (lowS e c c.length) (tot c)).2.2 ≠ 0 ∨ (makeF (highS e c c.length) (tot c)).2.2 ≠ 0) : meanR e c = ((0, 0), (0, 0), 6) := by
  rw [meanR, if_neg (by simp [h]), if_neg hz, if_pos hb]
theorem meanR_ok {e c : List Int} (h : validH e c = true) (hz : ¬ tot c = 0) (h1 : (makeF (lowS e c c.length) (tot c)).2.2 = 0) (h2 : (makeF (highS e c c.length) (tot c)).2.2 = 0) :
    meanR e c = (((makeF (lowS e c c.length) (tot c)).1, (makeF (lowS e c c.length) (tot c)).2.1), ((makeF (highS e c c.length) (tot c)).1, (makeF (highS e c c.length) (tot c)).2.1), 0) := by
  rw [meanR, if_neg (by simp [h]), if_neg hz, if_neg (by simp [h1, h2])]
theorem fitF_err (neg : Bool) (n d : Nat) : (fitF neg n d).2.2 = 0 ∨ fitF neg n d = (0, 0, 6) := by
  unfold fitF
  split
  · right; rfl
  · left; rfl
theorem makeF_err (n d : Int) : (makeF n d).2.2 = 0 ∨ ((makeF n d).1 = 0 ∧ (makeF n d).2.1 = 0 ∧ (makeF n d).2.2 ≠ 0) := by
  by_cases h : d = 0
  · subst h; rw [makeF_zero]; right; decide
  · rw [makeF_pos h]
    rcases fitF_err (!(decide (n < 0) == decide (d < 0))) n.natAbs d.natAbs with h | h
    · left; exact h
    · right; rw [h]; decide
end Go.Proofs.Ytibnaangfdohiaa
