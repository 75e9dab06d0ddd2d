/- Histograms made of numbers: plain words. -/
import Derived.Test.YtibnaangfdohiaaH40
import Derived.Test.YtibnaangfdohiaaTimH
namespace Go.Proofs.Ytibnaangfdohiaa
open Go.RowKit
/-- The bucket of a number, counted from 0; out of range if it is in none. -/
def bI (e : List Int) (x : Int) : Int := (e.countP (fun y => decide (y ≤ x)) : Nat) - 1
def inB (e : List Int) (x : Int) : Prop := 0 ≤ bI e x ∧ bI e x < e.length - 1
def cntI (e l : List Int) : List Int := (List.range (e.length - 1)).map fun (i : Nat) => ((l.countP fun x => decide (bI e x = (i : Int)) : Nat) : Int)
theorem cntI_len (e l : List Int) : (cntI e l).length = e.length - 1 := by simp [cntI]
theorem cntI_get {e l : List Int} {i : Nat} (h : i < (cntI e l).length) : (cntI e l)[i] = ((l.countP fun x => decide (bI e x = (i : Int)) : Nat) : Int) := by simp [cntI]
theorem cntI_nil (e : List Int) : rowsOf intC (cntI e []) = List.replicate (e.length - 1) [.int .i64 0] := by
  apply List.ext_getElem
  · simp [cntI]
  · intro i h1 h2
    simp [rowsOf, cntI, intC]
theorem cntI_snoc {e l : List Int} {x : Int} {b : Nat} (hb : bI e x = b) (hlt : b < (cntI e l).length) : cntI e (l ++ [x]) = (cntI e l).set b ((cntI e l)[b] + 1) := by
  apply List.ext_getElem
  · simp [cntI]
  · intro i h1 h2
    rw [cntI_get h1]
    rw [List.getElem_set]
    split
    · rename_i e1
      subst e1
      rw [cntI_get hlt, List.countP_append]
      simp [hb]
    · rename_i e1
      rw [cntI_get (by simpa using h2), List.countP_append]
      have : ¬ bI e x = (i : Int) := by rw [hb]; omega
      simp [this]
theorem lb_le (e : List Int) (x : Int) : lbI e x ≤ e.length := List.countP_le_length
theorem lb_cases {e : List Int} {x : Int} (hs : sortedI e) : (∀ k (h : k < e.length), k < lbI e x → e[k] < x) ∧ ∀ k (h : k < e.length), lbI e x ≤ k → x ≤ e[k] := by
  -- the place of the first that is not less
  obtain ⟨i, hi, h1, h2⟩ : ∃ i, i ≤ e.length ∧ (∀ k (h : k < e.length), k < i → e[k] < x) ∧ ∀ k (h : k < e.length), i ≤ k → x ≤ e[k] := by
    by_cases hex : ∃ k, ∃ (h : k < e.length), x ≤ e[k]
    · obtain ⟨k, hk, hx⟩ := hex
      induction k using Nat.strongRecOn with
      | _ k ih =>
        by_cases hp : ∃ j, ∃ (h : j < k), x ≤ e[j]'(by omega)
        · obtain ⟨j, hj, hxj⟩ := hp
          exact ih j hj (by omega) hxj
        · refine ⟨k, by omega, fun j hj hjk => ?_, fun j hj hkj => ?_⟩
          · exact Int.not_le.1 fun h => hp ⟨j, hjk, h⟩
          · by_cases e1 : j = k
            · subst e1; exact hx
            · have := hs k j hj (by omega); omega
    · exact ⟨e.length, Nat.le_refl _, fun k hk _ => Int.not_le.1 fun h => hex ⟨k, hk, h⟩, fun k hk h => by omega⟩
  have := lbI_of hi h1 h2
  rw [this]
  exact ⟨h1, h2⟩
theorem bI_lb {e : List Int} {x : Int} (hs : sortedI e) : bI e x = if foundI e x = true then (lbI e x : Int) else lbI e x - 1 := by
  obtain ⟨h1, h2⟩ := lb_cases (x := x) hs
  have hle := lb_le e x
  have key : ∀ i, i ≤ e.length → (∀ k (h : k < e.length), k < i → e[k] ≤ x) → (∀ k (h : k < e.length), i ≤ k → x < e[k]) → e.countP (fun y => decide (y ≤ x)) = i := fun i hi k1 k2 => by
    have e1 : e = e.take i ++ e.drop i := (List.take_append_drop i e).symm
    have c1 : (e.take i).countP (fun y => decide (y ≤ x)) = (e.take i).length := by
      rw [List.countP_eq_length]
      intro y hy
      obtain ⟨k, hk, rfl⟩ := List.getElem_of_mem hy
      rw [List.length_take] at hk
      simpa using k1 k (by omega) (by omega)
    have c2 : (e.drop i).countP (fun y => decide (y ≤ x)) = 0 := by
      rw [List.countP_eq_zero]
      intro y hy
      obtain ⟨k, hk, rfl⟩ := List.getElem_of_mem hy
      rw [List.length_drop] at hk
      have := k2 (i + k) (by omega) (by omega)
      simp
      omega
    rw [e1, List.countP_append, c1, c2]
    simp; omega
  unfold bI
  by_cases hf : foundI e x = true
  · have hlt : lbI e x < e.length ∧ e[lbI e x]? = some x := by
      simp only [foundI, beq_iff_eq] at hf
      exact ⟨(List.getElem?_eq_some_iff.1 hf).1, hf⟩
    have hx : e[lbI e x]'hlt.1 = x := by have := hlt.2; rw [List.getElem?_eq_getElem hlt.1] at this; simpa using this
    rw [key (lbI e x + 1) (by omega) (fun k hk hk2 => ?_) (fun k hk hk2 => ?_), if_pos hf]
    · omega
    · by_cases e1 : k = lbI e x
      · subst e1; omega
      · have := h1 k hk (by omega); omega
    · have := hs (lbI e x) k hk (by omega); omega
  · rw [key (lbI e x) hle (fun k hk hk2 => by have := h1 k hk hk2; omega) (fun k hk hk2 => ?_), if_neg hf]
    have h3 := h2 k hk hk2
    by_cases e1 : k = lbI e x
    · subst e1
      have : ¬ e[lbI e x] = x := fun h => hf (by simp [foundI, List.getElem?_eq_getElem hk, h])
      omega
    · have := h2 (lbI e x) (by omega) (Nat.le_refl _)
      have := hs (lbI e x) k hk (by omega)
      omega
/-- What the bucket means. -/
theorem bI_iff {e : List Int} {x : Int} (hs : sortedI e) {i : Nat} (hi : i + 1 < e.length) : bI e x = i ↔ (e[i] ≤ x ∧ x < e[i + 1]) := by
  obtain ⟨h1, h2⟩ := lb_cases (x := x) hs
  have hle := lb_le e x
  rw [bI_lb hs]
  by_cases hf : foundI e x = true
  · rw [if_pos hf]
    simp only [foundI, beq_iff_eq] at hf
    have hlt := (List.getElem?_eq_some_iff.1 hf).1
    have hx : e[lbI e x]'hlt = x := by rw [List.getElem?_eq_getElem hlt] at hf; simpa using hf
    constructor
    · intro h
      have h : lbI e x = i := by omega
      have hx2 : e[i] = x := by simpa [h] using hx
      have := hs i (i + 1) hi (by omega)
      omega
    · rintro ⟨k1, k2⟩
      rcases Nat.lt_trichotomy (lbI e x) i with h | h | h
      · have := hs (lbI e x) i (by omega) h; omega
      · omega
      · by_cases e1 : lbI e x = i + 1
        · have hx2 : e[i + 1] = x := by simpa [e1] using hx
          omega
        · have := hs (i + 1) (lbI e x) hlt (by omega); omega
  · rw [if_neg hf]
    constructor
    · intro h
      have h : lbI e x = i + 1 := by omega
      have k1 := h1 i (by omega) (by omega)
      have k2 := h2 (i + 1) hi (by omega)
      have : ¬ e[i + 1] = x := fun he => hf (by simp [foundI, h, List.getElem?_eq_getElem hi, he])
      omega
    · rintro ⟨k1, k2⟩
      have hne : lbI e x ≠ i := fun he => by
        have := h2 i (by omega) (by omega)
        exact hf (by have : e[i] = x := by omega
                     simp [foundI, he, List.getElem?_eq_getElem (show i < e.length by omega), this])
      rcases Nat.lt_trichotomy (lbI e x) (i + 1) with h | h | h
      · have := h2 i (by omega) (by omega)
        have := h2 (lbI e x) (by omega) (Nat.le_refl _)
        have h5 := hs (lbI e x) i (by omega) (by omega)
        omega
      · omega
      · have := h1 (i + 1) hi h; omega
open Classical in
/-- Make. -/
noncomputable def makeH (e l : List Int) : List Int × List Int × Int :=
  if properB e = false then ([], [], 1) else if ∃ x ∈ l, ¬ inB e x then ([], [], 2) else (e, cntI e l, 0)
theorem makeH_arg {e l : List Int} (h : properB e = false) : makeH e l = ([], [], 1) := by rw [makeH, if_pos h]
theorem makeH_range {e l : List Int} (h : properB e = true) {i : Nat} (hi : i < l.length) (hb : ¬ inB e l[i]) : makeH e l = ([], [], 2) := by rw [makeH, if_neg (by simp [h]), if_pos ⟨_, List.getElem_mem hi, hb⟩]
theorem makeH_ok {e l : List Int} (h : properB e = true) (ha : ∀ i (hi : i < l.length), inB e l[i]) : makeH e l = (e, cntI e l, 0) := by
  rw [makeH, if_neg (by simp [h]), if_neg]
  rintro ⟨x, hx, hb⟩
  obtain ⟨i, hi, rfl⟩ := List.getElem_of_mem hx
  exact hb (ha i hi)
theorem cntI_bd (e l : List Int) : ∀ x ∈ cntI e l, 0 ≤ x ∧ x ≤ l.length := by
  intro x hx
  simp only [cntI, List.mem_map] at hx
  obtain ⟨i, _, rfl⟩ := hx
  have := List.countP_le_length (p := fun x => decide (bI e x = (i : Int))) (l := l)
  omega
end Go.Proofs.Ytibnaangfdohiaa
