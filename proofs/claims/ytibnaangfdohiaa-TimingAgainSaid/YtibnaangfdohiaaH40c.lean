/- Merged histograms, as a plain function. -/
import Derived.Test.YtibnaangfdohiaaH40
namespace Go.Proofs.Ytibnaangfdohiaa

def addL (a b : List Int) : List Int := List.zipWith (· + ·) a b
def overP (c c' : List Int) : Prop := ∃ i, ∃ (h : i < c.length) (h' : i < c'.length), 1048576 < c[i] + c'[i]
open Classical in
/-- Merge: edges, counts, error. -/
noncomputable def mergeR (e c e' c' : List Int) : List Int × List Int × Int :=
  if validH e c = false ∨ validH e' c' = false then ([], [], 1)
  else if e ≠ e' then ([], [], 29)
  else if overP c c' then ([], [], 6)
  else (e, addL c c', 0)
theorem mergeR_arg {e c e' c' : List Int} (h : validH e c = false ∨ validH e' c' = false) : mergeR e c e' c' = ([], [], 1) := by rw [mergeR, if_pos h]
theorem mergeR_size {e c e' c' : List Int} (h : validH e c = true) (h' : validH e' c' = true) (hne : e ≠ e') : mergeR e c e' c' = ([], [], 29) := by
  rw [mergeR, if_neg (by simp [h, h']), if_pos hne]
theorem mergeR_big {e c c' : List Int} (h : validH e c = true) (h' : validH e c' = true) {i : Nat} (h1 : i < c.length) (h2 : i < c'.length) (hb : 1048576 < c[i] + c'[i]) : mergeR e c e c' = ([], [], 6) := by
  rw [mergeR, if_neg (by simp [h, h']), if_neg (by simp), if_pos ⟨i, h1, h2, hb⟩]
theorem mergeR_ok {e c c' : List Int} (h : validH e c = true) (h' : validH e c' = true) (hb : ∀ i (h1 : i < c.length) (h2 : i < c'.length), c[i] + c'[i] ≤ 1048576) : mergeR e c e c' = (e, addL c c', 0) := by
  rw [mergeR, if_neg (by simp [h, h']), if_neg (by simp), if_neg]
  rintro ⟨i, h1, h2, h3⟩
  have := hb i h1 h2
  omega
theorem addL_len {a b : List Int} (h : a.length = b.length) : (addL a b).length = a.length := by simp [addL, h]
theorem addL_at {a b : List Int} {i : Nat} (h : i < (addL a b).length) : (addL a b)[i] = a[i]'(by simp [addL] at h; omega) + b[i]'(by simp [addL] at h; omega) := by simp [addL]
end Go.Proofs.Ytibnaangfdohiaa
