/- A table with its rows in another order (plain). -/
import Derived.Test.YthemglpccpjokaaGreatDwN
import Derived.Test.YthemglpccpjokaaGreatDwM
import Derived.Test.YthemglpccpjokaaGreatDwR
set_option linter.unusedSimpArgs false
set_option linter.unusedVariables false
set_option linter.unnecessarySimpa false
set_option linter.unusedSectionVars false
set_option maxRecDepth 100000
namespace Go.Proofs.YthemglpccpjokaaGreat
open Go.RowKit
variable [Glob]
theorem dec_perm {d : Dec} (h : decV d = true) {R : List Rw} (hp : d.rows.Perm R) : decV (withR d R) = true := by
  simp only [decV, tabV, Bool.and_eq_true, decide_eq_true_eq, List.all_eq_true] at h ⊢
  obtain ⟨h1, h2, h3, h4, h5, h6, h7, h8⟩ := h
  refine ⟨h1, h2, h3, h4, by have := hp.length_eq; show R.length ≤ 60; omega, h6, fun r hr => h7 r (hp.mem_iff.2 hr), ?_⟩
  show (if d.hit = 4 then _ else _) = true
  by_cases q : d.hit = 4
  · rw [if_pos q] at h8 ⊢
    simp only [Bool.and_eq_true, List.all_eq_true] at h8 ⊢
    exact ⟨h8.1, fun r hr => h8.2 r (hp.mem_iff.2 hr)⟩
  · rw [if_neg q] at h8 ⊢; exact h8
theorem sz_perm {d : Dec} (hs : szD d) {R : List Rw} (hp : d.rows.Perm R) : szD (withR d R) := ⟨hs.1, hs.2.1, by have := hp.length_eq; have := hs.2.2.1; show R.length ≤ 1000000; omega, fun r hr => hs.2.2.2 r (hp.mem_iff.2 hr)⟩
theorem order_facts {d : Dec} (hs : szD d) {R : List Rw} (hp : d.rows.Perm R) : ∃ (ok : Bool) (v : List Val) (e : Int), equalO d (withR d R) = .tup [.bool ok, .rs (rowsOf valC v), .int .i64 e] ∧ v.length ≤ 1000000 ∧ (e ≠ 0 → ok = false ∧ v = []) ∧ (e = 0 → d.hit ≠ 3 → d.hit ≠ 5 → ok = true) ∧ (e = 0 → ok = true → v = []) ∧ (e = 0 → ok = false → givenE d v = 0 ∧ 1 < (hitsL d v).length) := by
  by_cases hd : decV d = true
  rotate_left
  · refine ⟨false, [], 1, ?_, by simp, fun _ => ⟨rfl, rfl⟩, by simp, by simp, by simp⟩
    have : decV d = false := by simpa using hd
    rw [equalO, this]; rfl
  have hx := dec_perm hd hp
  by_cases hc : capA 1 d.inputs ≤ 10000
  rotate_left
  · refine ⟨false, [], 13, ?_, by simp, fun _ => ⟨rfl, rfl⟩, by simp, by simp, by simp⟩
    rw [equalO, hd, hx]
    simp only [Bool.and_self, if_true]
    rw [if_pos (show d.inputs = (withR d R).inputs from rfl), if_neg hc]
    rfl
  have he : equalO d (withR d R) = (match differA d (withR d R) with | some v => .tup [.bool false, .rs (rowsOf valC v), .int .i64 0] | none => .tup [.bool true, .rs [], .int .i64 0]) := by
    rw [equalO, hd, hx]
    simp only [Bool.and_self, if_true]
    rw [if_pos (show d.inputs = (withR d R).inputs from rfl), if_pos hc]
    cases differA d (withR d R) <;> rfl
  obtain ⟨d1, d2, d3, d4, _⟩ := dec_facts hd
  have hperm : ∀ v, (outsR d.rows v).Perm (outsR R v) := fun v => (hp.filter _).map _
  cases hq : differA d (withR d R) with
  | none =>
    rw [hq] at he
    exact ⟨true, [], 0, he, by simp, by simp, fun _ _ _ => rfl, fun _ _ => rfl, by simp⟩
  | some v =>
    rw [hq] at he
    obtain ⟨hm, hne⟩ := differ_some hq
    have hvl := ass_len (allA_mem (doms_mem d1) v hm).1
    have hne : outR d.hit d.order (outsR d.rows v) ≠ outR d.hit d.order (outsR R v) := hne
    refine ⟨false, v, 0, he, by have := hs.1; omega, by simp, fun _ h3 h5 => ?_, by simp, fun _ _ => ⟨given_ok hd hm, ?_⟩⟩
    · exact absurd (outR_perm h3 h5 d3 d4 (outs_ok hd (rows_ok hd) v).1 (hperm v)) hne
    · rw [hits_len]
      refine Nat.lt_of_not_le fun hl => hne ?_
      have hl : (outsR d.rows v).length ≤ 1 := hl
      have hle := (hperm v).length_eq
      congr 1
      match h1 : outsR d.rows v, h2 : outsR R v with
      | [], [] => rfl
      | [], b :: r => rw [h1, h2] at hle; simp at hle
      | a :: r, [] => rw [h1, h2] at hle; simp at hle
      | [a], [b] =>
        have := (hperm v).mem_iff (a := a)
        rw [h1, h2] at this
        simp at this
        rw [this]
      | a :: c :: r, _ => rw [h1] at hl; simp at hl
      | [a], b :: c :: r => rw [h1, h2] at hle; simp at hle
def revP (R : List Rw) (i : Nat) : List Rw := (List.range R.length).map fun j => if j < i ∨ R.length - i ≤ j then R.getD (R.length - 1 - j) ⟨[], ⟨0, 0, ByteArray.empty⟩⟩ else R.getD j ⟨[], ⟨0, 0, ByteArray.empty⟩⟩
theorem revP_len (R : List Rw) (i : Nat) : (revP R i).length = R.length := by simp [revP]
theorem revP_zero (R : List Rw) : revP R 0 = R := by
  refine List.ext_getElem (by simp [revP]) fun j h1 h2 => ?_
  have : ¬ R.length ≤ j := by omega
  simp [revP, this, h2]
theorem revP_end (R : List Rw) (i : Nat) (h : R.length ≤ 2 * i + 1) : revP R i = R.reverse := by
  refine List.ext_getElem (by simp [revP]) fun j h1 h2 => ?_
  simp at h2
  rw [List.getElem_reverse]
  simp only [revP, List.getElem_map, List.getElem_range]
  split
  · simp [List.getD, show R.length - 1 - j < R.length by omega]
  · have e : j = R.length - 1 - j := by omega
    have e2 : R[R.length - 1 - j]'(by omega) = R[j] := by congr 1; omega
    rw [e2]
    simp [List.getD, h2]
theorem revP_swap (R : List Rw) (i : Nat) (h : 2 * i + 1 < R.length) : ((revP R i).set i (R[R.length - 1 - i]'(by omega))).set (R.length - 1 - i) (R[i]'(by omega)) = revP R (i + 1) := by
  refine List.ext_getElem (by simp [revP]) fun j h1 h2 => ?_
  have hj : j < R.length := by simpa [revP] using h2
  rw [List.getElem_set, List.getElem_set]
  simp only [revP, List.getElem_map, List.getElem_range]
  by_cases e1 : R.length - 1 - i = j
  · rw [if_pos e1, if_pos (by omega)]
    simp [List.getD, show R.length - 1 - j = i by omega, show i < R.length by omega]
  · rw [if_neg e1]
    by_cases e2 : i = j
    · rw [if_pos e2, if_pos (by omega)]
      subst e2
      simp [List.getD, show R.length - 1 - i < R.length by omega]
    · rw [if_neg e2]
      by_cases e3 : j < i ∨ R.length - i ≤ j
      · rw [if_pos e3, if_pos (by omega)]
      · rw [if_neg e3, if_neg (by omega)]
theorem revP_get (R : List Rw) (i j : Nat) (hj : j < R.length) (h : i ≤ j ∧ j < R.length - i) : (revP R i)[j]'(by rw [revP_len]; exact hj) = R[j] := by
  simp only [revP, List.getElem_map, List.getElem_range]
  rw [if_neg (by omega)]
  simp [List.getD, hj]
end Go.Proofs.YthemglpccpjokaaGreat
