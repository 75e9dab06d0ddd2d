/- timing: contracts of earlier walks in the abstract machine's words; binary search over edges. -/
import Derived.Test.YtibnaangfdohiaaTimP
import Derived.Test.YtibnaangfdohiaaTim2
import Derived.Test.YtibnaangfdohiaaTimE
import Derived.Test.YtibnaangfdohiaaAbFoot
namespace Go.Proofs.Ytibnaangfdohiaa
open Go.RowKit
set_option maxRecDepth 100000
theorem proper_pure {e : List Int} (he : okI e) : Pure Try.prog 58 [ints e] (.bool (properB e)) := by
  refine ⟨by kernel_rfl, fun w X vs hX hl hv => ?_⟩
  obtain ⟨v, rfl⟩ := args1 hl
  obtain ⟨A, n, k, rfl, i0⟩ := ints_of_ro he.2 (by have := he.1; omega) (hv 0 _ v (by simp) (by simp))
  exact (proper_any A n k e w i0).mono fun e w' ⟨h1, h2⟩ => ⟨_, h1, .bool, h2⟩
theorem rvalid_pure {e c : List Int} (he : okI e) (hc : okI c) : Pure Try.prog 17 [.agg [ints e, ints c]] (.bool (validH e c)) := by
  refine ⟨by kernel_rfl, fun w X vs hX hl hv => ?_⟩
  obtain ⟨v, rfl⟩ := args1 hl
  obtain ⟨A, n, k, B, m, l, rfl, i0, i1⟩ := hist_of_ro he.2 hc.2 (by have := he.1; omega) (by have := hc.1; omega) (hv 0 _ v (by simp) (by simp))
  exact (rvalid_any A B n k m l e c w i0 i1).mono fun e w' ⟨h1, h2⟩ => ⟨_, h1, .bool, h2⟩
theorem rtotal_pure {e c : List Int} (he : okI e) (hc : okI c) (hs : smallC c) : Pure Try.prog 18 [.agg [ints e, ints c]] (.int .i64 (tot c)) := by
  refine ⟨by kernel_rfl, fun w X vs hX hl hv => ?_⟩
  obtain ⟨v, rfl⟩ := args1 hl
  obtain ⟨A, n, k, B, m, l, rfl, i0, i1⟩ := hist_of_ro he.2 hc.2 (by have := he.1; omega) (by have := hc.1; omega) (hv 0 _ v (by simp) (by simp))
  exact (rtotal_any A B n k m l c w i1 hs).mono fun e w' ⟨h1, h2⟩ => ⟨_, h1, .int, h2⟩
theorem rsame_pure {e c e' c' : List Int} (he : okI e) (hc : okI c) (he' : okI e') (hc' : okI c') : Pure Try.prog 26 [.agg [ints e, ints c], .agg [ints e', ints c']] (.bool (decide (e = e' ∧ c = c'))) := by
  refine ⟨by kernel_rfl, fun w X vs hX hl hv => ?_⟩
  obtain ⟨v, u, rfl⟩ := args2 hl
  obtain ⟨A, n, k, B, m, l, rfl, i0, i1⟩ := hist_of_ro he.2 hc.2 (by have := he.1; omega) (by have := hc.1; omega) (hv 0 _ v (by simp) (by simp))
  obtain ⟨C, n', k', D, m', l', rfl, i2, i3⟩ := hist_of_ro he'.2 hc'.2 (by have := he'.1; omega) (by have := hc'.1; omega) (hv 1 _ u (by simp) (by simp))
  exact (same_any A B C D n k m l n' k' m' l' e c e' c' w i0 i1 i2 i3).mono fun e w' ⟨h1, h2⟩ => ⟨_, h1, .bool, h2⟩
theorem few_pure (e c : List Int) : Pure Try.prog 13 [.agg [ints e, ints c]] (.bool (decide (e.length ≤ 25) && decide (c.length ≤ 25))) := by
  refine pure_of mixed Try.func13 rfl (by kernel_rfl) (of_decide_eq_true rfl) (by kernel_rfl) (vc_run ?_)
  by_cases h1 : (e.length : Int) ≤ 25
  · by_cases h2 : (c.length : Int) ≤ 25
    · simp -implicitDefEqProofs [h1, h2]; omega
    · simp -implicitDefEqProofs [h1, h2]; omega
  · simp -implicitDefEqProofs [h1]; omega
theorem isNaN_pure (x : Int) : Pure Try.prog 103 [.int .i64 x] (.bool false) := by
  refine pure_of mixed Try.func103 rfl (by kernel_rfl) (of_decide_eq_true rfl) (by kernel_rfl) (vc_run ?_)
  simp -implicitDefEqProofs
theorem sisNaN_pure (x : Int) : Pure Try.prog 81 [.int .i64 x] (.bool false) := by
  refine pure_of mixed Try.func81 rfl (by kernel_rfl) (of_decide_eq_true rfl) (by kernel_rfl) (vc_run ?_)
  simp -implicitDefEqProofs
theorem less_pure (x y : Int) : Pure Try.prog 80 [.int .i64 x, .int .i64 y] (.bool (decide (x < y))) := by
  refine pure_of mixed Try.func80 rfl (by kernel_rfl) (of_decide_eq_true rfl) (by kernel_rfl) (vc_run ?_)
  simp -implicitDefEqProofs
  refine call_intro (isNaN_pure x) (by simp -implicitDefEqProofs) (.inl rfl) ?_
  simp -implicitDefEqProofs
/-- How many are less. -/
def lbI (e : List Int) (x : Int) : Nat := e.countP (fun y => decide (y < x))
theorem lbI_of {e : List Int} {x : Int} {i : Nat} (hi : i ≤ e.length) (h1 : ∀ k (h : k < e.length), k < i → e[k] < x) (h2 : ∀ k (h : k < e.length), i ≤ k → x ≤ e[k]) : lbI e x = i := by
  have e1 : e = e.take i ++ e.drop i := (List.take_append_drop i e).symm
  have c1 : (e.take i).countP (fun y => decide (y < x)) = (e.take i).length := by
    rw [List.countP_eq_length]
    intro y hy
    obtain ⟨k, hk, rfl⟩ := List.getElem_of_mem hy
    rw [List.length_take] at hk
    simpa using h1 k (by omega) (by omega)
  have c2 : (e.drop i).countP (fun y => decide (y < x)) = 0 := by
    rw [List.countP_eq_zero]
    intro y hy
    obtain ⟨k, hk, rfl⟩ := List.getElem_of_mem hy
    rw [List.length_drop] at hk
    have := h2 (i + k) (by omega) (by omega)
    simp
    omega
  unfold lbI
  rw [e1, List.countP_append, c1, c2]
  simp; omega
def sortedI (e : List Int) : Prop := ∀ i j (hj : j < e.length) (hij : i < j), e[i]'(by omega) < e[j]
theorem properP.sorted {e : List Int} (h : properP e) : sortedI e := by
  intro i j hj hij
  induction j with
  | zero => omega
  | succ j ih =>
    have h1 := h.2.2.2 j hj
    by_cases e : i = j
    · subst e; exact h1
    · have := ih (by omega) (by omega)
      omega
def foundI (e : List Int) (x : Int) : Bool := e[lbI e x]? == some x
theorem bsearch_pure {e : List Int} {x : Int} (hs : sortedI e) (hl : e.length ≤ 1073741824) : Pure Try.prog 60 [ints e, .int .i64 x] (.tup [.int .i64 (lbI e x), .bool (foundI e x)]) := by
  refine pure_of mixed Try.func60 rfl (by kernel_rfl) (of_decide_eq_true rfl) (by kernel_rfl) (vc_run ?_)
  simp -implicitDefEqProofs
  refine loop_intro (σ := Nat × Nat) (fun p => ⟨[(0, ints e), (1, .int .i64 x), (6, .int .i64 e.length), (7, .int .i64 p.1), (8, .int .i64 p.2)], []⟩) (fun p => p.1 ≤ p.2 ∧ p.2 ≤ e.length ∧ (∀ k (h : k < e.length), k < p.1 → e[k] < x) ∧ ∀ k (h : k < e.length), p.2 ≤ k → x ≤ e[k]) (fun p => p.2 - p.1) (0, e.length) ⟨by simp, by simp, fun k _ h => by simp at h, fun k h1 h2 => by simp at h2; omega⟩ ?_ ?_
  · refine weak_of 0 0 rfl rfl ?_ ?_ <;> simp
  · rintro ⟨i, j⟩ ⟨hij, hj, hlo, hhi⟩
    simp only at hij hj hlo hhi
    by_cases h : i < j
    · have w1 : wrapI .i64 ((i : Int) + j) = i + j := wrap_in (by omega) (by omega)
      have w2 : wrapI .u64 ((i : Int) + j) = i + j := by rw [wrapI_eq, IntKind.wrap_u64]; omega
      obtain ⟨m, hm⟩ : ∃ m : Nat, ((i : Int) + j) / 2 = m := ⟨(i + j) / 2, by omega⟩
      have w3 : wrapI .i64 (m : Int) = m := wrap_in (by omega) (by omega)
      have hml : m < e.length := by omega
      simp -implicitDefEqProofs [h, w1, w2, hm, w3, hml]
      refine call_intro (less_pure e[m] x) (by simp -implicitDefEqProofs) (.inl rfl) ?_
      by_cases hc : e[m] < x
      · have w4 : wrapI .i64 ((m : Int) + 1) = m + 1 := wrap_in (by omega) (by omega)
        simp -implicitDefEqProofs [hc, w4]
        refine ⟨m + 1, j, ⟨by omega, hj, fun k hk hkm => ?_, hhi⟩, by omega, ?_⟩
        · by_cases e1 : k = m
          · subst e1; exact hc
          · have := hs k m hml (by omega); omega
        · refine weak_of 0 0 rfl rfl ?_ ?_ <;> simp
      · simp -implicitDefEqProofs [hc]
        refine ⟨i, m, ⟨by omega, by omega, hlo, fun k hk hkm => ?_⟩, by omega, ?_⟩
        · by_cases e1 : k = m
          · subst e1; omega
          · have := hs m k hk (by omega); omega
        · refine weak_of 0 0 rfl rfl ?_ ?_ <;> simp
    · have hij2 : i = j := by omega
      subst hij2
      have hlb := lbI_of hj hlo hhi
      simp -implicitDefEqProofs [h]
      by_cases hie : i < e.length
      · by_cases hx : e[i] = x
        · simp -implicitDefEqProofs [hie, hx, foundI, hlb]
        · simp -implicitDefEqProofs [hie, hx]
          refine call_intro (sisNaN_pure e[i]) (by simp -implicitDefEqProofs) (.inl rfl) ?_
          simp -implicitDefEqProofs [hie, hx, foundI, hlb]
      · simp -implicitDefEqProofs [hie, foundI, hlb]
        omega
end Go.Proofs.Ytibnaangfdohiaa
