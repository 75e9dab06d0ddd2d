/- timing in the abstract machine. -/
import Derived.Test.YtibnaangfdohiaaSlF
import Derived.Test.YtibnaangfdohiaaTim7
import Derived.Test.YtibnaangfdohiaaTim8
namespace Go.Proofs.Ytibnaangfdohiaa
open Go.RowKit
set_option maxRecDepth 100000
/-- Integers of 64 bits, in a slice. -/
def okI (l : List Int) : Prop := l.length ≤ 4611686018427387904 ∧ ∀ x ∈ l, (Lit.int .i64 x).wf = true
theorem cloneI_fresh (l : List Int) (h0 : l ≠ []) (hl : l.length ≤ 1073741824) : Fresh Try.prog 48 [ints l] 3 (rowsOf intC l) := by
  refine fresh_of mixed Try.func48 rfl (by kernel_rfl) (of_decide_eq_true rfl) (by kernel_rfl) (vc_run ?_)
  have h1 : l.isEmpty = false := by cases l <;> simp at h0 ⊢
  simp -implicitDefEqProofs [h1, hl]
  exact rowsOf_owns' intC_owns
theorem tvalid_pure {e c : List Int} (he : okI e) (hc : okI c) : Pure Try.prog 30 [.agg [ints e, ints c]] (.bool (validH e c)) := by
  refine ⟨by kernel_rfl, fun w X vs hX hl hv => ?_⟩
  obtain ⟨v, rfl⟩ := args1 hl
  obtain ⟨A, n, k, B, m, l, rfl, i0, i1⟩ := hist_of_ro he.2 hc.2 (by have := he.1; omega) (by have := hc.1; omega) (hv 0 _ v (by simp) (by simp))
  exact (tvalid_any A B n k m l e c w i0 i1).mono fun e w' ⟨h1, h2⟩ => ⟨_, h1, .bool, h2⟩
theorem total_pure {e c : List Int} (he : okI e) (hc : okI c) (hs : smallC c) : Pure Try.prog 50 [.agg [ints e, ints c]] (.int .i64 (tot c)) := by
  refine ⟨by kernel_rfl, fun w X vs hX hl hv => ?_⟩
  obtain ⟨v, rfl⟩ := args1 hl
  obtain ⟨A, n, k, B, m, l, rfl, i0, i1⟩ := hist_of_ro he.2 hc.2 (by have := he.1; omega) (by have := hc.1; omega) (hv 0 _ v (by simp) (by simp))
  exact (total_any A B n k m l c w i1 hs).mono fun e w' ⟨h1, h2⟩ => ⟨_, h1, .int, h2⟩
theorem distance_pure {e c e' c' : List Int} (he : okI e) (hc : okI c) (he' : okI e') (hc' : okI c') : Pure Try.prog 20 [.agg [ints e, ints c], .agg [ints e', ints c']] (.tup [.agg [.int .i64 (distR e c e' c').1, .int .i64 (distR e c e' c').2.1], .int .i64 (distR e c e' c').2.2]) := by
  refine ⟨by kernel_rfl, fun w X vs hX hl hv => ?_⟩
  obtain ⟨v, u, rfl⟩ := args2 hl
  obtain ⟨A, n, k, B, m, l, rfl, i0, i1⟩ := hist_of_ro he.2 hc.2 (by have := he.1; omega) (by have := hc.1; omega) (hv 0 _ v (by simp) (by simp))
  obtain ⟨C, n', k', D, m', l', rfl, i2, i3⟩ := hist_of_ro he'.2 hc'.2 (by have := he'.1; omega) (by have := hc'.1; omega) (hv 1 _ u (by simp) (by simp))
  exact (distance_any A B C D n k m l n' k' m' l' e c e' c' w i0 i1 i2 i3).mono fun e w' ⟨h1, h2⟩ => ⟨_, h1, toV_ro _ _ _ (Nat.lt_succ_self _) rfl, h2⟩
theorem awake_pure : Pure Try.prog 12 [] (.bool true) := pure_flat (by kernel_rfl) rfl rfl fun w => awake_any w
noncomputable def totalR (e c : List Int) : Int × Int := if validH e c = true then (tot c, 0) else (0, 1)
theorem ttotal_pure {e c : List Int} (he : okI e) (hc : okI c) : Pure Try.prog 27 [.agg [ints e, ints c]] (.tup [.int .i64 (totalR e c).1, .int .i64 (totalR e c).2]) := by
  refine pure_of mixed Try.func27 rfl (by kernel_rfl) (of_decide_eq_true rfl) (by kernel_rfl) (vc_run ?_)
  simp -implicitDefEqProofs
  refine call_intro (tvalid_pure he hc) (by simp -implicitDefEqProofs) (.inl rfl) ?_
  by_cases h : validH e c = true
  · simp -implicitDefEqProofs [h]
    refine call_intro (total_pure he hc (validH_iff.1 h).small) (by simp -implicitDefEqProofs) (.inl rfl) ?_
    simp -implicitDefEqProofs [totalR, h]
  · have h : validH e c = false := by simpa using h
    simp -implicitDefEqProofs [h, totalR]
end Go.Proofs.Ytibnaangfdohiaa
