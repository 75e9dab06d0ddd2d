/- timing.Merge in the abstract machine. -/
import Derived.Test.YtibnaangfdohiaaTimP
import Derived.Test.YtibnaangfdohiaaH40c
namespace Go.Proofs.Ytibnaangfdohiaa
open Go.RowKit
set_option maxRecDepth 100000
theorem equal_pure {e e' : List Int} (he : okI e) (he' : okI e') : Pure Try.prog 37 [ints e, ints e'] (.bool (decide (e = e'))) := by
  refine ⟨by kernel_rfl, fun w X vs hX hl hv => ?_⟩
  obtain ⟨v, u, rfl⟩ := args2 hl
  obtain ⟨A, n, k, rfl, i0⟩ := ints_of_ro he.2 (by have := he.1; omega) (hv 0 _ v (by simp) (by simp))
  obtain ⟨B, m, l, rfl, i1⟩ := ints_of_ro he'.2 (by have := he'.1; omega) (hv 1 _ u (by simp) (by simp))
  exact (equal_int A B n k m l e e' w i0 i1).mono fun e w' ⟨h1, h2⟩ => ⟨_, h1, .bool, h2⟩
theorem ro_nils {w : World} {X : Nat → Prop} {v : Value} (h : RO w X .nils v) : RO w X (ints []) v := by
  cases h with
  | nils => exact .rs 1 (fun _ _ => .bool false) rfl (Nat.le_refl _) (fun i row h => by simp [rowsOf] at h) (fun i j row x h => by simp [rowsOf] at h)
theorem ro_noHist {w : World} {X : Nat → Prop} {x : AV} {v : Value} (h : RO w X (.tup [.agg [.nils, .nils], x]) v) : RO w X (.tup [.agg [ints [], ints []], x]) v := by
  cases h with
  | @tup _ vs hl h =>
    refine .tup hl fun j y v hj hv => ?_
    match j with
    | 0 =>
      simp at hj
      subst hj
      have := h 0 (.agg [.nils, .nils]) v (by simp) hv
      cases this with
      | @agg _ us hl1 h1 h2 =>
        refine .agg hl1 h1 fun j y v hj hv => ?_
        match j with
        | 0 => simp at hj; subst hj; exact ro_nils (h2 0 _ v (by simp) hv)
        | 1 => simp at hj; subst hj; exact ro_nils (h2 1 _ v (by simp) hv)
        | j + 2 => simp at hj
    | 1 => simp at hj; subst hj; exact h 1 _ v (by simp) hv
    | j + 2 => simp at hj
def mixL (c c' : List Int) (i : Nat) : List Int := addL (c.take i) (c'.take i) ++ c.drop i
theorem mixL_len {c c' : List Int} (h : c.length = c'.length) (i : Nat) : (mixL c c' i).length = c.length := by simp [mixL, addL]; omega
theorem mixL_zero (c c' : List Int) : mixL c c' 0 = c := by simp [mixL, addL]
theorem mixL_get {c c' : List Int} (h : c.length = c'.length) (i j : Nat) (hj : j < c.length) : (mixL c c' i)[j]? = some (if j < i then c[j] + c'[j]'(by omega) else c[j]) := by
  have hl : (addL (c.take i) (c'.take i)).length = min i c.length := by simp [addL]; omega
  by_cases hji : j < i
  · rw [mixL, List.getElem?_append_left (by omega), if_pos hji]
    rw [List.getElem?_eq_getElem (by omega)]
    simp [addL]
  · rw [mixL, List.getElem?_append_right (by omega), if_neg hji, hl, List.getElem?_drop, List.getElem?_eq_getElem (by omega)]
    congr 2; omega
theorem mixL_at {c c' : List Int} (h : c.length = c'.length) {i : Nat} (h1 : i < c.length) : (mixL c c' i)[i]? = some c[i] := by rw [mixL_get h i i h1]; simp
def overH (c c' : List Int) (k : Nat) : Prop := ∀ i (h1 : i < c.length) (h2 : i < c'.length), i < k → c[i] + c'[i] ≤ 1048576
theorem ints_reify {H : List Blk} {n : Nat} {l : List Int} : (rowsOf intC l).mapM (fun row => row.mapM (reify H (n + 1))) = some (rowsOf intC l) := rowsOf_reify fun x => by simp [intC, rf_int]
theorem overH_succ {c c' : List Int} {i : Nat} (h : overH c c' i) (h1 : i < c.length) (h2 : i < c'.length) (hb : ¬ 1048576 < c[i] + c'[i]) : overH c c' (i + 1) := by
  intro j k1 k2 hj
  by_cases e : j = i
  · subst e; omega
  · exact h j k1 k2 (by omega)
theorem mixL_gE {c c' : List Int} (hcl : c.length = c'.length) {i : Nat} (hic : i < c.length) (h : i < (mixL c c' i).length) : (mixL c c' i)[i] = c[i] := by
  have := mixL_at hcl hic
  rw [List.getElem?_eq_getElem h] at this
  simpa using this
theorem mixL_set {c c' : List Int} (h : c.length = c'.length) {i : Nat} (h1 : i < c.length) (h2 : i < c'.length) : (mixL c c' i).set i (c[i] + c'[i]) = mixL c c' (i + 1) := by
  apply List.ext_getElem?
  intro j
  by_cases hj : j < c.length
  · rw [mixL_get h _ j hj, List.getElem?_set, mixL_len h]
    by_cases e : i = j
    · subst e
      simp [hj]
    · rw [if_neg e, mixL_get h _ j hj]
      by_cases l : j < i
      · rw [if_pos l, if_pos (by omega)]
      · rw [if_neg l, if_neg (by omega)]
  · rw [List.getElem?_eq_none (by rw [List.length_set, mixL_len h]; omega), List.getElem?_eq_none (by rw [mixL_len h]; omega)]
theorem mixL_all {c c' : List Int} (h : c.length = c'.length) : mixL c c' c.length = addL c c' := by
  rw [mixL, List.take_of_length_le (Nat.le_refl _), List.take_of_length_le (by omega), List.drop_of_length_le (Nat.le_refl _), List.append_nil]
theorem merge_pure {e c e' c' : List Int} (he : okI e) (hc : okI c) (he' : okI e') (hc' : okI c') :
    Pure Try.prog 24 [.agg [ints e, ints c], .agg [ints e', ints c']] (.tup [.agg [ints (mergeR e c e' c').1, ints (mergeR e c e' c').2.1], .int .i64 (mergeR e c e' c').2.2]) := by
  by_cases v1 : validH e c = true
  rotate_left
  · have v1 : validH e c = false := by simpa using v1
    rw [mergeR_arg (.inl v1)]
    refine pure_of mixed Try.func24 rfl (by kernel_rfl) (of_decide_eq_true rfl) (by kernel_rfl) (vc_run ?_)
    simp -implicitDefEqProofs
    refine call_intro (tvalid_pure he hc) (by simp -implicitDefEqProofs) (.inl rfl) ?_
    simp -implicitDefEqProofs [v1]
  by_cases v2 : validH e' c' = true
  rotate_left
  · have v2 : validH e' c' = false := by simpa using v2
    rw [mergeR_arg (.inr v2)]
    refine pure_of mixed Try.func24 rfl (by kernel_rfl) (of_decide_eq_true rfl) (by kernel_rfl) (vc_run ?_)
    simp -implicitDefEqProofs
    refine call_intro (tvalid_pure he hc) (by simp -implicitDefEqProofs) (.inl rfl) ?_
    simp -implicitDefEqProofs [v1]
    refine call_intro (tvalid_pure he' hc') (by simp -implicitDefEqProofs) (.inl rfl) ?_
    simp -implicitDefEqProofs [v2]
  by_cases hne : e = e'
  rotate_left
  · rw [mergeR_size v1 v2 hne]
    refine pure_of mixed Try.func24 rfl (by kernel_rfl) (of_decide_eq_true rfl) (by kernel_rfl) (vc_run ?_)
    simp -implicitDefEqProofs
    refine call_intro (tvalid_pure he hc) (by simp -implicitDefEqProofs) (.inl rfl) ?_
    simp -implicitDefEqProofs [v1]
    refine call_intro (tvalid_pure he' hc') (by simp -implicitDefEqProofs) (.inl rfl) ?_
    simp -implicitDefEqProofs [v2]
    refine call_intro (equal_pure he he') (by simp -implicitDefEqProofs) (.inl rfl) ?_
    simp -implicitDefEqProofs [hne]
  subst hne
  have V1 := validH_iff.1 v1
  have V2 := validH_iff.1 v2
  have hl1 := V1.2.1
  have hl2 := V2.2.1
  have hcl : c.length = c'.length := by omega
  have hpl := V1.1.2.1
  have hne : e ≠ [] := by intro h; subst h; simp at hl1
  have hcn : c ≠ [] := by intro h; subst h; simp at hl1; have := V1.1.1; omega
  by_cases hov : overP c c'
  · obtain ⟨i0, q1, q2, q3⟩ := hov
    rw [mergeR_big v1 v2 q1 q2 q3]
    refine pure_of mixed Try.func24 rfl (by kernel_rfl) (of_decide_eq_true rfl) (by kernel_rfl) (vc_run ?_)
    simp -implicitDefEqProofs
    refine call_intro (tvalid_pure he hc) (by simp -implicitDefEqProofs) (.inl rfl) ?_
    simp -implicitDefEqProofs [v1]
    refine call_intro (tvalid_pure he' hc') (by simp -implicitDefEqProofs) (.inl rfl) ?_
    simp -implicitDefEqProofs [v2]
    refine call_intro (equal_pure he he') (by simp -implicitDefEqProofs) (.inl rfl) ?_
    simp -implicitDefEqProofs
    refine fresh_intro (cloneI_fresh e hne (by omega)) (by simp -implicitDefEqProofs) (.inl (rowsOf_flat (by simp [intC, flat]))) ?_
    simp -implicitDefEqProofs
    refine fresh_intro (cloneI_fresh c hcn (by omega)) (by simp -implicitDefEqProofs) (.inl (rowsOf_flat (by simp [intC, flat]))) ?_
    simp -implicitDefEqProofs
    refine loop_intro (σ := Nat) (fun i => ⟨[(4, .op 2 0), (6, .op 5 0), (35, ints c'), (36, .int .i64 c'.length), (37, .int .i64 i)], [.box 24 [ints e, ints c], .box 24 [ints e, ints c'], .box 24 [.nils, .nils], .row 3 false (rowsOf intC e), .row 3 false (rowsOf intC (mixL c c' i)), .box 24 [.os 3 e.length, .os 4 c.length]]⟩) (fun i => i ≤ c.length ∧ overH c c' i) (fun i => c.length - i) 0 ⟨by omega, fun i _ _ h => by omega⟩ ?_ ?_
    · refine weak_of 6 0 rfl rfl ?_ ?_
      · simp
      · simp [mixL_zero]
    · rintro i ⟨hi, ho⟩
      by_cases h : i < c'.length
      · have hic : i < c.length := by omega
        have b1 := V1.2.2 _ (List.getElem_mem hic)
        have b2 := V2.2.2 _ (List.getElem_mem h)
        have hw : wrapI .i64 (c[i] + c'[i]) = c[i] + c'[i] := wrap_in (by omega) (by omega)
        by_cases hb : 1048576 < c[i] + c'[i]
        · simp -implicitDefEqProofs [h, mixL_gE hcl hic, mixL_len hcl, hic, hw, hb]
        · simp -implicitDefEqProofs [h, mixL_gE hcl hic, mixL_len hcl, hic, hw, hb]
          refine ⟨i + 1, ⟨hic, overH_succ ho hic h hb⟩, by omega, weak_of 6 0 rfl rfl ?_ ?_⟩
          · simp
            exact (wrap_in (by omega) (by omega)).symm
          · have hset : (rowsOf intC (mixL c c' i)).set i [.int .i64 (c[i] + c'[i])] = rowsOf intC (mixL c c' (i + 1)) := by
              rw [show ([.int .i64 (c[i] + c'[i])] : List AV) = intC (c[i] + c'[i]) from rfl, rowsOf_set, mixL_set hcl hic h]
            rw [hset]
            simp
      · exfalso
        have := ho i0 q1 q2 (by omega)
        omega
  · rw [mergeR_ok v1 v2 fun i h1 h2 => Int.not_lt.1 fun h => hov ⟨i, h1, h2, h⟩]
    refine pure_of mixed Try.func24 rfl (by kernel_rfl) (of_decide_eq_true rfl) (by kernel_rfl) (vc_run ?_)
    simp -implicitDefEqProofs
    refine call_intro (tvalid_pure he hc) (by simp -implicitDefEqProofs) (.inl rfl) ?_
    simp -implicitDefEqProofs [v1]
    refine call_intro (tvalid_pure he' hc') (by simp -implicitDefEqProofs) (.inl rfl) ?_
    simp -implicitDefEqProofs [v2]
    refine call_intro (equal_pure he he') (by simp -implicitDefEqProofs) (.inl rfl) ?_
    simp -implicitDefEqProofs
    refine fresh_intro (cloneI_fresh e hne (by omega)) (by simp -implicitDefEqProofs) (.inl (rowsOf_flat (by simp [intC, flat]))) ?_
    simp -implicitDefEqProofs
    refine fresh_intro (cloneI_fresh c hcn (by omega)) (by simp -implicitDefEqProofs) (.inl (rowsOf_flat (by simp [intC, flat]))) ?_
    simp -implicitDefEqProofs
    refine loop_intro (σ := Nat) (fun i => ⟨[(4, .op 2 0), (6, .op 5 0), (35, ints c'), (36, .int .i64 c'.length), (37, .int .i64 i)], [.box 24 [ints e, ints c], .box 24 [ints e, ints c'], .box 24 [.nils, .nils], .row 3 false (rowsOf intC e), .row 3 false (rowsOf intC (mixL c c' i)), .box 24 [.os 3 e.length, .os 4 c.length]]⟩) (fun i => i ≤ c.length ∧ overH c c' i) (fun i => c.length - i) 0 ⟨by omega, fun i _ _ h => by omega⟩ ?_ ?_
    · refine weak_of 6 0 rfl rfl ?_ ?_
      · simp
      · simp [mixL_zero]
    · rintro i ⟨hi, ho⟩
      by_cases h : i < c'.length
      · have hic : i < c.length := by omega
        have b1 := V1.2.2 _ (List.getElem_mem hic)
        have b2 := V2.2.2 _ (List.getElem_mem h)
        have hw : wrapI .i64 (c[i] + c'[i]) = c[i] + c'[i] := wrap_in (by omega) (by omega)
        by_cases hb : 1048576 < c[i] + c'[i]
        · exact absurd ⟨i, hic, h, hb⟩ hov
        · simp -implicitDefEqProofs [h, mixL_gE hcl hic, mixL_len hcl, hic, hw, hb]
          refine ⟨i + 1, ⟨hic, overH_succ ho hic h hb⟩, by omega, weak_of 6 0 rfl rfl ?_ ?_⟩
          · simp
            exact (wrap_in (by omega) (by omega)).symm
          · have hset : (rowsOf intC (mixL c c' i)).set i [.int .i64 (c[i] + c'[i])] = rowsOf intC (mixL c c' (i + 1)) := by
              rw [show ([.int .i64 (c[i] + c'[i])] : List AV) = intC (c[i] + c'[i]) from rfl, rowsOf_set, mixL_set hcl hic h]
            rw [hset]
            simp
      · have hil : i = c.length := by omega
        subst hil
        rw [mixL_all hcl]
        simp -implicitDefEqProofs [h, addL_len hcl, ints_reify]
end Go.Proofs.Ytibnaangfdohiaa
