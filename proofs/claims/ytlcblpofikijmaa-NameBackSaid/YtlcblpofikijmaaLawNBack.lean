/- Texts are read back from their literals, and lists from their lines (the law NameBack holds for every input; no condition). -/
import Derived.Test.YtlcblpofikijmaaRows
import Derived.Test.YtlcblpofikijmaaNam1
import Derived.Test.YtlcblpofikijmaaNbP
namespace Go.Proofs.Ytlcblpofikijmaa.lawBack
set_option linter.unusedSimpArgs false
set_option linter.unusedVariables false
set_option linter.unnecessarySimpa false
set_option linter.unusedSectionVars false
open Go.ChangeShapes Go.WideShapes Go.ChangeAt Go.RowKit Go.Joins Go.Deep
section
variable [Glob]
set_option maxRecDepth 100000
theorem wide1 (t : List UInt8) : (⟨#[32, 32]⟩ : ByteArray) ++ (⟨t.toArray⟩ : ByteArray) = ⟨(32 :: 32 :: t).toArray⟩ := by
  have : ((⟨#[32, 32]⟩ : ByteArray) ++ (⟨t.toArray⟩ : ByteArray)).data = (32 :: 32 :: t).toArray := by
    rw [ByteArray.data_append]
    apply Array.toList_inj.1
    simp
  exact congrArg ByteArray.mk this
theorem wide2 (t : List UInt8) : (⟨(32 :: 32 :: t).toArray⟩ : ByteArray) ++ (⟨#[32]⟩ : ByteArray) = ⟨(32 :: 32 :: (t ++ [32])).toArray⟩ := by
  have : ((⟨(32 :: 32 :: t).toArray⟩ : ByteArray) ++ (⟨#[32]⟩ : ByteArray)).data = (32 :: 32 :: (t ++ [32])).toArray := by
    rw [ByteArray.data_append]
    apply Array.toList_inj.1
    simp
  exact congrArg ByteArray.mk this
theorem sz2 : (⟨#[32, 32]⟩ : ByteArray).size = 2 := rfl
theorem sz1 : (⟨#[32]⟩ : ByteArray).size = 1 := rfl
set_option maxHeartbeats 8000000 in
theorem both (x0 : AV) (s0 : argS Try.prog 22 x0) :
    Pure Try.prog 6 [x0] (.bool true) := by
  obtain ⟨l, rfl, hl, _⟩ := arg_strs s0
  refine pure_of mixed Try.func6 rfl (by kernel_rfl) (of_decide_eq_true rfl) (by kernel_rfl) (vc_run ?_)
  by_cases hS : shortL l = true
  · have hl2 : l.length ≤ 1005 := by
      simp only [shortL, Bool.and_eq_true, Bool.or_eq_true, decide_eq_true_eq] at hS
      omega
    have hx : ∀ x ∈ l, x.size ≤ 200 := fun x hm => by
      simp only [shortL, Bool.and_eq_true, List.all_eq_true, szC, decide_eq_true_eq] at hS
      exact hS.2 x hm
    have hJ := joinP_pure l (by omega) hx
    cases hj : joinR l with
    | error e2 =>
      rw [hj, exS] at hJ
      have he2 : ¬ e2 = 0 := by
        unfold joinR at hj
        split at hj
        · cases hj; decide
        · split at hj
          · split at hj
            · cases hj; decide
            · cases hj
          · cases hj; decide
      ((try simp -implicitDefEqProofs [-loopQ_n, hS, he2]) <;> (repeat' (first | (refine condD_dec ?_ ?_ <;> (intro hc; (try simp -implicitDefEqProofs [-loopQ_n, hc, hS, he2]))) | (refine guardD_dec ?_ ?_ <;> (intro hc; (try simp -implicitDefEqProofs [-loopQ_n, hc, hS, he2]))) | (refine condD_intro ?_ ?_ <;> (intro hd; have hc := hd; (try simp at hc) <;> (try simp -implicitDefEqProofs [-loopQ_n, hd, hc, hS, he2]))) | (refine guardD_intro ?_ ?_ <;> (intro hd; have hc := hd; (try simp at hc) <;> (try simp -implicitDefEqProofs [-loopQ_n, hd, hc, hS, he2]))) | (refine ldD_ep ?_ ?_; (focus kernel_rfl); (try simp -implicitDefEqProofs [-loopQ_n, hS, he2])) | (refine callS_mk ?_; (try simp -implicitDefEqProofs [-loopQ_n, hS, he2]); (first | refine callS_intro (awake_pure) (.inl rfl) ?_ | refine callS_intro (short_pure l hl) (.inl rfl) ?_ | refine callS_intro (hJ) (.inl rfl) ?_); (try simp -implicitDefEqProofs [-loopQ_n, hS, he2])))))
      refine loop_intro (σ := Nat) (fun i => ⟨[(4, .int .i64 e2), (66, .rs (rowsOf strC l)), (67, .int .i64 l.length), (68, .int .i64 i)], []⟩) (fun i => i ≤ l.length) (fun i => l.length - i) 0 (by omega) ?_ ?_
      · refine weak_of 0 0 rfl rfl ?_ ?_ <;> simp
      rintro i hi
      by_cases h : i < l.length
      · have w1 := sw_suc h (by omega)
        have hm : l[i] ∈ l := List.getElem_mem h
        have hsz := hx _ hm
        have hQ := quo_pure l[i] (by omega)
        cases hq : quoR l[i] with
        | error eq =>
          rw [hq, exS] at hQ
          have heq : ¬ eq = 0 := by
            unfold quoR at hq
            split at hq
            · cases hq; decide
            · split at hq
              · cases hq
              · cases hq; decide
          ((try simp -implicitDefEqProofs [-loopQ_n, h, w1, strC, heq, he2]) <;> (repeat' (first | (refine condD_dec ?_ ?_ <;> (intro hc; (try simp -implicitDefEqProofs [-loopQ_n, hc, h, w1, strC, heq, he2]))) | (refine guardD_dec ?_ ?_ <;> (intro hc; (try simp -implicitDefEqProofs [-loopQ_n, hc, h, w1, strC, heq, he2]))) | (refine condD_intro ?_ ?_ <;> (intro hd; have hc := hd; (try simp at hc) <;> (try simp -implicitDefEqProofs [-loopQ_n, hd, hc, h, w1, strC, heq, he2]))) | (refine guardD_intro ?_ ?_ <;> (intro hd; have hc := hd; (try simp at hc) <;> (try simp -implicitDefEqProofs [-loopQ_n, hd, hc, h, w1, strC, heq, he2]))) | (refine ldD_ep ?_ ?_; (focus kernel_rfl); (try simp -implicitDefEqProofs [-loopQ_n, h, w1, strC, heq, he2])) | (refine callS_mk ?_; (try simp -implicitDefEqProofs [-loopQ_n, h, w1, strC, heq, he2]); (first | refine callS_intro (hQ) (.inl rfl) ?_); (try simp -implicitDefEqProofs [-loopQ_n, h, w1, strC, heq, he2])))))
          refine loop_next (i + 1) h (by omega) (weak_of 0 0 rfl rfl ?_ ?_) <;> simp
        | ok q =>
          rw [hq, exS] at hQ
          have hqs : q.length ≤ 100000 := by
            unfold quoR at hq
            split at hq
            · cases hq
            · split at hq
              · cases hq
                have := esc_len (bl l[i])
                rw [bl_len] at this
                simp only [litL, List.length_cons, List.length_append, List.length_nil]
                omega
              · cases hq
          have hU := unq_pure ⟨q.toArray⟩ (by rw [size_mk]; exact hqs)
          rw [quote_back hq, exS, ba_eta] at hU
          ((try simp -implicitDefEqProofs [-loopQ_n, h, w1, strC, he2]) <;> (repeat' (first | (refine condD_dec ?_ ?_ <;> (intro hc; (try simp -implicitDefEqProofs [-loopQ_n, hc, h, w1, strC, he2]))) | (refine guardD_dec ?_ ?_ <;> (intro hc; (try simp -implicitDefEqProofs [-loopQ_n, hc, h, w1, strC, he2]))) | (refine condD_intro ?_ ?_ <;> (intro hd; have hc := hd; (try simp at hc) <;> (try simp -implicitDefEqProofs [-loopQ_n, hd, hc, h, w1, strC, he2]))) | (refine guardD_intro ?_ ?_ <;> (intro hd; have hc := hd; (try simp at hc) <;> (try simp -implicitDefEqProofs [-loopQ_n, hd, hc, h, w1, strC, he2]))) | (refine ldD_ep ?_ ?_; (focus kernel_rfl); (try simp -implicitDefEqProofs [-loopQ_n, h, w1, strC, he2])) | (refine callS_mk ?_; (try simp -implicitDefEqProofs [-loopQ_n, h, w1, strC, he2]); (first | refine callS_intro (hQ) (.inl rfl) ?_ | refine callS_intro (hU) (.inl rfl) ?_); (try simp -implicitDefEqProofs [-loopQ_n, h, w1, strC, he2])))))
          refine loop_next (i + 1) h (by omega) (weak_of 0 0 rfl rfl ?_ ?_) <;> simp
      · ((try simp -implicitDefEqProofs [-loopQ_n, h]) <;> (repeat' (first | (refine condD_dec ?_ ?_ <;> (intro hc; (try simp -implicitDefEqProofs [-loopQ_n, hc, h]))) | (refine guardD_dec ?_ ?_ <;> (intro hc; (try simp -implicitDefEqProofs [-loopQ_n, hc, h]))) | (refine condD_intro ?_ ?_ <;> (intro hd; have hc := hd; (try simp at hc) <;> (try simp -implicitDefEqProofs [-loopQ_n, hd, hc, h]))) | (refine guardD_intro ?_ ?_ <;> (intro hd; have hc := hd; (try simp at hc) <;> (try simp -implicitDefEqProofs [-loopQ_n, hd, hc, h]))) | (refine ldD_ep ?_ ?_; (focus kernel_rfl); (try simp -implicitDefEqProofs [-loopQ_n, h])))))
    | ok t =>
      obtain ⟨j1, j2, j3, j4⟩ := join_ok hj
      rw [hj, exS] at hJ
      have hW := words_pure ⟨t.toArray⟩ (by rw [size_mk]; omega)
      rw [back1 hj, exL] at hW
      have hW2 := words_pure ⟨(32 :: 32 :: (t ++ [32])).toArray⟩ (by rw [size_mk]; simp; omega)
      have z1 : 2 + t.length ≤ 1073741824 := by omega
      have z2 : t.length + 1 + 1 + 1 ≤ 1073741824 := by omega
      by_cases h3 : t.length + 3 ≤ 16384
      · rw [back2 hj h3, exL] at hW2
        ((try simp -implicitDefEqProofs [-loopQ_n, hS, wide1, wide2, sz1, sz2, baSize, z1, z2]) <;> (repeat' (first | (refine condD_dec ?_ ?_ <;> (intro hc; (try simp -implicitDefEqProofs [-loopQ_n, hc, hS, wide1, wide2, sz1, sz2, baSize, z1, z2]))) | (refine guardD_dec ?_ ?_ <;> (intro hc; (try simp -implicitDefEqProofs [-loopQ_n, hc, hS, wide1, wide2, sz1, sz2, baSize, z1, z2]))) | (refine condD_intro ?_ ?_ <;> (intro hd; have hc := hd; (try simp at hc) <;> (try simp -implicitDefEqProofs [-loopQ_n, hd, hc, hS, wide1, wide2, sz1, sz2, baSize, z1, z2]))) | (refine guardD_intro ?_ ?_ <;> (intro hd; have hc := hd; (try simp at hc) <;> (try simp -implicitDefEqProofs [-loopQ_n, hd, hc, hS, wide1, wide2, sz1, sz2, baSize, z1, z2]))) | (refine ldD_ep ?_ ?_; (focus kernel_rfl); (try simp -implicitDefEqProofs [-loopQ_n, hS, wide1, wide2, sz1, sz2, baSize, z1, z2])) | (refine callS_mk ?_; (try simp -implicitDefEqProofs [-loopQ_n, hS, wide1, wide2, sz1, sz2, baSize, z1, z2]); (first | refine callS_intro (awake_pure) (.inl rfl) ?_ | refine callS_intro (short_pure l hl) (.inl rfl) ?_ | refine callS_intro (hJ) (.inl rfl) ?_ | refine callS_intro (hW) (.inr ⟨rfl, rfl⟩) ?_ | refine callS_intro (hW2) (.inr ⟨rfl, rfl⟩) ?_ | refine callS_intro (eqS_pure l l hl hl) (.inl rfl) ?_); (try simp -implicitDefEqProofs [-loopQ_n, hS, wide1, wide2, sz1, sz2, baSize, z1, z2])))))
        refine loop_intro (σ := Nat) (fun i => ⟨[(4, .int .i64 0), (66, .rs (rowsOf strC l)), (67, .int .i64 l.length), (68, .int .i64 i)], []⟩) (fun i => i ≤ l.length) (fun i => l.length - i) 0 (by omega) ?_ ?_
        · refine weak_of 0 0 rfl rfl ?_ ?_ <;> simp
        rintro i hi
        by_cases h : i < l.length
        · have w1 := sw_suc h (by omega)
          have hm : l[i] ∈ l := List.getElem_mem h
          have hsz := hx _ hm
          have hQ := quo_pure l[i] (by omega)
          cases hq : quoR l[i] with
          | error eq =>
            rw [hq, exS] at hQ
            have heq : ¬ eq = 0 := by
              unfold quoR at hq
              split at hq
              · cases hq; decide
              · split at hq
                · cases hq
                · cases hq; decide
            rw [quote_ok hj hm (by omega)] at hq
            cases hq
          | ok q =>
            rw [hq, exS] at hQ
            have hqs : q.length ≤ 100000 := by
              unfold quoR at hq
              split at hq
              · cases hq
              · split at hq
                · cases hq
                  have := esc_len (bl l[i])
                  rw [bl_len] at this
                  simp only [litL, List.length_cons, List.length_append, List.length_nil]
                  omega
                · cases hq
            have hU := unq_pure ⟨q.toArray⟩ (by rw [size_mk]; exact hqs)
            rw [quote_back hq, exS, ba_eta] at hU
            ((try simp -implicitDefEqProofs [-loopQ_n, h, w1, strC]) <;> (repeat' (first | (refine condD_dec ?_ ?_ <;> (intro hc; (try simp -implicitDefEqProofs [-loopQ_n, hc, h, w1, strC]))) | (refine guardD_dec ?_ ?_ <;> (intro hc; (try simp -implicitDefEqProofs [-loopQ_n, hc, h, w1, strC]))) | (refine condD_intro ?_ ?_ <;> (intro hd; have hc := hd; (try simp at hc) <;> (try simp -implicitDefEqProofs [-loopQ_n, hd, hc, h, w1, strC]))) | (refine guardD_intro ?_ ?_ <;> (intro hd; have hc := hd; (try simp at hc) <;> (try simp -implicitDefEqProofs [-loopQ_n, hd, hc, h, w1, strC]))) | (refine ldD_ep ?_ ?_; (focus kernel_rfl); (try simp -implicitDefEqProofs [-loopQ_n, h, w1, strC])) | (refine callS_mk ?_; (try simp -implicitDefEqProofs [-loopQ_n, h, w1, strC]); (first | refine callS_intro (hQ) (.inl rfl) ?_ | refine callS_intro (hU) (.inl rfl) ?_); (try simp -implicitDefEqProofs [-loopQ_n, h, w1, strC])))))
            refine loop_next (i + 1) h (by omega) (weak_of 0 0 rfl rfl ?_ ?_) <;> simp
        · ((try simp -implicitDefEqProofs [-loopQ_n, h]) <;> (repeat' (first | (refine condD_dec ?_ ?_ <;> (intro hc; (try simp -implicitDefEqProofs [-loopQ_n, hc, h]))) | (refine guardD_dec ?_ ?_ <;> (intro hc; (try simp -implicitDefEqProofs [-loopQ_n, hc, h]))) | (refine condD_intro ?_ ?_ <;> (intro hd; have hc := hd; (try simp at hc) <;> (try simp -implicitDefEqProofs [-loopQ_n, hd, hc, h]))) | (refine guardD_intro ?_ ?_ <;> (intro hd; have hc := hd; (try simp at hc) <;> (try simp -implicitDefEqProofs [-loopQ_n, hd, hc, h]))) | (refine ldD_ep ?_ ?_; (focus kernel_rfl); (try simp -implicitDefEqProofs [-loopQ_n, h])))))
      · have hwr : wrdR ⟨(32 :: 32 :: (t ++ [32])).toArray⟩ = .error 5 := by rw [wrdR, size_mk, if_pos (by simp; omega)]
        rw [hwr, exL] at hW2
        have h4 : ¬ (t.length : Int) < 16381 := by omega
        ((try simp -implicitDefEqProofs [-loopQ_n, hS, wide1, wide2, sz1, sz2, baSize, z1, z2, h4]) <;> (repeat' (first | (refine condD_dec ?_ ?_ <;> (intro hc; (try simp -implicitDefEqProofs [-loopQ_n, hc, hS, wide1, wide2, sz1, sz2, baSize, z1, z2, h4]))) | (refine guardD_dec ?_ ?_ <;> (intro hc; (try simp -implicitDefEqProofs [-loopQ_n, hc, hS, wide1, wide2, sz1, sz2, baSize, z1, z2, h4]))) | (refine condD_intro ?_ ?_ <;> (intro hd; have hc := hd; (try simp at hc) <;> (try simp -implicitDefEqProofs [-loopQ_n, hd, hc, hS, wide1, wide2, sz1, sz2, baSize, z1, z2, h4]))) | (refine guardD_intro ?_ ?_ <;> (intro hd; have hc := hd; (try simp at hc) <;> (try simp -implicitDefEqProofs [-loopQ_n, hd, hc, hS, wide1, wide2, sz1, sz2, baSize, z1, z2, h4]))) | (refine ldD_ep ?_ ?_; (focus kernel_rfl); (try simp -implicitDefEqProofs [-loopQ_n, hS, wide1, wide2, sz1, sz2, baSize, z1, z2, h4])) | (refine callS_mk ?_; (try simp -implicitDefEqProofs [-loopQ_n, hS, wide1, wide2, sz1, sz2, baSize, z1, z2, h4]); (first | refine callS_intro (awake_pure) (.inl rfl) ?_ | refine callS_intro (short_pure l hl) (.inl rfl) ?_ | refine callS_intro (hJ) (.inl rfl) ?_ | refine callS_intro (hW) (.inr ⟨rfl, rfl⟩) ?_ | refine callS_intro (hW2) (.inr ⟨rfl, rfl⟩) ?_ | refine callS_intro (eqS_pure l l hl hl) (.inl rfl) ?_); (try simp -implicitDefEqProofs [-loopQ_n, hS, wide1, wide2, sz1, sz2, baSize, z1, z2, h4])))))
        refine loop_intro (σ := Nat) (fun i => ⟨[(4, .int .i64 0), (66, .rs (rowsOf strC l)), (67, .int .i64 l.length), (68, .int .i64 i)], []⟩) (fun i => i ≤ l.length) (fun i => l.length - i) 0 (by omega) ?_ ?_
        · refine weak_of 0 0 rfl rfl ?_ ?_ <;> simp
        rintro i hi
        by_cases h : i < l.length
        · have w1 := sw_suc h (by omega)
          have hm : l[i] ∈ l := List.getElem_mem h
          have hsz := hx _ hm
          have hQ := quo_pure l[i] (by omega)
          cases hq : quoR l[i] with
          | error eq =>
            rw [hq, exS] at hQ
            have heq : ¬ eq = 0 := by
              unfold quoR at hq
              split at hq
              · cases hq; decide
              · split at hq
                · cases hq
                · cases hq; decide
            rw [quote_ok hj hm (by omega)] at hq
            cases hq
          | ok q =>
            rw [hq, exS] at hQ
            have hqs : q.length ≤ 100000 := by
              unfold quoR at hq
              split at hq
              · cases hq
              · split at hq
                · cases hq
                  have := esc_len (bl l[i])
                  rw [bl_len] at this
                  simp only [litL, List.length_cons, List.length_append, List.length_nil]
                  omega
                · cases hq
            have hU := unq_pure ⟨q.toArray⟩ (by rw [size_mk]; exact hqs)
            rw [quote_back hq, exS, ba_eta] at hU
            ((try simp -implicitDefEqProofs [-loopQ_n, h, w1, strC]) <;> (repeat' (first | (refine condD_dec ?_ ?_ <;> (intro hc; (try simp -implicitDefEqProofs [-loopQ_n, hc, h, w1, strC]))) | (refine guardD_dec ?_ ?_ <;> (intro hc; (try simp -implicitDefEqProofs [-loopQ_n, hc, h, w1, strC]))) | (refine condD_intro ?_ ?_ <;> (intro hd; have hc := hd; (try simp at hc) <;> (try simp -implicitDefEqProofs [-loopQ_n, hd, hc, h, w1, strC]))) | (refine guardD_intro ?_ ?_ <;> (intro hd; have hc := hd; (try simp at hc) <;> (try simp -implicitDefEqProofs [-loopQ_n, hd, hc, h, w1, strC]))) | (refine ldD_ep ?_ ?_; (focus kernel_rfl); (try simp -implicitDefEqProofs [-loopQ_n, h, w1, strC])) | (refine callS_mk ?_; (try simp -implicitDefEqProofs [-loopQ_n, h, w1, strC]); (first | refine callS_intro (hQ) (.inl rfl) ?_ | refine callS_intro (hU) (.inl rfl) ?_); (try simp -implicitDefEqProofs [-loopQ_n, h, w1, strC])))))
            refine loop_next (i + 1) h (by omega) (weak_of 0 0 rfl rfl ?_ ?_) <;> simp
        · ((try simp -implicitDefEqProofs [-loopQ_n, h]) <;> (repeat' (first | (refine condD_dec ?_ ?_ <;> (intro hc; (try simp -implicitDefEqProofs [-loopQ_n, hc, h]))) | (refine guardD_dec ?_ ?_ <;> (intro hc; (try simp -implicitDefEqProofs [-loopQ_n, hc, h]))) | (refine condD_intro ?_ ?_ <;> (intro hd; have hc := hd; (try simp at hc) <;> (try simp -implicitDefEqProofs [-loopQ_n, hd, hc, h]))) | (refine guardD_intro ?_ ?_ <;> (intro hd; have hc := hd; (try simp at hc) <;> (try simp -implicitDefEqProofs [-loopQ_n, hd, hc, h]))) | (refine ldD_ep ?_ ?_; (focus kernel_rfl); (try simp -implicitDefEqProofs [-loopQ_n, h])))))
  · have hS : shortL l = false := by simpa using hS
    ((try simp -implicitDefEqProofs [-loopQ_n, hS]) <;> (repeat' (first | (refine condD_dec ?_ ?_ <;> (intro hc; (try simp -implicitDefEqProofs [-loopQ_n, hc, hS]))) | (refine guardD_dec ?_ ?_ <;> (intro hc; (try simp -implicitDefEqProofs [-loopQ_n, hc, hS]))) | (refine condD_intro ?_ ?_ <;> (intro hd; have hc := hd; (try simp at hc) <;> (try simp -implicitDefEqProofs [-loopQ_n, hd, hc, hS]))) | (refine guardD_intro ?_ ?_ <;> (intro hd; have hc := hd; (try simp at hc) <;> (try simp -implicitDefEqProofs [-loopQ_n, hd, hc, hS]))) | (refine ldD_ep ?_ ?_; (focus kernel_rfl); (try simp -implicitDefEqProofs [-loopQ_n, hS])) | (refine callS_mk ?_; (try simp -implicitDefEqProofs [-loopQ_n, hS]); (first | refine callS_intro (awake_pure) (.inl rfl) ?_ | refine callS_intro (short_pure l hl) (.inl rfl) ?_); (try simp -implicitDefEqProofs [-loopQ_n, hS])))))
theorem walk (W : World) (hvo : VarsOk W (fun _ => False)) (v0 : Value) (x0 : AV) (r0 : RO W (fun _ => False) x0 v0) (s0 : argS Try.prog 22 x0) :
    Calls Try.prog 6 #[v0] W fun e w' => e = .returned (.bool true) ∧ Below W.heap.size W w' := by
  refine ((both x0 s0).2 W (fun _ => False) _ (fun _ h => h.elim) hvo rfl ?_).mono ?_
  · intro j x v hj hv
    match j with
    | 0 => simp at hj hv; subst hj hv; exact r0
    | j + 1 => simp at hj
  · rintro e w' ⟨v, rfl, hv, hb⟩
    rw [ro_tt hv]
    exact ⟨rfl, hb⟩
end
set_option maxRecDepth 100000 in
theorem lifted (os : Os) (started : os.Started) (H : Type) (enc : TypeId × Value → H) :
    ReturnsInHanded {} Try.checked os 6 .any (Rows.nameBackSpec.pre6 enc Try.prog Try.f6 Rows.nameBackRow.domain false) (Rows.nameBackSpec.post enc Try.prog Try.f6 false true false false) := by
  refine returnsInHanded_of_change (C := Try.checked) (@ownK ⟨fun _ => none⟩) started (by kernel_rfl) Try.func6
    (ChangeSpec.witness6 (enc := enc) (C := Try.checked) false ⟨#[], #[.slice none 0 0], []⟩ 8 (by kernel_rfl) (by kernel_rfl) (by kernel_rfl) (by kernel_rfl)) ?_
  intro W base args ds gs before hval0 hW hcnd _
  have hval : ∀ (j : Nat) t v, Try.f6.params[j]? = some t → args[j]? = some v → Value.okWide Try.prog W .any base t v := hval0
  have hW' := hW
  obtain ⟨p, q, hA0, hV, rfl, hfz, hnd⟩ := hW
  have hA : DataW.TrodAll enc Try.prog W 0 (fun _ => true) true Try.f6.params.toList args.toList ds p := hA0
  rw [Try.params6] at hA hval
  obtain ⟨v0, vs0, d0, ds0, p0, q0, hargs, rfl, rfl, h0, r0⟩ := trodAll_cons hA
  obtain ⟨rfl, rfl, rfl⟩ := trodAll_nil r0
  obtain rfl : args = #[v0] := by cases args; simp_all
  obtain ⟨rfl, rfl⟩ := trodVars_none hV
  letI : Glob := ⟨fun _ => none⟩
  have k0 := h0
  have lt0 : ∀ x ∈ p0, x.block < W.heap.size := by obtain ⟨m, hm⟩ := k0; exact DataW.trod_lt m _ _ _ hm
  obtain ⟨x0, y0, s0⟩ := arg_open (P := Try.prog) (t := 22) (by kernel_rfl) (by kernel_rfl) (hval 0 22 v0 rfl rfl) h0
  clear hA0 hval0
  refine (walk W (fun g row h => by cases h) v0 x0 y0 s0).mono fun e W' ⟨he, bel⟩ => ?_
  subst he
  exact ⟨_, rfl, _, _, _, [], _, [], hW', trodAll_mk1 (shut_bool Try.underlying4 _), (trodAll_cons_mk (Below.trod laidK (by kernel_rfl) (of_decide_eq_true (by kernel_rfl)) k0 bel lt0) trodAll_mk0), rfl, bel.frame _, fun h => by cases h⟩

theorem over : Rows.nameBackRow.holds Try.pinned (OpenSpec.ofChange Rows.nameBackSpec) :=
  OpenClaim.holds_of_wide 6 Try.f6 rfl rfl rfl rfl rfl rfl rfl ⟨rfl, rfl, rfl, rfl, rfl⟩ rfl rfl rfl rfl rfl (by kernel_rfl) Try.func6 (by kernel_rfl)
    (of_decide_eq_true (by kernel_rfl)) (by unfold Func.isWrapper; first | (rw [if_pos (by decide +kernel)]; kernel_rfl) | (rw [if_neg (by decide +kernel)]; exact ⟨rfl, rfl⟩))
    (fun os started H enc _ => lifted os started H enc)

theorem proved : Rows.NameBackSaid := over
end Go.Proofs.Ytlcblpofikijmaa.lawBack
