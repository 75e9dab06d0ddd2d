/- The order of words is total and transitive, an alphabet that is sorted again is the same, and words of one name are ordered as their names (the law NameOrder holds for every input; no condition). -/
import Derived.Test.YtlcblpofikijmaaRows
import Derived.Test.YtlcblpofikijmaaNam1
import Derived.Test.YtlcblpofikijmaaOrdP
namespace Go.Proofs.Ytlcblpofikijmaa.lawOrder
set_option linter.unusedSimpArgs false
set_option linter.unusedVariables false
set_option linter.unnecessarySimpa false
set_option linter.unusedSectionVars false
open Go.ChangeShapes Go.WideShapes Go.ChangeAt Go.RowKit Go.Joins Go.Deep
section
variable [Glob]
set_option maxRecDepth 100000
theorem short_len {l : List ByteArray} (hS : shortL l = true) : l.length ≤ 1005 := by
  simp only [shortL, Bool.and_eq_true, Bool.or_eq_true, decide_eq_true_eq] at hS
  omega
theorem sl_one {l : List ByteArray} {i : Nat} (h : i < l.length) (n : Nat) (hn : n = 1) : ((rowsOf strC l).drop i).take n = rowsOf strC [l[i]] := by
  subst hn
  show ((l.map strC).drop i).take 1 = _
  rw [← List.map_drop, List.drop_eq_getElem_cons h]
  rfl
set_option maxHeartbeats 16000000 in
theorem c1 (a b c : List ByteArray) (ha : a.length ≤ 9223372036854775807) (hb : b.length ≤ 9223372036854775807) (hlc : c.length ≤ 9223372036854775807) (hSa : shortL a = true) (hSb : shortL b = true) (hSc : shortL c = true) (p1 : (cmpL a b ≤ 0) = False) (p4 : (cmpL a b < 0) = False) :
    Pure Try.prog 9 [.rs (rowsOf strC a), .rs (rowsOf strC b), .rs (rowsOf strC c)] (.bool true) := by
  have hla := short_len hSa
  have hn := nsorted_pure a (by omega)
  have hanti := cmpL_anti a b
  have hv := cmpL_vals a b
  have hw : wrapI .i64 (-cmpL b a) = cmpL a b := by rw [wrap_in (by omega) (by omega)]; omega
  have hz : (cmpL a b = 0) = (a = b) := propext cmpL_iff
  have hcm := ncompare_pure a (a ++ [⟨#[120]⟩]) ha (by simp; omega)
  rw [cmpL_more] at hcm
  clear hanti hv
  refine pure_of mixed Try.func9 rfl (by kernel_rfl) (of_decide_eq_true rfl) (by kernel_rfl) (vc_run ?_)
  ((try simp -implicitDefEqProofs [-loopQ_n, hSa, hSb, hSc, hw, hz, p1, p4]) <;> (repeat' (first | (refine condD_dec ?_ ?_ <;> (intro hc; (try simp -implicitDefEqProofs [-loopQ_n, hc, hSa, hSb, hSc, hw, hz, p1, p4]))) | (refine guardD_dec ?_ ?_ <;> (intro hc; (try simp -implicitDefEqProofs [-loopQ_n, hc, hSa, hSb, hSc, hw, hz, p1, p4]))) | (refine condD_intro ?_ ?_ <;> (intro hd; have hc := hd; (try simp at hc) <;> (try simp -implicitDefEqProofs [-loopQ_n, hd, hc, hSa, hSb, hSc, hw, hz, p1, p4]))) | (refine guardD_intro ?_ ?_ <;> (intro hd; have hc := hd; (try simp at hc) <;> (try simp -implicitDefEqProofs [-loopQ_n, hd, hc, hSa, hSb, hSc, hw, hz, p1, p4]))) | (refine ldD_ep ?_ ?_; (focus kernel_rfl); (try simp -implicitDefEqProofs [-loopQ_n, hSa, hSb, hSc, hw, hz, p1, p4])) | (refine callS_mk ?_; (try simp -implicitDefEqProofs [-loopQ_n, hSa, hSb, hSc, hw, hz, p1, p4]); (first | refine callS_intro (awake_pure) (.inl rfl) ?_ | refine callS_intro (short_pure a ha) (.inl rfl) ?_ | refine callS_intro (short_pure b hb) (.inl rfl) ?_ | refine callS_intro (short_pure c hlc) (.inl rfl) ?_ | refine callS_intro (ncompare_pure a b ha hb) (.inl rfl) ?_ | refine callS_intro (ncompare_pure b c hb hlc) (.inl rfl) ?_ | refine callS_intro (ncompare_pure a c ha hlc) (.inl rfl) ?_ | refine callS_intro (ncompare_pure b a hb ha) (.inl rfl) ?_ | refine callS_intro (eqS_pure a b ha hb) (.inl rfl) ?_); (try simp -implicitDefEqProofs [-loopQ_n, hSa, hSb, hSc, hw, hz, p1, p4])))))
  by_cases h0 : a = []
  · subst h0
    cases hs : sortedR [] with
    | error e =>
      rw [hs, exN] at hn
      have he : ¬ e = 0 := by
        unfold sortedR at hs
        split at hs
        · split at hs
          · cases hs; decide
          · split at hs
            · cases hs; decide
            · cases hs
        · cases hs; decide
      ((try simp -implicitDefEqProofs [-loopQ_n, rowsOf]) <;> (repeat' (first | (refine condD_dec ?_ ?_ <;> (intro hc; (try simp -implicitDefEqProofs [-loopQ_n, hc, rowsOf]))) | (refine guardD_dec ?_ ?_ <;> (intro hc; (try simp -implicitDefEqProofs [-loopQ_n, hc, rowsOf]))) | (refine condD_intro ?_ ?_ <;> (intro hd; have hc := hd; (try simp at hc) <;> (try simp -implicitDefEqProofs [-loopQ_n, hd, hc, rowsOf]))) | (refine guardD_intro ?_ ?_ <;> (intro hd; have hc := hd; (try simp at hc) <;> (try simp -implicitDefEqProofs [-loopQ_n, hd, hc, rowsOf]))) | (refine ldD_ep ?_ ?_; (focus kernel_rfl); (try simp -implicitDefEqProofs [-loopQ_n, rowsOf])))))
      refine callG_intro (cloneS0_G fun nb => ?_)
      ((try simp -implicitDefEqProofs [-loopQ_n, rowsOf]) <;> (repeat' (first | (refine condD_dec ?_ ?_ <;> (intro hc; (try simp -implicitDefEqProofs [-loopQ_n, hc, rowsOf]))) | (refine guardD_dec ?_ ?_ <;> (intro hc; (try simp -implicitDefEqProofs [-loopQ_n, hc, rowsOf]))) | (refine condD_intro ?_ ?_ <;> (intro hd; have hc := hd; (try simp at hc) <;> (try simp -implicitDefEqProofs [-loopQ_n, hd, hc, rowsOf]))) | (refine guardD_intro ?_ ?_ <;> (intro hd; have hc := hd; (try simp at hc) <;> (try simp -implicitDefEqProofs [-loopQ_n, hd, hc, rowsOf]))) | (refine ldD_ep ?_ ?_; (focus kernel_rfl); (try simp -implicitDefEqProofs [-loopQ_n, rowsOf])) | (refine callS_mk ?_; (try simp -implicitDefEqProofs [-loopQ_n, rowsOf]); (first | refine callS_intro (hcm) (.inl rfl) ?_); (try simp -implicitDefEqProofs [-loopQ_n, rowsOf])))))
      ((try simp -implicitDefEqProofs [-loopQ_n, he, rowsOf]) <;> (repeat' (first | (refine condD_dec ?_ ?_ <;> (intro hc; (try simp -implicitDefEqProofs [-loopQ_n, hc, he, rowsOf]))) | (refine guardD_dec ?_ ?_ <;> (intro hc; (try simp -implicitDefEqProofs [-loopQ_n, hc, he, rowsOf]))) | (refine condD_intro ?_ ?_ <;> (intro hd; have hc := hd; (try simp at hc) <;> (try simp -implicitDefEqProofs [-loopQ_n, hd, hc, he, rowsOf]))) | (refine guardD_intro ?_ ?_ <;> (intro hd; have hc := hd; (try simp at hc) <;> (try simp -implicitDefEqProofs [-loopQ_n, hd, hc, he, rowsOf]))) | (refine ldD_ep ?_ ?_; (focus kernel_rfl); (try simp -implicitDefEqProofs [-loopQ_n, he, rowsOf])) | (refine callS_mk ?_; (try simp -implicitDefEqProofs [-loopQ_n, he, rowsOf]); (first | refine callS_intro (hn) (.inr ⟨rfl, rfl⟩) ?_); (try simp -implicitDefEqProofs [-loopQ_n, he, rowsOf])))))
    | ok l =>
      obtain ⟨g1, g2, g3⟩ := sorted_again hs
      obtain ⟨q1, q2, q3⟩ := sorted_ok hs
      have hm := nsorted_pure l (by omega)
      rw [hs, exN] at hn
      rw [g1, exN] at hm
      ((try simp -implicitDefEqProofs [-loopQ_n, rowsOf]) <;> (repeat' (first | (refine condD_dec ?_ ?_ <;> (intro hc; (try simp -implicitDefEqProofs [-loopQ_n, hc, rowsOf]))) | (refine guardD_dec ?_ ?_ <;> (intro hc; (try simp -implicitDefEqProofs [-loopQ_n, hc, rowsOf]))) | (refine condD_intro ?_ ?_ <;> (intro hd; have hc := hd; (try simp at hc) <;> (try simp -implicitDefEqProofs [-loopQ_n, hd, hc, rowsOf]))) | (refine guardD_intro ?_ ?_ <;> (intro hd; have hc := hd; (try simp at hc) <;> (try simp -implicitDefEqProofs [-loopQ_n, hd, hc, rowsOf]))) | (refine ldD_ep ?_ ?_; (focus kernel_rfl); (try simp -implicitDefEqProofs [-loopQ_n, rowsOf])))))
      refine callG_intro (cloneS0_G fun nb => ?_)
      ((try simp -implicitDefEqProofs [-loopQ_n, rowsOf]) <;> (repeat' (first | (refine condD_dec ?_ ?_ <;> (intro hc; (try simp -implicitDefEqProofs [-loopQ_n, hc, rowsOf]))) | (refine guardD_dec ?_ ?_ <;> (intro hc; (try simp -implicitDefEqProofs [-loopQ_n, hc, rowsOf]))) | (refine condD_intro ?_ ?_ <;> (intro hd; have hc := hd; (try simp at hc) <;> (try simp -implicitDefEqProofs [-loopQ_n, hd, hc, rowsOf]))) | (refine guardD_intro ?_ ?_ <;> (intro hd; have hc := hd; (try simp at hc) <;> (try simp -implicitDefEqProofs [-loopQ_n, hd, hc, rowsOf]))) | (refine ldD_ep ?_ ?_; (focus kernel_rfl); (try simp -implicitDefEqProofs [-loopQ_n, rowsOf])) | (refine callS_mk ?_; (try simp -implicitDefEqProofs [-loopQ_n, rowsOf]); (first | refine callS_intro (hcm) (.inl rfl) ?_); (try simp -implicitDefEqProofs [-loopQ_n, rowsOf])))))
      ((try simp -implicitDefEqProofs [-loopQ_n, g2, rowsOf]) <;> (repeat' (first | (refine condD_dec ?_ ?_ <;> (intro hc; (try simp -implicitDefEqProofs [-loopQ_n, hc, g2, rowsOf]))) | (refine guardD_dec ?_ ?_ <;> (intro hc; (try simp -implicitDefEqProofs [-loopQ_n, hc, g2, rowsOf]))) | (refine condD_intro ?_ ?_ <;> (intro hd; have hc := hd; (try simp at hc) <;> (try simp -implicitDefEqProofs [-loopQ_n, hd, hc, g2, rowsOf]))) | (refine guardD_intro ?_ ?_ <;> (intro hd; have hc := hd; (try simp at hc) <;> (try simp -implicitDefEqProofs [-loopQ_n, hd, hc, g2, rowsOf]))) | (refine ldD_ep ?_ ?_; (focus kernel_rfl); (try simp -implicitDefEqProofs [-loopQ_n, g2, rowsOf])) | (refine callS_mk ?_; (try simp -implicitDefEqProofs [-loopQ_n, g2, rowsOf]); (first | refine callS_intro (hn) (.inr ⟨rfl, rfl⟩) ?_ | refine callS_intro (hm) (.inr ⟨rfl, rfl⟩) ?_ | refine callS_intro (eqS_pure l l (by omega) (by omega)) (.inl rfl) ?_ | refine callS_intro (alph_pure l) (.inl rfl) ?_); (try simp -implicitDefEqProofs [-loopQ_n, g2, rowsOf])))))
      have hl0 : l = [] := q1
      subst hl0
      refine loop_intro (σ := Unit) (fun _ => ⟨[(0, .rs []), (10, .rs []), (14, .int .i64 1)], []⟩) (fun _ => True) (fun _ => 0) () trivial ?_ ?_
      · refine weak_of 0 0 rfl rfl ?_ ?_ <;> simp [rowsOf]
      rintro _ _
      ((try simp -implicitDefEqProofs [-loopQ_n]) <;> (repeat' (first | (refine condD_dec ?_ ?_ <;> (intro hc; (try simp -implicitDefEqProofs [-loopQ_n, hc]))) | (refine guardD_dec ?_ ?_ <;> (intro hc; (try simp -implicitDefEqProofs [-loopQ_n, hc]))) | (refine condD_intro ?_ ?_ <;> (intro hd; have hc := hd; (try simp at hc) <;> (try simp -implicitDefEqProofs [-loopQ_n, hd, hc]))) | (refine guardD_intro ?_ ?_ <;> (intro hd; have hc := hd; (try simp at hc) <;> (try simp -implicitDefEqProofs [-loopQ_n, hd, hc]))) | (refine ldD_ep ?_ ?_; (focus kernel_rfl); (try simp -implicitDefEqProofs [-loopQ_n])))))
      refine loop_intro (σ := Unit) (fun _ => ⟨[(10, .rs []), (133, .rs []), (134, .int .i64 0), (135, .int .i64 0)], []⟩) (fun _ => True) (fun _ => 0) () trivial ?_ ?_
      · refine weak_of 0 0 rfl rfl ?_ ?_ <;> simp [rowsOf]
      rintro _ _
      ((try simp -implicitDefEqProofs [-loopQ_n]) <;> (repeat' (first | (refine condD_dec ?_ ?_ <;> (intro hc; (try simp -implicitDefEqProofs [-loopQ_n, hc]))) | (refine guardD_dec ?_ ?_ <;> (intro hc; (try simp -implicitDefEqProofs [-loopQ_n, hc]))) | (refine condD_intro ?_ ?_ <;> (intro hd; have hc := hd; (try simp at hc) <;> (try simp -implicitDefEqProofs [-loopQ_n, hd, hc]))) | (refine guardD_intro ?_ ?_ <;> (intro hd; have hc := hd; (try simp at hc) <;> (try simp -implicitDefEqProofs [-loopQ_n, hd, hc]))) | (refine ldD_ep ?_ ?_; (focus kernel_rfl); (try simp -implicitDefEqProofs [-loopQ_n])))))
  · have hcl := cloneS_fresh a h0 (by omega)
    have hlf : ((rowsOf strC a).all fun r => r.all flat) = true := rowsOf_flat fun x => by simp [strC, flat]
    have hl9 : a.length ≤ 1073741823 := by omega
    cases hs : sortedR a with
    | error e =>
      rw [hs, exN] at hn
      have he : ¬ e = 0 := by
        unfold sortedR at hs
        split at hs
        · split at hs
          · cases hs; decide
          · split at hs
            · cases hs; decide
            · cases hs
        · cases hs; decide
      refine fresh_intro hcl (by simp) (.inl hlf) ?_
      ((try simp -implicitDefEqProofs [-loopQ_n, hl9, strC_len, strC_snoc, sw_reify]) <;> (repeat' (first | (refine condD_dec ?_ ?_ <;> (intro hc; (try simp -implicitDefEqProofs [-loopQ_n, hc, hl9, strC_len, strC_snoc, sw_reify]))) | (refine guardD_dec ?_ ?_ <;> (intro hc; (try simp -implicitDefEqProofs [-loopQ_n, hc, hl9, strC_len, strC_snoc, sw_reify]))) | (refine condD_intro ?_ ?_ <;> (intro hd; have hc := hd; (try simp at hc) <;> (try simp -implicitDefEqProofs [-loopQ_n, hd, hc, hl9, strC_len, strC_snoc, sw_reify]))) | (refine guardD_intro ?_ ?_ <;> (intro hd; have hc := hd; (try simp at hc) <;> (try simp -implicitDefEqProofs [-loopQ_n, hd, hc, hl9, strC_len, strC_snoc, sw_reify]))) | (refine ldD_ep ?_ ?_; (focus kernel_rfl); (try simp -implicitDefEqProofs [-loopQ_n, hl9, strC_len, strC_snoc, sw_reify])) | (refine callS_mk ?_; (try simp -implicitDefEqProofs [-loopQ_n, hl9, strC_len, strC_snoc, sw_reify]); (first | refine callS_intro (hcm) (.inl rfl) ?_); (try simp -implicitDefEqProofs [-loopQ_n, hl9, strC_len, strC_snoc, sw_reify])))))
      ((try simp -implicitDefEqProofs [-loopQ_n, he]) <;> (repeat' (first | (refine condD_dec ?_ ?_ <;> (intro hc; (try simp -implicitDefEqProofs [-loopQ_n, hc, he]))) | (refine guardD_dec ?_ ?_ <;> (intro hc; (try simp -implicitDefEqProofs [-loopQ_n, hc, he]))) | (refine condD_intro ?_ ?_ <;> (intro hd; have hc := hd; (try simp at hc) <;> (try simp -implicitDefEqProofs [-loopQ_n, hd, hc, he]))) | (refine guardD_intro ?_ ?_ <;> (intro hd; have hc := hd; (try simp at hc) <;> (try simp -implicitDefEqProofs [-loopQ_n, hd, hc, he]))) | (refine ldD_ep ?_ ?_; (focus kernel_rfl); (try simp -implicitDefEqProofs [-loopQ_n, he])) | (refine callS_mk ?_; (try simp -implicitDefEqProofs [-loopQ_n, he]); (first | refine callS_intro (hn) (.inr ⟨rfl, rfl⟩) ?_); (try simp -implicitDefEqProofs [-loopQ_n, he])))))
    | ok l =>
      obtain ⟨g1, g2, g3⟩ := sorted_again hs
      obtain ⟨q1, q2, q3⟩ := sorted_ok hs
      have hm := nsorted_pure l (by omega)
      rw [hs, exN] at hn
      rw [g1, exN] at hm
      refine fresh_intro hcl (by simp) (.inl hlf) ?_
      ((try simp -implicitDefEqProofs [-loopQ_n, hl9, strC_len, strC_snoc, sw_reify]) <;> (repeat' (first | (refine condD_dec ?_ ?_ <;> (intro hc; (try simp -implicitDefEqProofs [-loopQ_n, hc, hl9, strC_len, strC_snoc, sw_reify]))) | (refine guardD_dec ?_ ?_ <;> (intro hc; (try simp -implicitDefEqProofs [-loopQ_n, hc, hl9, strC_len, strC_snoc, sw_reify]))) | (refine condD_intro ?_ ?_ <;> (intro hd; have hc := hd; (try simp at hc) <;> (try simp -implicitDefEqProofs [-loopQ_n, hd, hc, hl9, strC_len, strC_snoc, sw_reify]))) | (refine guardD_intro ?_ ?_ <;> (intro hd; have hc := hd; (try simp at hc) <;> (try simp -implicitDefEqProofs [-loopQ_n, hd, hc, hl9, strC_len, strC_snoc, sw_reify]))) | (refine ldD_ep ?_ ?_; (focus kernel_rfl); (try simp -implicitDefEqProofs [-loopQ_n, hl9, strC_len, strC_snoc, sw_reify])) | (refine callS_mk ?_; (try simp -implicitDefEqProofs [-loopQ_n, hl9, strC_len, strC_snoc, sw_reify]); (first | refine callS_intro (hcm) (.inl rfl) ?_); (try simp -implicitDefEqProofs [-loopQ_n, hl9, strC_len, strC_snoc, sw_reify])))))
      ((try simp -implicitDefEqProofs [-loopQ_n, g2]) <;> (repeat' (first | (refine condD_dec ?_ ?_ <;> (intro hc; (try simp -implicitDefEqProofs [-loopQ_n, hc, g2]))) | (refine guardD_dec ?_ ?_ <;> (intro hc; (try simp -implicitDefEqProofs [-loopQ_n, hc, g2]))) | (refine condD_intro ?_ ?_ <;> (intro hd; have hc := hd; (try simp at hc) <;> (try simp -implicitDefEqProofs [-loopQ_n, hd, hc, g2]))) | (refine guardD_intro ?_ ?_ <;> (intro hd; have hc := hd; (try simp at hc) <;> (try simp -implicitDefEqProofs [-loopQ_n, hd, hc, g2]))) | (refine ldD_ep ?_ ?_; (focus kernel_rfl); (try simp -implicitDefEqProofs [-loopQ_n, g2])) | (refine callS_mk ?_; (try simp -implicitDefEqProofs [-loopQ_n, g2]); (first | refine callS_intro (hn) (.inr ⟨rfl, rfl⟩) ?_ | refine callS_intro (hm) (.inr ⟨rfl, rfl⟩) ?_ | refine callS_intro (eqS_pure l l (by omega) (by omega)) (.inl rfl) ?_ | refine callS_intro (alph_pure l) (.inl rfl) ?_); (try simp -implicitDefEqProofs [-loopQ_n, g2])))))
      refine loop_intro (σ := Nat) (fun j => ⟨[(0, .rs (rowsOf strC a)), (10, .rs (rowsOf strC l)), (14, .int .i64 ((j : Int) + 1))], []⟩) (fun j => j ≤ l.length) (fun j => l.length - j) 0 (by omega) ?_ ?_
      · refine weak_of 0 0 rfl rfl ?_ ?_ <;> simp
      rintro j hj
      by_cases h : j + 1 < l.length
      · have h' : (j : Int) + 1 < l.length := by omega
        have k0 : j < l.length := by omega
        have w3 : wrapI .i64 ((j : Int) + 1 - 1) = (j : Int) := by rw [wrap_in (by omega) (by omega)]; omega
        have w4 : wrapI .i64 (j : Int) = (j : Int) := wrap_in (by omega) (by omega)
        have w5 : wrapI .i64 ((j : Int) + 1 + 1) = (j : Int) + 1 + 1 := wrap_in (by omega) (by omega)
        have d1 : (0 : Int) ≤ (j : Int) + 1 := by omega
        have d2 : (j : Int) + 1 ≤ l.length := by omega
        have d3 : (j : Int) + 1 + 1 ≤ l.length := by omega
        have d4 : (j : Int) ≤ (j : Int) + 1 := by omega
        have d5 : (j : Int) + 1 ≤ (j : Int) + 1 + 1 := by omega
        have e1 := sl_one k0 1 rfl
        have e2 := sl_one h 1 rfl
        have hcc := ncompare_pure [l[j]] [l[j + 1]] (by simp) (by simp)
        rw [g3 j h] at hcc
        have tn : ((j : Int) + 1 + 1).toNat - (j + 1) = 1 := by omega
        ((try simp -implicitDefEqProofs [-loopQ_n, h, h', k0, w3, w4, w5, d1, d2, d3, d4, d5, e1, e2, tn]) <;> (repeat' (first | (refine condD_dec ?_ ?_ <;> (intro hc; (try simp -implicitDefEqProofs [-loopQ_n, hc, h, h', k0, w3, w4, w5, d1, d2, d3, d4, d5, e1, e2, tn]))) | (refine guardD_dec ?_ ?_ <;> (intro hc; (try simp -implicitDefEqProofs [-loopQ_n, hc, h, h', k0, w3, w4, w5, d1, d2, d3, d4, d5, e1, e2, tn]))) | (refine condD_intro ?_ ?_ <;> (intro hd; have hc := hd; (try simp at hc) <;> (try simp -implicitDefEqProofs [-loopQ_n, hd, hc, h, h', k0, w3, w4, w5, d1, d2, d3, d4, d5, e1, e2, tn]))) | (refine guardD_intro ?_ ?_ <;> (intro hd; have hc := hd; (try simp at hc) <;> (try simp -implicitDefEqProofs [-loopQ_n, hd, hc, h, h', k0, w3, w4, w5, d1, d2, d3, d4, d5, e1, e2, tn]))) | (refine ldD_ep ?_ ?_; (focus kernel_rfl); (try simp -implicitDefEqProofs [-loopQ_n, h, h', k0, w3, w4, w5, d1, d2, d3, d4, d5, e1, e2, tn])) | (refine callS_mk ?_; (try simp -implicitDefEqProofs [-loopQ_n, h, h', k0, w3, w4, w5, d1, d2, d3, d4, d5, e1, e2, tn]); (first | refine callS_intro (hcc) (.inl rfl) ?_); (try simp -implicitDefEqProofs [-loopQ_n, h, h', k0, w3, w4, w5, d1, d2, d3, d4, d5, e1, e2, tn])))))
        refine loop_next (j + 1) (by omega) (by omega) (weak_of 0 0 rfl rfl ?_ ?_) <;> simp
      · have h' : ¬ (j : Int) + 1 < l.length := by omega
        clear h hj
        ((try simp -implicitDefEqProofs [-loopQ_n, h']) <;> (repeat' (first | (refine condD_dec ?_ ?_ <;> (intro hc; (try simp -implicitDefEqProofs [-loopQ_n, hc, h']))) | (refine guardD_dec ?_ ?_ <;> (intro hc; (try simp -implicitDefEqProofs [-loopQ_n, hc, h']))) | (refine condD_intro ?_ ?_ <;> (intro hd; have hc := hd; (try simp at hc) <;> (try simp -implicitDefEqProofs [-loopQ_n, hd, hc, h']))) | (refine guardD_intro ?_ ?_ <;> (intro hd; have hc := hd; (try simp at hc) <;> (try simp -implicitDefEqProofs [-loopQ_n, hd, hc, h']))) | (refine ldD_ep ?_ ?_; (focus kernel_rfl); (try simp -implicitDefEqProofs [-loopQ_n, h'])))))
        refine loop_intro (σ := Nat) (fun i => ⟨[(10, .rs (rowsOf strC l)), (133, .rs (rowsOf strC a)), (134, .int .i64 a.length), (135, .int .i64 i)], []⟩) (fun i => i ≤ a.length) (fun i => a.length - i) 0 (by omega) ?_ ?_
        · refine weak_of 0 0 rfl rfl ?_ ?_ <;> simp
        rintro i hi
        by_cases h : i < a.length
        · have w1 := sw_suc h (by omega)
          obtain ⟨k, hk, hkl, hke⟩ := idxS_in (l := l) (x := a[i]) (by rw [q1, setB_mem]; exact List.getElem_mem h)
          have hI := nindex_pure l a[i] (by omega)
          rw [hk] at hI
          have k1 : ¬ (k : Int) < 0 := by omega
          have k2 : ¬ (l.length : Int) ≤ k := by omega
          have k3 : ¬ l.length ≤ k := by omega
          have k4 : l[k].toList = a[i].toList := by rw [hke]
          ((try simp -implicitDefEqProofs [-loopQ_n, h, w1, hkl, k1, k2, k3, k4, strC]) <;> (repeat' (first | (refine condD_dec ?_ ?_ <;> (intro hc; (try simp -implicitDefEqProofs [-loopQ_n, hc, h, w1, hkl, k1, k2, k3, k4, strC]))) | (refine guardD_dec ?_ ?_ <;> (intro hc; (try simp -implicitDefEqProofs [-loopQ_n, hc, h, w1, hkl, k1, k2, k3, k4, strC]))) | (refine condD_intro ?_ ?_ <;> (intro hd; have hc := hd; (try simp at hc) <;> (try simp -implicitDefEqProofs [-loopQ_n, hd, hc, h, w1, hkl, k1, k2, k3, k4, strC]))) | (refine guardD_intro ?_ ?_ <;> (intro hd; have hc := hd; (try simp at hc) <;> (try simp -implicitDefEqProofs [-loopQ_n, hd, hc, h, w1, hkl, k1, k2, k3, k4, strC]))) | (refine ldD_ep ?_ ?_; (focus kernel_rfl); (try simp -implicitDefEqProofs [-loopQ_n, h, w1, hkl, k1, k2, k3, k4, strC])) | (refine callS_mk ?_; (try simp -implicitDefEqProofs [-loopQ_n, h, w1, hkl, k1, k2, k3, k4, strC]); (first | refine callS_intro (hI) (.inl rfl) ?_); (try simp -implicitDefEqProofs [-loopQ_n, h, w1, hkl, k1, k2, k3, k4, strC])))))
          refine loop_next (i + 1) h (by omega) (weak_of 0 0 rfl rfl ?_ ?_) <;> simp
        · ((try simp -implicitDefEqProofs [-loopQ_n, h]) <;> (repeat' (first | (refine condD_dec ?_ ?_ <;> (intro hc; (try simp -implicitDefEqProofs [-loopQ_n, hc, h]))) | (refine guardD_dec ?_ ?_ <;> (intro hc; (try simp -implicitDefEqProofs [-loopQ_n, hc, h]))) | (refine condD_intro ?_ ?_ <;> (intro hd; have hc := hd; (try simp at hc) <;> (try simp -implicitDefEqProofs [-loopQ_n, hd, hc, h]))) | (refine guardD_intro ?_ ?_ <;> (intro hd; have hc := hd; (try simp at hc) <;> (try simp -implicitDefEqProofs [-loopQ_n, hd, hc, h]))) | (refine ldD_ep ?_ ?_; (focus kernel_rfl); (try simp -implicitDefEqProofs [-loopQ_n, h])))))
set_option maxHeartbeats 16000000 in
theorem c2 (a b c : List ByteArray) (ha : a.length ≤ 9223372036854775807) (hb : b.length ≤ 9223372036854775807) (hlc : c.length ≤ 9223372036854775807) (hSa : shortL a = true) (hSb : shortL b = true) (hSc : shortL c = true) (p1 : (cmpL a b ≤ 0) = True) (p2 : (cmpL b c ≤ 0) = False) (p4 : (cmpL a b < 0) = False) :
    Pure Try.prog 9 [.rs (rowsOf strC a), .rs (rowsOf strC b), .rs (rowsOf strC c)] (.bool true) := by
  have hla := short_len hSa
  have hn := nsorted_pure a (by omega)
  have hanti := cmpL_anti a b
  have hv := cmpL_vals a b
  have hw : wrapI .i64 (-cmpL b a) = cmpL a b := by rw [wrap_in (by omega) (by omega)]; omega
  have hz : (cmpL a b = 0) = (a = b) := propext cmpL_iff
  have hcm := ncompare_pure a (a ++ [⟨#[120]⟩]) ha (by simp; omega)
  rw [cmpL_more] at hcm
  clear hanti hv
  refine pure_of mixed Try.func9 rfl (by kernel_rfl) (of_decide_eq_true rfl) (by kernel_rfl) (vc_run ?_)
  ((try simp -implicitDefEqProofs [-loopQ_n, hSa, hSb, hSc, hw, hz, p1, p2, p4]) <;> (repeat' (first | (refine condD_dec ?_ ?_ <;> (intro hc; (try simp -implicitDefEqProofs [-loopQ_n, hc, hSa, hSb, hSc, hw, hz, p1, p2, p4]))) | (refine guardD_dec ?_ ?_ <;> (intro hc; (try simp -implicitDefEqProofs [-loopQ_n, hc, hSa, hSb, hSc, hw, hz, p1, p2, p4]))) | (refine condD_intro ?_ ?_ <;> (intro hd; have hc := hd; (try simp at hc) <;> (try simp -implicitDefEqProofs [-loopQ_n, hd, hc, hSa, hSb, hSc, hw, hz, p1, p2, p4]))) | (refine guardD_intro ?_ ?_ <;> (intro hd; have hc := hd; (try simp at hc) <;> (try simp -implicitDefEqProofs [-loopQ_n, hd, hc, hSa, hSb, hSc, hw, hz, p1, p2, p4]))) | (refine ldD_ep ?_ ?_; (focus kernel_rfl); (try simp -implicitDefEqProofs [-loopQ_n, hSa, hSb, hSc, hw, hz, p1, p2, p4])) | (refine callS_mk ?_; (try simp -implicitDefEqProofs [-loopQ_n, hSa, hSb, hSc, hw, hz, p1, p2, p4]); (first | refine callS_intro (awake_pure) (.inl rfl) ?_ | refine callS_intro (short_pure a ha) (.inl rfl) ?_ | refine callS_intro (short_pure b hb) (.inl rfl) ?_ | refine callS_intro (short_pure c hlc) (.inl rfl) ?_ | refine callS_intro (ncompare_pure a b ha hb) (.inl rfl) ?_ | refine callS_intro (ncompare_pure b c hb hlc) (.inl rfl) ?_ | refine callS_intro (ncompare_pure a c ha hlc) (.inl rfl) ?_ | refine callS_intro (ncompare_pure b a hb ha) (.inl rfl) ?_ | refine callS_intro (eqS_pure a b ha hb) (.inl rfl) ?_); (try simp -implicitDefEqProofs [-loopQ_n, hSa, hSb, hSc, hw, hz, p1, p2, p4])))))
  by_cases h0 : a = []
  · subst h0
    cases hs : sortedR [] with
    | error e =>
      rw [hs, exN] at hn
      have he : ¬ e = 0 := by
        unfold sortedR at hs
        split at hs
        · split at hs
          · cases hs; decide
          · split at hs
            · cases hs; decide
            · cases hs
        · cases hs; decide
      ((try simp -implicitDefEqProofs [-loopQ_n, rowsOf]) <;> (repeat' (first | (refine condD_dec ?_ ?_ <;> (intro hc; (try simp -implicitDefEqProofs [-loopQ_n, hc, rowsOf]))) | (refine guardD_dec ?_ ?_ <;> (intro hc; (try simp -implicitDefEqProofs [-loopQ_n, hc, rowsOf]))) | (refine condD_intro ?_ ?_ <;> (intro hd; have hc := hd; (try simp at hc) <;> (try simp -implicitDefEqProofs [-loopQ_n, hd, hc, rowsOf]))) | (refine guardD_intro ?_ ?_ <;> (intro hd; have hc := hd; (try simp at hc) <;> (try simp -implicitDefEqProofs [-loopQ_n, hd, hc, rowsOf]))) | (refine ldD_ep ?_ ?_; (focus kernel_rfl); (try simp -implicitDefEqProofs [-loopQ_n, rowsOf])))))
      refine callG_intro (cloneS0_G fun nb => ?_)
      ((try simp -implicitDefEqProofs [-loopQ_n, rowsOf]) <;> (repeat' (first | (refine condD_dec ?_ ?_ <;> (intro hc; (try simp -implicitDefEqProofs [-loopQ_n, hc, rowsOf]))) | (refine guardD_dec ?_ ?_ <;> (intro hc; (try simp -implicitDefEqProofs [-loopQ_n, hc, rowsOf]))) | (refine condD_intro ?_ ?_ <;> (intro hd; have hc := hd; (try simp at hc) <;> (try simp -implicitDefEqProofs [-loopQ_n, hd, hc, rowsOf]))) | (refine guardD_intro ?_ ?_ <;> (intro hd; have hc := hd; (try simp at hc) <;> (try simp -implicitDefEqProofs [-loopQ_n, hd, hc, rowsOf]))) | (refine ldD_ep ?_ ?_; (focus kernel_rfl); (try simp -implicitDefEqProofs [-loopQ_n, rowsOf])) | (refine callS_mk ?_; (try simp -implicitDefEqProofs [-loopQ_n, rowsOf]); (first | refine callS_intro (hcm) (.inl rfl) ?_); (try simp -implicitDefEqProofs [-loopQ_n, rowsOf])))))
      ((try simp -implicitDefEqProofs [-loopQ_n, he, rowsOf]) <;> (repeat' (first | (refine condD_dec ?_ ?_ <;> (intro hc; (try simp -implicitDefEqProofs [-loopQ_n, hc, he, rowsOf]))) | (refine guardD_dec ?_ ?_ <;> (intro hc; (try simp -implicitDefEqProofs [-loopQ_n, hc, he, rowsOf]))) | (refine condD_intro ?_ ?_ <;> (intro hd; have hc := hd; (try simp at hc) <;> (try simp -implicitDefEqProofs [-loopQ_n, hd, hc, he, rowsOf]))) | (refine guardD_intro ?_ ?_ <;> (intro hd; have hc := hd; (try simp at hc) <;> (try simp -implicitDefEqProofs [-loopQ_n, hd, hc, he, rowsOf]))) | (refine ldD_ep ?_ ?_; (focus kernel_rfl); (try simp -implicitDefEqProofs [-loopQ_n, he, rowsOf])) | (refine callS_mk ?_; (try simp -implicitDefEqProofs [-loopQ_n, he, rowsOf]); (first | refine callS_intro (hn) (.inr ⟨rfl, rfl⟩) ?_); (try simp -implicitDefEqProofs [-loopQ_n, he, rowsOf])))))
    | ok l =>
      obtain ⟨g1, g2, g3⟩ := sorted_again hs
      obtain ⟨q1, q2, q3⟩ := sorted_ok hs
      have hm := nsorted_pure l (by omega)
      rw [hs, exN] at hn
      rw [g1, exN] at hm
      ((try simp -implicitDefEqProofs [-loopQ_n, rowsOf]) <;> (repeat' (first | (refine condD_dec ?_ ?_ <;> (intro hc; (try simp -implicitDefEqProofs [-loopQ_n, hc, rowsOf]))) | (refine guardD_dec ?_ ?_ <;> (intro hc; (try simp -implicitDefEqProofs [-loopQ_n, hc, rowsOf]))) | (refine condD_intro ?_ ?_ <;> (intro hd; have hc := hd; (try simp at hc) <;> (try simp -implicitDefEqProofs [-loopQ_n, hd, hc, rowsOf]))) | (refine guardD_intro ?_ ?_ <;> (intro hd; have hc := hd; (try simp at hc) <;> (try simp -implicitDefEqProofs [-loopQ_n, hd, hc, rowsOf]))) | (refine ldD_ep ?_ ?_; (focus kernel_rfl); (try simp -implicitDefEqProofs [-loopQ_n, rowsOf])))))
      refine callG_intro (cloneS0_G fun nb => ?_)
      ((try simp -implicitDefEqProofs [-loopQ_n, rowsOf]) <;> (repeat' (first | (refine condD_dec ?_ ?_ <;> (intro hc; (try simp -implicitDefEqProofs [-loopQ_n, hc, rowsOf]))) | (refine guardD_dec ?_ ?_ <;> (intro hc; (try simp -implicitDefEqProofs [-loopQ_n, hc, rowsOf]))) | (refine condD_intro ?_ ?_ <;> (intro hd; have hc := hd; (try simp at hc) <;> (try simp -implicitDefEqProofs [-loopQ_n, hd, hc, rowsOf]))) | (refine guardD_intro ?_ ?_ <;> (intro hd; have hc := hd; (try simp at hc) <;> (try simp -implicitDefEqProofs [-loopQ_n, hd, hc, rowsOf]))) | (refine ldD_ep ?_ ?_; (focus kernel_rfl); (try simp -implicitDefEqProofs [-loopQ_n, rowsOf])) | (refine callS_mk ?_; (try simp -implicitDefEqProofs [-loopQ_n, rowsOf]); (first | refine callS_intro (hcm) (.inl rfl) ?_); (try simp -implicitDefEqProofs [-loopQ_n, rowsOf])))))
      ((try simp -implicitDefEqProofs [-loopQ_n, g2, rowsOf]) <;> (repeat' (first | (refine condD_dec ?_ ?_ <;> (intro hc; (try simp -implicitDefEqProofs [-loopQ_n, hc, g2, rowsOf]))) | (refine guardD_dec ?_ ?_ <;> (intro hc; (try simp -implicitDefEqProofs [-loopQ_n, hc, g2, rowsOf]))) | (refine condD_intro ?_ ?_ <;> (intro hd; have hc := hd; (try simp at hc) <;> (try simp -implicitDefEqProofs [-loopQ_n, hd, hc, g2, rowsOf]))) | (refine guardD_intro ?_ ?_ <;> (intro hd; have hc := hd; (try simp at hc) <;> (try simp -implicitDefEqProofs [-loopQ_n, hd, hc, g2, rowsOf]))) | (refine ldD_ep ?_ ?_; (focus kernel_rfl); (try simp -implicitDefEqProofs [-loopQ_n, g2, rowsOf])) | (refine callS_mk ?_; (try simp -implicitDefEqProofs [-loopQ_n, g2, rowsOf]); (first | refine callS_intro (hn) (.inr ⟨rfl, rfl⟩) ?_ | refine callS_intro (hm) (.inr ⟨rfl, rfl⟩) ?_ | refine callS_intro (eqS_pure l l (by omega) (by omega)) (.inl rfl) ?_ | refine callS_intro (alph_pure l) (.inl rfl) ?_); (try simp -implicitDefEqProofs [-loopQ_n, g2, rowsOf])))))
      have hl0 : l = [] := q1
      subst hl0
      refine loop_intro (σ := Unit) (fun _ => ⟨[(0, .rs []), (10, .rs []), (14, .int .i64 1)], []⟩) (fun _ => True) (fun _ => 0) () trivial ?_ ?_
      · refine weak_of 0 0 rfl rfl ?_ ?_ <;> simp [rowsOf]
      rintro _ _
      ((try simp -implicitDefEqProofs [-loopQ_n]) <;> (repeat' (first | (refine condD_dec ?_ ?_ <;> (intro hc; (try simp -implicitDefEqProofs [-loopQ_n, hc]))) | (refine guardD_dec ?_ ?_ <;> (intro hc; (try simp -implicitDefEqProofs [-loopQ_n, hc]))) | (refine condD_intro ?_ ?_ <;> (intro hd; have hc := hd; (try simp at hc) <;> (try simp -implicitDefEqProofs [-loopQ_n, hd, hc]))) | (refine guardD_intro ?_ ?_ <;> (intro hd; have hc := hd; (try simp at hc) <;> (try simp -implicitDefEqProofs [-loopQ_n, hd, hc]))) | (refine ldD_ep ?_ ?_; (focus kernel_rfl); (try simp -implicitDefEqProofs [-loopQ_n])))))
      refine loop_intro (σ := Unit) (fun _ => ⟨[(10, .rs []), (133, .rs []), (134, .int .i64 0), (135, .int .i64 0)], []⟩) (fun _ => True) (fun _ => 0) () trivial ?_ ?_
      · refine weak_of 0 0 rfl rfl ?_ ?_ <;> simp [rowsOf]
      rintro _ _
      ((try simp -implicitDefEqProofs [-loopQ_n]) <;> (repeat' (first | (refine condD_dec ?_ ?_ <;> (intro hc; (try simp -implicitDefEqProofs [-loopQ_n, hc]))) | (refine guardD_dec ?_ ?_ <;> (intro hc; (try simp -implicitDefEqProofs [-loopQ_n, hc]))) | (refine condD_intro ?_ ?_ <;> (intro hd; have hc := hd; (try simp at hc) <;> (try simp -implicitDefEqProofs [-loopQ_n, hd, hc]))) | (refine guardD_intro ?_ ?_ <;> (intro hd; have hc := hd; (try simp at hc) <;> (try simp -implicitDefEqProofs [-loopQ_n, hd, hc]))) | (refine ldD_ep ?_ ?_; (focus kernel_rfl); (try simp -implicitDefEqProofs [-loopQ_n])))))
  · have hcl := cloneS_fresh a h0 (by omega)
    have hlf : ((rowsOf strC a).all fun r => r.all flat) = true := rowsOf_flat fun x => by simp [strC, flat]
    have hl9 : a.length ≤ 1073741823 := by omega
    cases hs : sortedR a with
    | error e =>
      rw [hs, exN] at hn
      have he : ¬ e = 0 := by
        unfold sortedR at hs
        split at hs
        · split at hs
          · cases hs; decide
          · split at hs
            · cases hs; decide
            · cases hs
        · cases hs; decide
      refine fresh_intro hcl (by simp) (.inl hlf) ?_
      ((try simp -implicitDefEqProofs [-loopQ_n, hl9, strC_len, strC_snoc, sw_reify]) <;> (repeat' (first | (refine condD_dec ?_ ?_ <;> (intro hc; (try simp -implicitDefEqProofs [-loopQ_n, hc, hl9, strC_len, strC_snoc, sw_reify]))) | (refine guardD_dec ?_ ?_ <;> (intro hc; (try simp -implicitDefEqProofs [-loopQ_n, hc, hl9, strC_len, strC_snoc, sw_reify]))) | (refine condD_intro ?_ ?_ <;> (intro hd; have hc := hd; (try simp at hc) <;> (try simp -implicitDefEqProofs [-loopQ_n, hd, hc, hl9, strC_len, strC_snoc, sw_reify]))) | (refine guardD_intro ?_ ?_ <;> (intro hd; have hc := hd; (try simp at hc) <;> (try simp -implicitDefEqProofs [-loopQ_n, hd, hc, hl9, strC_len, strC_snoc, sw_reify]))) | (refine ldD_ep ?_ ?_; (focus kernel_rfl); (try simp -implicitDefEqProofs [-loopQ_n, hl9, strC_len, strC_snoc, sw_reify])) | (refine callS_mk ?_; (try simp -implicitDefEqProofs [-loopQ_n, hl9, strC_len, strC_snoc, sw_reify]); (first | refine callS_intro (hcm) (.inl rfl) ?_); (try simp -implicitDefEqProofs [-loopQ_n, hl9, strC_len, strC_snoc, sw_reify])))))
      ((try simp -implicitDefEqProofs [-loopQ_n, he]) <;> (repeat' (first | (refine condD_dec ?_ ?_ <;> (intro hc; (try simp -implicitDefEqProofs [-loopQ_n, hc, he]))) | (refine guardD_dec ?_ ?_ <;> (intro hc; (try simp -implicitDefEqProofs [-loopQ_n, hc, he]))) | (refine condD_intro ?_ ?_ <;> (intro hd; have hc := hd; (try simp at hc) <;> (try simp -implicitDefEqProofs [-loopQ_n, hd, hc, he]))) | (refine guardD_intro ?_ ?_ <;> (intro hd; have hc := hd; (try simp at hc) <;> (try simp -implicitDefEqProofs [-loopQ_n, hd, hc, he]))) | (refine ldD_ep ?_ ?_; (focus kernel_rfl); (try simp -implicitDefEqProofs [-loopQ_n, he])) | (refine callS_mk ?_; (try simp -implicitDefEqProofs [-loopQ_n, he]); (first | refine callS_intro (hn) (.inr ⟨rfl, rfl⟩) ?_); (try simp -implicitDefEqProofs [-loopQ_n, he])))))
    | ok l =>
      obtain ⟨g1, g2, g3⟩ := sorted_again hs
      obtain ⟨q1, q2, q3⟩ := sorted_ok hs
      have hm := nsorted_pure l (by omega)
      rw [hs, exN] at hn
      rw [g1, exN] at hm
      refine fresh_intro hcl (by simp) (.inl hlf) ?_
      ((try simp -implicitDefEqProofs [-loopQ_n, hl9, strC_len, strC_snoc, sw_reify]) <;> (repeat' (first | (refine condD_dec ?_ ?_ <;> (intro hc; (try simp -implicitDefEqProofs [-loopQ_n, hc, hl9, strC_len, strC_snoc, sw_reify]))) | (refine guardD_dec ?_ ?_ <;> (intro hc; (try simp -implicitDefEqProofs [-loopQ_n, hc, hl9, strC_len, strC_snoc, sw_reify]))) | (refine condD_intro ?_ ?_ <;> (intro hd; have hc := hd; (try simp at hc) <;> (try simp -implicitDefEqProofs [-loopQ_n, hd, hc, hl9, strC_len, strC_snoc, sw_reify]))) | (refine guardD_intro ?_ ?_ <;> (intro hd; have hc := hd; (try simp at hc) <;> (try simp -implicitDefEqProofs [-loopQ_n, hd, hc, hl9, strC_len, strC_snoc, sw_reify]))) | (refine ldD_ep ?_ ?_; (focus kernel_rfl); (try simp -implicitDefEqProofs [-loopQ_n, hl9, strC_len, strC_snoc, sw_reify])) | (refine callS_mk ?_; (try simp -implicitDefEqProofs [-loopQ_n, hl9, strC_len, strC_snoc, sw_reify]); (first | refine callS_intro (hcm) (.inl rfl) ?_); (try simp -implicitDefEqProofs [-loopQ_n, hl9, strC_len, strC_snoc, sw_reify])))))
      ((try simp -implicitDefEqProofs [-loopQ_n, g2]) <;> (repeat' (first | (refine condD_dec ?_ ?_ <;> (intro hc; (try simp -implicitDefEqProofs [-loopQ_n, hc, g2]))) | (refine guardD_dec ?_ ?_ <;> (intro hc; (try simp -implicitDefEqProofs [-loopQ_n, hc, g2]))) | (refine condD_intro ?_ ?_ <;> (intro hd; have hc := hd; (try simp at hc) <;> (try simp -implicitDefEqProofs [-loopQ_n, hd, hc, g2]))) | (refine guardD_intro ?_ ?_ <;> (intro hd; have hc := hd; (try simp at hc) <;> (try simp -implicitDefEqProofs [-loopQ_n, hd, hc, g2]))) | (refine ldD_ep ?_ ?_; (focus kernel_rfl); (try simp -implicitDefEqProofs [-loopQ_n, g2])) | (refine callS_mk ?_; (try simp -implicitDefEqProofs [-loopQ_n, g2]); (first | refine callS_intro (hn) (.inr ⟨rfl, rfl⟩) ?_ | refine callS_intro (hm) (.inr ⟨rfl, rfl⟩) ?_ | refine callS_intro (eqS_pure l l (by omega) (by omega)) (.inl rfl) ?_ | refine callS_intro (alph_pure l) (.inl rfl) ?_); (try simp -implicitDefEqProofs [-loopQ_n, g2])))))
      refine loop_intro (σ := Nat) (fun j => ⟨[(0, .rs (rowsOf strC a)), (10, .rs (rowsOf strC l)), (14, .int .i64 ((j : Int) + 1))], []⟩) (fun j => j ≤ l.length) (fun j => l.length - j) 0 (by omega) ?_ ?_
      · refine weak_of 0 0 rfl rfl ?_ ?_ <;> simp
      rintro j hj
      by_cases h : j + 1 < l.length
      · have h' : (j : Int) + 1 < l.length := by omega
        have k0 : j < l.length := by omega
        have w3 : wrapI .i64 ((j : Int) + 1 - 1) = (j : Int) := by rw [wrap_in (by omega) (by omega)]; omega
        have w4 : wrapI .i64 (j : Int) = (j : Int) := wrap_in (by omega) (by omega)
        have w5 : wrapI .i64 ((j : Int) + 1 + 1) = (j : Int) + 1 + 1 := wrap_in (by omega) (by omega)
        have d1 : (0 : Int) ≤ (j : Int) + 1 := by omega
        have d2 : (j : Int) + 1 ≤ l.length := by omega
        have d3 : (j : Int) + 1 + 1 ≤ l.length := by omega
        have d4 : (j : Int) ≤ (j : Int) + 1 := by omega
        have d5 : (j : Int) + 1 ≤ (j : Int) + 1 + 1 := by omega
        have e1 := sl_one k0 1 rfl
        have e2 := sl_one h 1 rfl
        have hcc := ncompare_pure [l[j]] [l[j + 1]] (by simp) (by simp)
        rw [g3 j h] at hcc
        have tn : ((j : Int) + 1 + 1).toNat - (j + 1) = 1 := by omega
        ((try simp -implicitDefEqProofs [-loopQ_n, h, h', k0, w3, w4, w5, d1, d2, d3, d4, d5, e1, e2, tn]) <;> (repeat' (first | (refine condD_dec ?_ ?_ <;> (intro hc; (try simp -implicitDefEqProofs [-loopQ_n, hc, h, h', k0, w3, w4, w5, d1, d2, d3, d4, d5, e1, e2, tn]))) | (refine guardD_dec ?_ ?_ <;> (intro hc; (try simp -implicitDefEqProofs [-loopQ_n, hc, h, h', k0, w3, w4, w5, d1, d2, d3, d4, d5, e1, e2, tn]))) | (refine condD_intro ?_ ?_ <;> (intro hd; have hc := hd; (try simp at hc) <;> (try simp -implicitDefEqProofs [-loopQ_n, hd, hc, h, h', k0, w3, w4, w5, d1, d2, d3, d4, d5, e1, e2, tn]))) | (refine guardD_intro ?_ ?_ <;> (intro hd; have hc := hd; (try simp at hc) <;> (try simp -implicitDefEqProofs [-loopQ_n, hd, hc, h, h', k0, w3, w4, w5, d1, d2, d3, d4, d5, e1, e2, tn]))) | (refine ldD_ep ?_ ?_; (focus kernel_rfl); (try simp -implicitDefEqProofs [-loopQ_n, h, h', k0, w3, w4, w5, d1, d2, d3, d4, d5, e1, e2, tn])) | (refine callS_mk ?_; (try simp -implicitDefEqProofs [-loopQ_n, h, h', k0, w3, w4, w5, d1, d2, d3, d4, d5, e1, e2, tn]); (first | refine callS_intro (hcc) (.inl rfl) ?_); (try simp -implicitDefEqProofs [-loopQ_n, h, h', k0, w3, w4, w5, d1, d2, d3, d4, d5, e1, e2, tn])))))
        refine loop_next (j + 1) (by omega) (by omega) (weak_of 0 0 rfl rfl ?_ ?_) <;> simp
      · have h' : ¬ (j : Int) + 1 < l.length := by omega
        clear h hj
        ((try simp -implicitDefEqProofs [-loopQ_n, h']) <;> (repeat' (first | (refine condD_dec ?_ ?_ <;> (intro hc; (try simp -implicitDefEqProofs [-loopQ_n, hc, h']))) | (refine guardD_dec ?_ ?_ <;> (intro hc; (try simp -implicitDefEqProofs [-loopQ_n, hc, h']))) | (refine condD_intro ?_ ?_ <;> (intro hd; have hc := hd; (try simp at hc) <;> (try simp -implicitDefEqProofs [-loopQ_n, hd, hc, h']))) | (refine guardD_intro ?_ ?_ <;> (intro hd; have hc := hd; (try simp at hc) <;> (try simp -implicitDefEqProofs [-loopQ_n, hd, hc, h']))) | (refine ldD_ep ?_ ?_; (focus kernel_rfl); (try simp -implicitDefEqProofs [-loopQ_n, h'])))))
        refine loop_intro (σ := Nat) (fun i => ⟨[(10, .rs (rowsOf strC l)), (133, .rs (rowsOf strC a)), (134, .int .i64 a.length), (135, .int .i64 i)], []⟩) (fun i => i ≤ a.length) (fun i => a.length - i) 0 (by omega) ?_ ?_
        · refine weak_of 0 0 rfl rfl ?_ ?_ <;> simp
        rintro i hi
        by_cases h : i < a.length
        · have w1 := sw_suc h (by omega)
          obtain ⟨k, hk, hkl, hke⟩ := idxS_in (l := l) (x := a[i]) (by rw [q1, setB_mem]; exact List.getElem_mem h)
          have hI := nindex_pure l a[i] (by omega)
          rw [hk] at hI
          have k1 : ¬ (k : Int) < 0 := by omega
          have k2 : ¬ (l.length : Int) ≤ k := by omega
          have k3 : ¬ l.length ≤ k := by omega
          have k4 : l[k].toList = a[i].toList := by rw [hke]
          ((try simp -implicitDefEqProofs [-loopQ_n, h, w1, hkl, k1, k2, k3, k4, strC]) <;> (repeat' (first | (refine condD_dec ?_ ?_ <;> (intro hc; (try simp -implicitDefEqProofs [-loopQ_n, hc, h, w1, hkl, k1, k2, k3, k4, strC]))) | (refine guardD_dec ?_ ?_ <;> (intro hc; (try simp -implicitDefEqProofs [-loopQ_n, hc, h, w1, hkl, k1, k2, k3, k4, strC]))) | (refine condD_intro ?_ ?_ <;> (intro hd; have hc := hd; (try simp at hc) <;> (try simp -implicitDefEqProofs [-loopQ_n, hd, hc, h, w1, hkl, k1, k2, k3, k4, strC]))) | (refine guardD_intro ?_ ?_ <;> (intro hd; have hc := hd; (try simp at hc) <;> (try simp -implicitDefEqProofs [-loopQ_n, hd, hc, h, w1, hkl, k1, k2, k3, k4, strC]))) | (refine ldD_ep ?_ ?_; (focus kernel_rfl); (try simp -implicitDefEqProofs [-loopQ_n, h, w1, hkl, k1, k2, k3, k4, strC])) | (refine callS_mk ?_; (try simp -implicitDefEqProofs [-loopQ_n, h, w1, hkl, k1, k2, k3, k4, strC]); (first | refine callS_intro (hI) (.inl rfl) ?_); (try simp -implicitDefEqProofs [-loopQ_n, h, w1, hkl, k1, k2, k3, k4, strC])))))
          refine loop_next (i + 1) h (by omega) (weak_of 0 0 rfl rfl ?_ ?_) <;> simp
        · ((try simp -implicitDefEqProofs [-loopQ_n, h]) <;> (repeat' (first | (refine condD_dec ?_ ?_ <;> (intro hc; (try simp -implicitDefEqProofs [-loopQ_n, hc, h]))) | (refine guardD_dec ?_ ?_ <;> (intro hc; (try simp -implicitDefEqProofs [-loopQ_n, hc, h]))) | (refine condD_intro ?_ ?_ <;> (intro hd; have hc := hd; (try simp at hc) <;> (try simp -implicitDefEqProofs [-loopQ_n, hd, hc, h]))) | (refine guardD_intro ?_ ?_ <;> (intro hd; have hc := hd; (try simp at hc) <;> (try simp -implicitDefEqProofs [-loopQ_n, hd, hc, h]))) | (refine ldD_ep ?_ ?_; (focus kernel_rfl); (try simp -implicitDefEqProofs [-loopQ_n, h])))))
set_option maxHeartbeats 16000000 in
theorem c3 (a b c : List ByteArray) (ha : a.length ≤ 9223372036854775807) (hb : b.length ≤ 9223372036854775807) (hlc : c.length ≤ 9223372036854775807) (hSa : shortL a = true) (hSb : shortL b = true) (hSc : shortL c = true) (p1 : (cmpL a b ≤ 0) = True) (p2 : (cmpL b c ≤ 0) = True) (p3 : (0 < cmpL a c) = False) (p4 : (cmpL a b < 0) = False) :
    Pure Try.prog 9 [.rs (rowsOf strC a), .rs (rowsOf strC b), .rs (rowsOf strC c)] (.bool true) := by
  have hla := short_len hSa
  have hn := nsorted_pure a (by omega)
  have hanti := cmpL_anti a b
  have hv := cmpL_vals a b
  have hw : wrapI .i64 (-cmpL b a) = cmpL a b := by rw [wrap_in (by omega) (by omega)]; omega
  have hz : (cmpL a b = 0) = (a = b) := propext cmpL_iff
  have hcm := ncompare_pure a (a ++ [⟨#[120]⟩]) ha (by simp; omega)
  rw [cmpL_more] at hcm
  clear hanti hv
  refine pure_of mixed Try.func9 rfl (by kernel_rfl) (of_decide_eq_true rfl) (by kernel_rfl) (vc_run ?_)
  ((try simp -implicitDefEqProofs [-loopQ_n, hSa, hSb, hSc, hw, hz, p1, p2, p3, p4]) <;> (repeat' (first | (refine condD_dec ?_ ?_ <;> (intro hc; (try simp -implicitDefEqProofs [-loopQ_n, hc, hSa, hSb, hSc, hw, hz, p1, p2, p3, p4]))) | (refine guardD_dec ?_ ?_ <;> (intro hc; (try simp -implicitDefEqProofs [-loopQ_n, hc, hSa, hSb, hSc, hw, hz, p1, p2, p3, p4]))) | (refine condD_intro ?_ ?_ <;> (intro hd; have hc := hd; (try simp at hc) <;> (try simp -implicitDefEqProofs [-loopQ_n, hd, hc, hSa, hSb, hSc, hw, hz, p1, p2, p3, p4]))) | (refine guardD_intro ?_ ?_ <;> (intro hd; have hc := hd; (try simp at hc) <;> (try simp -implicitDefEqProofs [-loopQ_n, hd, hc, hSa, hSb, hSc, hw, hz, p1, p2, p3, p4]))) | (refine ldD_ep ?_ ?_; (focus kernel_rfl); (try simp -implicitDefEqProofs [-loopQ_n, hSa, hSb, hSc, hw, hz, p1, p2, p3, p4])) | (refine callS_mk ?_; (try simp -implicitDefEqProofs [-loopQ_n, hSa, hSb, hSc, hw, hz, p1, p2, p3, p4]); (first | refine callS_intro (awake_pure) (.inl rfl) ?_ | refine callS_intro (short_pure a ha) (.inl rfl) ?_ | refine callS_intro (short_pure b hb) (.inl rfl) ?_ | refine callS_intro (short_pure c hlc) (.inl rfl) ?_ | refine callS_intro (ncompare_pure a b ha hb) (.inl rfl) ?_ | refine callS_intro (ncompare_pure b c hb hlc) (.inl rfl) ?_ | refine callS_intro (ncompare_pure a c ha hlc) (.inl rfl) ?_ | refine callS_intro (ncompare_pure b a hb ha) (.inl rfl) ?_ | refine callS_intro (eqS_pure a b ha hb) (.inl rfl) ?_); (try simp -implicitDefEqProofs [-loopQ_n, hSa, hSb, hSc, hw, hz, p1, p2, p3, p4])))))
  by_cases h0 : a = []
  · subst h0
    cases hs : sortedR [] with
    | error e =>
      rw [hs, exN] at hn
      have he : ¬ e = 0 := by
        unfold sortedR at hs
        split at hs
        · split at hs
          · cases hs; decide
          · split at hs
            · cases hs; decide
            · cases hs
        · cases hs; decide
      ((try simp -implicitDefEqProofs [-loopQ_n, rowsOf]) <;> (repeat' (first | (refine condD_dec ?_ ?_ <;> (intro hc; (try simp -implicitDefEqProofs [-loopQ_n, hc, rowsOf]))) | (refine guardD_dec ?_ ?_ <;> (intro hc; (try simp -implicitDefEqProofs [-loopQ_n, hc, rowsOf]))) | (refine condD_intro ?_ ?_ <;> (intro hd; have hc := hd; (try simp at hc) <;> (try simp -implicitDefEqProofs [-loopQ_n, hd, hc, rowsOf]))) | (refine guardD_intro ?_ ?_ <;> (intro hd; have hc := hd; (try simp at hc) <;> (try simp -implicitDefEqProofs [-loopQ_n, hd, hc, rowsOf]))) | (refine ldD_ep ?_ ?_; (focus kernel_rfl); (try simp -implicitDefEqProofs [-loopQ_n, rowsOf])))))
      refine callG_intro (cloneS0_G fun nb => ?_)
      ((try simp -implicitDefEqProofs [-loopQ_n, rowsOf]) <;> (repeat' (first | (refine condD_dec ?_ ?_ <;> (intro hc; (try simp -implicitDefEqProofs [-loopQ_n, hc, rowsOf]))) | (refine guardD_dec ?_ ?_ <;> (intro hc; (try simp -implicitDefEqProofs [-loopQ_n, hc, rowsOf]))) | (refine condD_intro ?_ ?_ <;> (intro hd; have hc := hd; (try simp at hc) <;> (try simp -implicitDefEqProofs [-loopQ_n, hd, hc, rowsOf]))) | (refine guardD_intro ?_ ?_ <;> (intro hd; have hc := hd; (try simp at hc) <;> (try simp -implicitDefEqProofs [-loopQ_n, hd, hc, rowsOf]))) | (refine ldD_ep ?_ ?_; (focus kernel_rfl); (try simp -implicitDefEqProofs [-loopQ_n, rowsOf])) | (refine callS_mk ?_; (try simp -implicitDefEqProofs [-loopQ_n, rowsOf]); (first | refine callS_intro (hcm) (.inl rfl) ?_); (try simp -implicitDefEqProofs [-loopQ_n, rowsOf])))))
      ((try simp -implicitDefEqProofs [-loopQ_n, he, rowsOf]) <;> (repeat' (first | (refine condD_dec ?_ ?_ <;> (intro hc; (try simp -implicitDefEqProofs [-loopQ_n, hc, he, rowsOf]))) | (refine guardD_dec ?_ ?_ <;> (intro hc; (try simp -implicitDefEqProofs [-loopQ_n, hc, he, rowsOf]))) | (refine condD_intro ?_ ?_ <;> (intro hd; have hc := hd; (try simp at hc) <;> (try simp -implicitDefEqProofs [-loopQ_n, hd, hc, he, rowsOf]))) | (refine guardD_intro ?_ ?_ <;> (intro hd; have hc := hd; (try simp at hc) <;> (try simp -implicitDefEqProofs [-loopQ_n, hd, hc, he, rowsOf]))) | (refine ldD_ep ?_ ?_; (focus kernel_rfl); (try simp -implicitDefEqProofs [-loopQ_n, he, rowsOf])) | (refine callS_mk ?_; (try simp -implicitDefEqProofs [-loopQ_n, he, rowsOf]); (first | refine callS_intro (hn) (.inr ⟨rfl, rfl⟩) ?_); (try simp -implicitDefEqProofs [-loopQ_n, he, rowsOf])))))
    | ok l =>
      obtain ⟨g1, g2, g3⟩ := sorted_again hs
      obtain ⟨q1, q2, q3⟩ := sorted_ok hs
      have hm := nsorted_pure l (by omega)
      rw [hs, exN] at hn
      rw [g1, exN] at hm
      ((try simp -implicitDefEqProofs [-loopQ_n, rowsOf]) <;> (repeat' (first | (refine condD_dec ?_ ?_ <;> (intro hc; (try simp -implicitDefEqProofs [-loopQ_n, hc, rowsOf]))) | (refine guardD_dec ?_ ?_ <;> (intro hc; (try simp -implicitDefEqProofs [-loopQ_n, hc, rowsOf]))) | (refine condD_intro ?_ ?_ <;> (intro hd; have hc := hd; (try simp at hc) <;> (try simp -implicitDefEqProofs [-loopQ_n, hd, hc, rowsOf]))) | (refine guardD_intro ?_ ?_ <;> (intro hd; have hc := hd; (try simp at hc) <;> (try simp -implicitDefEqProofs [-loopQ_n, hd, hc, rowsOf]))) | (refine ldD_ep ?_ ?_; (focus kernel_rfl); (try simp -implicitDefEqProofs [-loopQ_n, rowsOf])))))
      refine callG_intro (cloneS0_G fun nb => ?_)
      ((try simp -implicitDefEqProofs [-loopQ_n, rowsOf]) <;> (repeat' (first | (refine condD_dec ?_ ?_ <;> (intro hc; (try simp -implicitDefEqProofs [-loopQ_n, hc, rowsOf]))) | (refine guardD_dec ?_ ?_ <;> (intro hc; (try simp -implicitDefEqProofs [-loopQ_n, hc, rowsOf]))) | (refine condD_intro ?_ ?_ <;> (intro hd; have hc := hd; (try simp at hc) <;> (try simp -implicitDefEqProofs [-loopQ_n, hd, hc, rowsOf]))) | (refine guardD_intro ?_ ?_ <;> (intro hd; have hc := hd; (try simp at hc) <;> (try simp -implicitDefEqProofs [-loopQ_n, hd, hc, rowsOf]))) | (refine ldD_ep ?_ ?_; (focus kernel_rfl); (try simp -implicitDefEqProofs [-loopQ_n, rowsOf])) | (refine callS_mk ?_; (try simp -implicitDefEqProofs [-loopQ_n, rowsOf]); (first | refine callS_intro (hcm) (.inl rfl) ?_); (try simp -implicitDefEqProofs [-loopQ_n, rowsOf])))))
      ((try simp -implicitDefEqProofs [-loopQ_n, g2, rowsOf]) <;> (repeat' (first | (refine condD_dec ?_ ?_ <;> (intro hc; (try simp -implicitDefEqProofs [-loopQ_n, hc, g2, rowsOf]))) | (refine guardD_dec ?_ ?_ <;> (intro hc; (try simp -implicitDefEqProofs [-loopQ_n, hc, g2, rowsOf]))) | (refine condD_intro ?_ ?_ <;> (intro hd; have hc := hd; (try simp at hc) <;> (try simp -implicitDefEqProofs [-loopQ_n, hd, hc, g2, rowsOf]))) | (refine guardD_intro ?_ ?_ <;> (intro hd; have hc := hd; (try simp at hc) <;> (try simp -implicitDefEqProofs [-loopQ_n, hd, hc, g2, rowsOf]))) | (refine ldD_ep ?_ ?_; (focus kernel_rfl); (try simp -implicitDefEqProofs [-loopQ_n, g2, rowsOf])) | (refine callS_mk ?_; (try simp -implicitDefEqProofs [-loopQ_n, g2, rowsOf]); (first | refine callS_intro (hn) (.inr ⟨rfl, rfl⟩) ?_ | refine callS_intro (hm) (.inr ⟨rfl, rfl⟩) ?_ | refine callS_intro (eqS_pure l l (by omega) (by omega)) (.inl rfl) ?_ | refine callS_intro (alph_pure l) (.inl rfl) ?_); (try simp -implicitDefEqProofs [-loopQ_n, g2, rowsOf])))))
      have hl0 : l = [] := q1
      subst hl0
      refine loop_intro (σ := Unit) (fun _ => ⟨[(0, .rs []), (10, .rs []), (14, .int .i64 1)], []⟩) (fun _ => True) (fun _ => 0) () trivial ?_ ?_
      · refine weak_of 0 0 rfl rfl ?_ ?_ <;> simp [rowsOf]
      rintro _ _
      ((try simp -implicitDefEqProofs [-loopQ_n]) <;> (repeat' (first | (refine condD_dec ?_ ?_ <;> (intro hc; (try simp -implicitDefEqProofs [-loopQ_n, hc]))) | (refine guardD_dec ?_ ?_ <;> (intro hc; (try simp -implicitDefEqProofs [-loopQ_n, hc]))) | (refine condD_intro ?_ ?_ <;> (intro hd; have hc := hd; (try simp at hc) <;> (try simp -implicitDefEqProofs [-loopQ_n, hd, hc]))) | (refine guardD_intro ?_ ?_ <;> (intro hd; have hc := hd; (try simp at hc) <;> (try simp -implicitDefEqProofs [-loopQ_n, hd, hc]))) | (refine ldD_ep ?_ ?_; (focus kernel_rfl); (try simp -implicitDefEqProofs [-loopQ_n])))))
      refine loop_intro (σ := Unit) (fun _ => ⟨[(10, .rs []), (133, .rs []), (134, .int .i64 0), (135, .int .i64 0)], []⟩) (fun _ => True) (fun _ => 0) () trivial ?_ ?_
      · refine weak_of 0 0 rfl rfl ?_ ?_ <;> simp [rowsOf]
      rintro _ _
      ((try simp -implicitDefEqProofs [-loopQ_n]) <;> (repeat' (first | (refine condD_dec ?_ ?_ <;> (intro hc; (try simp -implicitDefEqProofs [-loopQ_n, hc]))) | (refine guardD_dec ?_ ?_ <;> (intro hc; (try simp -implicitDefEqProofs [-loopQ_n, hc]))) | (refine condD_intro ?_ ?_ <;> (intro hd; have hc := hd; (try simp at hc) <;> (try simp -implicitDefEqProofs [-loopQ_n, hd, hc]))) | (refine guardD_intro ?_ ?_ <;> (intro hd; have hc := hd; (try simp at hc) <;> (try simp -implicitDefEqProofs [-loopQ_n, hd, hc]))) | (refine ldD_ep ?_ ?_; (focus kernel_rfl); (try simp -implicitDefEqProofs [-loopQ_n])))))
  · have hcl := cloneS_fresh a h0 (by omega)
    have hlf : ((rowsOf strC a).all fun r => r.all flat) = true := rowsOf_flat fun x => by simp [strC, flat]
    have hl9 : a.length ≤ 1073741823 := by omega
    cases hs : sortedR a with
    | error e =>
      rw [hs, exN] at hn
      have he : ¬ e = 0 := by
        unfold sortedR at hs
        split at hs
        · split at hs
          · cases hs; decide
          · split at hs
            · cases hs; decide
            · cases hs
        · cases hs; decide
      refine fresh_intro hcl (by simp) (.inl hlf) ?_
      ((try simp -implicitDefEqProofs [-loopQ_n, hl9, strC_len, strC_snoc, sw_reify]) <;> (repeat' (first | (refine condD_dec ?_ ?_ <;> (intro hc; (try simp -implicitDefEqProofs [-loopQ_n, hc, hl9, strC_len, strC_snoc, sw_reify]))) | (refine guardD_dec ?_ ?_ <;> (intro hc; (try simp -implicitDefEqProofs [-loopQ_n, hc, hl9, strC_len, strC_snoc, sw_reify]))) | (refine condD_intro ?_ ?_ <;> (intro hd; have hc := hd; (try simp at hc) <;> (try simp -implicitDefEqProofs [-loopQ_n, hd, hc, hl9, strC_len, strC_snoc, sw_reify]))) | (refine guardD_intro ?_ ?_ <;> (intro hd; have hc := hd; (try simp at hc) <;> (try simp -implicitDefEqProofs [-loopQ_n, hd, hc, hl9, strC_len, strC_snoc, sw_reify]))) | (refine ldD_ep ?_ ?_; (focus kernel_rfl); (try simp -implicitDefEqProofs [-loopQ_n, hl9, strC_len, strC_snoc, sw_reify])) | (refine callS_mk ?_; (try simp -implicitDefEqProofs [-loopQ_n, hl9, strC_len, strC_snoc, sw_reify]); (first | refine callS_intro (hcm) (.inl rfl) ?_); (try simp -implicitDefEqProofs [-loopQ_n, hl9, strC_len, strC_snoc, sw_reify])))))
      ((try simp -implicitDefEqProofs [-loopQ_n, he]) <;> (repeat' (first | (refine condD_dec ?_ ?_ <;> (intro hc; (try simp -implicitDefEqProofs [-loopQ_n, hc, he]))) | (refine guardD_dec ?_ ?_ <;> (intro hc; (try simp -implicitDefEqProofs [-loopQ_n, hc, he]))) | (refine condD_intro ?_ ?_ <;> (intro hd; have hc := hd; (try simp at hc) <;> (try simp -implicitDefEqProofs [-loopQ_n, hd, hc, he]))) | (refine guardD_intro ?_ ?_ <;> (intro hd; have hc := hd; (try simp at hc) <;> (try simp -implicitDefEqProofs [-loopQ_n, hd, hc, he]))) | (refine ldD_ep ?_ ?_; (focus kernel_rfl); (try simp -implicitDefEqProofs [-loopQ_n, he])) | (refine callS_mk ?_; (try simp -implicitDefEqProofs [-loopQ_n, he]); (first | refine callS_intro (hn) (.inr ⟨rfl, rfl⟩) ?_); (try simp -implicitDefEqProofs [-loopQ_n, he])))))
    | ok l =>
      obtain ⟨g1, g2, g3⟩ := sorted_again hs
      obtain ⟨q1, q2, q3⟩ := sorted_ok hs
      have hm := nsorted_pure l (by omega)
      rw [hs, exN] at hn
      rw [g1, exN] at hm
      refine fresh_intro hcl (by simp) (.inl hlf) ?_
      ((try simp -implicitDefEqProofs [-loopQ_n, hl9, strC_len, strC_snoc, sw_reify]) <;> (repeat' (first | (refine condD_dec ?_ ?_ <;> (intro hc; (try simp -implicitDefEqProofs [-loopQ_n, hc, hl9, strC_len, strC_snoc, sw_reify]))) | (refine guardD_dec ?_ ?_ <;> (intro hc; (try simp -implicitDefEqProofs [-loopQ_n, hc, hl9, strC_len, strC_snoc, sw_reify]))) | (refine condD_intro ?_ ?_ <;> (intro hd; have hc := hd; (try simp at hc) <;> (try simp -implicitDefEqProofs [-loopQ_n, hd, hc, hl9, strC_len, strC_snoc, sw_reify]))) | (refine guardD_intro ?_ ?_ <;> (intro hd; have hc := hd; (try simp at hc) <;> (try simp -implicitDefEqProofs [-loopQ_n, hd, hc, hl9, strC_len, strC_snoc, sw_reify]))) | (refine ldD_ep ?_ ?_; (focus kernel_rfl); (try simp -implicitDefEqProofs [-loopQ_n, hl9, strC_len, strC_snoc, sw_reify])) | (refine callS_mk ?_; (try simp -implicitDefEqProofs [-loopQ_n, hl9, strC_len, strC_snoc, sw_reify]); (first | refine callS_intro (hcm) (.inl rfl) ?_); (try simp -implicitDefEqProofs [-loopQ_n, hl9, strC_len, strC_snoc, sw_reify])))))
      ((try simp -implicitDefEqProofs [-loopQ_n, g2]) <;> (repeat' (first | (refine condD_dec ?_ ?_ <;> (intro hc; (try simp -implicitDefEqProofs [-loopQ_n, hc, g2]))) | (refine guardD_dec ?_ ?_ <;> (intro hc; (try simp -implicitDefEqProofs [-loopQ_n, hc, g2]))) | (refine condD_intro ?_ ?_ <;> (intro hd; have hc := hd; (try simp at hc) <;> (try simp -implicitDefEqProofs [-loopQ_n, hd, hc, g2]))) | (refine guardD_intro ?_ ?_ <;> (intro hd; have hc := hd; (try simp at hc) <;> (try simp -implicitDefEqProofs [-loopQ_n, hd, hc, g2]))) | (refine ldD_ep ?_ ?_; (focus kernel_rfl); (try simp -implicitDefEqProofs [-loopQ_n, g2])) | (refine callS_mk ?_; (try simp -implicitDefEqProofs [-loopQ_n, g2]); (first | refine callS_intro (hn) (.inr ⟨rfl, rfl⟩) ?_ | refine callS_intro (hm) (.inr ⟨rfl, rfl⟩) ?_ | refine callS_intro (eqS_pure l l (by omega) (by omega)) (.inl rfl) ?_ | refine callS_intro (alph_pure l) (.inl rfl) ?_); (try simp -implicitDefEqProofs [-loopQ_n, g2])))))
      refine loop_intro (σ := Nat) (fun j => ⟨[(0, .rs (rowsOf strC a)), (10, .rs (rowsOf strC l)), (14, .int .i64 ((j : Int) + 1))], []⟩) (fun j => j ≤ l.length) (fun j => l.length - j) 0 (by omega) ?_ ?_
      · refine weak_of 0 0 rfl rfl ?_ ?_ <;> simp
      rintro j hj
      by_cases h : j + 1 < l.length
      · have h' : (j : Int) + 1 < l.length := by omega
        have k0 : j < l.length := by omega
        have w3 : wrapI .i64 ((j : Int) + 1 - 1) = (j : Int) := by rw [wrap_in (by omega) (by omega)]; omega
        have w4 : wrapI .i64 (j : Int) = (j : Int) := wrap_in (by omega) (by omega)
        have w5 : wrapI .i64 ((j : Int) + 1 + 1) = (j : Int) + 1 + 1 := wrap_in (by omega) (by omega)
        have d1 : (0 : Int) ≤ (j : Int) + 1 := by omega
        have d2 : (j : Int) + 1 ≤ l.length := by omega
        have d3 : (j : Int) + 1 + 1 ≤ l.length := by omega
        have d4 : (j : Int) ≤ (j : Int) + 1 := by omega
        have d5 : (j : Int) + 1 ≤ (j : Int) + 1 + 1 := by omega
        have e1 := sl_one k0 1 rfl
        have e2 := sl_one h 1 rfl
        have hcc := ncompare_pure [l[j]] [l[j + 1]] (by simp) (by simp)
        rw [g3 j h] at hcc
        have tn : ((j : Int) + 1 + 1).toNat - (j + 1) = 1 := by omega
        ((try simp -implicitDefEqProofs [-loopQ_n, h, h', k0, w3, w4, w5, d1, d2, d3, d4, d5, e1, e2, tn]) <;> (repeat' (first | (refine condD_dec ?_ ?_ <;> (intro hc; (try simp -implicitDefEqProofs [-loopQ_n, hc, h, h', k0, w3, w4, w5, d1, d2, d3, d4, d5, e1, e2, tn]))) | (refine guardD_dec ?_ ?_ <;> (intro hc; (try simp -implicitDefEqProofs [-loopQ_n, hc, h, h', k0, w3, w4, w5, d1, d2, d3, d4, d5, e1, e2, tn]))) | (refine condD_intro ?_ ?_ <;> (intro hd; have hc := hd; (try simp at hc) <;> (try simp -implicitDefEqProofs [-loopQ_n, hd, hc, h, h', k0, w3, w4, w5, d1, d2, d3, d4, d5, e1, e2, tn]))) | (refine guardD_intro ?_ ?_ <;> (intro hd; have hc := hd; (try simp at hc) <;> (try simp -implicitDefEqProofs [-loopQ_n, hd, hc, h, h', k0, w3, w4, w5, d1, d2, d3, d4, d5, e1, e2, tn]))) | (refine ldD_ep ?_ ?_; (focus kernel_rfl); (try simp -implicitDefEqProofs [-loopQ_n, h, h', k0, w3, w4, w5, d1, d2, d3, d4, d5, e1, e2, tn])) | (refine callS_mk ?_; (try simp -implicitDefEqProofs [-loopQ_n, h, h', k0, w3, w4, w5, d1, d2, d3, d4, d5, e1, e2, tn]); (first | refine callS_intro (hcc) (.inl rfl) ?_); (try simp -implicitDefEqProofs [-loopQ_n, h, h', k0, w3, w4, w5, d1, d2, d3, d4, d5, e1, e2, tn])))))
        refine loop_next (j + 1) (by omega) (by omega) (weak_of 0 0 rfl rfl ?_ ?_) <;> simp
      · have h' : ¬ (j : Int) + 1 < l.length := by omega
        clear h hj
        ((try simp -implicitDefEqProofs [-loopQ_n, h']) <;> (repeat' (first | (refine condD_dec ?_ ?_ <;> (intro hc; (try simp -implicitDefEqProofs [-loopQ_n, hc, h']))) | (refine guardD_dec ?_ ?_ <;> (intro hc; (try simp -implicitDefEqProofs [-loopQ_n, hc, h']))) | (refine condD_intro ?_ ?_ <;> (intro hd; have hc := hd; (try simp at hc) <;> (try simp -implicitDefEqProofs [-loopQ_n, hd, hc, h']))) | (refine guardD_intro ?_ ?_ <;> (intro hd; have hc := hd; (try simp at hc) <;> (try simp -implicitDefEqProofs [-loopQ_n, hd, hc, h']))) | (refine ldD_ep ?_ ?_; (focus kernel_rfl); (try simp -implicitDefEqProofs [-loopQ_n, h'])))))
        refine loop_intro (σ := Nat) (fun i => ⟨[(10, .rs (rowsOf strC l)), (133, .rs (rowsOf strC a)), (134, .int .i64 a.length), (135, .int .i64 i)], []⟩) (fun i => i ≤ a.length) (fun i => a.length - i) 0 (by omega) ?_ ?_
        · refine weak_of 0 0 rfl rfl ?_ ?_ <;> simp
        rintro i hi
        by_cases h : i < a.length
        · have w1 := sw_suc h (by omega)
          obtain ⟨k, hk, hkl, hke⟩ := idxS_in (l := l) (x := a[i]) (by rw [q1, setB_mem]; exact List.getElem_mem h)
          have hI := nindex_pure l a[i] (by omega)
          rw [hk] at hI
          have k1 : ¬ (k : Int) < 0 := by omega
          have k2 : ¬ (l.length : Int) ≤ k := by omega
          have k3 : ¬ l.length ≤ k := by omega
          have k4 : l[k].toList = a[i].toList := by rw [hke]
          ((try simp -implicitDefEqProofs [-loopQ_n, h, w1, hkl, k1, k2, k3, k4, strC]) <;> (repeat' (first | (refine condD_dec ?_ ?_ <;> (intro hc; (try simp -implicitDefEqProofs [-loopQ_n, hc, h, w1, hkl, k1, k2, k3, k4, strC]))) | (refine guardD_dec ?_ ?_ <;> (intro hc; (try simp -implicitDefEqProofs [-loopQ_n, hc, h, w1, hkl, k1, k2, k3, k4, strC]))) | (refine condD_intro ?_ ?_ <;> (intro hd; have hc := hd; (try simp at hc) <;> (try simp -implicitDefEqProofs [-loopQ_n, hd, hc, h, w1, hkl, k1, k2, k3, k4, strC]))) | (refine guardD_intro ?_ ?_ <;> (intro hd; have hc := hd; (try simp at hc) <;> (try simp -implicitDefEqProofs [-loopQ_n, hd, hc, h, w1, hkl, k1, k2, k3, k4, strC]))) | (refine ldD_ep ?_ ?_; (focus kernel_rfl); (try simp -implicitDefEqProofs [-loopQ_n, h, w1, hkl, k1, k2, k3, k4, strC])) | (refine callS_mk ?_; (try simp -implicitDefEqProofs [-loopQ_n, h, w1, hkl, k1, k2, k3, k4, strC]); (first | refine callS_intro (hI) (.inl rfl) ?_); (try simp -implicitDefEqProofs [-loopQ_n, h, w1, hkl, k1, k2, k3, k4, strC])))))
          refine loop_next (i + 1) h (by omega) (weak_of 0 0 rfl rfl ?_ ?_) <;> simp
        · ((try simp -implicitDefEqProofs [-loopQ_n, h]) <;> (repeat' (first | (refine condD_dec ?_ ?_ <;> (intro hc; (try simp -implicitDefEqProofs [-loopQ_n, hc, h]))) | (refine guardD_dec ?_ ?_ <;> (intro hc; (try simp -implicitDefEqProofs [-loopQ_n, hc, h]))) | (refine condD_intro ?_ ?_ <;> (intro hd; have hc := hd; (try simp at hc) <;> (try simp -implicitDefEqProofs [-loopQ_n, hd, hc, h]))) | (refine guardD_intro ?_ ?_ <;> (intro hd; have hc := hd; (try simp at hc) <;> (try simp -implicitDefEqProofs [-loopQ_n, hd, hc, h]))) | (refine ldD_ep ?_ ?_; (focus kernel_rfl); (try simp -implicitDefEqProofs [-loopQ_n, h])))))
set_option maxHeartbeats 16000000 in
theorem c4 (a b c : List ByteArray) (ha : a.length ≤ 9223372036854775807) (hb : b.length ≤ 9223372036854775807) (hlc : c.length ≤ 9223372036854775807) (hSa : shortL a = true) (hSb : shortL b = true) (hSc : shortL c = true) (p1 : (cmpL a b ≤ 0) = True) (p2 : (cmpL b c ≤ 0) = False) (p4 : (cmpL a b < 0) = True) (p5 : (cmpL b c < 0) = False) :
    Pure Try.prog 9 [.rs (rowsOf strC a), .rs (rowsOf strC b), .rs (rowsOf strC c)] (.bool true) := by
  have hla := short_len hSa
  have hn := nsorted_pure a (by omega)
  have hanti := cmpL_anti a b
  have hv := cmpL_vals a b
  have hw : wrapI .i64 (-cmpL b a) = cmpL a b := by rw [wrap_in (by omega) (by omega)]; omega
  have hz : (cmpL a b = 0) = (a = b) := propext cmpL_iff
  have hcm := ncompare_pure a (a ++ [⟨#[120]⟩]) ha (by simp; omega)
  rw [cmpL_more] at hcm
  clear hanti hv
  refine pure_of mixed Try.func9 rfl (by kernel_rfl) (of_decide_eq_true rfl) (by kernel_rfl) (vc_run ?_)
  ((try simp -implicitDefEqProofs [-loopQ_n, hSa, hSb, hSc, hw, hz, p1, p2, p4, p5]) <;> (repeat' (first | (refine condD_dec ?_ ?_ <;> (intro hc; (try simp -implicitDefEqProofs [-loopQ_n, hc, hSa, hSb, hSc, hw, hz, p1, p2, p4, p5]))) | (refine guardD_dec ?_ ?_ <;> (intro hc; (try simp -implicitDefEqProofs [-loopQ_n, hc, hSa, hSb, hSc, hw, hz, p1, p2, p4, p5]))) | (refine condD_intro ?_ ?_ <;> (intro hd; have hc := hd; (try simp at hc) <;> (try simp -implicitDefEqProofs [-loopQ_n, hd, hc, hSa, hSb, hSc, hw, hz, p1, p2, p4, p5]))) | (refine guardD_intro ?_ ?_ <;> (intro hd; have hc := hd; (try simp at hc) <;> (try simp -implicitDefEqProofs [-loopQ_n, hd, hc, hSa, hSb, hSc, hw, hz, p1, p2, p4, p5]))) | (refine ldD_ep ?_ ?_; (focus kernel_rfl); (try simp -implicitDefEqProofs [-loopQ_n, hSa, hSb, hSc, hw, hz, p1, p2, p4, p5])) | (refine callS_mk ?_; (try simp -implicitDefEqProofs [-loopQ_n, hSa, hSb, hSc, hw, hz, p1, p2, p4, p5]); (first | refine callS_intro (awake_pure) (.inl rfl) ?_ | refine callS_intro (short_pure a ha) (.inl rfl) ?_ | refine callS_intro (short_pure b hb) (.inl rfl) ?_ | refine callS_intro (short_pure c hlc) (.inl rfl) ?_ | refine callS_intro (ncompare_pure a b ha hb) (.inl rfl) ?_ | refine callS_intro (ncompare_pure b c hb hlc) (.inl rfl) ?_ | refine callS_intro (ncompare_pure a c ha hlc) (.inl rfl) ?_ | refine callS_intro (ncompare_pure b a hb ha) (.inl rfl) ?_ | refine callS_intro (eqS_pure a b ha hb) (.inl rfl) ?_); (try simp -implicitDefEqProofs [-loopQ_n, hSa, hSb, hSc, hw, hz, p1, p2, p4, p5])))))
  by_cases h0 : a = []
  · subst h0
    cases hs : sortedR [] with
    | error e =>
      rw [hs, exN] at hn
      have he : ¬ e = 0 := by
        unfold sortedR at hs
        split at hs
        · split at hs
          · cases hs; decide
          · split at hs
            · cases hs; decide
            · cases hs
        · cases hs; decide
      ((try simp -implicitDefEqProofs [-loopQ_n, rowsOf]) <;> (repeat' (first | (refine condD_dec ?_ ?_ <;> (intro hc; (try simp -implicitDefEqProofs [-loopQ_n, hc, rowsOf]))) | (refine guardD_dec ?_ ?_ <;> (intro hc; (try simp -implicitDefEqProofs [-loopQ_n, hc, rowsOf]))) | (refine condD_intro ?_ ?_ <;> (intro hd; have hc := hd; (try simp at hc) <;> (try simp -implicitDefEqProofs [-loopQ_n, hd, hc, rowsOf]))) | (refine guardD_intro ?_ ?_ <;> (intro hd; have hc := hd; (try simp at hc) <;> (try simp -implicitDefEqProofs [-loopQ_n, hd, hc, rowsOf]))) | (refine ldD_ep ?_ ?_; (focus kernel_rfl); (try simp -implicitDefEqProofs [-loopQ_n, rowsOf])))))
      refine callG_intro (cloneS0_G fun nb => ?_)
      ((try simp -implicitDefEqProofs [-loopQ_n, rowsOf]) <;> (repeat' (first | (refine condD_dec ?_ ?_ <;> (intro hc; (try simp -implicitDefEqProofs [-loopQ_n, hc, rowsOf]))) | (refine guardD_dec ?_ ?_ <;> (intro hc; (try simp -implicitDefEqProofs [-loopQ_n, hc, rowsOf]))) | (refine condD_intro ?_ ?_ <;> (intro hd; have hc := hd; (try simp at hc) <;> (try simp -implicitDefEqProofs [-loopQ_n, hd, hc, rowsOf]))) | (refine guardD_intro ?_ ?_ <;> (intro hd; have hc := hd; (try simp at hc) <;> (try simp -implicitDefEqProofs [-loopQ_n, hd, hc, rowsOf]))) | (refine ldD_ep ?_ ?_; (focus kernel_rfl); (try simp -implicitDefEqProofs [-loopQ_n, rowsOf])) | (refine callS_mk ?_; (try simp -implicitDefEqProofs [-loopQ_n, rowsOf]); (first | refine callS_intro (hcm) (.inl rfl) ?_); (try simp -implicitDefEqProofs [-loopQ_n, rowsOf])))))
      ((try simp -implicitDefEqProofs [-loopQ_n, he, rowsOf]) <;> (repeat' (first | (refine condD_dec ?_ ?_ <;> (intro hc; (try simp -implicitDefEqProofs [-loopQ_n, hc, he, rowsOf]))) | (refine guardD_dec ?_ ?_ <;> (intro hc; (try simp -implicitDefEqProofs [-loopQ_n, hc, he, rowsOf]))) | (refine condD_intro ?_ ?_ <;> (intro hd; have hc := hd; (try simp at hc) <;> (try simp -implicitDefEqProofs [-loopQ_n, hd, hc, he, rowsOf]))) | (refine guardD_intro ?_ ?_ <;> (intro hd; have hc := hd; (try simp at hc) <;> (try simp -implicitDefEqProofs [-loopQ_n, hd, hc, he, rowsOf]))) | (refine ldD_ep ?_ ?_; (focus kernel_rfl); (try simp -implicitDefEqProofs [-loopQ_n, he, rowsOf])) | (refine callS_mk ?_; (try simp -implicitDefEqProofs [-loopQ_n, he, rowsOf]); (first | refine callS_intro (hn) (.inr ⟨rfl, rfl⟩) ?_); (try simp -implicitDefEqProofs [-loopQ_n, he, rowsOf])))))
    | ok l =>
      obtain ⟨g1, g2, g3⟩ := sorted_again hs
      obtain ⟨q1, q2, q3⟩ := sorted_ok hs
      have hm := nsorted_pure l (by omega)
      rw [hs, exN] at hn
      rw [g1, exN] at hm
      ((try simp -implicitDefEqProofs [-loopQ_n, rowsOf]) <;> (repeat' (first | (refine condD_dec ?_ ?_ <;> (intro hc; (try simp -implicitDefEqProofs [-loopQ_n, hc, rowsOf]))) | (refine guardD_dec ?_ ?_ <;> (intro hc; (try simp -implicitDefEqProofs [-loopQ_n, hc, rowsOf]))) | (refine condD_intro ?_ ?_ <;> (intro hd; have hc := hd; (try simp at hc) <;> (try simp -implicitDefEqProofs [-loopQ_n, hd, hc, rowsOf]))) | (refine guardD_intro ?_ ?_ <;> (intro hd; have hc := hd; (try simp at hc) <;> (try simp -implicitDefEqProofs [-loopQ_n, hd, hc, rowsOf]))) | (refine ldD_ep ?_ ?_; (focus kernel_rfl); (try simp -implicitDefEqProofs [-loopQ_n, rowsOf])))))
      refine callG_intro (cloneS0_G fun nb => ?_)
      ((try simp -implicitDefEqProofs [-loopQ_n, rowsOf]) <;> (repeat' (first | (refine condD_dec ?_ ?_ <;> (intro hc; (try simp -implicitDefEqProofs [-loopQ_n, hc, rowsOf]))) | (refine guardD_dec ?_ ?_ <;> (intro hc; (try simp -implicitDefEqProofs [-loopQ_n, hc, rowsOf]))) | (refine condD_intro ?_ ?_ <;> (intro hd; have hc := hd; (try simp at hc) <;> (try simp -implicitDefEqProofs [-loopQ_n, hd, hc, rowsOf]))) | (refine guardD_intro ?_ ?_ <;> (intro hd; have hc := hd; (try simp at hc) <;> (try simp -implicitDefEqProofs [-loopQ_n, hd, hc, rowsOf]))) | (refine ldD_ep ?_ ?_; (focus kernel_rfl); (try simp -implicitDefEqProofs [-loopQ_n, rowsOf])) | (refine callS_mk ?_; (try simp -implicitDefEqProofs [-loopQ_n, rowsOf]); (first | refine callS_intro (hcm) (.inl rfl) ?_); (try simp -implicitDefEqProofs [-loopQ_n, rowsOf])))))
      ((try simp -implicitDefEqProofs [-loopQ_n, g2, rowsOf]) <;> (repeat' (first | (refine condD_dec ?_ ?_ <;> (intro hc; (try simp -implicitDefEqProofs [-loopQ_n, hc, g2, rowsOf]))) | (refine guardD_dec ?_ ?_ <;> (intro hc; (try simp -implicitDefEqProofs [-loopQ_n, hc, g2, rowsOf]))) | (refine condD_intro ?_ ?_ <;> (intro hd; have hc := hd; (try simp at hc) <;> (try simp -implicitDefEqProofs [-loopQ_n, hd, hc, g2, rowsOf]))) | (refine guardD_intro ?_ ?_ <;> (intro hd; have hc := hd; (try simp at hc) <;> (try simp -implicitDefEqProofs [-loopQ_n, hd, hc, g2, rowsOf]))) | (refine ldD_ep ?_ ?_; (focus kernel_rfl); (try simp -implicitDefEqProofs [-loopQ_n, g2, rowsOf])) | (refine callS_mk ?_; (try simp -implicitDefEqProofs [-loopQ_n, g2, rowsOf]); (first | refine callS_intro (hn) (.inr ⟨rfl, rfl⟩) ?_ | refine callS_intro (hm) (.inr ⟨rfl, rfl⟩) ?_ | refine callS_intro (eqS_pure l l (by omega) (by omega)) (.inl rfl) ?_ | refine callS_intro (alph_pure l) (.inl rfl) ?_); (try simp -implicitDefEqProofs [-loopQ_n, g2, rowsOf])))))
      have hl0 : l = [] := q1
      subst hl0
      refine loop_intro (σ := Unit) (fun _ => ⟨[(0, .rs []), (10, .rs []), (14, .int .i64 1)], []⟩) (fun _ => True) (fun _ => 0) () trivial ?_ ?_
      · refine weak_of 0 0 rfl rfl ?_ ?_ <;> simp [rowsOf]
      rintro _ _
      ((try simp -implicitDefEqProofs [-loopQ_n]) <;> (repeat' (first | (refine condD_dec ?_ ?_ <;> (intro hc; (try simp -implicitDefEqProofs [-loopQ_n, hc]))) | (refine guardD_dec ?_ ?_ <;> (intro hc; (try simp -implicitDefEqProofs [-loopQ_n, hc]))) | (refine condD_intro ?_ ?_ <;> (intro hd; have hc := hd; (try simp at hc) <;> (try simp -implicitDefEqProofs [-loopQ_n, hd, hc]))) | (refine guardD_intro ?_ ?_ <;> (intro hd; have hc := hd; (try simp at hc) <;> (try simp -implicitDefEqProofs [-loopQ_n, hd, hc]))) | (refine ldD_ep ?_ ?_; (focus kernel_rfl); (try simp -implicitDefEqProofs [-loopQ_n])))))
      refine loop_intro (σ := Unit) (fun _ => ⟨[(10, .rs []), (133, .rs []), (134, .int .i64 0), (135, .int .i64 0)], []⟩) (fun _ => True) (fun _ => 0) () trivial ?_ ?_
      · refine weak_of 0 0 rfl rfl ?_ ?_ <;> simp [rowsOf]
      rintro _ _
      ((try simp -implicitDefEqProofs [-loopQ_n]) <;> (repeat' (first | (refine condD_dec ?_ ?_ <;> (intro hc; (try simp -implicitDefEqProofs [-loopQ_n, hc]))) | (refine guardD_dec ?_ ?_ <;> (intro hc; (try simp -implicitDefEqProofs [-loopQ_n, hc]))) | (refine condD_intro ?_ ?_ <;> (intro hd; have hc := hd; (try simp at hc) <;> (try simp -implicitDefEqProofs [-loopQ_n, hd, hc]))) | (refine guardD_intro ?_ ?_ <;> (intro hd; have hc := hd; (try simp at hc) <;> (try simp -implicitDefEqProofs [-loopQ_n, hd, hc]))) | (refine ldD_ep ?_ ?_; (focus kernel_rfl); (try simp -implicitDefEqProofs [-loopQ_n])))))
  · have hcl := cloneS_fresh a h0 (by omega)
    have hlf : ((rowsOf strC a).all fun r => r.all flat) = true := rowsOf_flat fun x => by simp [strC, flat]
    have hl9 : a.length ≤ 1073741823 := by omega
    cases hs : sortedR a with
    | error e =>
      rw [hs, exN] at hn
      have he : ¬ e = 0 := by
        unfold sortedR at hs
        split at hs
        · split at hs
          · cases hs; decide
          · split at hs
            · cases hs; decide
            · cases hs
        · cases hs; decide
      refine fresh_intro hcl (by simp) (.inl hlf) ?_
      ((try simp -implicitDefEqProofs [-loopQ_n, hl9, strC_len, strC_snoc, sw_reify]) <;> (repeat' (first | (refine condD_dec ?_ ?_ <;> (intro hc; (try simp -implicitDefEqProofs [-loopQ_n, hc, hl9, strC_len, strC_snoc, sw_reify]))) | (refine guardD_dec ?_ ?_ <;> (intro hc; (try simp -implicitDefEqProofs [-loopQ_n, hc, hl9, strC_len, strC_snoc, sw_reify]))) | (refine condD_intro ?_ ?_ <;> (intro hd; have hc := hd; (try simp at hc) <;> (try simp -implicitDefEqProofs [-loopQ_n, hd, hc, hl9, strC_len, strC_snoc, sw_reify]))) | (refine guardD_intro ?_ ?_ <;> (intro hd; have hc := hd; (try simp at hc) <;> (try simp -implicitDefEqProofs [-loopQ_n, hd, hc, hl9, strC_len, strC_snoc, sw_reify]))) | (refine ldD_ep ?_ ?_; (focus kernel_rfl); (try simp -implicitDefEqProofs [-loopQ_n, hl9, strC_len, strC_snoc, sw_reify])) | (refine callS_mk ?_; (try simp -implicitDefEqProofs [-loopQ_n, hl9, strC_len, strC_snoc, sw_reify]); (first | refine callS_intro (hcm) (.inl rfl) ?_); (try simp -implicitDefEqProofs [-loopQ_n, hl9, strC_len, strC_snoc, sw_reify])))))
      ((try simp -implicitDefEqProofs [-loopQ_n, he]) <;> (repeat' (first | (refine condD_dec ?_ ?_ <;> (intro hc; (try simp -implicitDefEqProofs [-loopQ_n, hc, he]))) | (refine guardD_dec ?_ ?_ <;> (intro hc; (try simp -implicitDefEqProofs [-loopQ_n, hc, he]))) | (refine condD_intro ?_ ?_ <;> (intro hd; have hc := hd; (try simp at hc) <;> (try simp -implicitDefEqProofs [-loopQ_n, hd, hc, he]))) | (refine guardD_intro ?_ ?_ <;> (intro hd; have hc := hd; (try simp at hc) <;> (try simp -implicitDefEqProofs [-loopQ_n, hd, hc, he]))) | (refine ldD_ep ?_ ?_; (focus kernel_rfl); (try simp -implicitDefEqProofs [-loopQ_n, he])) | (refine callS_mk ?_; (try simp -implicitDefEqProofs [-loopQ_n, he]); (first | refine callS_intro (hn) (.inr ⟨rfl, rfl⟩) ?_); (try simp -implicitDefEqProofs [-loopQ_n, he])))))
    | ok l =>
      obtain ⟨g1, g2, g3⟩ := sorted_again hs
      obtain ⟨q1, q2, q3⟩ := sorted_ok hs
      have hm := nsorted_pure l (by omega)
      rw [hs, exN] at hn
      rw [g1, exN] at hm
      refine fresh_intro hcl (by simp) (.inl hlf) ?_
      ((try simp -implicitDefEqProofs [-loopQ_n, hl9, strC_len, strC_snoc, sw_reify]) <;> (repeat' (first | (refine condD_dec ?_ ?_ <;> (intro hc; (try simp -implicitDefEqProofs [-loopQ_n, hc, hl9, strC_len, strC_snoc, sw_reify]))) | (refine guardD_dec ?_ ?_ <;> (intro hc; (try simp -implicitDefEqProofs [-loopQ_n, hc, hl9, strC_len, strC_snoc, sw_reify]))) | (refine condD_intro ?_ ?_ <;> (intro hd; have hc := hd; (try simp at hc) <;> (try simp -implicitDefEqProofs [-loopQ_n, hd, hc, hl9, strC_len, strC_snoc, sw_reify]))) | (refine guardD_intro ?_ ?_ <;> (intro hd; have hc := hd; (try simp at hc) <;> (try simp -implicitDefEqProofs [-loopQ_n, hd, hc, hl9, strC_len, strC_snoc, sw_reify]))) | (refine ldD_ep ?_ ?_; (focus kernel_rfl); (try simp -implicitDefEqProofs [-loopQ_n, hl9, strC_len, strC_snoc, sw_reify])) | (refine callS_mk ?_; (try simp -implicitDefEqProofs [-loopQ_n, hl9, strC_len, strC_snoc, sw_reify]); (first | refine callS_intro (hcm) (.inl rfl) ?_); (try simp -implicitDefEqProofs [-loopQ_n, hl9, strC_len, strC_snoc, sw_reify])))))
      ((try simp -implicitDefEqProofs [-loopQ_n, g2]) <;> (repeat' (first | (refine condD_dec ?_ ?_ <;> (intro hc; (try simp -implicitDefEqProofs [-loopQ_n, hc, g2]))) | (refine guardD_dec ?_ ?_ <;> (intro hc; (try simp -implicitDefEqProofs [-loopQ_n, hc, g2]))) | (refine condD_intro ?_ ?_ <;> (intro hd; have hc := hd; (try simp at hc) <;> (try simp -implicitDefEqProofs [-loopQ_n, hd, hc, g2]))) | (refine guardD_intro ?_ ?_ <;> (intro hd; have hc := hd; (try simp at hc) <;> (try simp -implicitDefEqProofs [-loopQ_n, hd, hc, g2]))) | (refine ldD_ep ?_ ?_; (focus kernel_rfl); (try simp -implicitDefEqProofs [-loopQ_n, g2])) | (refine callS_mk ?_; (try simp -implicitDefEqProofs [-loopQ_n, g2]); (first | refine callS_intro (hn) (.inr ⟨rfl, rfl⟩) ?_ | refine callS_intro (hm) (.inr ⟨rfl, rfl⟩) ?_ | refine callS_intro (eqS_pure l l (by omega) (by omega)) (.inl rfl) ?_ | refine callS_intro (alph_pure l) (.inl rfl) ?_); (try simp -implicitDefEqProofs [-loopQ_n, g2])))))
      refine loop_intro (σ := Nat) (fun j => ⟨[(0, .rs (rowsOf strC a)), (10, .rs (rowsOf strC l)), (14, .int .i64 ((j : Int) + 1))], []⟩) (fun j => j ≤ l.length) (fun j => l.length - j) 0 (by omega) ?_ ?_
      · refine weak_of 0 0 rfl rfl ?_ ?_ <;> simp
      rintro j hj
      by_cases h : j + 1 < l.length
      · have h' : (j : Int) + 1 < l.length := by omega
        have k0 : j < l.length := by omega
        have w3 : wrapI .i64 ((j : Int) + 1 - 1) = (j : Int) := by rw [wrap_in (by omega) (by omega)]; omega
        have w4 : wrapI .i64 (j : Int) = (j : Int) := wrap_in (by omega) (by omega)
        have w5 : wrapI .i64 ((j : Int) + 1 + 1) = (j : Int) + 1 + 1 := wrap_in (by omega) (by omega)
        have d1 : (0 : Int) ≤ (j : Int) + 1 := by omega
        have d2 : (j : Int) + 1 ≤ l.length := by omega
        have d3 : (j : Int) + 1 + 1 ≤ l.length := by omega
        have d4 : (j : Int) ≤ (j : Int) + 1 := by omega
        have d5 : (j : Int) + 1 ≤ (j : Int) + 1 + 1 := by omega
        have e1 := sl_one k0 1 rfl
        have e2 := sl_one h 1 rfl
        have hcc := ncompare_pure [l[j]] [l[j + 1]] (by simp) (by simp)
        rw [g3 j h] at hcc
        have tn : ((j : Int) + 1 + 1).toNat - (j + 1) = 1 := by omega
        ((try simp -implicitDefEqProofs [-loopQ_n, h, h', k0, w3, w4, w5, d1, d2, d3, d4, d5, e1, e2, tn]) <;> (repeat' (first | (refine condD_dec ?_ ?_ <;> (intro hc; (try simp -implicitDefEqProofs [-loopQ_n, hc, h, h', k0, w3, w4, w5, d1, d2, d3, d4, d5, e1, e2, tn]))) | (refine guardD_dec ?_ ?_ <;> (intro hc; (try simp -implicitDefEqProofs [-loopQ_n, hc, h, h', k0, w3, w4, w5, d1, d2, d3, d4, d5, e1, e2, tn]))) | (refine condD_intro ?_ ?_ <;> (intro hd; have hc := hd; (try simp at hc) <;> (try simp -implicitDefEqProofs [-loopQ_n, hd, hc, h, h', k0, w3, w4, w5, d1, d2, d3, d4, d5, e1, e2, tn]))) | (refine guardD_intro ?_ ?_ <;> (intro hd; have hc := hd; (try simp at hc) <;> (try simp -implicitDefEqProofs [-loopQ_n, hd, hc, h, h', k0, w3, w4, w5, d1, d2, d3, d4, d5, e1, e2, tn]))) | (refine ldD_ep ?_ ?_; (focus kernel_rfl); (try simp -implicitDefEqProofs [-loopQ_n, h, h', k0, w3, w4, w5, d1, d2, d3, d4, d5, e1, e2, tn])) | (refine callS_mk ?_; (try simp -implicitDefEqProofs [-loopQ_n, h, h', k0, w3, w4, w5, d1, d2, d3, d4, d5, e1, e2, tn]); (first | refine callS_intro (hcc) (.inl rfl) ?_); (try simp -implicitDefEqProofs [-loopQ_n, h, h', k0, w3, w4, w5, d1, d2, d3, d4, d5, e1, e2, tn])))))
        refine loop_next (j + 1) (by omega) (by omega) (weak_of 0 0 rfl rfl ?_ ?_) <;> simp
      · have h' : ¬ (j : Int) + 1 < l.length := by omega
        clear h hj
        ((try simp -implicitDefEqProofs [-loopQ_n, h']) <;> (repeat' (first | (refine condD_dec ?_ ?_ <;> (intro hc; (try simp -implicitDefEqProofs [-loopQ_n, hc, h']))) | (refine guardD_dec ?_ ?_ <;> (intro hc; (try simp -implicitDefEqProofs [-loopQ_n, hc, h']))) | (refine condD_intro ?_ ?_ <;> (intro hd; have hc := hd; (try simp at hc) <;> (try simp -implicitDefEqProofs [-loopQ_n, hd, hc, h']))) | (refine guardD_intro ?_ ?_ <;> (intro hd; have hc := hd; (try simp at hc) <;> (try simp -implicitDefEqProofs [-loopQ_n, hd, hc, h']))) | (refine ldD_ep ?_ ?_; (focus kernel_rfl); (try simp -implicitDefEqProofs [-loopQ_n, h'])))))
        refine loop_intro (σ := Nat) (fun i => ⟨[(10, .rs (rowsOf strC l)), (133, .rs (rowsOf strC a)), (134, .int .i64 a.length), (135, .int .i64 i)], []⟩) (fun i => i ≤ a.length) (fun i => a.length - i) 0 (by omega) ?_ ?_
        · refine weak_of 0 0 rfl rfl ?_ ?_ <;> simp
        rintro i hi
        by_cases h : i < a.length
        · have w1 := sw_suc h (by omega)
          obtain ⟨k, hk, hkl, hke⟩ := idxS_in (l := l) (x := a[i]) (by rw [q1, setB_mem]; exact List.getElem_mem h)
          have hI := nindex_pure l a[i] (by omega)
          rw [hk] at hI
          have k1 : ¬ (k : Int) < 0 := by omega
          have k2 : ¬ (l.length : Int) ≤ k := by omega
          have k3 : ¬ l.length ≤ k := by omega
          have k4 : l[k].toList = a[i].toList := by rw [hke]
          ((try simp -implicitDefEqProofs [-loopQ_n, h, w1, hkl, k1, k2, k3, k4, strC]) <;> (repeat' (first | (refine condD_dec ?_ ?_ <;> (intro hc; (try simp -implicitDefEqProofs [-loopQ_n, hc, h, w1, hkl, k1, k2, k3, k4, strC]))) | (refine guardD_dec ?_ ?_ <;> (intro hc; (try simp -implicitDefEqProofs [-loopQ_n, hc, h, w1, hkl, k1, k2, k3, k4, strC]))) | (refine condD_intro ?_ ?_ <;> (intro hd; have hc := hd; (try simp at hc) <;> (try simp -implicitDefEqProofs [-loopQ_n, hd, hc, h, w1, hkl, k1, k2, k3, k4, strC]))) | (refine guardD_intro ?_ ?_ <;> (intro hd; have hc := hd; (try simp at hc) <;> (try simp -implicitDefEqProofs [-loopQ_n, hd, hc, h, w1, hkl, k1, k2, k3, k4, strC]))) | (refine ldD_ep ?_ ?_; (focus kernel_rfl); (try simp -implicitDefEqProofs [-loopQ_n, h, w1, hkl, k1, k2, k3, k4, strC])) | (refine callS_mk ?_; (try simp -implicitDefEqProofs [-loopQ_n, h, w1, hkl, k1, k2, k3, k4, strC]); (first | refine callS_intro (hI) (.inl rfl) ?_); (try simp -implicitDefEqProofs [-loopQ_n, h, w1, hkl, k1, k2, k3, k4, strC])))))
          refine loop_next (i + 1) h (by omega) (weak_of 0 0 rfl rfl ?_ ?_) <;> simp
        · ((try simp -implicitDefEqProofs [-loopQ_n, h]) <;> (repeat' (first | (refine condD_dec ?_ ?_ <;> (intro hc; (try simp -implicitDefEqProofs [-loopQ_n, hc, h]))) | (refine guardD_dec ?_ ?_ <;> (intro hc; (try simp -implicitDefEqProofs [-loopQ_n, hc, h]))) | (refine condD_intro ?_ ?_ <;> (intro hd; have hc := hd; (try simp at hc) <;> (try simp -implicitDefEqProofs [-loopQ_n, hd, hc, h]))) | (refine guardD_intro ?_ ?_ <;> (intro hd; have hc := hd; (try simp at hc) <;> (try simp -implicitDefEqProofs [-loopQ_n, hd, hc, h]))) | (refine ldD_ep ?_ ?_; (focus kernel_rfl); (try simp -implicitDefEqProofs [-loopQ_n, h])))))
set_option maxHeartbeats 16000000 in
theorem c5 (a b c : List ByteArray) (ha : a.length ≤ 9223372036854775807) (hb : b.length ≤ 9223372036854775807) (hlc : c.length ≤ 9223372036854775807) (hSa : shortL a = true) (hSb : shortL b = true) (hSc : shortL c = true) (p1 : (cmpL a b ≤ 0) = True) (p2 : (cmpL b c ≤ 0) = True) (p3 : (0 < cmpL a c) = False) (p4 : (cmpL a b < 0) = True) (p5 : (cmpL b c < 0) = False) :
    Pure Try.prog 9 [.rs (rowsOf strC a), .rs (rowsOf strC b), .rs (rowsOf strC c)] (.bool true) := by
  have hla := short_len hSa
  have hn := nsorted_pure a (by omega)
  have hanti := cmpL_anti a b
  have hv := cmpL_vals a b
  have hw : wrapI .i64 (-cmpL b a) = cmpL a b := by rw [wrap_in (by omega) (by omega)]; omega
  have hz : (cmpL a b = 0) = (a = b) := propext cmpL_iff
  have hcm := ncompare_pure a (a ++ [⟨#[120]⟩]) ha (by simp; omega)
  rw [cmpL_more] at hcm
  clear hanti hv
  refine pure_of mixed Try.func9 rfl (by kernel_rfl) (of_decide_eq_true rfl) (by kernel_rfl) (vc_run ?_)
  ((try simp -implicitDefEqProofs [-loopQ_n, hSa, hSb, hSc, hw, hz, p1, p2, p3, p4, p5]) <;> (repeat' (first | (refine condD_dec ?_ ?_ <;> (intro hc; (try simp -implicitDefEqProofs [-loopQ_n, hc, hSa, hSb, hSc, hw, hz, p1, p2, p3, p4, p5]))) | (refine guardD_dec ?_ ?_ <;> (intro hc; (try simp -implicitDefEqProofs [-loopQ_n, hc, hSa, hSb, hSc, hw, hz, p1, p2, p3, p4, p5]))) | (refine condD_intro ?_ ?_ <;> (intro hd; have hc := hd; (try simp at hc) <;> (try simp -implicitDefEqProofs [-loopQ_n, hd, hc, hSa, hSb, hSc, hw, hz, p1, p2, p3, p4, p5]))) | (refine guardD_intro ?_ ?_ <;> (intro hd; have hc := hd; (try simp at hc) <;> (try simp -implicitDefEqProofs [-loopQ_n, hd, hc, hSa, hSb, hSc, hw, hz, p1, p2, p3, p4, p5]))) | (refine ldD_ep ?_ ?_; (focus kernel_rfl); (try simp -implicitDefEqProofs [-loopQ_n, hSa, hSb, hSc, hw, hz, p1, p2, p3, p4, p5])) | (refine callS_mk ?_; (try simp -implicitDefEqProofs [-loopQ_n, hSa, hSb, hSc, hw, hz, p1, p2, p3, p4, p5]); (first | refine callS_intro (awake_pure) (.inl rfl) ?_ | refine callS_intro (short_pure a ha) (.inl rfl) ?_ | refine callS_intro (short_pure b hb) (.inl rfl) ?_ | refine callS_intro (short_pure c hlc) (.inl rfl) ?_ | refine callS_intro (ncompare_pure a b ha hb) (.inl rfl) ?_ | refine callS_intro (ncompare_pure b c hb hlc) (.inl rfl) ?_ | refine callS_intro (ncompare_pure a c ha hlc) (.inl rfl) ?_ | refine callS_intro (ncompare_pure b a hb ha) (.inl rfl) ?_ | refine callS_intro (eqS_pure a b ha hb) (.inl rfl) ?_); (try simp -implicitDefEqProofs [-loopQ_n, hSa, hSb, hSc, hw, hz, p1, p2, p3, p4, p5])))))
  by_cases h0 : a = []
  · subst h0
    cases hs : sortedR [] with
    | error e =>
      rw [hs, exN] at hn
      have he : ¬ e = 0 := by
        unfold sortedR at hs
        split at hs
        · split at hs
          · cases hs; decide
          · split at hs
            · cases hs; decide
            · cases hs
        · cases hs; decide
      ((try simp -implicitDefEqProofs [-loopQ_n, rowsOf]) <;> (repeat' (first | (refine condD_dec ?_ ?_ <;> (intro hc; (try simp -implicitDefEqProofs [-loopQ_n, hc, rowsOf]))) | (refine guardD_dec ?_ ?_ <;> (intro hc; (try simp -implicitDefEqProofs [-loopQ_n, hc, rowsOf]))) | (refine condD_intro ?_ ?_ <;> (intro hd; have hc := hd; (try simp at hc) <;> (try simp -implicitDefEqProofs [-loopQ_n, hd, hc, rowsOf]))) | (refine guardD_intro ?_ ?_ <;> (intro hd; have hc := hd; (try simp at hc) <;> (try simp -implicitDefEqProofs [-loopQ_n, hd, hc, rowsOf]))) | (refine ldD_ep ?_ ?_; (focus kernel_rfl); (try simp -implicitDefEqProofs [-loopQ_n, rowsOf])))))
      refine callG_intro (cloneS0_G fun nb => ?_)
      ((try simp -implicitDefEqProofs [-loopQ_n, rowsOf]) <;> (repeat' (first | (refine condD_dec ?_ ?_ <;> (intro hc; (try simp -implicitDefEqProofs [-loopQ_n, hc, rowsOf]))) | (refine guardD_dec ?_ ?_ <;> (intro hc; (try simp -implicitDefEqProofs [-loopQ_n, hc, rowsOf]))) | (refine condD_intro ?_ ?_ <;> (intro hd; have hc := hd; (try simp at hc) <;> (try simp -implicitDefEqProofs [-loopQ_n, hd, hc, rowsOf]))) | (refine guardD_intro ?_ ?_ <;> (intro hd; have hc := hd; (try simp at hc) <;> (try simp -implicitDefEqProofs [-loopQ_n, hd, hc, rowsOf]))) | (refine ldD_ep ?_ ?_; (focus kernel_rfl); (try simp -implicitDefEqProofs [-loopQ_n, rowsOf])) | (refine callS_mk ?_; (try simp -implicitDefEqProofs [-loopQ_n, rowsOf]); (first | refine callS_intro (hcm) (.inl rfl) ?_); (try simp -implicitDefEqProofs [-loopQ_n, rowsOf])))))
      ((try simp -implicitDefEqProofs [-loopQ_n, he, rowsOf]) <;> (repeat' (first | (refine condD_dec ?_ ?_ <;> (intro hc; (try simp -implicitDefEqProofs [-loopQ_n, hc, he, rowsOf]))) | (refine guardD_dec ?_ ?_ <;> (intro hc; (try simp -implicitDefEqProofs [-loopQ_n, hc, he, rowsOf]))) | (refine condD_intro ?_ ?_ <;> (intro hd; have hc := hd; (try simp at hc) <;> (try simp -implicitDefEqProofs [-loopQ_n, hd, hc, he, rowsOf]))) | (refine guardD_intro ?_ ?_ <;> (intro hd; have hc := hd; (try simp at hc) <;> (try simp -implicitDefEqProofs [-loopQ_n, hd, hc, he, rowsOf]))) | (refine ldD_ep ?_ ?_; (focus kernel_rfl); (try simp -implicitDefEqProofs [-loopQ_n, he, rowsOf])) | (refine callS_mk ?_; (try simp -implicitDefEqProofs [-loopQ_n, he, rowsOf]); (first | refine callS_intro (hn) (.inr ⟨rfl, rfl⟩) ?_); (try simp -implicitDefEqProofs [-loopQ_n, he, rowsOf])))))
    | ok l =>
      obtain ⟨g1, g2, g3⟩ := sorted_again hs
      obtain ⟨q1, q2, q3⟩ := sorted_ok hs
      have hm := nsorted_pure l (by omega)
      rw [hs, exN] at hn
      rw [g1, exN] at hm
      ((try simp -implicitDefEqProofs [-loopQ_n, rowsOf]) <;> (repeat' (first | (refine condD_dec ?_ ?_ <;> (intro hc; (try simp -implicitDefEqProofs [-loopQ_n, hc, rowsOf]))) | (refine guardD_dec ?_ ?_ <;> (intro hc; (try simp -implicitDefEqProofs [-loopQ_n, hc, rowsOf]))) | (refine condD_intro ?_ ?_ <;> (intro hd; have hc := hd; (try simp at hc) <;> (try simp -implicitDefEqProofs [-loopQ_n, hd, hc, rowsOf]))) | (refine guardD_intro ?_ ?_ <;> (intro hd; have hc := hd; (try simp at hc) <;> (try simp -implicitDefEqProofs [-loopQ_n, hd, hc, rowsOf]))) | (refine ldD_ep ?_ ?_; (focus kernel_rfl); (try simp -implicitDefEqProofs [-loopQ_n, rowsOf])))))
      refine callG_intro (cloneS0_G fun nb => ?_)
      ((try simp -implicitDefEqProofs [-loopQ_n, rowsOf]) <;> (repeat' (first | (refine condD_dec ?_ ?_ <;> (intro hc; (try simp -implicitDefEqProofs [-loopQ_n, hc, rowsOf]))) | (refine guardD_dec ?_ ?_ <;> (intro hc; (try simp -implicitDefEqProofs [-loopQ_n, hc, rowsOf]))) | (refine condD_intro ?_ ?_ <;> (intro hd; have hc := hd; (try simp at hc) <;> (try simp -implicitDefEqProofs [-loopQ_n, hd, hc, rowsOf]))) | (refine guardD_intro ?_ ?_ <;> (intro hd; have hc := hd; (try simp at hc) <;> (try simp -implicitDefEqProofs [-loopQ_n, hd, hc, rowsOf]))) | (refine ldD_ep ?_ ?_; (focus kernel_rfl); (try simp -implicitDefEqProofs [-loopQ_n, rowsOf])) | (refine callS_mk ?_; (try simp -implicitDefEqProofs [-loopQ_n, rowsOf]); (first | refine callS_intro (hcm) (.inl rfl) ?_); (try simp -implicitDefEqProofs [-loopQ_n, rowsOf])))))
      ((try simp -implicitDefEqProofs [-loopQ_n, g2, rowsOf]) <;> (repeat' (first | (refine condD_dec ?_ ?_ <;> (intro hc; (try simp -implicitDefEqProofs [-loopQ_n, hc, g2, rowsOf]))) | (refine guardD_dec ?_ ?_ <;> (intro hc; (try simp -implicitDefEqProofs [-loopQ_n, hc, g2, rowsOf]))) | (refine condD_intro ?_ ?_ <;> (intro hd; have hc := hd; (try simp at hc) <;> (try simp -implicitDefEqProofs [-loopQ_n, hd, hc, g2, rowsOf]))) | (refine guardD_intro ?_ ?_ <;> (intro hd; have hc := hd; (try simp at hc) <;> (try simp -implicitDefEqProofs [-loopQ_n, hd, hc, g2, rowsOf]))) | (refine ldD_ep ?_ ?_; (focus kernel_rfl); (try simp -implicitDefEqProofs [-loopQ_n, g2, rowsOf])) | (refine callS_mk ?_; (try simp -implicitDefEqProofs [-loopQ_n, g2, rowsOf]); (first | refine callS_intro (hn) (.inr ⟨rfl, rfl⟩) ?_ | refine callS_intro (hm) (.inr ⟨rfl, rfl⟩) ?_ | refine callS_intro (eqS_pure l l (by omega) (by omega)) (.inl rfl) ?_ | refine callS_intro (alph_pure l) (.inl rfl) ?_); (try simp -implicitDefEqProofs [-loopQ_n, g2, rowsOf])))))
      have hl0 : l = [] := q1
      subst hl0
      refine loop_intro (σ := Unit) (fun _ => ⟨[(0, .rs []), (10, .rs []), (14, .int .i64 1)], []⟩) (fun _ => True) (fun _ => 0) () trivial ?_ ?_
      · refine weak_of 0 0 rfl rfl ?_ ?_ <;> simp [rowsOf]
      rintro _ _
      ((try simp -implicitDefEqProofs [-loopQ_n]) <;> (repeat' (first | (refine condD_dec ?_ ?_ <;> (intro hc; (try simp -implicitDefEqProofs [-loopQ_n, hc]))) | (refine guardD_dec ?_ ?_ <;> (intro hc; (try simp -implicitDefEqProofs [-loopQ_n, hc]))) | (refine condD_intro ?_ ?_ <;> (intro hd; have hc := hd; (try simp at hc) <;> (try simp -implicitDefEqProofs [-loopQ_n, hd, hc]))) | (refine guardD_intro ?_ ?_ <;> (intro hd; have hc := hd; (try simp at hc) <;> (try simp -implicitDefEqProofs [-loopQ_n, hd, hc]))) | (refine ldD_ep ?_ ?_; (focus kernel_rfl); (try simp -implicitDefEqProofs [-loopQ_n])))))
      refine loop_intro (σ := Unit) (fun _ => ⟨[(10, .rs []), (133, .rs []), (134, .int .i64 0), (135, .int .i64 0)], []⟩) (fun _ => True) (fun _ => 0) () trivial ?_ ?_
      · refine weak_of 0 0 rfl rfl ?_ ?_ <;> simp [rowsOf]
      rintro _ _
      ((try simp -implicitDefEqProofs [-loopQ_n]) <;> (repeat' (first | (refine condD_dec ?_ ?_ <;> (intro hc; (try simp -implicitDefEqProofs [-loopQ_n, hc]))) | (refine guardD_dec ?_ ?_ <;> (intro hc; (try simp -implicitDefEqProofs [-loopQ_n, hc]))) | (refine condD_intro ?_ ?_ <;> (intro hd; have hc := hd; (try simp at hc) <;> (try simp -implicitDefEqProofs [-loopQ_n, hd, hc]))) | (refine guardD_intro ?_ ?_ <;> (intro hd; have hc := hd; (try simp at hc) <;> (try simp -implicitDefEqProofs [-loopQ_n, hd, hc]))) | (refine ldD_ep ?_ ?_; (focus kernel_rfl); (try simp -implicitDefEqProofs [-loopQ_n])))))
  · have hcl := cloneS_fresh a h0 (by omega)
    have hlf : ((rowsOf strC a).all fun r => r.all flat) = true := rowsOf_flat fun x => by simp [strC, flat]
    have hl9 : a.length ≤ 1073741823 := by omega
    cases hs : sortedR a with
    | error e =>
      rw [hs, exN] at hn
      have he : ¬ e = 0 := by
        unfold sortedR at hs
        split at hs
        · split at hs
          · cases hs; decide
          · split at hs
            · cases hs; decide
            · cases hs
        · cases hs; decide
      refine fresh_intro hcl (by simp) (.inl hlf) ?_
      ((try simp -implicitDefEqProofs [-loopQ_n, hl9, strC_len, strC_snoc, sw_reify]) <;> (repeat' (first | (refine condD_dec ?_ ?_ <;> (intro hc; (try simp -implicitDefEqProofs [-loopQ_n, hc, hl9, strC_len, strC_snoc, sw_reify]))) | (refine guardD_dec ?_ ?_ <;> (intro hc; (try simp -implicitDefEqProofs [-loopQ_n, hc, hl9, strC_len, strC_snoc, sw_reify]))) | (refine condD_intro ?_ ?_ <;> (intro hd; have hc := hd; (try simp at hc) <;> (try simp -implicitDefEqProofs [-loopQ_n, hd, hc, hl9, strC_len, strC_snoc, sw_reify]))) | (refine guardD_intro ?_ ?_ <;> (intro hd; have hc := hd; (try simp at hc) <;> (try simp -implicitDefEqProofs [-loopQ_n, hd, hc, hl9, strC_len, strC_snoc, sw_reify]))) | (refine ldD_ep ?_ ?_; (focus kernel_rfl); (try simp -implicitDefEqProofs [-loopQ_n, hl9, strC_len, strC_snoc, sw_reify])) | (refine callS_mk ?_; (try simp -implicitDefEqProofs [-loopQ_n, hl9, strC_len, strC_snoc, sw_reify]); (first | refine callS_intro (hcm) (.inl rfl) ?_); (try simp -implicitDefEqProofs [-loopQ_n, hl9, strC_len, strC_snoc, sw_reify])))))
      ((try simp -implicitDefEqProofs [-loopQ_n, he]) <;> (repeat' (first | (refine condD_dec ?_ ?_ <;> (intro hc; (try simp -implicitDefEqProofs [-loopQ_n, hc, he]))) | (refine guardD_dec ?_ ?_ <;> (intro hc; (try simp -implicitDefEqProofs [-loopQ_n, hc, he]))) | (refine condD_intro ?_ ?_ <;> (intro hd; have hc := hd; (try simp at hc) <;> (try simp -implicitDefEqProofs [-loopQ_n, hd, hc, he]))) | (refine guardD_intro ?_ ?_ <;> (intro hd; have hc := hd; (try simp at hc) <;> (try simp -implicitDefEqProofs [-loopQ_n, hd, hc, he]))) | (refine ldD_ep ?_ ?_; (focus kernel_rfl); (try simp -implicitDefEqProofs [-loopQ_n, he])) | (refine callS_mk ?_; (try simp -implicitDefEqProofs [-loopQ_n, he]); (first | refine callS_intro (hn) (.inr ⟨rfl, rfl⟩) ?_); (try simp -implicitDefEqProofs [-loopQ_n, he])))))
    | ok l =>
      obtain ⟨g1, g2, g3⟩ := sorted_again hs
      obtain ⟨q1, q2, q3⟩ := sorted_ok hs
      have hm := nsorted_pure l (by omega)
      rw [hs, exN] at hn
      rw [g1, exN] at hm
      refine fresh_intro hcl (by simp) (.inl hlf) ?_
      ((try simp -implicitDefEqProofs [-loopQ_n, hl9, strC_len, strC_snoc, sw_reify]) <;> (repeat' (first | (refine condD_dec ?_ ?_ <;> (intro hc; (try simp -implicitDefEqProofs [-loopQ_n, hc, hl9, strC_len, strC_snoc, sw_reify]))) | (refine guardD_dec ?_ ?_ <;> (intro hc; (try simp -implicitDefEqProofs [-loopQ_n, hc, hl9, strC_len, strC_snoc, sw_reify]))) | (refine condD_intro ?_ ?_ <;> (intro hd; have hc := hd; (try simp at hc) <;> (try simp -implicitDefEqProofs [-loopQ_n, hd, hc, hl9, strC_len, strC_snoc, sw_reify]))) | (refine guardD_intro ?_ ?_ <;> (intro hd; have hc := hd; (try simp at hc) <;> (try simp -implicitDefEqProofs [-loopQ_n, hd, hc, hl9, strC_len, strC_snoc, sw_reify]))) | (refine ldD_ep ?_ ?_; (focus kernel_rfl); (try simp -implicitDefEqProofs [-loopQ_n, hl9, strC_len, strC_snoc, sw_reify])) | (refine callS_mk ?_; (try simp -implicitDefEqProofs [-loopQ_n, hl9, strC_len, strC_snoc, sw_reify]); (first | refine callS_intro (hcm) (.inl rfl) ?_); (try simp -implicitDefEqProofs [-loopQ_n, hl9, strC_len, strC_snoc, sw_reify])))))
      ((try simp -implicitDefEqProofs [-loopQ_n, g2]) <;> (repeat' (first | (refine condD_dec ?_ ?_ <;> (intro hc; (try simp -implicitDefEqProofs [-loopQ_n, hc, g2]))) | (refine guardD_dec ?_ ?_ <;> (intro hc; (try simp -implicitDefEqProofs [-loopQ_n, hc, g2]))) | (refine condD_intro ?_ ?_ <;> (intro hd; have hc := hd; (try simp at hc) <;> (try simp -implicitDefEqProofs [-loopQ_n, hd, hc, g2]))) | (refine guardD_intro ?_ ?_ <;> (intro hd; have hc := hd; (try simp at hc) <;> (try simp -implicitDefEqProofs [-loopQ_n, hd, hc, g2]))) | (refine ldD_ep ?_ ?_; (focus kernel_rfl); (try simp -implicitDefEqProofs [-loopQ_n, g2])) | (refine callS_mk ?_; (try simp -implicitDefEqProofs [-loopQ_n, g2]); (first | refine callS_intro (hn) (.inr ⟨rfl, rfl⟩) ?_ | refine callS_intro (hm) (.inr ⟨rfl, rfl⟩) ?_ | refine callS_intro (eqS_pure l l (by omega) (by omega)) (.inl rfl) ?_ | refine callS_intro (alph_pure l) (.inl rfl) ?_); (try simp -implicitDefEqProofs [-loopQ_n, g2])))))
      refine loop_intro (σ := Nat) (fun j => ⟨[(0, .rs (rowsOf strC a)), (10, .rs (rowsOf strC l)), (14, .int .i64 ((j : Int) + 1))], []⟩) (fun j => j ≤ l.length) (fun j => l.length - j) 0 (by omega) ?_ ?_
      · refine weak_of 0 0 rfl rfl ?_ ?_ <;> simp
      rintro j hj
      by_cases h : j + 1 < l.length
      · have h' : (j : Int) + 1 < l.length := by omega
        have k0 : j < l.length := by omega
        have w3 : wrapI .i64 ((j : Int) + 1 - 1) = (j : Int) := by rw [wrap_in (by omega) (by omega)]; omega
        have w4 : wrapI .i64 (j : Int) = (j : Int) := wrap_in (by omega) (by omega)
        have w5 : wrapI .i64 ((j : Int) + 1 + 1) = (j : Int) + 1 + 1 := wrap_in (by omega) (by omega)
        have d1 : (0 : Int) ≤ (j : Int) + 1 := by omega
        have d2 : (j : Int) + 1 ≤ l.length := by omega
        have d3 : (j : Int) + 1 + 1 ≤ l.length := by omega
        have d4 : (j : Int) ≤ (j : Int) + 1 := by omega
        have d5 : (j : Int) + 1 ≤ (j : Int) + 1 + 1 := by omega
        have e1 := sl_one k0 1 rfl
        have e2 := sl_one h 1 rfl
        have hcc := ncompare_pure [l[j]] [l[j + 1]] (by simp) (by simp)
        rw [g3 j h] at hcc
        have tn : ((j : Int) + 1 + 1).toNat - (j + 1) = 1 := by omega
        ((try simp -implicitDefEqProofs [-loopQ_n, h, h', k0, w3, w4, w5, d1, d2, d3, d4, d5, e1, e2, tn]) <;> (repeat' (first | (refine condD_dec ?_ ?_ <;> (intro hc; (try simp -implicitDefEqProofs [-loopQ_n, hc, h, h', k0, w3, w4, w5, d1, d2, d3, d4, d5, e1, e2, tn]))) | (refine guardD_dec ?_ ?_ <;> (intro hc; (try simp -implicitDefEqProofs [-loopQ_n, hc, h, h', k0, w3, w4, w5, d1, d2, d3, d4, d5, e1, e2, tn]))) | (refine condD_intro ?_ ?_ <;> (intro hd; have hc := hd; (try simp at hc) <;> (try simp -implicitDefEqProofs [-loopQ_n, hd, hc, h, h', k0, w3, w4, w5, d1, d2, d3, d4, d5, e1, e2, tn]))) | (refine guardD_intro ?_ ?_ <;> (intro hd; have hc := hd; (try simp at hc) <;> (try simp -implicitDefEqProofs [-loopQ_n, hd, hc, h, h', k0, w3, w4, w5, d1, d2, d3, d4, d5, e1, e2, tn]))) | (refine ldD_ep ?_ ?_; (focus kernel_rfl); (try simp -implicitDefEqProofs [-loopQ_n, h, h', k0, w3, w4, w5, d1, d2, d3, d4, d5, e1, e2, tn])) | (refine callS_mk ?_; (try simp -implicitDefEqProofs [-loopQ_n, h, h', k0, w3, w4, w5, d1, d2, d3, d4, d5, e1, e2, tn]); (first | refine callS_intro (hcc) (.inl rfl) ?_); (try simp -implicitDefEqProofs [-loopQ_n, h, h', k0, w3, w4, w5, d1, d2, d3, d4, d5, e1, e2, tn])))))
        refine loop_next (j + 1) (by omega) (by omega) (weak_of 0 0 rfl rfl ?_ ?_) <;> simp
      · have h' : ¬ (j : Int) + 1 < l.length := by omega
        clear h hj
        ((try simp -implicitDefEqProofs [-loopQ_n, h']) <;> (repeat' (first | (refine condD_dec ?_ ?_ <;> (intro hc; (try simp -implicitDefEqProofs [-loopQ_n, hc, h']))) | (refine guardD_dec ?_ ?_ <;> (intro hc; (try simp -implicitDefEqProofs [-loopQ_n, hc, h']))) | (refine condD_intro ?_ ?_ <;> (intro hd; have hc := hd; (try simp at hc) <;> (try simp -implicitDefEqProofs [-loopQ_n, hd, hc, h']))) | (refine guardD_intro ?_ ?_ <;> (intro hd; have hc := hd; (try simp at hc) <;> (try simp -implicitDefEqProofs [-loopQ_n, hd, hc, h']))) | (refine ldD_ep ?_ ?_; (focus kernel_rfl); (try simp -implicitDefEqProofs [-loopQ_n, h'])))))
        refine loop_intro (σ := Nat) (fun i => ⟨[(10, .rs (rowsOf strC l)), (133, .rs (rowsOf strC a)), (134, .int .i64 a.length), (135, .int .i64 i)], []⟩) (fun i => i ≤ a.length) (fun i => a.length - i) 0 (by omega) ?_ ?_
        · refine weak_of 0 0 rfl rfl ?_ ?_ <;> simp
        rintro i hi
        by_cases h : i < a.length
        · have w1 := sw_suc h (by omega)
          obtain ⟨k, hk, hkl, hke⟩ := idxS_in (l := l) (x := a[i]) (by rw [q1, setB_mem]; exact List.getElem_mem h)
          have hI := nindex_pure l a[i] (by omega)
          rw [hk] at hI
          have k1 : ¬ (k : Int) < 0 := by omega
          have k2 : ¬ (l.length : Int) ≤ k := by omega
          have k3 : ¬ l.length ≤ k := by omega
          have k4 : l[k].toList = a[i].toList := by rw [hke]
          ((try simp -implicitDefEqProofs [-loopQ_n, h, w1, hkl, k1, k2, k3, k4, strC]) <;> (repeat' (first | (refine condD_dec ?_ ?_ <;> (intro hc; (try simp -implicitDefEqProofs [-loopQ_n, hc, h, w1, hkl, k1, k2, k3, k4, strC]))) | (refine guardD_dec ?_ ?_ <;> (intro hc; (try simp -implicitDefEqProofs [-loopQ_n, hc, h, w1, hkl, k1, k2, k3, k4, strC]))) | (refine condD_intro ?_ ?_ <;> (intro hd; have hc := hd; (try simp at hc) <;> (try simp -implicitDefEqProofs [-loopQ_n, hd, hc, h, w1, hkl, k1, k2, k3, k4, strC]))) | (refine guardD_intro ?_ ?_ <;> (intro hd; have hc := hd; (try simp at hc) <;> (try simp -implicitDefEqProofs [-loopQ_n, hd, hc, h, w1, hkl, k1, k2, k3, k4, strC]))) | (refine ldD_ep ?_ ?_; (focus kernel_rfl); (try simp -implicitDefEqProofs [-loopQ_n, h, w1, hkl, k1, k2, k3, k4, strC])) | (refine callS_mk ?_; (try simp -implicitDefEqProofs [-loopQ_n, h, w1, hkl, k1, k2, k3, k4, strC]); (first | refine callS_intro (hI) (.inl rfl) ?_); (try simp -implicitDefEqProofs [-loopQ_n, h, w1, hkl, k1, k2, k3, k4, strC])))))
          refine loop_next (i + 1) h (by omega) (weak_of 0 0 rfl rfl ?_ ?_) <;> simp
        · ((try simp -implicitDefEqProofs [-loopQ_n, h]) <;> (repeat' (first | (refine condD_dec ?_ ?_ <;> (intro hc; (try simp -implicitDefEqProofs [-loopQ_n, hc, h]))) | (refine guardD_dec ?_ ?_ <;> (intro hc; (try simp -implicitDefEqProofs [-loopQ_n, hc, h]))) | (refine condD_intro ?_ ?_ <;> (intro hd; have hc := hd; (try simp at hc) <;> (try simp -implicitDefEqProofs [-loopQ_n, hd, hc, h]))) | (refine guardD_intro ?_ ?_ <;> (intro hd; have hc := hd; (try simp at hc) <;> (try simp -implicitDefEqProofs [-loopQ_n, hd, hc, h]))) | (refine ldD_ep ?_ ?_; (focus kernel_rfl); (try simp -implicitDefEqProofs [-loopQ_n, h])))))
set_option maxHeartbeats 16000000 in
theorem c6 (a b c : List ByteArray) (ha : a.length ≤ 9223372036854775807) (hb : b.length ≤ 9223372036854775807) (hlc : c.length ≤ 9223372036854775807) (hSa : shortL a = true) (hSb : shortL b = true) (hSc : shortL c = true) (p1 : (cmpL a b ≤ 0) = True) (p2 : (cmpL b c ≤ 0) = True) (p3 : (0 < cmpL a c) = False) (p4 : (cmpL a b < 0) = True) (p5 : (cmpL b c < 0) = True) (p6 : (0 ≤ cmpL a c) = False) :
    Pure Try.prog 9 [.rs (rowsOf strC a), .rs (rowsOf strC b), .rs (rowsOf strC c)] (.bool true) := by
  have hla := short_len hSa
  have hn := nsorted_pure a (by omega)
  have hanti := cmpL_anti a b
  have hv := cmpL_vals a b
  have hw : wrapI .i64 (-cmpL b a) = cmpL a b := by rw [wrap_in (by omega) (by omega)]; omega
  have hz : (cmpL a b = 0) = (a = b) := propext cmpL_iff
  have hcm := ncompare_pure a (a ++ [⟨#[120]⟩]) ha (by simp; omega)
  rw [cmpL_more] at hcm
  clear hanti hv
  refine pure_of mixed Try.func9 rfl (by kernel_rfl) (of_decide_eq_true rfl) (by kernel_rfl) (vc_run ?_)
  ((try simp -implicitDefEqProofs [-loopQ_n, hSa, hSb, hSc, hw, hz, p1, p2, p3, p4, p5, p6]) <;> (repeat' (first | (refine condD_dec ?_ ?_ <;> (intro hc; (try simp -implicitDefEqProofs [-loopQ_n, hc, hSa, hSb, hSc, hw, hz, p1, p2, p3, p4, p5, p6]))) | (refine guardD_dec ?_ ?_ <;> (intro hc; (try simp -implicitDefEqProofs [-loopQ_n, hc, hSa, hSb, hSc, hw, hz, p1, p2, p3, p4, p5, p6]))) | (refine condD_intro ?_ ?_ <;> (intro hd; have hc := hd; (try simp at hc) <;> (try simp -implicitDefEqProofs [-loopQ_n, hd, hc, hSa, hSb, hSc, hw, hz, p1, p2, p3, p4, p5, p6]))) | (refine guardD_intro ?_ ?_ <;> (intro hd; have hc := hd; (try simp at hc) <;> (try simp -implicitDefEqProofs [-loopQ_n, hd, hc, hSa, hSb, hSc, hw, hz, p1, p2, p3, p4, p5, p6]))) | (refine ldD_ep ?_ ?_; (focus kernel_rfl); (try simp -implicitDefEqProofs [-loopQ_n, hSa, hSb, hSc, hw, hz, p1, p2, p3, p4, p5, p6])) | (refine callS_mk ?_; (try simp -implicitDefEqProofs [-loopQ_n, hSa, hSb, hSc, hw, hz, p1, p2, p3, p4, p5, p6]); (first | refine callS_intro (awake_pure) (.inl rfl) ?_ | refine callS_intro (short_pure a ha) (.inl rfl) ?_ | refine callS_intro (short_pure b hb) (.inl rfl) ?_ | refine callS_intro (short_pure c hlc) (.inl rfl) ?_ | refine callS_intro (ncompare_pure a b ha hb) (.inl rfl) ?_ | refine callS_intro (ncompare_pure b c hb hlc) (.inl rfl) ?_ | refine callS_intro (ncompare_pure a c ha hlc) (.inl rfl) ?_ | refine callS_intro (ncompare_pure b a hb ha) (.inl rfl) ?_ | refine callS_intro (eqS_pure a b ha hb) (.inl rfl) ?_); (try simp -implicitDefEqProofs [-loopQ_n, hSa, hSb, hSc, hw, hz, p1, p2, p3, p4, p5, p6])))))
  by_cases h0 : a = []
  · subst h0
    cases hs : sortedR [] with
    | error e =>
      rw [hs, exN] at hn
      have he : ¬ e = 0 := by
        unfold sortedR at hs
        split at hs
        · split at hs
          · cases hs; decide
          · split at hs
            · cases hs; decide
            · cases hs
        · cases hs; decide
      ((try simp -implicitDefEqProofs [-loopQ_n, rowsOf]) <;> (repeat' (first | (refine condD_dec ?_ ?_ <;> (intro hc; (try simp -implicitDefEqProofs [-loopQ_n, hc, rowsOf]))) | (refine guardD_dec ?_ ?_ <;> (intro hc; (try simp -implicitDefEqProofs [-loopQ_n, hc, rowsOf]))) | (refine condD_intro ?_ ?_ <;> (intro hd; have hc := hd; (try simp at hc) <;> (try simp -implicitDefEqProofs [-loopQ_n, hd, hc, rowsOf]))) | (refine guardD_intro ?_ ?_ <;> (intro hd; have hc := hd; (try simp at hc) <;> (try simp -implicitDefEqProofs [-loopQ_n, hd, hc, rowsOf]))) | (refine ldD_ep ?_ ?_; (focus kernel_rfl); (try simp -implicitDefEqProofs [-loopQ_n, rowsOf])))))
      refine callG_intro (cloneS0_G fun nb => ?_)
      ((try simp -implicitDefEqProofs [-loopQ_n, rowsOf]) <;> (repeat' (first | (refine condD_dec ?_ ?_ <;> (intro hc; (try simp -implicitDefEqProofs [-loopQ_n, hc, rowsOf]))) | (refine guardD_dec ?_ ?_ <;> (intro hc; (try simp -implicitDefEqProofs [-loopQ_n, hc, rowsOf]))) | (refine condD_intro ?_ ?_ <;> (intro hd; have hc := hd; (try simp at hc) <;> (try simp -implicitDefEqProofs [-loopQ_n, hd, hc, rowsOf]))) | (refine guardD_intro ?_ ?_ <;> (intro hd; have hc := hd; (try simp at hc) <;> (try simp -implicitDefEqProofs [-loopQ_n, hd, hc, rowsOf]))) | (refine ldD_ep ?_ ?_; (focus kernel_rfl); (try simp -implicitDefEqProofs [-loopQ_n, rowsOf])) | (refine callS_mk ?_; (try simp -implicitDefEqProofs [-loopQ_n, rowsOf]); (first | refine callS_intro (hcm) (.inl rfl) ?_); (try simp -implicitDefEqProofs [-loopQ_n, rowsOf])))))
      ((try simp -implicitDefEqProofs [-loopQ_n, he, rowsOf]) <;> (repeat' (first | (refine condD_dec ?_ ?_ <;> (intro hc; (try simp -implicitDefEqProofs [-loopQ_n, hc, he, rowsOf]))) | (refine guardD_dec ?_ ?_ <;> (intro hc; (try simp -implicitDefEqProofs [-loopQ_n, hc, he, rowsOf]))) | (refine condD_intro ?_ ?_ <;> (intro hd; have hc := hd; (try simp at hc) <;> (try simp -implicitDefEqProofs [-loopQ_n, hd, hc, he, rowsOf]))) | (refine guardD_intro ?_ ?_ <;> (intro hd; have hc := hd; (try simp at hc) <;> (try simp -implicitDefEqProofs [-loopQ_n, hd, hc, he, rowsOf]))) | (refine ldD_ep ?_ ?_; (focus kernel_rfl); (try simp -implicitDefEqProofs [-loopQ_n, he, rowsOf])) | (refine callS_mk ?_; (try simp -implicitDefEqProofs [-loopQ_n, he, rowsOf]); (first | refine callS_intro (hn) (.inr ⟨rfl, rfl⟩) ?_); (try simp -implicitDefEqProofs [-loopQ_n, he, rowsOf])))))
    | ok l =>
      obtain ⟨g1, g2, g3⟩ := sorted_again hs
      obtain ⟨q1, q2, q3⟩ := sorted_ok hs
      have hm := nsorted_pure l (by omega)
      rw [hs, exN] at hn
      rw [g1, exN] at hm
      ((try simp -implicitDefEqProofs [-loopQ_n, rowsOf]) <;> (repeat' (first | (refine condD_dec ?_ ?_ <;> (intro hc; (try simp -implicitDefEqProofs [-loopQ_n, hc, rowsOf]))) | (refine guardD_dec ?_ ?_ <;> (intro hc; (try simp -implicitDefEqProofs [-loopQ_n, hc, rowsOf]))) | (refine condD_intro ?_ ?_ <;> (intro hd; have hc := hd; (try simp at hc) <;> (try simp -implicitDefEqProofs [-loopQ_n, hd, hc, rowsOf]))) | (refine guardD_intro ?_ ?_ <;> (intro hd; have hc := hd; (try simp at hc) <;> (try simp -implicitDefEqProofs [-loopQ_n, hd, hc, rowsOf]))) | (refine ldD_ep ?_ ?_; (focus kernel_rfl); (try simp -implicitDefEqProofs [-loopQ_n, rowsOf])))))
      refine callG_intro (cloneS0_G fun nb => ?_)
      ((try simp -implicitDefEqProofs [-loopQ_n, rowsOf]) <;> (repeat' (first | (refine condD_dec ?_ ?_ <;> (intro hc; (try simp -implicitDefEqProofs [-loopQ_n, hc, rowsOf]))) | (refine guardD_dec ?_ ?_ <;> (intro hc; (try simp -implicitDefEqProofs [-loopQ_n, hc, rowsOf]))) | (refine condD_intro ?_ ?_ <;> (intro hd; have hc := hd; (try simp at hc) <;> (try simp -implicitDefEqProofs [-loopQ_n, hd, hc, rowsOf]))) | (refine guardD_intro ?_ ?_ <;> (intro hd; have hc := hd; (try simp at hc) <;> (try simp -implicitDefEqProofs [-loopQ_n, hd, hc, rowsOf]))) | (refine ldD_ep ?_ ?_; (focus kernel_rfl); (try simp -implicitDefEqProofs [-loopQ_n, rowsOf])) | (refine callS_mk ?_; (try simp -implicitDefEqProofs [-loopQ_n, rowsOf]); (first | refine callS_intro (hcm) (.inl rfl) ?_); (try simp -implicitDefEqProofs [-loopQ_n, rowsOf])))))
      ((try simp -implicitDefEqProofs [-loopQ_n, g2, rowsOf]) <;> (repeat' (first | (refine condD_dec ?_ ?_ <;> (intro hc; (try simp -implicitDefEqProofs [-loopQ_n, hc, g2, rowsOf]))) | (refine guardD_dec ?_ ?_ <;> (intro hc; (try simp -implicitDefEqProofs [-loopQ_n, hc, g2, rowsOf]))) | (refine condD_intro ?_ ?_ <;> (intro hd; have hc := hd; (try simp at hc) <;> (try simp -implicitDefEqProofs [-loopQ_n, hd, hc, g2, rowsOf]))) | (refine guardD_intro ?_ ?_ <;> (intro hd; have hc := hd; (try simp at hc) <;> (try simp -implicitDefEqProofs [-loopQ_n, hd, hc, g2, rowsOf]))) | (refine ldD_ep ?_ ?_; (focus kernel_rfl); (try simp -implicitDefEqProofs [-loopQ_n, g2, rowsOf])) | (refine callS_mk ?_; (try simp -implicitDefEqProofs [-loopQ_n, g2, rowsOf]); (first | refine callS_intro (hn) (.inr ⟨rfl, rfl⟩) ?_ | refine callS_intro (hm) (.inr ⟨rfl, rfl⟩) ?_ | refine callS_intro (eqS_pure l l (by omega) (by omega)) (.inl rfl) ?_ | refine callS_intro (alph_pure l) (.inl rfl) ?_); (try simp -implicitDefEqProofs [-loopQ_n, g2, rowsOf])))))
      have hl0 : l = [] := q1
      subst hl0
      refine loop_intro (σ := Unit) (fun _ => ⟨[(0, .rs []), (10, .rs []), (14, .int .i64 1)], []⟩) (fun _ => True) (fun _ => 0) () trivial ?_ ?_
      · refine weak_of 0 0 rfl rfl ?_ ?_ <;> simp [rowsOf]
      rintro _ _
      ((try simp -implicitDefEqProofs [-loopQ_n]) <;> (repeat' (first | (refine condD_dec ?_ ?_ <;> (intro hc; (try simp -implicitDefEqProofs [-loopQ_n, hc]))) | (refine guardD_dec ?_ ?_ <;> (intro hc; (try simp -implicitDefEqProofs [-loopQ_n, hc]))) | (refine condD_intro ?_ ?_ <;> (intro hd; have hc := hd; (try simp at hc) <;> (try simp -implicitDefEqProofs [-loopQ_n, hd, hc]))) | (refine guardD_intro ?_ ?_ <;> (intro hd; have hc := hd; (try simp at hc) <;> (try simp -implicitDefEqProofs [-loopQ_n, hd, hc]))) | (refine ldD_ep ?_ ?_; (focus kernel_rfl); (try simp -implicitDefEqProofs [-loopQ_n])))))
      refine loop_intro (σ := Unit) (fun _ => ⟨[(10, .rs []), (133, .rs []), (134, .int .i64 0), (135, .int .i64 0)], []⟩) (fun _ => True) (fun _ => 0) () trivial ?_ ?_
      · refine weak_of 0 0 rfl rfl ?_ ?_ <;> simp [rowsOf]
      rintro _ _
      ((try simp -implicitDefEqProofs [-loopQ_n]) <;> (repeat' (first | (refine condD_dec ?_ ?_ <;> (intro hc; (try simp -implicitDefEqProofs [-loopQ_n, hc]))) | (refine guardD_dec ?_ ?_ <;> (intro hc; (try simp -implicitDefEqProofs [-loopQ_n, hc]))) | (refine condD_intro ?_ ?_ <;> (intro hd; have hc := hd; (try simp at hc) <;> (try simp -implicitDefEqProofs [-loopQ_n, hd, hc]))) | (refine guardD_intro ?_ ?_ <;> (intro hd; have hc := hd; (try simp at hc) <;> (try simp -implicitDefEqProofs [-loopQ_n, hd, hc]))) | (refine ldD_ep ?_ ?_; (focus kernel_rfl); (try simp -implicitDefEqProofs [-loopQ_n])))))
  · have hcl := cloneS_fresh a h0 (by omega)
    have hlf : ((rowsOf strC a).all fun r => r.all flat) = true := rowsOf_flat fun x => by simp [strC, flat]
    have hl9 : a.length ≤ 1073741823 := by omega
    cases hs : sortedR a with
    | error e =>
      rw [hs, exN] at hn
      have he : ¬ e = 0 := by
        unfold sortedR at hs
        split at hs
        · split at hs
          · cases hs; decide
          · split at hs
            · cases hs; decide
            · cases hs
        · cases hs; decide
      refine fresh_intro hcl (by simp) (.inl hlf) ?_
      ((try simp -implicitDefEqProofs [-loopQ_n, hl9, strC_len, strC_snoc, sw_reify]) <;> (repeat' (first | (refine condD_dec ?_ ?_ <;> (intro hc; (try simp -implicitDefEqProofs [-loopQ_n, hc, hl9, strC_len, strC_snoc, sw_reify]))) | (refine guardD_dec ?_ ?_ <;> (intro hc; (try simp -implicitDefEqProofs [-loopQ_n, hc, hl9, strC_len, strC_snoc, sw_reify]))) | (refine condD_intro ?_ ?_ <;> (intro hd; have hc := hd; (try simp at hc) <;> (try simp -implicitDefEqProofs [-loopQ_n, hd, hc, hl9, strC_len, strC_snoc, sw_reify]))) | (refine guardD_intro ?_ ?_ <;> (intro hd; have hc := hd; (try simp at hc) <;> (try simp -implicitDefEqProofs [-loopQ_n, hd, hc, hl9, strC_len, strC_snoc, sw_reify]))) | (refine ldD_ep ?_ ?_; (focus kernel_rfl); (try simp -implicitDefEqProofs [-loopQ_n, hl9, strC_len, strC_snoc, sw_reify])) | (refine callS_mk ?_; (try simp -implicitDefEqProofs [-loopQ_n, hl9, strC_len, strC_snoc, sw_reify]); (first | refine callS_intro (hcm) (.inl rfl) ?_); (try simp -implicitDefEqProofs [-loopQ_n, hl9, strC_len, strC_snoc, sw_reify])))))
      ((try simp -implicitDefEqProofs [-loopQ_n, he]) <;> (repeat' (first | (refine condD_dec ?_ ?_ <;> (intro hc; (try simp -implicitDefEqProofs [-loopQ_n, hc, he]))) | (refine guardD_dec ?_ ?_ <;> (intro hc; (try simp -implicitDefEqProofs [-loopQ_n, hc, he]))) | (refine condD_intro ?_ ?_ <;> (intro hd; have hc := hd; (try simp at hc) <;> (try simp -implicitDefEqProofs [-loopQ_n, hd, hc, he]))) | (refine guardD_intro ?_ ?_ <;> (intro hd; have hc := hd; (try simp at hc) <;> (try simp -implicitDefEqProofs [-loopQ_n, hd, hc, he]))) | (refine ldD_ep ?_ ?_; (focus kernel_rfl); (try simp -implicitDefEqProofs [-loopQ_n, he])) | (refine callS_mk ?_; (try simp -implicitDefEqProofs [-loopQ_n, he]); (first | refine callS_intro (hn) (.inr ⟨rfl, rfl⟩) ?_); (try simp -implicitDefEqProofs [-loopQ_n, he])))))
    | ok l =>
      obtain ⟨g1, g2, g3⟩ := sorted_again hs
      obtain ⟨q1, q2, q3⟩ := sorted_ok hs
      have hm := nsorted_pure l (by omega)
      rw [hs, exN] at hn
      rw [g1, exN] at hm
      refine fresh_intro hcl (by simp) (.inl hlf) ?_
      ((try simp -implicitDefEqProofs [-loopQ_n, hl9, strC_len, strC_snoc, sw_reify]) <;> (repeat' (first | (refine condD_dec ?_ ?_ <;> (intro hc; (try simp -implicitDefEqProofs [-loopQ_n, hc, hl9, strC_len, strC_snoc, sw_reify]))) | (refine guardD_dec ?_ ?_ <;> (intro hc; (try simp -implicitDefEqProofs [-loopQ_n, hc, hl9, strC_len, strC_snoc, sw_reify]))) | (refine condD_intro ?_ ?_ <;> (intro hd; have hc := hd; (try simp at hc) <;> (try simp -implicitDefEqProofs [-loopQ_n, hd, hc, hl9, strC_len, strC_snoc, sw_reify]))) | (refine guardD_intro ?_ ?_ <;> (intro hd; have hc := hd; (try simp at hc) <;> (try simp -implicitDefEqProofs [-loopQ_n, hd, hc, hl9, strC_len, strC_snoc, sw_reify]))) | (refine ldD_ep ?_ ?_; (focus kernel_rfl); (try simp -implicitDefEqProofs [-loopQ_n, hl9, strC_len, strC_snoc, sw_reify])) | (refine callS_mk ?_; (try simp -implicitDefEqProofs [-loopQ_n, hl9, strC_len, strC_snoc, sw_reify]); (first | refine callS_intro (hcm) (.inl rfl) ?_); (try simp -implicitDefEqProofs [-loopQ_n, hl9, strC_len, strC_snoc, sw_reify])))))
      ((try simp -implicitDefEqProofs [-loopQ_n, g2]) <;> (repeat' (first | (refine condD_dec ?_ ?_ <;> (intro hc; (try simp -implicitDefEqProofs [-loopQ_n, hc, g2]))) | (refine guardD_dec ?_ ?_ <;> (intro hc; (try simp -implicitDefEqProofs [-loopQ_n, hc, g2]))) | (refine condD_intro ?_ ?_ <;> (intro hd; have hc := hd; (try simp at hc) <;> (try simp -implicitDefEqProofs [-loopQ_n, hd, hc, g2]))) | (refine guardD_intro ?_ ?_ <;> (intro hd; have hc := hd; (try simp at hc) <;> (try simp -implicitDefEqProofs [-loopQ_n, hd, hc, g2]))) | (refine ldD_ep ?_ ?_; (focus kernel_rfl); (try simp -implicitDefEqProofs [-loopQ_n, g2])) | (refine callS_mk ?_; (try simp -implicitDefEqProofs [-loopQ_n, g2]); (first | refine callS_intro (hn) (.inr ⟨rfl, rfl⟩) ?_ | refine callS_intro (hm) (.inr ⟨rfl, rfl⟩) ?_ | refine callS_intro (eqS_pure l l (by omega) (by omega)) (.inl rfl) ?_ | refine callS_intro (alph_pure l) (.inl rfl) ?_); (try simp -implicitDefEqProofs [-loopQ_n, g2])))))
      refine loop_intro (σ := Nat) (fun j => ⟨[(0, .rs (rowsOf strC a)), (10, .rs (rowsOf strC l)), (14, .int .i64 ((j : Int) + 1))], []⟩) (fun j => j ≤ l.length) (fun j => l.length - j) 0 (by omega) ?_ ?_
      · refine weak_of 0 0 rfl rfl ?_ ?_ <;> simp
      rintro j hj
      by_cases h : j + 1 < l.length
      · have h' : (j : Int) + 1 < l.length := by omega
        have k0 : j < l.length := by omega
        have w3 : wrapI .i64 ((j : Int) + 1 - 1) = (j : Int) := by rw [wrap_in (by omega) (by omega)]; omega
        have w4 : wrapI .i64 (j : Int) = (j : Int) := wrap_in (by omega) (by omega)
        have w5 : wrapI .i64 ((j : Int) + 1 + 1) = (j : Int) + 1 + 1 := wrap_in (by omega) (by omega)
        have d1 : (0 : Int) ≤ (j : Int) + 1 := by omega
        have d2 : (j : Int) + 1 ≤ l.length := by omega
        have d3 : (j : Int) + 1 + 1 ≤ l.length := by omega
        have d4 : (j : Int) ≤ (j : Int) + 1 := by omega
        have d5 : (j : Int) + 1 ≤ (j : Int) + 1 + 1 := by omega
        have e1 := sl_one k0 1 rfl
        have e2 := sl_one h 1 rfl
        have hcc := ncompare_pure [l[j]] [l[j + 1]] (by simp) (by simp)
        rw [g3 j h] at hcc
        have tn : ((j : Int) + 1 + 1).toNat - (j + 1) = 1 := by omega
        ((try simp -implicitDefEqProofs [-loopQ_n, h, h', k0, w3, w4, w5, d1, d2, d3, d4, d5, e1, e2, tn]) <;> (repeat' (first | (refine condD_dec ?_ ?_ <;> (intro hc; (try simp -implicitDefEqProofs [-loopQ_n, hc, h, h', k0, w3, w4, w5, d1, d2, d3, d4, d5, e1, e2, tn]))) | (refine guardD_dec ?_ ?_ <;> (intro hc; (try simp -implicitDefEqProofs [-loopQ_n, hc, h, h', k0, w3, w4, w5, d1, d2, d3, d4, d5, e1, e2, tn]))) | (refine condD_intro ?_ ?_ <;> (intro hd; have hc := hd; (try simp at hc) <;> (try simp -implicitDefEqProofs [-loopQ_n, hd, hc, h, h', k0, w3, w4, w5, d1, d2, d3, d4, d5, e1, e2, tn]))) | (refine guardD_intro ?_ ?_ <;> (intro hd; have hc := hd; (try simp at hc) <;> (try simp -implicitDefEqProofs [-loopQ_n, hd, hc, h, h', k0, w3, w4, w5, d1, d2, d3, d4, d5, e1, e2, tn]))) | (refine ldD_ep ?_ ?_; (focus kernel_rfl); (try simp -implicitDefEqProofs [-loopQ_n, h, h', k0, w3, w4, w5, d1, d2, d3, d4, d5, e1, e2, tn])) | (refine callS_mk ?_; (try simp -implicitDefEqProofs [-loopQ_n, h, h', k0, w3, w4, w5, d1, d2, d3, d4, d5, e1, e2, tn]); (first | refine callS_intro (hcc) (.inl rfl) ?_); (try simp -implicitDefEqProofs [-loopQ_n, h, h', k0, w3, w4, w5, d1, d2, d3, d4, d5, e1, e2, tn])))))
        refine loop_next (j + 1) (by omega) (by omega) (weak_of 0 0 rfl rfl ?_ ?_) <;> simp
      · have h' : ¬ (j : Int) + 1 < l.length := by omega
        clear h hj
        ((try simp -implicitDefEqProofs [-loopQ_n, h']) <;> (repeat' (first | (refine condD_dec ?_ ?_ <;> (intro hc; (try simp -implicitDefEqProofs [-loopQ_n, hc, h']))) | (refine guardD_dec ?_ ?_ <;> (intro hc; (try simp -implicitDefEqProofs [-loopQ_n, hc, h']))) | (refine condD_intro ?_ ?_ <;> (intro hd; have hc := hd; (try simp at hc) <;> (try simp -implicitDefEqProofs [-loopQ_n, hd, hc, h']))) | (refine guardD_intro ?_ ?_ <;> (intro hd; have hc := hd; (try simp at hc) <;> (try simp -implicitDefEqProofs [-loopQ_n, hd, hc, h']))) | (refine ldD_ep ?_ ?_; (focus kernel_rfl); (try simp -implicitDefEqProofs [-loopQ_n, h'])))))
        refine loop_intro (σ := Nat) (fun i => ⟨[(10, .rs (rowsOf strC l)), (133, .rs (rowsOf strC a)), (134, .int .i64 a.length), (135, .int .i64 i)], []⟩) (fun i => i ≤ a.length) (fun i => a.length - i) 0 (by omega) ?_ ?_
        · refine weak_of 0 0 rfl rfl ?_ ?_ <;> simp
        rintro i hi
        by_cases h : i < a.length
        · have w1 := sw_suc h (by omega)
          obtain ⟨k, hk, hkl, hke⟩ := idxS_in (l := l) (x := a[i]) (by rw [q1, setB_mem]; exact List.getElem_mem h)
          have hI := nindex_pure l a[i] (by omega)
          rw [hk] at hI
          have k1 : ¬ (k : Int) < 0 := by omega
          have k2 : ¬ (l.length : Int) ≤ k := by omega
          have k3 : ¬ l.length ≤ k := by omega
          have k4 : l[k].toList = a[i].toList := by rw [hke]
          ((try simp -implicitDefEqProofs [-loopQ_n, h, w1, hkl, k1, k2, k3, k4, strC]) <;> (repeat' (first | (refine condD_dec ?_ ?_ <;> (intro hc; (try simp -implicitDefEqProofs [-loopQ_n, hc, h, w1, hkl, k1, k2, k3, k4, strC]))) | (refine guardD_dec ?_ ?_ <;> (intro hc; (try simp -implicitDefEqProofs [-loopQ_n, hc, h, w1, hkl, k1, k2, k3, k4, strC]))) | (refine condD_intro ?_ ?_ <;> (intro hd; have hc := hd; (try simp at hc) <;> (try simp -implicitDefEqProofs [-loopQ_n, hd, hc, h, w1, hkl, k1, k2, k3, k4, strC]))) | (refine guardD_intro ?_ ?_ <;> (intro hd; have hc := hd; (try simp at hc) <;> (try simp -implicitDefEqProofs [-loopQ_n, hd, hc, h, w1, hkl, k1, k2, k3, k4, strC]))) | (refine ldD_ep ?_ ?_; (focus kernel_rfl); (try simp -implicitDefEqProofs [-loopQ_n, h, w1, hkl, k1, k2, k3, k4, strC])) | (refine callS_mk ?_; (try simp -implicitDefEqProofs [-loopQ_n, h, w1, hkl, k1, k2, k3, k4, strC]); (first | refine callS_intro (hI) (.inl rfl) ?_); (try simp -implicitDefEqProofs [-loopQ_n, h, w1, hkl, k1, k2, k3, k4, strC])))))
          refine loop_next (i + 1) h (by omega) (weak_of 0 0 rfl rfl ?_ ?_) <;> simp
        · ((try simp -implicitDefEqProofs [-loopQ_n, h]) <;> (repeat' (first | (refine condD_dec ?_ ?_ <;> (intro hc; (try simp -implicitDefEqProofs [-loopQ_n, hc, h]))) | (refine guardD_dec ?_ ?_ <;> (intro hc; (try simp -implicitDefEqProofs [-loopQ_n, hc, h]))) | (refine condD_intro ?_ ?_ <;> (intro hd; have hc := hd; (try simp at hc) <;> (try simp -implicitDefEqProofs [-loopQ_n, hd, hc, h]))) | (refine guardD_intro ?_ ?_ <;> (intro hd; have hc := hd; (try simp at hc) <;> (try simp -implicitDefEqProofs [-loopQ_n, hd, hc, h]))) | (refine ldD_ep ?_ ?_; (focus kernel_rfl); (try simp -implicitDefEqProofs [-loopQ_n, h])))))
set_option maxHeartbeats 16000000 in
theorem both (x0 : AV) (s0 : argS Try.prog 22 x0) (x1 : AV) (s1 : argS Try.prog 22 x1) (x2 : AV) (s2 : argS Try.prog 22 x2) :
    Pure Try.prog 9 [x0, x1, x2] (.bool true) := by
  obtain ⟨a, rfl, ha, _⟩ := arg_strs s0
  obtain ⟨b, rfl, hb, _⟩ := arg_strs s1
  obtain ⟨c, rfl, hlc, _⟩ := arg_strs s2
  by_cases hS : shortL a = true ∧ shortL b = true ∧ shortL c = true
  · obtain ⟨hSa, hSb, hSc⟩ := hS
    have htr := cmpL_trans a b c
    have hv1 := cmpL_vals a b
    have hv2 := cmpL_vals b c
    have hv3 := cmpL_vals a c
    by_cases p1 : cmpL a b ≤ 0
    · by_cases p4 : cmpL a b < 0
      · by_cases p2 : cmpL b c ≤ 0
        · by_cases p5 : cmpL b c < 0
          · have := (htr p1 p2).2 (.inl p4)
            exact c6 a b c ha hb hlc hSa hSb hSc (eq_true p1) (eq_true p2) (eq_false (by omega)) (eq_true p4) (eq_true p5) (eq_false (by omega))
          · have := (htr p1 p2).1
            exact c5 a b c ha hb hlc hSa hSb hSc (eq_true p1) (eq_true p2) (eq_false (by omega)) (eq_true p4) (eq_false p5)
        · exact c4 a b c ha hb hlc hSa hSb hSc (eq_true p1) (eq_false p2) (eq_true p4) (eq_false (by omega))
      · by_cases p2 : cmpL b c ≤ 0
        · have := (htr p1 p2).1
          exact c3 a b c ha hb hlc hSa hSb hSc (eq_true p1) (eq_true p2) (eq_false (by omega)) (eq_false p4)
        · exact c2 a b c ha hb hlc hSa hSb hSc (eq_true p1) (eq_false p2) (eq_false p4)
    · exact c1 a b c ha hb hlc hSa hSb hSc (eq_false p1) (eq_false (by omega))
  · revert hS; intro hS
    refine pure_of mixed Try.func9 rfl (by kernel_rfl) (of_decide_eq_true rfl) (by kernel_rfl) (vc_run ?_)
    by_cases hSa : shortL a = true
    · by_cases hSb : shortL b = true
      · have hSc : shortL c = false := by simpa [hSa, hSb] using hS
        ((try simp -implicitDefEqProofs [-loopQ_n, hSa, hSb, hSc]) <;> (repeat' (first | (refine condD_dec ?_ ?_ <;> (intro hc; (try simp -implicitDefEqProofs [-loopQ_n, hc, hSa, hSb, hSc]))) | (refine guardD_dec ?_ ?_ <;> (intro hc; (try simp -implicitDefEqProofs [-loopQ_n, hc, hSa, hSb, hSc]))) | (refine condD_intro ?_ ?_ <;> (intro hd; have hc := hd; (try simp at hc) <;> (try simp -implicitDefEqProofs [-loopQ_n, hd, hc, hSa, hSb, hSc]))) | (refine guardD_intro ?_ ?_ <;> (intro hd; have hc := hd; (try simp at hc) <;> (try simp -implicitDefEqProofs [-loopQ_n, hd, hc, hSa, hSb, hSc]))) | (refine ldD_ep ?_ ?_; (focus kernel_rfl); (try simp -implicitDefEqProofs [-loopQ_n, hSa, hSb, hSc])) | (refine callS_mk ?_; (try simp -implicitDefEqProofs [-loopQ_n, hSa, hSb, hSc]); (first | refine callS_intro (awake_pure) (.inl rfl) ?_ | refine callS_intro (short_pure a ha) (.inl rfl) ?_ | refine callS_intro (short_pure b hb) (.inl rfl) ?_ | refine callS_intro (short_pure c hlc) (.inl rfl) ?_); (try simp -implicitDefEqProofs [-loopQ_n, hSa, hSb, hSc])))))
      · have hSb : shortL b = false := by simpa using hSb
        ((try simp -implicitDefEqProofs [-loopQ_n, hSa, hSb]) <;> (repeat' (first | (refine condD_dec ?_ ?_ <;> (intro hc; (try simp -implicitDefEqProofs [-loopQ_n, hc, hSa, hSb]))) | (refine guardD_dec ?_ ?_ <;> (intro hc; (try simp -implicitDefEqProofs [-loopQ_n, hc, hSa, hSb]))) | (refine condD_intro ?_ ?_ <;> (intro hd; have hc := hd; (try simp at hc) <;> (try simp -implicitDefEqProofs [-loopQ_n, hd, hc, hSa, hSb]))) | (refine guardD_intro ?_ ?_ <;> (intro hd; have hc := hd; (try simp at hc) <;> (try simp -implicitDefEqProofs [-loopQ_n, hd, hc, hSa, hSb]))) | (refine ldD_ep ?_ ?_; (focus kernel_rfl); (try simp -implicitDefEqProofs [-loopQ_n, hSa, hSb])) | (refine callS_mk ?_; (try simp -implicitDefEqProofs [-loopQ_n, hSa, hSb]); (first | refine callS_intro (awake_pure) (.inl rfl) ?_ | refine callS_intro (short_pure a ha) (.inl rfl) ?_ | refine callS_intro (short_pure b hb) (.inl rfl) ?_); (try simp -implicitDefEqProofs [-loopQ_n, hSa, hSb])))))
    · have hSa : shortL a = false := by simpa using hSa
      ((try simp -implicitDefEqProofs [-loopQ_n, hSa]) <;> (repeat' (first | (refine condD_dec ?_ ?_ <;> (intro hc; (try simp -implicitDefEqProofs [-loopQ_n, hc, hSa]))) | (refine guardD_dec ?_ ?_ <;> (intro hc; (try simp -implicitDefEqProofs [-loopQ_n, hc, hSa]))) | (refine condD_intro ?_ ?_ <;> (intro hd; have hc := hd; (try simp at hc) <;> (try simp -implicitDefEqProofs [-loopQ_n, hd, hc, hSa]))) | (refine guardD_intro ?_ ?_ <;> (intro hd; have hc := hd; (try simp at hc) <;> (try simp -implicitDefEqProofs [-loopQ_n, hd, hc, hSa]))) | (refine ldD_ep ?_ ?_; (focus kernel_rfl); (try simp -implicitDefEqProofs [-loopQ_n, hSa])) | (refine callS_mk ?_; (try simp -implicitDefEqProofs [-loopQ_n, hSa]); (first | refine callS_intro (awake_pure) (.inl rfl) ?_ | refine callS_intro (short_pure a ha) (.inl rfl) ?_); (try simp -implicitDefEqProofs [-loopQ_n, hSa])))))
theorem walk (W : World) (hvo : VarsOk W (fun _ => False)) (v0 : Value) (x0 : AV) (r0 : RO W (fun _ => False) x0 v0) (s0 : argS Try.prog 22 x0) (v1 : Value) (x1 : AV) (r1 : RO W (fun _ => False) x1 v1) (s1 : argS Try.prog 22 x1) (v2 : Value) (x2 : AV) (r2 : RO W (fun _ => False) x2 v2) (s2 : argS Try.prog 22 x2) :
    Calls Try.prog 9 #[v0, v1, v2] W fun e w' => e = .returned (.bool true) ∧ Below W.heap.size W w' := by
  refine ((both x0 s0 x1 s1 x2 s2).2 W (fun _ => False) _ (fun _ h => h.elim) hvo rfl ?_).mono ?_
  · intro j x v hj hv
    match j with
    | 0 => simp at hj hv; subst hj hv; exact r0
    | 1 => simp at hj hv; subst hj hv; exact r1
    | 2 => simp at hj hv; subst hj hv; exact r2
    | j + 3 => simp at hj
  · rintro e w' ⟨v, rfl, hv, hb⟩
    rw [ro_tt hv]
    exact ⟨rfl, hb⟩
end
set_option maxRecDepth 100000 in
theorem lifted (os : Os) (started : os.Started) (H : Type) (enc : TypeId × Value → H) :
    ReturnsInHanded {} Try.checked os 9 .any (Rows.nameOrderSpec.pre6 enc Try.prog Try.f9 Rows.nameOrderRow.domain false) (Rows.nameOrderSpec.post enc Try.prog Try.f9 false true false false) := by
  refine returnsInHanded_of_change (C := Try.checked) (@ownK ⟨fun _ => none⟩) started (by kernel_rfl) Try.func9
    (ChangeSpec.witness6 (enc := enc) (C := Try.checked) false ⟨#[], #[.slice none 0 0, .slice none 0 0, .slice none 0 0], []⟩ 8 (by kernel_rfl) (by kernel_rfl) (by kernel_rfl) (by kernel_rfl)) ?_
  intro W base args ds gs before hval0 hW hcnd _
  have hval : ∀ (j : Nat) t v, Try.f9.params[j]? = some t → args[j]? = some v → Value.okWide Try.prog W .any base t v := hval0
  have hW' := hW
  obtain ⟨p, q, hA0, hV, rfl, hfz, hnd⟩ := hW
  have hA : DataW.TrodAll enc Try.prog W 0 (fun _ => true) true Try.f9.params.toList args.toList ds p := hA0
  rw [Try.params9] at hA hval
  obtain ⟨v0, vs0, d0, ds0, p0, q0, hargs, rfl, rfl, h0, r0⟩ := trodAll_cons hA
  obtain ⟨v1, vs1, d1, ds1, p1, q1, rfl, rfl, rfl, h1, r1⟩ := trodAll_cons r0
  obtain ⟨v2, vs2, d2, ds2, p2, q2, rfl, rfl, rfl, h2, r2⟩ := trodAll_cons r1
  obtain ⟨rfl, rfl, rfl⟩ := trodAll_nil r2
  obtain rfl : args = #[v0, v1, v2] := by cases args; simp_all
  obtain ⟨rfl, rfl⟩ := trodVars_none hV
  letI : Glob := ⟨fun _ => none⟩
  have k0 := h0
  have lt0 : ∀ x ∈ p0, x.block < W.heap.size := by obtain ⟨m, hm⟩ := k0; exact DataW.trod_lt m _ _ _ hm
  obtain ⟨x0, y0, s0⟩ := arg_open (P := Try.prog) (t := 22) (by kernel_rfl) (by kernel_rfl) (hval 0 22 v0 rfl rfl) h0
  have k1 := h1
  have lt1 : ∀ x ∈ p1, x.block < W.heap.size := by obtain ⟨m, hm⟩ := k1; exact DataW.trod_lt m _ _ _ hm
  obtain ⟨x1, y1, s1⟩ := arg_open (P := Try.prog) (t := 22) (by kernel_rfl) (by kernel_rfl) (hval 1 22 v1 rfl rfl) h1
  have k2 := h2
  have lt2 : ∀ x ∈ p2, x.block < W.heap.size := by obtain ⟨m, hm⟩ := k2; exact DataW.trod_lt m _ _ _ hm
  obtain ⟨x2, y2, s2⟩ := arg_open (P := Try.prog) (t := 22) (by kernel_rfl) (by kernel_rfl) (hval 2 22 v2 rfl rfl) h2
  clear hA0 hval0
  refine (walk W (fun g row h => by cases h) v0 x0 y0 s0 v1 x1 y1 s1 v2 x2 y2 s2).mono fun e W' ⟨he, bel⟩ => ?_
  subst he
  exact ⟨_, rfl, _, _, _, [], _, [], hW', trodAll_mk1 (shut_bool Try.underlying4 _), (trodAll_cons_mk (Below.trod laidK (by kernel_rfl) (of_decide_eq_true (by kernel_rfl)) k0 bel lt0) (trodAll_cons_mk (Below.trod laidK (by kernel_rfl) (of_decide_eq_true (by kernel_rfl)) k1 bel lt1) (trodAll_cons_mk (Below.trod laidK (by kernel_rfl) (of_decide_eq_true (by kernel_rfl)) k2 bel lt2) trodAll_mk0))), rfl, bel.frame _, fun h => by cases h⟩

theorem over : Rows.nameOrderRow.holds Try.pinned (OpenSpec.ofChange Rows.nameOrderSpec) :=
  OpenClaim.holds_of_wide 9 Try.f9 rfl rfl rfl rfl rfl rfl rfl ⟨rfl, rfl, rfl, rfl, rfl⟩ rfl rfl rfl rfl rfl (by kernel_rfl) Try.func9 (by kernel_rfl)
    (of_decide_eq_true (by kernel_rfl)) (by unfold Func.isWrapper; first | (rw [if_pos (by decide +kernel)]; kernel_rfl) | (rw [if_neg (by decide +kernel)]; exact ⟨rfl, rfl⟩))
    (fun os started H enc _ => lifted os started H enc)

theorem proved : Rows.NameOrderSaid := over
end Go.Proofs.Ytlcblpofikijmaa.lawOrder
