/- Lines: the words of a line (reference). -/
import Derived.Test.YtlcblpofikijmaaLin4
namespace Go.Proofs.Ytlcblpofikijmaa
set_option linter.unusedSimpArgs false
set_option linter.unusedVariables false
set_option linter.unnecessarySimpa false
set_option linter.unusedSectionVars false
open Go.RowKit
variable [Glob]
set_option maxRecDepth 100000
theorem bl_ext {s : ByteArray} {i : Nat} (hi : i ≤ s.size) : bl (s.extract i s.size) = (bl s).drop i := by
  rw [ext_eq hi (Nat.le_refl _)]
  show (((bl s).drop i).take (s.size - i)) = _
  exact List.take_of_length_le (by simp)
theorem ext_size {s : ByteArray} {i : Nat} (hi : i ≤ s.size) : (s.extract i s.size).size = s.size - i := by
  have := congrArg List.length (bl_ext hi)
  simpa using this
def rwSt (s : ByteArray) (x : Nat × List ByteArray) : St := ⟨[(0, .str s), (4, .os 0 x.2.length), (5, .int .i64 x.1)], [.row 9 true (rowsOf strC x.2)]⟩
set_option maxHeartbeats 8000000 in
theorem rwords_pure (s : ByteArray) (hs : s.size ≤ 100000) : Pure Try.prog 13 [.str s] (exL (wrdR s)) := by
  refine pure_of mixed Try.func13 rfl (by kernel_rfl) (of_decide_eq_true rfl) (by kernel_rfl) (vc_run ?_)
  by_cases h1 : 16384 < s.size
  · have h1' : (16384 : Int) < s.size := by omega
    ((try simp -implicitDefEqProofs [-loopQ_n, h1']) <;> (repeat' (first | (refine condD_dec ?_ ?_ <;> (intro hc; (try simp -implicitDefEqProofs [-loopQ_n, hc, h1']))) | (refine guardD_dec ?_ ?_ <;> (intro hc; (try simp -implicitDefEqProofs [-loopQ_n, hc, h1']))) | (refine condD_intro ?_ ?_ <;> (intro hd; have hc := hd; (try simp at hc) <;> (try simp -implicitDefEqProofs [-loopQ_n, hd, hc, h1']))) | (refine guardD_intro ?_ ?_ <;> (intro hd; have hc := hd; (try simp at hc) <;> (try simp -implicitDefEqProofs [-loopQ_n, hd, hc, h1']))) | (refine ldD_ep ?_ ?_; (focus kernel_rfl); (try simp -implicitDefEqProofs [-loopQ_n, h1'])))))
    simp [wrdR, h1, exL]
  have h1' : ¬ (16384 : Int) < s.size := by omega
  have hs2 : s.size ≤ 1000000 := by omega
  by_cases h3 : prS s = true
  · ((try simp -implicitDefEqProofs [-loopQ_n, h1', h3]) <;> (repeat' (first | (refine condD_dec ?_ ?_ <;> (intro hc; (try simp -implicitDefEqProofs [-loopQ_n, hc, h1', h3]))) | (refine guardD_dec ?_ ?_ <;> (intro hc; (try simp -implicitDefEqProofs [-loopQ_n, hc, h1', h3]))) | (refine condD_intro ?_ ?_ <;> (intro hd; have hc := hd; (try simp at hc) <;> (try simp -implicitDefEqProofs [-loopQ_n, hd, hc, h1', h3]))) | (refine guardD_intro ?_ ?_ <;> (intro hd; have hc := hd; (try simp at hc) <;> (try simp -implicitDefEqProofs [-loopQ_n, hd, hc, h1', h3]))) | (refine ldD_ep ?_ ?_; (focus kernel_rfl); (try simp -implicitDefEqProofs [-loopQ_n, h1', h3])) | (refine callS_mk ?_; (try simp -implicitDefEqProofs [-loopQ_n, h1', h3]); (first | refine callS_intro (rPrintable_pure s hs2) (.inl rfl) ?_); (try simp -implicitDefEqProofs [-loopQ_n, h1', h3])))))
    refine loop_intro (σ := Nat × List ByteArray) (rwSt s) (wdI s) (fun x => s.size - x.1) (0, []) ⟨by simp, by simp, s.size + 1, by simp, by simp⟩ ?_ ?_
    · refine weak_of 0 1 rfl rfl ?_ ?_ <;> simp [rwSt, rowsOf]
    rintro ⟨i, acc⟩ ⟨hi, hl, n, hn, hR⟩
    simp only at hi hl hn hR
    have hl1 : acc.length ≤ 1073741823 := by omega
    by_cases h : i < s.size
    · obtain ⟨m, rfl⟩ : ∃ m, n = m + 1 := ⟨n - 1, by omega⟩
      rw [bl_drop h, wdF] at hR
      have w1 := w_suc h (by omega)
      by_cases c32 : (s.data[i].toNat : Int) = 32
      · have c32' : s.data[i] = 32 := by simpa only [u8_32] using c32
        rw [if_pos c32'] at hR
        ((try simp -implicitDefEqProofs [-loopQ_n, rwSt, h, byte_at h, c32, w1]) <;> (repeat' (first | (refine condD_dec ?_ ?_ <;> (intro hc; (try simp -implicitDefEqProofs [-loopQ_n, hc, rwSt, h, byte_at h, c32, w1]))) | (refine guardD_dec ?_ ?_ <;> (intro hc; (try simp -implicitDefEqProofs [-loopQ_n, hc, rwSt, h, byte_at h, c32, w1]))) | (refine condD_intro ?_ ?_ <;> (intro hd; have hc := hd; (try simp at hc) <;> (try simp -implicitDefEqProofs [-loopQ_n, hd, hc, rwSt, h, byte_at h, c32, w1]))) | (refine guardD_intro ?_ ?_ <;> (intro hd; have hc := hd; (try simp at hc) <;> (try simp -implicitDefEqProofs [-loopQ_n, hd, hc, rwSt, h, byte_at h, c32, w1]))) | (refine ldD_ep ?_ ?_; (focus kernel_rfl); (try simp -implicitDefEqProofs [-loopQ_n, rwSt, h, byte_at h, c32, w1])))))
        refine loop_next (i + 1, acc) ⟨by simp only; omega, by simp only; omega, m, by simp only; omega, hR⟩ (by simp only; omega) (weak_of 1 0 rfl rfl ?_ ?_) <;> simp [rwSt, strC_refs]
      have n32 : ¬ s.data[i] = 32 := by simpa only [u8_32] using c32
      by_cases c34 : (s.data[i].toNat : Int) = 34
      · have c34' : s.data[i] = 34 := by simpa only [u8_34] using c34
        rw [if_neg n32, if_pos c34'] at hR
        have hP := rread_pure (s.extract i s.size) (by rw [ext_size hi]; omega) (by rw [ext_size hi]; omega)
        have hbe : (bl (s.extract i s.size)).tail = (bl s).drop (i + 1) := by rw [bl_ext hi, List.tail_drop]
        rw [readR, hbe, ext_size hi] at hP
        have p0 : (0 : Int) ≤ i := by omega
        have p1 : (i : Int) ≤ s.size := by omega
        cases hd : rdL [] ((bl s).drop (i + 1)) with
        | error e =>
          have e0 : ¬ e = 0 := by rcases rdL_err _ _ _ _ (Nat.le_refl _) hd with h | h <;> omega
          simp only [hd] at hR hP
          have hu : wrdR s = .error e := by simp [wrdR, h1, h3, ← hR]
          ((try simp -implicitDefEqProofs [-loopQ_n, rwSt, h, byte_at h, c32, c34, e0, w1, p0, p1]) <;> (repeat' (first | (refine condD_dec ?_ ?_ <;> (intro hc; (try simp -implicitDefEqProofs [-loopQ_n, hc, rwSt, h, byte_at h, c32, c34, e0, w1, p0, p1]))) | (refine guardD_dec ?_ ?_ <;> (intro hc; (try simp -implicitDefEqProofs [-loopQ_n, hc, rwSt, h, byte_at h, c32, c34, e0, w1, p0, p1]))) | (refine condD_intro ?_ ?_ <;> (intro hd; have hc := hd; (try simp at hc) <;> (try simp -implicitDefEqProofs [-loopQ_n, hd, hc, rwSt, h, byte_at h, c32, c34, e0, w1, p0, p1]))) | (refine guardD_intro ?_ ?_ <;> (intro hd; have hc := hd; (try simp at hc) <;> (try simp -implicitDefEqProofs [-loopQ_n, hd, hc, rwSt, h, byte_at h, c32, c34, e0, w1, p0, p1]))) | (refine ldD_ep ?_ ?_; (focus kernel_rfl); (try simp -implicitDefEqProofs [-loopQ_n, rwSt, h, byte_at h, c32, c34, e0, w1, p0, p1])) | (refine callS_mk ?_; (try simp -implicitDefEqProofs [-loopQ_n, rwSt, h, byte_at h, c32, c34, e0, w1, p0, p1]); (first | refine callS_intro (hP) (.inl rfl) ?_); (try simp -implicitDefEqProofs [-loopQ_n, rwSt, h, byte_at h, c32, c34, e0, w1, p0, p1])))))
          rw [hu]; rfl
        | ok p =>
          obtain ⟨t, q⟩ := p
          simp only [hd] at hR hP
          obtain ⟨l1, l2, l3⟩ := rdL_len _ _ _ _ _ (Nat.le_refl _) hd
          simp only [List.length_drop, bl_len, List.drop_drop, List.length_nil] at l1 l2 l3
          have hq1 : q = (bl s).drop (s.size - q.length) := by rw [l3]; simp; congr 1; omega
          have w4 : wrapI .i64 ((i : Int) + ((s.size - i - q.length : Nat) : Int)) = ((s.size - q.length : Nat) : Int) := by rw [wrap_in (by omega) (by omega)]; omega
          by_cases hq : q = []
          · rw [if_pos (.inl hq)] at hR
            subst hq
            simp only [List.length_nil, Nat.sub_zero] at w4 hP
            ((try simp -implicitDefEqProofs [-loopQ_n, rwSt, h, byte_at h, c32, c34, w1, w4, p0, p1, hl1, strC_len, strC_snoc]) <;> (repeat' (first | (refine condD_dec ?_ ?_ <;> (intro hc; (try simp -implicitDefEqProofs [-loopQ_n, hc, rwSt, h, byte_at h, c32, c34, w1, w4, p0, p1, hl1, strC_len, strC_snoc]))) | (refine guardD_dec ?_ ?_ <;> (intro hc; (try simp -implicitDefEqProofs [-loopQ_n, hc, rwSt, h, byte_at h, c32, c34, w1, w4, p0, p1, hl1, strC_len, strC_snoc]))) | (refine condD_intro ?_ ?_ <;> (intro hd; have hc := hd; (try simp at hc) <;> (try simp -implicitDefEqProofs [-loopQ_n, hd, hc, rwSt, h, byte_at h, c32, c34, w1, w4, p0, p1, hl1, strC_len, strC_snoc]))) | (refine guardD_intro ?_ ?_ <;> (intro hd; have hc := hd; (try simp at hc) <;> (try simp -implicitDefEqProofs [-loopQ_n, hd, hc, rwSt, h, byte_at h, c32, c34, w1, w4, p0, p1, hl1, strC_len, strC_snoc]))) | (refine ldD_ep ?_ ?_; (focus kernel_rfl); (try simp -implicitDefEqProofs [-loopQ_n, rwSt, h, byte_at h, c32, c34, w1, w4, p0, p1, hl1, strC_len, strC_snoc])) | (refine callS_mk ?_; (try simp -implicitDefEqProofs [-loopQ_n, rwSt, h, byte_at h, c32, c34, w1, w4, p0, p1, hl1, strC_len, strC_snoc]); (first | refine callS_intro (hP) (.inl rfl) ?_); (try simp -implicitDefEqProofs [-loopQ_n, rwSt, h, byte_at h, c32, c34, w1, w4, p0, p1, hl1, strC_len, strC_snoc])))))
            refine loop_next (s.size, acc ++ [⟨t.toArray⟩]) ⟨Nat.le_refl _, by simp; omega, m, by simp only; omega, ?_⟩ (by simp only; omega) (weak_of 1 0 rfl rfl ?_ ?_) <;> simp [rwSt, strC_refs]
            rw [List.drop_eq_nil_of_le (by rw [bl_len]; exact Nat.le_refl _)]; exact hR
          · have hm : s.size - q.length < s.size := by
              have : q.length ≠ 0 := by simpa using hq
              omega
            have hm' : ((s.size - q.length : Nat) : Int) < s.size := by omega
            have hb := bl_drop hm
            rw [← hq1] at hb
            by_cases d32 : (s.data[s.size - q.length].toNat : Int) = 32
            · have d32' : s.data[s.size - q.length] = 32 := by simpa only [u8_32] using d32
              rw [if_pos (.inr (by rw [hb, d32']; rfl))] at hR
              ((try simp -implicitDefEqProofs [-loopQ_n, rwSt, h, byte_at h, c32, c34, hm, hm', byte_at hm, d32, w1, w4, p0, p1, hl1, strC_len, strC_snoc]) <;> (repeat' (first | (refine condD_dec ?_ ?_ <;> (intro hc; (try simp -implicitDefEqProofs [-loopQ_n, hc, rwSt, h, byte_at h, c32, c34, hm, hm', byte_at hm, d32, w1, w4, p0, p1, hl1, strC_len, strC_snoc]))) | (refine guardD_dec ?_ ?_ <;> (intro hc; (try simp -implicitDefEqProofs [-loopQ_n, hc, rwSt, h, byte_at h, c32, c34, hm, hm', byte_at hm, d32, w1, w4, p0, p1, hl1, strC_len, strC_snoc]))) | (refine condD_intro ?_ ?_ <;> (intro hd; have hc := hd; (try simp at hc) <;> (try simp -implicitDefEqProofs [-loopQ_n, hd, hc, rwSt, h, byte_at h, c32, c34, hm, hm', byte_at hm, d32, w1, w4, p0, p1, hl1, strC_len, strC_snoc]))) | (refine guardD_intro ?_ ?_ <;> (intro hd; have hc := hd; (try simp at hc) <;> (try simp -implicitDefEqProofs [-loopQ_n, hd, hc, rwSt, h, byte_at h, c32, c34, hm, hm', byte_at hm, d32, w1, w4, p0, p1, hl1, strC_len, strC_snoc]))) | (refine ldD_ep ?_ ?_; (focus kernel_rfl); (try simp -implicitDefEqProofs [-loopQ_n, rwSt, h, byte_at h, c32, c34, hm, hm', byte_at hm, d32, w1, w4, p0, p1, hl1, strC_len, strC_snoc])) | (refine callS_mk ?_; (try simp -implicitDefEqProofs [-loopQ_n, rwSt, h, byte_at h, c32, c34, hm, hm', byte_at hm, d32, w1, w4, p0, p1, hl1, strC_len, strC_snoc]); (first | refine callS_intro (hP) (.inl rfl) ?_); (try simp -implicitDefEqProofs [-loopQ_n, rwSt, h, byte_at h, c32, c34, hm, hm', byte_at hm, d32, w1, w4, p0, p1, hl1, strC_len, strC_snoc])))))
              refine loop_next (s.size - q.length, acc ++ [⟨t.toArray⟩]) ⟨by simp only; omega, by simp; omega, m, by simp only; omega, by simp only; rw [← hq1]; exact hR⟩ (by simp only; omega) (weak_of 1 0 rfl rfl ?_ ?_) <;> simp [rwSt, strC_refs]
            · have d32' : ¬ s.data[s.size - q.length] = 32 := by simpa only [u8_32] using d32
              rw [if_neg (by simp [hq]; rw [hb]; simp [d32'])] at hR
              have hu : wrdR s = .error 3 := by simp [wrdR, h1, h3, ← hR]
              ((try simp -implicitDefEqProofs [-loopQ_n, rwSt, h, byte_at h, c32, c34, hm, hm', byte_at hm, d32, w1, w4, p0, p1, hl1, strC_len, strC_snoc]) <;> (repeat' (first | (refine condD_dec ?_ ?_ <;> (intro hc; (try simp -implicitDefEqProofs [-loopQ_n, hc, rwSt, h, byte_at h, c32, c34, hm, hm', byte_at hm, d32, w1, w4, p0, p1, hl1, strC_len, strC_snoc]))) | (refine guardD_dec ?_ ?_ <;> (intro hc; (try simp -implicitDefEqProofs [-loopQ_n, hc, rwSt, h, byte_at h, c32, c34, hm, hm', byte_at hm, d32, w1, w4, p0, p1, hl1, strC_len, strC_snoc]))) | (refine condD_intro ?_ ?_ <;> (intro hd; have hc := hd; (try simp at hc) <;> (try simp -implicitDefEqProofs [-loopQ_n, hd, hc, rwSt, h, byte_at h, c32, c34, hm, hm', byte_at hm, d32, w1, w4, p0, p1, hl1, strC_len, strC_snoc]))) | (refine guardD_intro ?_ ?_ <;> (intro hd; have hc := hd; (try simp at hc) <;> (try simp -implicitDefEqProofs [-loopQ_n, hd, hc, rwSt, h, byte_at h, c32, c34, hm, hm', byte_at hm, d32, w1, w4, p0, p1, hl1, strC_len, strC_snoc]))) | (refine ldD_ep ?_ ?_; (focus kernel_rfl); (try simp -implicitDefEqProofs [-loopQ_n, rwSt, h, byte_at h, c32, c34, hm, hm', byte_at hm, d32, w1, w4, p0, p1, hl1, strC_len, strC_snoc])) | (refine callS_mk ?_; (try simp -implicitDefEqProofs [-loopQ_n, rwSt, h, byte_at h, c32, c34, hm, hm', byte_at hm, d32, w1, w4, p0, p1, hl1, strC_len, strC_snoc]); (first | refine callS_intro (hP) (.inl rfl) ?_); (try simp -implicitDefEqProofs [-loopQ_n, rwSt, h, byte_at h, c32, c34, hm, hm', byte_at hm, d32, w1, w4, p0, p1, hl1, strC_len, strC_snoc])))))
              rw [hu]; rfl
      have n34 : ¬ s.data[i] = 34 := by simpa only [u8_34] using c34
      rw [if_neg n32, if_neg n34, ← bl_drop h] at hR
      ((try simp -implicitDefEqProofs [-loopQ_n, rwSt, h, byte_at h, c32, c34, w1]) <;> (repeat' (first | (refine condD_dec ?_ ?_ <;> (intro hc; (try simp -implicitDefEqProofs [-loopQ_n, hc, rwSt, h, byte_at h, c32, c34, w1]))) | (refine guardD_dec ?_ ?_ <;> (intro hc; (try simp -implicitDefEqProofs [-loopQ_n, hc, rwSt, h, byte_at h, c32, c34, w1]))) | (refine condD_intro ?_ ?_ <;> (intro hd; have hc := hd; (try simp at hc) <;> (try simp -implicitDefEqProofs [-loopQ_n, hd, hc, rwSt, h, byte_at h, c32, c34, w1]))) | (refine guardD_intro ?_ ?_ <;> (intro hd; have hc := hd; (try simp at hc) <;> (try simp -implicitDefEqProofs [-loopQ_n, hd, hc, rwSt, h, byte_at h, c32, c34, w1]))) | (refine ldD_ep ?_ ?_; (focus kernel_rfl); (try simp -implicitDefEqProofs [-loopQ_n, rwSt, h, byte_at h, c32, c34, w1])))))
      refine loop_intro (σ := Nat) (fun j => ⟨[(0, .str s), (4, .os 0 acc.length), (5, .int .i64 j), (9, .int .i64 i)], [.row 9 true (rowsOf strC acc)]⟩) (fun j => j ≤ s.size ∧ Bare s i j) (fun j => s.size - j) i ⟨by omega, Bare.start s i⟩ ?_ ?_
      · refine weak_of 1 0 rfl rfl ?_ ?_ <;> simp [strC_refs]
      rintro j ⟨hj, hB⟩
      have hij := hB.le
      by_cases g : j < s.size
      · have w2 := w_suc g (by omega)
        by_cases d32 : (s.data[j].toNat : Int) = 32
        · have d32' : s.data[j] = 32 := by simpa only [u8_32] using d32
          obtain ⟨a1, a2, a3⟩ := hB.done (.inr ⟨g, d32'⟩)
          rw [if_neg a1, a2, a3] at hR
          have hlt : i < j := by
            rcases Nat.lt_or_eq_of_le hij with q | q
            · exact q
            · subst q; exact absurd d32' n32
          have p1 : (i : Int) ≤ j := by omega
          have p2 : (j : Int) ≤ s.size := by omega
          ((try simp -implicitDefEqProofs [-loopQ_n, g, byte_at g, d32, w2, p1, p2, hl1, strC_len, strC_snoc]) <;> (repeat' (first | (refine condD_dec ?_ ?_ <;> (intro hc; (try simp -implicitDefEqProofs [-loopQ_n, hc, g, byte_at g, d32, w2, p1, p2, hl1, strC_len, strC_snoc]))) | (refine guardD_dec ?_ ?_ <;> (intro hc; (try simp -implicitDefEqProofs [-loopQ_n, hc, g, byte_at g, d32, w2, p1, p2, hl1, strC_len, strC_snoc]))) | (refine condD_intro ?_ ?_ <;> (intro hd; have hc := hd; (try simp at hc) <;> (try simp -implicitDefEqProofs [-loopQ_n, hd, hc, g, byte_at g, d32, w2, p1, p2, hl1, strC_len, strC_snoc]))) | (refine guardD_intro ?_ ?_ <;> (intro hd; have hc := hd; (try simp at hc) <;> (try simp -implicitDefEqProofs [-loopQ_n, hd, hc, g, byte_at g, d32, w2, p1, p2, hl1, strC_len, strC_snoc]))) | (refine ldD_ep ?_ ?_; (focus kernel_rfl); (try simp -implicitDefEqProofs [-loopQ_n, g, byte_at g, d32, w2, p1, p2, hl1, strC_len, strC_snoc])))))
          rw [ext_eq hij hj]
          refine loop_next (j, acc ++ [⟨(((bl s).drop i).take (j - i)).toArray⟩]) ⟨hj, by simp; omega, m, by simp only; omega, hR⟩ (by simp only; omega) (weak_of 1 0 rfl rfl ?_ ?_) <;> simp [rwSt, strC_refs]
        have e32 : ¬ s.data[j] = 32 := by simpa only [u8_32] using d32
        by_cases d34 : (s.data[j].toNat : Int) = 34
        · have d34' : s.data[j] = 34 := by simpa only [u8_34] using d34
          rw [if_pos (hB.bad g d34')] at hR
          have hu : wrdR s = .error 3 := by simp [wrdR, h1, h3, ← hR]
          ((try simp -implicitDefEqProofs [-loopQ_n, g, byte_at g, d32, d34, w2]) <;> (repeat' (first | (refine condD_dec ?_ ?_ <;> (intro hc; (try simp -implicitDefEqProofs [-loopQ_n, hc, g, byte_at g, d32, d34, w2]))) | (refine guardD_dec ?_ ?_ <;> (intro hc; (try simp -implicitDefEqProofs [-loopQ_n, hc, g, byte_at g, d32, d34, w2]))) | (refine condD_intro ?_ ?_ <;> (intro hd; have hc := hd; (try simp at hc) <;> (try simp -implicitDefEqProofs [-loopQ_n, hd, hc, g, byte_at g, d32, d34, w2]))) | (refine guardD_intro ?_ ?_ <;> (intro hd; have hc := hd; (try simp at hc) <;> (try simp -implicitDefEqProofs [-loopQ_n, hd, hc, g, byte_at g, d32, d34, w2]))) | (refine ldD_ep ?_ ?_; (focus kernel_rfl); (try simp -implicitDefEqProofs [-loopQ_n, g, byte_at g, d32, d34, w2])))))
          rw [hu]; rfl
        have e34 : ¬ s.data[j] = 34 := by simpa only [u8_34] using d34
        ((try simp -implicitDefEqProofs [-loopQ_n, g, byte_at g, d32, d34, w2]) <;> (repeat' (first | (refine condD_dec ?_ ?_ <;> (intro hc; (try simp -implicitDefEqProofs [-loopQ_n, hc, g, byte_at g, d32, d34, w2]))) | (refine guardD_dec ?_ ?_ <;> (intro hc; (try simp -implicitDefEqProofs [-loopQ_n, hc, g, byte_at g, d32, d34, w2]))) | (refine condD_intro ?_ ?_ <;> (intro hd; have hc := hd; (try simp at hc) <;> (try simp -implicitDefEqProofs [-loopQ_n, hd, hc, g, byte_at g, d32, d34, w2]))) | (refine guardD_intro ?_ ?_ <;> (intro hd; have hc := hd; (try simp at hc) <;> (try simp -implicitDefEqProofs [-loopQ_n, hd, hc, g, byte_at g, d32, d34, w2]))) | (refine ldD_ep ?_ ?_; (focus kernel_rfl); (try simp -implicitDefEqProofs [-loopQ_n, g, byte_at g, d32, d34, w2])))))
        refine loop_next (j + 1) ⟨g, hB.next g e32 e34⟩ (by omega) (weak_of 1 0 rfl rfl ?_ ?_) <;> simp [strC_refs]
      · obtain ⟨a1, a2, a3⟩ := hB.done (.inl (by omega))
        rw [if_neg a1, a2, a3] at hR
        have p1 : (i : Int) ≤ j := by omega
        have p2 : (j : Int) ≤ s.size := by omega
        ((try simp -implicitDefEqProofs [-loopQ_n, g, p1, p2, hl1, strC_len, strC_snoc]) <;> (repeat' (first | (refine condD_dec ?_ ?_ <;> (intro hc; (try simp -implicitDefEqProofs [-loopQ_n, hc, g, p1, p2, hl1, strC_len, strC_snoc]))) | (refine guardD_dec ?_ ?_ <;> (intro hc; (try simp -implicitDefEqProofs [-loopQ_n, hc, g, p1, p2, hl1, strC_len, strC_snoc]))) | (refine condD_intro ?_ ?_ <;> (intro hd; have hc := hd; (try simp at hc) <;> (try simp -implicitDefEqProofs [-loopQ_n, hd, hc, g, p1, p2, hl1, strC_len, strC_snoc]))) | (refine guardD_intro ?_ ?_ <;> (intro hd; have hc := hd; (try simp at hc) <;> (try simp -implicitDefEqProofs [-loopQ_n, hd, hc, g, p1, p2, hl1, strC_len, strC_snoc]))) | (refine ldD_ep ?_ ?_; (focus kernel_rfl); (try simp -implicitDefEqProofs [-loopQ_n, g, p1, p2, hl1, strC_len, strC_snoc])))))
        rw [ext_eq hij hj]
        have hlt : i < j := by omega
        refine loop_next (j, acc ++ [⟨(((bl s).drop i).take (j - i)).toArray⟩]) ⟨hj, by simp; omega, m, by simp only; omega, hR⟩ (by simp only; omega) (weak_of 1 0 rfl rfl ?_ ?_) <;> simp [rwSt, strC_refs]
    · have hw : wdF (s.size + 1) [] (bl s) = .ok acc := by
        rw [← hR, List.drop_eq_nil_of_le (by simp; omega)]
        cases n <;> rfl
      by_cases hk : 1000 < acc.length
      · have hk' : (1000 : Int) < acc.length := by omega
        ((try simp -implicitDefEqProofs [-loopQ_n, rwSt, h, hk', strC_len]) <;> (repeat' (first | (refine condD_dec ?_ ?_ <;> (intro hc; (try simp -implicitDefEqProofs [-loopQ_n, hc, rwSt, h, hk', strC_len]))) | (refine guardD_dec ?_ ?_ <;> (intro hc; (try simp -implicitDefEqProofs [-loopQ_n, hc, rwSt, h, hk', strC_len]))) | (refine condD_intro ?_ ?_ <;> (intro hd; have hc := hd; (try simp at hc) <;> (try simp -implicitDefEqProofs [-loopQ_n, hd, hc, rwSt, h, hk', strC_len]))) | (refine guardD_intro ?_ ?_ <;> (intro hd; have hc := hd; (try simp at hc) <;> (try simp -implicitDefEqProofs [-loopQ_n, hd, hc, rwSt, h, hk', strC_len]))) | (refine ldD_ep ?_ ?_; (focus kernel_rfl); (try simp -implicitDefEqProofs [-loopQ_n, rwSt, h, hk', strC_len])))))
        simp [wrdR, h1, h3, hw, hk, exL]
      · have hk' : ¬ (1000 : Int) < acc.length := by omega
        ((try simp -implicitDefEqProofs [-loopQ_n, rwSt, h, hk', sl_reify]) <;> (repeat' (first | (refine condD_dec ?_ ?_ <;> (intro hc; (try simp -implicitDefEqProofs [-loopQ_n, hc, rwSt, h, hk', sl_reify]))) | (refine guardD_dec ?_ ?_ <;> (intro hc; (try simp -implicitDefEqProofs [-loopQ_n, hc, rwSt, h, hk', sl_reify]))) | (refine condD_intro ?_ ?_ <;> (intro hd; have hc := hd; (try simp at hc) <;> (try simp -implicitDefEqProofs [-loopQ_n, hd, hc, rwSt, h, hk', sl_reify]))) | (refine guardD_intro ?_ ?_ <;> (intro hd; have hc := hd; (try simp at hc) <;> (try simp -implicitDefEqProofs [-loopQ_n, hd, hc, rwSt, h, hk', sl_reify]))) | (refine ldD_ep ?_ ?_; (focus kernel_rfl); (try simp -implicitDefEqProofs [-loopQ_n, rwSt, h, hk', sl_reify])))))
        simp [wrdR, h1, h3, hw, hk, exL]
  · have h3 : prS s = false := by simpa using h3
    ((try simp -implicitDefEqProofs [-loopQ_n, h1', h3]) <;> (repeat' (first | (refine condD_dec ?_ ?_ <;> (intro hc; (try simp -implicitDefEqProofs [-loopQ_n, hc, h1', h3]))) | (refine guardD_dec ?_ ?_ <;> (intro hc; (try simp -implicitDefEqProofs [-loopQ_n, hc, h1', h3]))) | (refine condD_intro ?_ ?_ <;> (intro hd; have hc := hd; (try simp at hc) <;> (try simp -implicitDefEqProofs [-loopQ_n, hd, hc, h1', h3]))) | (refine guardD_intro ?_ ?_ <;> (intro hd; have hc := hd; (try simp at hc) <;> (try simp -implicitDefEqProofs [-loopQ_n, hd, hc, h1', h3]))) | (refine ldD_ep ?_ ?_; (focus kernel_rfl); (try simp -implicitDefEqProofs [-loopQ_n, h1', h3])) | (refine callS_mk ?_; (try simp -implicitDefEqProofs [-loopQ_n, h1', h3]); (first | refine callS_intro (rPrintable_pure s hs2) (.inl rfl) ?_); (try simp -implicitDefEqProofs [-loopQ_n, h1', h3])))))
    simp [wrdR, h1, h3, exL]
end Go.Proofs.Ytlcblpofikijmaa
