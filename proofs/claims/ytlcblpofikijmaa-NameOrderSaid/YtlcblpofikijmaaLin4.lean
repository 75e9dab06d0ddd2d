/- Lines: the words of a line (program). -/
import Derived.Test.YtlcblpofikijmaaLin3
namespace Go.Proofs.Ytlcblpofikijmaa
set_option linter.unusedSimpArgs false
set_option linter.unusedVariables false
set_option linter.unnecessarySimpa false
set_option linter.unusedSectionVars false
open Go.RowKit
variable [Glob]
set_option maxRecDepth 100000
/-- Not a space. -/
def nsp (c : UInt8) : Bool := c != 32
/-- The words of a line, or an error; the first number is greater than the number of bytes. -/
def wdF : Nat → List ByteArray → List UInt8 → Except Int (List ByteArray)
  | 0, acc, _ => .ok acc
  | _ + 1, acc, [] => .ok acc
  | n + 1, acc, c :: r => if c = 32 then wdF n acc r else if c = 34 then (match rdL [] r with | .error e => .error e | .ok (t, q) => if q = [] ∨ q.head? = some 32 then wdF n (acc ++ [⟨t.toArray⟩]) q else .error 3)
    else if 34 ∈ (c :: r).takeWhile nsp then .error 3 else wdF n (acc ++ [⟨((c :: r).takeWhile nsp).toArray⟩]) ((c :: r).dropWhile nsp)
def wrdR (s : ByteArray) : Except Int (List ByteArray) := if 16384 < s.size then .error 5 else if prS s = true then (match wdF (s.size + 1) [] (bl s) with | .error e => .error e | .ok l => if 1000 < l.length then .error 5 else .ok l) else .error 3
def exL (r : Except Int (List ByteArray)) : AV := match r with | .ok l => .tup [.rs (rowsOf strC l), .int .i64 0] | .error e => .tup [.rs [], .int .i64 e]
theorem strC_snoc {l : List ByteArray} {x : ByteArray} : rowsOf strC l ++ [[.str x]] = rowsOf strC (l ++ [x]) := by simp [rowsOf, strC]
theorem strC_refs {m : Nat} {l : List ByteArray} : refsR m (rowsOf strC l) = true := rowsOf_refs fun x => by simp [strC, refs]
theorem strC_len {l : List ByteArray} : (rowsOf strC l).length = l.length := rowsOf_length
theorem sl_reify {H : List Blk} {n : Nat} {l : List ByteArray} : (rowsOf strC l).mapM (fun row => row.mapM (reify H (n + 1))) = some (rowsOf strC l) := rowsOf_reify fun x => by simp [strC, reify]
theorem ext_eq {s : ByteArray} {i j : Nat} (hij : i ≤ j) (hj : j ≤ s.size) : s.extract i j = ⟨(((bl s).drop i).take (j - i)).toArray⟩ := by
  have : (s.extract i j).data = (((bl s).drop i).take (j - i)).toArray := by
    rw [ByteArray.data_extract]
    apply Array.toList_inj.1
    simp [Array.toList_extract]
  cases h : s.extract i j with | mk d => rw [h] at this; simp at this; simp [this]
/-- Where the bytes up to j of what begins at i are no spaces. -/
structure Bare (s : ByteArray) (i j : Nat) : Prop where
  le : i ≤ j
  tw : ((bl s).drop i).takeWhile nsp = ((bl s).drop i).take (j - i) ++ ((bl s).drop j).takeWhile nsp
  dw : ((bl s).drop i).dropWhile nsp = ((bl s).drop j).dropWhile nsp
  nq : 34 ∉ ((bl s).drop i).take (j - i)
theorem Bare.start (s : ByteArray) (i : Nat) : Bare s i i := ⟨Nat.le_refl _, by simp, rfl, by simp⟩
theorem Bare.next {s : ByteArray} {i j : Nat} (h : Bare s i j) (hj : j < s.size) (h1 : s.data[j] ≠ 32) (h2 : s.data[j] ≠ 34) : Bare s i (j + 1) := by
  have e : (bl s).drop j = s.data[j] :: (bl s).drop (j + 1) := bl_drop hj
  have ht : ((bl s).drop i).take (j + 1 - i) = ((bl s).drop i).take (j - i) ++ [s.data[j]] := by
    have hl := h.le
    rw [show j + 1 - i = (j - i) + 1 by omega, List.take_add_one]
    congr 1
    rw [List.getElem?_drop, show i + (j - i) = j by omega]
    simp [hj]
  have hn : nsp s.data[j] = true := by simp [nsp, h1]
  refine ⟨by have := h.le; omega, ?_, ?_, ?_⟩
  · rw [h.tw, e, List.takeWhile_cons, if_pos hn, ht]; simp
  · rw [h.dw, e, List.dropWhile_cons, if_pos hn]
  · rw [ht]; simp [h.nq]; exact fun q => h2 q.symm
theorem Bare.bad {s : ByteArray} {i j : Nat} (h : Bare s i j) (hj : j < s.size) (h1 : s.data[j] = 34) : 34 ∈ ((bl s).drop i).takeWhile nsp := by
  rw [h.tw, bl_drop hj, List.takeWhile_cons, if_pos (by rw [h1]; rfl), h1]; simp
theorem Bare.done {s : ByteArray} {i j : Nat} (h : Bare s i j) (hj : j = s.size ∨ ∃ h : j < s.size, s.data[j] = 32) : 34 ∉ ((bl s).drop i).takeWhile nsp ∧ ((bl s).drop i).takeWhile nsp = ((bl s).drop i).take (j - i) ∧ ((bl s).drop i).dropWhile nsp = (bl s).drop j := by
  have h0 : ((bl s).drop j).takeWhile nsp = [] ∧ ((bl s).drop j).dropWhile nsp = (bl s).drop j := by
    rcases hj with rfl | ⟨hj, e⟩
    · rw [List.drop_eq_nil_of_le (by rw [bl_len]; exact Nat.le_refl _)]; simp
    · rw [bl_drop hj, List.takeWhile_cons, List.dropWhile_cons, if_neg (by rw [e]; simp [nsp]), if_neg (by rw [e]; simp [nsp])]; simp
  have e1 : ((bl s).drop i).takeWhile nsp = ((bl s).drop i).take (j - i) := by rw [h.tw, h0.1]; simp
  exact ⟨by rw [e1]; exact h.nq, e1, by rw [h.dw, h0.2]⟩
theorem more_pure (s : ByteArray) (a : Nat) (hs : s.size ≤ 1000000) : Pure Try.prog 36 [.rp [.str s, .int .i64 a]] (.bool (decide (a < s.size))) := by
  refine pure_of mixed Try.func36 rfl (by kernel_rfl) (of_decide_eq_true rfl) (by kernel_rfl) (vc_run ?_)
  ((try simp -implicitDefEqProofs [-loopQ_n]) <;> (repeat' (first | (refine condD_dec ?_ ?_ <;> (intro hc; (try simp -implicitDefEqProofs [-loopQ_n, hc]))) | (refine guardD_dec ?_ ?_ <;> (intro hc; (try simp -implicitDefEqProofs [-loopQ_n, hc]))) | (refine condD_intro ?_ ?_ <;> (intro hd; have hc := hd; (try simp at hc) <;> (try simp -implicitDefEqProofs [-loopQ_n, hd, hc]))) | (refine guardD_intro ?_ ?_ <;> (intro hd; have hc := hd; (try simp at hc) <;> (try simp -implicitDefEqProofs [-loopQ_n, hd, hc]))) | (refine ldD_ep ?_ ?_; (focus kernel_rfl); (try simp -implicitDefEqProofs [-loopQ_n])))))
def wdSt (s : ByteArray) (x : Nat × List ByteArray) : St := ⟨[(0, .str s), (4, .os 1 x.2.length), (5, .op 0 0)], [rdB s x.1, .row 9 true (rowsOf strC x.2)]⟩
def wdI (s : ByteArray) (x : Nat × List ByteArray) : Prop := x.1 ≤ s.size ∧ x.2.length ≤ x.1 ∧ ∃ n, s.size - x.1 < n ∧ wdF n x.2 ((bl s).drop x.1) = wdF (s.size + 1) [] (bl s)
set_option maxHeartbeats 8000000 in
theorem words_pure (s : ByteArray) (hs : s.size ≤ 100000) : Pure Try.prog 12 [.str s] (exL (wrdR s)) := by
  refine pure_of mixed Try.func12 rfl (by kernel_rfl) (of_decide_eq_true rfl) (by kernel_rfl) (vc_run ?_)
  by_cases h1 : 16384 < s.size
  · have h1' : (16384 : Int) < s.size := by omega
    ((try simp -implicitDefEqProofs [-loopQ_n, h1']) <;> (repeat' (first | (refine condD_dec ?_ ?_ <;> (intro hc; (try simp -implicitDefEqProofs [-loopQ_n, hc, h1']))) | (refine guardD_dec ?_ ?_ <;> (intro hc; (try simp -implicitDefEqProofs [-loopQ_n, hc, h1']))) | (refine condD_intro ?_ ?_ <;> (intro hd; have hc := hd; (try simp at hc) <;> (try simp -implicitDefEqProofs [-loopQ_n, hd, hc, h1']))) | (refine guardD_intro ?_ ?_ <;> (intro hd; have hc := hd; (try simp at hc) <;> (try simp -implicitDefEqProofs [-loopQ_n, hd, hc, h1']))) | (refine ldD_ep ?_ ?_; (focus kernel_rfl); (try simp -implicitDefEqProofs [-loopQ_n, h1'])))))
    simp [wrdR, h1, exL]
  have h1' : ¬ (16384 : Int) < s.size := by omega
  have hs2 : s.size ≤ 1000000 := by omega
  by_cases h3 : prS s = true
  · ((try simp -implicitDefEqProofs [-loopQ_n, h1', h3]) <;> (repeat' (first | (refine condD_dec ?_ ?_ <;> (intro hc; (try simp -implicitDefEqProofs [-loopQ_n, hc, h1', h3]))) | (refine guardD_dec ?_ ?_ <;> (intro hc; (try simp -implicitDefEqProofs [-loopQ_n, hc, h1', h3]))) | (refine condD_intro ?_ ?_ <;> (intro hd; have hc := hd; (try simp at hc) <;> (try simp -implicitDefEqProofs [-loopQ_n, hd, hc, h1', h3]))) | (refine guardD_intro ?_ ?_ <;> (intro hd; have hc := hd; (try simp at hc) <;> (try simp -implicitDefEqProofs [-loopQ_n, hd, hc, h1', h3]))) | (refine ldD_ep ?_ ?_; (focus kernel_rfl); (try simp -implicitDefEqProofs [-loopQ_n, h1', h3])) | (refine callS_mk ?_; (try simp -implicitDefEqProofs [-loopQ_n, h1', h3]); (first | refine callS_intro (printable_pure s hs2) (.inl rfl) ?_); (try simp -implicitDefEqProofs [-loopQ_n, h1', h3])))))
    refine loop_intro (σ := Nat × List ByteArray) (wdSt s) (wdI s) (fun x => s.size - x.1) (0, []) ⟨by simp, by simp, s.size + 1, by simp, by simp⟩ ?_ ?_
    · refine weak_of 1 1 rfl rfl ?_ ?_ <;> simp [wdSt, rdB, rowsOf]
    rintro ⟨i, acc⟩ ⟨hi, hl, n, hn, hR⟩
    simp only at hi hl hn hR
    have hl1 : acc.length ≤ 1073741823 := by omega
    by_cases h : i < s.size
    · obtain ⟨m, rfl⟩ : ∃ m, n = m + 1 := ⟨n - 1, by omega⟩
      rw [bl_drop h, wdF] at hR
      have w1 := w_suc h (by omega)
      by_cases c32 : (s.data[i].toNat : Int) = 32
      · have c32' : s.data[i] = 32 := by simpa only [u8_32] using c32
        rw [if_pos c32'] at hR
        ((try simp -implicitDefEqProofs [-loopQ_n, wdSt, rdB, h, byte_at h, c32, w1]) <;> (repeat' (first | (refine condD_dec ?_ ?_ <;> (intro hc; (try simp -implicitDefEqProofs [-loopQ_n, hc, wdSt, rdB, h, byte_at h, c32, w1]))) | (refine guardD_dec ?_ ?_ <;> (intro hc; (try simp -implicitDefEqProofs [-loopQ_n, hc, wdSt, rdB, h, byte_at h, c32, w1]))) | (refine condD_intro ?_ ?_ <;> (intro hd; have hc := hd; (try simp at hc) <;> (try simp -implicitDefEqProofs [-loopQ_n, hd, hc, wdSt, rdB, h, byte_at h, c32, w1]))) | (refine guardD_intro ?_ ?_ <;> (intro hd; have hc := hd; (try simp at hc) <;> (try simp -implicitDefEqProofs [-loopQ_n, hd, hc, wdSt, rdB, h, byte_at h, c32, w1]))) | (refine ldD_ep ?_ ?_; (focus kernel_rfl); (try simp -implicitDefEqProofs [-loopQ_n, wdSt, rdB, h, byte_at h, c32, w1])) | (refine callS_mk ?_; (try simp -implicitDefEqProofs [-loopQ_n, wdSt, rdB, h, byte_at h, c32, w1]); (first | refine callS_intro (more_pure s i hs2) (.inl rfl) ?_); (try simp -implicitDefEqProofs [-loopQ_n, wdSt, rdB, h, byte_at h, c32, w1])))))
        refine loop_next (i + 1, acc) ⟨by simp only; omega, by simp only; omega, m, by simp only; omega, hR⟩ (by simp only; omega) (weak_of 2 0 rfl rfl ?_ ?_) <;> simp [wdSt, rdB, strC_refs]
      have n32 : ¬ s.data[i] = 32 := by simpa only [u8_32] using c32
      by_cases c34 : (s.data[i].toNat : Int) = 34
      · have c34' : s.data[i] = 34 := by simpa only [u8_34] using c34
        rw [if_neg n32, if_pos c34'] at hR
        cases hd : rdL [] ((bl s).drop (i + 1)) with
        | error e =>
          have e0 : ¬ e = 0 := by rcases rdL_err _ _ _ _ (Nat.le_refl _) hd with h | h <;> omega
          simp only [hd] at hR
          have hu : wrdR s = .error e := by simp [wrdR, h1, h3, ← hR]
          ((try simp -implicitDefEqProofs [-loopQ_n, wdSt, rdB, h, byte_at h, c32, c34, e0, w1]) <;> (repeat' (first | (refine condD_dec ?_ ?_ <;> (intro hc; (try simp -implicitDefEqProofs [-loopQ_n, hc, wdSt, rdB, h, byte_at h, c32, c34, e0, w1]))) | (refine guardD_dec ?_ ?_ <;> (intro hc; (try simp -implicitDefEqProofs [-loopQ_n, hc, wdSt, rdB, h, byte_at h, c32, c34, e0, w1]))) | (refine condD_intro ?_ ?_ <;> (intro hd; have hc := hd; (try simp at hc) <;> (try simp -implicitDefEqProofs [-loopQ_n, hd, hc, wdSt, rdB, h, byte_at h, c32, c34, e0, w1]))) | (refine guardD_intro ?_ ?_ <;> (intro hd; have hc := hd; (try simp at hc) <;> (try simp -implicitDefEqProofs [-loopQ_n, hd, hc, wdSt, rdB, h, byte_at h, c32, c34, e0, w1]))) | (refine ldD_ep ?_ ?_; (focus kernel_rfl); (try simp -implicitDefEqProofs [-loopQ_n, wdSt, rdB, h, byte_at h, c32, c34, e0, w1])) | (refine callS_mk ?_; (try simp -implicitDefEqProofs [-loopQ_n, wdSt, rdB, h, byte_at h, c32, c34, e0, w1]); (first | refine callS_intro (more_pure s i hs2) (.inl rfl) ?_); (try simp -implicitDefEqProofs [-loopQ_n, wdSt, rdB, h, byte_at h, c32, c34, e0, w1])) | (refine lit_callE (a := i + 1) hd rfl hs h ?_; (try simp -implicitDefEqProofs [-loopQ_n, wdSt, rdB, h, byte_at h, c32, c34, e0, w1])))))
          rw [hu]; rfl
        | ok p =>
          obtain ⟨t, q⟩ := p
          simp only [hd] at hR
          obtain ⟨l1, l2, l3⟩ := rdL_len _ _ _ _ _ (Nat.le_refl _) hd
          simp only [List.length_drop, bl_len, List.drop_drop, List.length_nil] at l1 l2 l3
          have hq1 : q = (bl s).drop (s.size - q.length) := by rw [l3]; simp; congr 1; omega
          by_cases hq : q = []
          · rw [if_pos (.inl hq)] at hR
            subst hq
            ((try simp -implicitDefEqProofs [-loopQ_n, wdSt, rdB, h, byte_at h, c32, c34, w1, hl1, strC_len, strC_snoc]) <;> (repeat' (first | (refine condD_dec ?_ ?_ <;> (intro hc; (try simp -implicitDefEqProofs [-loopQ_n, hc, wdSt, rdB, h, byte_at h, c32, c34, w1, hl1, strC_len, strC_snoc]))) | (refine guardD_dec ?_ ?_ <;> (intro hc; (try simp -implicitDefEqProofs [-loopQ_n, hc, wdSt, rdB, h, byte_at h, c32, c34, w1, hl1, strC_len, strC_snoc]))) | (refine condD_intro ?_ ?_ <;> (intro hd; have hc := hd; (try simp at hc) <;> (try simp -implicitDefEqProofs [-loopQ_n, hd, hc, wdSt, rdB, h, byte_at h, c32, c34, w1, hl1, strC_len, strC_snoc]))) | (refine guardD_intro ?_ ?_ <;> (intro hd; have hc := hd; (try simp at hc) <;> (try simp -implicitDefEqProofs [-loopQ_n, hd, hc, wdSt, rdB, h, byte_at h, c32, c34, w1, hl1, strC_len, strC_snoc]))) | (refine ldD_ep ?_ ?_; (focus kernel_rfl); (try simp -implicitDefEqProofs [-loopQ_n, wdSt, rdB, h, byte_at h, c32, c34, w1, hl1, strC_len, strC_snoc])) | (refine callS_mk ?_; (try simp -implicitDefEqProofs [-loopQ_n, wdSt, rdB, h, byte_at h, c32, c34, w1, hl1, strC_len, strC_snoc]); (first | refine callS_intro (more_pure s i hs2) (.inl rfl) ?_ | refine callS_intro (more_pure s s.size hs2) (.inl rfl) ?_); (try simp -implicitDefEqProofs [-loopQ_n, wdSt, rdB, h, byte_at h, c32, c34, w1, hl1, strC_len, strC_snoc])) | (refine lit_call (a := i + 1) hd rfl hs h ?_; (try simp -implicitDefEqProofs [-loopQ_n, wdSt, rdB, h, byte_at h, c32, c34, w1, hl1, strC_len, strC_snoc])))))
            refine loop_next (s.size, acc ++ [⟨t.toArray⟩]) ⟨Nat.le_refl _, by simp; omega, m, by simp only; omega, ?_⟩ (by simp only; omega) (weak_of 2 0 rfl rfl ?_ ?_) <;> simp [wdSt, rdB, strC_refs]
            rw [List.drop_eq_nil_of_le (by rw [bl_len]; exact Nat.le_refl _)]; exact hR
          · have hm : s.size - q.length < s.size := by
              have : q.length ≠ 0 := by simpa using hq
              omega
            have hb := bl_drop hm
            rw [← hq1] at hb
            by_cases d32 : (s.data[s.size - q.length].toNat : Int) = 32
            · have d32' : s.data[s.size - q.length] = 32 := by simpa only [u8_32] using d32
              rw [if_pos (.inr (by rw [hb, d32']; rfl))] at hR
              ((try simp -implicitDefEqProofs [-loopQ_n, wdSt, rdB, h, byte_at h, c32, c34, hm, byte_at hm, d32, w1, hl1, strC_len, strC_snoc]) <;> (repeat' (first | (refine condD_dec ?_ ?_ <;> (intro hc; (try simp -implicitDefEqProofs [-loopQ_n, hc, wdSt, rdB, h, byte_at h, c32, c34, hm, byte_at hm, d32, w1, hl1, strC_len, strC_snoc]))) | (refine guardD_dec ?_ ?_ <;> (intro hc; (try simp -implicitDefEqProofs [-loopQ_n, hc, wdSt, rdB, h, byte_at h, c32, c34, hm, byte_at hm, d32, w1, hl1, strC_len, strC_snoc]))) | (refine condD_intro ?_ ?_ <;> (intro hd; have hc := hd; (try simp at hc) <;> (try simp -implicitDefEqProofs [-loopQ_n, hd, hc, wdSt, rdB, h, byte_at h, c32, c34, hm, byte_at hm, d32, w1, hl1, strC_len, strC_snoc]))) | (refine guardD_intro ?_ ?_ <;> (intro hd; have hc := hd; (try simp at hc) <;> (try simp -implicitDefEqProofs [-loopQ_n, hd, hc, wdSt, rdB, h, byte_at h, c32, c34, hm, byte_at hm, d32, w1, hl1, strC_len, strC_snoc]))) | (refine ldD_ep ?_ ?_; (focus kernel_rfl); (try simp -implicitDefEqProofs [-loopQ_n, wdSt, rdB, h, byte_at h, c32, c34, hm, byte_at hm, d32, w1, hl1, strC_len, strC_snoc])) | (refine callS_mk ?_; (try simp -implicitDefEqProofs [-loopQ_n, wdSt, rdB, h, byte_at h, c32, c34, hm, byte_at hm, d32, w1, hl1, strC_len, strC_snoc]); (first | refine callS_intro (more_pure s i hs2) (.inl rfl) ?_ | refine callS_intro (more_pure s (s.size - q.length) hs2) (.inl rfl) ?_); (try simp -implicitDefEqProofs [-loopQ_n, wdSt, rdB, h, byte_at h, c32, c34, hm, byte_at hm, d32, w1, hl1, strC_len, strC_snoc])) | (refine lit_call (a := i + 1) hd rfl hs h ?_; (try simp -implicitDefEqProofs [-loopQ_n, wdSt, rdB, h, byte_at h, c32, c34, hm, byte_at hm, d32, w1, hl1, strC_len, strC_snoc])))))
              refine loop_next (s.size - q.length, acc ++ [⟨t.toArray⟩]) ⟨by simp only; omega, by simp; omega, m, by simp only; omega, by simp only; rw [← hq1]; exact hR⟩ (by simp only; omega) (weak_of 2 0 rfl rfl ?_ ?_) <;> simp [wdSt, rdB, strC_refs]
            · have d32' : ¬ s.data[s.size - q.length] = 32 := by simpa only [u8_32] using d32
              rw [if_neg (by simp [hq]; rw [hb]; simp [d32'])] at hR
              have hu : wrdR s = .error 3 := by simp [wrdR, h1, h3, ← hR]
              ((try simp -implicitDefEqProofs [-loopQ_n, wdSt, rdB, h, byte_at h, c32, c34, hm, byte_at hm, d32, w1, hl1, strC_len, strC_snoc]) <;> (repeat' (first | (refine condD_dec ?_ ?_ <;> (intro hc; (try simp -implicitDefEqProofs [-loopQ_n, hc, wdSt, rdB, h, byte_at h, c32, c34, hm, byte_at hm, d32, w1, hl1, strC_len, strC_snoc]))) | (refine guardD_dec ?_ ?_ <;> (intro hc; (try simp -implicitDefEqProofs [-loopQ_n, hc, wdSt, rdB, h, byte_at h, c32, c34, hm, byte_at hm, d32, w1, hl1, strC_len, strC_snoc]))) | (refine condD_intro ?_ ?_ <;> (intro hd; have hc := hd; (try simp at hc) <;> (try simp -implicitDefEqProofs [-loopQ_n, hd, hc, wdSt, rdB, h, byte_at h, c32, c34, hm, byte_at hm, d32, w1, hl1, strC_len, strC_snoc]))) | (refine guardD_intro ?_ ?_ <;> (intro hd; have hc := hd; (try simp at hc) <;> (try simp -implicitDefEqProofs [-loopQ_n, hd, hc, wdSt, rdB, h, byte_at h, c32, c34, hm, byte_at hm, d32, w1, hl1, strC_len, strC_snoc]))) | (refine ldD_ep ?_ ?_; (focus kernel_rfl); (try simp -implicitDefEqProofs [-loopQ_n, wdSt, rdB, h, byte_at h, c32, c34, hm, byte_at hm, d32, w1, hl1, strC_len, strC_snoc])) | (refine callS_mk ?_; (try simp -implicitDefEqProofs [-loopQ_n, wdSt, rdB, h, byte_at h, c32, c34, hm, byte_at hm, d32, w1, hl1, strC_len, strC_snoc]); (first | refine callS_intro (more_pure s i hs2) (.inl rfl) ?_ | refine callS_intro (more_pure s (s.size - q.length) hs2) (.inl rfl) ?_); (try simp -implicitDefEqProofs [-loopQ_n, wdSt, rdB, h, byte_at h, c32, c34, hm, byte_at hm, d32, w1, hl1, strC_len, strC_snoc])) | (refine lit_call (a := i + 1) hd rfl hs h ?_; (try simp -implicitDefEqProofs [-loopQ_n, wdSt, rdB, h, byte_at h, c32, c34, hm, byte_at hm, d32, w1, hl1, strC_len, strC_snoc])))))
              rw [hu]; rfl
      have n34 : ¬ s.data[i] = 34 := by simpa only [u8_34] using c34
      rw [if_neg n32, if_neg n34, ← bl_drop h] at hR
      ((try simp -implicitDefEqProofs [-loopQ_n, wdSt, rdB, h, byte_at h, c32, c34, w1]) <;> (repeat' (first | (refine condD_dec ?_ ?_ <;> (intro hc; (try simp -implicitDefEqProofs [-loopQ_n, hc, wdSt, rdB, h, byte_at h, c32, c34, w1]))) | (refine guardD_dec ?_ ?_ <;> (intro hc; (try simp -implicitDefEqProofs [-loopQ_n, hc, wdSt, rdB, h, byte_at h, c32, c34, w1]))) | (refine condD_intro ?_ ?_ <;> (intro hd; have hc := hd; (try simp at hc) <;> (try simp -implicitDefEqProofs [-loopQ_n, hd, hc, wdSt, rdB, h, byte_at h, c32, c34, w1]))) | (refine guardD_intro ?_ ?_ <;> (intro hd; have hc := hd; (try simp at hc) <;> (try simp -implicitDefEqProofs [-loopQ_n, hd, hc, wdSt, rdB, h, byte_at h, c32, c34, w1]))) | (refine ldD_ep ?_ ?_; (focus kernel_rfl); (try simp -implicitDefEqProofs [-loopQ_n, wdSt, rdB, h, byte_at h, c32, c34, w1])) | (refine callS_mk ?_; (try simp -implicitDefEqProofs [-loopQ_n, wdSt, rdB, h, byte_at h, c32, c34, w1]); (first | refine callS_intro (more_pure s i hs2) (.inl rfl) ?_); (try simp -implicitDefEqProofs [-loopQ_n, wdSt, rdB, h, byte_at h, c32, c34, w1])))))
      refine loop_intro (σ := Nat) (fun j => ⟨[(0, .str s), (4, .os 1 acc.length), (5, .op 0 0), (8, .int .i64 i)], [rdB s j, .row 9 true (rowsOf strC acc)]⟩) (fun j => j ≤ s.size ∧ Bare s i j) (fun j => s.size - j) i ⟨by omega, Bare.start s i⟩ ?_ ?_
      · refine weak_of 2 0 rfl rfl ?_ ?_ <;> simp [rdB, strC_refs]
      rintro j ⟨hj, hB⟩
      have hij := hB.le
      by_cases g : j < s.size
      · have w2 := w_suc g (by omega)
        by_cases d32 : (s.data[j].toNat : Int) = 32
        · have d32' : s.data[j] = 32 := by simpa only [u8_32] using d32
          obtain ⟨a1, a2, a3⟩ := hB.done (.inr ⟨g, d32'⟩)
          rw [if_neg a1, a2, a3] at hR
          have hlt : i < j := by
            rcases Nat.lt_or_eq_of_le hij with q | q
            · exact q
            · subst q; exact absurd d32' n32
          have p1 : (i : Int) ≤ j := by omega
          have p2 : (j : Int) ≤ s.size := by omega
          ((try simp -implicitDefEqProofs [-loopQ_n, rdB, g, byte_at g, d32, w2, p1, p2, hl1, strC_len, strC_snoc]) <;> (repeat' (first | (refine condD_dec ?_ ?_ <;> (intro hc; (try simp -implicitDefEqProofs [-loopQ_n, hc, rdB, g, byte_at g, d32, w2, p1, p2, hl1, strC_len, strC_snoc]))) | (refine guardD_dec ?_ ?_ <;> (intro hc; (try simp -implicitDefEqProofs [-loopQ_n, hc, rdB, g, byte_at g, d32, w2, p1, p2, hl1, strC_len, strC_snoc]))) | (refine condD_intro ?_ ?_ <;> (intro hd; have hc := hd; (try simp at hc) <;> (try simp -implicitDefEqProofs [-loopQ_n, hd, hc, rdB, g, byte_at g, d32, w2, p1, p2, hl1, strC_len, strC_snoc]))) | (refine guardD_intro ?_ ?_ <;> (intro hd; have hc := hd; (try simp at hc) <;> (try simp -implicitDefEqProofs [-loopQ_n, hd, hc, rdB, g, byte_at g, d32, w2, p1, p2, hl1, strC_len, strC_snoc]))) | (refine ldD_ep ?_ ?_; (focus kernel_rfl); (try simp -implicitDefEqProofs [-loopQ_n, rdB, g, byte_at g, d32, w2, p1, p2, hl1, strC_len, strC_snoc])) | (refine callS_mk ?_; (try simp -implicitDefEqProofs [-loopQ_n, rdB, g, byte_at g, d32, w2, p1, p2, hl1, strC_len, strC_snoc]); (first | refine callS_intro (more_pure s j hs2) (.inl rfl) ?_); (try simp -implicitDefEqProofs [-loopQ_n, rdB, g, byte_at g, d32, w2, p1, p2, hl1, strC_len, strC_snoc])))))
          rw [ext_eq hij hj]
          refine loop_next (j, acc ++ [⟨(((bl s).drop i).take (j - i)).toArray⟩]) ⟨hj, by simp; omega, m, by simp only; omega, hR⟩ (by simp only; omega) (weak_of 2 0 rfl rfl ?_ ?_) <;> simp [wdSt, rdB, strC_refs]
        have e32 : ¬ s.data[j] = 32 := by simpa only [u8_32] using d32
        by_cases d34 : (s.data[j].toNat : Int) = 34
        · have d34' : s.data[j] = 34 := by simpa only [u8_34] using d34
          rw [if_pos (hB.bad g d34')] at hR
          have hu : wrdR s = .error 3 := by simp [wrdR, h1, h3, ← hR]
          ((try simp -implicitDefEqProofs [-loopQ_n, rdB, g, byte_at g, d32, d34, w2]) <;> (repeat' (first | (refine condD_dec ?_ ?_ <;> (intro hc; (try simp -implicitDefEqProofs [-loopQ_n, hc, rdB, g, byte_at g, d32, d34, w2]))) | (refine guardD_dec ?_ ?_ <;> (intro hc; (try simp -implicitDefEqProofs [-loopQ_n, hc, rdB, g, byte_at g, d32, d34, w2]))) | (refine condD_intro ?_ ?_ <;> (intro hd; have hc := hd; (try simp at hc) <;> (try simp -implicitDefEqProofs [-loopQ_n, hd, hc, rdB, g, byte_at g, d32, d34, w2]))) | (refine guardD_intro ?_ ?_ <;> (intro hd; have hc := hd; (try simp at hc) <;> (try simp -implicitDefEqProofs [-loopQ_n, hd, hc, rdB, g, byte_at g, d32, d34, w2]))) | (refine ldD_ep ?_ ?_; (focus kernel_rfl); (try simp -implicitDefEqProofs [-loopQ_n, rdB, g, byte_at g, d32, d34, w2])) | (refine callS_mk ?_; (try simp -implicitDefEqProofs [-loopQ_n, rdB, g, byte_at g, d32, d34, w2]); (first | refine callS_intro (more_pure s j hs2) (.inl rfl) ?_); (try simp -implicitDefEqProofs [-loopQ_n, rdB, g, byte_at g, d32, d34, w2])) | (refine next_call rfl g hs2 ?_; (try simp -implicitDefEqProofs [-loopQ_n, rdB, g, byte_at g, d32, d34, w2])))))
          rw [hu]; rfl
        have e34 : ¬ s.data[j] = 34 := by simpa only [u8_34] using d34
        ((try simp -implicitDefEqProofs [-loopQ_n, rdB, g, byte_at g, d32, d34, w2]) <;> (repeat' (first | (refine condD_dec ?_ ?_ <;> (intro hc; (try simp -implicitDefEqProofs [-loopQ_n, hc, rdB, g, byte_at g, d32, d34, w2]))) | (refine guardD_dec ?_ ?_ <;> (intro hc; (try simp -implicitDefEqProofs [-loopQ_n, hc, rdB, g, byte_at g, d32, d34, w2]))) | (refine condD_intro ?_ ?_ <;> (intro hd; have hc := hd; (try simp at hc) <;> (try simp -implicitDefEqProofs [-loopQ_n, hd, hc, rdB, g, byte_at g, d32, d34, w2]))) | (refine guardD_intro ?_ ?_ <;> (intro hd; have hc := hd; (try simp at hc) <;> (try simp -implicitDefEqProofs [-loopQ_n, hd, hc, rdB, g, byte_at g, d32, d34, w2]))) | (refine ldD_ep ?_ ?_; (focus kernel_rfl); (try simp -implicitDefEqProofs [-loopQ_n, rdB, g, byte_at g, d32, d34, w2])) | (refine callS_mk ?_; (try simp -implicitDefEqProofs [-loopQ_n, rdB, g, byte_at g, d32, d34, w2]); (first | refine callS_intro (more_pure s j hs2) (.inl rfl) ?_); (try simp -implicitDefEqProofs [-loopQ_n, rdB, g, byte_at g, d32, d34, w2])) | (refine next_call rfl g hs2 ?_; (try simp -implicitDefEqProofs [-loopQ_n, rdB, g, byte_at g, d32, d34, w2])))))
        refine loop_next (j + 1) ⟨g, hB.next g e32 e34⟩ (by omega) (weak_of 2 0 rfl rfl ?_ ?_) <;> simp [rdB, strC_refs]
      · obtain ⟨a1, a2, a3⟩ := hB.done (.inl (by omega))
        rw [if_neg a1, a2, a3] at hR
        have p1 : (i : Int) ≤ j := by omega
        have p2 : (j : Int) ≤ s.size := by omega
        ((try simp -implicitDefEqProofs [-loopQ_n, rdB, g, p1, p2, hl1, strC_len, strC_snoc]) <;> (repeat' (first | (refine condD_dec ?_ ?_ <;> (intro hc; (try simp -implicitDefEqProofs [-loopQ_n, hc, rdB, g, p1, p2, hl1, strC_len, strC_snoc]))) | (refine guardD_dec ?_ ?_ <;> (intro hc; (try simp -implicitDefEqProofs [-loopQ_n, hc, rdB, g, p1, p2, hl1, strC_len, strC_snoc]))) | (refine condD_intro ?_ ?_ <;> (intro hd; have hc := hd; (try simp at hc) <;> (try simp -implicitDefEqProofs [-loopQ_n, hd, hc, rdB, g, p1, p2, hl1, strC_len, strC_snoc]))) | (refine guardD_intro ?_ ?_ <;> (intro hd; have hc := hd; (try simp at hc) <;> (try simp -implicitDefEqProofs [-loopQ_n, hd, hc, rdB, g, p1, p2, hl1, strC_len, strC_snoc]))) | (refine ldD_ep ?_ ?_; (focus kernel_rfl); (try simp -implicitDefEqProofs [-loopQ_n, rdB, g, p1, p2, hl1, strC_len, strC_snoc])) | (refine callS_mk ?_; (try simp -implicitDefEqProofs [-loopQ_n, rdB, g, p1, p2, hl1, strC_len, strC_snoc]); (first | refine callS_intro (more_pure s j hs2) (.inl rfl) ?_); (try simp -implicitDefEqProofs [-loopQ_n, rdB, g, p1, p2, hl1, strC_len, strC_snoc])))))
        rw [ext_eq hij hj]
        have hlt : i < j := by omega
        refine loop_next (j, acc ++ [⟨(((bl s).drop i).take (j - i)).toArray⟩]) ⟨hj, by simp; omega, m, by simp only; omega, hR⟩ (by simp only; omega) (weak_of 2 0 rfl rfl ?_ ?_) <;> simp [wdSt, rdB, strC_refs]
    · have hw : wdF (s.size + 1) [] (bl s) = .ok acc := by
        rw [← hR, List.drop_eq_nil_of_le (by simp; omega)]
        cases n <;> rfl
      by_cases hk : 1000 < acc.length
      · have hk' : (1000 : Int) < acc.length := by omega
        ((try simp -implicitDefEqProofs [-loopQ_n, wdSt, rdB, h, hk']) <;> (repeat' (first | (refine condD_dec ?_ ?_ <;> (intro hc; (try simp -implicitDefEqProofs [-loopQ_n, hc, wdSt, rdB, h, hk']))) | (refine guardD_dec ?_ ?_ <;> (intro hc; (try simp -implicitDefEqProofs [-loopQ_n, hc, wdSt, rdB, h, hk']))) | (refine condD_intro ?_ ?_ <;> (intro hd; have hc := hd; (try simp at hc) <;> (try simp -implicitDefEqProofs [-loopQ_n, hd, hc, wdSt, rdB, h, hk']))) | (refine guardD_intro ?_ ?_ <;> (intro hd; have hc := hd; (try simp at hc) <;> (try simp -implicitDefEqProofs [-loopQ_n, hd, hc, wdSt, rdB, h, hk']))) | (refine ldD_ep ?_ ?_; (focus kernel_rfl); (try simp -implicitDefEqProofs [-loopQ_n, wdSt, rdB, h, hk'])) | (refine callS_mk ?_; (try simp -implicitDefEqProofs [-loopQ_n, wdSt, rdB, h, hk']); (first | refine callS_intro (more_pure s i hs2) (.inl rfl) ?_); (try simp -implicitDefEqProofs [-loopQ_n, wdSt, rdB, h, hk'])))))
        simp [wrdR, h1, h3, hw, hk, exL]
      · have hk' : ¬ (1000 : Int) < acc.length := by omega
        ((try simp -implicitDefEqProofs [-loopQ_n, wdSt, rdB, h, hk', sl_reify]) <;> (repeat' (first | (refine condD_dec ?_ ?_ <;> (intro hc; (try simp -implicitDefEqProofs [-loopQ_n, hc, wdSt, rdB, h, hk', sl_reify]))) | (refine guardD_dec ?_ ?_ <;> (intro hc; (try simp -implicitDefEqProofs [-loopQ_n, hc, wdSt, rdB, h, hk', sl_reify]))) | (refine condD_intro ?_ ?_ <;> (intro hd; have hc := hd; (try simp at hc) <;> (try simp -implicitDefEqProofs [-loopQ_n, hd, hc, wdSt, rdB, h, hk', sl_reify]))) | (refine guardD_intro ?_ ?_ <;> (intro hd; have hc := hd; (try simp at hc) <;> (try simp -implicitDefEqProofs [-loopQ_n, hd, hc, wdSt, rdB, h, hk', sl_reify]))) | (refine ldD_ep ?_ ?_; (focus kernel_rfl); (try simp -implicitDefEqProofs [-loopQ_n, wdSt, rdB, h, hk', sl_reify])) | (refine callS_mk ?_; (try simp -implicitDefEqProofs [-loopQ_n, wdSt, rdB, h, hk', sl_reify]); (first | refine callS_intro (more_pure s i hs2) (.inl rfl) ?_); (try simp -implicitDefEqProofs [-loopQ_n, wdSt, rdB, h, hk', sl_reify])))))
        simp [wrdR, h1, h3, hw, hk, exL]
  · have h3 : prS s = false := by simpa using h3
    ((try simp -implicitDefEqProofs [-loopQ_n, h1', h3]) <;> (repeat' (first | (refine condD_dec ?_ ?_ <;> (intro hc; (try simp -implicitDefEqProofs [-loopQ_n, hc, h1', h3]))) | (refine guardD_dec ?_ ?_ <;> (intro hc; (try simp -implicitDefEqProofs [-loopQ_n, hc, h1', h3]))) | (refine condD_intro ?_ ?_ <;> (intro hd; have hc := hd; (try simp at hc) <;> (try simp -implicitDefEqProofs [-loopQ_n, hd, hc, h1', h3]))) | (refine guardD_intro ?_ ?_ <;> (intro hd; have hc := hd; (try simp at hc) <;> (try simp -implicitDefEqProofs [-loopQ_n, hd, hc, h1', h3]))) | (refine ldD_ep ?_ ?_; (focus kernel_rfl); (try simp -implicitDefEqProofs [-loopQ_n, h1', h3])) | (refine callS_mk ?_; (try simp -implicitDefEqProofs [-loopQ_n, h1', h3]); (first | refine callS_intro (printable_pure s hs2) (.inl rfl) ?_); (try simp -implicitDefEqProofs [-loopQ_n, h1', h3])))))
    simp [wrdR, h1, h3, exL]
end Go.Proofs.Ytlcblpofikijmaa
