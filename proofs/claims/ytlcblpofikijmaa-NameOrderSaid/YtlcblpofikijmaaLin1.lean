/- Texts: printable bytes, literals (program and reference). -/
import Derived.Test.YtlcblpofikijmaaBld5
import Derived.Test.YtlcblpofikijmaaNm2
namespace Go.Proofs.Ytlcblpofikijmaa
set_option linter.unusedSimpArgs false
set_option linter.unusedVariables false
set_option linter.unnecessarySimpa false
set_option linter.unusedSectionVars false
open Go.RowKit
variable [Glob]
set_option maxRecDepth 100000
abbrev bl (s : ByteArray) : List UInt8 := s.data.toList
def prC (c : UInt8) : Bool := decide ((32 : Int) ≤ c.toNat) && decide ((c.toNat : Int) ≤ 126)
def prS (s : ByteArray) : Bool := (bl s).all prC
theorem bl_len {s : ByteArray} : (bl s).length = s.size := by simp [bl]
theorem bl_drop {s : ByteArray} {i : Nat} (h : i < s.size) : (bl s).drop i = s.data[i]'h :: (bl s).drop (i + 1) := by
  rw [List.drop_eq_getElem_cons (by simpa using h)]
  simp
theorem w_suc {i n : Nat} (h : i < n) (hn : n ≤ 9223372036854775807) : wrapI .i64 ((i : Int) + 1) = ((i + 1 : Nat) : Int) := by rw [wrap_in (by omega) (by omega)]; omega
theorem printable_pure (s : ByteArray) (hs : s.size ≤ 1000000) : Pure Try.prog 35 [.str s] (.bool (prS s)) := by
  refine pure_of mixed Try.func35 rfl (by kernel_rfl) (of_decide_eq_true rfl) (by kernel_rfl) (vc_run ?_)
  ((try simp -implicitDefEqProofs [-loopQ_n]) <;> (repeat' (first | (refine condD_dec ?_ ?_ <;> (intro hc; (try simp -implicitDefEqProofs [-loopQ_n, hc]))) | (refine guardD_dec ?_ ?_ <;> (intro hc; (try simp -implicitDefEqProofs [-loopQ_n, hc]))) | (refine condD_intro ?_ ?_ <;> (intro hd; have hc := hd; (try simp at hc) <;> (try simp -implicitDefEqProofs [-loopQ_n, hd, hc]))) | (refine guardD_intro ?_ ?_ <;> (intro hd; have hc := hd; (try simp at hc) <;> (try simp -implicitDefEqProofs [-loopQ_n, hd, hc]))) | (refine ldD_ep ?_ ?_; (focus kernel_rfl); (try simp -implicitDefEqProofs [-loopQ_n])))))
  refine loop_intro (σ := Nat) (fun i => ⟨[(0, .str s), (5, .int .i64 s.size), (6, .int .i64 i)], []⟩) (fun i => i ≤ s.size ∧ uptoB prC s i) (fun i => s.size - i) 0 ⟨by omega, uptoB_zero _ _⟩ ?_ ?_
  · refine weak_of 0 0 rfl rfl ?_ ?_ <;> simp
  rintro i ⟨hi, hp⟩
  by_cases h : i < s.size
  · have w1 := w_suc h (by omega)
    ((try simp -implicitDefEqProofs [-loopQ_n, h, byte_at h]) <;> (repeat' (first | (refine condD_dec ?_ ?_ <;> (intro hc; (try simp -implicitDefEqProofs [-loopQ_n, hc, h, byte_at h]))) | (refine guardD_dec ?_ ?_ <;> (intro hc; (try simp -implicitDefEqProofs [-loopQ_n, hc, h, byte_at h]))) | (refine condD_intro ?_ ?_ <;> (intro hd; have hc := hd; (try simp at hc) <;> (try simp -implicitDefEqProofs [-loopQ_n, hd, hc, h, byte_at h]))) | (refine guardD_intro ?_ ?_ <;> (intro hd; have hc := hd; (try simp at hc) <;> (try simp -implicitDefEqProofs [-loopQ_n, hd, hc, h, byte_at h]))) | (refine ldD_ep ?_ ?_; (focus kernel_rfl); (try simp -implicitDefEqProofs [-loopQ_n, h, byte_at h])))))
    · rw [prS, uptoB_not (i := i) h (by simp [prC]; omega)]
    · rw [prS, uptoB_not (i := i) h (by simp [prC]; omega)]
    · refine loop_next (i + 1) ⟨by omega, uptoB_succ hp h (by simp [prC]; omega)⟩ (by omega) (weak_of 0 0 rfl rfl ?_ ?_) <;> simp [w1]
  · ((try simp -implicitDefEqProofs [-loopQ_n, h]) <;> (repeat' (first | (refine condD_dec ?_ ?_ <;> (intro hc; (try simp -implicitDefEqProofs [-loopQ_n, hc, h]))) | (refine guardD_dec ?_ ?_ <;> (intro hc; (try simp -implicitDefEqProofs [-loopQ_n, hc, h]))) | (refine condD_intro ?_ ?_ <;> (intro hd; have hc := hd; (try simp at hc) <;> (try simp -implicitDefEqProofs [-loopQ_n, hd, hc, h]))) | (refine guardD_intro ?_ ?_ <;> (intro hd; have hc := hd; (try simp at hc) <;> (try simp -implicitDefEqProofs [-loopQ_n, hd, hc, h]))) | (refine ldD_ep ?_ ?_; (focus kernel_rfl); (try simp -implicitDefEqProofs [-loopQ_n, h])))))
    rw [prS, uptoB_all hp h]
theorem rPrintable_pure (s : ByteArray) (hs : s.size ≤ 1000000) : Pure Try.prog 39 [.str s] (.bool (prS s)) := by
  refine pure_of mixed Try.func39 rfl (by kernel_rfl) (of_decide_eq_true rfl) (by kernel_rfl) (vc_run ?_)
  ((try simp -implicitDefEqProofs [-loopQ_n]) <;> (repeat' (first | (refine condD_dec ?_ ?_ <;> (intro hc; (try simp -implicitDefEqProofs [-loopQ_n, hc]))) | (refine guardD_dec ?_ ?_ <;> (intro hc; (try simp -implicitDefEqProofs [-loopQ_n, hc]))) | (refine condD_intro ?_ ?_ <;> (intro hd; have hc := hd; (try simp at hc) <;> (try simp -implicitDefEqProofs [-loopQ_n, hd, hc]))) | (refine guardD_intro ?_ ?_ <;> (intro hd; have hc := hd; (try simp at hc) <;> (try simp -implicitDefEqProofs [-loopQ_n, hd, hc]))) | (refine ldD_ep ?_ ?_; (focus kernel_rfl); (try simp -implicitDefEqProofs [-loopQ_n])))))
  refine loop_intro (σ := Nat) (fun i => ⟨[(0, .str s), (3, .int .i64 i)], []⟩) (fun i => i ≤ s.size ∧ uptoB prC s i) (fun i => s.size - i) 0 ⟨by omega, uptoB_zero _ _⟩ ?_ ?_
  · refine weak_of 0 0 rfl rfl ?_ ?_ <;> simp
  rintro i ⟨hi, hp⟩
  by_cases h : i < s.size
  · have w1 := w_suc h (by omega)
    ((try simp -implicitDefEqProofs [-loopQ_n, h, byte_at h]) <;> (repeat' (first | (refine condD_dec ?_ ?_ <;> (intro hc; (try simp -implicitDefEqProofs [-loopQ_n, hc, h, byte_at h]))) | (refine guardD_dec ?_ ?_ <;> (intro hc; (try simp -implicitDefEqProofs [-loopQ_n, hc, h, byte_at h]))) | (refine condD_intro ?_ ?_ <;> (intro hd; have hc := hd; (try simp at hc) <;> (try simp -implicitDefEqProofs [-loopQ_n, hd, hc, h, byte_at h]))) | (refine guardD_intro ?_ ?_ <;> (intro hd; have hc := hd; (try simp at hc) <;> (try simp -implicitDefEqProofs [-loopQ_n, hd, hc, h, byte_at h]))) | (refine ldD_ep ?_ ?_; (focus kernel_rfl); (try simp -implicitDefEqProofs [-loopQ_n, h, byte_at h])))))
    · rw [prS, uptoB_not (i := i) h (by simp [prC]; omega)]
    · rw [prS, uptoB_not (i := i) h (by simp [prC]; omega)]
    · refine loop_next (i + 1) ⟨by omega, uptoB_succ hp h (by simp [prC]; omega)⟩ (by omega) (weak_of 0 0 rfl rfl ?_ ?_) <;> simp [w1]
  · ((try simp -implicitDefEqProofs [-loopQ_n, h]) <;> (repeat' (first | (refine condD_dec ?_ ?_ <;> (intro hc; (try simp -implicitDefEqProofs [-loopQ_n, hc, h]))) | (refine guardD_dec ?_ ?_ <;> (intro hc; (try simp -implicitDefEqProofs [-loopQ_n, hc, h]))) | (refine condD_intro ?_ ?_ <;> (intro hd; have hc := hd; (try simp at hc) <;> (try simp -implicitDefEqProofs [-loopQ_n, hd, hc, h]))) | (refine guardD_intro ?_ ?_ <;> (intro hd; have hc := hd; (try simp at hc) <;> (try simp -implicitDefEqProofs [-loopQ_n, hd, hc, h]))) | (refine ldD_ep ?_ ?_; (focus kernel_rfl); (try simp -implicitDefEqProofs [-loopQ_n, h])))))
    rw [prS, uptoB_all hp h]
/-- A byte of a literal. -/
def esc (c : UInt8) : List UInt8 := if (c.toNat : Int) = 34 ∨ (c.toNat : Int) = 92 then [92, c] else [c]
def litL (l : List UInt8) : List UInt8 := 34 :: (l.flatMap esc ++ [34])
def litS (s : ByteArray) : ByteArray := ⟨(litL (bl s)).toArray⟩
set_option maxHeartbeats 4000000 in
theorem literal_pure (s : ByteArray) (hs : s.size ≤ 100000) : Pure Try.prog 43 [.str s] (.str (litS s)) := by
  refine pure_of mixed Try.func43 rfl (by kernel_rfl) (of_decide_eq_true rfl) (by kernel_rfl) (vc_run ?_)
  ((try simp -implicitDefEqProofs [-loopQ_n]) <;> (repeat' (first | (refine condD_dec ?_ ?_ <;> (intro hc; (try simp -implicitDefEqProofs [-loopQ_n, hc]))) | (refine guardD_dec ?_ ?_ <;> (intro hc; (try simp -implicitDefEqProofs [-loopQ_n, hc]))) | (refine condD_intro ?_ ?_ <;> (intro hd; have hc := hd; (try simp at hc) <;> (try simp -implicitDefEqProofs [-loopQ_n, hd, hc]))) | (refine guardD_intro ?_ ?_ <;> (intro hd; have hc := hd; (try simp at hc) <;> (try simp -implicitDefEqProofs [-loopQ_n, hd, hc]))) | (refine ldD_ep ?_ ?_; (focus kernel_rfl); (try simp -implicitDefEqProofs [-loopQ_n])) | (refine wb_call0 (c := 34) (by decide) rfl ?_; (try simp -implicitDefEqProofs [-loopQ_n])))))
  refine loop_intro (σ := Nat × List UInt8) (fun x => ⟨[(0, .str s), (3, .op 0 0), (7, .int .i64 s.size), (8, .int .i64 x.1)], [.box bT [.op 0 0, .os 1 x.2.length], .row 5 false (bR x.2)]⟩)
    (fun x => x.1 ≤ s.size ∧ x.2.length ≤ 2 * x.1 + 1 ∧ x.2 ++ ((bl s).drop x.1).flatMap esc ++ [34] = litL (bl s)) (fun x => s.size - x.1) (0, [34]) ⟨by simp, by simp, by simp [litL]⟩ ?_ ?_
  · refine weak_of 2 0 rfl rfl ?_ ?_ <;> simp [bR_refs]
  rintro ⟨i, acc⟩ ⟨hi, hl, hR⟩
  simp only at hi hl hR
  have hl1 : acc.length < 1073741824 := by omega
  have hl2 : acc.length + 1 < 1073741824 := by omega
  by_cases h : i < s.size
  · have w1 := w_suc h (by omega)
    rw [bl_drop h, List.flatMap_cons] at hR
    ((try simp -implicitDefEqProofs [-loopQ_n, h, byte_at h]) <;> (repeat' (first | (refine condD_dec ?_ ?_ <;> (intro hc; (try simp -implicitDefEqProofs [-loopQ_n, hc, h, byte_at h]))) | (refine guardD_dec ?_ ?_ <;> (intro hc; (try simp -implicitDefEqProofs [-loopQ_n, hc, h, byte_at h]))) | (refine condD_intro ?_ ?_ <;> (intro hd; have hc := hd; (try simp at hc) <;> (try simp -implicitDefEqProofs [-loopQ_n, hd, hc, h, byte_at h]))) | (refine guardD_intro ?_ ?_ <;> (intro hd; have hc := hd; (try simp at hc) <;> (try simp -implicitDefEqProofs [-loopQ_n, hd, hc, h, byte_at h]))) | (refine ldD_ep ?_ ?_; (focus kernel_rfl); (try simp -implicitDefEqProofs [-loopQ_n, h, byte_at h])) | (refine wb_call (c := 92) (by decide) rfl rfl rfl (by omega) ?_; (try simp -implicitDefEqProofs [-loopQ_n, h, byte_at h])) | (refine wb_call rfl rfl rfl rfl (by omega) ?_; (try simp -implicitDefEqProofs [-loopQ_n, h, byte_at h])) | (refine wb_call rfl rfl rfl (by simp) (by omega) ?_; (try simp -implicitDefEqProofs [-loopQ_n, h, byte_at h])))))
    · refine loop_next (i + 1, acc ++ [92, s.data[i]]) ⟨by simp only; omega, by simp; omega, by rw [← hR]; simp [esc, *]⟩ (by simp only; omega) (weak_of 2 0 rfl rfl ?_ ?_) <;> simp [w1, bR_refs]
    · refine loop_next (i + 1, acc ++ [92, s.data[i]]) ⟨by simp only; omega, by simp; omega, by rw [← hR]; simp [esc, *]⟩ (by simp only; omega) (weak_of 2 0 rfl rfl ?_ ?_) <;> simp [w1, bR_refs]
    · refine loop_next (i + 1, acc ++ [s.data[i]]) ⟨by simp only; omega, by simp; omega, by rw [← hR]; simp [esc, *]⟩ (by simp only; omega) (weak_of 2 0 rfl rfl ?_ ?_) <;> simp [w1, bR_refs]
  · have hR2 : acc ++ [34] = litL (bl s) := by rw [← hR, List.drop_eq_nil_of_le (by rw [bl_len]; omega)]; simp
    have h0 : acc ++ [(34 : UInt8)] ≠ [] := by simp
    ((try simp -implicitDefEqProofs [-loopQ_n, h]) <;> (repeat' (first | (refine condD_dec ?_ ?_ <;> (intro hc; (try simp -implicitDefEqProofs [-loopQ_n, hc, h]))) | (refine guardD_dec ?_ ?_ <;> (intro hc; (try simp -implicitDefEqProofs [-loopQ_n, hc, h]))) | (refine condD_intro ?_ ?_ <;> (intro hd; have hc := hd; (try simp at hc) <;> (try simp -implicitDefEqProofs [-loopQ_n, hd, hc, h]))) | (refine guardD_intro ?_ ?_ <;> (intro hd; have hc := hd; (try simp at hc) <;> (try simp -implicitDefEqProofs [-loopQ_n, hd, hc, h]))) | (refine ldD_ep ?_ ?_; (focus kernel_rfl); (try simp -implicitDefEqProofs [-loopQ_n, h])) | (refine wb_call (c := 34) (by decide) rfl rfl rfl (by omega) ?_; (try simp -implicitDefEqProofs [-loopQ_n, h])) | (refine str_call rfl rfl (by simp) h0 ?_; (try simp -implicitDefEqProofs [-loopQ_n, h])))))
    rw [litS, ← hR2]
theorem bR_k34 {l : List UInt8} : bR l ++ [[.int .u8 34]] = bR (l ++ [34]) := bR_snoc (c := 34)
theorem bR_k92 {l : List UInt8} : bR l ++ [[.int .u8 92]] = bR (l ++ [92]) := bR_snoc (c := 92)
theorem bR_k32 {l : List UInt8} : bR l ++ [[.int .u8 32]] = bR (l ++ [32]) := bR_snoc (c := 32)
theorem unb_bR {l : List UInt8} : unbytes (bR l) = some l := by
  induction l with
  | nil => rfl
  | cons c l ih =>
    have : bR (c :: l) = [.int .u8 c.toNat] :: bR l := rfl
    rw [this]
    simp [unbytes, ih]
set_option maxHeartbeats 4000000 in
theorem rliteral_pure (s : ByteArray) (hs : s.size ≤ 100000) : Pure Try.prog 46 [.str s] (.str (litS s)) := by
  refine pure_of mixed Try.func46 rfl (by kernel_rfl) (of_decide_eq_true rfl) (by kernel_rfl) (vc_run ?_)
  ((try simp -implicitDefEqProofs [-loopQ_n]) <;> (repeat' (first | (refine condD_dec ?_ ?_ <;> (intro hc; (try simp -implicitDefEqProofs [-loopQ_n, hc]))) | (refine guardD_dec ?_ ?_ <;> (intro hc; (try simp -implicitDefEqProofs [-loopQ_n, hc]))) | (refine condD_intro ?_ ?_ <;> (intro hd; have hc := hd; (try simp at hc) <;> (try simp -implicitDefEqProofs [-loopQ_n, hd, hc]))) | (refine guardD_intro ?_ ?_ <;> (intro hd; have hc := hd; (try simp at hc) <;> (try simp -implicitDefEqProofs [-loopQ_n, hd, hc]))) | (refine ldD_ep ?_ ?_; (focus kernel_rfl); (try simp -implicitDefEqProofs [-loopQ_n])))))
  refine loop_intro (σ := Nat × List UInt8) (fun x => ⟨[(0, .str s), (3, .os 0 x.2.length), (4, .int .i64 x.1)], [.row 5 false (bR x.2)]⟩)
    (fun x => x.1 ≤ s.size ∧ x.2.length ≤ 2 * x.1 + 1 ∧ x.2 ++ ((bl s).drop x.1).flatMap esc ++ [34] = litL (bl s)) (fun x => s.size - x.1) (0, [34]) ⟨by simp, by simp, by simp [litL]⟩ ?_ ?_
  · refine weak_of 1 0 rfl rfl ?_ ?_ <;> simp [bR, rowsOf, byteC, refs]
  rintro ⟨i, acc⟩ ⟨hi, hl, hR⟩
  simp only at hi hl hR
  have hl1 : acc.length ≤ 1073741823 := by omega
  have hl2 : acc.length + 1 ≤ 1073741823 := by omega
  by_cases h : i < s.size
  · have w1 := w_suc h (by omega)
    rw [bl_drop h, List.flatMap_cons] at hR
    have hl3 : acc.length ≤ 1073741822 := by omega
    ((try simp -implicitDefEqProofs [-loopQ_n, h, byte_at h, bR_len, hl1, hl2, hl3, bR_snoc, bR_k92]) <;> (repeat' (first | (refine condD_dec ?_ ?_ <;> (intro hc; (try simp -implicitDefEqProofs [-loopQ_n, hc, h, byte_at h, bR_len, hl1, hl2, hl3, bR_snoc, bR_k92]))) | (refine guardD_dec ?_ ?_ <;> (intro hc; (try simp -implicitDefEqProofs [-loopQ_n, hc, h, byte_at h, bR_len, hl1, hl2, hl3, bR_snoc, bR_k92]))) | (refine condD_intro ?_ ?_ <;> (intro hd; have hc := hd; (try simp at hc) <;> (try simp -implicitDefEqProofs [-loopQ_n, hd, hc, h, byte_at h, bR_len, hl1, hl2, hl3, bR_snoc, bR_k92]))) | (refine guardD_intro ?_ ?_ <;> (intro hd; have hc := hd; (try simp at hc) <;> (try simp -implicitDefEqProofs [-loopQ_n, hd, hc, h, byte_at h, bR_len, hl1, hl2, hl3, bR_snoc, bR_k92]))) | (refine ldD_ep ?_ ?_; (focus kernel_rfl); (try simp -implicitDefEqProofs [-loopQ_n, h, byte_at h, bR_len, hl1, hl2, hl3, bR_snoc, bR_k92])))))
    · have e1 : bR (acc ++ [92]) ++ [[.int .u8 34]] = bR (acc ++ [92, s.data[i]]) := by
        have : (34 : Int) = (s.data[i].toNat : Int) := by omega
        rw [this, bR_snoc]; simp
      rw [e1]
      refine loop_next (i + 1, acc ++ [92, s.data[i]]) ⟨by simp only; omega, by simp; omega, by rw [← hR]; simp [esc, *]⟩ (by simp only; omega) (weak_of 1 0 rfl rfl ?_ ?_) <;> simp [w1, bR_refs]
    · have e1 : bR (acc ++ [92, 92]) = bR (acc ++ [92, s.data[i]]) := by
        have : s.data[i] = 92 := UInt8.toNat_inj.1 (by simp; omega)
        rw [this]
      rw [e1]
      refine loop_next (i + 1, acc ++ [92, s.data[i]]) ⟨by simp only; omega, by simp; omega, by rw [← hR]; simp [esc, *]⟩ (by simp only; omega) (weak_of 1 0 rfl rfl ?_ ?_) <;> simp [w1, bR_refs]
    · refine loop_next (i + 1, acc ++ [s.data[i]]) ⟨by simp only; omega, by simp; omega, by rw [← hR]; simp [esc, *]⟩ (by simp only; omega) (weak_of 1 0 rfl rfl ?_ ?_) <;> simp [w1, bR_refs]
  · have hR2 : acc ++ [34] = litL (bl s) := by rw [← hR, List.drop_eq_nil_of_le (by rw [bl_len]; omega)]; simp
    ((try simp -implicitDefEqProofs [-loopQ_n, h, bR_len, hl1, bR_k34, bR_all1, unb_bR]) <;> (repeat' (first | (refine condD_dec ?_ ?_ <;> (intro hc; (try simp -implicitDefEqProofs [-loopQ_n, hc, h, bR_len, hl1, bR_k34, bR_all1, unb_bR]))) | (refine guardD_dec ?_ ?_ <;> (intro hc; (try simp -implicitDefEqProofs [-loopQ_n, hc, h, bR_len, hl1, bR_k34, bR_all1, unb_bR]))) | (refine condD_intro ?_ ?_ <;> (intro hd; have hc := hd; (try simp at hc) <;> (try simp -implicitDefEqProofs [-loopQ_n, hd, hc, h, bR_len, hl1, bR_k34, bR_all1, unb_bR]))) | (refine guardD_intro ?_ ?_ <;> (intro hd; have hc := hd; (try simp at hc) <;> (try simp -implicitDefEqProofs [-loopQ_n, hd, hc, h, bR_len, hl1, bR_k34, bR_all1, unb_bR]))) | (refine ldD_ep ?_ ?_; (focus kernel_rfl); (try simp -implicitDefEqProofs [-loopQ_n, h, bR_len, hl1, bR_k34, bR_all1, unb_bR])))))
    rw [litS, ← hR2]
end Go.Proofs.Ytlcblpofikijmaa
