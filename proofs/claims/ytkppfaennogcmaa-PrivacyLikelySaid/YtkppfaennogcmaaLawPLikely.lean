/- Noise has the probabilities that it should have (the law PrivacyLikely holds for every input; no condition). -/
import Derived.Test.YtkppfaennogcmaaRows
import Derived.Test.YtkppfaennogcmaaPrvB
import Derived.Test.YtkppfaennogcmaaPrvF
import Derived.Test.YtkppfaennogcmaaAbFrb
import Derived.Test.YtkppfaennogcmaaPrvL
import Derived.Test.YtkppfaennogcmaaPrvD
import Derived.Test.YtkppfaennogcmaaOpen
namespace Go.Proofs.Ytkppfaennogcmaa.lawPLikely
set_option linter.unusedSimpArgs false
set_option linter.unusedVariables false
set_option linter.unnecessarySimpa false
set_option linter.unusedSectionVars false
open Go.ChangeShapes Go.WideShapes Go.ChangeAt Go.RowKit Go.Joins Go.Deep
section
variable [Glob]
set_option maxRecDepth 100000
theorem half_pure : Pure Try.prog 32 [] (.agg [.int .i64 1, .int .i64 2]) := by
  refine pure_of mixed Try.func32 rfl (by kernel_rfl) (of_decide_eq_true rfl) (by kernel_rfl) (vc_run ?_)
  ((try simp -implicitDefEqProofs [-loopQ_n]) <;> (repeat' (first | (refine condD_dec ?_ ?_ <;> (intro hc; (try simp -implicitDefEqProofs [-loopQ_n, hc]))) | (refine guardD_dec ?_ ?_ <;> (intro hc; (try simp -implicitDefEqProofs [-loopQ_n, hc]))) | (refine condD_intro ?_ ?_ <;> (intro hd; have hc := hd; (try simp at hc) <;> (try simp -implicitDefEqProofs [-loopQ_n, hd, hc]))) | (refine guardD_intro ?_ ?_ <;> (intro hd; have hc := hd; (try simp at hc) <;> (try simp -implicitDefEqProofs [-loopQ_n, hd, hc]))) | (refine ldD_ep ?_ ?_; (focus kernel_rfl); (try simp -implicitDefEqProofs [-loopQ_n])))))
theorem cnt_cv {m n i : Nat} : cvL m n (cntV i) (cntV i) := by simp [cntV, List.range, List.range.loop]
theorem cnt_at {i m : Nat} (h : m < 12) (h' : m < (cntV i).length) : (cntV i)[m] = .int .i64 (cntN m i : Nat) := by
  have := cnt_get (n := i) h
  rw [List.getElem?_eq_getElem h'] at this
  exact Option.some.inj this
theorem wrap_u8' {n : Nat} : wrapI .u8 (n : Int) = ((UInt8.ofNat n).toNat : Int) := by
  rw [wrapI_eq]; simp [IntKind.wrap, IntKind.bits, IntKind.signed]
def wantS (n : Nat) : Nat → Nat
  | 0 => 0
  | s + 1 => wantS n s + 2 ^ (10 - (n + 2 + 2 * s))
theorem want_bd : ∀ n : Fin 9, ∀ s : Fin 6, wantS n.val s.val ≤ 5000 := by decide +kernel
theorem want_end : ∀ n : Fin 9, ∀ s : Fin 6, 10 < n.val + 2 + 2 * s.val → n.val + 2 * s.val ≤ 10 → 1 ≤ n.val → wantS n.val s.val = wantN n.val := by decide +kernel
set_option maxHeartbeats 16000000 in
theorem main (num d : Int) (a b : UInt8) : Pure Try.prog 7 [.agg [.int .i64 num, .int .i64 d], .agg [.int .u8 a.toNat, .int .u8 b.toNat]] (.bool true) := by
  refine pure_of mixed Try.func7 rfl (by kernel_rfl) (of_decide_eq_true rfl) (by kernel_rfl) (vc_run ?_)
  ((try simp -implicitDefEqProofs [-loopQ_n]) <;> (repeat' (first | (refine condD_dec ?_ ?_ <;> (intro hc; (try simp -implicitDefEqProofs [-loopQ_n, hc]))) | (refine guardD_dec ?_ ?_ <;> (intro hc; (try simp -implicitDefEqProofs [-loopQ_n, hc]))) | (refine condD_intro ?_ ?_ <;> (intro hd; have hc := hd; (try simp at hc) <;> (try simp -implicitDefEqProofs [-loopQ_n, hd, hc]))) | (refine guardD_intro ?_ ?_ <;> (intro hd; have hc := hd; (try simp at hc) <;> (try simp -implicitDefEqProofs [-loopQ_n, hd, hc]))) | (refine ldD_ep ?_ ?_; (focus kernel_rfl); (try simp -implicitDefEqProofs [-loopQ_n])) | (refine callS_mk ?_; (try simp -implicitDefEqProofs [-loopQ_n]); (first | refine callS_intro (awake_pure) (.inl rfl) ?_); (try simp -implicitDefEqProofs [-loopQ_n])))))
  refine loop_intro (σ := Nat) (fun i => ⟨[(2, .op 0 0), (3, .rp [.int .u8 a.toNat, .int .u8 b.toNat]), (5, .op 2 0), (19, .int .i64 i)], [.box 61 [.int .i64 num, .int .i64 d], .gone, .box 63 (cntV i)]⟩)
    (fun i => i ≤ 1024) (fun i => 1024 - i) 0 (by omega) ?_ ?_
  · refine (weak_frb 1 62 [.int .u8 a.toNat, .int .u8 b.toNat] rfl (by simp)).trans (weak_of 3 0 rfl rfl ?_ ?_)
    · simp [fbA, fbL]
    · rw [cnt_zero]; simp [fbH, fbB, fbL, fbA]
  · rintro i hi
    by_cases h : i < 1024
    · have h' : (i : Int) < 1024 := by omega
      obtain ⟨p, hp⟩ : ∃ p, UInt8.ofNat (i / 4) = p := ⟨_, rfl⟩
      obtain ⟨q, hq⟩ : ∃ q, UInt8.ofNat (i * 64) = q := ⟨_, rfl⟩
      have w1 : wrapI .i64 ((i : Int) * 64) = (i : Int) * 64 := wrap_in (by omega) (by omega)
      have w2 : wrapI .u8 ((i : Int) / 4) = (p.toNat : Int) := by rw [← hp, ← wrap_u8']; simp
      have w3 : wrapI .u8 ((i : Int) * 64) = (q.toNat : Int) := by rw [← hq, ← wrap_u8']; simp
      have w4 : wrapI .i64 ((i : Int) + 1) = ((i + 1 : Nat) : Int) := by rw [wrap_in (by omega) (by omega)]; omega
      have hbl : blOf i = [p, q] := by simp [blOf, hp, hq]
      have hN := Noise_pure 1 2 (blOf i) (by simp [blOf])
      obtain ⟨⟨n, u, e⟩, hR⟩ : ∃ R, noiseR 1 2 (blOf i) = R := ⟨_, rfl⟩
      have hO : outC i = outK (n, u, e) := by unfold outC; rw [hR]
      rw [hR, hbl] at hN
      clear hR hbl hp hq
      simp only [rowsOf, List.map_cons, List.map_nil, byC] at hN
      have hskip : ¬ (e = 0 ∧ u ≤ 10 ∧ 0 < u ∧ 0 < n ∧ n < 12) → cntV (i + 1) = cntV i := fun hn => cnt_same (by rw [hO]; exact if_neg hn)
      by_cases c1 : e = 0
      rotate_left
      · ((try simp -implicitDefEqProofs [-loopQ_n, h, h', w1, w2, w3, w4, c1]) <;> (repeat' (first | (refine condD_dec ?_ ?_ <;> (intro hc; (try simp -implicitDefEqProofs [-loopQ_n, hc, h, h', w1, w2, w3, w4, c1]))) | (refine guardD_dec ?_ ?_ <;> (intro hc; (try simp -implicitDefEqProofs [-loopQ_n, hc, h, h', w1, w2, w3, w4, c1]))) | (refine condD_intro ?_ ?_ <;> (intro hd; have hc := hd; (try simp at hc) <;> (try simp -implicitDefEqProofs [-loopQ_n, hd, hc, h, h', w1, w2, w3, w4, c1]))) | (refine guardD_intro ?_ ?_ <;> (intro hd; have hc := hd; (try simp at hc) <;> (try simp -implicitDefEqProofs [-loopQ_n, hd, hc, h, h', w1, w2, w3, w4, c1]))) | (refine ldD_ep ?_ ?_; (focus kernel_rfl); (try simp -implicitDefEqProofs [-loopQ_n, h, h', w1, w2, w3, w4, c1])) | (refine callS_mk ?_; (try simp -implicitDefEqProofs [-loopQ_n, h, h', w1, w2, w3, w4, c1]); (first | refine callS_intro (half_pure) (.inl rfl) ?_ | refine callS_intro (hN) (.inl rfl) ?_); (try simp -implicitDefEqProofs [-loopQ_n, h, h', w1, w2, w3, w4, c1])))))
        have hs := hskip (by omega)
        refine loop_next (i + 1) (by omega) (by omega) (weak_of 3 0 rfl rfl ?_ ?_) <;> simp [hs, cnt_cv]
      by_cases c2 : u ≤ 10
      rotate_left
      · ((try simp -implicitDefEqProofs [-loopQ_n, h, h', w1, w2, w3, w4, c1, c2]) <;> (repeat' (first | (refine condD_dec ?_ ?_ <;> (intro hc; (try simp -implicitDefEqProofs [-loopQ_n, hc, h, h', w1, w2, w3, w4, c1, c2]))) | (refine guardD_dec ?_ ?_ <;> (intro hc; (try simp -implicitDefEqProofs [-loopQ_n, hc, h, h', w1, w2, w3, w4, c1, c2]))) | (refine condD_intro ?_ ?_ <;> (intro hd; have hc := hd; (try simp at hc) <;> (try simp -implicitDefEqProofs [-loopQ_n, hd, hc, h, h', w1, w2, w3, w4, c1, c2]))) | (refine guardD_intro ?_ ?_ <;> (intro hd; have hc := hd; (try simp at hc) <;> (try simp -implicitDefEqProofs [-loopQ_n, hd, hc, h, h', w1, w2, w3, w4, c1, c2]))) | (refine ldD_ep ?_ ?_; (focus kernel_rfl); (try simp -implicitDefEqProofs [-loopQ_n, h, h', w1, w2, w3, w4, c1, c2])) | (refine callS_mk ?_; (try simp -implicitDefEqProofs [-loopQ_n, h, h', w1, w2, w3, w4, c1, c2]); (first | refine callS_intro (half_pure) (.inl rfl) ?_ | refine callS_intro (hN) (.inl rfl) ?_); (try simp -implicitDefEqProofs [-loopQ_n, h, h', w1, w2, w3, w4, c1, c2])))))
        have hs := hskip (by omega)
        refine loop_next (i + 1) (by omega) (by omega) (weak_of 3 0 rfl rfl ?_ ?_) <;> simp [hs, cnt_cv]
      by_cases c3 : 0 < u
      rotate_left
      · ((try simp -implicitDefEqProofs [-loopQ_n, h, h', w1, w2, w3, w4, c1, c2, c3]) <;> (repeat' (first | (refine condD_dec ?_ ?_ <;> (intro hc; (try simp -implicitDefEqProofs [-loopQ_n, hc, h, h', w1, w2, w3, w4, c1, c2, c3]))) | (refine guardD_dec ?_ ?_ <;> (intro hc; (try simp -implicitDefEqProofs [-loopQ_n, hc, h, h', w1, w2, w3, w4, c1, c2, c3]))) | (refine condD_intro ?_ ?_ <;> (intro hd; have hc := hd; (try simp at hc) <;> (try simp -implicitDefEqProofs [-loopQ_n, hd, hc, h, h', w1, w2, w3, w4, c1, c2, c3]))) | (refine guardD_intro ?_ ?_ <;> (intro hd; have hc := hd; (try simp at hc) <;> (try simp -implicitDefEqProofs [-loopQ_n, hd, hc, h, h', w1, w2, w3, w4, c1, c2, c3]))) | (refine ldD_ep ?_ ?_; (focus kernel_rfl); (try simp -implicitDefEqProofs [-loopQ_n, h, h', w1, w2, w3, w4, c1, c2, c3])) | (refine callS_mk ?_; (try simp -implicitDefEqProofs [-loopQ_n, h, h', w1, w2, w3, w4, c1, c2, c3]); (first | refine callS_intro (half_pure) (.inl rfl) ?_ | refine callS_intro (hN) (.inl rfl) ?_); (try simp -implicitDefEqProofs [-loopQ_n, h, h', w1, w2, w3, w4, c1, c2, c3])))))
        have hs := hskip (by omega)
        refine loop_next (i + 1) (by omega) (by omega) (weak_of 3 0 rfl rfl ?_ ?_) <;> simp [hs, cnt_cv]
      by_cases c4 : 0 < n
      rotate_left
      · ((try simp -implicitDefEqProofs [-loopQ_n, h, h', w1, w2, w3, w4, c1, c2, c3, c4]) <;> (repeat' (first | (refine condD_dec ?_ ?_ <;> (intro hc; (try simp -implicitDefEqProofs [-loopQ_n, hc, h, h', w1, w2, w3, w4, c1, c2, c3, c4]))) | (refine guardD_dec ?_ ?_ <;> (intro hc; (try simp -implicitDefEqProofs [-loopQ_n, hc, h, h', w1, w2, w3, w4, c1, c2, c3, c4]))) | (refine condD_intro ?_ ?_ <;> (intro hd; have hc := hd; (try simp at hc) <;> (try simp -implicitDefEqProofs [-loopQ_n, hd, hc, h, h', w1, w2, w3, w4, c1, c2, c3, c4]))) | (refine guardD_intro ?_ ?_ <;> (intro hd; have hc := hd; (try simp at hc) <;> (try simp -implicitDefEqProofs [-loopQ_n, hd, hc, h, h', w1, w2, w3, w4, c1, c2, c3, c4]))) | (refine ldD_ep ?_ ?_; (focus kernel_rfl); (try simp -implicitDefEqProofs [-loopQ_n, h, h', w1, w2, w3, w4, c1, c2, c3, c4])) | (refine callS_mk ?_; (try simp -implicitDefEqProofs [-loopQ_n, h, h', w1, w2, w3, w4, c1, c2, c3, c4]); (first | refine callS_intro (half_pure) (.inl rfl) ?_ | refine callS_intro (hN) (.inl rfl) ?_); (try simp -implicitDefEqProofs [-loopQ_n, h, h', w1, w2, w3, w4, c1, c2, c3, c4])))))
        have hs := hskip (by omega)
        refine loop_next (i + 1) (by omega) (by omega) (weak_of 3 0 rfl rfl ?_ ?_) <;> simp [hs, cnt_cv]
      by_cases c5 : n < 12
      rotate_left
      · ((try simp -implicitDefEqProofs [-loopQ_n, h, h', w1, w2, w3, w4, c1, c2, c3, c4, c5]) <;> (repeat' (first | (refine condD_dec ?_ ?_ <;> (intro hc; (try simp -implicitDefEqProofs [-loopQ_n, hc, h, h', w1, w2, w3, w4, c1, c2, c3, c4, c5]))) | (refine guardD_dec ?_ ?_ <;> (intro hc; (try simp -implicitDefEqProofs [-loopQ_n, hc, h, h', w1, w2, w3, w4, c1, c2, c3, c4, c5]))) | (refine condD_intro ?_ ?_ <;> (intro hd; have hc := hd; (try simp at hc) <;> (try simp -implicitDefEqProofs [-loopQ_n, hd, hc, h, h', w1, w2, w3, w4, c1, c2, c3, c4, c5]))) | (refine guardD_intro ?_ ?_ <;> (intro hd; have hc := hd; (try simp at hc) <;> (try simp -implicitDefEqProofs [-loopQ_n, hd, hc, h, h', w1, w2, w3, w4, c1, c2, c3, c4, c5]))) | (refine ldD_ep ?_ ?_; (focus kernel_rfl); (try simp -implicitDefEqProofs [-loopQ_n, h, h', w1, w2, w3, w4, c1, c2, c3, c4, c5])) | (refine callS_mk ?_; (try simp -implicitDefEqProofs [-loopQ_n, h, h', w1, w2, w3, w4, c1, c2, c3, c4, c5]); (first | refine callS_intro (half_pure) (.inl rfl) ?_ | refine callS_intro (hN) (.inl rfl) ?_); (try simp -implicitDefEqProofs [-loopQ_n, h, h', w1, w2, w3, w4, c1, c2, c3, c4, c5])))))
        have hs := hskip (by omega)
        refine loop_next (i + 1) (by omega) (by omega) (weak_of 3 0 rfl rfl ?_ ?_) <;> simp [hs, cnt_cv]
      obtain ⟨m, rfl⟩ : ∃ m : Nat, n = m := ⟨n.toNat, by omega⟩
      have hm : m < 12 := by omega
      have hom : outC i = m := by rw [hO]; unfold outK; rw [if_pos ⟨c1, c2, c3, c4, c5⟩]; simp
      have c6 : (0 : Int) ≤ m := by omega
      have hcl := @cnt_le _ m i
      have w5 : wrapI .i64 ((cntN m i : Nat) + 1 : Int) = ((cntN m i + 1 : Nat) : Int) := by rw [wrap_in (by omega) (by omega)]; omega
      have hgt := @cnt_at _ i m hm (by rw [cnt_len]; exact hm)
      have hm2 : 1 ≤ 12 - m := by omega
      have hst := cnt_set (n := i) hm hom
      rw [List.set_eq_take_append_cons_drop, if_pos (by rw [cnt_len]; exact hm), show ((cntN m i + 1 : Nat) : Int) = ((cntN m i : Nat) : Int) + 1 by omega] at hst
      have hm3 : m ≤ 11 := by omega
      have c7 : 0 < m := by omega
      have hln := @cnt_len _ i
      ((try simp -implicitDefEqProofs [-loopQ_n, h, h', w1, w2, w3, w4, c1, c2, c3, c4, c5, c6, hm, w5, hgt, hst, hln, hm2, hm3, c7]) <;> (repeat' (first | (refine condD_dec ?_ ?_ <;> (intro hc; (try simp -implicitDefEqProofs [-loopQ_n, hc, h, h', w1, w2, w3, w4, c1, c2, c3, c4, c5, c6, hm, w5, hgt, hst, hln, hm2, hm3, c7]))) | (refine guardD_dec ?_ ?_ <;> (intro hc; (try simp -implicitDefEqProofs [-loopQ_n, hc, h, h', w1, w2, w3, w4, c1, c2, c3, c4, c5, c6, hm, w5, hgt, hst, hln, hm2, hm3, c7]))) | (refine condD_intro ?_ ?_ <;> (intro hd; have hc := hd; (try simp at hc) <;> (try simp -implicitDefEqProofs [-loopQ_n, hd, hc, h, h', w1, w2, w3, w4, c1, c2, c3, c4, c5, c6, hm, w5, hgt, hst, hln, hm2, hm3, c7]))) | (refine guardD_intro ?_ ?_ <;> (intro hd; have hc := hd; (try simp at hc) <;> (try simp -implicitDefEqProofs [-loopQ_n, hd, hc, h, h', w1, w2, w3, w4, c1, c2, c3, c4, c5, c6, hm, w5, hgt, hst, hln, hm2, hm3, c7]))) | (refine ldD_ep ?_ ?_; (focus kernel_rfl); (try simp -implicitDefEqProofs [-loopQ_n, h, h', w1, w2, w3, w4, c1, c2, c3, c4, c5, c6, hm, w5, hgt, hst, hln, hm2, hm3, c7])) | (refine callS_mk ?_; (try simp -implicitDefEqProofs [-loopQ_n, h, h', w1, w2, w3, w4, c1, c2, c3, c4, c5, c6, hm, w5, hgt, hst, hln, hm2, hm3, c7]); (first | refine callS_intro (half_pure) (.inl rfl) ?_ | refine callS_intro (hN) (.inl rfl) ?_); (try simp -implicitDefEqProofs [-loopQ_n, h, h', w1, w2, w3, w4, c1, c2, c3, c4, c5, c6, hm, w5, hgt, hst, hln, hm2, hm3, c7])))))
      refine loop_next (i + 1) (by omega) (by omega) (weak_of 3 0 rfl rfl ?_ ?_) <;> simp [cnt_cv]
    · obtain rfl : i = 1024 := by omega
      ((try simp -implicitDefEqProofs [-loopQ_n]) <;> (repeat' (first | (refine condD_dec ?_ ?_ <;> (intro hc; (try simp -implicitDefEqProofs [-loopQ_n, hc]))) | (refine guardD_dec ?_ ?_ <;> (intro hc; (try simp -implicitDefEqProofs [-loopQ_n, hc]))) | (refine condD_intro ?_ ?_ <;> (intro hd; have hc := hd; (try simp at hc) <;> (try simp -implicitDefEqProofs [-loopQ_n, hd, hc]))) | (refine guardD_intro ?_ ?_ <;> (intro hd; have hc := hd; (try simp at hc) <;> (try simp -implicitDefEqProofs [-loopQ_n, hd, hc]))) | (refine ldD_ep ?_ ?_; (focus kernel_rfl); (try simp -implicitDefEqProofs [-loopQ_n])) | (refine callS_mk ?_; (try simp -implicitDefEqProofs [-loopQ_n]); (first | refine callS_intro (r1valid_pure (num, d)) (.inl rfl) ?_); (try simp -implicitDefEqProofs [-loopQ_n])))))
      refine loop_intro (σ := Nat) (fun n => ⟨[(2, .op 0 0), (3, .rp [.int .u8 a.toNat, .int .u8 b.toNat]), (5, .op 2 0), (10, .int .i64 n)], [.box 61 [.int .i64 num, .int .i64 d], .gone, .box 63 (cntV 1024)]⟩)
        (fun n => 1 ≤ n ∧ n ≤ 9) (fun n => 9 - n) 1 (by omega) ?_ ?_
      · refine weak_of 3 0 rfl rfl ?_ ?_ <;> simp [cnt_cv]
      rintro n ⟨hn1, hn9⟩
      by_cases h8 : n < 9
      · have h8' : (n : Int) ≤ 8 := by omega
        have w1 : wrapI .i64 ((n : Int) + 2) = ((n + 2 : Nat) : Int) := by rw [wrap_in (by omega) (by omega)]; omega
        have w2 : wrapI .i64 ((n : Int) + 1) = ((n + 1 : Nat) : Int) := by rw [wrap_in (by omega) (by omega)]; omega
        ((try simp -implicitDefEqProofs [-loopQ_n, h8', w1]) <;> (repeat' (first | (refine condD_dec ?_ ?_ <;> (intro hc; (try simp -implicitDefEqProofs [-loopQ_n, hc, h8', w1]))) | (refine guardD_dec ?_ ?_ <;> (intro hc; (try simp -implicitDefEqProofs [-loopQ_n, hc, h8', w1]))) | (refine condD_intro ?_ ?_ <;> (intro hd; have hc := hd; (try simp at hc) <;> (try simp -implicitDefEqProofs [-loopQ_n, hd, hc, h8', w1]))) | (refine guardD_intro ?_ ?_ <;> (intro hd; have hc := hd; (try simp at hc) <;> (try simp -implicitDefEqProofs [-loopQ_n, hd, hc, h8', w1]))) | (refine ldD_ep ?_ ?_; (focus kernel_rfl); (try simp -implicitDefEqProofs [-loopQ_n, h8', w1])))))
        refine loop_intro (σ := Nat) (fun s => ⟨[(2, .op 0 0), (3, .rp [.int .u8 a.toNat, .int .u8 b.toNat]), (5, .op 2 0), (10, .int .i64 n), (11, .int .i64 (wantS n s : Nat)), (12, .int .i64 (n + 2 + 2 * s : Nat))], [.box 61 [.int .i64 num, .int .i64 d], .gone, .box 63 (cntV 1024)]⟩)
          (fun s => s ≤ 5 ∧ n + 2 * s ≤ 10) (fun s => 5 - s) 0 (by omega) ?_ ?_
        · refine weak_of 3 0 rfl rfl ?_ ?_ <;> simp [wantS, cnt_cv]
        rintro s ⟨hs5, hs⟩
        by_cases ht : n + 2 + 2 * s ≤ 10
        · have ht' : ((n + 2 + 2 * s : Nat) : Int) ≤ 10 := by omega
          obtain ⟨t, hte⟩ : ∃ t, t = n + 2 + 2 * s := ⟨_, rfl⟩
          rw [← hte] at ht'
          obtain ⟨m, hm⟩ : ∃ m, m = 10 - t := ⟨_, rfl⟩
          have w3 : wrapI .i64 (10 - (t : Int)) = (m : Int) := by rw [wrap_in (by omega) (by omega)]; omega
          have w4 : wrapI .i64 ((t : Int) + 2) = ((n + 2 + 2 * (s + 1) : Nat) : Int) := by rw [wrap_in (by omega) (by omega)]; omega
          have hW : wantS n (s + 1) = wantS n s + 2 ^ m := by rw [hm, hte]; rfl
          have hb1 := want_bd ⟨n, by omega⟩ ⟨s + 1, by omega⟩
          simp only [hW] at hb1
          obtain ⟨M, hM⟩ : ∃ M : Nat, M = 2 ^ m := ⟨_, rfl⟩
          rw [← hM] at hW hb1
          have hM' : (2 : Int) ^ m = M := by rw [hM]; simp
          have hm64 : (m : Int) ≤ 64 := by omega
          have w5 : wrapI .i64 (M : Int) = M := wrap_in (by omega) (by omega)
          have w6 : wrapI .i64 (((wantS n s : Nat) : Int) + (M : Int)) = ((wantS n (s + 1) : Nat) : Int) := by rw [hW, wrap_in (by omega) (by omega)]; omega
          rw [← hte]
          ((try simp -implicitDefEqProofs [-loopQ_n, ht', w3, w4, w5, w6, hM', hm64]) <;> (repeat' (first | (refine condD_dec ?_ ?_ <;> (intro hc; (try simp -implicitDefEqProofs [-loopQ_n, hc, ht', w3, w4, w5, w6, hM', hm64]))) | (refine guardD_dec ?_ ?_ <;> (intro hc; (try simp -implicitDefEqProofs [-loopQ_n, hc, ht', w3, w4, w5, w6, hM', hm64]))) | (refine condD_intro ?_ ?_ <;> (intro hd; have hc := hd; (try simp at hc) <;> (try simp -implicitDefEqProofs [-loopQ_n, hd, hc, ht', w3, w4, w5, w6, hM', hm64]))) | (refine guardD_intro ?_ ?_ <;> (intro hd; have hc := hd; (try simp at hc) <;> (try simp -implicitDefEqProofs [-loopQ_n, hd, hc, ht', w3, w4, w5, w6, hM', hm64]))) | (refine ldD_ep ?_ ?_; (focus kernel_rfl); (try simp -implicitDefEqProofs [-loopQ_n, ht', w3, w4, w5, w6, hM', hm64])))))
          refine loop_next (s + 1) ⟨by omega, by omega⟩ (by omega) (weak_of 3 0 rfl rfl ?_ ?_) <;> simp [cnt_cv]
        · have ht' : ¬ ((n + 2 + 2 * s : Nat) : Int) ≤ 10 := by omega
          have hgt := cnt_get (n := 1024) (k := n) (by omega)
          have hm2 : 1 ≤ (cntV 1024).length - n := by rw [cnt_len]; omega
          have hm3 : (n : Int) < 12 := by omega
          have hE : cntN n 1024 = wantS n s := by
            rw [want_end ⟨n, by omega⟩ ⟨s, by omega⟩ (by simp only; omega) (by simp only; omega) (by simp only; omega)]
            have := cnt_want ⟨n - 1, by omega⟩
            simpa [show n - 1 + 1 = n by omega] using this
          obtain ⟨t, hte⟩ : ∃ t, t = n + 2 + 2 * s := ⟨_, rfl⟩
          rw [← hte] at ht' ⊢
          ((try simp -implicitDefEqProofs [-loopQ_n, ht', w2, hgt, hE, hm2, hm3]) <;> (repeat' (first | (refine condD_dec ?_ ?_ <;> (intro hc; (try simp -implicitDefEqProofs [-loopQ_n, hc, ht', w2, hgt, hE, hm2, hm3]))) | (refine guardD_dec ?_ ?_ <;> (intro hc; (try simp -implicitDefEqProofs [-loopQ_n, hc, ht', w2, hgt, hE, hm2, hm3]))) | (refine condD_intro ?_ ?_ <;> (intro hd; have hc := hd; (try simp at hc) <;> (try simp -implicitDefEqProofs [-loopQ_n, hd, hc, ht', w2, hgt, hE, hm2, hm3]))) | (refine guardD_intro ?_ ?_ <;> (intro hd; have hc := hd; (try simp at hc) <;> (try simp -implicitDefEqProofs [-loopQ_n, hd, hc, ht', w2, hgt, hE, hm2, hm3]))) | (refine ldD_ep ?_ ?_; (focus kernel_rfl); (try simp -implicitDefEqProofs [-loopQ_n, ht', w2, hgt, hE, hm2, hm3])))))
          refine loop_next (n + 1) ⟨by omega, by omega⟩ (by omega) (weak_of 3 0 rfl rfl ?_ ?_) <;> simp [cnt_cv]
      · obtain rfl : n = 9 := by omega
        have hv := r1valid_pure (num, d)
        cases hvf : validF num d with
        | false =>
          simp only [hvf] at hv
          ((try simp -implicitDefEqProofs [-loopQ_n]) <;> (repeat' (first | (refine condD_dec ?_ ?_ <;> (intro hc; (try simp -implicitDefEqProofs [-loopQ_n, hc]))) | (refine guardD_dec ?_ ?_ <;> (intro hc; (try simp -implicitDefEqProofs [-loopQ_n, hc]))) | (refine condD_intro ?_ ?_ <;> (intro hd; have hc := hd; (try simp at hc) <;> (try simp -implicitDefEqProofs [-loopQ_n, hd, hc]))) | (refine guardD_intro ?_ ?_ <;> (intro hd; have hc := hd; (try simp at hc) <;> (try simp -implicitDefEqProofs [-loopQ_n, hd, hc]))) | (refine ldD_ep ?_ ?_; (focus kernel_rfl); (try simp -implicitDefEqProofs [-loopQ_n])) | (refine callS_mk ?_; (try simp -implicitDefEqProofs [-loopQ_n]); (first | refine callS_intro (hv) (.inl rfl) ?_); (try simp -implicitDefEqProofs [-loopQ_n])))))
        | true =>
          simp only [hvf] at hv
          have hb := validF_bd hvf
          by_cases k1 : num < 0
          · ((try simp -implicitDefEqProofs [-loopQ_n, k1]) <;> (repeat' (first | (refine condD_dec ?_ ?_ <;> (intro hc; (try simp -implicitDefEqProofs [-loopQ_n, hc, k1]))) | (refine guardD_dec ?_ ?_ <;> (intro hc; (try simp -implicitDefEqProofs [-loopQ_n, hc, k1]))) | (refine condD_intro ?_ ?_ <;> (intro hd; have hc := hd; (try simp at hc) <;> (try simp -implicitDefEqProofs [-loopQ_n, hd, hc, k1]))) | (refine guardD_intro ?_ ?_ <;> (intro hd; have hc := hd; (try simp at hc) <;> (try simp -implicitDefEqProofs [-loopQ_n, hd, hc, k1]))) | (refine ldD_ep ?_ ?_; (focus kernel_rfl); (try simp -implicitDefEqProofs [-loopQ_n, k1])) | (refine callS_mk ?_; (try simp -implicitDefEqProofs [-loopQ_n, k1]); (first | refine callS_intro (hv) (.inl rfl) ?_); (try simp -implicitDefEqProofs [-loopQ_n, k1])))))
          by_cases k2 : d ≤ num
          · ((try simp -implicitDefEqProofs [-loopQ_n, k1, k2]) <;> (repeat' (first | (refine condD_dec ?_ ?_ <;> (intro hc; (try simp -implicitDefEqProofs [-loopQ_n, hc, k1, k2]))) | (refine guardD_dec ?_ ?_ <;> (intro hc; (try simp -implicitDefEqProofs [-loopQ_n, hc, k1, k2]))) | (refine condD_intro ?_ ?_ <;> (intro hd; have hc := hd; (try simp at hc) <;> (try simp -implicitDefEqProofs [-loopQ_n, hd, hc, k1, k2]))) | (refine guardD_intro ?_ ?_ <;> (intro hd; have hc := hd; (try simp at hc) <;> (try simp -implicitDefEqProofs [-loopQ_n, hd, hc, k1, k2]))) | (refine ldD_ep ?_ ?_; (focus kernel_rfl); (try simp -implicitDefEqProofs [-loopQ_n, k1, k2])) | (refine callS_mk ?_; (try simp -implicitDefEqProofs [-loopQ_n, k1, k2]); (first | refine callS_intro (hv) (.inl rfl) ?_); (try simp -implicitDefEqProofs [-loopQ_n, k1, k2])))))
          have hN := Noise_pure num d [a, b] (by simp)
          have hL := fun h h0 => likely (num := num) (d := d) (a := a) (b := b) h h0
          generalize noiseR num d [a, b] = R at *
          simp only [rowsOf, List.map_cons, List.map_nil, byC] at hN
          by_cases k3 : R.2.2 = 0
          rotate_left
          · ((try simp -implicitDefEqProofs [-loopQ_n, k1, k2, k3]) <;> (repeat' (first | (refine condD_dec ?_ ?_ <;> (intro hc; (try simp -implicitDefEqProofs [-loopQ_n, hc, k1, k2, k3]))) | (refine guardD_dec ?_ ?_ <;> (intro hc; (try simp -implicitDefEqProofs [-loopQ_n, hc, k1, k2, k3]))) | (refine condD_intro ?_ ?_ <;> (intro hd; have hc := hd; (try simp at hc) <;> (try simp -implicitDefEqProofs [-loopQ_n, hd, hc, k1, k2, k3]))) | (refine guardD_intro ?_ ?_ <;> (intro hd; have hc := hd; (try simp at hc) <;> (try simp -implicitDefEqProofs [-loopQ_n, hd, hc, k1, k2, k3]))) | (refine ldD_ep ?_ ?_; (focus kernel_rfl); (try simp -implicitDefEqProofs [-loopQ_n, k1, k2, k3])) | (refine callS_mk ?_; (try simp -implicitDefEqProofs [-loopQ_n, k1, k2, k3]); (first | refine callS_intro (hv) (.inl rfl) ?_ | refine callS_intro (hN) (.inl rfl) ?_); (try simp -implicitDefEqProofs [-loopQ_n, k1, k2, k3])))))
          have ha := a.toNat_lt
          have hbb := b.toNat_lt
          have or1 := or_bytes a b
          obtain ⟨u, hu⟩ : ∃ u, u = a.toNat * 256 + b.toNat := ⟨_, rfl⟩
          rw [← hu] at hL or1
          obtain ⟨P, hP⟩ : ∃ P, P = ((u : Int) + 1) * d := ⟨_, rfl⟩
          rw [← hP] at hL
          have hP0 : 0 ≤ P := by rw [hP]; exact Int.mul_nonneg (by omega) (by omega)
          have hP1 : P ≤ 65536 * d := by rw [hP]; exact Int.mul_le_mul_of_nonneg_right (by omega) (by omega)
          have hP' := hP.symm
          have x1 : wrapI .i64 (a.toNat : Int) = (a.toNat : Int) := wrap_in (by omega) (by omega)
          have x2 : wrapI .i64 (b.toNat : Int) = (b.toNat : Int) := wrap_in (by omega) (by omega)
          have x3 : wrapI .i64 ((a.toNat : Int) * 256) = (a.toNat : Int) * 256 := wrap_in (by omega) (by omega)
          have x4 : wrapI .i64 ((u : Int) + 1) = (u : Int) + 1 := wrap_in (by omega) (by omega)
          have x5 : wrapI .i64 P = P := wrap_in (by omega) (by omega)
          have x6 : wrapI .i64 (num * 65536) = num * 65536 := wrap_in (by omega) (by omega)
          have x7 : wrapI .i64 (u : Int) = (u : Int) := wrap_in (by omega) (by omega)
          by_cases k4 : num * 65536 < P
          · ((try simp -implicitDefEqProofs [-loopQ_n, k1, k2, k3, k4, or1, hP', x1, x2, x3, x4, x5, x6, x7]) <;> (repeat' (first | (refine condD_dec ?_ ?_ <;> (intro hc; (try simp -implicitDefEqProofs [-loopQ_n, hc, k1, k2, k3, k4, or1, hP', x1, x2, x3, x4, x5, x6, x7]))) | (refine guardD_dec ?_ ?_ <;> (intro hc; (try simp -implicitDefEqProofs [-loopQ_n, hc, k1, k2, k3, k4, or1, hP', x1, x2, x3, x4, x5, x6, x7]))) | (refine condD_intro ?_ ?_ <;> (intro hd; have hc := hd; (try simp at hc) <;> (try simp -implicitDefEqProofs [-loopQ_n, hd, hc, k1, k2, k3, k4, or1, hP', x1, x2, x3, x4, x5, x6, x7]))) | (refine guardD_intro ?_ ?_ <;> (intro hd; have hc := hd; (try simp at hc) <;> (try simp -implicitDefEqProofs [-loopQ_n, hd, hc, k1, k2, k3, k4, or1, hP', x1, x2, x3, x4, x5, x6, x7]))) | (refine ldD_ep ?_ ?_; (focus kernel_rfl); (try simp -implicitDefEqProofs [-loopQ_n, k1, k2, k3, k4, or1, hP', x1, x2, x3, x4, x5, x6, x7])) | (refine callS_mk ?_; (try simp -implicitDefEqProofs [-loopQ_n, k1, k2, k3, k4, or1, hP', x1, x2, x3, x4, x5, x6, x7]); (first | refine callS_intro (hv) (.inl rfl) ?_ | refine callS_intro (hN) (.inl rfl) ?_); (try simp -implicitDefEqProofs [-loopQ_n, k1, k2, k3, k4, or1, hP', x1, x2, x3, x4, x5, x6, x7])))))
          · have k5 : ¬ R.1 = 0 := fun h => k4 (hL k3 h)
            ((try simp -implicitDefEqProofs [-loopQ_n, k1, k2, k3, k4, k5, or1, hP', x1, x2, x3, x4, x5, x6, x7]) <;> (repeat' (first | (refine condD_dec ?_ ?_ <;> (intro hc; (try simp -implicitDefEqProofs [-loopQ_n, hc, k1, k2, k3, k4, k5, or1, hP', x1, x2, x3, x4, x5, x6, x7]))) | (refine guardD_dec ?_ ?_ <;> (intro hc; (try simp -implicitDefEqProofs [-loopQ_n, hc, k1, k2, k3, k4, k5, or1, hP', x1, x2, x3, x4, x5, x6, x7]))) | (refine condD_intro ?_ ?_ <;> (intro hd; have hc := hd; (try simp at hc) <;> (try simp -implicitDefEqProofs [-loopQ_n, hd, hc, k1, k2, k3, k4, k5, or1, hP', x1, x2, x3, x4, x5, x6, x7]))) | (refine guardD_intro ?_ ?_ <;> (intro hd; have hc := hd; (try simp at hc) <;> (try simp -implicitDefEqProofs [-loopQ_n, hd, hc, k1, k2, k3, k4, k5, or1, hP', x1, x2, x3, x4, x5, x6, x7]))) | (refine ldD_ep ?_ ?_; (focus kernel_rfl); (try simp -implicitDefEqProofs [-loopQ_n, k1, k2, k3, k4, k5, or1, hP', x1, x2, x3, x4, x5, x6, x7])) | (refine callS_mk ?_; (try simp -implicitDefEqProofs [-loopQ_n, k1, k2, k3, k4, k5, or1, hP', x1, x2, x3, x4, x5, x6, x7]); (first | refine callS_intro (hv) (.inl rfl) ?_ | refine callS_intro (hN) (.inl rfl) ?_); (try simp -implicitDefEqProofs [-loopQ_n, k1, k2, k3, k4, k5, or1, hP', x1, x2, x3, x4, x5, x6, x7])))))
theorem both (x0 : AV) (s0 : argS Try.prog 61 x0) (x1 : AV) (s1 : argS Try.prog 62 x1) : Pure Try.prog 7 [x0, x1] (.bool true) := by
  obtain ⟨v, rfl, _⟩ := arg_frac s0
  obtain ⟨a, b, rfl⟩ := arg_two s1
  exact main v.1 v.2 a b
theorem walk (W : World) (hvo : VarsOk W (fun _ => False)) (v0 : Value) (x0 : AV) (r0 : RO W (fun _ => False) x0 v0) (s0 : argS Try.prog 61 x0) (v1 : Value) (x1 : AV) (r1 : RO W (fun _ => False) x1 v1) (s1 : argS Try.prog 62 x1) :
    Calls Try.prog 7 #[v0, v1] W fun e w' => e = .returned (.bool true) ∧ Below W.heap.size W w' := by
  refine ((both x0 s0 x1 s1).2 W (fun _ => False) _ (fun _ h => h.elim) hvo rfl ?_).mono ?_
  · intro j x v hj hv
    match j with
    | 0 => simp at hj hv; subst hj hv; exact r0
    | 1 => simp at hj hv; subst hj hv; exact r1
    | j + 2 => simp at hj
  · rintro e w' ⟨v, rfl, hv, hb⟩
    rw [ro_tt hv]
    exact ⟨rfl, hb⟩
end
set_option maxRecDepth 100000 in
theorem lifted (os : Os) (started : os.Started) (H : Type) (enc : TypeId × Value → H) :
    ReturnsInHanded {} Try.checked os 7 .any (Rows.privacyLikelySpec.pre6 enc Try.prog Try.f7 Rows.privacyLikelyRow.domain false) (Rows.privacyLikelySpec.post enc Try.prog Try.f7 false true false false) := by
  refine returnsInHanded_of_change (C := Try.checked) (@ownK ⟨fun _ => none⟩) started (by kernel_rfl) Try.func7
    (ChangeSpec.witness6 (enc := enc) (C := Try.checked) false ⟨#[], #[.agg #[.int .i64 0, .int .i64 0], .agg #[.int .u8 0, .int .u8 0]], []⟩ 8 (by kernel_rfl) (by kernel_rfl) (by kernel_rfl) (by kernel_rfl)) ?_
  intro W base args ds gs before hval0 hW hcnd _
  have hval : ∀ (j : Nat) t v, Try.f7.params[j]? = some t → args[j]? = some v → Value.okWide Try.prog W .any base t v := hval0
  have hW' := hW
  obtain ⟨p, q, hA0, hV, rfl, hfz, hnd⟩ := hW
  have hA : DataW.TrodAll enc Try.prog W 0 (fun _ => true) true Try.f7.params.toList args.toList ds p := hA0
  rw [Try.params7] at hA hval
  obtain ⟨v0, vs0, d0, ds0, p0, q0, hargs, rfl, rfl, h0, r0⟩ := trodAll_cons hA
  obtain ⟨v1, vs1, d1, ds1, p1, q1, rfl, rfl, rfl, h1, r1⟩ := trodAll_cons r0
  obtain ⟨rfl, rfl, rfl⟩ := trodAll_nil r1
  obtain rfl : args = #[v0, v1] := by cases args; simp_all
  obtain ⟨rfl, rfl⟩ := trodVars_none hV
  letI : Glob := ⟨fun _ => none⟩
  have k0 := h0
  have lt0 : ∀ x ∈ p0, x.block < W.heap.size := by obtain ⟨m, hm⟩ := k0; exact DataW.trod_lt m _ _ _ hm
  obtain ⟨x0, y0, s0⟩ := arg_open (P := Try.prog) (t := 61) (by kernel_rfl) (by kernel_rfl) (hval 0 61 v0 rfl rfl) h0
  have k1 := h1
  have lt1 : ∀ x ∈ p1, x.block < W.heap.size := by obtain ⟨m, hm⟩ := k1; exact DataW.trod_lt m _ _ _ hm
  obtain ⟨x1, y1, s1⟩ := arg_open (P := Try.prog) (t := 62) (by kernel_rfl) (by kernel_rfl) (hval 1 62 v1 rfl rfl) h1
  clear hA0 hval0
  refine (walk W (fun g row h => by cases h) v0 x0 y0 s0 v1 x1 y1 s1).mono fun e W' ⟨he, bel⟩ => ?_
  subst he
  exact ⟨_, rfl, _, _, _, [], _, [], hW', trodAll_mk1 (shut_bool Try.underlying4 _), (trodAll_cons_mk (Below.trod laidK (by kernel_rfl) (of_decide_eq_true (by kernel_rfl)) k0 bel lt0) (trodAll_cons_mk (Below.trod laidK (by kernel_rfl) (of_decide_eq_true (by kernel_rfl)) k1 bel lt1) trodAll_mk0)), rfl, bel.frame _, fun h => by cases h⟩

theorem over : Rows.privacyLikelyRow.holds Try.pinned (OpenSpec.ofChange Rows.privacyLikelySpec) :=
  OpenClaim.holds_of_wide 7 Try.f7 rfl rfl rfl rfl rfl rfl rfl ⟨rfl, rfl, rfl, rfl, rfl⟩ rfl rfl rfl rfl rfl (by kernel_rfl) Try.func7 (by kernel_rfl)
    (of_decide_eq_true (by kernel_rfl)) (by unfold Func.isWrapper; first | (rw [if_pos (by decide +kernel)]; kernel_rfl) | (rw [if_neg (by decide +kernel)]; exact ⟨rfl, rfl⟩))
    (fun os started H enc _ => lifted os started H enc)

theorem proved : Rows.PrivacyLikelySaid := over
end Go.Proofs.Ytkppfaennogcmaa.lawPLikely
