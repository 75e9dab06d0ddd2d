/- Union, Busy, Most, and Waiting return what the reference does (the law SpansMeasures holds for every input; no condition). -/
import Derived.Test.YtfbpjlabhckoeaaGreatRows
import Derived.Test.YtfbpjlabhckoeaaGreatSpnA
import Derived.Test.YtfbpjlabhckoeaaGreatSpnI
import Derived.Test.YtfbpjlabhckoeaaGreatSpnD
namespace Go.Proofs.YtfbpjlabhckoeaaGreat.lawSMeas
set_option linter.unusedSimpArgs false
set_option linter.unusedVariables false
set_option linter.unnecessarySimpa false
set_option linter.unusedSectionVars false
open Go.ChangeShapes Go.WideShapes Go.ChangeAt Go.RowKit Go.Joins Go.Deep
section
variable [Glob]
set_option maxRecDepth 100000
theorem eqI_self (a : List Int) (ha : a.length ≤ 9223372036854775807) : Pure Tryz.prog 15 [.rs (rowsOf intC a), .rs (rowsOf intC a)] (.bool true) := by
  refine pure_of mixed Tryz.func15 rfl (by kernel_rfl) (of_decide_eq_true rfl) (by kernel_rfl) (vc_run ?_)
  ((try simp -implicitDefEqProofs [-loopQ_n]) <;> (repeat' (first | (refine condD_dec ?_ ?_ <;> (intro hc; (try simp -implicitDefEqProofs [-loopQ_n, hc]))) | (refine guardD_dec ?_ ?_ <;> (intro hc; (try simp -implicitDefEqProofs [-loopQ_n, hc]))) | (refine condD_intro ?_ ?_ <;> (intro hd; have hc := hd; (try simp at hc) <;> (try simp -implicitDefEqProofs [-loopQ_n, hd, hc]))) | (refine guardD_intro ?_ ?_ <;> (intro hd; have hc := hd; (try simp at hc) <;> (try simp -implicitDefEqProofs [-loopQ_n, hd, hc]))) | (refine ldD_ep ?_ ?_; (focus kernel_rfl); (try simp -implicitDefEqProofs [-loopQ_n])))))
  refine loop_intro (σ := Nat) (fun i => ⟨[(0, .rs (rowsOf intC a)), (1, .rs (rowsOf intC a)), (12, .int .i64 a.length), (13, .int .i64 i)], []⟩) (fun i => i ≤ a.length) (fun i => a.length - i) 0 (by simp) ?_ ?_
  · refine weak_of 0 0 rfl rfl ?_ ?_ <;> simp [int_refs]
  intro i hi
  by_cases h : i < a.length
  · have w1 := w_succ' h (by omega)
    ((try simp -implicitDefEqProofs [-loopQ_n, h, intC, w1]) <;> (repeat' (first | (refine condD_dec ?_ ?_ <;> (intro hc; (try simp -implicitDefEqProofs [-loopQ_n, hc, h, intC, w1]))) | (refine guardD_dec ?_ ?_ <;> (intro hc; (try simp -implicitDefEqProofs [-loopQ_n, hc, h, intC, w1]))) | (refine condD_intro ?_ ?_ <;> (intro hd; have hc := hd; (try simp at hc) <;> (try simp -implicitDefEqProofs [-loopQ_n, hd, hc, h, intC, w1]))) | (refine guardD_intro ?_ ?_ <;> (intro hd; have hc := hd; (try simp at hc) <;> (try simp -implicitDefEqProofs [-loopQ_n, hd, hc, h, intC, w1]))) | (refine ldD_ep ?_ ?_; (focus kernel_rfl); (try simp -implicitDefEqProofs [-loopQ_n, h, intC, w1])))))
    refine loop_next (i + 1) h (by omega) (weak_of 0 0 rfl rfl ?_ ?_) <;> simp [int_refs]
  · ((try simp -implicitDefEqProofs [-loopQ_n, h]) <;> (repeat' (first | (refine condD_dec ?_ ?_ <;> (intro hc; (try simp -implicitDefEqProofs [-loopQ_n, hc, h]))) | (refine guardD_dec ?_ ?_ <;> (intro hc; (try simp -implicitDefEqProofs [-loopQ_n, hc, h]))) | (refine condD_intro ?_ ?_ <;> (intro hd; have hc := hd; (try simp at hc) <;> (try simp -implicitDefEqProofs [-loopQ_n, hd, hc, h]))) | (refine guardD_intro ?_ ?_ <;> (intro hd; have hc := hd; (try simp at hc) <;> (try simp -implicitDefEqProofs [-loopQ_n, hd, hc, h]))) | (refine ldD_ep ?_ ?_; (focus kernel_rfl); (try simp -implicitDefEqProofs [-loopQ_n, h])))))
theorem eqS_self (a : List Sp) (ha : a.length ≤ 9223372036854775807) : Pure Tryz.prog 14 [.rs (rowsOf spC a), .rs (rowsOf spC a)] (.bool true) := by
  refine pure_of mixed Tryz.func14 rfl (by kernel_rfl) (of_decide_eq_true rfl) (by kernel_rfl) (vc_run ?_)
  ((try simp -implicitDefEqProofs [-loopQ_n]) <;> (repeat' (first | (refine condD_dec ?_ ?_ <;> (intro hc; (try simp -implicitDefEqProofs [-loopQ_n, hc]))) | (refine guardD_dec ?_ ?_ <;> (intro hc; (try simp -implicitDefEqProofs [-loopQ_n, hc]))) | (refine condD_intro ?_ ?_ <;> (intro hd; have hc := hd; (try simp at hc) <;> (try simp -implicitDefEqProofs [-loopQ_n, hd, hc]))) | (refine guardD_intro ?_ ?_ <;> (intro hd; have hc := hd; (try simp at hc) <;> (try simp -implicitDefEqProofs [-loopQ_n, hd, hc]))) | (refine ldD_ep ?_ ?_; (focus kernel_rfl); (try simp -implicitDefEqProofs [-loopQ_n])))))
  refine loop_intro (σ := Nat) (fun i => ⟨[(0, .rs (rowsOf spC a)), (1, .rs (rowsOf spC a)), (12, .int .i64 a.length), (13, .int .i64 i)], []⟩) (fun i => i ≤ a.length) (fun i => a.length - i) 0 (by simp) ?_ ?_
  · refine weak_of 0 0 rfl rfl ?_ ?_ <;> simp [sp_refs]
  intro i hi
  by_cases h : i < a.length
  · have w1 := w_succ' h (by omega)
    obtain ⟨⟨f, t⟩, hf⟩ : ∃ e, a[i] = e := ⟨_, rfl⟩
    ((try simp -implicitDefEqProofs [-loopQ_n, h, hf, spC, w1]) <;> (repeat' (first | (refine condD_dec ?_ ?_ <;> (intro hc; (try simp -implicitDefEqProofs [-loopQ_n, hc, h, hf, spC, w1]))) | (refine guardD_dec ?_ ?_ <;> (intro hc; (try simp -implicitDefEqProofs [-loopQ_n, hc, h, hf, spC, w1]))) | (refine condD_intro ?_ ?_ <;> (intro hd; have hc := hd; (try simp at hc) <;> (try simp -implicitDefEqProofs [-loopQ_n, hd, hc, h, hf, spC, w1]))) | (refine guardD_intro ?_ ?_ <;> (intro hd; have hc := hd; (try simp at hc) <;> (try simp -implicitDefEqProofs [-loopQ_n, hd, hc, h, hf, spC, w1]))) | (refine ldD_ep ?_ ?_; (focus kernel_rfl); (try simp -implicitDefEqProofs [-loopQ_n, h, hf, spC, w1])))))
    refine loop_next (i + 1) h (by omega) (weak_of 0 0 rfl rfl ?_ ?_) <;> simp [sp_refs]
  · ((try simp -implicitDefEqProofs [-loopQ_n, h]) <;> (repeat' (first | (refine condD_dec ?_ ?_ <;> (intro hc; (try simp -implicitDefEqProofs [-loopQ_n, hc, h]))) | (refine guardD_dec ?_ ?_ <;> (intro hc; (try simp -implicitDefEqProofs [-loopQ_n, hc, h]))) | (refine condD_intro ?_ ?_ <;> (intro hd; have hc := hd; (try simp at hc) <;> (try simp -implicitDefEqProofs [-loopQ_n, hd, hc, h]))) | (refine guardD_intro ?_ ?_ <;> (intro hd; have hc := hd; (try simp at hc) <;> (try simp -implicitDefEqProofs [-loopQ_n, hd, hc, h]))) | (refine ldD_ep ?_ ?_; (focus kernel_rfl); (try simp -implicitDefEqProofs [-loopQ_n, h])))))
set_option maxHeartbeats 16000000 in
theorem main (l : List Ins) (s : List Sp) (res : ByteArray) (c : List Sp) (ll : l.length ≤ 9223372036854775807) (ls : s.length ≤ 9223372036854775807) : Pure Tryz.prog 3 [.rs (rowsOf insC l), .rs (rowsOf spC s), .str res, .agg [.rs (rowsOf spC c)]] (.bool true) := by
  have hU1 := union_pure s ls
  have hU2 := rUnion_pure s ls
  have hB1 := busy_pure l res ll
  have hB2 := rbusy_pure l res ll
  have hM1 := most_pure l ll
  have hM2 := rmost_pure l ll
  have hW1 := waiting_pure l c ll
  have hW2 := rwaiting_pure l c ll
  have hlu : (uniR s).1.length ≤ 9223372036854775807 := by
    unfold uniR
    split
    · have := unionL_len (l := s); simp only; omega
    · simp
  have hlw : (waitR l c).1.length ≤ 9223372036854775807 := by
    unfold waitR
    split
    · simpa using ll
    · simp
  generalize uniR s = U at *
  generalize busyR l res = B at *
  generalize mostR l = M at *
  generalize waitR l c = W at *
  obtain ⟨u1, u2⟩ := U
  obtain ⟨b1, b2⟩ := B
  obtain ⟨m1, m2, m3⟩ := M
  obtain ⟨v1, v2⟩ := W
  simp only [spsO, mostO, intsO] at hU1 hU2 hB1 hB2 hM1 hM2 hW1 hW2 hlu hlw
  have hE1 := eqS_self u1 hlu
  have hE2 := eqI_self v1 hlw
  refine pure_of mixed Tryz.func3 rfl (by kernel_rfl) (of_decide_eq_true rfl) (by kernel_rfl) (vc_run ?_)
  by_cases hF : fewI l = true
  rotate_left
  · have hF : fewI l = false := by simpa using hF
    ((try simp -implicitDefEqProofs [-loopQ_n, hF]) <;> (repeat' (first | (refine condD_dec ?_ ?_ <;> (intro hc; (try simp -implicitDefEqProofs [-loopQ_n, hc, hF]))) | (refine guardD_dec ?_ ?_ <;> (intro hc; (try simp -implicitDefEqProofs [-loopQ_n, hc, hF]))) | (refine condD_intro ?_ ?_ <;> (intro hd; have hc := hd; (try simp at hc) <;> (try simp -implicitDefEqProofs [-loopQ_n, hd, hc, hF]))) | (refine guardD_intro ?_ ?_ <;> (intro hd; have hc := hd; (try simp at hc) <;> (try simp -implicitDefEqProofs [-loopQ_n, hd, hc, hF]))) | (refine ldD_ep ?_ ?_; (focus kernel_rfl); (try simp -implicitDefEqProofs [-loopQ_n, hF])) | (refine callS_mk ?_; (try simp -implicitDefEqProofs [-loopQ_n, hF]); (first | refine callS_intro (awake_pure) (.inl rfl) ?_ | refine callS_intro (sfew_pure l ll) (.inl rfl) ?_); (try simp -implicitDefEqProofs [-loopQ_n, hF])))))
  by_cases c1 : (40 : Int) < s.length
  · by_cases c2 : (s.length : Int) ≤ 1000
    · ((try simp -implicitDefEqProofs [-loopQ_n, hF, c1, c2]) <;> (repeat' (first | (refine condD_dec ?_ ?_ <;> (intro hc; (try simp -implicitDefEqProofs [-loopQ_n, hc, hF, c1, c2]))) | (refine guardD_dec ?_ ?_ <;> (intro hc; (try simp -implicitDefEqProofs [-loopQ_n, hc, hF, c1, c2]))) | (refine condD_intro ?_ ?_ <;> (intro hd; have hc := hd; (try simp at hc) <;> (try simp -implicitDefEqProofs [-loopQ_n, hd, hc, hF, c1, c2]))) | (refine guardD_intro ?_ ?_ <;> (intro hd; have hc := hd; (try simp at hc) <;> (try simp -implicitDefEqProofs [-loopQ_n, hd, hc, hF, c1, c2]))) | (refine ldD_ep ?_ ?_; (focus kernel_rfl); (try simp -implicitDefEqProofs [-loopQ_n, hF, c1, c2])) | (refine callS_mk ?_; (try simp -implicitDefEqProofs [-loopQ_n, hF, c1, c2]); (first | refine callS_intro (awake_pure) (.inl rfl) ?_ | refine callS_intro (sfew_pure l ll) (.inl rfl) ?_); (try simp -implicitDefEqProofs [-loopQ_n, hF, c1, c2])))))
    · by_cases c3 : (1005 : Int) < s.length
      · ((try simp -implicitDefEqProofs [-loopQ_n, hF, c1, c2, c3]) <;> (repeat' (first | (refine condD_dec ?_ ?_ <;> (intro hc; (try simp -implicitDefEqProofs [-loopQ_n, hc, hF, c1, c2, c3]))) | (refine guardD_dec ?_ ?_ <;> (intro hc; (try simp -implicitDefEqProofs [-loopQ_n, hc, hF, c1, c2, c3]))) | (refine condD_intro ?_ ?_ <;> (intro hd; have hc := hd; (try simp at hc) <;> (try simp -implicitDefEqProofs [-loopQ_n, hd, hc, hF, c1, c2, c3]))) | (refine guardD_intro ?_ ?_ <;> (intro hd; have hc := hd; (try simp at hc) <;> (try simp -implicitDefEqProofs [-loopQ_n, hd, hc, hF, c1, c2, c3]))) | (refine ldD_ep ?_ ?_; (focus kernel_rfl); (try simp -implicitDefEqProofs [-loopQ_n, hF, c1, c2, c3])) | (refine callS_mk ?_; (try simp -implicitDefEqProofs [-loopQ_n, hF, c1, c2, c3]); (first | refine callS_intro (awake_pure) (.inl rfl) ?_ | refine callS_intro (sfew_pure l ll) (.inl rfl) ?_); (try simp -implicitDefEqProofs [-loopQ_n, hF, c1, c2, c3])))))
      · by_cases c4 : (100 : Int) < res.size
        · ((try simp -implicitDefEqProofs [-loopQ_n, hF, c1, c2, c3, c4]) <;> (repeat' (first | (refine condD_dec ?_ ?_ <;> (intro hc; (try simp -implicitDefEqProofs [-loopQ_n, hc, hF, c1, c2, c3, c4]))) | (refine guardD_dec ?_ ?_ <;> (intro hc; (try simp -implicitDefEqProofs [-loopQ_n, hc, hF, c1, c2, c3, c4]))) | (refine condD_intro ?_ ?_ <;> (intro hd; have hc := hd; (try simp at hc) <;> (try simp -implicitDefEqProofs [-loopQ_n, hd, hc, hF, c1, c2, c3, c4]))) | (refine guardD_intro ?_ ?_ <;> (intro hd; have hc := hd; (try simp at hc) <;> (try simp -implicitDefEqProofs [-loopQ_n, hd, hc, hF, c1, c2, c3, c4]))) | (refine ldD_ep ?_ ?_; (focus kernel_rfl); (try simp -implicitDefEqProofs [-loopQ_n, hF, c1, c2, c3, c4])) | (refine callS_mk ?_; (try simp -implicitDefEqProofs [-loopQ_n, hF, c1, c2, c3, c4]); (first | refine callS_intro (awake_pure) (.inl rfl) ?_ | refine callS_intro (sfew_pure l ll) (.inl rfl) ?_); (try simp -implicitDefEqProofs [-loopQ_n, hF, c1, c2, c3, c4])))))
        · by_cases c5 : (110 : Int) < c.length
          · ((try simp -implicitDefEqProofs [-loopQ_n, hF, c1, c2, c3, c4, c5]) <;> (repeat' (first | (refine condD_dec ?_ ?_ <;> (intro hc; (try simp -implicitDefEqProofs [-loopQ_n, hc, hF, c1, c2, c3, c4, c5]))) | (refine guardD_dec ?_ ?_ <;> (intro hc; (try simp -implicitDefEqProofs [-loopQ_n, hc, hF, c1, c2, c3, c4, c5]))) | (refine condD_intro ?_ ?_ <;> (intro hd; have hc := hd; (try simp at hc) <;> (try simp -implicitDefEqProofs [-loopQ_n, hd, hc, hF, c1, c2, c3, c4, c5]))) | (refine guardD_intro ?_ ?_ <;> (intro hd; have hc := hd; (try simp at hc) <;> (try simp -implicitDefEqProofs [-loopQ_n, hd, hc, hF, c1, c2, c3, c4, c5]))) | (refine ldD_ep ?_ ?_; (focus kernel_rfl); (try simp -implicitDefEqProofs [-loopQ_n, hF, c1, c2, c3, c4, c5])) | (refine callS_mk ?_; (try simp -implicitDefEqProofs [-loopQ_n, hF, c1, c2, c3, c4, c5]); (first | refine callS_intro (awake_pure) (.inl rfl) ?_ | refine callS_intro (sfew_pure l ll) (.inl rfl) ?_); (try simp -implicitDefEqProofs [-loopQ_n, hF, c1, c2, c3, c4, c5])))))
          · ((try simp -implicitDefEqProofs [-loopQ_n, hF, c1, c2, c3, c4, c5, int_reify, spU_reify]) <;> (repeat' (first | (refine condD_dec ?_ ?_ <;> (intro hc; (try simp -implicitDefEqProofs [-loopQ_n, hc, hF, c1, c2, c3, c4, c5, int_reify, spU_reify]))) | (refine guardD_dec ?_ ?_ <;> (intro hc; (try simp -implicitDefEqProofs [-loopQ_n, hc, hF, c1, c2, c3, c4, c5, int_reify, spU_reify]))) | (refine condD_intro ?_ ?_ <;> (intro hd; have hc := hd; (try simp at hc) <;> (try simp -implicitDefEqProofs [-loopQ_n, hd, hc, hF, c1, c2, c3, c4, c5, int_reify, spU_reify]))) | (refine guardD_intro ?_ ?_ <;> (intro hd; have hc := hd; (try simp at hc) <;> (try simp -implicitDefEqProofs [-loopQ_n, hd, hc, hF, c1, c2, c3, c4, c5, int_reify, spU_reify]))) | (refine ldD_ep ?_ ?_; (focus kernel_rfl); (try simp -implicitDefEqProofs [-loopQ_n, hF, c1, c2, c3, c4, c5, int_reify, spU_reify])) | (refine callS_mk ?_; (try simp -implicitDefEqProofs [-loopQ_n, hF, c1, c2, c3, c4, c5, int_reify, spU_reify]); (first | refine callS_intro (awake_pure) (.inl rfl) ?_ | refine callS_intro (sfew_pure l ll) (.inl rfl) ?_ | refine callS_intro (hU1) (.inr ⟨rfl, rfl⟩) ?_ | refine callS_intro (hU2) (.inr ⟨rfl, rfl⟩) ?_ | refine callS_intro (hB1) (.inl rfl) ?_ | refine callS_intro (hB2) (.inl rfl) ?_ | refine callS_intro (hM1) (.inl rfl) ?_ | refine callS_intro (hM2) (.inl rfl) ?_ | refine callS_intro (hW1) (.inr ⟨rfl, rfl⟩) ?_ | refine callS_intro (hW2) (.inr ⟨rfl, rfl⟩) ?_ | refine callS_intro (hE1) (.inl rfl) ?_ | refine callS_intro (hE2) (.inl rfl) ?_); (try simp -implicitDefEqProofs [-loopQ_n, hF, c1, c2, c3, c4, c5, int_reify, spU_reify])))))
  · have c3 : ¬ (1005 : Int) < s.length := by omega
    by_cases c4 : (100 : Int) < res.size
    · ((try simp -implicitDefEqProofs [-loopQ_n, hF, c1, c3, c4]) <;> (repeat' (first | (refine condD_dec ?_ ?_ <;> (intro hc; (try simp -implicitDefEqProofs [-loopQ_n, hc, hF, c1, c3, c4]))) | (refine guardD_dec ?_ ?_ <;> (intro hc; (try simp -implicitDefEqProofs [-loopQ_n, hc, hF, c1, c3, c4]))) | (refine condD_intro ?_ ?_ <;> (intro hd; have hc := hd; (try simp at hc) <;> (try simp -implicitDefEqProofs [-loopQ_n, hd, hc, hF, c1, c3, c4]))) | (refine guardD_intro ?_ ?_ <;> (intro hd; have hc := hd; (try simp at hc) <;> (try simp -implicitDefEqProofs [-loopQ_n, hd, hc, hF, c1, c3, c4]))) | (refine ldD_ep ?_ ?_; (focus kernel_rfl); (try simp -implicitDefEqProofs [-loopQ_n, hF, c1, c3, c4])) | (refine callS_mk ?_; (try simp -implicitDefEqProofs [-loopQ_n, hF, c1, c3, c4]); (first | refine callS_intro (awake_pure) (.inl rfl) ?_ | refine callS_intro (sfew_pure l ll) (.inl rfl) ?_); (try simp -implicitDefEqProofs [-loopQ_n, hF, c1, c3, c4])))))
    · by_cases c5 : (110 : Int) < c.length
      · ((try simp -implicitDefEqProofs [-loopQ_n, hF, c1, c3, c4, c5]) <;> (repeat' (first | (refine condD_dec ?_ ?_ <;> (intro hc; (try simp -implicitDefEqProofs [-loopQ_n, hc, hF, c1, c3, c4, c5]))) | (refine guardD_dec ?_ ?_ <;> (intro hc; (try simp -implicitDefEqProofs [-loopQ_n, hc, hF, c1, c3, c4, c5]))) | (refine condD_intro ?_ ?_ <;> (intro hd; have hc := hd; (try simp at hc) <;> (try simp -implicitDefEqProofs [-loopQ_n, hd, hc, hF, c1, c3, c4, c5]))) | (refine guardD_intro ?_ ?_ <;> (intro hd; have hc := hd; (try simp at hc) <;> (try simp -implicitDefEqProofs [-loopQ_n, hd, hc, hF, c1, c3, c4, c5]))) | (refine ldD_ep ?_ ?_; (focus kernel_rfl); (try simp -implicitDefEqProofs [-loopQ_n, hF, c1, c3, c4, c5])) | (refine callS_mk ?_; (try simp -implicitDefEqProofs [-loopQ_n, hF, c1, c3, c4, c5]); (first | refine callS_intro (awake_pure) (.inl rfl) ?_ | refine callS_intro (sfew_pure l ll) (.inl rfl) ?_); (try simp -implicitDefEqProofs [-loopQ_n, hF, c1, c3, c4, c5])))))
      · ((try simp -implicitDefEqProofs [-loopQ_n, hF, c1, c3, c4, c5, int_reify, spU_reify]) <;> (repeat' (first | (refine condD_dec ?_ ?_ <;> (intro hc; (try simp -implicitDefEqProofs [-loopQ_n, hc, hF, c1, c3, c4, c5, int_reify, spU_reify]))) | (refine guardD_dec ?_ ?_ <;> (intro hc; (try simp -implicitDefEqProofs [-loopQ_n, hc, hF, c1, c3, c4, c5, int_reify, spU_reify]))) | (refine condD_intro ?_ ?_ <;> (intro hd; have hc := hd; (try simp at hc) <;> (try simp -implicitDefEqProofs [-loopQ_n, hd, hc, hF, c1, c3, c4, c5, int_reify, spU_reify]))) | (refine guardD_intro ?_ ?_ <;> (intro hd; have hc := hd; (try simp at hc) <;> (try simp -implicitDefEqProofs [-loopQ_n, hd, hc, hF, c1, c3, c4, c5, int_reify, spU_reify]))) | (refine ldD_ep ?_ ?_; (focus kernel_rfl); (try simp -implicitDefEqProofs [-loopQ_n, hF, c1, c3, c4, c5, int_reify, spU_reify])) | (refine callS_mk ?_; (try simp -implicitDefEqProofs [-loopQ_n, hF, c1, c3, c4, c5, int_reify, spU_reify]); (first | refine callS_intro (awake_pure) (.inl rfl) ?_ | refine callS_intro (sfew_pure l ll) (.inl rfl) ?_ | refine callS_intro (hU1) (.inr ⟨rfl, rfl⟩) ?_ | refine callS_intro (hU2) (.inr ⟨rfl, rfl⟩) ?_ | refine callS_intro (hB1) (.inl rfl) ?_ | refine callS_intro (hB2) (.inl rfl) ?_ | refine callS_intro (hM1) (.inl rfl) ?_ | refine callS_intro (hM2) (.inl rfl) ?_ | refine callS_intro (hW1) (.inr ⟨rfl, rfl⟩) ?_ | refine callS_intro (hW2) (.inr ⟨rfl, rfl⟩) ?_ | refine callS_intro (hE1) (.inl rfl) ?_ | refine callS_intro (hE2) (.inl rfl) ?_); (try simp -implicitDefEqProofs [-loopQ_n, hF, c1, c3, c4, c5, int_reify, spU_reify])))))
theorem both (x0 : AV) (s0 : argS Tryz.prog 22 x0) (x1 : AV) (s1 : argS Tryz.prog 23 x1) (x2 : AV) (s2 : argS Tryz.prog 9 x2) (x3 : AV) (s3 : argS Tryz.prog 25 x3) : Pure Tryz.prog 3 [x0, x1, x2, x3] (.bool true) := by
  obtain ⟨l, rfl, ll, _⟩ := arg_insl s0
  obtain ⟨s, rfl, ls, _⟩ := darg_spans s1
  obtain ⟨res, rfl, _⟩ := arg_str Tryz.underlying9 s2
  obtain ⟨c, rfl, lc, _⟩ := dcal_dec s3
  exact main l s res c ll ls
theorem walk (W : World) (hvo : VarsOk W (fun _ => False)) (v0 : Value) (x0 : AV) (r0 : RO W (fun _ => False) x0 v0) (s0 : argS Tryz.prog 22 x0) (v1 : Value) (x1 : AV) (r1 : RO W (fun _ => False) x1 v1) (s1 : argS Tryz.prog 23 x1) (v2 : Value) (x2 : AV) (r2 : RO W (fun _ => False) x2 v2) (s2 : argS Tryz.prog 9 x2) (v3 : Value) (x3 : AV) (r3 : RO W (fun _ => False) x3 v3) (s3 : argS Tryz.prog 25 x3) :
    Calls Tryz.prog 3 #[v0, v1, v2, v3] W fun e w' => e = .returned (.bool true) ∧ Below W.heap.size W w' := by
  refine ((both x0 s0 x1 s1 x2 s2 x3 s3).2 W (fun _ => False) _ (fun _ h => h.elim) hvo rfl ?_).mono ?_
  · intro j x v hj hv
    match j with
    | 0 => simp at hj hv; subst hj hv; exact r0
    | 1 => simp at hj hv; subst hj hv; exact r1
    | 2 => simp at hj hv; subst hj hv; exact r2
    | 3 => simp at hj hv; subst hj hv; exact r3
    | j + 4 => simp at hj
  · rintro e w' ⟨v, rfl, hv, hb⟩
    rw [ro_tt hv]
    exact ⟨rfl, hb⟩
end
set_option maxRecDepth 100000 in
theorem lifted (os : Os) (started : os.Started) (H : Type) (enc : TypeId × Value → H) :
    ReturnsInHanded {} Tryz.checked os 3 .any (Rows.spansMeasuresSpec.pre6 enc Tryz.prog Tryz.f3 Rows.spansMeasuresRow.domain false) (Rows.spansMeasuresSpec.post enc Tryz.prog Tryz.f3 false true false false) := by
  refine returnsInHanded_of_change (C := Tryz.checked) (@ownK ⟨fun _ => none⟩) started (by kernel_rfl) Tryz.func3
    (ChangeSpec.witness6 (enc := enc) (C := Tryz.checked) false ⟨#[], #[.slice none 0 0, .slice none 0 0, .string ByteArray.empty, .agg #[.slice none 0 0]], []⟩ 8 (by kernel_rfl) (by kernel_rfl) (by kernel_rfl) (by kernel_rfl)) ?_
  intro W base args ds gs before hval0 hW hcnd _
  have hval : ∀ (j : Nat) t v, Tryz.f3.params[j]? = some t → args[j]? = some v → Value.okWide Tryz.prog W .any base t v := hval0
  have hW' := hW
  obtain ⟨p, q, hA0, hV, rfl, hfz, hnd⟩ := hW
  have hA : DataW.TrodAll enc Tryz.prog W 0 (fun _ => true) true Tryz.f3.params.toList args.toList ds p := hA0
  rw [Tryz.params3] at hA hval
  obtain ⟨v0, vs0, d0, ds0, p0, q0, hargs, rfl, rfl, h0, r0⟩ := trodAll_cons hA
  obtain ⟨v1, vs1, d1, ds1, p1, q1, rfl, rfl, rfl, h1, r1⟩ := trodAll_cons r0
  obtain ⟨v2, vs2, d2, ds2, p2, q2, rfl, rfl, rfl, h2, r2⟩ := trodAll_cons r1
  obtain ⟨v3, vs3, d3, ds3, p3, q3, rfl, rfl, rfl, h3, r3⟩ := trodAll_cons r2
  obtain ⟨rfl, rfl, rfl⟩ := trodAll_nil r3
  obtain rfl : args = #[v0, v1, v2, v3] := by cases args; simp_all
  obtain ⟨rfl, rfl⟩ := trodVars_none hV
  letI : Glob := ⟨fun _ => none⟩
  have k0 := h0
  have lt0 : ∀ x ∈ p0, x.block < W.heap.size := by obtain ⟨m, hm⟩ := k0; exact DataW.trod_lt m _ _ _ hm
  obtain ⟨x0, y0, s0⟩ := arg_open (P := Tryz.prog) (t := 22) (by kernel_rfl) (by kernel_rfl) (hval 0 22 v0 rfl rfl) h0
  have k1 := h1
  have lt1 : ∀ x ∈ p1, x.block < W.heap.size := by obtain ⟨m, hm⟩ := k1; exact DataW.trod_lt m _ _ _ hm
  obtain ⟨x1, y1, s1⟩ := arg_open (P := Tryz.prog) (t := 23) (by kernel_rfl) (by kernel_rfl) (hval 1 23 v1 rfl rfl) h1
  have k2 := h2
  have lt2 : ∀ x ∈ p2, x.block < W.heap.size := by obtain ⟨m, hm⟩ := k2; exact DataW.trod_lt m _ _ _ hm
  obtain ⟨x2, y2, s2⟩ := arg_open (P := Tryz.prog) (t := 9) (by kernel_rfl) (by kernel_rfl) (hval 2 9 v2 rfl rfl) h2
  have k3 := h3
  have lt3 : ∀ x ∈ p3, x.block < W.heap.size := by obtain ⟨m, hm⟩ := k3; exact DataW.trod_lt m _ _ _ hm
  obtain ⟨x3, y3, s3⟩ := arg_open (P := Tryz.prog) (t := 25) (by kernel_rfl) (by kernel_rfl) (hval 3 25 v3 rfl rfl) h3
  clear hA0 hval0
  refine (walk W (fun g row h => by cases h) v0 x0 y0 s0 v1 x1 y1 s1 v2 x2 y2 s2 v3 x3 y3 s3).mono fun e W' ⟨he, bel⟩ => ?_
  subst he
  exact ⟨_, rfl, _, _, _, [], _, [], hW', trodAll_mk1 (shut_bool Tryz.underlying4 _), (trodAll_cons_mk (Below.trod laidK (by kernel_rfl) (of_decide_eq_true (by kernel_rfl)) k0 bel lt0) (trodAll_cons_mk (Below.trod laidK (by kernel_rfl) (of_decide_eq_true (by kernel_rfl)) k1 bel lt1) (trodAll_cons_mk (Below.trod laidK (by kernel_rfl) (of_decide_eq_true (by kernel_rfl)) k2 bel lt2) (trodAll_cons_mk (Below.trod laidK (by kernel_rfl) (of_decide_eq_true (by kernel_rfl)) k3 bel lt3) trodAll_mk0)))), rfl, bel.frame _, fun h => by cases h⟩

theorem over : Rows.spansMeasuresRow.holds Tryz.pinned (OpenSpec.ofChange Rows.spansMeasuresSpec) :=
  OpenClaim.holds_of_wide 3 Tryz.f3 rfl rfl rfl rfl rfl rfl rfl ⟨rfl, rfl, rfl, rfl, rfl⟩ rfl rfl rfl rfl rfl (by kernel_rfl) Tryz.func3 (by kernel_rfl)
    (of_decide_eq_true (by kernel_rfl)) (by unfold Func.isWrapper; first | (rw [if_pos (by decide +kernel)]; kernel_rfl) | (rw [if_neg (by decide +kernel)]; exact ⟨rfl, rfl⟩))
    (fun os started H enc _ => lifted os started H enc)

theorem proved : Rows.SpansMeasuresSaid := over
end Go.Proofs.YtfbpjlabhckoeaaGreat.lawSMeas
