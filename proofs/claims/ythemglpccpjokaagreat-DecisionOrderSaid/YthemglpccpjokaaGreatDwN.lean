/- A table is the same as itself (the reference's Same). -/
import Derived.Test.YthemglpccpjokaaGreatDwK
import Derived.Test.YthemglpccpjokaaGreatDwD
set_option linter.unusedSimpArgs false
set_option linter.unusedVariables false
set_option linter.unnecessarySimpa false
set_option linter.unusedSectionVars false
set_option maxRecDepth 100000
namespace Go.Proofs.YthemglpccpjokaaGreat
open Go.RowKit
variable [Glob]
theorem equal_form (a b : Dec) (hs : szD a) : ∃ (c : Bool) (G : List Val) (e : Int), equalO a b = .tup [.bool c, .rs (rowsOf valC G), .int .i64 e] ∧ G.length ≤ 1000000 := by
  unfold equalO
  by_cases q : (decV a && decV b) = true
  rotate_left
  · rw [if_neg q]; exact ⟨_, [], _, rfl, by simp⟩
  rw [if_pos q]
  simp only [Bool.and_eq_true] at q
  by_cases r : a.inputs = b.inputs
  rotate_left
  · rw [if_neg r]; exact ⟨_, [], _, rfl, by simp⟩
  rw [if_pos r]
  by_cases g : capA 1 a.inputs ≤ 10000
  rotate_left
  · rw [if_neg g]; exact ⟨_, [], _, rfl, by simp⟩
  rw [if_pos g]
  cases h : differA a b with
  | none => exact ⟨_, [], _, rfl, by simp⟩
  | some v => exact ⟨_, v, _, rfl, find_len hs.1 (dec_facts q.1).1 h⟩
def SzA (d : Dec) : Prop := szD d ∧ DomSz d.inputs ∧ d.out.items.length ≤ 1000000
theorem sza {d : Dec} (hs : szD d) (h : decV d = true) : SzA d := ⟨hs, dec_sz hs h, dom_items (dec_facts h).2.1⟩
theorem zero_sza : SzA zeroD := ⟨⟨by decide, by decide, by decide, fun r h => by cases h⟩, ⟨by decide, fun x h => by cases h⟩, by decide⟩
theorem comp_form (d : Dec) (hs : szD d) : ∃ (X : Dec) (e : Int), compO d = .tup [.agg (decC X), .int .i64 e] ∧ SzA X := by
  unfold compO
  by_cases e : faultE d = 0
  · rw [if_pos e]
    obtain ⟨hd, _⟩ := faultE_ok e
    obtain ⟨R, h1, h2, _, _, _, h3⟩ := comp_law hd
    exact ⟨_, 0, rfl, by rw [h1]; exact sza (sz_sub hs h2) h3⟩
  · rw [if_neg e]; exact ⟨zeroD, _, rfl, zero_sza⟩
theorem sametest_pure (t : Tst) (hl : t.items.length ≤ 1000000) : Pure Tryz.prog 73 [.agg (tstC t), .agg (tstC t)] (.bool true) := by
  have he := rsame_pure t.items t.items hl hl
  rw [decide_eq_true rfl] at he
  refine pure_of mixed Tryz.func73 rfl (by kernel_rfl) (of_decide_eq_true rfl) (by kernel_rfl) (vc_run ?_)
  ((try simp -implicitDefEqProofs [-loopQ_n, tstC]) <;> (repeat' (first | ((first | refine condD_dec ?_ ?_ | refine guardD_dec ?_ ?_) <;> (intro hc; (try simp -implicitDefEqProofs [-loopQ_n, hc, tstC]))) | (refine callS_mk ?_; (try simp -implicitDefEqProofs [-loopQ_n, tstC]); (first | refine callS_intro (he) (.inl rfl) ?_); (try simp -implicitDefEqProofs [-loopQ_n, tstC])))))
set_option maxHeartbeats 16000000 in
theorem sameD_pure (d : Dec) (hs : SzA d) : Pure Tryz.prog 31 [.agg (decC d), .agg (decC d)] (.bool true) := by
  obtain ⟨⟨s1, s2, s3, s4⟩, hi, ho⟩ := hs
  have h1 := rsamevars_pure d.inputs d.inputs hi hi
  have h2 := rsamevar_pure d.out d.out ho ho
  have h3 := rsame_pure d.order d.order s2 s2
  rw [decide_eq_true rfl] at h1 h2 h3
  simp only [domC] at h2
  refine pure_M [6] mixed Tryz.func31 rfl (by kernel_rfl) (of_decide_eq_true rfl) (by kernel_rfl) (vc_run ?_)
  ((try simp -implicitDefEqProofs [-loopQ_n, decC, domC]) <;> (repeat' (first | ((first | refine condD_dec ?_ ?_ | refine guardD_dec ?_ ?_) <;> (intro hc; (try simp -implicitDefEqProofs [-loopQ_n, hc, decC, domC]))) | ((first | (refine ld2_op ?_ ?_; (focus kernel_rfl)) | (refine ld2_ep ?_ ?_; (focus kernel_rfl)) | (refine nbx_intro ?_ ?_; (focus kernel_rfl)) | (refine nbx_fin ?_; (focus kernel_rfl)) | (refine callS_mk ?_; (try simp -implicitDefEqProofs [-loopQ_n, decC, domC]); (first | refine callS_intro (h1) (.inl rfl) ?_ | refine callS_intro (h2) (.inl rfl) ?_ | refine callS_intro (h3) (.inl rfl) ?_))); (try simp -implicitDefEqProofs [-loopQ_n, decC, domC])))))
  refine loop_intro (σ := Nat) (fun i => ⟨[(2, .rp (decC d)), (3, .rp (decC d)), (5, .int .i64 i)], []⟩)
    (fun i => i ≤ d.rows.length) (fun i => d.rows.length - i) 0 (by simp) ?_ ?_
  · refine (weak_frb 0 29 (decC d) rfl (by simp [decC])).trans ((weak_frb 1 29 (decC d) (by simp [fbH, fbB, fbL, fbA, decC]) (by simp [decC])).trans (weak_of 0 0 rfl rfl ?_ ?_)) <;> simp [decC, fbA, fbL, fbH, fbB]
  rintro i hi'
  by_cases h : i < d.rows.length
  rotate_left
  · ((try simp -implicitDefEqProofs [-loopQ_n, h, decC]) <;> (repeat' (first | ((first | refine condD_dec ?_ ?_ | refine guardD_dec ?_ ?_) <;> (intro hc; (try simp -implicitDefEqProofs [-loopQ_n, hc, h, decC]))) | ((first | (refine ld2_op ?_ ?_; (focus kernel_rfl)) | (refine ld2_ep ?_ ?_; (focus kernel_rfl)) | (refine nbx_intro ?_ ?_; (focus kernel_rfl)) | (refine nbx_fin ?_; (focus kernel_rfl))); (try simp -implicitDefEqProofs [-loopQ_n, h, decC])))))
  have w1 := w_succB h (by omega)
  have hrm := s4 _ (List.getElem_mem h)
  obtain ⟨⟨ts, out⟩, hf⟩ : ∃ e, d.rows[i] = e := ⟨_, rfl⟩
  rw [hf] at hrm
  simp only at hrm
  ((try simp -implicitDefEqProofs [-loopQ_n, h, hf, rwC, decC]) <;> (repeat' (first | ((first | refine condD_dec ?_ ?_ | refine guardD_dec ?_ ?_) <;> (intro hc; (try simp -implicitDefEqProofs [-loopQ_n, hc, h, hf, rwC, decC]))) | ((first | (refine ld2_op ?_ ?_; (focus kernel_rfl)) | (refine ld2_ep ?_ ?_; (focus kernel_rfl)) | (refine nbx_intro ?_ ?_; (focus kernel_rfl)) | (refine nbx_fin ?_; (focus kernel_rfl))); (try simp -implicitDefEqProofs [-loopQ_n, h, hf, rwC, decC])))))
  refine loop_intro (σ := Nat) (fun k => ⟨[(2, .rp (decC d)), (3, .rp (decC d)), (5, .int .i64 i), (6, .op 0 0), (7, .op 1 0), (8, .int .i64 k)], [.box 85 [.rs (rowsOf tstC ts), .int .i64 out.kind, .int .i64 out.n, .str out.s], .box 85 [.rs (rowsOf tstC ts), .int .i64 out.kind, .int .i64 out.n, .str out.s]]⟩)
    (fun k => k ≤ ts.length) (fun k => ts.length - k) 0 (by simp) ?_ ?_
  · refine weak_of 2 0 rfl rfl ?_ ?_ <;> simp [decC]
  rintro k hk
  by_cases g : k < ts.length
  · have w2 := w_succB g (by omega)
    have hst := sametest_pure ts[k] (hrm.2 _ (List.getElem_mem g))
    obtain ⟨t, ht⟩ : ∃ e, ts[k] = e := ⟨_, rfl⟩
    rw [ht] at hst
    simp only [tstC] at hst
    ((try simp -implicitDefEqProofs [-loopQ_n, g, ht, tstC, w2]) <;> (repeat' (first | ((first | refine condD_dec ?_ ?_ | refine guardD_dec ?_ ?_) <;> (intro hc; (try simp -implicitDefEqProofs [-loopQ_n, hc, g, ht, tstC, w2]))) | ((first | (refine ld2_op ?_ ?_; (focus kernel_rfl)) | (refine ld2_ep ?_ ?_; (focus kernel_rfl)) | (refine nbx_intro ?_ ?_; (focus kernel_rfl)) | (refine nbx_fin ?_; (focus kernel_rfl)) | (refine callS_mk ?_; (try simp -implicitDefEqProofs [-loopQ_n, g, ht, tstC, w2]); (first | refine callS_intro (hst) (.inl rfl) ?_))); (try simp -implicitDefEqProofs [-loopQ_n, g, ht, tstC, w2])))))
    refine loop_next (k + 1) (by omega) (by omega) (weak_of 2 0 rfl rfl ?_ ?_) <;> simp [w2, decC]
  · ((try simp -implicitDefEqProofs [-loopQ_n, g, w1]) <;> (repeat' (first | ((first | refine condD_dec ?_ ?_ | refine guardD_dec ?_ ?_) <;> (intro hc; (try simp -implicitDefEqProofs [-loopQ_n, hc, g, w1]))) | ((first | (refine ld2_op ?_ ?_; (focus kernel_rfl)) | (refine ld2_ep ?_ ?_; (focus kernel_rfl)) | (refine nbx_intro ?_ ?_; (focus kernel_rfl)) | (refine nbx_fin ?_; (focus kernel_rfl))); (try simp -implicitDefEqProofs [-loopQ_n, g, w1])))))
    refine loop_next (i + 1) (by omega) (by omega) (weak_of 0 0 rfl rfl ?_ ?_) <;> simp [w1, decC]
end Go.Proofs.YthemglpccpjokaaGreat
