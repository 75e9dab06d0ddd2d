/- Several texts of the abstract machine, one behind the other. -/
import Derived.Test.YthemglpccpjokaaGreatDvR
import Derived.Test.YthemglpccpjokaaGreatM4
set_option linter.unusedSimpArgs false
set_option linter.unusedVariables false
set_option linter.unnecessarySimpa false
set_option linter.unusedSectionVars false
set_option maxRecDepth 100000
namespace Go.Proofs.YthemglpccpjokaaGreat
open Go.RowKit
variable [Glob]
set_option maxHeartbeats 32000000 in
theorem routcome_pure (d : Dec) (v : List Val) (hs : szD d) (hd : decV d = true) (hv : v.length = d.inputs.length) : Pure Tryz.prog 60 [.agg (decC d), .rs (rowsOf valC v)] (outA (outD d v)) := by
  have hh := rhits_pure d v hs.2.2.1 (rows_sz hs hd hv)
  have hlen := hits_len d v
  have hle := outs_le d v
  have hon := out_n (v := v) hd
  have hog := outs_get d v
  obtain ⟨d1, d2, d3, d4, d5, d6, d7, d8, d9⟩ := dec_facts hd
  obtain ⟨O, hO⟩ : ∃ e, outsL d v = e := ⟨_, rfl⟩
  obtain ⟨Hl, hHl⟩ : ∃ e, hitsL d v = e := ⟨_, rfl⟩
  have hRes : outD d v = outR d.hit d.order O := by rw [outD, hO]
  rw [hRes]
  rw [hO] at hlen hle hon
  simp only [hO, hHl] at hog
  rw [hHl] at hh hlen
  clear hRes
  simp only [decC] at hh
  refine pure_of mixed Tryz.func60 rfl (by kernel_rfl) (of_decide_eq_true rfl) (by kernel_rfl) (vc_run ?_)
  ((try simp -implicitDefEqProofs [-loopQ_n, decC]) <;> (repeat' (first | ((first | refine condD_dec ?_ ?_ | refine guardD_dec ?_ ?_) <;> (intro hc; (try simp -implicitDefEqProofs [-loopQ_n, hc, decC]))) | ((first | refine condD_intro ?_ ?_ | refine guardD_intro ?_ ?_) <;> (intro hd; have hc := hd; (try simp at hc) <;> (try simp -implicitDefEqProofs [-loopQ_n, hd, hc, decC]))) | ((first | (refine ldD_ep ?_ ?_; (focus kernel_rfl)) | (refine callS_mk ?_; (try simp -implicitDefEqProofs [-loopQ_n, decC]); (first | refine callS_intro (hh) (.inr ⟨rfl, rfl⟩) ?_))); (try simp -implicitDefEqProofs [-loopQ_n, decC])))))
  refine loop_intro (σ := Nat) (fun i => if i < O.length then ⟨[(2, .op 0 0), (6, .os 1 i), (7, .rs (rowsOf intC Hl)), (8, .int .i64 i)], [.box 29 (decC d), .row 49 true (rowsOf valC (O.take i))]⟩ else ⟨[(2, .op 0 0), (6, .rs (rowsOf valC O)), (7, .rs (rowsOf intC Hl)), (8, .int .i64 i)], [.box 29 (decC d)]⟩)
    (fun i => i ≤ O.length) (fun i => O.length - i) 0 (by simp) ?_ ?_
  · split
    · refine weak_of 1 1 rfl rfl ?_ ?_ <;> simp [decC]
    · have : O = [] := List.eq_nil_of_length_eq_zero (by omega)
      subst this
      refine weak_of 1 0 rfl rfl ?_ ?_ <;> simp [decC, rowsOf]
  rintro i hi
  by_cases h : i < O.length
  · have hl : i < Hl.length := by omega
    have w1 := w_succB hl (by omega)
    obtain ⟨g1, g2, g3, g4⟩ := hog i hl
    obtain ⟨k, hk⟩ : ∃ k : Nat, Hl[i] = (k : Int) := ⟨Hl[i].toNat, by omega⟩
    have hkn : Hl[i].toNat = k := by omega
    simp only [hkn] at g1 g4
    obtain ⟨⟨ts, out⟩, hf⟩ : ∃ e, d.rows[k] = e := ⟨_, rfl⟩
    rw [hf] at g4
    simp only at g4
    have htk : O.take (i + 1) = O.take i ++ [out] := by rw [g4, List.take_append_getElem h]
    have hi1 : i + 1 ≤ 1073741824 := by omega
    have hil : min i O.length = i := by omega
    simp only [h, if_true]
    ((try simp -implicitDefEqProofs [-loopQ_n, hl, hk, g1, hf, rwC, decC, intC, w1, hil, hi1]) <;> (repeat' (first | ((first | refine condD_dec ?_ ?_ | refine guardD_dec ?_ ?_) <;> (intro hc; (try simp -implicitDefEqProofs [-loopQ_n, hc, hl, hk, g1, hf, rwC, decC, intC, w1, hil, hi1]))) | ((first | refine condD_intro ?_ ?_ | refine guardD_intro ?_ ?_) <;> (intro hd; have hc := hd; (try simp at hc) <;> (try simp -implicitDefEqProofs [-loopQ_n, hd, hc, hl, hk, g1, hf, rwC, decC, intC, w1, hil, hi1]))) | ((first | (refine ldD_ep ?_ ?_; (focus kernel_rfl)) | (refine ld2_op ?_ ?_; (focus kernel_rfl)) | (refine ld2_ep ?_ ?_; (focus kernel_rfl)) | (refine nbx_intro ?_ ?_; (focus kernel_rfl)) | (refine nbx_fin ?_; (focus kernel_rfl))); (try simp -implicitDefEqProofs [-loopQ_n, hl, hk, g1, hf, rwC, decC, intC, w1, hil, hi1])))))
    refine loop_next (i + 1) (by omega) (by omega) ?_
    split
    · refine weak_of 2 0 rfl rfl ?_ ?_ <;> simp [w1, decC, htk, vals_snoc3, vals_refs]
    · have e2 : i + 1 = O.length := by omega
      have e : O = O.take i ++ [out] := by rw [← htk, List.take_of_length_le (by omega)]
      refine (weak_frz 1 49 true (rowsOf valC (O.take i ++ [out])) (by simp [vals_snoc3]) val_own).trans ?_
      refine weak_of 1 0 rfl rfl ?_ ?_ <;> simp [frH, frB, frL, frA, w1, decC, vals_snoc3, ← e, e2, vals_refs]
      all_goals omega
  simp only [h, if_false]
  have hi2 : ¬ i < Hl.length := by omega
  ((try simp -implicitDefEqProofs [-loopQ_n, hi2, decC]) <;> (repeat' (first | ((first | refine condD_dec ?_ ?_ | refine guardD_dec ?_ ?_) <;> (intro hc; (try simp -implicitDefEqProofs [-loopQ_n, hc, hi2, decC]))) | ((first | refine condD_intro ?_ ?_ | refine guardD_intro ?_ ?_) <;> (intro hd; have hc := hd; (try simp at hc) <;> (try simp -implicitDefEqProofs [-loopQ_n, hd, hc, hi2, decC]))) | (refine ldD_ep ?_ ?_; (focus kernel_rfl); (try simp -implicitDefEqProofs [-loopQ_n, hi2, decC])))))
  refine loop_intro (σ := Nat) (fun j => ⟨[(2, .op 0 0), (6, .rs (rowsOf valC O)), (9, .int .i64 (sumA (O.take j))), (10, .int .i64 j)], [.box 29 (decC d)]⟩)
    (fun j => j ≤ O.length) (fun j => O.length - j) 0 (by simp) ?_ ?_
  · refine weak_of 1 0 rfl rfl ?_ ?_ <;> simp [sumA, decC]
  rintro j hj
  by_cases g : j < O.length
  · have w2 := w_succB g (by omega)
    have hb := sumA_bd2 (L := O.take (j + 1)) fun x hx => hon x (List.mem_of_mem_take hx)
    have hst := sumA_take g
    have hl2 : (O.take (j + 1)).length ≤ 60 := by simp; omega
    obtain ⟨x, hx⟩ : ∃ e, O[j] = e := ⟨_, rfl⟩
    rw [hx] at hst
    have w3 : wrapI .i64 (sumA (O.take j) + x.n) = sumA (O.take (j + 1)) := by rw [← hst]; exact wrap_in (by omega) (by omega)
    ((try simp -implicitDefEqProofs [-loopQ_n, g, hx, valC, w2, w3]) <;> (repeat' (first | ((first | refine condD_dec ?_ ?_ | refine guardD_dec ?_ ?_) <;> (intro hc; (try simp -implicitDefEqProofs [-loopQ_n, hc, g, hx, valC, w2, w3]))) | ((first | refine condD_intro ?_ ?_ | refine guardD_intro ?_ ?_) <;> (intro hd; have hc := hd; (try simp at hc) <;> (try simp -implicitDefEqProofs [-loopQ_n, hd, hc, g, hx, valC, w2, w3]))) | (refine ldD_ep ?_ ?_; (focus kernel_rfl); (try simp -implicitDefEqProofs [-loopQ_n, g, hx, valC, w2, w3])))))
    refine loop_next (j + 1) (by omega) (by omega) (weak_of 1 0 rfl rfl ?_ ?_) <;> simp [w2, w3, decC]
  have e : O.take j = O := List.take_of_length_le (by omega)
  rw [e]
  by_cases k5 : d.hit = 5
  · have k5' : (d.hit = 5) = True := eq_true k5
    have hR : outR d.hit d.order O = (O, 0) := by simp [outR, k5]
    rw [hR]
    ((try simp -implicitDefEqProofs [-loopQ_n, g, k5', decC, vals_reify, outA]) <;> (repeat' (first | ((first | refine condD_dec ?_ ?_ | refine guardD_dec ?_ ?_) <;> (intro hc; (try simp -implicitDefEqProofs [-loopQ_n, hc, g, k5', decC, vals_reify, outA]))) | ((first | refine condD_intro ?_ ?_ | refine guardD_intro ?_ ?_) <;> (intro hd; have hc := hd; (try simp at hc) <;> (try simp -implicitDefEqProofs [-loopQ_n, hd, hc, g, k5', decC, vals_reify, outA]))) | (refine ldD_ep ?_ ?_; (focus kernel_rfl); (try simp -implicitDefEqProofs [-loopQ_n, g, k5', decC, vals_reify, outA])))))
  have k5' : (d.hit = 5) = False := eq_false k5
  by_cases k9 : d.hit = 9
  · have k9' : (d.hit = 9) = True := eq_true k9
    have hR : outR d.hit d.order O = ([numA O.length], 0) := by simp [outR, k9]
    have hn := drnumber_pure O.length
    simp only [valC, numA] at hn
    rw [hR]
    ((try simp -implicitDefEqProofs [-loopQ_n, g, k5', k9', decC, outA, num_rows]) <;> (repeat' (first | ((first | refine condD_dec ?_ ?_ | refine guardD_dec ?_ ?_) <;> (intro hc; (try simp -implicitDefEqProofs [-loopQ_n, hc, g, k5', k9', decC, outA, num_rows]))) | ((first | refine condD_intro ?_ ?_ | refine guardD_intro ?_ ?_) <;> (intro hd; have hc := hd; (try simp at hc) <;> (try simp -implicitDefEqProofs [-loopQ_n, hd, hc, g, k5', k9', decC, outA, num_rows]))) | ((first | (refine ldD_ep ?_ ?_; (focus kernel_rfl)) | (refine callS_mk ?_; (try simp -implicitDefEqProofs [-loopQ_n, g, k5', k9', decC, outA, num_rows]); (first | refine callS_intro (hn) (.inl rfl) ?_))); (try simp -implicitDefEqProofs [-loopQ_n, g, k5', k9', decC, outA, num_rows])))))
  have k9' : (d.hit = 9) = False := eq_false k9
  by_cases k6 : d.hit = 6
  · have k6' : (d.hit = 6) = True := eq_true k6
    have hR : outR d.hit d.order O = if sumA O < -4503599627370496 ∨ 4503599627370496 < sumA O then ([], 6) else ([numA (sumA O)], 0) := by simp [outR, k6]
    rw [hR]
    have hn := drnumber_pure (sumA O)
    simp only [valC, numA] at hn
    by_cases q1 : sumA O < -4503599627370496
    · rw [if_pos (.inl q1)]
      ((try simp -implicitDefEqProofs [-loopQ_n, g, k5', k9', k6', q1, decC, outA, vals_nil]) <;> (repeat' (first | ((first | refine condD_dec ?_ ?_ | refine guardD_dec ?_ ?_) <;> (intro hc; (try simp -implicitDefEqProofs [-loopQ_n, hc, g, k5', k9', k6', q1, decC, outA, vals_nil]))) | ((first | refine condD_intro ?_ ?_ | refine guardD_intro ?_ ?_) <;> (intro hd; have hc := hd; (try simp at hc) <;> (try simp -implicitDefEqProofs [-loopQ_n, hd, hc, g, k5', k9', k6', q1, decC, outA, vals_nil]))) | (refine ldD_ep ?_ ?_; (focus kernel_rfl); (try simp -implicitDefEqProofs [-loopQ_n, g, k5', k9', k6', q1, decC, outA, vals_nil])))))
    by_cases q2 : 4503599627370496 < sumA O
    · rw [if_pos (.inr q2)]
      ((try simp -implicitDefEqProofs [-loopQ_n, g, k5', k9', k6', q1, q2, decC, outA, vals_nil]) <;> (repeat' (first | ((first | refine condD_dec ?_ ?_ | refine guardD_dec ?_ ?_) <;> (intro hc; (try simp -implicitDefEqProofs [-loopQ_n, hc, g, k5', k9', k6', q1, q2, decC, outA, vals_nil]))) | ((first | refine condD_intro ?_ ?_ | refine guardD_intro ?_ ?_) <;> (intro hd; have hc := hd; (try simp at hc) <;> (try simp -implicitDefEqProofs [-loopQ_n, hd, hc, g, k5', k9', k6', q1, q2, decC, outA, vals_nil]))) | (refine ldD_ep ?_ ?_; (focus kernel_rfl); (try simp -implicitDefEqProofs [-loopQ_n, g, k5', k9', k6', q1, q2, decC, outA, vals_nil])))))
    · rw [if_neg (by omega)]
      ((try simp -implicitDefEqProofs [-loopQ_n, g, k5', k9', k6', q1, q2, decC, outA, num_rows]) <;> (repeat' (first | ((first | refine condD_dec ?_ ?_ | refine guardD_dec ?_ ?_) <;> (intro hc; (try simp -implicitDefEqProofs [-loopQ_n, hc, g, k5', k9', k6', q1, q2, decC, outA, num_rows]))) | ((first | refine condD_intro ?_ ?_ | refine guardD_intro ?_ ?_) <;> (intro hd; have hc := hd; (try simp at hc) <;> (try simp -implicitDefEqProofs [-loopQ_n, hd, hc, g, k5', k9', k6', q1, q2, decC, outA, num_rows]))) | ((first | (refine ldD_ep ?_ ?_; (focus kernel_rfl)) | (refine callS_mk ?_; (try simp -implicitDefEqProofs [-loopQ_n, g, k5', k9', k6', q1, q2, decC, outA, num_rows]); (first | refine callS_intro (hn) (.inl rfl) ?_))); (try simp -implicitDefEqProofs [-loopQ_n, g, k5', k9', k6', q1, q2, decC, outA, num_rows])))))
  have k6' : (d.hit = 6) = False := eq_false k6
  clear hO hHl hog e
  cases O with
  | nil =>
    rw [outR_nil k5 k9 k6]
    have g' : ¬ (j : Int) < 0 := by omega
    ((try simp -implicitDefEqProofs [-loopQ_n, g', k5', k9', k6', decC, outA, vals_nil]) <;> (repeat' (first | ((first | refine condD_dec ?_ ?_ | refine guardD_dec ?_ ?_) <;> (intro hc; (try simp -implicitDefEqProofs [-loopQ_n, hc, g', k5', k9', k6', decC, outA, vals_nil]))) | ((first | refine condD_intro ?_ ?_ | refine guardD_intro ?_ ?_) <;> (intro hd; have hc := hd; (try simp at hc) <;> (try simp -implicitDefEqProofs [-loopQ_n, hd, hc, g', k5', k9', k6', decC, outA, vals_nil]))) | (refine ldD_ep ?_ ?_; (focus kernel_rfl); (try simp -implicitDefEqProofs [-loopQ_n, g', k5', k9', k6', decC, outA, vals_nil])))))
  | cons b r =>
    rw [outR_cons k5 k9 k6]
    have hl2 : r.length ≤ 60 := by simp at hle; omega
    have h0 : ¬ (r.length : Int) + 1 = 0 := by omega
    have gj : ¬ (j : Int) < r.length + 1 := by simp at g; omega
    obtain ⟨bk, bn, bs⟩ := b
    ((try simp -implicitDefEqProofs [-loopQ_n, gj, k5', k9', k6', decC, valC, h0]) <;> (repeat' (first | ((first | refine condD_dec ?_ ?_ | refine guardD_dec ?_ ?_) <;> (intro hc; (try simp -implicitDefEqProofs [-loopQ_n, hc, gj, k5', k9', k6', decC, valC, h0]))) | ((first | refine condD_intro ?_ ?_ | refine guardD_intro ?_ ?_) <;> (intro hd; have hc := hd; (try simp at hc) <;> (try simp -implicitDefEqProofs [-loopQ_n, hd, hc, gj, k5', k9', k6', decC, valC, h0]))) | (refine ldD_ep ?_ ?_; (focus kernel_rfl); (try simp -implicitDefEqProofs [-loopQ_n, gj, k5', k9', k6', decC, valC, h0])))))
    refine loop_intro (σ := Nat × Val) (fun x => ⟨[(2, .op 0 0), (6, .rs (rowsOf valC (⟨bk, bn, bs⟩ :: r))), (11, .op 1 0), (12, .int .i64 ((x.1 : Int) + 1))], [.box 29 (decC d), .box 49 [.int .i64 x.2.kind, .int .i64 x.2.n, .str x.2.s]]⟩)
      (fun x => x.1 ≤ r.length ∧ foldO d.hit d.order x.2 (r.drop x.1) = foldO d.hit d.order ⟨bk, bn, bs⟩ r) (fun x => r.length - x.1) (0, ⟨bk, bn, bs⟩) ⟨by simp, by simp⟩ ?_ ?_
    · refine weak_of 2 0 rfl rfl ?_ ?_ <;> simp [decC]
    rintro ⟨j, best⟩ ⟨hj, hF⟩
    simp only at hj hF
    by_cases g : j < r.length
    · have w2 : wrapI .i64 ((j : Int) + 1 + 1) = (j : Int) + 1 + 1 := wrap_in (by omega) (by omega)
      have t1 : ((j : Int) + 1).toNat = j + 1 := by omega
      have t2 : (0 : Int) ≤ (j : Int) + 1 := by omega
      have t3 : (j : Int) + 1 < r.length + 1 := by omega
      have hix := rfind_pure d.order r[j] hs.2.1
      have hib := rfind_pure d.order best hs.2.1
      obtain ⟨x, hx⟩ : ∃ e, r[j] = e := ⟨_, rfl⟩
      rw [List.drop_eq_getElem_cons g, hx, foldO] at hF
      rw [hx] at hix
      obtain ⟨xk, xn, xs⟩ := x
      obtain ⟨ck, cn, cs⟩ := best
      simp only [valC] at hix hib
      by_cases k1 : d.hit = 1
      · have k1' : (d.hit = 1) = True := eq_true k1
        rw [if_pos k1] at hF
        rw [← hF]
        ((try simp -implicitDefEqProofs [-loopQ_n, g, hx, k1', t1, t2, t3, decC, valC, outA, vals_nil]) <;> (repeat' (first | ((first | refine condD_dec ?_ ?_ | refine guardD_dec ?_ ?_) <;> (intro hc; (try simp -implicitDefEqProofs [-loopQ_n, hc, g, hx, k1', t1, t2, t3, decC, valC, outA, vals_nil]))) | ((first | refine condD_intro ?_ ?_ | refine guardD_intro ?_ ?_) <;> (intro hd; have hc := hd; (try simp at hc) <;> (try simp -implicitDefEqProofs [-loopQ_n, hd, hc, g, hx, k1', t1, t2, t3, decC, valC, outA, vals_nil]))) | (refine ldD_ep ?_ ?_; (focus kernel_rfl); (try simp -implicitDefEqProofs [-loopQ_n, g, hx, k1', t1, t2, t3, decC, valC, outA, vals_nil])))))
      have k1' : (d.hit = 1) = False := eq_false k1
      rw [if_neg k1] at hF
      by_cases k2 : d.hit = 2
      · have k2' : (d.hit = 2) = True := eq_true k2
        rw [if_pos k2] at hF
        by_cases q : (⟨xk, xn, xs⟩ : Val) = ⟨ck, cn, cs⟩
        · rw [if_pos q] at hF
          cases q
          ((try simp -implicitDefEqProofs [-loopQ_n, g, hx, k1', k2', t1, t2, t3, decC, valC, w2]) <;> (repeat' (first | ((first | refine condD_dec ?_ ?_ | refine guardD_dec ?_ ?_) <;> (intro hc; (try simp -implicitDefEqProofs [-loopQ_n, hc, g, hx, k1', k2', t1, t2, t3, decC, valC, w2]))) | ((first | refine condD_intro ?_ ?_ | refine guardD_intro ?_ ?_) <;> (intro hd; have hc := hd; (try simp at hc) <;> (try simp -implicitDefEqProofs [-loopQ_n, hd, hc, g, hx, k1', k2', t1, t2, t3, decC, valC, w2]))) | (refine ldD_ep ?_ ?_; (focus kernel_rfl); (try simp -implicitDefEqProofs [-loopQ_n, g, hx, k1', k2', t1, t2, t3, decC, valC, w2])))))
          refine loop_next (j + 1, ⟨xk, xn, xs⟩) ⟨by simp only; omega, hF⟩ (by simp only; omega) (weak_of 2 0 rfl rfl ?_ ?_) <;> simp [w2, decC]
        · rw [if_neg q] at hF
          rw [← hF]
          have hne : ¬ (xk = ck ∧ xn = cn ∧ xs.toList = cs.toList) := val_ne q
          ((try simp -implicitDefEqProofs [-loopQ_n, g, hx, k1', k2', t1, t2, t3, decC, valC, w2, outA, vals_nil]) <;> (repeat' (first | ((first | refine condD_dec ?_ ?_ | refine guardD_dec ?_ ?_) <;> (intro hc; (try simp -implicitDefEqProofs [-loopQ_n, hc, g, hx, k1', k2', t1, t2, t3, decC, valC, w2, outA, vals_nil]))) | ((first | refine condD_intro ?_ ?_ | refine guardD_intro ?_ ?_) <;> (intro hd; have hc := hd; (try simp at hc) <;> (try simp -implicitDefEqProofs [-loopQ_n, hd, hc, g, hx, k1', k2', t1, t2, t3, decC, valC, w2, outA, vals_nil]))) | (refine ldD_ep ?_ ?_; (focus kernel_rfl); (try simp -implicitDefEqProofs [-loopQ_n, g, hx, k1', k2', t1, t2, t3, decC, valC, w2, outA, vals_nil])))))
          all_goals first | exact absurd hc hne | skip
      have k2' : (d.hit = 2) = False := eq_false k2
      rw [if_neg k2] at hF
      by_cases k4 : d.hit = 4
      · have k4' : (d.hit = 4) = True := eq_true k4
        rw [if_pos k4] at hF
        by_cases q : idxV d.order ⟨xk, xn, xs⟩ < idxV d.order ⟨ck, cn, cs⟩
        · rw [if_pos q] at hF
          ((try simp -implicitDefEqProofs [-loopQ_n, g, hx, k1', k2', k4', t1, t2, t3, decC, valC, q, w2]) <;> (repeat' (first | ((first | refine condD_dec ?_ ?_ | refine guardD_dec ?_ ?_) <;> (intro hc; (try simp -implicitDefEqProofs [-loopQ_n, hc, g, hx, k1', k2', k4', t1, t2, t3, decC, valC, q, w2]))) | ((first | refine condD_intro ?_ ?_ | refine guardD_intro ?_ ?_) <;> (intro hd; have hc := hd; (try simp at hc) <;> (try simp -implicitDefEqProofs [-loopQ_n, hd, hc, g, hx, k1', k2', k4', t1, t2, t3, decC, valC, q, w2]))) | ((first | (refine ldD_ep ?_ ?_; (focus kernel_rfl)) | (refine callS_mk ?_; (try simp -implicitDefEqProofs [-loopQ_n, g, hx, k1', k2', k4', t1, t2, t3, decC, valC, q, w2]); (first | refine callS_intro (hix) (.inl rfl) ?_ | refine callS_intro (hib) (.inl rfl) ?_))); (try simp -implicitDefEqProofs [-loopQ_n, g, hx, k1', k2', k4', t1, t2, t3, decC, valC, q, w2])))))
          refine loop_next (j + 1, ⟨xk, xn, xs⟩) ⟨by simp only; omega, hF⟩ (by simp only; omega) (weak_of 2 0 rfl rfl ?_ ?_) <;> simp [w2, decC]
        · rw [if_neg q] at hF
          ((try simp -implicitDefEqProofs [-loopQ_n, g, hx, k1', k2', k4', t1, t2, t3, decC, valC, q, w2]) <;> (repeat' (first | ((first | refine condD_dec ?_ ?_ | refine guardD_dec ?_ ?_) <;> (intro hc; (try simp -implicitDefEqProofs [-loopQ_n, hc, g, hx, k1', k2', k4', t1, t2, t3, decC, valC, q, w2]))) | ((first | refine condD_intro ?_ ?_ | refine guardD_intro ?_ ?_) <;> (intro hd; have hc := hd; (try simp at hc) <;> (try simp -implicitDefEqProofs [-loopQ_n, hd, hc, g, hx, k1', k2', k4', t1, t2, t3, decC, valC, q, w2]))) | ((first | (refine ldD_ep ?_ ?_; (focus kernel_rfl)) | (refine callS_mk ?_; (try simp -implicitDefEqProofs [-loopQ_n, g, hx, k1', k2', k4', t1, t2, t3, decC, valC, q, w2]); (first | refine callS_intro (hix) (.inl rfl) ?_ | refine callS_intro (hib) (.inl rfl) ?_))); (try simp -implicitDefEqProofs [-loopQ_n, g, hx, k1', k2', k4', t1, t2, t3, decC, valC, q, w2])))))
          refine loop_next (j + 1, ⟨ck, cn, cs⟩) ⟨by simp only; omega, hF⟩ (by simp only; omega) (weak_of 2 0 rfl rfl ?_ ?_) <;> simp [w2, decC]
      have k4' : (d.hit = 4) = False := eq_false k4
      rw [if_neg k4] at hF
      by_cases k7 : d.hit = 7
      · have k7' : (d.hit = 7) = True := eq_true k7
        rw [if_pos k7] at hF
        simp only at hF
        by_cases q : xn < cn
        · rw [if_pos q] at hF
          ((try simp -implicitDefEqProofs [-loopQ_n, g, hx, k1', k2', k4', k7', t1, t2, t3, decC, valC, q, w2]) <;> (repeat' (first | ((first | refine condD_dec ?_ ?_ | refine guardD_dec ?_ ?_) <;> (intro hc; (try simp -implicitDefEqProofs [-loopQ_n, hc, g, hx, k1', k2', k4', k7', t1, t2, t3, decC, valC, q, w2]))) | ((first | refine condD_intro ?_ ?_ | refine guardD_intro ?_ ?_) <;> (intro hd; have hc := hd; (try simp at hc) <;> (try simp -implicitDefEqProofs [-loopQ_n, hd, hc, g, hx, k1', k2', k4', k7', t1, t2, t3, decC, valC, q, w2]))) | (refine ldD_ep ?_ ?_; (focus kernel_rfl); (try simp -implicitDefEqProofs [-loopQ_n, g, hx, k1', k2', k4', k7', t1, t2, t3, decC, valC, q, w2])))))
          refine loop_next (j + 1, ⟨xk, xn, xs⟩) ⟨by simp only; omega, hF⟩ (by simp only; omega) (weak_of 2 0 rfl rfl ?_ ?_) <;> simp [w2, decC]
        · rw [if_neg q] at hF
          ((try simp -implicitDefEqProofs [-loopQ_n, g, hx, k1', k2', k4', k7', t1, t2, t3, decC, valC, q, w2]) <;> (repeat' (first | ((first | refine condD_dec ?_ ?_ | refine guardD_dec ?_ ?_) <;> (intro hc; (try simp -implicitDefEqProofs [-loopQ_n, hc, g, hx, k1', k2', k4', k7', t1, t2, t3, decC, valC, q, w2]))) | ((first | refine condD_intro ?_ ?_ | refine guardD_intro ?_ ?_) <;> (intro hd; have hc := hd; (try simp at hc) <;> (try simp -implicitDefEqProofs [-loopQ_n, hd, hc, g, hx, k1', k2', k4', k7', t1, t2, t3, decC, valC, q, w2]))) | (refine ldD_ep ?_ ?_; (focus kernel_rfl); (try simp -implicitDefEqProofs [-loopQ_n, g, hx, k1', k2', k4', k7', t1, t2, t3, decC, valC, q, w2])))))
          refine loop_next (j + 1, ⟨ck, cn, cs⟩) ⟨by simp only; omega, hF⟩ (by simp only; omega) (weak_of 2 0 rfl rfl ?_ ?_) <;> simp [w2, decC]
      have k7' : (d.hit = 7) = False := eq_false k7
      rw [if_neg k7] at hF
      by_cases k8 : d.hit = 8
      · have k8' : (d.hit = 8) = True := eq_true k8
        rw [if_pos k8] at hF
        simp only at hF
        by_cases q : cn < xn
        · rw [if_pos q] at hF
          ((try simp -implicitDefEqProofs [-loopQ_n, g, hx, k1', k2', k4', k7', k8', t1, t2, t3, decC, valC, q, w2]) <;> (repeat' (first | ((first | refine condD_dec ?_ ?_ | refine guardD_dec ?_ ?_) <;> (intro hc; (try simp -implicitDefEqProofs [-loopQ_n, hc, g, hx, k1', k2', k4', k7', k8', t1, t2, t3, decC, valC, q, w2]))) | ((first | refine condD_intro ?_ ?_ | refine guardD_intro ?_ ?_) <;> (intro hd; have hc := hd; (try simp at hc) <;> (try simp -implicitDefEqProofs [-loopQ_n, hd, hc, g, hx, k1', k2', k4', k7', k8', t1, t2, t3, decC, valC, q, w2]))) | (refine ldD_ep ?_ ?_; (focus kernel_rfl); (try simp -implicitDefEqProofs [-loopQ_n, g, hx, k1', k2', k4', k7', k8', t1, t2, t3, decC, valC, q, w2])))))
          refine loop_next (j + 1, ⟨xk, xn, xs⟩) ⟨by simp only; omega, hF⟩ (by simp only; omega) (weak_of 2 0 rfl rfl ?_ ?_) <;> simp [w2, decC]
        · rw [if_neg q] at hF
          ((try simp -implicitDefEqProofs [-loopQ_n, g, hx, k1', k2', k4', k7', k8', t1, t2, t3, decC, valC, q, w2]) <;> (repeat' (first | ((first | refine condD_dec ?_ ?_ | refine guardD_dec ?_ ?_) <;> (intro hc; (try simp -implicitDefEqProofs [-loopQ_n, hc, g, hx, k1', k2', k4', k7', k8', t1, t2, t3, decC, valC, q, w2]))) | ((first | refine condD_intro ?_ ?_ | refine guardD_intro ?_ ?_) <;> (intro hd; have hc := hd; (try simp at hc) <;> (try simp -implicitDefEqProofs [-loopQ_n, hd, hc, g, hx, k1', k2', k4', k7', k8', t1, t2, t3, decC, valC, q, w2]))) | (refine ldD_ep ?_ ?_; (focus kernel_rfl); (try simp -implicitDefEqProofs [-loopQ_n, g, hx, k1', k2', k4', k7', k8', t1, t2, t3, decC, valC, q, w2])))))
          refine loop_next (j + 1, ⟨ck, cn, cs⟩) ⟨by simp only; omega, hF⟩ (by simp only; omega) (weak_of 2 0 rfl rfl ?_ ?_) <;> simp [w2, decC]
      have k8' : (d.hit = 8) = False := eq_false k8
      rw [if_neg k8] at hF
      ((try simp -implicitDefEqProofs [-loopQ_n, g, hx, k1', k2', k4', k7', k8', t1, t2, t3, decC, valC, w2]) <;> (repeat' (first | ((first | refine condD_dec ?_ ?_ | refine guardD_dec ?_ ?_) <;> (intro hc; (try simp -implicitDefEqProofs [-loopQ_n, hc, g, hx, k1', k2', k4', k7', k8', t1, t2, t3, decC, valC, w2]))) | ((first | refine condD_intro ?_ ?_ | refine guardD_intro ?_ ?_) <;> (intro hd; have hc := hd; (try simp at hc) <;> (try simp -implicitDefEqProofs [-loopQ_n, hd, hc, g, hx, k1', k2', k4', k7', k8', t1, t2, t3, decC, valC, w2]))) | (refine ldD_ep ?_ ?_; (focus kernel_rfl); (try simp -implicitDefEqProofs [-loopQ_n, g, hx, k1', k2', k4', k7', k8', t1, t2, t3, decC, valC, w2])))))
      refine loop_next (j + 1, ⟨ck, cn, cs⟩) ⟨by simp only; omega, hF⟩ (by simp only; omega) (weak_of 2 0 rfl rfl ?_ ?_) <;> simp [w2, decC]
    · rw [List.drop_eq_nil_of_le (by omega), foldO] at hF
      have t3 : ¬ (j : Int) + 1 < r.length + 1 := by omega
      obtain ⟨ck, cn, cs⟩ := best
      rw [← hF]
      ((try simp -implicitDefEqProofs [-loopQ_n, g, t3, decC, outA]) <;> (repeat' (first | ((first | refine condD_dec ?_ ?_ | refine guardD_dec ?_ ?_) <;> (intro hc; (try simp -implicitDefEqProofs [-loopQ_n, hc, g, t3, decC, outA]))) | ((first | refine condD_intro ?_ ?_ | refine guardD_intro ?_ ?_) <;> (intro hd; have hc := hd; (try simp at hc) <;> (try simp -implicitDefEqProofs [-loopQ_n, hd, hc, g, t3, decC, outA]))) | (refine ldD_ep ?_ ?_; (focus kernel_rfl); (try simp -implicitDefEqProofs [-loopQ_n, g, t3, decC, outA])))))
      simp [rowsOf, valC]
end Go.Proofs.YthemglpccpjokaaGreat
namespace Go.Proofs.YthemglpccpjokaaGreat
open Go.RowKit
variable [Glob]
theorem given1_pure (v : Val) : Pure Tryz.prog 100 [.agg (valC v)] (.bool (!valueV v)) := by
  have hv := value_pure v
  simp only [valC] at hv
  refine pure_of mixed Tryz.func100 rfl (by kernel_rfl) (of_decide_eq_true rfl) (by kernel_rfl) (vc_run ?_)
  ((try simp -implicitDefEqProofs [-loopQ_n, valC]) <;> (repeat' (first | ((first | refine condD_dec ?_ ?_ | refine guardD_dec ?_ ?_) <;> (intro hc; (try simp -implicitDefEqProofs [-loopQ_n, hc, valC]))) | (refine callS_mk ?_; (try simp -implicitDefEqProofs [-loopQ_n, valC]); (first | refine callS_intro (hv) (.inl rfl) ?_); (try simp -implicitDefEqProofs [-loopQ_n, valC])))))
def givenE (d : Dec) (v : List Val) : Int := if decV d && valsV v then (if assV d.inputs v = true then 0 else 11) else 1
theorem givenE_ok {d : Dec} {v : List Val} (h : givenE d v = 0) : decV d = true ∧ valsV v = true ∧ assV d.inputs v = true ∧ v.length = d.inputs.length := by
  unfold givenE at h
  split at h
  · rename_i q
    simp only [Bool.and_eq_true] at q
    split at h
    · rename_i q2
      refine ⟨q.1, q.2, q2, ?_⟩
      simp only [assV, Bool.and_eq_true, decide_eq_true_eq] at q2
      exact q2.1
    · simp at h
  · simp at h
theorem given_pure (d : Dec) (v : List Val) (hs : szD d) (hv : v.length ≤ 1000000) : Pure Tryz.prog 58 [.agg (decC d), .rs (rowsOf valC v)] (.int .i64 (givenE d v)) := by
  have hd := dvalid_pure d hs
  have hA := dvV_any (p := fun x => !valueV x) (l := v) (g := 100) (caps := []) (fun x _ => given1_pure x) (fun H k => rfl) rfl (by omega)
  rw [show (v.any fun x => !valueV x) = !valsV v by simp [valsV, List.any_eq_not_all_not]] at hA
  have hI := inAll_pure d.inputs v hs.1 hv
  unfold inAllA at hI
  simp only [decC] at hd
  by_cases e : decV d = true
  · rw [e] at hd
    have hdm := (dec_facts e).1
    by_cases f : valsV v = true
    · rw [f] at hA hI
      rw [hdm] at hI
      by_cases g : assV d.inputs v = true
      · rw [g] at hI
        refine pure_of mixed Tryz.func58 rfl (by kernel_rfl) (of_decide_eq_true rfl) (by kernel_rfl) (vc_run ?_)
        ((try simp -implicitDefEqProofs [-loopQ_n, decC]) <;> (repeat' (first | ((first | refine condD_dec ?_ ?_ | refine guardD_dec ?_ ?_) <;> (intro hc; (try simp -implicitDefEqProofs [-loopQ_n, hc, decC]))) | (refine callS_mk ?_; (try simp -implicitDefEqProofs [-loopQ_n, decC]); (first | refine callS_intro (hd) (.inl rfl) ?_ | refine callS_intro (hA) (.inl rfl) ?_ | refine callS_intro (hI) (.inr ⟨rfl, rfl⟩) ?_); (try simp -implicitDefEqProofs [-loopQ_n, decC])))))
        simp [givenE, e, f, g]
      · have g : assV d.inputs v = false := by simpa using g
        rw [g] at hI
        refine pure_of mixed Tryz.func58 rfl (by kernel_rfl) (of_decide_eq_true rfl) (by kernel_rfl) (vc_run ?_)
        ((try simp -implicitDefEqProofs [-loopQ_n, decC]) <;> (repeat' (first | ((first | refine condD_dec ?_ ?_ | refine guardD_dec ?_ ?_) <;> (intro hc; (try simp -implicitDefEqProofs [-loopQ_n, hc, decC]))) | (refine callS_mk ?_; (try simp -implicitDefEqProofs [-loopQ_n, decC]); (first | refine callS_intro (hd) (.inl rfl) ?_ | refine callS_intro (hA) (.inl rfl) ?_ | refine callS_intro (hI) (.inr ⟨rfl, rfl⟩) ?_); (try simp -implicitDefEqProofs [-loopQ_n, decC])))))
        simp [givenE, e, f, g]
    · have f : valsV v = false := by simpa using f
      rw [f] at hA
      clear hI
      refine pure_of mixed Tryz.func58 rfl (by kernel_rfl) (of_decide_eq_true rfl) (by kernel_rfl) (vc_run ?_)
      ((try simp -implicitDefEqProofs [-loopQ_n, decC]) <;> (repeat' (first | ((first | refine condD_dec ?_ ?_ | refine guardD_dec ?_ ?_) <;> (intro hc; (try simp -implicitDefEqProofs [-loopQ_n, hc, decC]))) | (refine callS_mk ?_; (try simp -implicitDefEqProofs [-loopQ_n, decC]); (first | refine callS_intro (hd) (.inl rfl) ?_ | refine callS_intro (hA) (.inl rfl) ?_); (try simp -implicitDefEqProofs [-loopQ_n, decC])))))
      simp [givenE, e, f]
  · have e : decV d = false := by simpa using e
    rw [e] at hd
    clear hI hA
    refine pure_of mixed Tryz.func58 rfl (by kernel_rfl) (of_decide_eq_true rfl) (by kernel_rfl) (vc_run ?_)
    ((try simp -implicitDefEqProofs [-loopQ_n, decC]) <;> (repeat' (first | ((first | refine condD_dec ?_ ?_ | refine guardD_dec ?_ ?_) <;> (intro hc; (try simp -implicitDefEqProofs [-loopQ_n, hc, decC]))) | (refine callS_mk ?_; (try simp -implicitDefEqProofs [-loopQ_n, decC]); (first | refine callS_intro (hd) (.inl rfl) ?_); (try simp -implicitDefEqProofs [-loopQ_n, decC])))))
    simp [givenE, e]
theorem ints_nil : rowsOf intC [] = [] := rfl
def hitsO (d : Dec) (v : List Val) : List Int := if givenE d v = 0 then hitsL d v else []
def evalO (d : Dec) (v : List Val) : List Val × Int := if givenE d v = 0 then outD d v else ([], givenE d v)
theorem Hits_pure (d : Dec) (v : List Val) (hs : szD d) (hv : v.length ≤ 1000000) : Pure Tryz.prog 25 [.agg (decC d), .rs (rowsOf valC v)] (.tup [.rs (rowsOf intC (hitsO d v)), .int .i64 (givenE d v)]) := by
  have hg := given_pure d v hs hv
  simp only [decC] at hg
  unfold hitsO
  by_cases e : givenE d v = 0
  · obtain ⟨e1, e2, e3, e4⟩ := givenE_ok e
    have hh := hits_pure d v hs.2.2.1 (rows_sz hs e1 e4)
    simp only [decC] at hh
    rw [if_pos e, e]
    rw [e] at hg
    refine pure_of mixed Tryz.func25 rfl (by kernel_rfl) (of_decide_eq_true rfl) (by kernel_rfl) (vc_run ?_)
    ((try simp -implicitDefEqProofs [-loopQ_n, decC, ints_reify]) <;> (repeat' (first | ((first | refine condD_dec ?_ ?_ | refine guardD_dec ?_ ?_) <;> (intro hc; (try simp -implicitDefEqProofs [-loopQ_n, hc, decC, ints_reify]))) | (refine callS_mk ?_; (try simp -implicitDefEqProofs [-loopQ_n, decC, ints_reify]); (first | refine callS_intro (hg) (.inl rfl) ?_ | refine callS_intro (hh) (.inr ⟨rfl, rfl⟩) ?_); (try simp -implicitDefEqProofs [-loopQ_n, decC, ints_reify])))))
  · rw [if_neg e]
    refine pure_of mixed Tryz.func25 rfl (by kernel_rfl) (of_decide_eq_true rfl) (by kernel_rfl) (vc_run ?_)
    ((try simp -implicitDefEqProofs [-loopQ_n, decC, e, ints_nil]) <;> (repeat' (first | ((first | refine condD_dec ?_ ?_ | refine guardD_dec ?_ ?_) <;> (intro hc; (try simp -implicitDefEqProofs [-loopQ_n, hc, decC, e, ints_nil]))) | (refine callS_mk ?_; (try simp -implicitDefEqProofs [-loopQ_n, decC, e, ints_nil]); (first | refine callS_intro (hg) (.inl rfl) ?_); (try simp -implicitDefEqProofs [-loopQ_n, decC, e, ints_nil])))))
theorem Eval_pure (d : Dec) (v : List Val) (hs : szD d) (hv : v.length ≤ 1000000) : Pure Tryz.prog 21 [.agg (decC d), .rs (rowsOf valC v)] (outA (evalO d v)) := by
  have hg := given_pure d v hs hv
  simp only [decC] at hg
  unfold evalO
  by_cases e : givenE d v = 0
  · obtain ⟨e1, e2, e3, e4⟩ := givenE_ok e
    have hh := outcome_pure d v hs e1 e4
    obtain ⟨⟨O, k⟩, hO⟩ : ∃ e, outD d v = e := ⟨_, rfl⟩
    rw [hO] at hh ⊢
    simp only [decC, outA] at hh
    rw [if_pos e]
    rw [e] at hg
    refine pure_of mixed Tryz.func21 rfl (by kernel_rfl) (of_decide_eq_true rfl) (by kernel_rfl) (vc_run ?_)
    ((try simp -implicitDefEqProofs [-loopQ_n, decC, vals_reify, outA]) <;> (repeat' (first | ((first | refine condD_dec ?_ ?_ | refine guardD_dec ?_ ?_) <;> (intro hc; (try simp -implicitDefEqProofs [-loopQ_n, hc, decC, vals_reify, outA]))) | (refine callS_mk ?_; (try simp -implicitDefEqProofs [-loopQ_n, decC, vals_reify, outA]); (first | refine callS_intro (hg) (.inl rfl) ?_ | refine callS_intro (hh) (.inr ⟨rfl, rfl⟩) ?_); (try simp -implicitDefEqProofs [-loopQ_n, decC, vals_reify, outA])))))
  · rw [if_neg e]
    refine pure_of mixed Tryz.func21 rfl (by kernel_rfl) (of_decide_eq_true rfl) (by kernel_rfl) (vc_run ?_)
    ((try simp -implicitDefEqProofs [-loopQ_n, decC, e, outA, vals_nil]) <;> (repeat' (first | ((first | refine condD_dec ?_ ?_ | refine guardD_dec ?_ ?_) <;> (intro hc; (try simp -implicitDefEqProofs [-loopQ_n, hc, decC, e, outA, vals_nil]))) | (refine callS_mk ?_; (try simp -implicitDefEqProofs [-loopQ_n, decC, e, outA, vals_nil]); (first | refine callS_intro (hg) (.inl rfl) ?_); (try simp -implicitDefEqProofs [-loopQ_n, decC, e, outA, vals_nil])))))
end Go.Proofs.YthemglpccpjokaaGreat
namespace Go.Proofs.YthemglpccpjokaaGreat
open Go.RowKit
variable [Glob]
theorem rHits_pure (d : Dec) (v : List Val) (hs : szD d) (hv : v.length ≤ 1000000) : Pure Tryz.prog 36 [.agg (decC d), .rs (rowsOf valC v)] (.tup [.rs (rowsOf intC (hitsO d v)), .int .i64 (givenE d v)]) := by
  have hd := rvalid_pure d hs
  have hA := rvalAll_pure v hv
  have hI := rinAll_pure d.inputs v hs.1 hv
  simp only [decC] at hd
  by_cases e : decV d = true
  · rw [e] at hd
    have hI := hI (doms_mem (dec_facts e).1)
    by_cases f : valsV v = true
    · rw [f] at hA
      by_cases g : assV d.inputs v = true
      · rw [g] at hI
        have hE : givenE d v = 0 := by simp [givenE, e, f, g]
        have hh := rhits_pure d v hs.2.2.1 (rows_sz hs e (givenE_ok hE).2.2.2)
        simp only [decC] at hh
        rw [hitsO, if_pos hE, hE]
        refine pure_of mixed Tryz.func36 rfl (by kernel_rfl) (of_decide_eq_true rfl) (by kernel_rfl) (vc_run ?_)
        ((try simp -implicitDefEqProofs [-loopQ_n, decC, ints_reify]) <;> (repeat' (first | ((first | refine condD_dec ?_ ?_ | refine guardD_dec ?_ ?_) <;> (intro hc; (try simp -implicitDefEqProofs [-loopQ_n, hc, decC, ints_reify]))) | (refine callS_mk ?_; (try simp -implicitDefEqProofs [-loopQ_n, decC, ints_reify]); (first | refine callS_intro (hd) (.inl rfl) ?_ | refine callS_intro (hA) (.inl rfl) ?_ | refine callS_intro (hI) (.inl rfl) ?_ | refine callS_intro (hh) (.inr ⟨rfl, rfl⟩) ?_); (try simp -implicitDefEqProofs [-loopQ_n, decC, ints_reify])))))
      · have g : assV d.inputs v = false := by simpa using g
        rw [g] at hI
        have hE : givenE d v = 11 := by simp [givenE, e, f, g]
        rw [hitsO, hE, if_neg (by omega)]
        refine pure_of mixed Tryz.func36 rfl (by kernel_rfl) (of_decide_eq_true rfl) (by kernel_rfl) (vc_run ?_)
        ((try simp -implicitDefEqProofs [-loopQ_n, decC, ints_nil]) <;> (repeat' (first | ((first | refine condD_dec ?_ ?_ | refine guardD_dec ?_ ?_) <;> (intro hc; (try simp -implicitDefEqProofs [-loopQ_n, hc, decC, ints_nil]))) | (refine callS_mk ?_; (try simp -implicitDefEqProofs [-loopQ_n, decC, ints_nil]); (first | refine callS_intro (hd) (.inl rfl) ?_ | refine callS_intro (hA) (.inl rfl) ?_ | refine callS_intro (hI) (.inl rfl) ?_); (try simp -implicitDefEqProofs [-loopQ_n, decC, ints_nil])))))
    · have f : valsV v = false := by simpa using f
      rw [f] at hA
      clear hI
      have hE : givenE d v = 1 := by simp [givenE, e, f]
      rw [hitsO, hE, if_neg (by omega)]
      refine pure_of mixed Tryz.func36 rfl (by kernel_rfl) (of_decide_eq_true rfl) (by kernel_rfl) (vc_run ?_)
      ((try simp -implicitDefEqProofs [-loopQ_n, decC, ints_nil]) <;> (repeat' (first | ((first | refine condD_dec ?_ ?_ | refine guardD_dec ?_ ?_) <;> (intro hc; (try simp -implicitDefEqProofs [-loopQ_n, hc, decC, ints_nil]))) | (refine callS_mk ?_; (try simp -implicitDefEqProofs [-loopQ_n, decC, ints_nil]); (first | refine callS_intro (hd) (.inl rfl) ?_ | refine callS_intro (hA) (.inl rfl) ?_); (try simp -implicitDefEqProofs [-loopQ_n, decC, ints_nil])))))
  · have e : decV d = false := by simpa using e
    rw [e] at hd
    clear hI hA
    have hE : givenE d v = 1 := by simp [givenE, e]
    rw [hitsO, hE, if_neg (by omega)]
    refine pure_of mixed Tryz.func36 rfl (by kernel_rfl) (of_decide_eq_true rfl) (by kernel_rfl) (vc_run ?_)
    ((try simp -implicitDefEqProofs [-loopQ_n, decC, ints_nil]) <;> (repeat' (first | ((first | refine condD_dec ?_ ?_ | refine guardD_dec ?_ ?_) <;> (intro hc; (try simp -implicitDefEqProofs [-loopQ_n, hc, decC, ints_nil]))) | (refine callS_mk ?_; (try simp -implicitDefEqProofs [-loopQ_n, decC, ints_nil]); (first | refine callS_intro (hd) (.inl rfl) ?_); (try simp -implicitDefEqProofs [-loopQ_n, decC, ints_nil])))))
theorem rEval_pure (d : Dec) (v : List Val) (hs : szD d) (hv : v.length ≤ 1000000) : Pure Tryz.prog 22 [.agg (decC d), .rs (rowsOf valC v)] (outA (evalO d v)) := by
  have hg := rHits_pure d v hs hv
  simp only [decC] at hg
  unfold evalO
  by_cases e : givenE d v = 0
  · obtain ⟨e1, e2, e3, e4⟩ := givenE_ok e
    have hh := routcome_pure d v hs e1 e4
    obtain ⟨⟨O, k⟩, hO⟩ : ∃ e, outD d v = e := ⟨_, rfl⟩
    rw [hO] at hh ⊢
    simp only [decC, outA] at hh
    rw [if_pos e]
    rw [e] at hg
    refine pure_of mixed Tryz.func22 rfl (by kernel_rfl) (of_decide_eq_true rfl) (by kernel_rfl) (vc_run ?_)
    ((try simp -implicitDefEqProofs [-loopQ_n, decC, vals_reify, outA]) <;> (repeat' (first | ((first | refine condD_dec ?_ ?_ | refine guardD_dec ?_ ?_) <;> (intro hc; (try simp -implicitDefEqProofs [-loopQ_n, hc, decC, vals_reify, outA]))) | (refine callS_mk ?_; (try simp -implicitDefEqProofs [-loopQ_n, decC, vals_reify, outA]); (first | refine callS_intro (hg) (.inr ⟨rfl, rfl⟩) ?_ | refine callS_intro (hh) (.inr ⟨rfl, rfl⟩) ?_); (try simp -implicitDefEqProofs [-loopQ_n, decC, vals_reify, outA])))))
  · rw [if_neg e]
    refine pure_of mixed Tryz.func22 rfl (by kernel_rfl) (of_decide_eq_true rfl) (by kernel_rfl) (vc_run ?_)
    ((try simp -implicitDefEqProofs [-loopQ_n, decC, e, outA, vals_nil]) <;> (repeat' (first | ((first | refine condD_dec ?_ ?_ | refine guardD_dec ?_ ?_) <;> (intro hc; (try simp -implicitDefEqProofs [-loopQ_n, hc, decC, e, outA, vals_nil]))) | (refine callS_mk ?_; (try simp -implicitDefEqProofs [-loopQ_n, decC, e, outA, vals_nil]); (first | refine callS_intro (hg) (.inr ⟨rfl, rfl⟩) ?_); (try simp -implicitDefEqProofs [-loopQ_n, decC, e, outA, vals_nil])))))
def capA : Int → List Dom → Int
  | n, [] => n
  | n, x :: r => capA (min 10001 (n * sizeD x)) r
theorem size_pos {x : Dom} (h : domV x = true) : 1 ≤ sizeD x ∧ sizeD x ≤ 1000 := by
  have := place_lt (v := ⟨1, 0, ByteArray.empty⟩) h (by simp [valueV, emptyS])
  exact ⟨this.2.2.2, this.2.2.1⟩
theorem capA_big : ∀ {l : List Dom}, (∀ x ∈ l, domV x = true) → capA 10001 l = 10001
  | [], _ => rfl
  | x :: r, h => by
    have := (size_pos (h x (by simp))).1
    rw [capA, show min 10001 (10001 * sizeD x) = 10001 by omega]
    exact capA_big fun y hy => h y (by simp [hy])
theorem cap_mul {n : Int} {x : Dom} (h : domV x = true) (h0 : 1 ≤ n) (h1 : n ≤ 10001) : 1 ≤ n * sizeD x ∧ n * sizeD x ≤ 10001000 := by
  obtain ⟨a, b⟩ := size_pos h
  refine ⟨?_, ?_⟩
  · have := Int.mul_le_mul h0 a (by omega) (by omega)
    omega
  · have := Int.mul_le_mul h1 b (by omega) (by omega)
    omega
set_option maxHeartbeats 4000000 in
theorem rasg_pure (l : List Dom) (hl : l.length ≤ 1000000) (hd : ∀ x ∈ l, domV x = true) : Pure Tryz.prog 50 [.rs (rowsOf domC l)] (.int .i64 (capA 1 l)) := by
  refine pure_of mixed Tryz.func50 rfl (by kernel_rfl) (of_decide_eq_true rfl) (by kernel_rfl) (vc_run ?_)
  ((try simp -implicitDefEqProofs [-loopQ_n]) <;> (repeat' (first | ((first | refine condD_dec ?_ ?_ | refine guardD_dec ?_ ?_) <;> (intro hc; (try simp -implicitDefEqProofs [-loopQ_n, hc]))))))
  refine loop_intro (σ := Nat × Int) (fun x => ⟨[(0, .rs (rowsOf domC l)), (3, .int .i64 x.2), (4, .int .i64 x.1)], []⟩)
    (fun x => x.1 ≤ l.length ∧ 1 ≤ x.2 ∧ x.2 ≤ 10001 ∧ capA x.2 (l.drop x.1) = capA 1 l) (fun x => l.length - x.1) (0, 1) ⟨by simp, by simp, by simp, by simp⟩ ?_ ?_
  · refine weak_of 0 0 rfl rfl ?_ ?_ <;> simp
  rintro ⟨i, n⟩ ⟨hi, h0, h1, hR⟩
  simp only at hi h0 h1 hR
  by_cases h : i < l.length
  · have w1 := w_succB h (by omega)
    have hx := hd _ (List.getElem_mem h)
    have hz := rsize_pure l[i] hx
    obtain ⟨x, hf⟩ : ∃ e, l[i] = e := ⟨_, rfl⟩
    rw [List.drop_eq_getElem_cons h, hf, capA] at hR
    rw [hf] at hx hz
    simp only [domC] at hz
    obtain ⟨b1, b2⟩ := cap_mul hx h0 h1
    have w2 : wrapI .i64 (n * sizeD x) = n * sizeD x := wrap_in (by omega) (by omega)
    ((try simp -implicitDefEqProofs [-loopQ_n, h, hf, domC, w1, w2]) <;> (repeat' (first | ((first | refine condD_dec ?_ ?_ | refine guardD_dec ?_ ?_) <;> (intro hc; (try simp -implicitDefEqProofs [-loopQ_n, hc, h, hf, domC, w1, w2]))) | (refine callS_mk ?_; (try simp -implicitDefEqProofs [-loopQ_n, h, hf, domC, w1, w2]); (first | refine callS_intro (hz) (.inl rfl) ?_); (try simp -implicitDefEqProofs [-loopQ_n, h, hf, domC, w1, w2])))))
    refine loop_next (i + 1, min 10001 (n * sizeD x)) ⟨by simp only; omega, by simp only; omega, by simp only; omega, hR⟩ (by simp only; omega) (weak_of 0 0 rfl rfl ?_ ?_) <;> simp [w1] <;> omega
  · rw [List.drop_eq_nil_of_le (by omega), capA] at hR
    ((try simp -implicitDefEqProofs [-loopQ_n, h]) <;> (repeat' (first | ((first | refine condD_dec ?_ ?_ | refine guardD_dec ?_ ?_) <;> (intro hc; (try simp -implicitDefEqProofs [-loopQ_n, hc, h]))))))
    rw [hR]
def faultE (d : Dec) : Int := if decV d = true then (if 10000 < capA 1 d.inputs then 13 else 0) else 1
theorem rfault_pure (d : Dec) (hs : szD d) : Pure Tryz.prog 54 [.agg (decC d)] (.int .i64 (faultE d)) := by
  have hd := rvalid_pure d hs
  simp only [decC] at hd
  unfold faultE
  by_cases e : decV d = true
  · rw [e] at hd
    have ha := rasg_pure d.inputs hs.1 (doms_mem (dec_facts e).1)
    rw [if_pos e]
    by_cases g : 10000 < capA 1 d.inputs
    · rw [if_pos g]
      refine pure_of mixed Tryz.func54 rfl (by kernel_rfl) (of_decide_eq_true rfl) (by kernel_rfl) (vc_run ?_)
      ((try simp -implicitDefEqProofs [-loopQ_n, decC, g]) <;> (repeat' (first | ((first | refine condD_dec ?_ ?_ | refine guardD_dec ?_ ?_) <;> (intro hc; (try simp -implicitDefEqProofs [-loopQ_n, hc, decC, g]))) | (refine callS_mk ?_; (try simp -implicitDefEqProofs [-loopQ_n, decC, g]); (first | refine callS_intro (hd) (.inl rfl) ?_ | refine callS_intro (ha) (.inl rfl) ?_); (try simp -implicitDefEqProofs [-loopQ_n, decC, g])))))
    · rw [if_neg g]
      refine pure_of mixed Tryz.func54 rfl (by kernel_rfl) (of_decide_eq_true rfl) (by kernel_rfl) (vc_run ?_)
      ((try simp -implicitDefEqProofs [-loopQ_n, decC, g]) <;> (repeat' (first | ((first | refine condD_dec ?_ ?_ | refine guardD_dec ?_ ?_) <;> (intro hc; (try simp -implicitDefEqProofs [-loopQ_n, hc, decC, g]))) | (refine callS_mk ?_; (try simp -implicitDefEqProofs [-loopQ_n, decC, g]); (first | refine callS_intro (hd) (.inl rfl) ?_ | refine callS_intro (ha) (.inl rfl) ?_); (try simp -implicitDefEqProofs [-loopQ_n, decC, g])))))
  · rw [if_neg e]
    have e : decV d = false := by simpa using e
    rw [e] at hd
    refine pure_of mixed Tryz.func54 rfl (by kernel_rfl) (of_decide_eq_true rfl) (by kernel_rfl) (vc_run ?_)
    ((try simp -implicitDefEqProofs [-loopQ_n, decC]) <;> (repeat' (first | ((first | refine condD_dec ?_ ?_ | refine guardD_dec ?_ ?_) <;> (intro hc; (try simp -implicitDefEqProofs [-loopQ_n, hc, decC]))) | (refine callS_mk ?_; (try simp -implicitDefEqProofs [-loopQ_n, decC]); (first | refine callS_intro (hd) (.inl rfl) ?_); (try simp -implicitDefEqProofs [-loopQ_n, decC])))))
set_option maxHeartbeats 4000000 in
theorem searchable_pure (d : Dec) (hs : szD d) : Pure Tryz.prog 51 [.agg (decC d)] (.int .i64 (faultE d)) := by
  have hd := dvalid_pure d hs
  simp only [decC] at hd
  unfold faultE
  by_cases e : decV d = true
  rotate_left
  · rw [if_neg e]
    have e : decV d = false := by simpa using e
    rw [e] at hd
    refine pure_of mixed Tryz.func51 rfl (by kernel_rfl) (of_decide_eq_true rfl) (by kernel_rfl) (vc_run ?_)
    ((try simp -implicitDefEqProofs [-loopQ_n, decC]) <;> (repeat' (first | ((first | refine condD_dec ?_ ?_ | refine guardD_dec ?_ ?_) <;> (intro hc; (try simp -implicitDefEqProofs [-loopQ_n, hc, decC]))) | (refine callS_mk ?_; (try simp -implicitDefEqProofs [-loopQ_n, decC]); (first | refine callS_intro (hd) (.inl rfl) ?_); (try simp -implicitDefEqProofs [-loopQ_n, decC])))))
  rw [if_pos e]
  have hdm := doms_mem (dec_facts e).1
  have hl := hs.1
  rw [e] at hd
  refine pure_of mixed Tryz.func51 rfl (by kernel_rfl) (of_decide_eq_true rfl) (by kernel_rfl) (vc_run ?_)
  ((try simp -implicitDefEqProofs [-loopQ_n, decC]) <;> (repeat' (first | ((first | refine condD_dec ?_ ?_ | refine guardD_dec ?_ ?_) <;> (intro hc; (try simp -implicitDefEqProofs [-loopQ_n, hc, decC]))) | (refine callS_mk ?_; (try simp -implicitDefEqProofs [-loopQ_n, decC]); (first | refine callS_intro (hd) (.inl rfl) ?_); (try simp -implicitDefEqProofs [-loopQ_n, decC])))))
  refine loop_intro (σ := Nat × Int) (fun x => ⟨[(3, .int .i64 x.2), (12, .rs (rowsOf domC d.inputs)), (13, .int .i64 d.inputs.length), (14, .int .i64 x.1)], []⟩)
    (fun x => x.1 ≤ d.inputs.length ∧ 1 ≤ x.2 ∧ x.2 ≤ 10000 ∧ capA x.2 (d.inputs.drop x.1) = capA 1 d.inputs) (fun x => d.inputs.length - x.1) (0, 1) ⟨by simp, by simp, by simp, by simp⟩ ?_ ?_
  · refine weak_of 0 0 rfl rfl ?_ ?_ <;> simp
  rintro ⟨i, n⟩ ⟨hi, h0, h1, hR⟩
  simp only at hi h0 h1 hR
  by_cases h : i < d.inputs.length
  · have w1 := w_succB h (by omega)
    have hx := hdm _ (List.getElem_mem h)
    have hz := sizeV_pure d.inputs[i]
    rw [if_pos hx] at hz
    obtain ⟨x, hf⟩ : ∃ e, d.inputs[i] = e := ⟨_, rfl⟩
    rw [List.drop_eq_getElem_cons h, hf, capA] at hR
    rw [hf] at hx hz
    simp only [domC] at hz
    obtain ⟨b1, b2⟩ := cap_mul hx h0 (by omega)
    have w2 : wrapI .i64 (n * sizeD x) = n * sizeD x := wrap_in (by omega) (by omega)
    by_cases g : 10000 < n * sizeD x
    · rw [show min 10001 (n * sizeD x) = 10001 by omega, capA_big (fun y hy => hdm y (List.mem_of_mem_drop hy))] at hR
      rw [← hR]
      ((try simp -implicitDefEqProofs [-loopQ_n, h, hf, domC, w1, w2, g]) <;> (repeat' (first | ((first | refine condD_dec ?_ ?_ | refine guardD_dec ?_ ?_) <;> (intro hc; (try simp -implicitDefEqProofs [-loopQ_n, hc, h, hf, domC, w1, w2, g]))) | (refine callS_mk ?_; (try simp -implicitDefEqProofs [-loopQ_n, h, hf, domC, w1, w2, g]); (first | refine callS_intro (hz) (.inr ⟨rfl, rfl⟩) ?_); (try simp -implicitDefEqProofs [-loopQ_n, h, hf, domC, w1, w2, g])))))
    · rw [show min 10001 (n * sizeD x) = n * sizeD x by omega] at hR
      ((try simp -implicitDefEqProofs [-loopQ_n, h, hf, domC, w1, w2, g]) <;> (repeat' (first | ((first | refine condD_dec ?_ ?_ | refine guardD_dec ?_ ?_) <;> (intro hc; (try simp -implicitDefEqProofs [-loopQ_n, hc, h, hf, domC, w1, w2, g]))) | (refine callS_mk ?_; (try simp -implicitDefEqProofs [-loopQ_n, h, hf, domC, w1, w2, g]); (first | refine callS_intro (hz) (.inr ⟨rfl, rfl⟩) ?_); (try simp -implicitDefEqProofs [-loopQ_n, h, hf, domC, w1, w2, g])))))
      refine loop_next (i + 1, n * sizeD x) ⟨by simp only; omega, by simp only; omega, by simp only; omega, hR⟩ (by simp only; omega) (weak_of 0 0 rfl rfl ?_ ?_) <;> simp [w1]
  · rw [List.drop_eq_nil_of_le (by omega), capA] at hR
    have g : ¬ 10000 < n := by omega
    rw [← hR, if_neg g]
    ((try simp -implicitDefEqProofs [-loopQ_n, h]) <;> (repeat' (first | ((first | refine condD_dec ?_ ?_ | refine guardD_dec ?_ ?_) <;> (intro hc; (try simp -implicitDefEqProofs [-loopQ_n, hc, h]))))))
end Go.Proofs.YthemglpccpjokaaGreat
namespace Go.Proofs.YthemglpccpjokaaGreat
open Go.RowKit
variable [Glob]
def asgA (l : List Dom) (k : Nat) : AV := .rs (rowsOf valC ((allA l).getD k []))
theorem asgA_at {l : List Dom} {k : Nat} (h : k < (allA l).length) : asgA l k = .rs (rowsOf valC (allA l)[k]) := by simp [asgA, h]
set_option maxHeartbeats 8000000 in
theorem all_iter (l : List Dom) (hd : domsV l = true) (hl : l.length ≤ 1000000) : IterOk Tryz.prog 96 [.rp [.rs (rowsOf domC l)]] (allA l).length (asgA l) := by
  have hdm := doms_mem hd
  have hne := allA_ne hdm
  refine iter_of mixed Tryz.func96 (by kernel_rfl) rfl rfl rfl rfl rfl rfl rfl rfl rfl rfl rfl (by kernel_rfl) (by kernel_rfl) rfl (by kernel_rfl) rfl hne ?_ ?_
  · intro y
    have hf := first_pure l hl
    have h0 := allA_first hdm
    have e : asgA l 0 = .rs (rowsOf valC (firstA l)) := by simp [asgA, h0]
    rw [firstO, if_pos hd] at hf
    rw [e]
    refine vc_run ?_
    ((try simp -implicitDefEqProofs [-loopQ_n]) <;> (repeat' (first | ((first | refine condD_dec ?_ ?_ | refine guardD_dec ?_ ?_) <;> (intro hc; (try simp -implicitDefEqProofs [-loopQ_n, hc]))) | (refine callS_mk ?_; (try simp -implicitDefEqProofs [-loopQ_n]); (first | refine callS_intro (hf) (.inr ⟨rfl, rfl⟩) ?_); (try simp -implicitDefEqProofs [-loopQ_n])))))
    refine weak_of 0 0 rfl rfl ?_ ?_ <;> simp
  · intro y k hk
    obtain ⟨hma, hmv⟩ := allA_mem hdm _ (List.getElem_mem hk)
    have hn := next_pure l (allA l)[k] hd hmv hma
    have hx := allA_next hdm k hk
    rw [asgA_at hk]
    by_cases g : k + 1 < (allA l).length
    · rw [asgA_at g]
      rw [List.getElem?_eq_getElem g] at hx
      rw [nextO, hx] at hn
      refine vc_run ?_
      ((try simp -implicitDefEqProofs [-loopQ_n, g]) <;> (repeat' (first | ((first | refine condD_dec ?_ ?_ | refine guardD_dec ?_ ?_) <;> (intro hc; (try simp -implicitDefEqProofs [-loopQ_n, hc, g]))) | (refine callS_mk ?_; (try simp -implicitDefEqProofs [-loopQ_n, g]); (first | refine callS_intro (hn) (.inr ⟨rfl, rfl⟩) ?_); (try simp -implicitDefEqProofs [-loopQ_n, g])))))
      refine weak_of 0 0 rfl rfl ?_ ?_ <;> simp
    · rw [List.getElem?_eq_none (by omega)] at hx
      rw [nextO, hx] at hn
      refine vc_run ?_
      ((try simp -implicitDefEqProofs [-loopQ_n, g]) <;> (repeat' (first | ((first | refine condD_dec ?_ ?_ | refine guardD_dec ?_ ?_) <;> (intro hc; (try simp -implicitDefEqProofs [-loopQ_n, hc, g]))) | (refine callS_mk ?_; (try simp -implicitDefEqProofs [-loopQ_n, g]); (first | refine callS_intro (hn) (.inr ⟨rfl, rfl⟩) ?_); (try simp -implicitDefEqProofs [-loopQ_n, g])))))
      omega
end Go.Proofs.YthemglpccpjokaaGreat
namespace Go.Proofs.YthemglpccpjokaaGreat
open Go.RowKit
variable [Glob]
section
variable {P : Program} {L : Nat} {s s' : St} {Q : Ex → St → Prop} {k : List Item}
theorem rngD_weak {g : Operand} {ps : Array Tmp} {assign body : Code} (hw : Weak P L s s') (h : rngD P L g ps assign body k s' Q) : rngD P L g ps assign body k s Q := by
  intro B w0 X N φ a w h1 h2 h3 h4 hB hr
  obtain ⟨φ', hr'⟩ := hw B w0 X N φ a w hB hr
  exact h B w0 X N φ' a w h1 h2 h3 h4 hB hr'
end
def NoneTo (p : List Val → Bool) (L : List (List Val)) (k : Nat) : Prop := ∀ j, j < k → ∀ h : j < L.length, p L[j] = false
theorem NoneTo.zero {p : List Val → Bool} {L : List (List Val)} : NoneTo p L 0 := fun j h => by omega
theorem NoneTo.next {p : List Val → Bool} {L : List (List Val)} {k : Nat} (h : NoneTo p L k) (hk : k < L.length) (hp : p L[k] = false) : NoneTo p L (k + 1) := fun j hj hl => by
  by_cases e : j = k
  · subst e; exact hp
  · exact h j (by omega) hl
theorem NoneTo.some {p : List Val → Bool} {L : List (List Val)} {k : Nat} (h : NoneTo p L k) (hk : k < L.length) (hp : p L[k] = true) : L.find? p = some L[k] := by
  rw [List.find?_eq_some_iff_getElem]
  exact ⟨hp, k, hk, rfl, fun j hj => by rw [h j hj (by omega)]; rfl⟩
theorem NoneTo.none {p : List Val → Bool} {L : List (List Val)} (h : NoneTo p L L.length) : L.find? p = none := by
  rw [List.find?_eq_none]
  intro x hx
  obtain ⟨j, hj, rfl⟩ := List.mem_iff_getElem.1 hx
  rw [h j hj hj]; simp
theorem faultE_ok {d : Dec} (h : faultE d = 0) : decV d = true ∧ capA 1 d.inputs ≤ 10000 := by
  unfold faultE at h
  split at h
  · rename_i e
    split at h
    · simp at h
    · exact ⟨e, by omega⟩
  · simp at h
def gapP (d : Dec) (v : List Val) : Bool := decide ((hitsL d v).length = 0)
def gapF (d : Dec) : Option (List Val) := (allA d.inputs).find? (gapP d)
def gapO (d : Dec) : AV := if faultE d = 0 then (match gapF d with | some v => .tup [.rs (rowsOf valC v), .bool true, .int .i64 0] | none => .tup [.rs [], .bool false, .int .i64 0]) else .tup [.rs [], .bool false, .int .i64 (faultE d)]
set_option maxHeartbeats 16000000 in
theorem gap_pure (d : Dec) (hs : szD d) : Pure Tryz.prog 12 [.agg (decC d)] (gapO d) := by
  have hse := searchable_pure d hs
  simp only [decC] at hse
  unfold gapO
  by_cases e : faultE d = 0
  rotate_left
  · rw [if_neg e]
    refine pure_of mixed Tryz.func12 rfl (by kernel_rfl) (of_decide_eq_true rfl) (by kernel_rfl) (vc_run ?_)
    ((try simp -implicitDefEqProofs [-loopQ_n, decC, e]) <;> (repeat' (first | ((first | refine condD_dec ?_ ?_ | refine guardD_dec ?_ ?_) <;> (intro hc; (try simp -implicitDefEqProofs [-loopQ_n, hc, decC, e]))) | (refine callS_mk ?_; (try simp -implicitDefEqProofs [-loopQ_n, decC, e]); (first | refine callS_intro (hse) (.inl rfl) ?_); (try simp -implicitDefEqProofs [-loopQ_n, decC, e])))))
  obtain ⟨hd, _⟩ := faultE_ok e
  have hdm := (dec_facts hd).1
  rw [if_pos e]
  rw [e] at hse
  refine pure_of mixed Tryz.func12 rfl (by kernel_rfl) (of_decide_eq_true rfl) (by kernel_rfl) (vc_run ?_)
  ((try simp -implicitDefEqProofs [-loopQ_n, decC]) <;> (repeat' (first | ((first | refine condD_dec ?_ ?_ | refine guardD_dec ?_ ?_) <;> (intro hc; (try simp -implicitDefEqProofs [-loopQ_n, hc, decC]))) | (refine callS_mk ?_; (try simp -implicitDefEqProofs [-loopQ_n, decC]); (first | refine callS_intro (hse) (.inl rfl) ?_); (try simp -implicitDefEqProofs [-loopQ_n, decC])))))
  refine inl_intro mixed Tryz.func52 rfl (by kernel_rfl) (of_decide_eq_true rfl) (by kernel_rfl) ?_
  ((try simp -implicitDefEqProofs [-loopQ_n]) <;> (repeat' (first | ((first | refine condD_dec ?_ ?_ | refine guardD_dec ?_ ?_) <;> (intro hc; (try simp -implicitDefEqProofs [-loopQ_n, hc]))))))
  refine endG_r (.fn 96 [.op 4 0]) (by simp) ?_
  simp -implicitDefEqProofs [contK]
  ((try simp -implicitDefEqProofs [-loopQ_n]) <;> (repeat' (first | ((first | refine condD_dec ?_ ?_ | refine guardD_dec ?_ ?_) <;> (intro hc; (try simp -implicitDefEqProofs [-loopQ_n, hc]))))))
  refine rngD_weak (s' := ⟨[(1, .op 0 0), (2, .op 1 0), (3, .op 2 0), (4, .op 3 0), (14, .fn 96 [.rp [.rs (rowsOf domC d.inputs)]])], [.box 29 (decC d), .box 27 [.nils], .box 4 [.bool false], .box 32 [.int .i64 0], .gone]⟩) ((weak_frb 4 22 [.rs (rowsOf domC d.inputs)] rfl (by simp)).trans (weak_of 5 0 rfl rfl (by simp [fbA, fbL]) (by simp [fbH, fbB, fbL, fbA, decC]))) ?_
  refine range_intro mixed rfl rfl (all_iter d.inputs hdm hs.1) (NoneTo (gapP d) (allA d.inputs)) (fun _ => [.box 29 (decC d), .box 27 [.nils], .box 4 [.bool false], .box 32 [.int .i64 0], .gone]) NoneTo.zero rfl (fun _ => rfl) (by kernel_rfl) (by kernel_rfl) (fun i hi hI => ?_) fun hI => ?_
  · obtain ⟨hma, hmv⟩ := allA_mem (doms_mem hdm) _ (List.getElem_mem hi)
    rw [asgA_at hi]
    obtain ⟨v, hv⟩ : ∃ e, (allA d.inputs)[i] = e := ⟨_, rfl⟩
    have hvl : v.length = d.inputs.length := by rw [hv] at hma; simp only [assV, Bool.and_eq_true, decide_eq_true_eq] at hma; exact hma.1
    have hh := hits_pure d v hs.2.2.1 (rows_sz hs hd hvl)
    simp only [decC] at hh
    by_cases q : (hitsL d v).length = 0
    · have hg : gapF d = some v := by
        rw [← hv] at q ⊢
        exact hI.some hi (by simp only [gapP, q]; simp)
      rw [hg, hv]
      ((try simp -implicitDefEqProofs [-loopQ_n]) <;> (repeat' (first | ((first | refine condD_dec ?_ ?_ | refine guardD_dec ?_ ?_) <;> (intro hc; (try simp -implicitDefEqProofs [-loopQ_n, hc]))))))
      rw [rngA_n]
      refine ⟨rfl, ?_⟩
      have hvl8 : v.length ≤ 1073741824 := by have := hs.1; omega
      by_cases hv0 : v = []
      · subst hv0
        ((try simp -implicitDefEqProofs [-loopQ_n, decC, q, vals_nil, allLen_nil, rngQ_r]) <;> (repeat' (first | ((first | refine condD_dec ?_ ?_ | refine guardD_dec ?_ ?_) <;> (intro hc; (try simp -implicitDefEqProofs [-loopQ_n, hc, decC, q, vals_nil, allLen_nil, rngQ_r]))) | (refine callS_mk ?_; (try simp -implicitDefEqProofs [-loopQ_n, decC, q, vals_nil, allLen_nil, rngQ_r]); (first | refine callS_intro (hh) (.inr ⟨rfl, rfl⟩) ?_); (try simp -implicitDefEqProofs [-loopQ_n, decC, q, vals_nil, allLen_nil, rngQ_r])))))
      · skip
        ((try simp -implicitDefEqProofs [-loopQ_n, decC, q, vals_all3, hv0, hvl8, rngQ_r, vals_reify]) <;> (repeat' (first | ((first | refine condD_dec ?_ ?_ | refine guardD_dec ?_ ?_) <;> (intro hc; (try simp -implicitDefEqProofs [-loopQ_n, hc, decC, q, vals_all3, hv0, hvl8, rngQ_r, vals_reify]))) | (refine callS_mk ?_; (try simp -implicitDefEqProofs [-loopQ_n, decC, q, vals_all3, hv0, hvl8, rngQ_r, vals_reify]); (first | refine callS_intro (hh) (.inr ⟨rfl, rfl⟩) ?_); (try simp -implicitDefEqProofs [-loopQ_n, decC, q, vals_all3, hv0, hvl8, rngQ_r, vals_reify])))))
    · have hp : gapP d (allA d.inputs)[i] = false := by rw [hv]; simp only [gapP, q]; simp
      have hI2 := hI.next hi hp
      rw [hv]
      ((try simp -implicitDefEqProofs [-loopQ_n]) <;> (repeat' (first | ((first | refine condD_dec ?_ ?_ | refine guardD_dec ?_ ?_) <;> (intro hc; (try simp -implicitDefEqProofs [-loopQ_n, hc]))))))
      rw [rngA_n]
      refine ⟨rfl, ?_⟩
      ((try simp -implicitDefEqProofs [-loopQ_n, decC, q]) <;> (repeat' (first | ((first | refine condD_dec ?_ ?_ | refine guardD_dec ?_ ?_) <;> (intro hc; (try simp -implicitDefEqProofs [-loopQ_n, hc, decC, q]))) | (refine callS_mk ?_; (try simp -implicitDefEqProofs [-loopQ_n, decC, q]); (first | refine callS_intro (hh) (.inr ⟨rfl, rfl⟩) ?_); (try simp -implicitDefEqProofs [-loopQ_n, decC, q])))))
      refine rng_next [] hI2 (weak_ofL 5 0 rfl (by simp) rfl ?_ ?_) <;> simp [decC]
  · have hg : gapF d = none := hI.none
    rw [hg]
    ((try simp -implicitDefEqProofs [-loopQ_n]) <;> (repeat' (first | ((first | refine condD_dec ?_ ?_ | refine guardD_dec ?_ ?_) <;> (intro hc; (try simp -implicitDefEqProofs [-loopQ_n, hc]))))))
end Go.Proofs.YthemglpccpjokaaGreat
namespace Go.Proofs.YthemglpccpjokaaGreat
open Go.RowKit
variable [Glob]
def curA (l : List Dom) (k : Nat) : AV := if k < (allA l).length then .rs (rowsOf valC ((allA l).getD k [])) else .rs []
def morA (l : List Dom) (k : Nat) : AV := .bool (decide (k < (allA l).length))
theorem curA_at {l : List Dom} {k : Nat} (h : k < (allA l).length) : curA l k = .rs (rowsOf valC (allA l)[k]) := by simp [curA, h]
theorem curA_end {l : List Dom} {k : Nat} (h : ¬ k < (allA l).length) : curA l k = .rs [] := by simp [curA, h]
theorem morA_at {l : List Dom} {k : Nat} (h : k < (allA l).length) : morA l k = .bool true := by simp [morA, h]
theorem morA_end {l : List Dom} {k : Nat} (h : ¬ k < (allA l).length) : morA l k = .bool false := by simp [morA, h]
theorem cur0 {l : List Dom} (h : ∀ x ∈ l, domV x = true) : curA l 0 = .rs (rowsOf valC (firstA l)) ∧ morA l 0 = .bool true := by
  have h1 := allA_ne h
  have h2 := allA_first h
  rw [List.getElem?_eq_getElem h1] at h2
  rw [curA_at h1, morA_at h1, Option.some.inj h2]
  exact ⟨rfl, rfl⟩
theorem cur_next {l : List Dom} (hl : l.length ≤ 1000000) (h : ∀ x ∈ l, domV x = true) {k : Nat} (hk : k < (allA l).length) : Pure Tryz.prog 26 [.rs (rowsOf domC l), .rs (rowsOf valC (allA l)[k])] (.tup [curA l (k + 1), morA l (k + 1)]) := by
  obtain ⟨hma, hmv⟩ := allA_mem h _ (List.getElem_mem hk)
  have hn := rnext_pure l (allA l)[k] hl h hmv hma
  have hx := allA_next h k hk
  by_cases g : k + 1 < (allA l).length
  · rw [List.getElem?_eq_getElem g] at hx
    rw [rnextO, hx] at hn
    rw [curA_at g, morA_at g]
    exact hn
  · rw [List.getElem?_eq_none (by omega)] at hx
    rw [rnextO, hx] at hn
    rw [curA_end g, morA_end g]
    exact hn
theorem curA_flat {l : List Dom} {k : Nat} : owns (curA l k) = false := by unfold curA; split <;> rfl
theorem curA_refs {l : List Dom} {k m : Nat} : refs m (curA l k) = true := by unfold curA; split <;> simp [vals_refs]
theorem morA_refs {l : List Dom} {k m : Nat} : refs m (morA l k) = true := rfl
theorem ass_len {l : List Dom} {v : List Val} (h : assV l v = true) : v.length = l.length := by simp only [assV, Bool.and_eq_true, decide_eq_true_eq] at h; exact h.1
set_option maxHeartbeats 16000000 in
theorem rgap_pure (d : Dec) (hs : szD d) : Pure Tryz.prog 13 [.agg (decC d)] (gapO d) := by
  have hse := rfault_pure d hs
  simp only [decC] at hse
  unfold gapO
  by_cases e : faultE d = 0
  rotate_left
  · rw [if_neg e]
    refine pure_of mixed Tryz.func13 rfl (by kernel_rfl) (of_decide_eq_true rfl) (by kernel_rfl) (vc_run ?_)
    ((try simp -implicitDefEqProofs [-loopQ_n, decC, e]) <;> (repeat' (first | ((first | refine condD_dec ?_ ?_ | refine guardD_dec ?_ ?_) <;> (intro hc; (try simp -implicitDefEqProofs [-loopQ_n, hc, decC, e]))) | (refine callS_mk ?_; (try simp -implicitDefEqProofs [-loopQ_n, decC, e]); (first | refine callS_intro (hse) (.inl rfl) ?_); (try simp -implicitDefEqProofs [-loopQ_n, decC, e])))))
  obtain ⟨hd, _⟩ := faultE_ok e
  have hdm := doms_mem (dec_facts hd).1
  have hfi := rfirst_pure d.inputs hs.1 hdm
  rw [if_pos e]
  rw [e] at hse
  refine pure_of mixed Tryz.func13 rfl (by kernel_rfl) (of_decide_eq_true rfl) (by kernel_rfl) (vc_run ?_)
  ((try simp -implicitDefEqProofs [-loopQ_n, decC]) <;> (repeat' (first | ((first | refine condD_dec ?_ ?_ | refine guardD_dec ?_ ?_) <;> (intro hc; (try simp -implicitDefEqProofs [-loopQ_n, hc, decC]))) | (refine callS_mk ?_; (try simp -implicitDefEqProofs [-loopQ_n, decC]); (first | refine callS_intro (hse) (.inl rfl) ?_ | refine callS_intro (hfi) (.inr ⟨rfl, rfl⟩) ?_); (try simp -implicitDefEqProofs [-loopQ_n, decC])))))
  refine loop_intro (σ := Nat) (fun k => ⟨[(1, .op 0 0), (6, curA d.inputs k), (7, morA d.inputs k)], [.box 29 (decC d)]⟩)
    (fun k => k ≤ (allA d.inputs).length ∧ NoneTo (gapP d) (allA d.inputs) k) (fun k => (allA d.inputs).length - k) 0 ⟨by simp, NoneTo.zero⟩ ?_ ?_
  · refine weak_of 1 0 rfl rfl ?_ ?_ <;> simp [decC, cur0 hdm]
  rintro i ⟨hi, hI⟩
  by_cases h : i < (allA d.inputs).length
  · obtain ⟨hma, hmv⟩ := allA_mem hdm _ (List.getElem_mem h)
    have hvl := ass_len hma
    have hh := rhits_pure d (allA d.inputs)[i] hs.2.2.1 (rows_sz hs hd hvl)
    have hnx := cur_next hs.1 hdm h
    simp only [decC] at hh
    by_cases q : (hitsL d (allA d.inputs)[i]).length = 0
    · have hg : gapF d = some (allA d.inputs)[i] := hI.some h (by simp only [gapP, q]; simp)
      rw [hg]
      ((try simp -implicitDefEqProofs [-loopQ_n, curA_at h, morA_at h, decC, q, vals_reify]) <;> (repeat' (first | ((first | refine condD_dec ?_ ?_ | refine guardD_dec ?_ ?_) <;> (intro hc; (try simp -implicitDefEqProofs [-loopQ_n, hc, curA_at h, morA_at h, decC, q, vals_reify]))) | (refine callS_mk ?_; (try simp -implicitDefEqProofs [-loopQ_n, curA_at h, morA_at h, decC, q, vals_reify]); (first | refine callS_intro (hh) (.inr ⟨rfl, rfl⟩) ?_); (try simp -implicitDefEqProofs [-loopQ_n, curA_at h, morA_at h, decC, q, vals_reify])))))
    · have hI2 := hI.next h (by simp only [gapP, q]; simp)
      ((try simp -implicitDefEqProofs [-loopQ_n, curA_at h, morA_at h, decC, q]) <;> (repeat' (first | ((first | refine condD_dec ?_ ?_ | refine guardD_dec ?_ ?_) <;> (intro hc; (try simp -implicitDefEqProofs [-loopQ_n, hc, curA_at h, morA_at h, decC, q]))) | (refine callS_mk ?_; (try simp -implicitDefEqProofs [-loopQ_n, curA_at h, morA_at h, decC, q]); (first | refine callS_intro (hh) (.inr ⟨rfl, rfl⟩) ?_ | refine callS_intro (hnx) (.inr ⟨rfl, rfl⟩) ?_); (try simp -implicitDefEqProofs [-loopQ_n, curA_at h, morA_at h, decC, q])))))
      refine loop_next (i + 1) ⟨by omega, hI2⟩ (by omega) (weak_of 1 0 rfl rfl ?_ ?_) <;> simp [decC, curA_refs, morA_refs]
  · have hg : gapF d = none := NoneTo.none (by rw [show (allA d.inputs).length = i by omega]; exact hI)
    rw [hg]
    ((try simp -implicitDefEqProofs [-loopQ_n, curA_end h, morA_end h]) <;> (repeat' (first | ((first | refine condD_dec ?_ ?_ | refine guardD_dec ?_ ?_) <;> (intro hc; (try simp -implicitDefEqProofs [-loopQ_n, hc, curA_end h, morA_end h]))))))
end Go.Proofs.YthemglpccpjokaaGreat
namespace Go.Proofs.YthemglpccpjokaaGreat
open Go.RowKit
variable [Glob]
def overP (d : Dec) (v : List Val) : Bool := decide (1 < (hitsL d v).length)
def overF (d : Dec) : Option (List Val) := (allA d.inputs).find? (overP d)
def overO (d : Dec) : AV := if faultE d = 0 then (match overF d with
    | some v => .tup [.rs (rowsOf valC v), .agg [.int .i64 ((hitsL d v).getD 0 0), .int .i64 ((hitsL d v).getD 1 0)], .bool true, .int .i64 0]
    | none => .tup [.rs [], .agg [.int .i64 0, .int .i64 0], .bool false, .int .i64 0]) else .tup [.rs [], .agg [.int .i64 0, .int .i64 0], .bool false, .int .i64 (faultE d)]
set_option maxHeartbeats 16000000 in
theorem rover_pure (d : Dec) (hs : szD d) : Pure Tryz.prog 15 [.agg (decC d)] (overO d) := by
  have hse := rfault_pure d hs
  simp only [decC] at hse
  unfold overO
  by_cases e : faultE d = 0
  rotate_left
  · rw [if_neg e]
    refine pure_of mixed Tryz.func15 rfl (by kernel_rfl) (of_decide_eq_true rfl) (by kernel_rfl) (vc_run ?_)
    ((try simp -implicitDefEqProofs [-loopQ_n, decC, e]) <;> (repeat' (first | ((first | refine condD_dec ?_ ?_ | refine guardD_dec ?_ ?_) <;> (intro hc; (try simp -implicitDefEqProofs [-loopQ_n, hc, decC, e]))) | (refine callS_mk ?_; (try simp -implicitDefEqProofs [-loopQ_n, decC, e]); (first | refine callS_intro (hse) (.inl rfl) ?_); (try simp -implicitDefEqProofs [-loopQ_n, decC, e])))))
  obtain ⟨hd, _⟩ := faultE_ok e
  have hdm := doms_mem (dec_facts hd).1
  have hfi := rfirst_pure d.inputs hs.1 hdm
  rw [if_pos e]
  rw [e] at hse
  refine pure_of mixed Tryz.func15 rfl (by kernel_rfl) (of_decide_eq_true rfl) (by kernel_rfl) (vc_run ?_)
  ((try simp -implicitDefEqProofs [-loopQ_n, decC]) <;> (repeat' (first | ((first | refine condD_dec ?_ ?_ | refine guardD_dec ?_ ?_) <;> (intro hc; (try simp -implicitDefEqProofs [-loopQ_n, hc, decC]))) | (refine callS_mk ?_; (try simp -implicitDefEqProofs [-loopQ_n, decC]); (first | refine callS_intro (hse) (.inl rfl) ?_ | refine callS_intro (hfi) (.inr ⟨rfl, rfl⟩) ?_); (try simp -implicitDefEqProofs [-loopQ_n, decC])))))
  refine loop_intro (σ := Nat) (fun k => ⟨[(1, .op 0 0), (3, .op 1 0), (7, curA d.inputs k), (8, morA d.inputs k)], [.box 29 (decC d), .box 37 [.int .i64 0, .int .i64 0]]⟩)
    (fun k => k ≤ (allA d.inputs).length ∧ NoneTo (overP d) (allA d.inputs) k) (fun k => (allA d.inputs).length - k) 0 ⟨by simp, NoneTo.zero⟩ ?_ ?_
  · refine weak_of 2 0 rfl rfl ?_ ?_ <;> simp [decC, cur0 hdm]
  rintro i ⟨hi, hI⟩
  by_cases h : i < (allA d.inputs).length
  · obtain ⟨hma, hmv⟩ := allA_mem hdm _ (List.getElem_mem h)
    have hvl := ass_len hma
    have hh := rhits_pure d (allA d.inputs)[i] hs.2.2.1 (rows_sz hs hd hvl)
    have hnx := cur_next hs.1 hdm h
    simp only [decC] at hh
    by_cases q : 1 < (hitsL d (allA d.inputs)[i]).length
    · have hg : overF d = some (allA d.inputs)[i] := hI.some h (by simp only [overP, q]; simp)
      rw [hg]
      obtain ⟨a, b, r, hab⟩ : ∃ a b r, hitsL d (allA d.inputs)[i] = a :: b :: r := by
        match hx : hitsL d (allA d.inputs)[i] with
        | [] => rw [hx] at q; simp at q
        | [a] => rw [hx] at q; simp at q
        | a :: b :: r => exact ⟨a, b, r, rfl⟩
      rw [hab] at hh
      simp only [hab]
      have q1 : (1 : Int) < r.length + 1 + 1 := by omega
      ((try simp -implicitDefEqProofs [-loopQ_n, curA_at h, morA_at h, decC, q1, intC, vals_reify]) <;> (repeat' (first | ((first | refine condD_dec ?_ ?_ | refine guardD_dec ?_ ?_) <;> (intro hc; (try simp -implicitDefEqProofs [-loopQ_n, hc, curA_at h, morA_at h, decC, q1, intC, vals_reify]))) | (refine callS_mk ?_; (try simp -implicitDefEqProofs [-loopQ_n, curA_at h, morA_at h, decC, q1, intC, vals_reify]); (first | refine callS_intro (hh) (.inr ⟨rfl, rfl⟩) ?_); (try simp -implicitDefEqProofs [-loopQ_n, curA_at h, morA_at h, decC, q1, intC, vals_reify])))))
    · have hI2 := hI.next h (by simp only [overP, q]; simp)
      have q' : ¬ (1 : Int) < (hitsL d (allA d.inputs)[i]).length := by omega
      ((try simp -implicitDefEqProofs [-loopQ_n, curA_at h, morA_at h, decC, q']) <;> (repeat' (first | ((first | refine condD_dec ?_ ?_ | refine guardD_dec ?_ ?_) <;> (intro hc; (try simp -implicitDefEqProofs [-loopQ_n, hc, curA_at h, morA_at h, decC, q']))) | (refine callS_mk ?_; (try simp -implicitDefEqProofs [-loopQ_n, curA_at h, morA_at h, decC, q']); (first | refine callS_intro (hh) (.inr ⟨rfl, rfl⟩) ?_ | refine callS_intro (hnx) (.inr ⟨rfl, rfl⟩) ?_); (try simp -implicitDefEqProofs [-loopQ_n, curA_at h, morA_at h, decC, q'])))))
      refine loop_next (i + 1) ⟨by omega, hI2⟩ (by omega) (weak_of 2 0 rfl rfl ?_ ?_) <;> simp [decC, curA_refs, morA_refs]
  · have hg : overF d = none := NoneTo.none (by rw [show (allA d.inputs).length = i by omega]; exact hI)
    rw [hg]
    ((try simp -implicitDefEqProofs [-loopQ_n, curA_end h, morA_end h]) <;> (repeat' (first | ((first | refine condD_dec ?_ ?_ | refine guardD_dec ?_ ?_) <;> (intro hc; (try simp -implicitDefEqProofs [-loopQ_n, hc, curA_end h, morA_end h]))))))
set_option maxHeartbeats 16000000 in
theorem over_pure (d : Dec) (hs : szD d) : Pure Tryz.prog 14 [.agg (decC d)] (overO d) := by
  have hse := searchable_pure d hs
  simp only [decC] at hse
  unfold overO
  by_cases e : faultE d = 0
  rotate_left
  · rw [if_neg e]
    refine pure_M [8] mixed Tryz.func14 rfl (by kernel_rfl) (of_decide_eq_true rfl) (by kernel_rfl) (vc_run ?_)
    ((try simp -implicitDefEqProofs [-loopQ_n, decC, e]) <;> (repeat' (first | ((first | refine condD_dec ?_ ?_ | refine guardD_dec ?_ ?_) <;> (intro hc; (try simp -implicitDefEqProofs [-loopQ_n, hc, decC, e]))) | (refine callS_mk ?_; (try simp -implicitDefEqProofs [-loopQ_n, decC, e]); (first | refine callS_intro (hse) (.inl rfl) ?_); (try simp -implicitDefEqProofs [-loopQ_n, decC, e])))))
  obtain ⟨hd, _⟩ := faultE_ok e
  have hdm := (dec_facts hd).1
  rw [if_pos e]
  rw [e] at hse
  refine pure_M [8] mixed Tryz.func14 rfl (by kernel_rfl) (of_decide_eq_true rfl) (by kernel_rfl) (vc_run ?_)
  ((try simp -implicitDefEqProofs [-loopQ_n, decC]) <;> (repeat' (first | ((first | refine condD_dec ?_ ?_ | refine guardD_dec ?_ ?_) <;> (intro hc; (try simp -implicitDefEqProofs [-loopQ_n, hc, decC]))) | (refine callS_mk ?_; (try simp -implicitDefEqProofs [-loopQ_n, decC]); (first | refine callS_intro (hse) (.inl rfl) ?_); (try simp -implicitDefEqProofs [-loopQ_n, decC])))))
  refine inl_intro mixed Tryz.func52 rfl (by kernel_rfl) (of_decide_eq_true rfl) (by kernel_rfl) ?_
  ((try simp -implicitDefEqProofs [-loopQ_n]) <;> (repeat' (first | ((first | refine condD_dec ?_ ?_ | refine guardD_dec ?_ ?_) <;> (intro hc; (try simp -implicitDefEqProofs [-loopQ_n, hc]))))))
  refine endG_r (.fn 96 [.op 5 0]) (by simp) ?_
  simp -implicitDefEqProofs [contK]
  ((try simp -implicitDefEqProofs [-loopQ_n]) <;> (repeat' (first | ((first | refine condD_dec ?_ ?_ | refine guardD_dec ?_ ?_) <;> (intro hc; (try simp -implicitDefEqProofs [-loopQ_n, hc]))))))
  refine rngD_weak (s' := ⟨[(1, .op 0 0), (2, .op 1 0), (3, .op 2 0), (4, .op 3 0), (5, .op 4 0), (17, .fn 96 [.rp [.rs (rowsOf domC d.inputs)]])], [.box 29 (decC d), .box 27 [.nils], .box 37 [.int .i64 0, .int .i64 0], .box 4 [.bool false], .box 32 [.int .i64 0], .gone]⟩) ((weak_frb 5 22 [.rs (rowsOf domC d.inputs)] rfl (by simp)).trans (weak_of 6 0 rfl rfl (by simp [fbA, fbL]) (by simp [fbH, fbB, fbL, fbA, decC]))) ?_
  refine range_intro mixed rfl rfl (all_iter d.inputs hdm hs.1) (NoneTo (overP d) (allA d.inputs)) (fun _ => [.box 29 (decC d), .box 27 [.nils], .box 37 [.int .i64 0, .int .i64 0], .box 4 [.bool false], .box 32 [.int .i64 0], .gone]) NoneTo.zero rfl (fun _ => rfl) (by kernel_rfl) (by kernel_rfl) (fun i hi hI => ?_) fun hI => ?_
  · obtain ⟨hma, hmv⟩ := allA_mem (doms_mem hdm) _ (List.getElem_mem hi)
    rw [asgA_at hi]
    obtain ⟨v, hv⟩ : ∃ e, (allA d.inputs)[i] = e := ⟨_, rfl⟩
    have hvl : v.length = d.inputs.length := by rw [hv] at hma; exact ass_len hma
    have hh := hits_pure d v hs.2.2.1 (rows_sz hs hd hvl)
    simp only [decC] at hh
    by_cases q : 1 < (hitsL d v).length
    · have hg : overF d = some v := by
        rw [← hv] at q ⊢
        exact hI.some hi (by simp only [overP, q]; simp)
      rw [hg, hv]
      obtain ⟨a, b, r, hab⟩ : ∃ a b r, hitsL d v = a :: b :: r := by
        match hx : hitsL d v with
        | [] => rw [hx] at q; simp at q
        | [a] => rw [hx] at q; simp at q
        | a :: b :: r => exact ⟨a, b, r, rfl⟩
      rw [hab] at hh
      simp only [hab]
      have q1 : (1 : Int) < r.length + 1 + 1 := by omega
      ((try simp -implicitDefEqProofs [-loopQ_n]) <;> (repeat' (first | ((first | refine condD_dec ?_ ?_ | refine guardD_dec ?_ ?_) <;> (intro hc; (try simp -implicitDefEqProofs [-loopQ_n, hc]))))))
      rw [rngA_n]
      refine ⟨rfl, ?_⟩
      have hvl8 : v.length ≤ 1073741824 := by have := hs.1; omega
      by_cases hv0 : v = []
      · subst hv0
        ((try simp -implicitDefEqProofs [-loopQ_n, decC, q1, intC, vals_nil, allLen_nil, rngQ_r]) <;> (repeat' (first | ((first | refine condD_dec ?_ ?_ | refine guardD_dec ?_ ?_) <;> (intro hc; (try simp -implicitDefEqProofs [-loopQ_n, hc, decC, q1, intC, vals_nil, allLen_nil, rngQ_r]))) | ((first | (refine ld2_op ?_ ?_; (focus kernel_rfl)) | (refine ld2_ep ?_ ?_; (focus kernel_rfl)) | (refine nbx_intro ?_ ?_; (focus kernel_rfl)) | (refine nbx_fin ?_; (focus kernel_rfl)) | (refine callS_mk ?_; (try simp -implicitDefEqProofs [-loopQ_n, decC, q1, intC, vals_nil, allLen_nil, rngQ_r]); (first | refine callS_intro (hh) (.inr ⟨rfl, rfl⟩) ?_))); (try simp -implicitDefEqProofs [-loopQ_n, decC, q1, intC, vals_nil, allLen_nil, rngQ_r])))))
      · skip
        ((try simp -implicitDefEqProofs [-loopQ_n, decC, q1, intC, vals_all3, hv0, hvl8, rngQ_r, vals_reify]) <;> (repeat' (first | ((first | refine condD_dec ?_ ?_ | refine guardD_dec ?_ ?_) <;> (intro hc; (try simp -implicitDefEqProofs [-loopQ_n, hc, decC, q1, intC, vals_all3, hv0, hvl8, rngQ_r, vals_reify]))) | ((first | (refine ld2_op ?_ ?_; (focus kernel_rfl)) | (refine ld2_ep ?_ ?_; (focus kernel_rfl)) | (refine nbx_intro ?_ ?_; (focus kernel_rfl)) | (refine nbx_fin ?_; (focus kernel_rfl)) | (refine callS_mk ?_; (try simp -implicitDefEqProofs [-loopQ_n, decC, q1, intC, vals_all3, hv0, hvl8, rngQ_r, vals_reify]); (first | refine callS_intro (hh) (.inr ⟨rfl, rfl⟩) ?_))); (try simp -implicitDefEqProofs [-loopQ_n, decC, q1, intC, vals_all3, hv0, hvl8, rngQ_r, vals_reify])))))
    · have hI2 := hI.next hi (by rw [hv]; simp only [overP, q]; simp)
      have q' : ¬ (1 : Int) < (hitsL d v).length := by omega
      rw [hv]
      ((try simp -implicitDefEqProofs [-loopQ_n]) <;> (repeat' (first | ((first | refine condD_dec ?_ ?_ | refine guardD_dec ?_ ?_) <;> (intro hc; (try simp -implicitDefEqProofs [-loopQ_n, hc]))))))
      rw [rngA_n]
      refine ⟨rfl, ?_⟩
      ((try simp -implicitDefEqProofs [-loopQ_n, decC, q']) <;> (repeat' (first | ((first | refine condD_dec ?_ ?_ | refine guardD_dec ?_ ?_) <;> (intro hc; (try simp -implicitDefEqProofs [-loopQ_n, hc, decC, q']))) | (refine callS_mk ?_; (try simp -implicitDefEqProofs [-loopQ_n, decC, q']); (first | refine callS_intro (hh) (.inr ⟨rfl, rfl⟩) ?_); (try simp -implicitDefEqProofs [-loopQ_n, decC, q'])))))
      refine rng_next [] hI2 (weak_ofL 6 0 rfl (by simp) rfl ?_ ?_) <;> simp [decC]
  · have hg : overF d = none := hI.none
    rw [hg]
    ((try simp -implicitDefEqProofs [-loopQ_n]) <;> (repeat' (first | ((first | refine condD_dec ?_ ?_ | refine guardD_dec ?_ ?_) <;> (intro hc; (try simp -implicitDefEqProofs [-loopQ_n, hc]))))))
end Go.Proofs.YthemglpccpjokaaGreat
namespace Go.Proofs.YthemglpccpjokaaGreat
open Go.RowKit
variable [Glob]
theorem take_step {α : Type} {a b : List α} {i : Nat} (h : i < a.length) (h2 : i < b.length) (ht : a.take i = b.take i) : (a[i] = b[i] → a.take (i + 1) = b.take (i + 1)) ∧ (a[i] ≠ b[i] → a ≠ b) :=
  ⟨fun e => by rw [List.take_succ_eq_append_getElem h, List.take_succ_eq_append_getElem h2, ht, e], fun e q => e (by subst q; rfl)⟩
theorem take_end {α : Type} {a b : List α} {i : Nat} (h : ¬ i < a.length) (hl : a.length = b.length) (ht : a.take i = b.take i) : a = b := by
  rwa [List.take_of_length_le (by omega), List.take_of_length_le (by omega)] at ht
theorem len_ne {α : Type} {a b : List α} (h : ¬ a.length = b.length) : a ≠ b := fun e => h (by rw [e])
set_option maxHeartbeats 4000000 in
theorem veq_pure (a b : List Val) (ha : a.length ≤ 1000000) (hb : b.length ≤ 1000000) : Pure Tryz.prog 18 [.rs (rowsOf valC a), .rs (rowsOf valC b)] (.bool (decide (a = b))) := by
  by_cases hlen : a.length = b.length
  rotate_left
  · have hl2 : ¬ (a.length : Int) = b.length := by omega
    rw [decide_eq_false (len_ne hlen)]
    refine pure_of mixed Tryz.func18 rfl (by kernel_rfl) (of_decide_eq_true rfl) (by kernel_rfl) (vc_run ?_)
    ((try simp -implicitDefEqProofs [-loopQ_n, hl2]) <;> (repeat' (first | ((first | refine condD_dec ?_ ?_ | refine guardD_dec ?_ ?_) <;> (intro hc; (try simp -implicitDefEqProofs [-loopQ_n, hc, hl2]))) | ((first | refine condD_intro ?_ ?_ | refine guardD_intro ?_ ?_) <;> (intro hd; have hc := hd; (try simp at hc) <;> (try simp -implicitDefEqProofs [-loopQ_n, hd, hc, hl2]))) | (refine ldD_ep ?_ ?_; (focus kernel_rfl); (try simp -implicitDefEqProofs [-loopQ_n, hl2])))))
  have hl2 : (a.length : Int) = b.length := by omega
  refine pure_of mixed Tryz.func18 rfl (by kernel_rfl) (of_decide_eq_true rfl) (by kernel_rfl) (vc_run ?_)
  ((try simp -implicitDefEqProofs [-loopQ_n, hl2]) <;> (repeat' (first | ((first | refine condD_dec ?_ ?_ | refine guardD_dec ?_ ?_) <;> (intro hc; (try simp -implicitDefEqProofs [-loopQ_n, hc, hl2]))) | ((first | refine condD_intro ?_ ?_ | refine guardD_intro ?_ ?_) <;> (intro hd; have hc := hd; (try simp at hc) <;> (try simp -implicitDefEqProofs [-loopQ_n, hd, hc, hl2]))) | (refine ldD_ep ?_ ?_; (focus kernel_rfl); (try simp -implicitDefEqProofs [-loopQ_n, hl2])))))
  refine loop_intro (σ := Nat) (fun i => ⟨[(0, .rs (rowsOf valC a)), (1, .rs (rowsOf valC b)), (12, .int .i64 b.length), (13, .int .i64 i)], []⟩) (fun i => i ≤ b.length ∧ a.take i = b.take i) (fun i => b.length - i) 0 (by simp) ?_ ?_
  · refine weak_of 0 0 rfl rfl ?_ ?_ <;> simp [hl2]
  rintro i ⟨hi, ht⟩
  by_cases h : i < b.length
  · have h2 : i < a.length := by omega
    have w1 : wrapI .i64 ((i : Int) + 1) = ((i + 1 : Nat) : Int) := by rw [wrap_in (by omega) (by omega)]; omega
    obtain ⟨hts, hne⟩ := take_step h2 h ht
    obtain ⟨x, hx⟩ : ∃ x, a[i] = x := ⟨_, rfl⟩
    obtain ⟨y, hy⟩ : ∃ y, b[i] = y := ⟨_, rfl⟩
    rw [hx, hy] at hts hne
    by_cases c1 : x = y
    · subst c1
      ((try simp -implicitDefEqProofs [-loopQ_n, h, h2, hx, hy, valC, w1]) <;> (repeat' (first | ((first | refine condD_dec ?_ ?_ | refine guardD_dec ?_ ?_) <;> (intro hc; (try simp -implicitDefEqProofs [-loopQ_n, hc, h, h2, hx, hy, valC, w1]))) | ((first | refine condD_intro ?_ ?_ | refine guardD_intro ?_ ?_) <;> (intro hd; have hc := hd; (try simp at hc) <;> (try simp -implicitDefEqProofs [-loopQ_n, hd, hc, h, h2, hx, hy, valC, w1]))) | (refine ldD_ep ?_ ?_; (focus kernel_rfl); (try simp -implicitDefEqProofs [-loopQ_n, h, h2, hx, hy, valC, w1])))))
      refine loop_next (i + 1) ⟨h, hts rfl⟩ (by omega) (weak_of 0 0 rfl rfl ?_ ?_) <;> simp
    · rw [decide_eq_false (hne c1)]
      have hv := val_ne c1
      ((try simp -implicitDefEqProofs [-loopQ_n, h, h2, hx, hy, valC, w1]) <;> (repeat' (first | ((first | refine condD_dec ?_ ?_ | refine guardD_dec ?_ ?_) <;> (intro hc; (try simp -implicitDefEqProofs [-loopQ_n, hc, h, h2, hx, hy, valC, w1]))) | ((first | refine condD_intro ?_ ?_ | refine guardD_intro ?_ ?_) <;> (intro hd; have hc := hd; (try simp at hc) <;> (try simp -implicitDefEqProofs [-loopQ_n, hd, hc, h, h2, hx, hy, valC, w1]))) | (refine ldD_ep ?_ ?_; (focus kernel_rfl); (try simp -implicitDefEqProofs [-loopQ_n, h, h2, hx, hy, valC, w1])))))
      all_goals first | exact absurd hc hv | skip
  · rw [decide_eq_true (take_end (by omega) hlen ht)]
    ((try simp -implicitDefEqProofs [-loopQ_n, h]) <;> (repeat' (first | ((first | refine condD_dec ?_ ?_ | refine guardD_dec ?_ ?_) <;> (intro hc; (try simp -implicitDefEqProofs [-loopQ_n, hc, h]))) | ((first | refine condD_intro ?_ ?_ | refine guardD_intro ?_ ?_) <;> (intro hd; have hc := hd; (try simp at hc) <;> (try simp -implicitDefEqProofs [-loopQ_n, hd, hc, h]))) | (refine ldD_ep ?_ ?_; (focus kernel_rfl); (try simp -implicitDefEqProofs [-loopQ_n, h])))))
set_option maxHeartbeats 4000000 in
theorem rsame_pure (a b : List Val) (ha : a.length ≤ 1000000) (hb : b.length ≤ 1000000) : Pure Tryz.prog 72 [.rs (rowsOf valC a), .rs (rowsOf valC b)] (.bool (decide (a = b))) := by
  by_cases hlen : a.length = b.length
  rotate_left
  · have hl2 : ¬ (a.length : Int) = b.length := by omega
    rw [decide_eq_false (len_ne hlen)]
    refine pure_of mixed Tryz.func72 rfl (by kernel_rfl) (of_decide_eq_true rfl) (by kernel_rfl) (vc_run ?_)
    ((try simp -implicitDefEqProofs [-loopQ_n, hl2]) <;> (repeat' (first | ((first | refine condD_dec ?_ ?_ | refine guardD_dec ?_ ?_) <;> (intro hc; (try simp -implicitDefEqProofs [-loopQ_n, hc, hl2]))) | ((first | refine condD_intro ?_ ?_ | refine guardD_intro ?_ ?_) <;> (intro hd; have hc := hd; (try simp at hc) <;> (try simp -implicitDefEqProofs [-loopQ_n, hd, hc, hl2]))) | (refine ldD_ep ?_ ?_; (focus kernel_rfl); (try simp -implicitDefEqProofs [-loopQ_n, hl2])))))
  have hl2 : (a.length : Int) = b.length := by omega
  refine pure_of mixed Tryz.func72 rfl (by kernel_rfl) (of_decide_eq_true rfl) (by kernel_rfl) (vc_run ?_)
  ((try simp -implicitDefEqProofs [-loopQ_n, hl2]) <;> (repeat' (first | ((first | refine condD_dec ?_ ?_ | refine guardD_dec ?_ ?_) <;> (intro hc; (try simp -implicitDefEqProofs [-loopQ_n, hc, hl2]))) | ((first | refine condD_intro ?_ ?_ | refine guardD_intro ?_ ?_) <;> (intro hd; have hc := hd; (try simp at hc) <;> (try simp -implicitDefEqProofs [-loopQ_n, hd, hc, hl2]))) | (refine ldD_ep ?_ ?_; (focus kernel_rfl); (try simp -implicitDefEqProofs [-loopQ_n, hl2])))))
  refine loop_intro (σ := Nat) (fun i => ⟨[(0, .rs (rowsOf valC a)), (1, .rs (rowsOf valC b)), (5, .int .i64 i)], []⟩) (fun i => i ≤ b.length ∧ a.take i = b.take i) (fun i => b.length - i) 0 (by simp) ?_ ?_
  · refine weak_of 0 0 rfl rfl ?_ ?_ <;> simp [hl2]
  rintro i ⟨hi, ht⟩
  by_cases h : i < b.length
  · have h2 : i < a.length := by omega
    have w1 : wrapI .i64 ((i : Int) + 1) = ((i + 1 : Nat) : Int) := by rw [wrap_in (by omega) (by omega)]; omega
    obtain ⟨hts, hne⟩ := take_step h2 h ht
    obtain ⟨x, hx⟩ : ∃ x, a[i] = x := ⟨_, rfl⟩
    obtain ⟨y, hy⟩ : ∃ y, b[i] = y := ⟨_, rfl⟩
    rw [hx, hy] at hts hne
    by_cases c1 : x = y
    · subst c1
      ((try simp -implicitDefEqProofs [-loopQ_n, h, h2, hx, hy, valC, w1]) <;> (repeat' (first | ((first | refine condD_dec ?_ ?_ | refine guardD_dec ?_ ?_) <;> (intro hc; (try simp -implicitDefEqProofs [-loopQ_n, hc, h, h2, hx, hy, valC, w1]))) | ((first | refine condD_intro ?_ ?_ | refine guardD_intro ?_ ?_) <;> (intro hd; have hc := hd; (try simp at hc) <;> (try simp -implicitDefEqProofs [-loopQ_n, hd, hc, h, h2, hx, hy, valC, w1]))) | (refine ldD_ep ?_ ?_; (focus kernel_rfl); (try simp -implicitDefEqProofs [-loopQ_n, h, h2, hx, hy, valC, w1])))))
      refine loop_next (i + 1) ⟨h, hts rfl⟩ (by omega) (weak_of 0 0 rfl rfl ?_ ?_) <;> simp
    · rw [decide_eq_false (hne c1)]
      have hv := val_ne c1
      ((try simp -implicitDefEqProofs [-loopQ_n, h, h2, hx, hy, valC, w1]) <;> (repeat' (first | ((first | refine condD_dec ?_ ?_ | refine guardD_dec ?_ ?_) <;> (intro hc; (try simp -implicitDefEqProofs [-loopQ_n, hc, h, h2, hx, hy, valC, w1]))) | ((first | refine condD_intro ?_ ?_ | refine guardD_intro ?_ ?_) <;> (intro hd; have hc := hd; (try simp at hc) <;> (try simp -implicitDefEqProofs [-loopQ_n, hd, hc, h, h2, hx, hy, valC, w1]))) | (refine ldD_ep ?_ ?_; (focus kernel_rfl); (try simp -implicitDefEqProofs [-loopQ_n, h, h2, hx, hy, valC, w1])))))
      all_goals first | exact absurd hc hv | skip
  · rw [decide_eq_true (take_end (by omega) hlen ht)]
    have h2 : ¬ i < a.length := by omega
    ((try simp -implicitDefEqProofs [-loopQ_n, h2]) <;> (repeat' (first | ((first | refine condD_dec ?_ ?_ | refine guardD_dec ?_ ?_) <;> (intro hc; (try simp -implicitDefEqProofs [-loopQ_n, hc, h2]))) | ((first | refine condD_intro ?_ ?_ | refine guardD_intro ?_ ?_) <;> (intro hd; have hc := hd; (try simp at hc) <;> (try simp -implicitDefEqProofs [-loopQ_n, hd, hc, h2]))) | (refine ldD_ep ?_ ?_; (focus kernel_rfl); (try simp -implicitDefEqProofs [-loopQ_n, h2])))))
theorem str_eq {a b : ByteArray} : a.toList = b.toList ↔ a = b := ⟨fun e => ba_eq (by rw [← ba_toList, ← ba_toList]; exact e), fun e => by rw [e]⟩
end Go.Proofs.YthemglpccpjokaaGreat
namespace Go.Proofs.YthemglpccpjokaaGreat
open Go.RowKit
variable [Glob]
def diffP (a b : Dec) (v : List Val) : Bool := decide (outD a v ≠ outD b v)
theorem differA_eq (a b : Dec) : differA a b = (allA a.inputs).find? (diffP a b) := rfl
def differO (a b : Dec) : AV := match differA a b with | some v => .tup [.rs (rowsOf valC v), .bool true] | none => .tup [.rs [], .bool false]
theorem fold_len {hit : Int} {order : List Val} : ∀ (r : List Val) (b : Val), (foldO hit order b r).1.length ≤ 1
  | [], b => by simp [foldO]
  | x :: r, b => by
    simp only [foldO]
    repeat' split
    all_goals first | exact fold_len r _ | simp
theorem out_len {d : Dec} (h : decV d = true) (v : List Val) : (outD d v).1.length ≤ 60 := by
  have h1 := outs_le d v
  have h2 := (dec_facts h).2.2.2.2.1
  unfold outD outR
  repeat' split
  all_goals first | (simp only; omega) | (simp; done) | skip
  rename_i b r _
  have := fold_len (hit := d.hit) (order := d.order) r b
  omega
set_option maxHeartbeats 16000000 in
theorem rdiffer_pure (a b : Dec) (ha : szD a) (hb : szD b) (da : decV a = true) (db : decV b = true) (hin : b.inputs = a.inputs) : Pure Tryz.prog 69 [.agg (decC a), .agg (decC b)] (differO a b) := by
  have hdm := doms_mem (dec_facts da).1
  have hfi := rfirst_pure a.inputs ha.1 hdm
  unfold differO
  refine pure_of mixed Tryz.func69 rfl (by kernel_rfl) (of_decide_eq_true rfl) (by kernel_rfl) (vc_run ?_)
  ((try simp -implicitDefEqProofs [-loopQ_n, decC]) <;> (repeat' (first | ((first | refine condD_dec ?_ ?_ | refine guardD_dec ?_ ?_) <;> (intro hc; (try simp -implicitDefEqProofs [-loopQ_n, hc, decC]))) | (refine callS_mk ?_; (try simp -implicitDefEqProofs [-loopQ_n, decC]); (first | refine callS_intro (hfi) (.inr ⟨rfl, rfl⟩) ?_); (try simp -implicitDefEqProofs [-loopQ_n, decC])))))
  refine loop_intro (σ := Nat) (fun k => ⟨[(2, .op 0 0), (3, .op 1 0), (6, curA a.inputs k), (7, morA a.inputs k)], [.box 29 (decC a), .box 29 (decC b)]⟩)
    (fun k => k ≤ (allA a.inputs).length ∧ NoneTo (diffP a b) (allA a.inputs) k) (fun k => (allA a.inputs).length - k) 0 ⟨by simp, NoneTo.zero⟩ ?_ ?_
  · refine weak_of 2 0 rfl rfl ?_ ?_ <;> simp [decC, cur0 hdm]
  rintro i ⟨hi, hI⟩
  by_cases h : i < (allA a.inputs).length
  · obtain ⟨hma, hmv⟩ := allA_mem hdm _ (List.getElem_mem h)
    have hvl := ass_len hma
    have hoa := routcome_pure a (allA a.inputs)[i] ha da hvl
    have hob := routcome_pure b (allA a.inputs)[i] hb db (by rw [hvl, hin])
    have hnx := cur_next ha.1 hdm h
    have hla := out_len da (allA a.inputs)[i]
    have hlb := out_len db (allA a.inputs)[i]
    have hP : diffP a b (allA a.inputs)[i] = decide (outD a (allA a.inputs)[i] ≠ outD b (allA a.inputs)[i]) := rfl
    obtain ⟨⟨X, e⟩, hx⟩ : ∃ x, outD a (allA a.inputs)[i] = x := ⟨_, rfl⟩
    obtain ⟨⟨Y, f⟩, hy⟩ : ∃ x, outD b (allA a.inputs)[i] = x := ⟨_, rfl⟩
    rw [hx] at hoa hla hP
    rw [hy] at hob hlb hP
    simp only [decC, outA] at hoa hob
    simp only at hla hlb
    have he := rsame_pure X Y (by omega) (by omega)
    by_cases q1 : e = f
    · by_cases q2 : X = Y
      · have hI2 := hI.next h (by rw [hP]; simp [q1, q2])
        rw [decide_eq_true q2] at he
        ((try simp -implicitDefEqProofs [-loopQ_n, curA_at h, morA_at h, decC, q1]) <;> (repeat' (first | ((first | refine condD_dec ?_ ?_ | refine guardD_dec ?_ ?_) <;> (intro hc; (try simp -implicitDefEqProofs [-loopQ_n, hc, curA_at h, morA_at h, decC, q1]))) | (refine callS_mk ?_; (try simp -implicitDefEqProofs [-loopQ_n, curA_at h, morA_at h, decC, q1]); (first | refine callS_intro (hoa) (.inr ⟨rfl, rfl⟩) ?_ | refine callS_intro (hob) (.inr ⟨rfl, rfl⟩) ?_ | refine callS_intro (he) (.inl rfl) ?_ | refine callS_intro (hnx) (.inr ⟨rfl, rfl⟩) ?_); (try simp -implicitDefEqProofs [-loopQ_n, curA_at h, morA_at h, decC, q1])))))
        refine loop_next (i + 1) ⟨by omega, hI2⟩ (by omega) (weak_of 2 0 rfl rfl ?_ ?_) <;> simp [decC, curA_refs, morA_refs]
      · have hg : differA a b = some (allA a.inputs)[i] := hI.some h (by rw [hP]; simp [q1, q2])
        rw [hg]
        rw [decide_eq_false q2] at he
        ((try simp -implicitDefEqProofs [-loopQ_n, curA_at h, morA_at h, decC, q1, vals_reify]) <;> (repeat' (first | ((first | refine condD_dec ?_ ?_ | refine guardD_dec ?_ ?_) <;> (intro hc; (try simp -implicitDefEqProofs [-loopQ_n, hc, curA_at h, morA_at h, decC, q1, vals_reify]))) | (refine callS_mk ?_; (try simp -implicitDefEqProofs [-loopQ_n, curA_at h, morA_at h, decC, q1, vals_reify]); (first | refine callS_intro (hoa) (.inr ⟨rfl, rfl⟩) ?_ | refine callS_intro (hob) (.inr ⟨rfl, rfl⟩) ?_ | refine callS_intro (he) (.inl rfl) ?_); (try simp -implicitDefEqProofs [-loopQ_n, curA_at h, morA_at h, decC, q1, vals_reify])))))
    · have hg : differA a b = some (allA a.inputs)[i] := hI.some h (by rw [hP]; simp [q1])
      rw [hg]
      ((try simp -implicitDefEqProofs [-loopQ_n, curA_at h, morA_at h, decC, q1, vals_reify]) <;> (repeat' (first | ((first | refine condD_dec ?_ ?_ | refine guardD_dec ?_ ?_) <;> (intro hc; (try simp -implicitDefEqProofs [-loopQ_n, hc, curA_at h, morA_at h, decC, q1, vals_reify]))) | (refine callS_mk ?_; (try simp -implicitDefEqProofs [-loopQ_n, curA_at h, morA_at h, decC, q1, vals_reify]); (first | refine callS_intro (hoa) (.inr ⟨rfl, rfl⟩) ?_ | refine callS_intro (hob) (.inr ⟨rfl, rfl⟩) ?_); (try simp -implicitDefEqProofs [-loopQ_n, curA_at h, morA_at h, decC, q1, vals_reify])))))
  · have hg : differA a b = none := NoneTo.none (by rw [show (allA a.inputs).length = i by omega]; exact hI)
    rw [hg]
    ((try simp -implicitDefEqProofs [-loopQ_n, curA_end h, morA_end h]) <;> (repeat' (first | ((first | refine condD_dec ?_ ?_ | refine guardD_dec ?_ ?_) <;> (intro hc; (try simp -implicitDefEqProofs [-loopQ_n, hc, curA_end h, morA_end h]))))))
set_option maxHeartbeats 16000000 in
theorem differ_pure (a b : Dec) (ha : szD a) (hb : szD b) (da : decV a = true) (db : decV b = true) (hin : b.inputs = a.inputs) : Pure Tryz.prog 67 [.agg (decC a), .agg (decC b)] (differO a b) := by
  have hdm := (dec_facts da).1
  unfold differO
  refine pure_of mixed Tryz.func67 rfl (by kernel_rfl) (of_decide_eq_true rfl) (by kernel_rfl) (vc_run ?_)
  ((try simp -implicitDefEqProofs [-loopQ_n, decC]) <;> (repeat' (first | ((first | refine condD_dec ?_ ?_ | refine guardD_dec ?_ ?_) <;> (intro hc; (try simp -implicitDefEqProofs [-loopQ_n, hc, decC]))))))
  refine inl_intro mixed Tryz.func52 rfl (by kernel_rfl) (of_decide_eq_true rfl) (by kernel_rfl) ?_
  ((try simp -implicitDefEqProofs [-loopQ_n]) <;> (repeat' (first | ((first | refine condD_dec ?_ ?_ | refine guardD_dec ?_ ?_) <;> (intro hc; (try simp -implicitDefEqProofs [-loopQ_n, hc]))))))
  refine endG_r (.fn 96 [.op 4 0]) (by simp) ?_
  simp -implicitDefEqProofs [contK]
  ((try simp -implicitDefEqProofs [-loopQ_n]) <;> (repeat' (first | ((first | refine condD_dec ?_ ?_ | refine guardD_dec ?_ ?_) <;> (intro hc; (try simp -implicitDefEqProofs [-loopQ_n, hc]))))))
  refine rngD_weak (s' := ⟨[(2, .op 0 0), (3, .op 1 0), (4, .op 2 0), (5, .op 3 0), (13, .fn 96 [.rp [.rs (rowsOf domC a.inputs)]])], [.box 29 (decC a), .box 29 (decC b), .box 27 [.nils], .box 4 [.bool false], .gone]⟩) ((weak_frb 4 22 [.rs (rowsOf domC a.inputs)] rfl (by simp)).trans (weak_of 5 0 rfl rfl (by simp [fbA, fbL]) (by simp [fbH, fbB, fbL, fbA, decC]))) ?_
  refine range_intro mixed rfl rfl (all_iter a.inputs hdm ha.1) (NoneTo (diffP a b) (allA a.inputs)) (fun _ => [.box 29 (decC a), .box 29 (decC b), .box 27 [.nils], .box 4 [.bool false], .gone]) NoneTo.zero rfl (fun _ => rfl) (by kernel_rfl) (by kernel_rfl) (fun i hi hI => ?_) fun hI => ?_
  · obtain ⟨hma, hmv⟩ := allA_mem (doms_mem hdm) _ (List.getElem_mem hi)
    rw [asgA_at hi]
    obtain ⟨v, hv⟩ : ∃ e, (allA a.inputs)[i] = e := ⟨_, rfl⟩
    have hvl : v.length = a.inputs.length := by rw [hv] at hma; exact ass_len hma
    have hoa := outcome_pure a v ha da hvl
    have hob := outcome_pure b v hb db (by rw [hvl, hin])
    have hla := out_len da v
    have hlb := out_len db v
    have hP : diffP a b v = decide (outD a v ≠ outD b v) := rfl
    obtain ⟨⟨X, e⟩, hx⟩ : ∃ x, outD a v = x := ⟨_, rfl⟩
    obtain ⟨⟨Y, f⟩, hy⟩ : ∃ x, outD b v = x := ⟨_, rfl⟩
    rw [hx] at hoa hla hP
    rw [hy] at hob hlb hP
    simp only [decC, outA] at hoa hob
    simp only at hla hlb
    have he := veq_pure X Y (by omega) (by omega)
    have hvl8 : v.length ≤ 1073741824 := by have := ha.1; omega
    rw [← hv] at hP
    by_cases q1 : e = f
    · by_cases q2 : X = Y
      · have hI2 := hI.next hi (by rw [hP]; simp [q1, q2])
        rw [decide_eq_true q2] at he
        rw [hv]
        ((try simp -implicitDefEqProofs [-loopQ_n]) <;> (repeat' (first | ((first | refine condD_dec ?_ ?_ | refine guardD_dec ?_ ?_) <;> (intro hc; (try simp -implicitDefEqProofs [-loopQ_n, hc]))))))
        rw [rngA_n]
        refine ⟨rfl, ?_⟩
        ((try simp -implicitDefEqProofs [-loopQ_n, decC, q1]) <;> (repeat' (first | ((first | refine condD_dec ?_ ?_ | refine guardD_dec ?_ ?_) <;> (intro hc; (try simp -implicitDefEqProofs [-loopQ_n, hc, decC, q1]))) | (refine callS_mk ?_; (try simp -implicitDefEqProofs [-loopQ_n, decC, q1]); (first | refine callS_intro (hoa) (.inr ⟨rfl, rfl⟩) ?_ | refine callS_intro (hob) (.inr ⟨rfl, rfl⟩) ?_ | refine callS_intro (he) (.inl rfl) ?_); (try simp -implicitDefEqProofs [-loopQ_n, decC, q1])))))
        refine rng_next [] hI2 (weak_ofL 5 0 rfl (by simp) rfl ?_ ?_) <;> simp [decC]
      · have hg : differA a b = some (allA a.inputs)[i] := hI.some hi (by rw [hP]; simp [q1, q2])
        rw [hg, hv]
        rw [decide_eq_false q2] at he
        ((try simp -implicitDefEqProofs [-loopQ_n]) <;> (repeat' (first | ((first | refine condD_dec ?_ ?_ | refine guardD_dec ?_ ?_) <;> (intro hc; (try simp -implicitDefEqProofs [-loopQ_n, hc]))))))
        rw [rngA_n]
        refine ⟨rfl, ?_⟩
        by_cases hv0 : v = []
        · subst hv0
          ((try simp -implicitDefEqProofs [-loopQ_n, decC, q1, vals_nil, allLen_nil, rngQ_r]) <;> (repeat' (first | ((first | refine condD_dec ?_ ?_ | refine guardD_dec ?_ ?_) <;> (intro hc; (try simp -implicitDefEqProofs [-loopQ_n, hc, decC, q1, vals_nil, allLen_nil, rngQ_r]))) | (refine callS_mk ?_; (try simp -implicitDefEqProofs [-loopQ_n, decC, q1, vals_nil, allLen_nil, rngQ_r]); (first | refine callS_intro (hoa) (.inr ⟨rfl, rfl⟩) ?_ | refine callS_intro (hob) (.inr ⟨rfl, rfl⟩) ?_ | refine callS_intro (he) (.inl rfl) ?_); (try simp -implicitDefEqProofs [-loopQ_n, decC, q1, vals_nil, allLen_nil, rngQ_r])))))
        · skip
          ((try simp -implicitDefEqProofs [-loopQ_n, decC, q1, vals_all3, hv0, hvl8, rngQ_r, vals_reify]) <;> (repeat' (first | ((first | refine condD_dec ?_ ?_ | refine guardD_dec ?_ ?_) <;> (intro hc; (try simp -implicitDefEqProofs [-loopQ_n, hc, decC, q1, vals_all3, hv0, hvl8, rngQ_r, vals_reify]))) | (refine callS_mk ?_; (try simp -implicitDefEqProofs [-loopQ_n, decC, q1, vals_all3, hv0, hvl8, rngQ_r, vals_reify]); (first | refine callS_intro (hoa) (.inr ⟨rfl, rfl⟩) ?_ | refine callS_intro (hob) (.inr ⟨rfl, rfl⟩) ?_ | refine callS_intro (he) (.inl rfl) ?_); (try simp -implicitDefEqProofs [-loopQ_n, decC, q1, vals_all3, hv0, hvl8, rngQ_r, vals_reify])))))
    · have hg : differA a b = some (allA a.inputs)[i] := hI.some hi (by rw [hP]; simp [q1])
      rw [hg, hv]
      ((try simp -implicitDefEqProofs [-loopQ_n]) <;> (repeat' (first | ((first | refine condD_dec ?_ ?_ | refine guardD_dec ?_ ?_) <;> (intro hc; (try simp -implicitDefEqProofs [-loopQ_n, hc]))))))
      rw [rngA_n]
      refine ⟨rfl, ?_⟩
      by_cases hv0 : v = []
      · subst hv0
        ((try simp -implicitDefEqProofs [-loopQ_n, decC, q1, vals_nil, allLen_nil, rngQ_r]) <;> (repeat' (first | ((first | refine condD_dec ?_ ?_ | refine guardD_dec ?_ ?_) <;> (intro hc; (try simp -implicitDefEqProofs [-loopQ_n, hc, decC, q1, vals_nil, allLen_nil, rngQ_r]))) | (refine callS_mk ?_; (try simp -implicitDefEqProofs [-loopQ_n, decC, q1, vals_nil, allLen_nil, rngQ_r]); (first | refine callS_intro (hoa) (.inr ⟨rfl, rfl⟩) ?_ | refine callS_intro (hob) (.inr ⟨rfl, rfl⟩) ?_); (try simp -implicitDefEqProofs [-loopQ_n, decC, q1, vals_nil, allLen_nil, rngQ_r])))))
      · skip
        ((try simp -implicitDefEqProofs [-loopQ_n, decC, q1, vals_all3, hv0, hvl8, rngQ_r, vals_reify]) <;> (repeat' (first | ((first | refine condD_dec ?_ ?_ | refine guardD_dec ?_ ?_) <;> (intro hc; (try simp -implicitDefEqProofs [-loopQ_n, hc, decC, q1, vals_all3, hv0, hvl8, rngQ_r, vals_reify]))) | (refine callS_mk ?_; (try simp -implicitDefEqProofs [-loopQ_n, decC, q1, vals_all3, hv0, hvl8, rngQ_r, vals_reify]); (first | refine callS_intro (hoa) (.inr ⟨rfl, rfl⟩) ?_ | refine callS_intro (hob) (.inr ⟨rfl, rfl⟩) ?_); (try simp -implicitDefEqProofs [-loopQ_n, decC, q1, vals_all3, hv0, hvl8, rngQ_r, vals_reify])))))
  · have hg : differA a b = none := hI.none
    rw [hg]
    ((try simp -implicitDefEqProofs [-loopQ_n]) <;> (repeat' (first | ((first | refine condD_dec ?_ ?_ | refine guardD_dec ?_ ?_) <;> (intro hc; (try simp -implicitDefEqProofs [-loopQ_n, hc]))))))
end Go.Proofs.YthemglpccpjokaaGreat
