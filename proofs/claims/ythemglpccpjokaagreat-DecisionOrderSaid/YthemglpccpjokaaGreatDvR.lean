/- The outcome of a table for an assignment (the program's answer). -/
import Derived.Test.YthemglpccpjokaaGreatM6
import Derived.Test.YthemglpccpjokaaGreatDvO
import Derived.Test.YthemglpccpjokaaGreatM4
set_option linter.unusedSimpArgs false
set_option linter.unusedVariables false
set_option linter.unnecessarySimpa false
set_option linter.unusedSectionVars false
set_option maxRecDepth 100000
namespace Go.Proofs.YthemglpccpjokaaGreat
open Go.RowKit
variable [Glob]
theorem dnumber_pure (n : Int) : Pure Tryz.prog 102 [.int .i64 n] (.rs (rowsOf valC [numA n])) := by
  refine pure_of mixed Tryz.func102 rfl (by kernel_rfl) (of_decide_eq_true rfl) (by kernel_rfl) (vc_run ?_)
  ((try simp -implicitDefEqProofs [-loopQ_n]) <;> (repeat' (first | ((first | refine condD_dec ?_ ?_ | refine guardD_dec ?_ ?_) <;> (intro hc; (try simp -implicitDefEqProofs [-loopQ_n, hc]))) | ((first | refine condD_intro ?_ ?_ | refine guardD_intro ?_ ?_) <;> (intro hd; have hc := hd; (try simp at hc) <;> (try simp -implicitDefEqProofs [-loopQ_n, hd, hc]))) | (refine ldD_ep ?_ ?_; (focus kernel_rfl); (try simp -implicitDefEqProofs [-loopQ_n])))))
  simp [rowsOf, valC, numA]
theorem drnumber_pure (n : Int) : Pure Tryz.prog 104 [.int .i64 n] (.agg (valC (numA n))) := by
  refine pure_of mixed Tryz.func104 rfl (by kernel_rfl) (of_decide_eq_true rfl) (by kernel_rfl) (vc_run ?_)
  ((try simp -implicitDefEqProofs [-loopQ_n]) <;> (repeat' (first | ((first | refine condD_dec ?_ ?_ | refine guardD_dec ?_ ?_) <;> (intro hc; (try simp -implicitDefEqProofs [-loopQ_n, hc]))) | ((first | refine condD_intro ?_ ?_ | refine guardD_intro ?_ ?_) <;> (intro hd; have hc := hd; (try simp at hc) <;> (try simp -implicitDefEqProofs [-loopQ_n, hd, hc]))) | (refine ldD_ep ?_ ?_; (focus kernel_rfl); (try simp -implicitDefEqProofs [-loopQ_n])))))
  simp [valC, numA]
def outA (r : List Val × Int) : AV := .tup [.rs (rowsOf valC r.1), .int .i64 r.2]
theorem rows_sz {d : Dec} {v : List Val} (hs : szD d) (hd : decV d = true) (hv : v.length = d.inputs.length) : ∀ r ∈ d.rows, r.tests.length = v.length ∧ r.tests.length ≤ 1000000 ∧ ∀ t ∈ r.tests, t.items.length ≤ 1000000 := by
  intro r hr
  have h := (dec_facts hd).2.2.2.2.2.2.1 r hr
  simp only [rowV, Bool.and_eq_true, decide_eq_true_eq] at h
  exact ⟨by omega, hs.2.2.2 r hr⟩
theorem out_n {d : Dec} {v : List Val} (hd : decV d = true) : ∀ x ∈ outsL d v, -4503599627370496 ≤ x.n ∧ x.n ≤ 4503599627370496 := by
  intro x hx
  obtain ⟨r, hr, rfl⟩ := outs_mem hx
  have h := (dec_facts hd).2.2.2.2.2.2.1 r hr
  simp only [rowV, memV, Bool.and_eq_true] at h
  have h := h.2.1.1
  unfold valueV at h
  by_cases k1 : r.out.kind = 1
  · rw [if_pos k1] at h; simp at h; omega
  rw [if_neg k1] at h
  by_cases k2 : r.out.kind = 2
  · rw [if_pos k2] at h; simp [numV] at h; omega
  rw [if_neg k2] at h
  by_cases k3 : r.out.kind = 3
  · rw [if_pos k3] at h; simp at h; omega
  · rw [if_neg k3] at h; simp at h
theorem sumA_bd2 {L : List Val} (h : ∀ x ∈ L, -4503599627370496 ≤ x.n ∧ x.n ≤ 4503599627370496) : -4503599627370496 * L.length ≤ sumA L ∧ sumA L ≤ 4503599627370496 * L.length := sumA_bd h
theorem sumA_take {L : List Val} {i : Nat} (h : i < L.length) : sumA (L.take (i + 1)) = sumA (L.take i) + L[i].n := by
  rw [List.take_add_one, sumA_app]
  simp [h, sumA]
theorem val_own {L : List Val} : ∀ r ∈ rowsOf valC L, ∀ c ∈ r, owns c = false := by
  intro r hr c hc
  simp only [rowsOf, List.mem_map] at hr
  obtain ⟨x, _, rfl⟩ := hr
  simp only [valC, List.mem_cons, List.not_mem_nil, or_false] at hc
  rcases hc with rfl | rfl | rfl <;> rfl
theorem outR_nil {hit : Int} {order : List Val} (h5 : ¬ hit = 5) (h9 : ¬ hit = 9) (h6 : ¬ hit = 6) : outR hit order [] = ([], 25) := by simp only [outR, if_neg h5, if_neg h9, if_neg h6]
theorem outR_cons {hit : Int} {order r : List Val} {b : Val} (h5 : ¬ hit = 5) (h9 : ¬ hit = 9) (h6 : ¬ hit = 6) : outR hit order (b :: r) = foldO hit order b r := by simp only [outR, if_neg h5, if_neg h9, if_neg h6]
theorem vals_nil : rowsOf valC [] = [] := rfl
theorem num_rows (n : Int) : rowsOf valC [numA n] = [[.int .i64 2, .int .i64 n, .str ByteArray.empty]] := rfl
theorem val_tail {b : Val} {r : List Val} : List.take r.length (rowsOf valC (b :: r)).tail = rowsOf valC r := by simp [rowsOf, List.take_of_length_le]
structure BInv (hit : Int) (order r : List Val) (b : Val) (x : Nat × Val) : Prop where
  le : x.1 ≤ r.length
  eq : foldO hit order x.2 (r.drop x.1) = foldO hit order b r
  mem : x.2 ∈ b :: r
  any : hit = 2 → (b :: r)[x.1]? = some x.2
set_option maxHeartbeats 32000000 in
theorem outcome_pure (d : Dec) (v : List Val) (hs : szD d) (hd : decV d = true) (hv : v.length = d.inputs.length) : Pure Tryz.prog 59 [.agg (decC d), .rs (rowsOf valC v)] (outA (outD d v)) := by
  have hh := hits_pure d v hs.2.2.1 (rows_sz hs hd hv)
  have hlen := hits_len d v
  have hle := outs_le d v
  have hon := out_n (v := v) hd
  have hog := outs_get d v
  obtain ⟨d1, d2, d3, d4, d5, d6, d7, d8, d9⟩ := dec_facts hd
  have hok := (outs_ok hd (rows_ok hd) v).1
  obtain ⟨O, hO⟩ : ∃ e, outsL d v = e := ⟨_, rfl⟩
  have hok : OutsOk d.hit d.order O := by rw [← hO]; exact hok
  obtain ⟨Hl, hHl⟩ : ∃ e, hitsL d v = e := ⟨_, rfl⟩
  have hRes : outD d v = outR d.hit d.order O := by rw [outD, hO]
  rw [hRes]
  rw [hO] at hlen hle hon
  simp only [hO, hHl] at hog
  rw [hHl] at hh hlen
  clear hRes
  simp only [decC] at hh
  refine pure_of mixed Tryz.func59 rfl (by kernel_rfl) (of_decide_eq_true rfl) (by kernel_rfl) (vc_run ?_)
  ((try simp -implicitDefEqProofs [-loopQ_n, decC]) <;> (repeat' (first | ((first | refine condD_dec ?_ ?_ | refine guardD_dec ?_ ?_) <;> (intro hc; (try simp -implicitDefEqProofs [-loopQ_n, hc, decC]))) | ((first | refine condD_intro ?_ ?_ | refine guardD_intro ?_ ?_) <;> (intro hd; have hc := hd; (try simp at hc) <;> (try simp -implicitDefEqProofs [-loopQ_n, hd, hc, decC]))) | ((first | (refine ldD_ep ?_ ?_; (focus kernel_rfl)) | (refine callS_mk ?_; (try simp -implicitDefEqProofs [-loopQ_n, decC]); (first | refine callS_intro (hh) (.inr ⟨rfl, rfl⟩) ?_))); (try simp -implicitDefEqProofs [-loopQ_n, decC])))))
  refine loop_intro (σ := Nat) (fun i => if i < O.length then ⟨[(2, .op 0 0), (6, .os 1 i), (17, .rs (rowsOf intC Hl)), (18, .int .i64 Hl.length), (19, .int .i64 i)], [.box 29 (decC d), .row 49 true (rowsOf valC (O.take i))]⟩ else ⟨[(2, .op 0 0), (6, .rs (rowsOf valC O)), (17, .rs (rowsOf intC Hl)), (18, .int .i64 Hl.length), (19, .int .i64 i)], [.box 29 (decC d)]⟩)
    (fun i => i ≤ O.length) (fun i => O.length - i) 0 (by simp) ?_ ?_
  · split
    · refine weak_of 1 1 rfl rfl ?_ ?_ <;> simp [decC]
    · have : O = [] := List.eq_nil_of_length_eq_zero (by omega)
      subst this
      refine weak_of 1 0 rfl rfl ?_ ?_ <;> simp [decC, rowsOf]
  rintro i hi
  by_cases h : i < O.length
  · have hl : i < Hl.length := by omega
    have w1 := w_succB hl (by omega)
    obtain ⟨g1, g2, g3, g4⟩ := hog i hl
    obtain ⟨k, hk⟩ : ∃ k : Nat, Hl[i] = (k : Int) := ⟨Hl[i].toNat, by omega⟩
    have hkn : Hl[i].toNat = k := by omega
    simp only [hkn] at g1 g4
    obtain ⟨⟨ts, out⟩, hf⟩ : ∃ e, d.rows[k] = e := ⟨_, rfl⟩
    rw [hf] at g4
    simp only at g4
    have htk : O.take (i + 1) = O.take i ++ [out] := by rw [g4, List.take_append_getElem h]
    have hi1 : i + 1 ≤ 1073741824 := by omega
    have hil : min i O.length = i := by omega
    simp only [h, if_true]
    ((try simp -implicitDefEqProofs [-loopQ_n, hl, hk, g1, hf, rwC, decC, intC, w1, hil, hi1]) <;> (repeat' (first | ((first | refine condD_dec ?_ ?_ | refine guardD_dec ?_ ?_) <;> (intro hc; (try simp -implicitDefEqProofs [-loopQ_n, hc, hl, hk, g1, hf, rwC, decC, intC, w1, hil, hi1]))) | ((first | refine condD_intro ?_ ?_ | refine guardD_intro ?_ ?_) <;> (intro hd; have hc := hd; (try simp at hc) <;> (try simp -implicitDefEqProofs [-loopQ_n, hd, hc, hl, hk, g1, hf, rwC, decC, intC, w1, hil, hi1]))) | (refine ldD_ep ?_ ?_; (focus kernel_rfl); (try simp -implicitDefEqProofs [-loopQ_n, hl, hk, g1, hf, rwC, decC, intC, w1, hil, hi1])))))
    refine loop_next (i + 1) (by omega) (by omega) ?_
    split
    · refine weak_of 2 0 rfl rfl ?_ ?_ <;> simp [w1, decC, htk, vals_snoc3, vals_refs]
    · have e2 : i + 1 = O.length := by omega
      have e : O = O.take i ++ [out] := by rw [← htk, List.take_of_length_le (by omega)]
      refine (weak_frz 1 49 true (rowsOf valC (O.take i ++ [out])) (by simp [vals_snoc3]) val_own).trans ?_
      refine weak_of 1 0 rfl rfl ?_ ?_ <;> simp [frH, frB, frL, frA, w1, decC, vals_snoc3, ← e, e2, vals_refs]
      all_goals omega
  simp only [h, if_false]
  have hi2 : ¬ i < Hl.length := by omega
  by_cases k5 : d.hit = 5
  · have k5' : (d.hit = 5) = True := eq_true k5
    have hR : outR d.hit d.order O = (O, 0) := by simp [outR, k5]
    rw [hR]
    ((try simp -implicitDefEqProofs [-loopQ_n, hi2, k5', decC, vals_reify, outA]) <;> (repeat' (first | ((first | refine condD_dec ?_ ?_ | refine guardD_dec ?_ ?_) <;> (intro hc; (try simp -implicitDefEqProofs [-loopQ_n, hc, hi2, k5', decC, vals_reify, outA]))) | ((first | refine condD_intro ?_ ?_ | refine guardD_intro ?_ ?_) <;> (intro hd; have hc := hd; (try simp at hc) <;> (try simp -implicitDefEqProofs [-loopQ_n, hd, hc, hi2, k5', decC, vals_reify, outA]))) | (refine ldD_ep ?_ ?_; (focus kernel_rfl); (try simp -implicitDefEqProofs [-loopQ_n, hi2, k5', decC, vals_reify, outA])))))
  have k5' : (d.hit = 5) = False := eq_false k5
  by_cases k9 : d.hit = 9
  · have k9' : (d.hit = 9) = True := eq_true k9
    have hR : outR d.hit d.order O = ([numA O.length], 0) := by simp [outR, k9]
    have hn := dnumber_pure O.length
    rw [num_rows] at hn
    rw [hR]
    ((try simp -implicitDefEqProofs [-loopQ_n, hi2, k5', k9', decC, outA, num_rows]) <;> (repeat' (first | ((first | refine condD_dec ?_ ?_ | refine guardD_dec ?_ ?_) <;> (intro hc; (try simp -implicitDefEqProofs [-loopQ_n, hc, hi2, k5', k9', decC, outA, num_rows]))) | ((first | refine condD_intro ?_ ?_ | refine guardD_intro ?_ ?_) <;> (intro hd; have hc := hd; (try simp at hc) <;> (try simp -implicitDefEqProofs [-loopQ_n, hd, hc, hi2, k5', k9', decC, outA, num_rows]))) | ((first | (refine ldD_ep ?_ ?_; (focus kernel_rfl)) | (refine callS_mk ?_; (try simp -implicitDefEqProofs [-loopQ_n, hi2, k5', k9', decC, outA, num_rows]); (first | refine callS_intro (hn) (.inr ⟨rfl, rfl⟩) ?_))); (try simp -implicitDefEqProofs [-loopQ_n, hi2, k5', k9', decC, outA, num_rows])))))
  have k9' : (d.hit = 9) = False := eq_false k9
  by_cases k6 : d.hit = 6
  · have k6' : (d.hit = 6) = True := eq_true k6
    have hR : outR d.hit d.order O = if sumA O < -4503599627370496 ∨ 4503599627370496 < sumA O then ([], 6) else ([numA (sumA O)], 0) := by simp [outR, k6]
    rw [hR]
    ((try simp -implicitDefEqProofs [-loopQ_n, hi2, k5', k9', k6', decC]) <;> (repeat' (first | ((first | refine condD_dec ?_ ?_ | refine guardD_dec ?_ ?_) <;> (intro hc; (try simp -implicitDefEqProofs [-loopQ_n, hc, hi2, k5', k9', k6', decC]))) | ((first | refine condD_intro ?_ ?_ | refine guardD_intro ?_ ?_) <;> (intro hd; have hc := hd; (try simp at hc) <;> (try simp -implicitDefEqProofs [-loopQ_n, hd, hc, hi2, k5', k9', k6', decC]))) | (refine ldD_ep ?_ ?_; (focus kernel_rfl); (try simp -implicitDefEqProofs [-loopQ_n, hi2, k5', k9', k6', decC])))))
    refine loop_intro (σ := Nat) (fun j => ⟨[(9, .int .i64 (sumA (O.take j))), (45, .rs (rowsOf valC O)), (46, .int .i64 O.length), (47, .int .i64 j)], []⟩)
      (fun j => j ≤ O.length) (fun j => O.length - j) 0 (by simp) ?_ ?_
    · refine weak_of 0 0 rfl rfl ?_ ?_ <;> simp [sumA]
    rintro j hj
    by_cases g : j < O.length
    · have w2 := w_succB g (by omega)
      have hb := sumA_bd2 (L := O.take (j + 1)) fun x hx => hon x (List.mem_of_mem_take hx)
      have hst := sumA_take g
      have hl2 : (O.take (j + 1)).length ≤ 60 := by simp; omega
      obtain ⟨x, hx⟩ : ∃ e, O[j] = e := ⟨_, rfl⟩
      rw [hx] at hst
      have w3 : wrapI .i64 (sumA (O.take j) + x.n) = sumA (O.take (j + 1)) := by rw [← hst]; exact wrap_in (by omega) (by omega)
      ((try simp -implicitDefEqProofs [-loopQ_n, g, hx, valC, w2, w3]) <;> (repeat' (first | ((first | refine condD_dec ?_ ?_ | refine guardD_dec ?_ ?_) <;> (intro hc; (try simp -implicitDefEqProofs [-loopQ_n, hc, g, hx, valC, w2, w3]))) | ((first | refine condD_intro ?_ ?_ | refine guardD_intro ?_ ?_) <;> (intro hd; have hc := hd; (try simp at hc) <;> (try simp -implicitDefEqProofs [-loopQ_n, hd, hc, g, hx, valC, w2, w3]))) | (refine ldD_ep ?_ ?_; (focus kernel_rfl); (try simp -implicitDefEqProofs [-loopQ_n, g, hx, valC, w2, w3])))))
      refine loop_next (j + 1) (by omega) (by omega) (weak_of 0 0 rfl rfl ?_ ?_) <;> simp [w2, w3]
    · have e : O.take j = O := List.take_of_length_le (by omega)
      rw [e]
      have hn := dnumber_pure (sumA O)
      rw [num_rows] at hn
      by_cases q1 : sumA O < -4503599627370496
      · rw [if_pos (.inl q1)]
        ((try simp -implicitDefEqProofs [-loopQ_n, g, q1, outA, rowsOf]) <;> (repeat' (first | ((first | refine condD_dec ?_ ?_ | refine guardD_dec ?_ ?_) <;> (intro hc; (try simp -implicitDefEqProofs [-loopQ_n, hc, g, q1, outA, rowsOf]))) | ((first | refine condD_intro ?_ ?_ | refine guardD_intro ?_ ?_) <;> (intro hd; have hc := hd; (try simp at hc) <;> (try simp -implicitDefEqProofs [-loopQ_n, hd, hc, g, q1, outA, rowsOf]))) | (refine ldD_ep ?_ ?_; (focus kernel_rfl); (try simp -implicitDefEqProofs [-loopQ_n, g, q1, outA, rowsOf])))))
      by_cases q2 : 4503599627370496 < sumA O
      · rw [if_pos (.inr q2)]
        ((try simp -implicitDefEqProofs [-loopQ_n, g, q1, q2, outA, rowsOf]) <;> (repeat' (first | ((first | refine condD_dec ?_ ?_ | refine guardD_dec ?_ ?_) <;> (intro hc; (try simp -implicitDefEqProofs [-loopQ_n, hc, g, q1, q2, outA, rowsOf]))) | ((first | refine condD_intro ?_ ?_ | refine guardD_intro ?_ ?_) <;> (intro hd; have hc := hd; (try simp at hc) <;> (try simp -implicitDefEqProofs [-loopQ_n, hd, hc, g, q1, q2, outA, rowsOf]))) | (refine ldD_ep ?_ ?_; (focus kernel_rfl); (try simp -implicitDefEqProofs [-loopQ_n, g, q1, q2, outA, rowsOf])))))
      · rw [if_neg (by omega)]
        ((try simp -implicitDefEqProofs [-loopQ_n, g, q1, q2, outA, num_rows]) <;> (repeat' (first | ((first | refine condD_dec ?_ ?_ | refine guardD_dec ?_ ?_) <;> (intro hc; (try simp -implicitDefEqProofs [-loopQ_n, hc, g, q1, q2, outA, num_rows]))) | ((first | refine condD_intro ?_ ?_ | refine guardD_intro ?_ ?_) <;> (intro hd; have hc := hd; (try simp at hc) <;> (try simp -implicitDefEqProofs [-loopQ_n, hd, hc, g, q1, q2, outA, num_rows]))) | ((first | (refine ldD_ep ?_ ?_; (focus kernel_rfl)) | (refine callS_mk ?_; (try simp -implicitDefEqProofs [-loopQ_n, g, q1, q2, outA, num_rows]); (first | refine callS_intro (hn) (.inr ⟨rfl, rfl⟩) ?_))); (try simp -implicitDefEqProofs [-loopQ_n, g, q1, q2, outA, num_rows])))))
  have k6' : (d.hit = 6) = False := eq_false k6
  cases O with
  | nil =>
    rw [outR_nil k5 k9 k6]
    ((try simp -implicitDefEqProofs [-loopQ_n, hi2, k5', k9', k6', decC, outA, rowsOf]) <;> (repeat' (first | ((first | refine condD_dec ?_ ?_ | refine guardD_dec ?_ ?_) <;> (intro hc; (try simp -implicitDefEqProofs [-loopQ_n, hc, hi2, k5', k9', k6', decC, outA, rowsOf]))) | ((first | refine condD_intro ?_ ?_ | refine guardD_intro ?_ ?_) <;> (intro hd; have hc := hd; (try simp at hc) <;> (try simp -implicitDefEqProofs [-loopQ_n, hd, hc, hi2, k5', k9', k6', decC, outA, rowsOf]))) | (refine ldD_ep ?_ ?_; (focus kernel_rfl); (try simp -implicitDefEqProofs [-loopQ_n, hi2, k5', k9', k6', decC, outA, rowsOf])))))
  | cons b r =>
    rw [outR_cons k5 k9 k6]
    have h1 : (1 : Int) ≤ r.length + 1 := by omega
    have hl2 : r.length ≤ 60 := by simp at hle; omega
    have h0 : ¬ (r.length : Int) + 1 = 0 := by omega
    obtain ⟨bk, bn, bs⟩ := b
    ((try simp -implicitDefEqProofs [-loopQ_n, hi2, k5', k9', k6', decC, valC, val_tail, h1, h0]) <;> (repeat' (first | ((first | refine condD_dec ?_ ?_ | refine guardD_dec ?_ ?_) <;> (intro hc; (try simp -implicitDefEqProofs [-loopQ_n, hc, hi2, k5', k9', k6', decC, valC, val_tail, h1, h0]))) | ((first | refine condD_intro ?_ ?_ | refine guardD_intro ?_ ?_) <;> (intro hd; have hc := hd; (try simp at hc) <;> (try simp -implicitDefEqProofs [-loopQ_n, hd, hc, hi2, k5', k9', k6', decC, valC, val_tail, h1, h0]))) | (refine ldD_ep ?_ ?_; (focus kernel_rfl); (try simp -implicitDefEqProofs [-loopQ_n, hi2, k5', k9', k6', decC, valC, val_tail, h1, h0])))))
    refine loop_intro (σ := Nat × Val) (fun x => ⟨[(2, .op 0 0), (6, .rs (rowsOf valC (⟨bk, bn, bs⟩ :: r))), (12, .op 1 0), (71, .rs (rowsOf valC r)), (72, .int .i64 r.length), (73, .int .i64 x.1)], [.box 29 (decC d), .box 49 [.int .i64 x.2.kind, .int .i64 x.2.n, .str x.2.s]]⟩)
      (BInv d.hit d.order r ⟨bk, bn, bs⟩) (fun x => r.length - x.1) (0, ⟨bk, bn, bs⟩) ⟨by simp, by simp, by simp, by simp⟩ ?_ ?_
    · refine weak_of 2 0 rfl rfl ?_ ?_ <;> simp [decC]
    rintro ⟨j, best⟩ ⟨hj, hF, hm, hA⟩
    simp only at hj hF hm hA
    by_cases g : j < r.length
    · have w2 := w_succB g (by omega)
      have hix := vindex_pure d.order r[j] hs.2.1
      have hib := vindex_pure d.order best hs.2.1
      have hrm : r[j] ∈ (⟨bk, bn, bs⟩ : Val) :: r := List.mem_cons_of_mem _ (List.getElem_mem g)
      have hnx : ((⟨bk, bn, bs⟩ : Val) :: r)[j + 1]? = some r[j] := by simp [g]
      obtain ⟨x, hx⟩ : ∃ e, r[j] = e := ⟨_, rfl⟩
      rw [List.drop_eq_getElem_cons g, hx, foldO] at hF
      rw [hx] at hix hrm hnx
      simp only [valC] at hix hib
      by_cases k1 : d.hit = 1
      · have k1' : (d.hit = 1) = True := eq_true k1
        rw [if_pos k1] at hF
        rw [← hF]
        obtain ⟨xk, xn, xs⟩ := x
        ((try simp -implicitDefEqProofs [-loopQ_n, g, hx, k1', decC, valC, outA, rowsOf]) <;> (repeat' (first | ((first | refine condD_dec ?_ ?_ | refine guardD_dec ?_ ?_) <;> (intro hc; (try simp -implicitDefEqProofs [-loopQ_n, hc, g, hx, k1', decC, valC, outA, rowsOf]))) | ((first | refine condD_intro ?_ ?_ | refine guardD_intro ?_ ?_) <;> (intro hd; have hc := hd; (try simp at hc) <;> (try simp -implicitDefEqProofs [-loopQ_n, hd, hc, g, hx, k1', decC, valC, outA, rowsOf]))) | (refine ldD_ep ?_ ?_; (focus kernel_rfl); (try simp -implicitDefEqProofs [-loopQ_n, g, hx, k1', decC, valC, outA, rowsOf])))))
      have k1' : (d.hit = 1) = False := eq_false k1
      rw [if_neg k1] at hF
      by_cases k2 : d.hit = 2
      · have k2' : (d.hit = 2) = True := eq_true k2
        have hA := hA k2
        rw [if_pos k2] at hF
        have gb : j < r.length + 1 := by omega
        obtain ⟨gb2, hbj⟩ := List.getElem?_eq_some_iff.1 hA
        by_cases q : x = best
        · rw [if_pos q] at hF
          subst q
          obtain ⟨xk, xn, xs⟩ := x
          ((try simp -implicitDefEqProofs [-loopQ_n, g, gb, hx, hbj, k1', k2', decC, valC, w2]) <;> (repeat' (first | ((first | refine condD_dec ?_ ?_ | refine guardD_dec ?_ ?_) <;> (intro hc; (try simp -implicitDefEqProofs [-loopQ_n, hc, g, gb, hx, hbj, k1', k2', decC, valC, w2]))) | ((first | refine condD_intro ?_ ?_ | refine guardD_intro ?_ ?_) <;> (intro hd; have hc := hd; (try simp at hc) <;> (try simp -implicitDefEqProofs [-loopQ_n, hd, hc, g, gb, hx, hbj, k1', k2', decC, valC, w2]))) | (refine ldD_ep ?_ ?_; (focus kernel_rfl); (try simp -implicitDefEqProofs [-loopQ_n, g, gb, hx, hbj, k1', k2', decC, valC, w2])))))
          refine loop_next (j + 1, ⟨xk, xn, xs⟩) ⟨by simp only; omega, hF, hrm, fun _ => hnx⟩ (by simp only; omega) (weak_of 2 0 rfl rfl ?_ ?_) <;> simp [w2, decC]
        · rw [if_neg q] at hF
          rw [← hF]
          obtain ⟨xk, xn, xs⟩ := x
          obtain ⟨ck, cn, cs⟩ := best
          have hne : ¬ (xk = ck ∧ xn = cn ∧ xs.toList = cs.toList) := val_ne q
          ((try simp -implicitDefEqProofs [-loopQ_n, g, gb, hx, hbj, k1', k2', decC, valC, w2, outA, vals_nil]) <;> (repeat' (first | ((first | refine condD_dec ?_ ?_ | refine guardD_dec ?_ ?_) <;> (intro hc; (try simp -implicitDefEqProofs [-loopQ_n, hc, g, gb, hx, hbj, k1', k2', decC, valC, w2, outA, vals_nil]))) | ((first | refine condD_intro ?_ ?_ | refine guardD_intro ?_ ?_) <;> (intro hd; have hc := hd; (try simp at hc) <;> (try simp -implicitDefEqProofs [-loopQ_n, hd, hc, g, gb, hx, hbj, k1', k2', decC, valC, w2, outA, vals_nil]))) | (refine ldD_ep ?_ ?_; (focus kernel_rfl); (try simp -implicitDefEqProofs [-loopQ_n, g, gb, hx, hbj, k1', k2', decC, valC, w2, outA, vals_nil])))))
          all_goals first | exact absurd hc hne | skip
      have k2' : (d.hit = 2) = False := eq_false k2
      rw [if_neg k2] at hF
      by_cases k4 : d.hit = 4
      · have k4' : (d.hit = 4) = True := eq_true k4
        rw [if_pos k4] at hF
        by_cases q : idxV d.order x < idxV d.order best
        · rw [if_pos q] at hF
          obtain ⟨xk, xn, xs⟩ := x
          obtain ⟨ck, cn, cs⟩ := best
          ((try simp -implicitDefEqProofs [-loopQ_n, g, hx, k1', k2', k4', decC, valC, q, w2]) <;> (repeat' (first | ((first | refine condD_dec ?_ ?_ | refine guardD_dec ?_ ?_) <;> (intro hc; (try simp -implicitDefEqProofs [-loopQ_n, hc, g, hx, k1', k2', k4', decC, valC, q, w2]))) | ((first | refine condD_intro ?_ ?_ | refine guardD_intro ?_ ?_) <;> (intro hd; have hc := hd; (try simp at hc) <;> (try simp -implicitDefEqProofs [-loopQ_n, hd, hc, g, hx, k1', k2', k4', decC, valC, q, w2]))) | ((first | (refine ldD_ep ?_ ?_; (focus kernel_rfl)) | (refine callS_mk ?_; (try simp -implicitDefEqProofs [-loopQ_n, g, hx, k1', k2', k4', decC, valC, q, w2]); (first | refine callS_intro (hix) (.inl rfl) ?_ | refine callS_intro (hib) (.inl rfl) ?_))); (try simp -implicitDefEqProofs [-loopQ_n, g, hx, k1', k2', k4', decC, valC, q, w2])))))
          refine loop_next (j + 1, ⟨xk, xn, xs⟩) ⟨by simp only; omega, hF, hrm, fun e => absurd e k2⟩ (by simp only; omega) (weak_of 2 0 rfl rfl ?_ ?_) <;> simp [w2, decC]
        · rw [if_neg q] at hF
          obtain ⟨xk, xn, xs⟩ := x
          obtain ⟨ck, cn, cs⟩ := best
          ((try simp -implicitDefEqProofs [-loopQ_n, g, hx, k1', k2', k4', decC, valC, q, w2]) <;> (repeat' (first | ((first | refine condD_dec ?_ ?_ | refine guardD_dec ?_ ?_) <;> (intro hc; (try simp -implicitDefEqProofs [-loopQ_n, hc, g, hx, k1', k2', k4', decC, valC, q, w2]))) | ((first | refine condD_intro ?_ ?_ | refine guardD_intro ?_ ?_) <;> (intro hd; have hc := hd; (try simp at hc) <;> (try simp -implicitDefEqProofs [-loopQ_n, hd, hc, g, hx, k1', k2', k4', decC, valC, q, w2]))) | ((first | (refine ldD_ep ?_ ?_; (focus kernel_rfl)) | (refine callS_mk ?_; (try simp -implicitDefEqProofs [-loopQ_n, g, hx, k1', k2', k4', decC, valC, q, w2]); (first | refine callS_intro (hix) (.inl rfl) ?_ | refine callS_intro (hib) (.inl rfl) ?_))); (try simp -implicitDefEqProofs [-loopQ_n, g, hx, k1', k2', k4', decC, valC, q, w2])))))
          refine loop_next (j + 1, ⟨ck, cn, cs⟩) ⟨by simp only; omega, hF, hm, fun e => absurd e k2⟩ (by simp only; omega) (weak_of 2 0 rfl rfl ?_ ?_) <;> simp [w2, decC]
      have k4' : (d.hit = 4) = False := eq_false k4
      rw [if_neg k4] at hF
      by_cases k7 : d.hit = 7
      · have k7' : (d.hit = 7) = True := eq_true k7
        rw [if_pos k7] at hF
        obtain ⟨ux, vx⟩ := hok.2 (by omega) x hrm
        obtain ⟨ub, vb⟩ := hok.2 (by omega) best hm
        obtain ⟨xk, xn, xs⟩ := x
        obtain ⟨ck, cn, cs⟩ := best
        simp only at ux vx ub vb
        subst ux vx ub vb
        ((try simp -implicitDefEqProofs [-loopQ_n, g, hx, k1', k2', k4', k7', decC, valC, w2]) <;> (repeat' (first | ((first | refine condD_dec ?_ ?_ | refine guardD_dec ?_ ?_) <;> (intro hc; (try simp -implicitDefEqProofs [-loopQ_n, hc, g, hx, k1', k2', k4', k7', decC, valC, w2]))) | ((first | refine condD_intro ?_ ?_ | refine guardD_intro ?_ ?_) <;> (intro hd; have hc := hd; (try simp at hc) <;> (try simp -implicitDefEqProofs [-loopQ_n, hd, hc, g, hx, k1', k2', k4', k7', decC, valC, w2]))) | (refine ldD_ep ?_ ?_; (focus kernel_rfl); (try simp -implicitDefEqProofs [-loopQ_n, g, hx, k1', k2', k4', k7', decC, valC, w2])))))
        refine loop_next (j + 1, if xn < cn then ⟨2, xn, ByteArray.empty⟩ else ⟨2, cn, ByteArray.empty⟩) ⟨by simp only; omega, hF, by simp only; split <;> assumption, fun e => absurd e k2⟩ (by simp only; omega) (weak_of 2 0 rfl rfl ?_ ?_)
        · simp [w2]
        · split <;> simp [decC] <;> omega
      have k7' : (d.hit = 7) = False := eq_false k7
      rw [if_neg k7] at hF
      by_cases k8 : d.hit = 8
      · have k8' : (d.hit = 8) = True := eq_true k8
        rw [if_pos k8] at hF
        obtain ⟨ux, vx⟩ := hok.2 (by omega) x hrm
        obtain ⟨ub, vb⟩ := hok.2 (by omega) best hm
        obtain ⟨xk, xn, xs⟩ := x
        obtain ⟨ck, cn, cs⟩ := best
        simp only at ux vx ub vb
        subst ux vx ub vb
        ((try simp -implicitDefEqProofs [-loopQ_n, g, hx, k1', k2', k4', k7', k8', decC, valC, w2]) <;> (repeat' (first | ((first | refine condD_dec ?_ ?_ | refine guardD_dec ?_ ?_) <;> (intro hc; (try simp -implicitDefEqProofs [-loopQ_n, hc, g, hx, k1', k2', k4', k7', k8', decC, valC, w2]))) | ((first | refine condD_intro ?_ ?_ | refine guardD_intro ?_ ?_) <;> (intro hd; have hc := hd; (try simp at hc) <;> (try simp -implicitDefEqProofs [-loopQ_n, hd, hc, g, hx, k1', k2', k4', k7', k8', decC, valC, w2]))) | (refine ldD_ep ?_ ?_; (focus kernel_rfl); (try simp -implicitDefEqProofs [-loopQ_n, g, hx, k1', k2', k4', k7', k8', decC, valC, w2])))))
        refine loop_next (j + 1, if cn < xn then ⟨2, xn, ByteArray.empty⟩ else ⟨2, cn, ByteArray.empty⟩) ⟨by simp only; omega, hF, by simp only; split <;> assumption, fun e => absurd e k2⟩ (by simp only; omega) (weak_of 2 0 rfl rfl ?_ ?_)
        · simp [w2]
        · split <;> simp [decC] <;> omega
      have k8' : (d.hit = 8) = False := eq_false k8
      rw [if_neg k8] at hF
      obtain ⟨xk, xn, xs⟩ := x
      obtain ⟨ck, cn, cs⟩ := best
      ((try simp -implicitDefEqProofs [-loopQ_n, g, hx, k1', k2', k4', k7', k8', decC, valC, w2]) <;> (repeat' (first | ((first | refine condD_dec ?_ ?_ | refine guardD_dec ?_ ?_) <;> (intro hc; (try simp -implicitDefEqProofs [-loopQ_n, hc, g, hx, k1', k2', k4', k7', k8', decC, valC, w2]))) | ((first | refine condD_intro ?_ ?_ | refine guardD_intro ?_ ?_) <;> (intro hd; have hc := hd; (try simp at hc) <;> (try simp -implicitDefEqProofs [-loopQ_n, hd, hc, g, hx, k1', k2', k4', k7', k8', decC, valC, w2]))) | (refine ldD_ep ?_ ?_; (focus kernel_rfl); (try simp -implicitDefEqProofs [-loopQ_n, g, hx, k1', k2', k4', k7', k8', decC, valC, w2])))))
      refine loop_next (j + 1, ⟨ck, cn, cs⟩) ⟨by simp only; omega, hF, hm, fun e => absurd e k2⟩ (by simp only; omega) (weak_of 2 0 rfl rfl ?_ ?_) <;> simp [w2, decC]
    · rw [List.drop_eq_nil_of_le (by omega), foldO] at hF
      obtain ⟨ck, cn, cs⟩ := best
      rw [← hF]
      ((try simp -implicitDefEqProofs [-loopQ_n, g, decC, outA]) <;> (repeat' (first | ((first | refine condD_dec ?_ ?_ | refine guardD_dec ?_ ?_) <;> (intro hc; (try simp -implicitDefEqProofs [-loopQ_n, hc, g, decC, outA]))) | ((first | refine condD_intro ?_ ?_ | refine guardD_intro ?_ ?_) <;> (intro hd; have hc := hd; (try simp at hc) <;> (try simp -implicitDefEqProofs [-loopQ_n, hd, hc, g, decC, outA]))) | (refine ldD_ep ?_ ?_; (focus kernel_rfl); (try simp -implicitDefEqProofs [-loopQ_n, g, decC, outA])))))
      simp [rowsOf, valC]
end Go.Proofs.YthemglpccpjokaaGreat
