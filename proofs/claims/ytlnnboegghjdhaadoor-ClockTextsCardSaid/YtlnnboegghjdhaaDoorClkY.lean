/- Texts of instants: Text and the digits, both sides. -/
import Derived.Test.YtlnnboegghjdhaaDoorClkX
namespace Go.Proofs.YtlnnboegghjdhaaDoor
set_option linter.unusedSimpArgs false
set_option linter.unusedVariables false
set_option linter.unnecessarySimpa false
set_option linter.unusedSectionVars false
open Go.RowKit
variable [Glob]
set_option maxRecDepth 100000
theorem wrap8' {n : Int} (h1 : 0 ≤ n) (h2 : n < 256) : wrapI .u8 n = n := by
  rw [wrapI_eq]; simp [IntKind.wrap, IntKind.bits, IntKind.signed]; omega
theorem wrap8 {x : Int} (h0 : 0 ≤ x) (h1 : x ≤ 255) : wrapI .u8 x = x := wrap8' h0 (by omega)
theorem one_eq' {u : Nat} : ({ data := #[UInt8.ofNat (48 + (u : Int) % 10).toNat] } : ByteArray) = sb [dch (u % 10)] := by
  have e1 : (48 + (u : Int) % 10).toNat = 48 + u % 10 := by omega
  rw [e1]
  rfl
theorem one_eq {u : Nat} : ({ data := #[UInt8.ofNat (48 + (u : Int)).toNat] } : ByteArray) = sb [dch u] := by
  have e1 : (48 + (u : Int)).toNat = 48 + u := by omega
  rw [e1]
  rfl
theorem two_eq {n : Nat} : ({ data := #[UInt8.ofNat (48 + (n : Int) / 10).toNat, UInt8.ofNat (48 + (n : Int) % 10).toNat] } : ByteArray) = sb (twoL n) := by
  have e1 : (48 + (n : Int) / 10).toNat = 48 + ((n : Int) / 10).toNat := by omega
  have e2 : (48 + (n : Int) % 10).toNat = 48 + ((n : Int) % 10).toNat := by omega
  rw [e1, e2]
  rfl
theorem two_pure (n : Nat) (hn : n < 100) : Pure Tryd.prog 14 [.int .i64 n] (.str (sb (twoL n))) := by
  have q1 : wrapI .i64 ((n : Int) / 10) = (n : Int) / 10 := wrap_in (by omega) (by omega)
  have q2 : ((n : Int)).tmod 10 = (n : Int) % 10 := Int.tmod_eq_emod_of_nonneg (by omega)
  have w1 : wrapI .i64 (48 + (n : Int) / 10) = 48 + (n : Int) / 10 := wrap_in (by omega) (by omega)
  have w2 : wrapI .i64 (48 + (n : Int) % 10) = 48 + (n : Int) % 10 := wrap_in (by omega) (by omega)
  have w3 := wrap8 (x := 48 + (n : Int) / 10) (by omega) (by omega)
  have w4 := wrap8 (x := 48 + (n : Int) % 10) (by omega) (by omega)
  refine pure_of mixed Tryd.func14 rfl (by kernel_rfl) (of_decide_eq_true rfl) (by kernel_rfl) (vc_run ?_)
  ((try simp -implicitDefEqProofs [-loopQ_n, q1, q2, w1, w2, w3, w4, unbytes]) <;> (repeat' (first | (refine condD_dec ?_ ?_ <;> (intro hc; (try simp -implicitDefEqProofs [-loopQ_n, hc, q1, q2, w1, w2, w3, w4, unbytes]))) | (refine guardD_dec ?_ ?_ <;> (intro hc; (try simp -implicitDefEqProofs [-loopQ_n, hc, q1, q2, w1, w2, w3, w4, unbytes]))) | (refine condD_intro ?_ ?_ <;> (intro hd; have hc := hd; (try simp at hc) <;> (try simp -implicitDefEqProofs [-loopQ_n, hd, hc, q1, q2, w1, w2, w3, w4, unbytes]))) | (refine guardD_intro ?_ ?_ <;> (intro hd; have hc := hd; (try simp at hc) <;> (try simp -implicitDefEqProofs [-loopQ_n, hd, hc, q1, q2, w1, w2, w3, w4, unbytes]))) | (refine ldD_ep ?_ ?_; (focus kernel_rfl); (try simp -implicitDefEqProofs [-loopQ_n, q1, q2, w1, w2, w3, w4, unbytes])))))
  exact two_eq
theorem rtwo_pure (n : Nat) (hn : n < 100) : Pure Tryd.prog 17 [.int .i64 n] (.str (sb (twoL n))) := by
  have q1 : wrapI .i64 ((n : Int) / 10) = (n : Int) / 10 := wrap_in (by omega) (by omega)
  have q2 : ((n : Int)).tmod 10 = (n : Int) % 10 := Int.tmod_eq_emod_of_nonneg (by omega)
  have w1 : wrapI .i64 (48 + (n : Int) / 10) = 48 + (n : Int) / 10 := wrap_in (by omega) (by omega)
  have w2 : wrapI .i64 (48 + (n : Int) % 10) = 48 + (n : Int) % 10 := wrap_in (by omega) (by omega)
  have w3 := wrap8 (x := 48 + (n : Int) / 10) (by omega) (by omega)
  have w4 := wrap8 (x := 48 + (n : Int) % 10) (by omega) (by omega)
  refine pure_of mixed Tryd.func17 rfl (by kernel_rfl) (of_decide_eq_true rfl) (by kernel_rfl) (vc_run ?_)
  ((try simp -implicitDefEqProofs [-loopQ_n, q1, q2, w1, w2, w3, w4, unbytes]) <;> (repeat' (first | (refine condD_dec ?_ ?_ <;> (intro hc; (try simp -implicitDefEqProofs [-loopQ_n, hc, q1, q2, w1, w2, w3, w4, unbytes]))) | (refine guardD_dec ?_ ?_ <;> (intro hc; (try simp -implicitDefEqProofs [-loopQ_n, hc, q1, q2, w1, w2, w3, w4, unbytes]))) | (refine condD_intro ?_ ?_ <;> (intro hd; have hc := hd; (try simp at hc) <;> (try simp -implicitDefEqProofs [-loopQ_n, hd, hc, q1, q2, w1, w2, w3, w4, unbytes]))) | (refine guardD_intro ?_ ?_ <;> (intro hd; have hc := hd; (try simp at hc) <;> (try simp -implicitDefEqProofs [-loopQ_n, hd, hc, q1, q2, w1, w2, w3, w4, unbytes]))) | (refine ldD_ep ?_ ?_; (focus kernel_rfl); (try simp -implicitDefEqProofs [-loopQ_n, q1, q2, w1, w2, w3, w4, unbytes])))))
  exact two_eq
/-- Decimal: the digits so far stand behind those to come. -/
theorem rdec_pure (n : Nat) (hn : n ≤ 1099511627776) : Pure Tryd.prog 16 [.int .i64 n] (.str (sb (Lib.decDigits n))) := by
  obtain ⟨R, hR⟩ : ∃ R, Lib.decDigits n = R := ⟨_, rfl⟩
  have hRl : R.length ≤ 13 := by
    rw [← hR]
    refine (dec_ok n).2.2.2.2.2 12 ?_
    have : p10 13 = 10000000000000 := by decide
    rw [this]; omega
  rw [hR]
  refine pure_of mixed Tryd.func16 rfl (by kernel_rfl) (of_decide_eq_true rfl) (by kernel_rfl) (vc_run ?_)
  ((try simp -implicitDefEqProofs [-loopQ_n]) <;> (repeat' (first | (refine condD_dec ?_ ?_ <;> (intro hc; (try simp -implicitDefEqProofs [-loopQ_n, hc]))) | (refine guardD_dec ?_ ?_ <;> (intro hc; (try simp -implicitDefEqProofs [-loopQ_n, hc]))) | (refine condD_intro ?_ ?_ <;> (intro hd; have hc := hd; (try simp at hc) <;> (try simp -implicitDefEqProofs [-loopQ_n, hd, hc]))) | (refine guardD_intro ?_ ?_ <;> (intro hd; have hc := hd; (try simp at hc) <;> (try simp -implicitDefEqProofs [-loopQ_n, hd, hc]))) | (refine ldD_ep ?_ ?_; (focus kernel_rfl); (try simp -implicitDefEqProofs [-loopQ_n])))))
  refine loop_intro (σ := Nat × Bt) (fun x => ⟨[(0, .int .i64 x.1), (3, .str (sb x.2))], []⟩) (fun x => x.1 ≤ 1099511627776 ∧ Lib.decDigits x.1 ++ x.2 = R) (fun x => x.1) (n, []) ⟨hn, by simpa using hR⟩ ?_ ?_
  · refine weak_of 0 0 rfl rfl ?_ ?_ <;> simp [sb]
  rintro ⟨u, acc⟩ ⟨h1, h3⟩
  simp only at h1 h3
  have h2 : acc.length ≤ R.length := by rw [← h3]; simp
  by_cases h : u < 10
  · have g1 : ¬ (9 : Int) < u := by omega
    have w2 : wrapI .i64 (48 + (u : Int)) = 48 + (u : Int) := wrap_in (by omega) (by omega)
    have w4 := wrap8 (x := 48 + (u : Int)) (by omega) (by omega)
    rw [dec_lt h] at h3
    have e1 := one_eq (u := u)
    have e2 : 1 + acc.length ≤ 1073741824 := by omega
    ((try simp -implicitDefEqProofs [-loopQ_n, g1, w2, w4, e1, e2, unbytes, sb_size, sb_app]) <;> (repeat' (first | (refine condD_dec ?_ ?_ <;> (intro hc; (try simp -implicitDefEqProofs [-loopQ_n, hc, g1, w2, w4, e1, e2, unbytes, sb_size, sb_app]))) | (refine guardD_dec ?_ ?_ <;> (intro hc; (try simp -implicitDefEqProofs [-loopQ_n, hc, g1, w2, w4, e1, e2, unbytes, sb_size, sb_app]))) | (refine condD_intro ?_ ?_ <;> (intro hd; have hc := hd; (try simp at hc) <;> (try simp -implicitDefEqProofs [-loopQ_n, hd, hc, g1, w2, w4, e1, e2, unbytes, sb_size, sb_app]))) | (refine guardD_intro ?_ ?_ <;> (intro hd; have hc := hd; (try simp at hc) <;> (try simp -implicitDefEqProofs [-loopQ_n, hd, hc, g1, w2, w4, e1, e2, unbytes, sb_size, sb_app]))) | (refine ldD_ep ?_ ?_; (focus kernel_rfl); (try simp -implicitDefEqProofs [-loopQ_n, g1, w2, w4, e1, e2, unbytes, sb_size, sb_app])))))
    rw [← h3]
    rfl
  · have g1 : (9 : Int) < u := by omega
    have q1 : wrapI .i64 ((u : Int) / 10) = (u : Int) / 10 := wrap_in (by omega) (by omega)
    have q2 : ((u : Int)).tmod 10 = (u : Int) % 10 := Int.tmod_eq_emod_of_nonneg (by omega)
    have w2 : wrapI .i64 (48 + (u : Int) % 10) = 48 + (u : Int) % 10 := wrap_in (by omega) (by omega)
    have w4 := wrap8 (x := 48 + (u : Int) % 10) (by omega) (by omega)
    rw [dec_ge h] at h3
    have e1 := one_eq' (u := u)
    have e2 : 1 + acc.length ≤ 1073741824 := by omega
    ((try simp -implicitDefEqProofs [-loopQ_n, g1, q1, q2, w2, w4, e1, e2, unbytes, sb_size, sb_app]) <;> (repeat' (first | (refine condD_dec ?_ ?_ <;> (intro hc; (try simp -implicitDefEqProofs [-loopQ_n, hc, g1, q1, q2, w2, w4, e1, e2, unbytes, sb_size, sb_app]))) | (refine guardD_dec ?_ ?_ <;> (intro hc; (try simp -implicitDefEqProofs [-loopQ_n, hc, g1, q1, q2, w2, w4, e1, e2, unbytes, sb_size, sb_app]))) | (refine condD_intro ?_ ?_ <;> (intro hd; have hc := hd; (try simp at hc) <;> (try simp -implicitDefEqProofs [-loopQ_n, hd, hc, g1, q1, q2, w2, w4, e1, e2, unbytes, sb_size, sb_app]))) | (refine guardD_intro ?_ ?_ <;> (intro hd; have hc := hd; (try simp at hc) <;> (try simp -implicitDefEqProofs [-loopQ_n, hd, hc, g1, q1, q2, w2, w4, e1, e2, unbytes, sb_size, sb_app]))) | (refine ldD_ep ?_ ?_; (focus kernel_rfl); (try simp -implicitDefEqProofs [-loopQ_n, g1, q1, q2, w2, w4, e1, e2, unbytes, sb_size, sb_app])))))
    refine loop_next (u / 10, dch (u % 10) :: acc) ⟨by simp only; omega, by rw [← h3, List.append_assoc]; rfl⟩ (by simp only; omega) (weak_of 0 0 rfl rfl ?_ ?_) <;> simp [q1]
set_option maxHeartbeats 4000000 in
theorem digits_pure (s : ByteArray) (most : Nat) (hm : most ≤ 9) : Pure Tryd.prog 19 [.str s, .int .i64 most] (.tup [.int .i64 (digR (bl s) most).1, .bool (digR (bl s) most).2]) := by
  have hbl : (bl s).length = s.size := by simp [bl]
  by_cases h0 : s.size = 0
  · have e : digR (bl s) most = (0, false) := by unfold digR; rw [if_pos (.inl (List.eq_nil_of_length_eq_zero (by omega)))]
    rw [e]
    have hs : s.toList.isEmpty = true := by
      have hs : s.toList = [] := by rw [ba_toList]; exact List.eq_nil_of_length_eq_zero (by rw [hbl]; exact h0)
      rw [hs]; rfl
    refine pure_of mixed Tryd.func19 rfl (by kernel_rfl) (of_decide_eq_true rfl) (by kernel_rfl) (vc_run ?_)
    ((try simp -implicitDefEqProofs [-loopQ_n, hs]) <;> (repeat' (first | (refine condD_dec ?_ ?_ <;> (intro hc; (try simp -implicitDefEqProofs [-loopQ_n, hc, hs]))) | (refine guardD_dec ?_ ?_ <;> (intro hc; (try simp -implicitDefEqProofs [-loopQ_n, hc, hs]))) | (refine condD_intro ?_ ?_ <;> (intro hd; have hc := hd; (try simp at hc) <;> (try simp -implicitDefEqProofs [-loopQ_n, hd, hc, hs]))) | (refine guardD_intro ?_ ?_ <;> (intro hd; have hc := hd; (try simp at hc) <;> (try simp -implicitDefEqProofs [-loopQ_n, hd, hc, hs]))) | (refine ldD_ep ?_ ?_; (focus kernel_rfl); (try simp -implicitDefEqProofs [-loopQ_n, hs])))))
  by_cases h1 : most < s.size
  · have e : digR (bl s) most = (0, false) := by unfold digR; rw [if_pos (.inr (by omega))]
    rw [e]
    have hs : s.toList.isEmpty = false := by
      cases q : s.toList with
      | cons _ _ => rfl
      | nil => rw [ba_toList] at q; rw [show bl s = [] from q] at hbl; exact absurd hbl.symm h0
    have h1' : (most : Int) < s.size := by omega
    refine pure_of mixed Tryd.func19 rfl (by kernel_rfl) (of_decide_eq_true rfl) (by kernel_rfl) (vc_run ?_)
    ((try simp -implicitDefEqProofs [-loopQ_n, hs, h1']) <;> (repeat' (first | (refine condD_dec ?_ ?_ <;> (intro hc; (try simp -implicitDefEqProofs [-loopQ_n, hc, hs, h1']))) | (refine guardD_dec ?_ ?_ <;> (intro hc; (try simp -implicitDefEqProofs [-loopQ_n, hc, hs, h1']))) | (refine condD_intro ?_ ?_ <;> (intro hd; have hc := hd; (try simp at hc) <;> (try simp -implicitDefEqProofs [-loopQ_n, hd, hc, hs, h1']))) | (refine guardD_intro ?_ ?_ <;> (intro hd; have hc := hd; (try simp at hc) <;> (try simp -implicitDefEqProofs [-loopQ_n, hd, hc, hs, h1']))) | (refine ldD_ep ?_ ?_; (focus kernel_rfl); (try simp -implicitDefEqProofs [-loopQ_n, hs, h1'])))))
  have hs : s.toList.isEmpty = false := by
    cases q : s.toList with
    | cons _ _ => rfl
    | nil => rw [ba_toList] at q; rw [show bl s = [] from q] at hbl; exact absurd hbl.symm h0
  have h1' : ¬ (most : Int) < s.size := by omega
  have e : digR (bl s) most = if (bl s).all dg = true then (val 0 (bl s), true) else (0, false) := by
    unfold digR
    rw [if_neg]
    rintro (q | q)
    · rw [q] at hbl; simp at hbl; omega
    · omega
  obtain ⟨R, hR⟩ : ∃ R, (if (bl s).all dg = true then (val 0 (bl s), true) else ((0 : Int), false)) = R := ⟨_, rfl⟩
  have r1 : (bl s).all dg = true → R = (val 0 (bl s), true) := fun h => by rw [← hR, if_pos h]
  have r2 : ∀ i (h : i < (bl s).length), dg (bl s)[i] = false → R = (0, false) := fun i h hd => by
    rw [← hR, if_neg]
    intro q
    rw [all_get q h] at hd; cases hd
  rw [e, hR]
  clear hR e
  have hbr : (bytesRows s).length = s.size := by simp [bytesRows]
  refine pure_of mixed Tryd.func19 rfl (by kernel_rfl) (of_decide_eq_true rfl) (by kernel_rfl) (vc_run ?_)
  ((try simp -implicitDefEqProofs [-loopQ_n, hs, h1', h1, hbr]) <;> (repeat' (first | (refine condD_dec ?_ ?_ <;> (intro hc; (try simp -implicitDefEqProofs [-loopQ_n, hc, hs, h1', h1, hbr]))) | (refine guardD_dec ?_ ?_ <;> (intro hc; (try simp -implicitDefEqProofs [-loopQ_n, hc, hs, h1', h1, hbr]))) | (refine condD_intro ?_ ?_ <;> (intro hd; have hc := hd; (try simp at hc) <;> (try simp -implicitDefEqProofs [-loopQ_n, hd, hc, hs, h1', h1, hbr]))) | (refine guardD_intro ?_ ?_ <;> (intro hd; have hc := hd; (try simp at hc) <;> (try simp -implicitDefEqProofs [-loopQ_n, hd, hc, hs, h1', h1, hbr]))) | (refine ldD_ep ?_ ?_; (focus kernel_rfl); (try simp -implicitDefEqProofs [-loopQ_n, hs, h1', h1, hbr])))))
  refine loop_intro (σ := Nat × Int) (fun x => ⟨[(6, .int .i64 x.2), (18, .rs (bytesRows s)), (19, .int .i64 s.size), (20, .int .i64 x.1)], []⟩) (fun x => x.1 ≤ s.size ∧ ((bl s).take x.1).all dg = true ∧ val 0 ((bl s).take x.1) = x.2) (fun x => s.size - x.1) (0, 0) ⟨by simp, by simp, by simp [val]⟩ ?_ ?_
  · refine weak_of 0 0 rfl rfl ?_ ?_ <;> simp [hbr]
  rintro ⟨i, n⟩ ⟨hi, hd, hn⟩
  simp only at hi hd hn
  by_cases h : i < s.size
  · have hil : i < (bl s).length := by omega
    have w1 : wrapI .i64 ((i : Int) + 1) = (i : Int) + 1 := wrap_in (by omega) (by omega)
    obtain ⟨c, hc⟩ : ∃ c, (bl s)[i] = c := ⟨_, rfl⟩
    have hrow : (bytesRows s)[i]? = some [.int .u8 c.toNat] := by
      show (List.map _ (bl s))[i]? = _
      rw [List.getElem?_map, List.getElem?_eq_getElem hil, hc]; rfl
    have hrowE : (bytesRows s)[i]'(by omega) = [.int .u8 c.toNat] := by rw [List.getElem?_eq_getElem (by omega)] at hrow; exact Option.some.inj hrow
    have r3 := r2 i hil
    rw [hc] at r3
    by_cases d1 : (c.toNat : Int) < 48
    · have := r3 (by simp [dg]; omega)
      subst this
      ((try simp -implicitDefEqProofs [-loopQ_n, h, hbr, hrow, hrowE, d1]) <;> (repeat' (first | (refine condD_dec ?_ ?_ <;> (intro hc; (try simp -implicitDefEqProofs [-loopQ_n, hc, h, hbr, hrow, hrowE, d1]))) | (refine guardD_dec ?_ ?_ <;> (intro hc; (try simp -implicitDefEqProofs [-loopQ_n, hc, h, hbr, hrow, hrowE, d1]))) | (refine condD_intro ?_ ?_ <;> (intro hd; have hc := hd; (try simp at hc) <;> (try simp -implicitDefEqProofs [-loopQ_n, hd, hc, h, hbr, hrow, hrowE, d1]))) | (refine guardD_intro ?_ ?_ <;> (intro hd; have hc := hd; (try simp at hc) <;> (try simp -implicitDefEqProofs [-loopQ_n, hd, hc, h, hbr, hrow, hrowE, d1]))) | (refine ldD_ep ?_ ?_; (focus kernel_rfl); (try simp -implicitDefEqProofs [-loopQ_n, h, hbr, hrow, hrowE, d1])))))
    by_cases d2 : (57 : Int) < c.toNat
    · have := r3 (by simp [dg]; omega)
      subst this
      ((try simp -implicitDefEqProofs [-loopQ_n, h, hbr, hrow, hrowE, d1, d2]) <;> (repeat' (first | (refine condD_dec ?_ ?_ <;> (intro hc; (try simp -implicitDefEqProofs [-loopQ_n, hc, h, hbr, hrow, hrowE, d1, d2]))) | (refine guardD_dec ?_ ?_ <;> (intro hc; (try simp -implicitDefEqProofs [-loopQ_n, hc, h, hbr, hrow, hrowE, d1, d2]))) | (refine condD_intro ?_ ?_ <;> (intro hd; have hc := hd; (try simp at hc) <;> (try simp -implicitDefEqProofs [-loopQ_n, hd, hc, h, hbr, hrow, hrowE, d1, d2]))) | (refine guardD_intro ?_ ?_ <;> (intro hd; have hc := hd; (try simp at hc) <;> (try simp -implicitDefEqProofs [-loopQ_n, hd, hc, h, hbr, hrow, hrowE, d1, d2]))) | (refine ldD_ep ?_ ?_; (focus kernel_rfl); (try simp -implicitDefEqProofs [-loopQ_n, h, hbr, hrow, hrowE, d1, d2])))))
    have hdc : dg c = true := by rw [dg_iff]; omega
    have htk : (bl s).take (i + 1) = (bl s).take i ++ [c] := by rw [← hc]; exact (List.take_append_getElem hil).symm
    have hd' : ((bl s).take (i + 1)).all dg = true := by rw [htk]; simp [hd, hdc]
    have hv' : val 0 ((bl s).take (i + 1)) = 10 * n + dv c := by rw [htk, val_snoc, hn]
    have b1 := val0_bd hd (by simp; omega)
    rw [hn] at b1
    have hdv : (c.toNat : Int) - 48 = dv c := rfl
    have hdb := dv_bd hdc
    have w2 : wrapI .u8 ((c.toNat : Int) - 48) = dv c := by rw [wrap8 (by omega) (by omega)]; rfl
    have w3 : wrapI .i64 (dv c) = dv c := wrap_in (by omega) (by omega)
    have w4 : wrapI .i64 (10 * n) = 10 * n := wrap_in (by omega) (by omega)
    have w5 : wrapI .i64 (10 * n + dv c) = 10 * n + dv c := wrap_in (by omega) (by omega)
    ((try simp -implicitDefEqProofs [-loopQ_n, h, hbr, hrow, hrowE, d1, d2, w2, w3, w4, w5]) <;> (repeat' (first | (refine condD_dec ?_ ?_ <;> (intro hc; (try simp -implicitDefEqProofs [-loopQ_n, hc, h, hbr, hrow, hrowE, d1, d2, w2, w3, w4, w5]))) | (refine guardD_dec ?_ ?_ <;> (intro hc; (try simp -implicitDefEqProofs [-loopQ_n, hc, h, hbr, hrow, hrowE, d1, d2, w2, w3, w4, w5]))) | (refine condD_intro ?_ ?_ <;> (intro hd; have hc := hd; (try simp at hc) <;> (try simp -implicitDefEqProofs [-loopQ_n, hd, hc, h, hbr, hrow, hrowE, d1, d2, w2, w3, w4, w5]))) | (refine guardD_intro ?_ ?_ <;> (intro hd; have hc := hd; (try simp at hc) <;> (try simp -implicitDefEqProofs [-loopQ_n, hd, hc, h, hbr, hrow, hrowE, d1, d2, w2, w3, w4, w5]))) | (refine ldD_ep ?_ ?_; (focus kernel_rfl); (try simp -implicitDefEqProofs [-loopQ_n, h, hbr, hrow, hrowE, d1, d2, w2, w3, w4, w5])))))
    refine loop_next (i + 1, 10 * n + dv c) ⟨by simp only; omega, List.all_eq_true.1 hd', hv'⟩ (by simp only; omega) (weak_of 0 0 rfl rfl ?_ ?_) <;> simp [w1]
  have hie : i = s.size := by omega
  subst hie
  rw [← hbl, List.take_length] at hd hn
  have := r1 hd
  subst this
  ((try simp -implicitDefEqProofs [-loopQ_n, h, hbr]) <;> (repeat' (first | (refine condD_dec ?_ ?_ <;> (intro hc; (try simp -implicitDefEqProofs [-loopQ_n, hc, h, hbr]))) | (refine guardD_dec ?_ ?_ <;> (intro hc; (try simp -implicitDefEqProofs [-loopQ_n, hc, h, hbr]))) | (refine condD_intro ?_ ?_ <;> (intro hd; have hc := hd; (try simp at hc) <;> (try simp -implicitDefEqProofs [-loopQ_n, hd, hc, h, hbr]))) | (refine guardD_intro ?_ ?_ <;> (intro hd; have hc := hd; (try simp at hc) <;> (try simp -implicitDefEqProofs [-loopQ_n, hd, hc, h, hbr]))) | (refine ldD_ep ?_ ?_; (focus kernel_rfl); (try simp -implicitDefEqProofs [-loopQ_n, h, hbr])))))
  all_goals exact hn.symm
end Go.Proofs.YtlnnboegghjdhaaDoor
