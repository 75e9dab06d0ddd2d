/- Noise is even (the law PrivacyEven holds for every input; no condition). -/
import Derived.Test.YtkppfaennogcmaaRows
import Derived.Test.YtkppfaennogcmaaPrvB
import Derived.Test.YtkppfaennogcmaaPrvG
import Derived.Test.YtkppfaennogcmaaPrvD
import Derived.Test.YtkppfaennogcmaaOpen
namespace Go.Proofs.Ytkppfaennogcmaa.lawPEven
set_option linter.unusedSimpArgs false
set_option linter.unusedVariables false
set_option linter.unnecessarySimpa false
set_option linter.unusedSectionVars false
open Go.ChangeShapes Go.WideShapes Go.ChangeAt Go.RowKit Go.Joins Go.Deep
section
variable [Glob]
set_option maxRecDepth 100000
def noiseV (R : Int × Int × Int) : AV := .tup [.int .i64 R.1, .int .i64 R.2.1, .int .i64 R.2.2]
set_option maxHeartbeats 16000000 in
theorem main (num d : Int) (l more : List UInt8) (ll : l.length ≤ 9223372036854775807) (lm : more.length ≤ 9223372036854775807) : Pure Try.prog 9 [.agg [.int .i64 num, .int .i64 d], .rs (rowsOf byC l), .rs (rowsOf byC more)] (.bool true) := by
  by_cases h1 : (100 : Int) < l.length
  · skip
    refine pure_of mixed Try.func9 rfl (by kernel_rfl) (of_decide_eq_true rfl) (by kernel_rfl) (vc_run ?_)
    ((try simp -implicitDefEqProofs [-loopQ_n, h1]) <;> (repeat' (first | (refine condD_dec ?_ ?_ <;> (intro hc; (try simp -implicitDefEqProofs [-loopQ_n, hc, h1]))) | (refine guardD_dec ?_ ?_ <;> (intro hc; (try simp -implicitDefEqProofs [-loopQ_n, hc, h1]))) | (refine condD_intro ?_ ?_ <;> (intro hd; have hc := hd; (try simp at hc) <;> (try simp -implicitDefEqProofs [-loopQ_n, hd, hc, h1]))) | (refine guardD_intro ?_ ?_ <;> (intro hd; have hc := hd; (try simp at hc) <;> (try simp -implicitDefEqProofs [-loopQ_n, hd, hc, h1]))) | (refine ldD_ep ?_ ?_; (focus kernel_rfl); (try simp -implicitDefEqProofs [-loopQ_n, h1])) | (refine callS_mk ?_; (try simp -implicitDefEqProofs [-loopQ_n, h1]); (first | refine callS_intro (awake_pure) (.inl rfl) ?_); (try simp -implicitDefEqProofs [-loopQ_n, h1])))))
  by_cases h2 : (100 : Int) < more.length
  · skip
    refine pure_of mixed Try.func9 rfl (by kernel_rfl) (of_decide_eq_true rfl) (by kernel_rfl) (vc_run ?_)
    ((try simp -implicitDefEqProofs [-loopQ_n, h1, h2]) <;> (repeat' (first | (refine condD_dec ?_ ?_ <;> (intro hc; (try simp -implicitDefEqProofs [-loopQ_n, hc, h1, h2]))) | (refine guardD_dec ?_ ?_ <;> (intro hc; (try simp -implicitDefEqProofs [-loopQ_n, hc, h1, h2]))) | (refine condD_intro ?_ ?_ <;> (intro hd; have hc := hd; (try simp at hc) <;> (try simp -implicitDefEqProofs [-loopQ_n, hd, hc, h1, h2]))) | (refine guardD_intro ?_ ?_ <;> (intro hd; have hc := hd; (try simp at hc) <;> (try simp -implicitDefEqProofs [-loopQ_n, hd, hc, h1, h2]))) | (refine ldD_ep ?_ ?_; (focus kernel_rfl); (try simp -implicitDefEqProofs [-loopQ_n, h1, h2])) | (refine callS_mk ?_; (try simp -implicitDefEqProofs [-loopQ_n, h1, h2]); (first | refine callS_intro (awake_pure) (.inl rfl) ?_); (try simp -implicitDefEqProofs [-loopQ_n, h1, h2])))))
  have hA := Noise_pure num d l (by omega)
  by_cases h3 : (noiseR num d l).2.2 = 0
  rotate_left
  · obtain ⟨e1, e2, e3⟩ := noiseR_errs num d l (by omega) h3
    generalize noiseR num d l = R at *
    rcases e3 with e3 | e3 | e3
    · skip
      refine pure_of mixed Try.func9 rfl (by kernel_rfl) (of_decide_eq_true rfl) (by kernel_rfl) (vc_run ?_)
      ((try simp -implicitDefEqProofs [-loopQ_n, h1, h2, e1, e2, e3]) <;> (repeat' (first | (refine condD_dec ?_ ?_ <;> (intro hc; (try simp -implicitDefEqProofs [-loopQ_n, hc, h1, h2, e1, e2, e3]))) | (refine guardD_dec ?_ ?_ <;> (intro hc; (try simp -implicitDefEqProofs [-loopQ_n, hc, h1, h2, e1, e2, e3]))) | (refine condD_intro ?_ ?_ <;> (intro hd; have hc := hd; (try simp at hc) <;> (try simp -implicitDefEqProofs [-loopQ_n, hd, hc, h1, h2, e1, e2, e3]))) | (refine guardD_intro ?_ ?_ <;> (intro hd; have hc := hd; (try simp at hc) <;> (try simp -implicitDefEqProofs [-loopQ_n, hd, hc, h1, h2, e1, e2, e3]))) | (refine ldD_ep ?_ ?_; (focus kernel_rfl); (try simp -implicitDefEqProofs [-loopQ_n, h1, h2, e1, e2, e3])) | (refine callS_mk ?_; (try simp -implicitDefEqProofs [-loopQ_n, h1, h2, e1, e2, e3]); (first | refine callS_intro (awake_pure) (.inl rfl) ?_ | refine callS_intro (hA) (.inl rfl) ?_); (try simp -implicitDefEqProofs [-loopQ_n, h1, h2, e1, e2, e3])))))
    · skip
      refine pure_of mixed Try.func9 rfl (by kernel_rfl) (of_decide_eq_true rfl) (by kernel_rfl) (vc_run ?_)
      ((try simp -implicitDefEqProofs [-loopQ_n, h1, h2, e1, e2, e3]) <;> (repeat' (first | (refine condD_dec ?_ ?_ <;> (intro hc; (try simp -implicitDefEqProofs [-loopQ_n, hc, h1, h2, e1, e2, e3]))) | (refine guardD_dec ?_ ?_ <;> (intro hc; (try simp -implicitDefEqProofs [-loopQ_n, hc, h1, h2, e1, e2, e3]))) | (refine condD_intro ?_ ?_ <;> (intro hd; have hc := hd; (try simp at hc) <;> (try simp -implicitDefEqProofs [-loopQ_n, hd, hc, h1, h2, e1, e2, e3]))) | (refine guardD_intro ?_ ?_ <;> (intro hd; have hc := hd; (try simp at hc) <;> (try simp -implicitDefEqProofs [-loopQ_n, hd, hc, h1, h2, e1, e2, e3]))) | (refine ldD_ep ?_ ?_; (focus kernel_rfl); (try simp -implicitDefEqProofs [-loopQ_n, h1, h2, e1, e2, e3])) | (refine callS_mk ?_; (try simp -implicitDefEqProofs [-loopQ_n, h1, h2, e1, e2, e3]); (first | refine callS_intro (awake_pure) (.inl rfl) ?_ | refine callS_intro (hA) (.inl rfl) ?_); (try simp -implicitDefEqProofs [-loopQ_n, h1, h2, e1, e2, e3])))))
    · skip
      refine pure_of mixed Try.func9 rfl (by kernel_rfl) (of_decide_eq_true rfl) (by kernel_rfl) (vc_run ?_)
      ((try simp -implicitDefEqProofs [-loopQ_n, h1, h2, e1, e2, e3]) <;> (repeat' (first | (refine condD_dec ?_ ?_ <;> (intro hc; (try simp -implicitDefEqProofs [-loopQ_n, hc, h1, h2, e1, e2, e3]))) | (refine guardD_dec ?_ ?_ <;> (intro hc; (try simp -implicitDefEqProofs [-loopQ_n, hc, h1, h2, e1, e2, e3]))) | (refine condD_intro ?_ ?_ <;> (intro hd; have hc := hd; (try simp at hc) <;> (try simp -implicitDefEqProofs [-loopQ_n, hd, hc, h1, h2, e1, e2, e3]))) | (refine guardD_intro ?_ ?_ <;> (intro hd; have hc := hd; (try simp at hc) <;> (try simp -implicitDefEqProofs [-loopQ_n, hd, hc, h1, h2, e1, e2, e3]))) | (refine ldD_ep ?_ ?_; (focus kernel_rfl); (try simp -implicitDefEqProofs [-loopQ_n, h1, h2, e1, e2, e3])) | (refine callS_mk ?_; (try simp -implicitDefEqProofs [-loopQ_n, h1, h2, e1, e2, e3]); (first | refine callS_intro (awake_pure) (.inl rfl) ?_ | refine callS_intro (hA) (.inl rfl) ?_); (try simp -implicitDefEqProofs [-loopQ_n, h1, h2, e1, e2, e3])))))
  obtain ⟨U, hU, hN⟩ := noiseR_ok h3
  obtain ⟨p, b, rest, hb1, hb2, hT⟩ := hN.took
  obtain ⟨q, hq⟩ : ∃ q, q = p.length / 8 := ⟨_, rfl⟩
  obtain ⟨k, hk⟩ : ∃ k, k = p.length % 8 := ⟨_, rfl⟩
  have hpk : p.length = 8 * q + k := by omega
  have hk8 : k < 8 := by omega
  have hlen := congrArg List.length hb1
  rw [bitsL_len] at hlen
  simp only [List.length_append, List.length_cons] at hlen
  have hql : q < l.length := by omega
  obtain ⟨hpe, hbe⟩ := bits_at hql hk8 hb1 hpk
  obtain ⟨t1, t2⟩ := turn_spec l[q] k hk8
  obtain ⟨f1, f2⟩ := flip_spec (turnB l[q] k) k hk8
  have t4 : (bitsB (turnB l[q] k)).take (k + 1) = (bitsB l[q]).take k ++ [b] := by rw [t2, take_bit hk8, hbe]
  have t3 : (bitsB (turnB l[q] k)).take k = (bitsB l[q]).take k ∧ bitC (turnB l[q] k) k = bitC l[q] k := by
    have h : (bitsB (turnB l[q] k)).take k ++ [bitC (turnB l[q] k) k] = (bitsB l[q]).take k ++ [bitC l[q] k] := by rw [← take_bit hk8, ← take_bit hk8, t2]
    have := List.append_inj h (by simp [bitsB_len])
    exact ⟨this.1, by simpa using this.2⟩
  have f3 : (bitsB (flipB (turnB l[q] k) k)).take (k + 1) = (bitsB l[q]).take k ++ [!b] := by rw [f2, t3.1, t3.2, hbe]
  obtain ⟨y1, hy1⟩ := bits_mk (l := l) hql hk8 t4 more
  obtain ⟨y2, hy2⟩ := bits_mk (l := l) hql hk8 f3 more
  rw [← hpe] at hy1 hy2
  obtain ⟨c, hc⟩ : ∃ c, l[q] = c := ⟨_, rfl⟩
  rw [hc] at t1 f1 hy1 hy2
  clear t2 t3 t4 f2 f3
  obtain ⟨c1, hc1⟩ : ∃ c1, turnB c k = c1 := ⟨_, rfl⟩
  rw [hc1] at t1 f1 hy1 hy2
  obtain ⟨c2, hc2⟩ : ∃ c2, flipB c1 k = c2 := ⟨_, rfl⟩
  rw [hc2] at f1 hy2
  have hB1 := Noise_pure num d (l.take q ++ c1 :: more) (by simp; omega)
  have hB2 := Noise_pure num d (l.take q ++ c2 :: more) (by simp; omega)
  have hB3 := Noise_pure num d (l.take q) (by simp; omega)
  have hle : ∀ x : UInt8, (l.take q ++ x :: more).length ≤ 16384 := fun x => by simp; omega
  have hz : ∀ x : UInt8, ∀ b' (y : List Bool), bitsL (l.take q ++ x :: more) = p ++ b' :: y → 8 * ((l.take q ++ x :: more).length : Int) - y.length = (U : Int) := fun x b' y h => by
    have := congrArg List.length h
    rw [bitsL_len] at this
    simp only [List.length_append, List.length_cons] at this ⊢
    omega
  have e1 : noiseR num d (l.take q ++ c1 :: more) = ((noiseR num d l).1, (U : Int), 0) := by
    rw [noiseR_of hN (hle c1), hy1, hT.same y1 _ (by rw [← hy1, bitsL_len]; omega)]
    simp only [Bool.false_eq_true, if_false]
    rw [hz c1 b y1 hy1]
  have e3 : k = 0 → (noiseR num d (l.take q)).2.2 = 4 := fun h0 => by
    have hp0 : bitsL (l.take q) = p := by rw [hpe, h0]; simp
    rw [noiseR_of hN (by simp; omega), hp0, hT.less _ (by rw [← hp0, bitsL_len]; omega)]
    rfl
  have e2 : ((noiseR num d l).1 ≠ 0 → noiseR num d (l.take q ++ c2 :: more) = (-(noiseR num d l).1, (U : Int), 0)) ∧
      ((noiseR num d l).1 = 0 → (noiseR num d (l.take q ++ c2 :: more)).2.2 = 4 ∨ ((noiseR num d (l.take q ++ c2 :: more)).2.2 = 0 ∧ (U : Int) < (noiseR num d (l.take q ++ c2 :: more)).2.1)) := by
    refine ⟨fun h0 => ?_, fun h0 => ?_⟩
    · rw [noiseR_of hN (hle c2), hy2, hT.turn h0 y2 _ (by rw [← hy2, bitsL_len]; omega)]
      simp only [Bool.false_eq_true, if_false]
      rw [hz c2 _ y2 hy2]
    · have := hT.anew h0 y2 (8 * (l.take q ++ c2 :: more).length + 1) (by rw [← hy2, bitsL_len]; omega)
      have hzz := hz c2 _ y2 hy2
      rw [noiseR_of hN (hle c2), hy2]
      rcases this with h | h
      · left; rw [if_pos h]
      · cases he : (noiseL d num (8 * (l.take q ++ c2 :: more).length + 1) (p ++ (!b) :: y2)).2.2 with
        | true => left; rw [if_pos rfl]
        | false => right; rw [if_neg (by simp)]; exact ⟨rfl, by simp only; omega⟩
  have hz0 := hN.zero
  have hbd : -1073741824 ≤ (noiseR num d l).1 ∧ (noiseR num d l).1 ≤ 1073741824 := by have := noiseR_bd num d l; omega
  obtain ⟨R, hR⟩ : ∃ R, noiseR num d l = R := ⟨_, rfl⟩
  obtain ⟨S, hS⟩ : ∃ S, noiseR num d (l.take q ++ c2 :: more) = S := ⟨_, rfl⟩
  obtain ⟨V, hV⟩ : ∃ V, noiseR num d (l.take q) = V := ⟨_, rfl⟩
  rw [e1] at hB1
  rw [hR] at hA hB1 h3 hU e2 hz0 hbd
  rw [hS] at hB2 e2
  rw [hV] at hB3 e3
  rw [hU, h3] at hA
  simp only at hB1
  clear hR hS hV hT hN hy1 hy2 hz hle hb1 hpe hbe hc1 hc2
  generalize hP : p.length = P at hb2 hpk hq hk hlen
  clear hP
  have w1 : wrapI .i64 (8 * (l.length : Int)) = 8 * l.length := wrap_in (by omega) (by omega)
  have w2 : wrapI .i64 ((U : Int) - 1) = (P : Int) := by rw [wrap_in (by omega) (by omega)]; omega
  have w3 : wrapI .i64 ((P : Int) / 8) = (q : Int) := by rw [wrap_in (by omega) (by omega)]; omega
  have w4 : wrapI .i64 ((q : Int) + 1) = (q : Int) + 1 := wrap_in (by omega) (by omega)
  have w5 : (P : Int).tmod 8 = (k : Int) := by rw [Int.tmod_eq_emod_of_nonneg (by omega)]; omega
  have w6 : wrapI .i64 ((k : Int) + 1) = (k : Int) + 1 := wrap_in (by omega) (by omega)
  have w7 : wrapI .i64 (-R.1) = -R.1 := wrap_in (by omega) (by omega)
  have g1 : ¬ (U : Int) < 1 := by omega
  have g2 : ¬ 8 * (l.length : Int) < U := by omega
  have g3 : (q : Int) + 1 ≤ l.length := by omega
  have g4 : (0 : Int) ≤ (q : Int) + 1 := by omega
  have g5 : (k : Int) + 1 ≤ 8 := by omega
  have g6 : (0 : Int) ≤ (k : Int) + 1 := by omega
  have g7 : ¬ 100 < l.length := by omega
  have g8 : (k : Int) ≤ 8 := by omega
  have q0 : (0 : Int) ≤ q := by omega
  have q1 : (q : Int) ≤ l.length := by omega
  have r2 : (rowsOf byC l).take q = rowsOf byC (l.take q) := rowsOf_take
  have hq2 : q < q + 1 + more.length := by omega
  have r1 : (rowsOf byC l).take (q + 1) = rowsOf byC (l.take (q + 1)) := rowsOf_take
  have hfl : [l.take (q + 1), more].flatten = l.take q ++ c :: more := by
    simp only [List.flatten_cons, List.flatten_nil, List.append_nil]
    rw [List.take_succ_eq_append_getElem hql, hc]; simp
  have hst : ∀ x y : UInt8, (l.take q ++ x :: more).set q y = l.take q ++ y :: more := fun x y => by
    rw [List.set_append_right _ _ (by simp; omega)]
    simp [show min q l.length = q by omega]
  have hgt : ∀ x : UInt8, (l.take q ++ x :: more)[q]? = some x := fun x => by
    rw [List.getElem?_append_right (by simp; omega)]
    simp [show min q l.length = q by omega]
  have hlen2 : ∀ x : UInt8, (l.take q ++ x :: more).length = q + 1 + more.length := fun x => by simp [show min q l.length = q by omega]; omega
  have hC := concatB_new [l.take (q + 1), more] (by simp) (by rw [hfl, hlen2]; omega) (by rw [hfl, hlen2]; omega)
  rw [hfl] at hC
  have hfb : ([Blk.row 5 false (rowsOf byC (l.take q ++ c :: more))].all flatB) = true := by
    simp only [List.all_cons, List.all_nil, Bool.and_true, flatB, rowsOf, List.all_map, List.all_eq_true]
    intro x _; rfl
  have hshl : ∀ (n : Nat) (x : List UInt8), (rowsOf byC x).map (shL n) = rowsOf byC x := fun n x => by
    simp only [rowsOf, List.map_map]; congr 1
  have hst1 : (rowsOf byC (l.take q ++ c :: more)).set q [.int .u8 c1.toNat] = rowsOf byC (l.take q ++ c1 :: more) := by
    rw [show [AV.int .u8 (c1.toNat : Int)] = byC c1 from rfl, rowsOf_set, hst]
  have hst2 : (rowsOf byC (l.take q ++ c1 :: more)).set q [.int .u8 c2.toNat] = rowsOf byC (l.take q ++ c2 :: more) := by
    rw [show [AV.int .u8 (c2.toNat : Int)] = byC c2 from rfl, rowsOf_set, hst]
  have hg0 := hgt c
  have hg1 := hgt c1
  have hl0 := hlen2 c
  have hl1 := hlen2 c1
  have hl2 := hlen2 c2
  clear hgt hlen2 hst hfl
  generalize l.take q ++ c :: more = X0 at *
  generalize l.take q ++ c1 :: more = X1 at *
  generalize l.take q ++ c2 :: more = X2 at *
  generalize q + 1 + more.length = N at *
  have hx0 : X0[q]'(by omega) = c := by have := List.getElem?_eq_getElem (l := X0) (i := q) (by omega); rw [hg0] at this; exact (Option.some.inj this).symm
  have hx1 : X1[q]'(by omega) = c1 := by have := List.getElem?_eq_getElem (l := X1) (i := q) (by omega); rw [hg1] at this; exact (Option.some.inj this).symm
  refine pure_of mixed Try.func9 rfl (by kernel_rfl) (of_decide_eq_true rfl) (by kernel_rfl) (vc_run ?_)
  by_cases hnum : num = 0
  · have hR0 := hz0 hnum
    subst hnum
    ((try simp -implicitDefEqProofs [-loopQ_n, h1, h2, w1, w2, w3, w4, w5, w6, w7, g1, g2, g3, g4, hR0, r1, by_allLen]) <;> (repeat' (first | (refine condD_dec ?_ ?_ <;> (intro hc; (try simp -implicitDefEqProofs [-loopQ_n, hc, h1, h2, w1, w2, w3, w4, w5, w6, w7, g1, g2, g3, g4, hR0, r1, by_allLen]))) | (refine guardD_dec ?_ ?_ <;> (intro hc; (try simp -implicitDefEqProofs [-loopQ_n, hc, h1, h2, w1, w2, w3, w4, w5, w6, w7, g1, g2, g3, g4, hR0, r1, by_allLen]))) | (refine condD_intro ?_ ?_ <;> (intro hd; have hc := hd; (try simp at hc) <;> (try simp -implicitDefEqProofs [-loopQ_n, hd, hc, h1, h2, w1, w2, w3, w4, w5, w6, w7, g1, g2, g3, g4, hR0, r1, by_allLen]))) | (refine guardD_intro ?_ ?_ <;> (intro hd; have hc := hd; (try simp at hc) <;> (try simp -implicitDefEqProofs [-loopQ_n, hd, hc, h1, h2, w1, w2, w3, w4, w5, w6, w7, g1, g2, g3, g4, hR0, r1, by_allLen]))) | (refine ldD_ep ?_ ?_; (focus kernel_rfl); (try simp -implicitDefEqProofs [-loopQ_n, h1, h2, w1, w2, w3, w4, w5, w6, w7, g1, g2, g3, g4, hR0, r1, by_allLen])) | (refine callS_mk ?_; (try simp -implicitDefEqProofs [-loopQ_n, h1, h2, w1, w2, w3, w4, w5, w6, w7, g1, g2, g3, g4, hR0, r1, by_allLen]); (first | refine callS_intro (awake_pure) (.inl rfl) ?_ | refine callS_intro (hA) (.inl rfl) ?_); (try simp -implicitDefEqProofs [-loopQ_n, h1, h2, w1, w2, w3, w4, w5, w6, w7, g1, g2, g3, g4, hR0, r1, by_allLen])))))
    by_cases hk0 : k = 0
    · have hV := e3 hk0
      have hk1 : (k = 0) = True := eq_true hk0
      rcases e2.2 hR0 with hS | ⟨hS, hS2⟩
      · refine new_intro hC (by simp [rowsOf, lstC]) (.inl ⟨by simp [flatO], hfb⟩) ?_
        ((try simp -implicitDefEqProofs [-loopQ_n, h1, h2, w1, w2, w3, w4, w5, w6, w7, shA, shB, hshl, hx0, hx1, hl0, hl1, hl2, hq2, g5, g6, g8, t1, f1, byC, hst1, hst2, by_reify, by_allLen, q0, q1, r2, hR0, hV, hk1, hS]) <;> (repeat' (first | (refine condD_dec ?_ ?_ <;> (intro hc; (try simp -implicitDefEqProofs [-loopQ_n, hc, h1, h2, w1, w2, w3, w4, w5, w6, w7, shA, shB, hshl, hx0, hx1, hl0, hl1, hl2, hq2, g5, g6, g8, t1, f1, byC, hst1, hst2, by_reify, by_allLen, q0, q1, r2, hR0, hV, hk1, hS]))) | (refine guardD_dec ?_ ?_ <;> (intro hc; (try simp -implicitDefEqProofs [-loopQ_n, hc, h1, h2, w1, w2, w3, w4, w5, w6, w7, shA, shB, hshl, hx0, hx1, hl0, hl1, hl2, hq2, g5, g6, g8, t1, f1, byC, hst1, hst2, by_reify, by_allLen, q0, q1, r2, hR0, hV, hk1, hS]))) | (refine condD_intro ?_ ?_ <;> (intro hd; have hc := hd; (try simp at hc) <;> (try simp -implicitDefEqProofs [-loopQ_n, hd, hc, h1, h2, w1, w2, w3, w4, w5, w6, w7, shA, shB, hshl, hx0, hx1, hl0, hl1, hl2, hq2, g5, g6, g8, t1, f1, byC, hst1, hst2, by_reify, by_allLen, q0, q1, r2, hR0, hV, hk1, hS]))) | (refine guardD_intro ?_ ?_ <;> (intro hd; have hc := hd; (try simp at hc) <;> (try simp -implicitDefEqProofs [-loopQ_n, hd, hc, h1, h2, w1, w2, w3, w4, w5, w6, w7, shA, shB, hshl, hx0, hx1, hl0, hl1, hl2, hq2, g5, g6, g8, t1, f1, byC, hst1, hst2, by_reify, by_allLen, q0, q1, r2, hR0, hV, hk1, hS]))) | (refine ldD_ep ?_ ?_; (focus kernel_rfl); (try simp -implicitDefEqProofs [-loopQ_n, h1, h2, w1, w2, w3, w4, w5, w6, w7, shA, shB, hshl, hx0, hx1, hl0, hl1, hl2, hq2, g5, g6, g8, t1, f1, byC, hst1, hst2, by_reify, by_allLen, q0, q1, r2, hR0, hV, hk1, hS])) | (refine callS_mk ?_; (try simp -implicitDefEqProofs [-loopQ_n, h1, h2, w1, w2, w3, w4, w5, w6, w7, shA, shB, hshl, hx0, hx1, hl0, hl1, hl2, hq2, g5, g6, g8, t1, f1, byC, hst1, hst2, by_reify, by_allLen, q0, q1, r2, hR0, hV, hk1, hS]); (first | refine callS_intro (awake_pure) (.inl rfl) ?_ | refine callS_intro (hA) (.inl rfl) ?_ | refine callS_intro (hB1) (.inl rfl) ?_ | refine callS_intro (hB2) (.inl rfl) ?_ | refine callS_intro (hB3) (.inl rfl) ?_); (try simp -implicitDefEqProofs [-loopQ_n, h1, h2, w1, w2, w3, w4, w5, w6, w7, shA, shB, hshl, hx0, hx1, hl0, hl1, hl2, hq2, g5, g6, g8, t1, f1, byC, hst1, hst2, by_reify, by_allLen, q0, q1, r2, hR0, hV, hk1, hS])))))
      · refine new_intro hC (by simp [rowsOf, lstC]) (.inl ⟨by simp [flatO], hfb⟩) ?_
        ((try simp -implicitDefEqProofs [-loopQ_n, h1, h2, w1, w2, w3, w4, w5, w6, w7, shA, shB, hshl, hx0, hx1, hl0, hl1, hl2, hq2, g5, g6, g8, t1, f1, byC, hst1, hst2, by_reify, by_allLen, q0, q1, r2, hR0, hV, hk1, hS, hS2]) <;> (repeat' (first | (refine condD_dec ?_ ?_ <;> (intro hc; (try simp -implicitDefEqProofs [-loopQ_n, hc, h1, h2, w1, w2, w3, w4, w5, w6, w7, shA, shB, hshl, hx0, hx1, hl0, hl1, hl2, hq2, g5, g6, g8, t1, f1, byC, hst1, hst2, by_reify, by_allLen, q0, q1, r2, hR0, hV, hk1, hS, hS2]))) | (refine guardD_dec ?_ ?_ <;> (intro hc; (try simp -implicitDefEqProofs [-loopQ_n, hc, h1, h2, w1, w2, w3, w4, w5, w6, w7, shA, shB, hshl, hx0, hx1, hl0, hl1, hl2, hq2, g5, g6, g8, t1, f1, byC, hst1, hst2, by_reify, by_allLen, q0, q1, r2, hR0, hV, hk1, hS, hS2]))) | (refine condD_intro ?_ ?_ <;> (intro hd; have hc := hd; (try simp at hc) <;> (try simp -implicitDefEqProofs [-loopQ_n, hd, hc, h1, h2, w1, w2, w3, w4, w5, w6, w7, shA, shB, hshl, hx0, hx1, hl0, hl1, hl2, hq2, g5, g6, g8, t1, f1, byC, hst1, hst2, by_reify, by_allLen, q0, q1, r2, hR0, hV, hk1, hS, hS2]))) | (refine guardD_intro ?_ ?_ <;> (intro hd; have hc := hd; (try simp at hc) <;> (try simp -implicitDefEqProofs [-loopQ_n, hd, hc, h1, h2, w1, w2, w3, w4, w5, w6, w7, shA, shB, hshl, hx0, hx1, hl0, hl1, hl2, hq2, g5, g6, g8, t1, f1, byC, hst1, hst2, by_reify, by_allLen, q0, q1, r2, hR0, hV, hk1, hS, hS2]))) | (refine ldD_ep ?_ ?_; (focus kernel_rfl); (try simp -implicitDefEqProofs [-loopQ_n, h1, h2, w1, w2, w3, w4, w5, w6, w7, shA, shB, hshl, hx0, hx1, hl0, hl1, hl2, hq2, g5, g6, g8, t1, f1, byC, hst1, hst2, by_reify, by_allLen, q0, q1, r2, hR0, hV, hk1, hS, hS2])) | (refine callS_mk ?_; (try simp -implicitDefEqProofs [-loopQ_n, h1, h2, w1, w2, w3, w4, w5, w6, w7, shA, shB, hshl, hx0, hx1, hl0, hl1, hl2, hq2, g5, g6, g8, t1, f1, byC, hst1, hst2, by_reify, by_allLen, q0, q1, r2, hR0, hV, hk1, hS, hS2]); (first | refine callS_intro (awake_pure) (.inl rfl) ?_ | refine callS_intro (hA) (.inl rfl) ?_ | refine callS_intro (hB1) (.inl rfl) ?_ | refine callS_intro (hB2) (.inl rfl) ?_ | refine callS_intro (hB3) (.inl rfl) ?_); (try simp -implicitDefEqProofs [-loopQ_n, h1, h2, w1, w2, w3, w4, w5, w6, w7, shA, shB, hshl, hx0, hx1, hl0, hl1, hl2, hq2, g5, g6, g8, t1, f1, byC, hst1, hst2, by_reify, by_allLen, q0, q1, r2, hR0, hV, hk1, hS, hS2])))))
    · skip
      rcases e2.2 hR0 with hS | ⟨hS, hS2⟩
      · refine new_intro hC (by simp [rowsOf, lstC]) (.inl ⟨by simp [flatO], hfb⟩) ?_
        ((try simp -implicitDefEqProofs [-loopQ_n, h1, h2, w1, w2, w3, w4, w5, w6, w7, shA, shB, hshl, hx0, hx1, hl0, hl1, hl2, hq2, g5, g6, g8, t1, f1, byC, hst1, hst2, by_reify, by_allLen, q0, q1, r2, hR0, hk0, hS]) <;> (repeat' (first | (refine condD_dec ?_ ?_ <;> (intro hc; (try simp -implicitDefEqProofs [-loopQ_n, hc, h1, h2, w1, w2, w3, w4, w5, w6, w7, shA, shB, hshl, hx0, hx1, hl0, hl1, hl2, hq2, g5, g6, g8, t1, f1, byC, hst1, hst2, by_reify, by_allLen, q0, q1, r2, hR0, hk0, hS]))) | (refine guardD_dec ?_ ?_ <;> (intro hc; (try simp -implicitDefEqProofs [-loopQ_n, hc, h1, h2, w1, w2, w3, w4, w5, w6, w7, shA, shB, hshl, hx0, hx1, hl0, hl1, hl2, hq2, g5, g6, g8, t1, f1, byC, hst1, hst2, by_reify, by_allLen, q0, q1, r2, hR0, hk0, hS]))) | (refine condD_intro ?_ ?_ <;> (intro hd; have hc := hd; (try simp at hc) <;> (try simp -implicitDefEqProofs [-loopQ_n, hd, hc, h1, h2, w1, w2, w3, w4, w5, w6, w7, shA, shB, hshl, hx0, hx1, hl0, hl1, hl2, hq2, g5, g6, g8, t1, f1, byC, hst1, hst2, by_reify, by_allLen, q0, q1, r2, hR0, hk0, hS]))) | (refine guardD_intro ?_ ?_ <;> (intro hd; have hc := hd; (try simp at hc) <;> (try simp -implicitDefEqProofs [-loopQ_n, hd, hc, h1, h2, w1, w2, w3, w4, w5, w6, w7, shA, shB, hshl, hx0, hx1, hl0, hl1, hl2, hq2, g5, g6, g8, t1, f1, byC, hst1, hst2, by_reify, by_allLen, q0, q1, r2, hR0, hk0, hS]))) | (refine ldD_ep ?_ ?_; (focus kernel_rfl); (try simp -implicitDefEqProofs [-loopQ_n, h1, h2, w1, w2, w3, w4, w5, w6, w7, shA, shB, hshl, hx0, hx1, hl0, hl1, hl2, hq2, g5, g6, g8, t1, f1, byC, hst1, hst2, by_reify, by_allLen, q0, q1, r2, hR0, hk0, hS])) | (refine callS_mk ?_; (try simp -implicitDefEqProofs [-loopQ_n, h1, h2, w1, w2, w3, w4, w5, w6, w7, shA, shB, hshl, hx0, hx1, hl0, hl1, hl2, hq2, g5, g6, g8, t1, f1, byC, hst1, hst2, by_reify, by_allLen, q0, q1, r2, hR0, hk0, hS]); (first | refine callS_intro (awake_pure) (.inl rfl) ?_ | refine callS_intro (hA) (.inl rfl) ?_ | refine callS_intro (hB1) (.inl rfl) ?_ | refine callS_intro (hB2) (.inl rfl) ?_ | refine callS_intro (hB3) (.inl rfl) ?_); (try simp -implicitDefEqProofs [-loopQ_n, h1, h2, w1, w2, w3, w4, w5, w6, w7, shA, shB, hshl, hx0, hx1, hl0, hl1, hl2, hq2, g5, g6, g8, t1, f1, byC, hst1, hst2, by_reify, by_allLen, q0, q1, r2, hR0, hk0, hS])))))
      · refine new_intro hC (by simp [rowsOf, lstC]) (.inl ⟨by simp [flatO], hfb⟩) ?_
        ((try simp -implicitDefEqProofs [-loopQ_n, h1, h2, w1, w2, w3, w4, w5, w6, w7, shA, shB, hshl, hx0, hx1, hl0, hl1, hl2, hq2, g5, g6, g8, t1, f1, byC, hst1, hst2, by_reify, by_allLen, q0, q1, r2, hR0, hk0, hS, hS2]) <;> (repeat' (first | (refine condD_dec ?_ ?_ <;> (intro hc; (try simp -implicitDefEqProofs [-loopQ_n, hc, h1, h2, w1, w2, w3, w4, w5, w6, w7, shA, shB, hshl, hx0, hx1, hl0, hl1, hl2, hq2, g5, g6, g8, t1, f1, byC, hst1, hst2, by_reify, by_allLen, q0, q1, r2, hR0, hk0, hS, hS2]))) | (refine guardD_dec ?_ ?_ <;> (intro hc; (try simp -implicitDefEqProofs [-loopQ_n, hc, h1, h2, w1, w2, w3, w4, w5, w6, w7, shA, shB, hshl, hx0, hx1, hl0, hl1, hl2, hq2, g5, g6, g8, t1, f1, byC, hst1, hst2, by_reify, by_allLen, q0, q1, r2, hR0, hk0, hS, hS2]))) | (refine condD_intro ?_ ?_ <;> (intro hd; have hc := hd; (try simp at hc) <;> (try simp -implicitDefEqProofs [-loopQ_n, hd, hc, h1, h2, w1, w2, w3, w4, w5, w6, w7, shA, shB, hshl, hx0, hx1, hl0, hl1, hl2, hq2, g5, g6, g8, t1, f1, byC, hst1, hst2, by_reify, by_allLen, q0, q1, r2, hR0, hk0, hS, hS2]))) | (refine guardD_intro ?_ ?_ <;> (intro hd; have hc := hd; (try simp at hc) <;> (try simp -implicitDefEqProofs [-loopQ_n, hd, hc, h1, h2, w1, w2, w3, w4, w5, w6, w7, shA, shB, hshl, hx0, hx1, hl0, hl1, hl2, hq2, g5, g6, g8, t1, f1, byC, hst1, hst2, by_reify, by_allLen, q0, q1, r2, hR0, hk0, hS, hS2]))) | (refine ldD_ep ?_ ?_; (focus kernel_rfl); (try simp -implicitDefEqProofs [-loopQ_n, h1, h2, w1, w2, w3, w4, w5, w6, w7, shA, shB, hshl, hx0, hx1, hl0, hl1, hl2, hq2, g5, g6, g8, t1, f1, byC, hst1, hst2, by_reify, by_allLen, q0, q1, r2, hR0, hk0, hS, hS2])) | (refine callS_mk ?_; (try simp -implicitDefEqProofs [-loopQ_n, h1, h2, w1, w2, w3, w4, w5, w6, w7, shA, shB, hshl, hx0, hx1, hl0, hl1, hl2, hq2, g5, g6, g8, t1, f1, byC, hst1, hst2, by_reify, by_allLen, q0, q1, r2, hR0, hk0, hS, hS2]); (first | refine callS_intro (awake_pure) (.inl rfl) ?_ | refine callS_intro (hA) (.inl rfl) ?_ | refine callS_intro (hB1) (.inl rfl) ?_ | refine callS_intro (hB2) (.inl rfl) ?_ | refine callS_intro (hB3) (.inl rfl) ?_); (try simp -implicitDefEqProofs [-loopQ_n, h1, h2, w1, w2, w3, w4, w5, w6, w7, shA, shB, hshl, hx0, hx1, hl0, hl1, hl2, hq2, g5, g6, g8, t1, f1, byC, hst1, hst2, by_reify, by_allLen, q0, q1, r2, hR0, hk0, hS, hS2])))))
  · ((try simp -implicitDefEqProofs [-loopQ_n, h1, h2, w1, w2, w3, w4, w5, w6, w7, g1, g2, g3, g4, hnum, r1, by_allLen]) <;> (repeat' (first | (refine condD_dec ?_ ?_ <;> (intro hc; (try simp -implicitDefEqProofs [-loopQ_n, hc, h1, h2, w1, w2, w3, w4, w5, w6, w7, g1, g2, g3, g4, hnum, r1, by_allLen]))) | (refine guardD_dec ?_ ?_ <;> (intro hc; (try simp -implicitDefEqProofs [-loopQ_n, hc, h1, h2, w1, w2, w3, w4, w5, w6, w7, g1, g2, g3, g4, hnum, r1, by_allLen]))) | (refine condD_intro ?_ ?_ <;> (intro hd; have hc := hd; (try simp at hc) <;> (try simp -implicitDefEqProofs [-loopQ_n, hd, hc, h1, h2, w1, w2, w3, w4, w5, w6, w7, g1, g2, g3, g4, hnum, r1, by_allLen]))) | (refine guardD_intro ?_ ?_ <;> (intro hd; have hc := hd; (try simp at hc) <;> (try simp -implicitDefEqProofs [-loopQ_n, hd, hc, h1, h2, w1, w2, w3, w4, w5, w6, w7, g1, g2, g3, g4, hnum, r1, by_allLen]))) | (refine ldD_ep ?_ ?_; (focus kernel_rfl); (try simp -implicitDefEqProofs [-loopQ_n, h1, h2, w1, w2, w3, w4, w5, w6, w7, g1, g2, g3, g4, hnum, r1, by_allLen])) | (refine callS_mk ?_; (try simp -implicitDefEqProofs [-loopQ_n, h1, h2, w1, w2, w3, w4, w5, w6, w7, g1, g2, g3, g4, hnum, r1, by_allLen]); (first | refine callS_intro (awake_pure) (.inl rfl) ?_ | refine callS_intro (hA) (.inl rfl) ?_); (try simp -implicitDefEqProofs [-loopQ_n, h1, h2, w1, w2, w3, w4, w5, w6, w7, g1, g2, g3, g4, hnum, r1, by_allLen])))))
    by_cases hk0 : k = 0
    · have hV := e3 hk0
      have hk1 : (k = 0) = True := eq_true hk0
      by_cases hR0 : R.1 = 0
      · skip
        rcases e2.2 hR0 with hS | ⟨hS, hS2⟩
        · refine new_intro hC (by simp [rowsOf, lstC]) (.inl ⟨by simp [flatO], hfb⟩) ?_
          ((try simp -implicitDefEqProofs [-loopQ_n, h1, h2, w1, w2, w3, w4, w5, w6, w7, shA, shB, hshl, hx0, hx1, hl0, hl1, hl2, hq2, g5, g6, g8, t1, f1, byC, hst1, hst2, by_reify, by_allLen, q0, q1, r2, hR0, hV, hk1, hS]) <;> (repeat' (first | (refine condD_dec ?_ ?_ <;> (intro hc; (try simp -implicitDefEqProofs [-loopQ_n, hc, h1, h2, w1, w2, w3, w4, w5, w6, w7, shA, shB, hshl, hx0, hx1, hl0, hl1, hl2, hq2, g5, g6, g8, t1, f1, byC, hst1, hst2, by_reify, by_allLen, q0, q1, r2, hR0, hV, hk1, hS]))) | (refine guardD_dec ?_ ?_ <;> (intro hc; (try simp -implicitDefEqProofs [-loopQ_n, hc, h1, h2, w1, w2, w3, w4, w5, w6, w7, shA, shB, hshl, hx0, hx1, hl0, hl1, hl2, hq2, g5, g6, g8, t1, f1, byC, hst1, hst2, by_reify, by_allLen, q0, q1, r2, hR0, hV, hk1, hS]))) | (refine condD_intro ?_ ?_ <;> (intro hd; have hc := hd; (try simp at hc) <;> (try simp -implicitDefEqProofs [-loopQ_n, hd, hc, h1, h2, w1, w2, w3, w4, w5, w6, w7, shA, shB, hshl, hx0, hx1, hl0, hl1, hl2, hq2, g5, g6, g8, t1, f1, byC, hst1, hst2, by_reify, by_allLen, q0, q1, r2, hR0, hV, hk1, hS]))) | (refine guardD_intro ?_ ?_ <;> (intro hd; have hc := hd; (try simp at hc) <;> (try simp -implicitDefEqProofs [-loopQ_n, hd, hc, h1, h2, w1, w2, w3, w4, w5, w6, w7, shA, shB, hshl, hx0, hx1, hl0, hl1, hl2, hq2, g5, g6, g8, t1, f1, byC, hst1, hst2, by_reify, by_allLen, q0, q1, r2, hR0, hV, hk1, hS]))) | (refine ldD_ep ?_ ?_; (focus kernel_rfl); (try simp -implicitDefEqProofs [-loopQ_n, h1, h2, w1, w2, w3, w4, w5, w6, w7, shA, shB, hshl, hx0, hx1, hl0, hl1, hl2, hq2, g5, g6, g8, t1, f1, byC, hst1, hst2, by_reify, by_allLen, q0, q1, r2, hR0, hV, hk1, hS])) | (refine callS_mk ?_; (try simp -implicitDefEqProofs [-loopQ_n, h1, h2, w1, w2, w3, w4, w5, w6, w7, shA, shB, hshl, hx0, hx1, hl0, hl1, hl2, hq2, g5, g6, g8, t1, f1, byC, hst1, hst2, by_reify, by_allLen, q0, q1, r2, hR0, hV, hk1, hS]); (first | refine callS_intro (awake_pure) (.inl rfl) ?_ | refine callS_intro (hA) (.inl rfl) ?_ | refine callS_intro (hB1) (.inl rfl) ?_ | refine callS_intro (hB2) (.inl rfl) ?_ | refine callS_intro (hB3) (.inl rfl) ?_); (try simp -implicitDefEqProofs [-loopQ_n, h1, h2, w1, w2, w3, w4, w5, w6, w7, shA, shB, hshl, hx0, hx1, hl0, hl1, hl2, hq2, g5, g6, g8, t1, f1, byC, hst1, hst2, by_reify, by_allLen, q0, q1, r2, hR0, hV, hk1, hS])))))
        · refine new_intro hC (by simp [rowsOf, lstC]) (.inl ⟨by simp [flatO], hfb⟩) ?_
          ((try simp -implicitDefEqProofs [-loopQ_n, h1, h2, w1, w2, w3, w4, w5, w6, w7, shA, shB, hshl, hx0, hx1, hl0, hl1, hl2, hq2, g5, g6, g8, t1, f1, byC, hst1, hst2, by_reify, by_allLen, q0, q1, r2, hR0, hV, hk1, hS, hS2]) <;> (repeat' (first | (refine condD_dec ?_ ?_ <;> (intro hc; (try simp -implicitDefEqProofs [-loopQ_n, hc, h1, h2, w1, w2, w3, w4, w5, w6, w7, shA, shB, hshl, hx0, hx1, hl0, hl1, hl2, hq2, g5, g6, g8, t1, f1, byC, hst1, hst2, by_reify, by_allLen, q0, q1, r2, hR0, hV, hk1, hS, hS2]))) | (refine guardD_dec ?_ ?_ <;> (intro hc; (try simp -implicitDefEqProofs [-loopQ_n, hc, h1, h2, w1, w2, w3, w4, w5, w6, w7, shA, shB, hshl, hx0, hx1, hl0, hl1, hl2, hq2, g5, g6, g8, t1, f1, byC, hst1, hst2, by_reify, by_allLen, q0, q1, r2, hR0, hV, hk1, hS, hS2]))) | (refine condD_intro ?_ ?_ <;> (intro hd; have hc := hd; (try simp at hc) <;> (try simp -implicitDefEqProofs [-loopQ_n, hd, hc, h1, h2, w1, w2, w3, w4, w5, w6, w7, shA, shB, hshl, hx0, hx1, hl0, hl1, hl2, hq2, g5, g6, g8, t1, f1, byC, hst1, hst2, by_reify, by_allLen, q0, q1, r2, hR0, hV, hk1, hS, hS2]))) | (refine guardD_intro ?_ ?_ <;> (intro hd; have hc := hd; (try simp at hc) <;> (try simp -implicitDefEqProofs [-loopQ_n, hd, hc, h1, h2, w1, w2, w3, w4, w5, w6, w7, shA, shB, hshl, hx0, hx1, hl0, hl1, hl2, hq2, g5, g6, g8, t1, f1, byC, hst1, hst2, by_reify, by_allLen, q0, q1, r2, hR0, hV, hk1, hS, hS2]))) | (refine ldD_ep ?_ ?_; (focus kernel_rfl); (try simp -implicitDefEqProofs [-loopQ_n, h1, h2, w1, w2, w3, w4, w5, w6, w7, shA, shB, hshl, hx0, hx1, hl0, hl1, hl2, hq2, g5, g6, g8, t1, f1, byC, hst1, hst2, by_reify, by_allLen, q0, q1, r2, hR0, hV, hk1, hS, hS2])) | (refine callS_mk ?_; (try simp -implicitDefEqProofs [-loopQ_n, h1, h2, w1, w2, w3, w4, w5, w6, w7, shA, shB, hshl, hx0, hx1, hl0, hl1, hl2, hq2, g5, g6, g8, t1, f1, byC, hst1, hst2, by_reify, by_allLen, q0, q1, r2, hR0, hV, hk1, hS, hS2]); (first | refine callS_intro (awake_pure) (.inl rfl) ?_ | refine callS_intro (hA) (.inl rfl) ?_ | refine callS_intro (hB1) (.inl rfl) ?_ | refine callS_intro (hB2) (.inl rfl) ?_ | refine callS_intro (hB3) (.inl rfl) ?_); (try simp -implicitDefEqProofs [-loopQ_n, h1, h2, w1, w2, w3, w4, w5, w6, w7, shA, shB, hshl, hx0, hx1, hl0, hl1, hl2, hq2, g5, g6, g8, t1, f1, byC, hst1, hst2, by_reify, by_allLen, q0, q1, r2, hR0, hV, hk1, hS, hS2])))))
      · skip
        have hS := e2.1 hR0
        have hS1 : S.1 = -R.1 := by rw [hS]
        have hS2 : S.2.1 = (U : Int) := by rw [hS]
        have hS3 : S.2.2 = 0 := by rw [hS]
        refine new_intro hC (by simp [rowsOf, lstC]) (.inl ⟨by simp [flatO], hfb⟩) ?_
        ((try simp -implicitDefEqProofs [-loopQ_n, h1, h2, w1, w2, w3, w4, w5, w6, w7, shA, shB, hshl, hx0, hx1, hl0, hl1, hl2, hq2, g5, g6, g8, t1, f1, byC, hst1, hst2, by_reify, by_allLen, q0, q1, r2, hR0, hV, hk1, hS1, hS2, hS3]) <;> (repeat' (first | (refine condD_dec ?_ ?_ <;> (intro hc; (try simp -implicitDefEqProofs [-loopQ_n, hc, h1, h2, w1, w2, w3, w4, w5, w6, w7, shA, shB, hshl, hx0, hx1, hl0, hl1, hl2, hq2, g5, g6, g8, t1, f1, byC, hst1, hst2, by_reify, by_allLen, q0, q1, r2, hR0, hV, hk1, hS1, hS2, hS3]))) | (refine guardD_dec ?_ ?_ <;> (intro hc; (try simp -implicitDefEqProofs [-loopQ_n, hc, h1, h2, w1, w2, w3, w4, w5, w6, w7, shA, shB, hshl, hx0, hx1, hl0, hl1, hl2, hq2, g5, g6, g8, t1, f1, byC, hst1, hst2, by_reify, by_allLen, q0, q1, r2, hR0, hV, hk1, hS1, hS2, hS3]))) | (refine condD_intro ?_ ?_ <;> (intro hd; have hc := hd; (try simp at hc) <;> (try simp -implicitDefEqProofs [-loopQ_n, hd, hc, h1, h2, w1, w2, w3, w4, w5, w6, w7, shA, shB, hshl, hx0, hx1, hl0, hl1, hl2, hq2, g5, g6, g8, t1, f1, byC, hst1, hst2, by_reify, by_allLen, q0, q1, r2, hR0, hV, hk1, hS1, hS2, hS3]))) | (refine guardD_intro ?_ ?_ <;> (intro hd; have hc := hd; (try simp at hc) <;> (try simp -implicitDefEqProofs [-loopQ_n, hd, hc, h1, h2, w1, w2, w3, w4, w5, w6, w7, shA, shB, hshl, hx0, hx1, hl0, hl1, hl2, hq2, g5, g6, g8, t1, f1, byC, hst1, hst2, by_reify, by_allLen, q0, q1, r2, hR0, hV, hk1, hS1, hS2, hS3]))) | (refine ldD_ep ?_ ?_; (focus kernel_rfl); (try simp -implicitDefEqProofs [-loopQ_n, h1, h2, w1, w2, w3, w4, w5, w6, w7, shA, shB, hshl, hx0, hx1, hl0, hl1, hl2, hq2, g5, g6, g8, t1, f1, byC, hst1, hst2, by_reify, by_allLen, q0, q1, r2, hR0, hV, hk1, hS1, hS2, hS3])) | (refine callS_mk ?_; (try simp -implicitDefEqProofs [-loopQ_n, h1, h2, w1, w2, w3, w4, w5, w6, w7, shA, shB, hshl, hx0, hx1, hl0, hl1, hl2, hq2, g5, g6, g8, t1, f1, byC, hst1, hst2, by_reify, by_allLen, q0, q1, r2, hR0, hV, hk1, hS1, hS2, hS3]); (first | refine callS_intro (awake_pure) (.inl rfl) ?_ | refine callS_intro (hA) (.inl rfl) ?_ | refine callS_intro (hB1) (.inl rfl) ?_ | refine callS_intro (hB2) (.inl rfl) ?_ | refine callS_intro (hB3) (.inl rfl) ?_); (try simp -implicitDefEqProofs [-loopQ_n, h1, h2, w1, w2, w3, w4, w5, w6, w7, shA, shB, hshl, hx0, hx1, hl0, hl1, hl2, hq2, g5, g6, g8, t1, f1, byC, hst1, hst2, by_reify, by_allLen, q0, q1, r2, hR0, hV, hk1, hS1, hS2, hS3])))))
    · skip
      by_cases hR0 : R.1 = 0
      · skip
        rcases e2.2 hR0 with hS | ⟨hS, hS2⟩
        · refine new_intro hC (by simp [rowsOf, lstC]) (.inl ⟨by simp [flatO], hfb⟩) ?_
          ((try simp -implicitDefEqProofs [-loopQ_n, h1, h2, w1, w2, w3, w4, w5, w6, w7, shA, shB, hshl, hx0, hx1, hl0, hl1, hl2, hq2, g5, g6, g8, t1, f1, byC, hst1, hst2, by_reify, by_allLen, q0, q1, r2, hR0, hk0, hS]) <;> (repeat' (first | (refine condD_dec ?_ ?_ <;> (intro hc; (try simp -implicitDefEqProofs [-loopQ_n, hc, h1, h2, w1, w2, w3, w4, w5, w6, w7, shA, shB, hshl, hx0, hx1, hl0, hl1, hl2, hq2, g5, g6, g8, t1, f1, byC, hst1, hst2, by_reify, by_allLen, q0, q1, r2, hR0, hk0, hS]))) | (refine guardD_dec ?_ ?_ <;> (intro hc; (try simp -implicitDefEqProofs [-loopQ_n, hc, h1, h2, w1, w2, w3, w4, w5, w6, w7, shA, shB, hshl, hx0, hx1, hl0, hl1, hl2, hq2, g5, g6, g8, t1, f1, byC, hst1, hst2, by_reify, by_allLen, q0, q1, r2, hR0, hk0, hS]))) | (refine condD_intro ?_ ?_ <;> (intro hd; have hc := hd; (try simp at hc) <;> (try simp -implicitDefEqProofs [-loopQ_n, hd, hc, h1, h2, w1, w2, w3, w4, w5, w6, w7, shA, shB, hshl, hx0, hx1, hl0, hl1, hl2, hq2, g5, g6, g8, t1, f1, byC, hst1, hst2, by_reify, by_allLen, q0, q1, r2, hR0, hk0, hS]))) | (refine guardD_intro ?_ ?_ <;> (intro hd; have hc := hd; (try simp at hc) <;> (try simp -implicitDefEqProofs [-loopQ_n, hd, hc, h1, h2, w1, w2, w3, w4, w5, w6, w7, shA, shB, hshl, hx0, hx1, hl0, hl1, hl2, hq2, g5, g6, g8, t1, f1, byC, hst1, hst2, by_reify, by_allLen, q0, q1, r2, hR0, hk0, hS]))) | (refine ldD_ep ?_ ?_; (focus kernel_rfl); (try simp -implicitDefEqProofs [-loopQ_n, h1, h2, w1, w2, w3, w4, w5, w6, w7, shA, shB, hshl, hx0, hx1, hl0, hl1, hl2, hq2, g5, g6, g8, t1, f1, byC, hst1, hst2, by_reify, by_allLen, q0, q1, r2, hR0, hk0, hS])) | (refine callS_mk ?_; (try simp -implicitDefEqProofs [-loopQ_n, h1, h2, w1, w2, w3, w4, w5, w6, w7, shA, shB, hshl, hx0, hx1, hl0, hl1, hl2, hq2, g5, g6, g8, t1, f1, byC, hst1, hst2, by_reify, by_allLen, q0, q1, r2, hR0, hk0, hS]); (first | refine callS_intro (awake_pure) (.inl rfl) ?_ | refine callS_intro (hA) (.inl rfl) ?_ | refine callS_intro (hB1) (.inl rfl) ?_ | refine callS_intro (hB2) (.inl rfl) ?_ | refine callS_intro (hB3) (.inl rfl) ?_); (try simp -implicitDefEqProofs [-loopQ_n, h1, h2, w1, w2, w3, w4, w5, w6, w7, shA, shB, hshl, hx0, hx1, hl0, hl1, hl2, hq2, g5, g6, g8, t1, f1, byC, hst1, hst2, by_reify, by_allLen, q0, q1, r2, hR0, hk0, hS])))))
        · refine new_intro hC (by simp [rowsOf, lstC]) (.inl ⟨by simp [flatO], hfb⟩) ?_
          ((try simp -implicitDefEqProofs [-loopQ_n, h1, h2, w1, w2, w3, w4, w5, w6, w7, shA, shB, hshl, hx0, hx1, hl0, hl1, hl2, hq2, g5, g6, g8, t1, f1, byC, hst1, hst2, by_reify, by_allLen, q0, q1, r2, hR0, hk0, hS, hS2]) <;> (repeat' (first | (refine condD_dec ?_ ?_ <;> (intro hc; (try simp -implicitDefEqProofs [-loopQ_n, hc, h1, h2, w1, w2, w3, w4, w5, w6, w7, shA, shB, hshl, hx0, hx1, hl0, hl1, hl2, hq2, g5, g6, g8, t1, f1, byC, hst1, hst2, by_reify, by_allLen, q0, q1, r2, hR0, hk0, hS, hS2]))) | (refine guardD_dec ?_ ?_ <;> (intro hc; (try simp -implicitDefEqProofs [-loopQ_n, hc, h1, h2, w1, w2, w3, w4, w5, w6, w7, shA, shB, hshl, hx0, hx1, hl0, hl1, hl2, hq2, g5, g6, g8, t1, f1, byC, hst1, hst2, by_reify, by_allLen, q0, q1, r2, hR0, hk0, hS, hS2]))) | (refine condD_intro ?_ ?_ <;> (intro hd; have hc := hd; (try simp at hc) <;> (try simp -implicitDefEqProofs [-loopQ_n, hd, hc, h1, h2, w1, w2, w3, w4, w5, w6, w7, shA, shB, hshl, hx0, hx1, hl0, hl1, hl2, hq2, g5, g6, g8, t1, f1, byC, hst1, hst2, by_reify, by_allLen, q0, q1, r2, hR0, hk0, hS, hS2]))) | (refine guardD_intro ?_ ?_ <;> (intro hd; have hc := hd; (try simp at hc) <;> (try simp -implicitDefEqProofs [-loopQ_n, hd, hc, h1, h2, w1, w2, w3, w4, w5, w6, w7, shA, shB, hshl, hx0, hx1, hl0, hl1, hl2, hq2, g5, g6, g8, t1, f1, byC, hst1, hst2, by_reify, by_allLen, q0, q1, r2, hR0, hk0, hS, hS2]))) | (refine ldD_ep ?_ ?_; (focus kernel_rfl); (try simp -implicitDefEqProofs [-loopQ_n, h1, h2, w1, w2, w3, w4, w5, w6, w7, shA, shB, hshl, hx0, hx1, hl0, hl1, hl2, hq2, g5, g6, g8, t1, f1, byC, hst1, hst2, by_reify, by_allLen, q0, q1, r2, hR0, hk0, hS, hS2])) | (refine callS_mk ?_; (try simp -implicitDefEqProofs [-loopQ_n, h1, h2, w1, w2, w3, w4, w5, w6, w7, shA, shB, hshl, hx0, hx1, hl0, hl1, hl2, hq2, g5, g6, g8, t1, f1, byC, hst1, hst2, by_reify, by_allLen, q0, q1, r2, hR0, hk0, hS, hS2]); (first | refine callS_intro (awake_pure) (.inl rfl) ?_ | refine callS_intro (hA) (.inl rfl) ?_ | refine callS_intro (hB1) (.inl rfl) ?_ | refine callS_intro (hB2) (.inl rfl) ?_ | refine callS_intro (hB3) (.inl rfl) ?_); (try simp -implicitDefEqProofs [-loopQ_n, h1, h2, w1, w2, w3, w4, w5, w6, w7, shA, shB, hshl, hx0, hx1, hl0, hl1, hl2, hq2, g5, g6, g8, t1, f1, byC, hst1, hst2, by_reify, by_allLen, q0, q1, r2, hR0, hk0, hS, hS2])))))
      · skip
        have hS := e2.1 hR0
        have hS1 : S.1 = -R.1 := by rw [hS]
        have hS2 : S.2.1 = (U : Int) := by rw [hS]
        have hS3 : S.2.2 = 0 := by rw [hS]
        refine new_intro hC (by simp [rowsOf, lstC]) (.inl ⟨by simp [flatO], hfb⟩) ?_
        ((try simp -implicitDefEqProofs [-loopQ_n, h1, h2, w1, w2, w3, w4, w5, w6, w7, shA, shB, hshl, hx0, hx1, hl0, hl1, hl2, hq2, g5, g6, g8, t1, f1, byC, hst1, hst2, by_reify, by_allLen, q0, q1, r2, hR0, hk0, hS1, hS2, hS3]) <;> (repeat' (first | (refine condD_dec ?_ ?_ <;> (intro hc; (try simp -implicitDefEqProofs [-loopQ_n, hc, h1, h2, w1, w2, w3, w4, w5, w6, w7, shA, shB, hshl, hx0, hx1, hl0, hl1, hl2, hq2, g5, g6, g8, t1, f1, byC, hst1, hst2, by_reify, by_allLen, q0, q1, r2, hR0, hk0, hS1, hS2, hS3]))) | (refine guardD_dec ?_ ?_ <;> (intro hc; (try simp -implicitDefEqProofs [-loopQ_n, hc, h1, h2, w1, w2, w3, w4, w5, w6, w7, shA, shB, hshl, hx0, hx1, hl0, hl1, hl2, hq2, g5, g6, g8, t1, f1, byC, hst1, hst2, by_reify, by_allLen, q0, q1, r2, hR0, hk0, hS1, hS2, hS3]))) | (refine condD_intro ?_ ?_ <;> (intro hd; have hc := hd; (try simp at hc) <;> (try simp -implicitDefEqProofs [-loopQ_n, hd, hc, h1, h2, w1, w2, w3, w4, w5, w6, w7, shA, shB, hshl, hx0, hx1, hl0, hl1, hl2, hq2, g5, g6, g8, t1, f1, byC, hst1, hst2, by_reify, by_allLen, q0, q1, r2, hR0, hk0, hS1, hS2, hS3]))) | (refine guardD_intro ?_ ?_ <;> (intro hd; have hc := hd; (try simp at hc) <;> (try simp -implicitDefEqProofs [-loopQ_n, hd, hc, h1, h2, w1, w2, w3, w4, w5, w6, w7, shA, shB, hshl, hx0, hx1, hl0, hl1, hl2, hq2, g5, g6, g8, t1, f1, byC, hst1, hst2, by_reify, by_allLen, q0, q1, r2, hR0, hk0, hS1, hS2, hS3]))) | (refine ldD_ep ?_ ?_; (focus kernel_rfl); (try simp -implicitDefEqProofs [-loopQ_n, h1, h2, w1, w2, w3, w4, w5, w6, w7, shA, shB, hshl, hx0, hx1, hl0, hl1, hl2, hq2, g5, g6, g8, t1, f1, byC, hst1, hst2, by_reify, by_allLen, q0, q1, r2, hR0, hk0, hS1, hS2, hS3])) | (refine callS_mk ?_; (try simp -implicitDefEqProofs [-loopQ_n, h1, h2, w1, w2, w3, w4, w5, w6, w7, shA, shB, hshl, hx0, hx1, hl0, hl1, hl2, hq2, g5, g6, g8, t1, f1, byC, hst1, hst2, by_reify, by_allLen, q0, q1, r2, hR0, hk0, hS1, hS2, hS3]); (first | refine callS_intro (awake_pure) (.inl rfl) ?_ | refine callS_intro (hA) (.inl rfl) ?_ | refine callS_intro (hB1) (.inl rfl) ?_ | refine callS_intro (hB2) (.inl rfl) ?_ | refine callS_intro (hB3) (.inl rfl) ?_); (try simp -implicitDefEqProofs [-loopQ_n, h1, h2, w1, w2, w3, w4, w5, w6, w7, shA, shB, hshl, hx0, hx1, hl0, hl1, hl2, hq2, g5, g6, g8, t1, f1, byC, hst1, hst2, by_reify, by_allLen, q0, q1, r2, hR0, hk0, hS1, hS2, hS3])))))
theorem both (x0 : AV) (s0 : argS Try.prog 61 x0) (x1 : AV) (s1 : argS Try.prog 68 x1) (x2 : AV) (s2 : argS Try.prog 68 x2) : Pure Try.prog 9 [x0, x1, x2] (.bool true) := by
  obtain ⟨b, rfl, _⟩ := arg_frac s0
  obtain ⟨l, rfl, ll⟩ := arg_bytes s1
  obtain ⟨m, rfl, lm⟩ := arg_bytes s2
  exact main b.1 b.2 l m ll lm
theorem walk (W : World) (hvo : VarsOk W (fun _ => False)) (v0 : Value) (x0 : AV) (r0 : RO W (fun _ => False) x0 v0) (s0 : argS Try.prog 61 x0) (v1 : Value) (x1 : AV) (r1 : RO W (fun _ => False) x1 v1) (s1 : argS Try.prog 68 x1) (v2 : Value) (x2 : AV) (r2 : RO W (fun _ => False) x2 v2) (s2 : argS Try.prog 68 x2) :
    Calls Try.prog 9 #[v0, v1, v2] W fun e w' => e = .returned (.bool true) ∧ Below W.heap.size W w' := by
  refine ((both x0 s0 x1 s1 x2 s2).2 W (fun _ => False) _ (fun _ h => h.elim) hvo rfl ?_).mono ?_
  · intro j x v hj hv
    match j with
    | 0 => simp at hj hv; subst hj hv; exact r0
    | 1 => simp at hj hv; subst hj hv; exact r1
    | 2 => simp at hj hv; subst hj hv; exact r2
    | j + 3 => simp at hj
  · rintro e w' ⟨v, rfl, hv, hb⟩
    rw [ro_tt hv]
    exact ⟨rfl, hb⟩
end
set_option maxRecDepth 100000 in
theorem lifted (os : Os) (started : os.Started) (H : Type) (enc : TypeId × Value → H) :
    ReturnsInHanded {} Try.checked os 9 .any (Rows.privacyEvenSpec.pre6 enc Try.prog Try.f9 Rows.privacyEvenRow.domain false) (Rows.privacyEvenSpec.post enc Try.prog Try.f9 false true false false) := by
  refine returnsInHanded_of_change (C := Try.checked) (@ownK ⟨fun _ => none⟩) started (by kernel_rfl) Try.func9
    (ChangeSpec.witness6 (enc := enc) (C := Try.checked) false ⟨#[], #[.agg #[.int .i64 0, .int .i64 0], .slice none 0 0, .slice none 0 0], []⟩ 8 (by kernel_rfl) (by kernel_rfl) (by kernel_rfl) (by kernel_rfl)) ?_
  intro W base args ds gs before hval0 hW hcnd _
  have hval : ∀ (j : Nat) t v, Try.f9.params[j]? = some t → args[j]? = some v → Value.okWide Try.prog W .any base t v := hval0
  have hW' := hW
  obtain ⟨p, q, hA0, hV, rfl, hfz, hnd⟩ := hW
  have hA : DataW.TrodAll enc Try.prog W 0 (fun _ => true) true Try.f9.params.toList args.toList ds p := hA0
  rw [Try.params9] at hA hval
  obtain ⟨v0, vs0, d0, ds0, p0, q0, hargs, rfl, rfl, h0, r0⟩ := trodAll_cons hA
  obtain ⟨v1, vs1, d1, ds1, p1, q1, rfl, rfl, rfl, h1, r1⟩ := trodAll_cons r0
  obtain ⟨v2, vs2, d2, ds2, p2, q2, rfl, rfl, rfl, h2, r2⟩ := trodAll_cons r1
  obtain ⟨rfl, rfl, rfl⟩ := trodAll_nil r2
  obtain rfl : args = #[v0, v1, v2] := by cases args; simp_all
  obtain ⟨rfl, rfl⟩ := trodVars_none hV
  letI : Glob := ⟨fun _ => none⟩
  have k0 := h0
  have lt0 : ∀ x ∈ p0, x.block < W.heap.size := by obtain ⟨m, hm⟩ := k0; exact DataW.trod_lt m _ _ _ hm
  obtain ⟨x0, y0, s0⟩ := arg_open (P := Try.prog) (t := 61) (by kernel_rfl) (by kernel_rfl) (hval 0 61 v0 rfl rfl) h0
  have k1 := h1
  have lt1 : ∀ x ∈ p1, x.block < W.heap.size := by obtain ⟨m, hm⟩ := k1; exact DataW.trod_lt m _ _ _ hm
  obtain ⟨x1, y1, s1⟩ := arg_open (P := Try.prog) (t := 68) (by kernel_rfl) (by kernel_rfl) (hval 1 68 v1 rfl rfl) h1
  have k2 := h2
  have lt2 : ∀ x ∈ p2, x.block < W.heap.size := by obtain ⟨m, hm⟩ := k2; exact DataW.trod_lt m _ _ _ hm
  obtain ⟨x2, y2, s2⟩ := arg_open (P := Try.prog) (t := 68) (by kernel_rfl) (by kernel_rfl) (hval 2 68 v2 rfl rfl) h2
  clear hA0 hval0
  refine (walk W (fun g row h => by cases h) v0 x0 y0 s0 v1 x1 y1 s1 v2 x2 y2 s2).mono fun e W' ⟨he, bel⟩ => ?_
  subst he
  exact ⟨_, rfl, _, _, _, [], _, [], hW', trodAll_mk1 (shut_bool Try.underlying4 _), (trodAll_cons_mk (Below.trod laidK (by kernel_rfl) (of_decide_eq_true (by kernel_rfl)) k0 bel lt0) (trodAll_cons_mk (Below.trod laidK (by kernel_rfl) (of_decide_eq_true (by kernel_rfl)) k1 bel lt1) (trodAll_cons_mk (Below.trod laidK (by kernel_rfl) (of_decide_eq_true (by kernel_rfl)) k2 bel lt2) trodAll_mk0))), rfl, bel.frame _, fun h => by cases h⟩

theorem over : Rows.privacyEvenRow.holds Try.pinned (OpenSpec.ofChange Rows.privacyEvenSpec) :=
  OpenClaim.holds_of_wide 9 Try.f9 rfl rfl rfl rfl rfl rfl rfl ⟨rfl, rfl, rfl, rfl, rfl⟩ rfl rfl rfl rfl rfl (by kernel_rfl) Try.func9 (by kernel_rfl)
    (of_decide_eq_true (by kernel_rfl)) (by unfold Func.isWrapper; first | (rw [if_pos (by decide +kernel)]; kernel_rfl) | (rw [if_neg (by decide +kernel)]; exact ⟨rfl, rfl⟩))
    (fun os started H enc _ => lifted os started H enc)

theorem proved : Rows.PrivacyEvenSaid := over
end Go.Proofs.Ytkppfaennogcmaa.lawPEven
