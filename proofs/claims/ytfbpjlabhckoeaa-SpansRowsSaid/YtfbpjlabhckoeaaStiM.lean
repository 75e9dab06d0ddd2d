/- Stable sorting of events, third part: merging in place. -/
import Derived.Test.YtfbpjlabhckoeaaStiI
namespace Go.Proofs.Ytfbpjlabhckoeaa
set_option linter.unusedSimpArgs false
set_option linter.unusedVariables false
set_option linter.unnecessarySimpa false
set_option linter.unusedSectionVars false
open Go.RowKit
variable [Glob]
open Stab
variable {li : List Ins}
set_option maxRecDepth 100000
theorem wu_inX {n : Int} (h1 : 0 ≤ n) (h2 : n ≤ 9223372036854775807) : wrapI .u64 n = n := by rw [wrapI_eq]; exact IntWalk.u64_in _ ⟨h1, by omega⟩
theorem half_natX (s : Nat) : (s : Int) / 2 = ((s / 2 : Nat) : Int) := by omega
/-- What a call of symMerge does. -/
def SymCX (g : Nat) (cm : (Ix li) → (Ix li) → Int) (A P Q B : List (Ix li)) : Prop :=
  CallG Try.prog 107 [.os 1 (A ++ (P ++ (Q ++ B))).length, .int .i64 A.length, .int .i64 (A.length + P.length : Nat), .int .i64 (A.length + P.length + Q.length : Nat), .fn g [.op 0 0]] [bxI li, rowX (A ++ (P ++ (Q ++ B)))]
      fun r H => r = .tup [] ∧ ∃ R : List (Ix li), H = [bxI li, rowX (A ++ (R ++ B))] ∧ Srtd (ltCX cm) R ∧ Stb (ltCX cm) (P ++ Q) R
set_option maxHeartbeats 8000000 in
theorem sym_oneX (g : Nat) (cm : (Ix li) → (Ix li) → Int) (hcmp : ∀ x y : (Ix li), Pure Try.prog g [.int .i64 (x.i : Int), .int .i64 (y.i : Int), .rp [.rs (rowsOf insC li)]] (.int .i64 (cm x y))) (hs : Swo (ltCX cm))
    (A Q B : List (Ix li)) (x : (Ix li)) (hQ : Srtd (ltCX cm) Q) (hl : (A ++ ([x] ++ (Q ++ B))).length ≤ 2000) : SymCX g cm A [x] Q B := by
  unfold SymCX
  obtain ⟨N, hN⟩ : ∃ N, (A ++ ([x] ++ (Q ++ B))).length = N := ⟨_, rfl⟩
  obtain ⟨a, ha⟩ : ∃ a, A.length = a := ⟨_, rfl⟩
  obtain ⟨m, hm⟩ : ∃ m, a + [x].length = m := ⟨_, rfl⟩
  obtain ⟨b, hb⟩ : ∃ b, m + Q.length = b := ⟨_, rfl⟩
  rw [hN] at hl ⊢
  rw [ha, hm, hb]
  have hT : a + 1 + Q.length + B.length = N := by rw [← hN, ← ha]; simp; omega
  have hma : m = a + 1 := by rw [← hm]; simp
  have w0 : wrapI .i64 ((m : Int) - a) = 1 := by rw [wrap_in (by omega) (by omega)]; omega
  obtain ⟨w, hw⟩ : ∃ w, A ++ ([x] ++ (Q ++ B)) = w := ⟨_, rfl⟩
  have hwN : w.length = N := by rw [← hw]; exact hN
  have hwa : w[a]? = some x := by rw [← hw, List.getElem?_append_right (by omega), ha]; simp
  have hwQ : ∀ t, t < Q.length → w[m + t]? = Q[t]? := fun t ht => by
    rw [← hw, List.getElem?_append_right (by omega), List.getElem?_append_right (by simp; omega), List.getElem?_append_left (by simp; omega)]
    congr 1; simp; omega
  rw [hw]
  refine inl_G mixed Try.func107 rfl (by kernel_rfl) (of_decide_eq_true rfl) (by kernel_rfl) (vc_run ?_)
  ((try simp -implicitDefEqProofs [-loopQ_n, w0]) <;> (repeat' (first | (refine condD_dec ?_ ?_ <;> (intro hc; (try simp -implicitDefEqProofs [-loopQ_n, hc, w0]))) | (refine guardD_dec ?_ ?_ <;> (intro hc; (try simp -implicitDefEqProofs [-loopQ_n, hc, w0]))) | (refine condD_intro ?_ ?_ <;> (intro hd; have hc := hd; (try simp at hc) <;> (try simp -implicitDefEqProofs [-loopQ_n, hd, hc, w0]))) | (refine guardD_intro ?_ ?_ <;> (intro hd; have hc := hd; (try simp at hc) <;> (try simp -implicitDefEqProofs [-loopQ_n, hd, hc, w0]))) | (refine ldD_ep ?_ ?_; (focus kernel_rfl); (try simp -implicitDefEqProofs [-loopQ_n, w0])))))
  refine loop_intro (σ := Nat × Nat) (fun y => ⟨[(0, .os 1 N), (1, .int .i64 a), (4, .fn g [.op 0 0]), (10, .int .i64 y.1), (11, .int .i64 y.2)], [bxI li, rowX w]⟩)
    (fun y => m ≤ y.1 ∧ y.1 ≤ y.2 ∧ y.2 ≤ b ∧ (y.1 - m = 0 ∨ ∃ z, Q[y.1 - m - 1]? = some z ∧ ltCX cm z x = true) ∧ (y.2 - m = Q.length ∨ ∃ z, Q[y.2 - m]? = some z ∧ ltCX cm z x = false)) (fun y => y.2 - y.1) (m, b) ⟨by simp, by simp only; omega, by simp, .inl (by simp), .inl (by simp only; omega)⟩ ?_ ?_
  · refine weak_ofL 2 0 (by simp) (by simp) rfl ?_ ?_ <;> simp [ixC_refsR, ins_refs, refs]
  rintro ⟨i, j⟩ ⟨hi, hij, hj, c1, c2⟩
  simp only at hi hij hj c1 c2
  by_cases h : i < j
  · obtain ⟨s, hsum⟩ : ∃ s, i + j = s := ⟨_, rfl⟩
    obtain ⟨k, hk⟩ : ∃ k, s / 2 = k := ⟨_, rfl⟩
    have w1 := wi_addX (a := i) (b := j) (by omega)
    rw [hsum] at w1
    have w2 : wrapI .u64 (s : Int) = s := wu_inX (by omega) (by omega)
    have w3 : wrapI .i64 (k : Int) = k := wrap_in (by omega) (by omega)
    have w4 := wi_oneX (a := k) (by omega)
    have hh := half_natX s
    rw [hk] at hh
    have hkN : k < N := by omega
    have haN : a < N := by omega
    have hkw : k < w.length := by omega
    have haw : a < w.length := by omega
    have hxa : w[a] = x := by rw [List.getElem?_eq_getElem haw] at hwa; simpa using hwa
    obtain ⟨y, hy⟩ : ∃ y, w[k] = y := ⟨_, rfl⟩
    have hyQ : Q[k - m]? = some y := by rw [← hwQ (k - m) (by omega), show m + (k - m) = k by omega, List.getElem?_eq_getElem hkw, hy]
    by_cases hlt : cm y x < 0
    · ((try simp -implicitDefEqProofs [-loopQ_n, h, w1, w2, w3, w4, hh, hwN, hkN, haN, hkw, haw, hxa, hy, ixC, hlt]) <;> (repeat' (first | (refine condD_dec ?_ ?_ <;> (intro hc; (try simp -implicitDefEqProofs [-loopQ_n, hc, h, w1, w2, w3, w4, hh, hwN, hkN, haN, hkw, haw, hxa, hy, ixC, hlt]))) | (refine guardD_dec ?_ ?_ <;> (intro hc; (try simp -implicitDefEqProofs [-loopQ_n, hc, h, w1, w2, w3, w4, hh, hwN, hkN, haN, hkw, haw, hxa, hy, ixC, hlt]))) | (refine condD_intro ?_ ?_ <;> (intro hd; have hc := hd; (try simp at hc) <;> (try simp -implicitDefEqProofs [-loopQ_n, hd, hc, h, w1, w2, w3, w4, hh, hwN, hkN, haN, hkw, haw, hxa, hy, ixC, hlt]))) | (refine guardD_intro ?_ ?_ <;> (intro hd; have hc := hd; (try simp at hc) <;> (try simp -implicitDefEqProofs [-loopQ_n, hd, hc, h, w1, w2, w3, w4, hh, hwN, hkN, haN, hkw, haw, hxa, hy, ixC, hlt]))) | (refine ldD_ep ?_ ?_; (focus kernel_rfl); (try simp -implicitDefEqProofs [-loopQ_n, h, w1, w2, w3, w4, hh, hwN, hkN, haN, hkw, haw, hxa, hy, ixC, hlt])) | (refine callS_mk ?_; (try simp -implicitDefEqProofs [-loopQ_n, h, w1, w2, w3, w4, hh, hwN, hkN, haN, hkw, haw, hxa, hy, ixC, hlt]); (first | refine callS_intro (hcmp y x) (.inl rfl) ?_); (try simp -implicitDefEqProofs [-loopQ_n, h, w1, w2, w3, w4, hh, hwN, hkN, haN, hkw, haw, hxa, hy, ixC, hlt])))))
      refine loop_next (k + 1, j) ⟨by simp only; omega, by simp only; omega, hj, .inr ⟨y, ?_, by simpa [ltCX] using hlt⟩, c2⟩ (by simp only; omega) (weak_ofL 2 0 (by simp) (by simp) rfl ?_ ?_)
      · rw [show (k + 1, j).1 - m - 1 = k - m by simp only; omega]; exact hyQ
      · simp [refs]
      · simp [ixC_refsR, ins_refs]
    · ((try simp -implicitDefEqProofs [-loopQ_n, h, w1, w2, w3, w4, hh, hwN, hkN, haN, hkw, haw, hxa, hy, ixC, hlt]) <;> (repeat' (first | (refine condD_dec ?_ ?_ <;> (intro hc; (try simp -implicitDefEqProofs [-loopQ_n, hc, h, w1, w2, w3, w4, hh, hwN, hkN, haN, hkw, haw, hxa, hy, ixC, hlt]))) | (refine guardD_dec ?_ ?_ <;> (intro hc; (try simp -implicitDefEqProofs [-loopQ_n, hc, h, w1, w2, w3, w4, hh, hwN, hkN, haN, hkw, haw, hxa, hy, ixC, hlt]))) | (refine condD_intro ?_ ?_ <;> (intro hd; have hc := hd; (try simp at hc) <;> (try simp -implicitDefEqProofs [-loopQ_n, hd, hc, h, w1, w2, w3, w4, hh, hwN, hkN, haN, hkw, haw, hxa, hy, ixC, hlt]))) | (refine guardD_intro ?_ ?_ <;> (intro hd; have hc := hd; (try simp at hc) <;> (try simp -implicitDefEqProofs [-loopQ_n, hd, hc, h, w1, w2, w3, w4, hh, hwN, hkN, haN, hkw, haw, hxa, hy, ixC, hlt]))) | (refine ldD_ep ?_ ?_; (focus kernel_rfl); (try simp -implicitDefEqProofs [-loopQ_n, h, w1, w2, w3, w4, hh, hwN, hkN, haN, hkw, haw, hxa, hy, ixC, hlt])) | (refine callS_mk ?_; (try simp -implicitDefEqProofs [-loopQ_n, h, w1, w2, w3, w4, hh, hwN, hkN, haN, hkw, haw, hxa, hy, ixC, hlt]); (first | refine callS_intro (hcmp y x) (.inl rfl) ?_); (try simp -implicitDefEqProofs [-loopQ_n, h, w1, w2, w3, w4, hh, hwN, hkN, haN, hkw, haw, hxa, hy, ixC, hlt])))))
      refine loop_next (i, k) ⟨hi, by simp only; omega, by simp only; omega, c1, .inr ⟨y, hyQ, by simpa [ltCX] using hlt⟩⟩ (by simp only; omega) (weak_ofL 2 0 (by simp) (by simp) rfl ?_ ?_)
      · simp [refs]
      · simp [ixC_refsR, ins_refs]
  · have hij : j = i := by omega
    subst hij
    obtain ⟨hc1, hc2⟩ := cut_right hs hQ (x := x) (k := j - m) c1 c2
    have hsp := List.take_append_drop (j - m) Q
    have hlq : (Q.take (j - m)).length = j - m := by rw [List.length_take]; omega
    rw [← hsp] at hQ
    have hput := put_right hs hQ hc1 hc2
    rw [hsp] at hput
    generalize Q.take (j - m) = Q1 at *
    generalize Q.drop (j - m) = Q2 at *
    obtain ⟨e, he⟩ : ∃ e, j - 1 = e := ⟨_, rfl⟩
    have w5 := wi_subX (a := j) (b := 1) (by omega) (by omega)
    rw [he] at w5
    have w5 : wrapI .i64 ((j : Int) - 1) = e := w5
    ((try simp -implicitDefEqProofs [-loopQ_n, h]) <;> (repeat' (first | (refine condD_dec ?_ ?_ <;> (intro hc; (try simp -implicitDefEqProofs [-loopQ_n, hc, h]))) | (refine guardD_dec ?_ ?_ <;> (intro hc; (try simp -implicitDefEqProofs [-loopQ_n, hc, h]))) | (refine condD_intro ?_ ?_ <;> (intro hd; have hc := hd; (try simp at hc) <;> (try simp -implicitDefEqProofs [-loopQ_n, hd, hc, h]))) | (refine guardD_intro ?_ ?_ <;> (intro hd; have hc := hd; (try simp at hc) <;> (try simp -implicitDefEqProofs [-loopQ_n, hd, hc, h]))) | (refine ldD_ep ?_ ?_; (focus kernel_rfl); (try simp -implicitDefEqProofs [-loopQ_n, h])))))
    refine loop_intro (σ := List (Ix li) × List (Ix li)) (fun y => ⟨[(0, .os 1 N), (10, .int .i64 j), (13, .int .i64 (a + y.1.length : Nat))], [bxI li, rowX (A ++ (y.1 ++ (x :: (y.2 ++ (Q2 ++ B)))))]⟩)
      (fun y => y.1 ++ y.2 = Q1) (fun y => y.2.length) ([], Q1) rfl ?_ ?_
    · have e : A ++ ([] ++ (x :: (Q1 ++ (Q2 ++ B)))) = w := by rw [← hw, ← hsp]; simp
      simp only [e]
      refine weak_ofL 2 0 (by simp) (by simp) rfl ?_ ?_ <;> simp [ixC_refsR, ins_refs, refs]
    rintro ⟨U, V⟩ hUV
    simp only at hUV
    have hlUV : U.length + V.length = Q1.length := by rw [← hUV]; simp
    match V, hUV, hlUV with
    | [], hUV, hlUV =>
      have hk : a + U.length = e := by simp at hlUV; omega
      have hf : ¬ (e : Int) < e := by omega
      obtain ⟨w', hw'⟩ : ∃ w', A ++ (U ++ (x :: ([] ++ (Q2 ++ B)))) = w' := ⟨_, rfl⟩
      rw [hw', hk]
      ((try simp -implicitDefEqProofs [-loopQ_n, w5, hf]) <;> (repeat' (first | (refine condD_dec ?_ ?_ <;> (intro hc; (try simp -implicitDefEqProofs [-loopQ_n, hc, w5, hf]))) | (refine guardD_dec ?_ ?_ <;> (intro hc; (try simp -implicitDefEqProofs [-loopQ_n, hc, w5, hf]))) | (refine condD_intro ?_ ?_ <;> (intro hd; have hc := hd; (try simp at hc) <;> (try simp -implicitDefEqProofs [-loopQ_n, hd, hc, w5, hf]))) | (refine guardD_intro ?_ ?_ <;> (intro hd; have hc := hd; (try simp at hc) <;> (try simp -implicitDefEqProofs [-loopQ_n, hd, hc, w5, hf]))) | (refine ldD_ep ?_ ?_; (focus kernel_rfl); (try simp -implicitDefEqProofs [-loopQ_n, w5, hf])))))
      refine endG_r (.tup []) rfl ⟨rfl, Q1 ++ x :: Q2, ?_, hput.1, hput.2⟩
      rw [← hw', ← hUV]; simp
    | y :: V, hUV, hlUV =>
      obtain ⟨w', hw'⟩ : ∃ w', A ++ (U ++ (x :: (y :: V ++ (Q2 ++ B)))) = w' := ⟨_, rfl⟩
      have hw2 : (A ++ U) ++ (x :: (y :: (V ++ (Q2 ++ B)))) = w' := by rw [← hw']; simp
      have hk : (A ++ U).length = a + U.length := by rw [List.length_append, ha]
      have hg := two_get (U := A ++ U) (V := V ++ (Q2 ++ B)) (x := x) (y := y) hk
      have ht := two_set (U := A ++ U) (V := V ++ (Q2 ++ B)) (x := x) (y := y) hk
      have hwN' : w'.length = N := by rw [← hw2]; rw [← hsp] at hT; simp only [List.length_append, List.length_cons] at hlUV hT ⊢; omega
      rw [hw2] at hg ht
      rw [hw']
      simp only [List.length_cons] at hlUV
      generalize hkd : a + U.length = k at *
      obtain ⟨hk1, hx0, hx1⟩ := hg
      have hk0 : k < w'.length := by omega
      rw [List.getElem?_eq_getElem hk0] at hx0
      rw [List.getElem?_eq_getElem hk1] at hx1
      have hx0 : w'[k] = x := by simpa using hx0
      have hx1 : w'[k + 1] = y := by simpa using hx1
      have hk0N : k < N := by omega
      have hk1N : k + 1 < N := by omega
      have h0k : (0 : Int) ≤ (k : Int) + 1 := by omega
      have w6 := wi_oneX (a := k) (by omega)
      have hke : k < e := by omega
      ((try simp -implicitDefEqProofs [-loopQ_n, w5, w6, hke, hwN', hk0N, hk1N, h0k, hk0, hk1, hx0, hx1, ixC, ixC_set]) <;> (repeat' (first | (refine condD_dec ?_ ?_ <;> (intro hc; (try simp -implicitDefEqProofs [-loopQ_n, hc, w5, w6, hke, hwN', hk0N, hk1N, h0k, hk0, hk1, hx0, hx1, ixC, ixC_set]))) | (refine guardD_dec ?_ ?_ <;> (intro hc; (try simp -implicitDefEqProofs [-loopQ_n, hc, w5, w6, hke, hwN', hk0N, hk1N, h0k, hk0, hk1, hx0, hx1, ixC, ixC_set]))) | (refine condD_intro ?_ ?_ <;> (intro hd; have hc := hd; (try simp at hc) <;> (try simp -implicitDefEqProofs [-loopQ_n, hd, hc, w5, w6, hke, hwN', hk0N, hk1N, h0k, hk0, hk1, hx0, hx1, ixC, ixC_set]))) | (refine guardD_intro ?_ ?_ <;> (intro hd; have hc := hd; (try simp at hc) <;> (try simp -implicitDefEqProofs [-loopQ_n, hd, hc, w5, w6, hke, hwN', hk0N, hk1N, h0k, hk0, hk1, hx0, hx1, ixC, ixC_set]))) | (refine ldD_ep ?_ ?_; (focus kernel_rfl); (try simp -implicitDefEqProofs [-loopQ_n, w5, w6, hke, hwN', hk0N, hk1N, h0k, hk0, hk1, hx0, hx1, ixC, ixC_set])))))
      refine loop_next (U ++ [y], V) (by simp only; rw [← hUV]; simp) (by simp) (weak_ofL 2 0 (by simp) (by simp) rfl ?_ ?_)
      · simp [refs, ← hkd]; omega
      · rw [ht]; simp [ixC_refsR, ins_refs]
set_option maxHeartbeats 8000000 in
theorem sym_lastX (g : Nat) (cm : (Ix li) → (Ix li) → Int) (hcmp : ∀ x y : (Ix li), Pure Try.prog g [.int .i64 (x.i : Int), .int .i64 (y.i : Int), .rp [.rs (rowsOf insC li)]] (.int .i64 (cm x y))) (hs : Swo (ltCX cm))
    (A P B : List (Ix li)) (x : (Ix li)) (hP : Srtd (ltCX cm) P) (hP1 : P.length ≠ 1) (hl : (A ++ (P ++ ([x] ++ B))).length ≤ 2000) : SymCX g cm A P [x] B := by
  unfold SymCX
  obtain ⟨N, hN⟩ : ∃ N, (A ++ (P ++ ([x] ++ B))).length = N := ⟨_, rfl⟩
  obtain ⟨a, ha⟩ : ∃ a, A.length = a := ⟨_, rfl⟩
  obtain ⟨d, hd⟩ : ∃ d, P.length = d := ⟨_, rfl⟩
  obtain ⟨m, hm⟩ : ∃ m, a + d = m := ⟨_, rfl⟩
  obtain ⟨b, hb⟩ : ∃ b, m + [x].length = b := ⟨_, rfl⟩
  rw [hN] at hl ⊢
  rw [ha, hd, hm, hb]
  rw [hd] at hP1
  have hT : a + d + 1 + B.length = N := by rw [← hN, ← ha, ← hd]; simp; omega
  have hmb : b = m + 1 := by rw [← hb]; simp
  have w0 := wi_subX (a := m) (b := a) (by omega) (by omega)
  rw [show m - a = d by omega] at w0
  have w00 : wrapI .i64 ((b : Int) - m) = 1 := by rw [wrap_in (by omega) (by omega)]; omega
  have hd1 : ¬ (d : Int) = 1 := by omega
  obtain ⟨w, hw⟩ : ∃ w, A ++ (P ++ ([x] ++ B)) = w := ⟨_, rfl⟩
  have hwN : w.length = N := by rw [← hw]; exact hN
  have hwm : w[m]? = some x := by rw [← hw, List.getElem?_append_right (by omega), List.getElem?_append_right (by omega), ha, hd, show m - a - d = 0 by omega]; simp
  have hwP : ∀ t, t < P.length → w[a + t]? = P[t]? := fun t ht => by
    rw [← hw, List.getElem?_append_right (by omega), List.getElem?_append_left (by omega)]
    congr 1; omega
  rw [hw]
  refine inl_G mixed Try.func107 rfl (by kernel_rfl) (of_decide_eq_true rfl) (by kernel_rfl) (vc_run ?_)
  ((try simp -implicitDefEqProofs [-loopQ_n, w0, w00, hd1, hP1]) <;> (repeat' (first | (refine condD_dec ?_ ?_ <;> (intro hc; (try simp -implicitDefEqProofs [-loopQ_n, hc, w0, w00, hd1, hP1]))) | (refine guardD_dec ?_ ?_ <;> (intro hc; (try simp -implicitDefEqProofs [-loopQ_n, hc, w0, w00, hd1, hP1]))) | (refine condD_intro ?_ ?_ <;> (intro hd; have hc := hd; (try simp at hc) <;> (try simp -implicitDefEqProofs [-loopQ_n, hd, hc, w0, w00, hd1, hP1]))) | (refine guardD_intro ?_ ?_ <;> (intro hd; have hc := hd; (try simp at hc) <;> (try simp -implicitDefEqProofs [-loopQ_n, hd, hc, w0, w00, hd1, hP1]))) | (refine ldD_ep ?_ ?_; (focus kernel_rfl); (try simp -implicitDefEqProofs [-loopQ_n, w0, w00, hd1, hP1])))))
  refine loop_intro (σ := Nat × Nat) (fun y => ⟨[(0, .os 1 N), (2, .int .i64 m), (4, .fn g [.op 0 0]), (14, .int .i64 y.1), (15, .int .i64 y.2)], [bxI li, rowX w]⟩)
    (fun y => a ≤ y.1 ∧ y.1 ≤ y.2 ∧ y.2 ≤ m ∧ (y.1 - a = 0 ∨ ∃ z, P[y.1 - a - 1]? = some z ∧ ltCX cm x z = false) ∧ (y.2 - a = P.length ∨ ∃ z, P[y.2 - a]? = some z ∧ ltCX cm x z = true)) (fun y => y.2 - y.1) (a, m) ⟨by simp, by simp only; omega, by simp, .inl (by simp), .inl (by simp only; omega)⟩ ?_ ?_
  · refine weak_ofL 2 0 (by simp) (by simp) rfl ?_ ?_ <;> simp [ixC_refsR, ins_refs, refs]
  rintro ⟨i, j⟩ ⟨hi, hij, hj, c1, c2⟩
  simp only at hi hij hj c1 c2
  by_cases h : i < j
  · obtain ⟨s, hsum⟩ : ∃ s, i + j = s := ⟨_, rfl⟩
    obtain ⟨k, hk⟩ : ∃ k, s / 2 = k := ⟨_, rfl⟩
    have w1 := wi_addX (a := i) (b := j) (by omega)
    rw [hsum] at w1
    have w2 : wrapI .u64 (s : Int) = s := wu_inX (by omega) (by omega)
    have w3 : wrapI .i64 (k : Int) = k := wrap_in (by omega) (by omega)
    have w4 := wi_oneX (a := k) (by omega)
    have hh := half_natX s
    rw [hk] at hh
    have hkN : k < N := by omega
    have hmN : m < N := by omega
    have hkw : k < w.length := by omega
    have hmw : m < w.length := by omega
    have hxm : w[m] = x := by rw [List.getElem?_eq_getElem hmw] at hwm; simpa using hwm
    obtain ⟨y, hy⟩ : ∃ y, w[k] = y := ⟨_, rfl⟩
    have hyP : P[k - a]? = some y := by rw [← hwP (k - a) (by omega), show a + (k - a) = k by omega, List.getElem?_eq_getElem hkw, hy]
    by_cases hlt : cm x y < 0
    · ((try simp -implicitDefEqProofs [-loopQ_n, h, w1, w2, w3, w4, hh, hwN, hkN, hmN, hkw, hmw, hxm, hy, ixC, hlt]) <;> (repeat' (first | (refine condD_dec ?_ ?_ <;> (intro hc; (try simp -implicitDefEqProofs [-loopQ_n, hc, h, w1, w2, w3, w4, hh, hwN, hkN, hmN, hkw, hmw, hxm, hy, ixC, hlt]))) | (refine guardD_dec ?_ ?_ <;> (intro hc; (try simp -implicitDefEqProofs [-loopQ_n, hc, h, w1, w2, w3, w4, hh, hwN, hkN, hmN, hkw, hmw, hxm, hy, ixC, hlt]))) | (refine condD_intro ?_ ?_ <;> (intro hd; have hc := hd; (try simp at hc) <;> (try simp -implicitDefEqProofs [-loopQ_n, hd, hc, h, w1, w2, w3, w4, hh, hwN, hkN, hmN, hkw, hmw, hxm, hy, ixC, hlt]))) | (refine guardD_intro ?_ ?_ <;> (intro hd; have hc := hd; (try simp at hc) <;> (try simp -implicitDefEqProofs [-loopQ_n, hd, hc, h, w1, w2, w3, w4, hh, hwN, hkN, hmN, hkw, hmw, hxm, hy, ixC, hlt]))) | (refine ldD_ep ?_ ?_; (focus kernel_rfl); (try simp -implicitDefEqProofs [-loopQ_n, h, w1, w2, w3, w4, hh, hwN, hkN, hmN, hkw, hmw, hxm, hy, ixC, hlt])) | (refine callS_mk ?_; (try simp -implicitDefEqProofs [-loopQ_n, h, w1, w2, w3, w4, hh, hwN, hkN, hmN, hkw, hmw, hxm, hy, ixC, hlt]); (first | refine callS_intro (hcmp x y) (.inl rfl) ?_); (try simp -implicitDefEqProofs [-loopQ_n, h, w1, w2, w3, w4, hh, hwN, hkN, hmN, hkw, hmw, hxm, hy, ixC, hlt])))))
      refine loop_next (i, k) ⟨hi, by simp only; omega, by simp only; omega, c1, .inr ⟨y, hyP, by simpa [ltCX] using hlt⟩⟩ (by simp only; omega) (weak_ofL 2 0 (by simp) (by simp) rfl ?_ ?_)
      · simp [refs]
      · simp [ixC_refsR, ins_refs]
    · ((try simp -implicitDefEqProofs [-loopQ_n, h, w1, w2, w3, w4, hh, hwN, hkN, hmN, hkw, hmw, hxm, hy, ixC, hlt]) <;> (repeat' (first | (refine condD_dec ?_ ?_ <;> (intro hc; (try simp -implicitDefEqProofs [-loopQ_n, hc, h, w1, w2, w3, w4, hh, hwN, hkN, hmN, hkw, hmw, hxm, hy, ixC, hlt]))) | (refine guardD_dec ?_ ?_ <;> (intro hc; (try simp -implicitDefEqProofs [-loopQ_n, hc, h, w1, w2, w3, w4, hh, hwN, hkN, hmN, hkw, hmw, hxm, hy, ixC, hlt]))) | (refine condD_intro ?_ ?_ <;> (intro hd; have hc := hd; (try simp at hc) <;> (try simp -implicitDefEqProofs [-loopQ_n, hd, hc, h, w1, w2, w3, w4, hh, hwN, hkN, hmN, hkw, hmw, hxm, hy, ixC, hlt]))) | (refine guardD_intro ?_ ?_ <;> (intro hd; have hc := hd; (try simp at hc) <;> (try simp -implicitDefEqProofs [-loopQ_n, hd, hc, h, w1, w2, w3, w4, hh, hwN, hkN, hmN, hkw, hmw, hxm, hy, ixC, hlt]))) | (refine ldD_ep ?_ ?_; (focus kernel_rfl); (try simp -implicitDefEqProofs [-loopQ_n, h, w1, w2, w3, w4, hh, hwN, hkN, hmN, hkw, hmw, hxm, hy, ixC, hlt])) | (refine callS_mk ?_; (try simp -implicitDefEqProofs [-loopQ_n, h, w1, w2, w3, w4, hh, hwN, hkN, hmN, hkw, hmw, hxm, hy, ixC, hlt]); (first | refine callS_intro (hcmp x y) (.inl rfl) ?_); (try simp -implicitDefEqProofs [-loopQ_n, h, w1, w2, w3, w4, hh, hwN, hkN, hmN, hkw, hmw, hxm, hy, ixC, hlt])))))
      refine loop_next (k + 1, j) ⟨by simp only; omega, by simp only; omega, hj, .inr ⟨y, ?_, by simpa [ltCX] using hlt⟩, c2⟩ (by simp only; omega) (weak_ofL 2 0 (by simp) (by simp) rfl ?_ ?_)
      · rw [show (k + 1, j).1 - a - 1 = k - a by simp only; omega]; exact hyP
      · simp [refs]
      · simp [ixC_refsR, ins_refs]
  · have hij : j = i := by omega
    subst hij
    obtain ⟨hc1, hc2⟩ := cut_left hs hP (x := x) (k := j - a) c1 c2
    have hsp := List.take_append_drop (j - a) P
    have hlq : (P.take (j - a)).length = j - a := by rw [List.length_take]; omega
    rw [← hsp] at hP
    have hput := put_left hs hP hc1 hc2
    rw [hsp] at hput
    generalize P.take (j - a) = P1 at *
    generalize P.drop (j - a) = P2 at *
    have hl2 : P1.length + P2.length = d := by rw [← hd, ← hsp]; simp
    ((try simp -implicitDefEqProofs [-loopQ_n, h]) <;> (repeat' (first | (refine condD_dec ?_ ?_ <;> (intro hc; (try simp -implicitDefEqProofs [-loopQ_n, hc, h]))) | (refine guardD_dec ?_ ?_ <;> (intro hc; (try simp -implicitDefEqProofs [-loopQ_n, hc, h]))) | (refine condD_intro ?_ ?_ <;> (intro hd; have hc := hd; (try simp at hc) <;> (try simp -implicitDefEqProofs [-loopQ_n, hd, hc, h]))) | (refine guardD_intro ?_ ?_ <;> (intro hd; have hc := hd; (try simp at hc) <;> (try simp -implicitDefEqProofs [-loopQ_n, hd, hc, h]))) | (refine ldD_ep ?_ ?_; (focus kernel_rfl); (try simp -implicitDefEqProofs [-loopQ_n, h])))))
    refine loop_intro (σ := List (Ix li) × List (Ix li)) (fun y => ⟨[(0, .os 1 N), (14, .int .i64 j), (17, .int .i64 (j + y.1.length : Nat))], [bxI li, rowX (A ++ (P1 ++ (y.1 ++ (x :: (y.2 ++ B)))))]⟩)
      (fun y => y.1 ++ y.2 = P2) (fun y => y.1.length) (P2, []) (by simp) ?_ ?_
    · have e : A ++ (P1 ++ (P2 ++ (x :: ([] ++ B)))) = w := by rw [← hw, ← hsp]; simp
      have e2 : j + P2.length = m := by omega
      simp only [e, e2]
      refine weak_ofL 2 0 (by simp) (by simp) rfl ?_ ?_ <;> simp [ixC_refsR, ins_refs, refs]
    rintro ⟨U, V⟩ hUV
    simp only at hUV
    have hlUV : U.length + V.length = P2.length := by rw [← hUV]; simp
    rcases List.eq_nil_or_concat U with rfl | ⟨U, y, rfl⟩
    · have hf : ¬ (j : Int) < j := by omega
      obtain ⟨w', hw'⟩ : ∃ w', A ++ (P1 ++ ([] ++ (x :: (V ++ B)))) = w' := ⟨_, rfl⟩
      rw [hw']
      ((try simp -implicitDefEqProofs [-loopQ_n, hf]) <;> (repeat' (first | (refine condD_dec ?_ ?_ <;> (intro hc; (try simp -implicitDefEqProofs [-loopQ_n, hc, hf]))) | (refine guardD_dec ?_ ?_ <;> (intro hc; (try simp -implicitDefEqProofs [-loopQ_n, hc, hf]))) | (refine condD_intro ?_ ?_ <;> (intro hd; have hc := hd; (try simp at hc) <;> (try simp -implicitDefEqProofs [-loopQ_n, hd, hc, hf]))) | (refine guardD_intro ?_ ?_ <;> (intro hd; have hc := hd; (try simp at hc) <;> (try simp -implicitDefEqProofs [-loopQ_n, hd, hc, hf]))) | (refine ldD_ep ?_ ?_; (focus kernel_rfl); (try simp -implicitDefEqProofs [-loopQ_n, hf])))))
      refine endG_r (.tup []) rfl ⟨rfl, P1 ++ x :: P2, ?_, hput.1, hput.2⟩
      rw [← hw', ← hUV]; simp
    · obtain ⟨w', hw'⟩ : ∃ w', A ++ (P1 ++ (U.concat y ++ (x :: (V ++ B)))) = w' := ⟨_, rfl⟩
      have hw2 : (A ++ (P1 ++ U)) ++ (y :: (x :: (V ++ B))) = w' := by rw [← hw']; simp
      have hk : (A ++ (P1 ++ U)).length = j + U.length := by rw [List.length_append, List.length_append, ha]; omega
      have hg := two_get (U := A ++ (P1 ++ U)) (V := V ++ B) (x := y) (y := x) hk
      have ht := two_set' (U := A ++ (P1 ++ U)) (V := V ++ B) (x := y) (y := x) hk
      have hlc : (U.concat y).length = U.length + 1 := by simp
      have hkk : j + (U.concat y).length = j + U.length + 1 := by omega
      rw [hlc] at hlUV
      have hwN' : w'.length = N := by rw [← hw2]; simp only [List.length_append, List.length_cons] at hlUV hT ⊢; omega
      rw [hw2] at hg ht
      rw [hw', hkk]
      have hak : (j : Int) < ((j + U.length : Nat) : Int) + 1 := by omega
      generalize hkd : j + U.length = k at *
      obtain ⟨hk1, hx0, hx1⟩ := hg
      have hk0 : k < w'.length := by omega
      rw [List.getElem?_eq_getElem hk0] at hx0
      rw [List.getElem?_eq_getElem hk1] at hx1
      have hx0 : w'[k] = y := by simpa using hx0
      have hx1 : w'[k + 1] = x := by simpa using hx1
      have hk0N : k < N := by omega
      have hk1N : k + 1 < N := by omega
      have h0k : (0 : Int) ≤ (k : Int) + 1 := by omega
      have w5 : wrapI .i64 (k : Int) = k := wrap_in (by omega) (by omega)
      ((try simp -implicitDefEqProofs [-loopQ_n, w5, hak, hwN', hk0N, hk1N, h0k, hk0, hk1, hx0, hx1, ixC, ixC_set]) <;> (repeat' (first | (refine condD_dec ?_ ?_ <;> (intro hc; (try simp -implicitDefEqProofs [-loopQ_n, hc, w5, hak, hwN', hk0N, hk1N, h0k, hk0, hk1, hx0, hx1, ixC, ixC_set]))) | (refine guardD_dec ?_ ?_ <;> (intro hc; (try simp -implicitDefEqProofs [-loopQ_n, hc, w5, hak, hwN', hk0N, hk1N, h0k, hk0, hk1, hx0, hx1, ixC, ixC_set]))) | (refine condD_intro ?_ ?_ <;> (intro hd; have hc := hd; (try simp at hc) <;> (try simp -implicitDefEqProofs [-loopQ_n, hd, hc, w5, hak, hwN', hk0N, hk1N, h0k, hk0, hk1, hx0, hx1, ixC, ixC_set]))) | (refine guardD_intro ?_ ?_ <;> (intro hd; have hc := hd; (try simp at hc) <;> (try simp -implicitDefEqProofs [-loopQ_n, hd, hc, w5, hak, hwN', hk0N, hk1N, h0k, hk0, hk1, hx0, hx1, ixC, ixC_set]))) | (refine ldD_ep ?_ ?_; (focus kernel_rfl); (try simp -implicitDefEqProofs [-loopQ_n, w5, hak, hwN', hk0N, hk1N, h0k, hk0, hk1, hx0, hx1, ixC, ixC_set])))))
      refine loop_next (U, y :: V) (by simp only; rw [← hUV]; simp) (by simp) (weak_ofL 2 0 (by simp) (by simp) rfl ?_ ?_)
      · simp [refs, ← hkd]
      · rw [ht]; simp [ixC_refsR, ins_refs]
end Go.Proofs.Ytfbpjlabhckoeaa
