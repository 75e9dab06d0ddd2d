/- Stable sorting of events, second part: insertion. -/
import Derived.Test.YtfbpjlabhckoeaaStiE
namespace Go.Proofs.Ytfbpjlabhckoeaa
set_option linter.unusedSimpArgs false
set_option linter.unusedVariables false
set_option linter.unnecessarySimpa false
set_option linter.unusedSectionVars false
open Go.RowKit
variable [Glob]
open Stab
variable {li : List Ins}
set_option maxRecDepth 100000
def ltCX (cm : (Ix li) → (Ix li) → Int) (x y : (Ix li)) : Bool := decide (cm x y < 0)
set_option maxHeartbeats 8000000 in
theorem ins_GX (g : Nat) (cm : (Ix li) → (Ix li) → Int) (hcmp : ∀ x y : (Ix li), Pure Try.prog g [.int .i64 (x.i : Int), .int .i64 (y.i : Int), .rp [.rs (rowsOf insC li)]] (.int .i64 (cm x y))) (hs : Swo (ltCX cm))
    (A X B : List (Ix li)) (N a b : Nat) (hN : (A ++ (X ++ B)).length = N) (ha : A.length = a) (hb : a + X.length = b) (hl : N ≤ 2000) :
    CallG Try.prog 106 [.os 1 N, .int .i64 a, .int .i64 b, .fn g [.op 0 0]] [bxI li, rowX (A ++ (X ++ B))]
      fun r H => r = .tup [] ∧ ∃ X' : List (Ix li), H = [bxI li, rowX (A ++ (X' ++ B))] ∧ X'.length = X.length ∧ Srtd (ltCX cm) X' ∧ Stb (ltCX cm) X X' := by
  have hT : a + X.length + B.length = N := by simp only [List.length_append] at hN; omega
  have w0 := wi_oneX (a := a) (by omega)
  refine inl_G mixed Try.func106 rfl (by kernel_rfl) (of_decide_eq_true rfl) (by kernel_rfl) (vc_run ?_)
  ((try simp -implicitDefEqProofs [-loopQ_n, w0]) <;> (repeat' (first | (refine condD_dec ?_ ?_ <;> (intro hc; (try simp -implicitDefEqProofs [-loopQ_n, hc, w0]))) | (refine guardD_dec ?_ ?_ <;> (intro hc; (try simp -implicitDefEqProofs [-loopQ_n, hc, w0]))) | (refine condD_intro ?_ ?_ <;> (intro hd; have hc := hd; (try simp at hc) <;> (try simp -implicitDefEqProofs [-loopQ_n, hd, hc, w0]))) | (refine guardD_intro ?_ ?_ <;> (intro hd; have hc := hd; (try simp at hc) <;> (try simp -implicitDefEqProofs [-loopQ_n, hd, hc, w0]))) | (refine ldD_ep ?_ ?_; (focus kernel_rfl); (try simp -implicitDefEqProofs [-loopQ_n, w0])))))
  refine loop_intro (σ := Nat × List (Ix li) × List (Ix li)) (fun x => ⟨[(0, .os 1 N), (1, .int .i64 a), (2, .int .i64 b), (3, .fn g [.op 0 0]), (8, .int .i64 x.1)], [bxI li, rowX (A ++ (x.2.1 ++ (x.2.2 ++ B)))]⟩)
    (fun x => a + 1 ≤ x.1 ∧ x.1 ≤ b + 1 ∧ x.2.1.length = min (x.1 - a) X.length ∧ Srtd (ltCX cm) x.2.1 ∧ Stb (ltCX cm) X (x.2.1 ++ x.2.2)) (fun x => b + 1 - x.1) (a + 1, X.take 1, X.drop 1) ⟨by simp, by simp only; omega, by simp, ?_, ?_⟩ ?_ ?_
  · simp only
    match X with
    | [] => exact srtd_nil
    | x :: X => exact srtd_one x
  · simp only [List.take_append_drop]; exact Stb.refl X
  · have e : X.take 1 ++ (X.drop 1 ++ B) = X ++ B := by rw [← List.append_assoc, List.take_append_drop]
    simp only [e]
    refine weak_ofL 2 0 (by simp) (by simp) rfl ?_ ?_ <;> simp [ixC_refsR, ins_refs, refs]
  rintro ⟨i, P, R⟩ ⟨hi1, hi2, hP, hS, hX⟩
  simp only at hi1 hi2 hP hS hX
  have hlen := hX.1
  rw [List.length_append] at hlen
  by_cases h : i < b
  · have w1 := wi_oneX (a := i) (by omega)
    match R with
    | [] => simp at hlen; omega
    | x :: R =>
      ((try simp -implicitDefEqProofs [-loopQ_n, h]) <;> (repeat' (first | (refine condD_dec ?_ ?_ <;> (intro hc; (try simp -implicitDefEqProofs [-loopQ_n, hc, h]))) | (refine guardD_dec ?_ ?_ <;> (intro hc; (try simp -implicitDefEqProofs [-loopQ_n, hc, h]))) | (refine condD_intro ?_ ?_ <;> (intro hd; have hc := hd; (try simp at hc) <;> (try simp -implicitDefEqProofs [-loopQ_n, hd, hc, h]))) | (refine guardD_intro ?_ ?_ <;> (intro hd; have hc := hd; (try simp at hc) <;> (try simp -implicitDefEqProofs [-loopQ_n, hd, hc, h]))) | (refine ldD_ep ?_ ?_; (focus kernel_rfl); (try simp -implicitDefEqProofs [-loopQ_n, h])))))
      refine loop_intro (σ := List (Ix li) × List (Ix li)) (fun y => ⟨[(0, .os 1 N), (1, .int .i64 a), (2, .int .i64 b), (3, .fn g [.op 0 0]), (8, .int .i64 i), (9, .int .i64 ((a + y.1.length : Nat) : Int))], [bxI li, rowX (A ++ (y.1 ++ (x :: (y.2 ++ (R ++ B)))))]⟩)
        (fun y => y.1 ++ y.2 = P ∧ ∀ z ∈ y.2, ltCX cm x z = true) (fun y => y.1.length) (P, []) ⟨by simp, by simp⟩ ?_ ?_
      · simp only [show a + P.length = i by omega, List.nil_append, List.cons_append]
        refine weak_ofL 2 0 (by simp) (by simp) rfl ?_ ?_ <;> simp [ixC_refsR, ins_refs, refs]
      rintro ⟨P1, P2⟩ ⟨hPP, hz⟩
      simp only at hPP hz
      rcases List.eq_nil_or_concat P1 with rfl | ⟨U, y, rfl⟩
      · obtain ⟨w, hw⟩ : ∃ w, A ++ ([] ++ (x :: (P2 ++ (R ++ B)))) = w := ⟨_, rfl⟩
        rw [hw]
        have hnx := put_left hs (x := x) (P1 := []) (P2 := P2) (by rw [hPP]; exact hS) (by simp) hz
        rw [hPP] at hnx
        ((try simp -implicitDefEqProofs [-loopQ_n, w1]) <;> (repeat' (first | (refine condD_dec ?_ ?_ <;> (intro hc; (try simp -implicitDefEqProofs [-loopQ_n, hc, w1]))) | (refine guardD_dec ?_ ?_ <;> (intro hc; (try simp -implicitDefEqProofs [-loopQ_n, hc, w1]))) | (refine condD_intro ?_ ?_ <;> (intro hd; have hc := hd; (try simp at hc) <;> (try simp -implicitDefEqProofs [-loopQ_n, hd, hc, w1]))) | (refine guardD_intro ?_ ?_ <;> (intro hd; have hc := hd; (try simp at hc) <;> (try simp -implicitDefEqProofs [-loopQ_n, hd, hc, w1]))) | (refine ldD_ep ?_ ?_; (focus kernel_rfl); (try simp -implicitDefEqProofs [-loopQ_n, w1])))))
        refine loop_next (i + 1, x :: P2, R) ⟨by simp only; omega, by simp only; omega, ?_, hnx.1, ?_⟩ (by simp only; omega) (weak_ofL 2 0 (by simp) (by simp) rfl ?_ ?_)
        · rw [List.nil_append] at hPP; simp only [List.length_cons, hPP]; omega
        · refine hX.trans ?_
          have := hnx.2.app (Stb.refl (lt := ltCX cm) R)
          simpa using this
        · simp [refs]
        · rw [← hw]; simp [ixC_refsR, ins_refs]
      · obtain ⟨w, hw⟩ : ∃ w, A ++ ((U.concat y) ++ (x :: (P2 ++ (R ++ B)))) = w := ⟨_, rfl⟩
        have hw2 : (A ++ U) ++ (y :: (x :: (P2 ++ (R ++ B)))) = w := by rw [← hw]; simp
        have hk : (A ++ U).length = a + U.length := by rw [List.length_append, ha]
        have hg := two_get (U := A ++ U) (V := P2 ++ (R ++ B)) (x := y) (y := x) hk
        have ht := two_set' (U := A ++ U) (V := P2 ++ (R ++ B)) (x := y) (y := x) hk
        have hkk : a + (U.concat y).length = a + U.length + 1 := by simp; omega
        have hlk : (U.concat y).length = U.length + 1 := by simp
        have hlP : U.length + 1 + P2.length = P.length := by rw [← hPP]; simp; omega
        rw [hw2] at hg ht
        rw [hw, hkk]
        have hak : (a : Int) < ((a + U.length : Nat) : Int) + 1 := by omega
        generalize hkd : a + U.length = k at *
        obtain ⟨hk1, hx0, hx1⟩ := hg
        have hk0 : k < w.length := by omega
        rw [List.getElem?_eq_getElem hk0] at hx0
        rw [List.getElem?_eq_getElem hk1] at hx1
        have hx0 : w[k] = y := by simpa using hx0
        have hx1 : w[k + 1] = x := by simpa using hx1
        have hwN : w.length = N := by rw [← hw2]; simp only [List.length_append, List.length_cons] at hlen ⊢; omega
        have hk0N : k < N := by omega
        have hk1N : k + 1 < N := by omega
        have h0k : (0 : Int) ≤ (k : Int) + 1 := by omega
        have w5 : wrapI .i64 (k : Int) = k := wrap_in (by omega) (by omega)
        by_cases hlt : cm x y < 0
        · ((try simp -implicitDefEqProofs [-loopQ_n, w1, w5, hak, hwN, hk0N, hk1N, h0k, hk0, hk1, hx0, hx1, ixC, ixC_set, hlt]) <;> (repeat' (first | (refine condD_dec ?_ ?_ <;> (intro hc; (try simp -implicitDefEqProofs [-loopQ_n, hc, w1, w5, hak, hwN, hk0N, hk1N, h0k, hk0, hk1, hx0, hx1, ixC, ixC_set, hlt]))) | (refine guardD_dec ?_ ?_ <;> (intro hc; (try simp -implicitDefEqProofs [-loopQ_n, hc, w1, w5, hak, hwN, hk0N, hk1N, h0k, hk0, hk1, hx0, hx1, ixC, ixC_set, hlt]))) | (refine condD_intro ?_ ?_ <;> (intro hd; have hc := hd; (try simp at hc) <;> (try simp -implicitDefEqProofs [-loopQ_n, hd, hc, w1, w5, hak, hwN, hk0N, hk1N, h0k, hk0, hk1, hx0, hx1, ixC, ixC_set, hlt]))) | (refine guardD_intro ?_ ?_ <;> (intro hd; have hc := hd; (try simp at hc) <;> (try simp -implicitDefEqProofs [-loopQ_n, hd, hc, w1, w5, hak, hwN, hk0N, hk1N, h0k, hk0, hk1, hx0, hx1, ixC, ixC_set, hlt]))) | (refine ldD_ep ?_ ?_; (focus kernel_rfl); (try simp -implicitDefEqProofs [-loopQ_n, w1, w5, hak, hwN, hk0N, hk1N, h0k, hk0, hk1, hx0, hx1, ixC, ixC_set, hlt])) | (refine callS_mk ?_; (try simp -implicitDefEqProofs [-loopQ_n, w1, w5, hak, hwN, hk0N, hk1N, h0k, hk0, hk1, hx0, hx1, ixC, ixC_set, hlt]); (first | refine callS_intro (hcmp x y) (.inl rfl) ?_); (try simp -implicitDefEqProofs [-loopQ_n, w1, w5, hak, hwN, hk0N, hk1N, h0k, hk0, hk1, hx0, hx1, ixC, ixC_set, hlt])))))
          refine loop_next (U, y :: P2) ⟨by rw [← hPP]; simp, fun z hz' => ?_⟩ (by simp) (weak_ofL 2 0 (by simp) (by simp) rfl ?_ ?_)
          · rcases List.mem_cons.1 hz' with rfl | hz'
            · simpa [ltCX] using hlt
            · exact hz z hz'
          · simp [refs, ← hkd]
          · rw [ht]; simp [ixC_refsR, ins_refs]
        · ((try simp -implicitDefEqProofs [-loopQ_n, w1, w5, hak, hwN, hk0N, hk1N, h0k, hk0, hk1, hx0, hx1, ixC, ixC_set, hlt]) <;> (repeat' (first | (refine condD_dec ?_ ?_ <;> (intro hc; (try simp -implicitDefEqProofs [-loopQ_n, hc, w1, w5, hak, hwN, hk0N, hk1N, h0k, hk0, hk1, hx0, hx1, ixC, ixC_set, hlt]))) | (refine guardD_dec ?_ ?_ <;> (intro hc; (try simp -implicitDefEqProofs [-loopQ_n, hc, w1, w5, hak, hwN, hk0N, hk1N, h0k, hk0, hk1, hx0, hx1, ixC, ixC_set, hlt]))) | (refine condD_intro ?_ ?_ <;> (intro hd; have hc := hd; (try simp at hc) <;> (try simp -implicitDefEqProofs [-loopQ_n, hd, hc, w1, w5, hak, hwN, hk0N, hk1N, h0k, hk0, hk1, hx0, hx1, ixC, ixC_set, hlt]))) | (refine guardD_intro ?_ ?_ <;> (intro hd; have hc := hd; (try simp at hc) <;> (try simp -implicitDefEqProofs [-loopQ_n, hd, hc, w1, w5, hak, hwN, hk0N, hk1N, h0k, hk0, hk1, hx0, hx1, ixC, ixC_set, hlt]))) | (refine ldD_ep ?_ ?_; (focus kernel_rfl); (try simp -implicitDefEqProofs [-loopQ_n, w1, w5, hak, hwN, hk0N, hk1N, h0k, hk0, hk1, hx0, hx1, ixC, ixC_set, hlt])) | (refine callS_mk ?_; (try simp -implicitDefEqProofs [-loopQ_n, w1, w5, hak, hwN, hk0N, hk1N, h0k, hk0, hk1, hx0, hx1, ixC, ixC_set, hlt]); (first | refine callS_intro (hcmp x y) (.inl rfl) ?_); (try simp -implicitDefEqProofs [-loopQ_n, w1, w5, hak, hwN, hk0N, hk1N, h0k, hk0, hk1, hx0, hx1, ixC, ixC_set, hlt])))))
          have hy : ltCX cm x y = false := by simpa [ltCX] using hlt
          have hall : ∀ z ∈ U.concat y, ltCX cm x z = false := fun z hz' => by
            rw [List.concat_eq_append, List.mem_append, List.mem_singleton] at hz'
            rcases hz' with hz' | rfl
            · rw [← hPP, List.concat_eq_append, srtd_app, srtd_app] at hS
              exact hs.ge (hS.1.2.2 z hz' y (by simp)) hy
            · exact hy
          have hnx := put_left hs (x := x) (P1 := U.concat y) (P2 := P2) (by rw [hPP]; exact hS) hall hz
          rw [hPP] at hnx
          refine loop_next (i + 1, U.concat y ++ x :: P2, R) ⟨by simp only; omega, by simp only; omega, ?_, hnx.1, ?_⟩ (by simp only; omega) (weak_ofL 2 0 (by simp) (by simp) rfl ?_ ?_)
          · simp only [List.length_append, List.length_cons, hlk]; omega
          · refine hX.trans ?_
            have := hnx.2.app (Stb.refl (lt := ltCX cm) R)
            simpa using this
          · simp [refs]
          · rw [← hw]; simp [ixC_refsR, ins_refs]
  · have hR : R = [] := List.eq_nil_of_length_eq_zero (by omega)
    subst hR
    ((try simp -implicitDefEqProofs [-loopQ_n, h]) <;> (repeat' (first | (refine condD_dec ?_ ?_ <;> (intro hc; (try simp -implicitDefEqProofs [-loopQ_n, hc, h]))) | (refine guardD_dec ?_ ?_ <;> (intro hc; (try simp -implicitDefEqProofs [-loopQ_n, hc, h]))) | (refine condD_intro ?_ ?_ <;> (intro hd; have hc := hd; (try simp at hc) <;> (try simp -implicitDefEqProofs [-loopQ_n, hd, hc, h]))) | (refine guardD_intro ?_ ?_ <;> (intro hd; have hc := hd; (try simp at hc) <;> (try simp -implicitDefEqProofs [-loopQ_n, hd, hc, h]))) | (refine ldD_ep ?_ ?_; (focus kernel_rfl); (try simp -implicitDefEqProofs [-loopQ_n, h])))))
    exact endG_n (.tup []) rfl ⟨rfl, P, by simp, by omega, hS, by simpa using hX⟩
end Go.Proofs.Ytfbpjlabhckoeaa
