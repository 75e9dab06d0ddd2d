/- Stable sorting of events, the last part: slices.SortStableFunc. -/
import Derived.Test.YtfbpjlabhckoeaaStiM
namespace Go.Proofs.Ytfbpjlabhckoeaa
set_option linter.unusedSimpArgs false
set_option linter.unusedVariables false
set_option linter.unnecessarySimpa false
set_option linter.unusedSectionVars false
open Go.RowKit
variable [Glob]
open Stab
variable {li : List Ins}
set_option maxRecDepth 100000
theorem SymCX.at2 {g : Nat} {cm : (Ix li) → (Ix li) → Int} {A P Q B : List (Ix li)} (h : SymCX g cm A P Q B) {N a m b : Nat} (hN : (A ++ (P ++ (Q ++ B))).length = N) (ha : A.length = a) (hm : a + P.length = m) (hb : m + Q.length = b) :
    CallG Try.prog 107 [.os 1 N, .int .i64 a, .int .i64 m, .int .i64 b, .fn g [.op 0 0]] [bxI li, rowX (A ++ (P ++ (Q ++ B)))]
      fun r H => r = .tup [] ∧ ∃ R : List (Ix li), H = [bxI li, rowX (A ++ (R ++ B))] ∧ Srtd (ltCX cm) R ∧ Stb (ltCX cm) (P ++ Q) R := by
  subst hN ha hm hb
  exact h
set_option maxHeartbeats 16000000 in
theorem stable_GX (g : Nat) (cm : (Ix li) → (Ix li) → Int) (hcmp : ∀ x y : (Ix li), Pure Try.prog g [.int .i64 (x.i : Int), .int .i64 (y.i : Int), .rp [.rs (rowsOf insC li)]] (.int .i64 (cm x y))) (hs : Swo (ltCX cm))
    (hsym : ∀ A P Q B : List (Ix li), Srtd (ltCX cm) P → Srtd (ltCX cm) Q → P ≠ [] → Q ≠ [] → (A ++ (P ++ (Q ++ B))).length ≤ 2000 → SymCX g cm A P Q B)
    (X : List (Ix li)) (N : Nat) (hN : X.length = N) (hl : N ≤ 2000) :
    CallG Try.prog 93 [.os 1 N, .int .i64 N, .fn g [.op 0 0]] [bxI li, rowX X]
      fun r H => r = .tup [] ∧ ∃ Y : List (Ix li), H = [bxI li, rowX Y] ∧ Srtd (ltCX cm) Y ∧ Stb (ltCX cm) X Y := by
  refine inl_G mixed Try.func93 rfl (by kernel_rfl) (of_decide_eq_true rfl) (by kernel_rfl) (vc_run ?_)
  ((try simp -implicitDefEqProofs [-loopQ_n]) <;> (repeat' (first | (refine condD_dec ?_ ?_ <;> (intro hc; (try simp -implicitDefEqProofs [-loopQ_n, hc]))) | (refine guardD_dec ?_ ?_ <;> (intro hc; (try simp -implicitDefEqProofs [-loopQ_n, hc]))) | (refine condD_intro ?_ ?_ <;> (intro hd; have hc := hd; (try simp at hc) <;> (try simp -implicitDefEqProofs [-loopQ_n, hd, hc]))) | (refine guardD_intro ?_ ?_ <;> (intro hd; have hc := hd; (try simp at hc) <;> (try simp -implicitDefEqProofs [-loopQ_n, hd, hc]))) | (refine ldD_ep ?_ ?_; (focus kernel_rfl); (try simp -implicitDefEqProofs [-loopQ_n])))))
  refine loop_intro (σ := List (Ix li) × List (Ix li)) (fun y => ⟨[(0, .os 1 N), (1, .int .i64 N), (2, .fn g [.op 0 0]), (6, .int .i64 20), (7, .int .i64 (y.1.length : Nat)), (8, .int .i64 (y.1.length + 20 : Nat))], [bxI li, rowX (y.1 ++ y.2)]⟩)
    (fun y => RunE (ltCX cm) 20 y.1 ∧ Stb (ltCX cm) X (y.1 ++ y.2)) (fun y => y.2.length) ([], X) ⟨.nil, Stb.refl _⟩ ?_ ?_
  · refine weak_ofL 2 0 (by simp) (by simp) rfl ?_ ?_ <;> simp [ixC_refsR, ins_refs, refs]
  rintro ⟨D, r⟩ ⟨hD, hX⟩
  simp only at hD hX
  have hlen := hX.1
  rw [List.length_append, hN] at hlen
  obtain ⟨a, ha⟩ : ∃ a, D.length = a := ⟨_, rfl⟩
  obtain ⟨b, hb⟩ : ∃ b, a + 20 = b := ⟨_, rfl⟩
  rw [ha] at hlen
  rw [ha, hb]
  by_cases h : b ≤ N
  · have hsp := List.take_append_drop 20 r
    have lP : (r.take 20).length = 20 := by rw [List.length_take]; omega
    have hi := ins_GX g cm hcmp hs D (r.take 20) (r.drop 20) N a b (by rw [hsp, List.length_append]; omega) ha (by omega) hl
    rw [hsp] at hi
    have w1 : wrapI .i64 ((b : Int) + 20) = ((b + 20 : Nat) : Int) := by rw [wrap_in (by omega) (by omega)]; omega
    ((try simp -implicitDefEqProofs [-loopQ_n, h, w1]) <;> (repeat' (first | (refine condD_dec ?_ ?_ <;> (intro hc; (try simp -implicitDefEqProofs [-loopQ_n, hc, h, w1]))) | (refine guardD_dec ?_ ?_ <;> (intro hc; (try simp -implicitDefEqProofs [-loopQ_n, hc, h, w1]))) | (refine condD_intro ?_ ?_ <;> (intro hd; have hc := hd; (try simp at hc) <;> (try simp -implicitDefEqProofs [-loopQ_n, hd, hc, h, w1]))) | (refine guardD_intro ?_ ?_ <;> (intro hd; have hc := hd; (try simp at hc) <;> (try simp -implicitDefEqProofs [-loopQ_n, hd, hc, h, w1]))) | (refine ldD_ep ?_ ?_; (focus kernel_rfl); (try simp -implicitDefEqProofs [-loopQ_n, h, w1])))))
    refine callG_intro (hi.weaken ?_)
    rintro _ _ ⟨rfl, P, rfl, hP1, hP2, hP3⟩
    ((try simp -implicitDefEqProofs [-loopQ_n, h, w1]) <;> (repeat' (first | (refine condD_dec ?_ ?_ <;> (intro hc; (try simp -implicitDefEqProofs [-loopQ_n, hc, h, w1]))) | (refine guardD_dec ?_ ?_ <;> (intro hc; (try simp -implicitDefEqProofs [-loopQ_n, hc, h, w1]))) | (refine condD_intro ?_ ?_ <;> (intro hd; have hc := hd; (try simp at hc) <;> (try simp -implicitDefEqProofs [-loopQ_n, hd, hc, h, w1]))) | (refine guardD_intro ?_ ?_ <;> (intro hd; have hc := hd; (try simp at hc) <;> (try simp -implicitDefEqProofs [-loopQ_n, hd, hc, h, w1]))) | (refine ldD_ep ?_ ?_; (focus kernel_rfl); (try simp -implicitDefEqProofs [-loopQ_n, h, w1])))))
    refine loop_next (D ++ P, r.drop 20) ⟨.snoc hD (by rw [hP1, lP]) hP2, ?_⟩ (by simp only [List.length_drop]; omega) (weak_ofL 2 0 (by simp) (by simp) rfl ?_ ?_)
    · refine hX.trans ?_
      have := ((Stb.refl (lt := ltCX cm) D).app hP3).app (Stb.refl (lt := ltCX cm) (r.drop 20))
      rw [List.append_assoc, hsp] at this
      exact this
    · simp [refs, ha, hP1, lP, ← hb]
    · simp [ixC_refsR, ins_refs]
  have hi := ins_GX g cm hcmp hs D r [] N a N (by rw [List.length_append, List.append_nil]; omega) ha (by omega) hl
  rw [List.append_nil] at hi
  ((try simp -implicitDefEqProofs [-loopQ_n, h]) <;> (repeat' (first | (refine condD_dec ?_ ?_ <;> (intro hc; (try simp -implicitDefEqProofs [-loopQ_n, hc, h]))) | (refine guardD_dec ?_ ?_ <;> (intro hc; (try simp -implicitDefEqProofs [-loopQ_n, hc, h]))) | (refine condD_intro ?_ ?_ <;> (intro hd; have hc := hd; (try simp at hc) <;> (try simp -implicitDefEqProofs [-loopQ_n, hd, hc, h]))) | (refine guardD_intro ?_ ?_ <;> (intro hd; have hc := hd; (try simp at hc) <;> (try simp -implicitDefEqProofs [-loopQ_n, hd, hc, h]))) | (refine ldD_ep ?_ ?_; (focus kernel_rfl); (try simp -implicitDefEqProofs [-loopQ_n, h])))))
  refine callG_intro (hi.weaken ?_)
  rintro _ _ ⟨rfl, P, rfl, hP1, hP2, hP3⟩
  rw [List.append_nil]
  have hrun : Run (ltCX cm) 20 (D ++ P) := hD.app (.last (by omega) hP2)
  have hst : Stb (ltCX cm) X (D ++ P) := hX.trans ((Stb.refl D).app hP3)
  generalize D ++ P = v at *
  ((try simp -implicitDefEqProofs [-loopQ_n]) <;> (repeat' (first | (refine condD_dec ?_ ?_ <;> (intro hc; (try simp -implicitDefEqProofs [-loopQ_n, hc]))) | (refine guardD_dec ?_ ?_ <;> (intro hc; (try simp -implicitDefEqProofs [-loopQ_n, hc]))) | (refine condD_intro ?_ ?_ <;> (intro hd; have hc := hd; (try simp at hc) <;> (try simp -implicitDefEqProofs [-loopQ_n, hd, hc]))) | (refine guardD_intro ?_ ?_ <;> (intro hd; have hc := hd; (try simp at hc) <;> (try simp -implicitDefEqProofs [-loopQ_n, hd, hc]))) | (refine ldD_ep ?_ ?_; (focus kernel_rfl); (try simp -implicitDefEqProofs [-loopQ_n])))))
  refine loop_intro (σ := Nat × List (Ix li)) (fun y => ⟨[(0, .os 1 N), (1, .int .i64 N), (2, .fn g [.op 0 0]), (6, .int .i64 y.1)], [bxI li, rowX y.2]⟩)
    (fun y => 20 ≤ y.1 ∧ y.1 ≤ 4000 ∧ Run (ltCX cm) y.1 y.2 ∧ Stb (ltCX cm) X y.2) (fun y => N - y.1) (20, v) ⟨by simp, by simp, hrun, hst⟩ ?_ ?_
  · refine weak_ofL 2 0 (by simp) (by simp) rfl ?_ ?_ <;> simp [ixC_refsR, ins_refs, refs]
  clear hrun hst hX hD hlen hi hP2 hP3 hP1
  rintro ⟨bs, v⟩ ⟨q1, q2, hrun, hst⟩
  simp only at q1 q2 hrun hst
  have hlv := hst.1
  rw [hN] at hlv
  by_cases hbs : bs < N
  · obtain ⟨b2, hb2⟩ : ∃ b2, 2 * bs = b2 := ⟨_, rfl⟩
    have w2 : wrapI .i64 (2 * (bs : Int)) = (b2 : Int) := by rw [wrap_in (by omega) (by omega)]; omega
    have w2' : wrapI .i64 ((bs : Int) * 2) = (b2 : Int) := by rw [wrap_in (by omega) (by omega)]; omega
    ((try simp -implicitDefEqProofs [-loopQ_n, hbs, w2]) <;> (repeat' (first | (refine condD_dec ?_ ?_ <;> (intro hc; (try simp -implicitDefEqProofs [-loopQ_n, hc, hbs, w2]))) | (refine guardD_dec ?_ ?_ <;> (intro hc; (try simp -implicitDefEqProofs [-loopQ_n, hc, hbs, w2]))) | (refine condD_intro ?_ ?_ <;> (intro hd; have hc := hd; (try simp at hc) <;> (try simp -implicitDefEqProofs [-loopQ_n, hd, hc, hbs, w2]))) | (refine guardD_intro ?_ ?_ <;> (intro hd; have hc := hd; (try simp at hc) <;> (try simp -implicitDefEqProofs [-loopQ_n, hd, hc, hbs, w2]))) | (refine ldD_ep ?_ ?_; (focus kernel_rfl); (try simp -implicitDefEqProofs [-loopQ_n, hbs, w2])))))
    refine loop_intro (σ := List (Ix li) × List (Ix li)) (fun y => ⟨[(0, .os 1 N), (1, .int .i64 N), (2, .fn g [.op 0 0]), (6, .int .i64 bs), (7, .int .i64 (y.1.length : Nat)), (8, .int .i64 (y.1.length + b2 : Nat))], [bxI li, rowX (y.1 ++ y.2)]⟩)
      (fun y => RunE (ltCX cm) b2 y.1 ∧ Run (ltCX cm) bs y.2 ∧ Stb (ltCX cm) X (y.1 ++ y.2)) (fun y => y.2.length) ([], v) ⟨.nil, hrun, hst⟩ ?_ ?_
    · refine weak_ofL 2 0 (by simp) (by simp) rfl ?_ ?_ <;> simp [ixC_refsR, ins_refs, refs]
    clear hrun hst hlv
    rintro ⟨D, r⟩ ⟨hD, hr, hX⟩
    simp only at hD hr hX
    have hlen := hX.1
    rw [List.length_append, hN] at hlen
    obtain ⟨a, ha⟩ : ∃ a, D.length = a := ⟨_, rfl⟩
    obtain ⟨b, hb⟩ : ∃ b, a + b2 = b := ⟨_, rfl⟩
    obtain ⟨m, hm⟩ : ∃ m, a + bs = m := ⟨_, rfl⟩
    rw [ha] at hlen
    rw [ha, hb]
    have w3 := wi_addX (a := a) (b := bs) (by omega)
    rw [hm] at w3
    by_cases h : b ≤ N
    · obtain ⟨P, Q, q, rfl, lP, lQ, sP, sQ, hq⟩ := hr.two (by omega) (by omega)
      have hNl : (D ++ (P ++ (Q ++ q))).length = N := by rw [List.length_append]; omega
      have hi := (hsym D P Q q sP sQ (fun e => by rw [e] at lP; simp at lP; omega) (fun e => by rw [e] at lQ; simp at lQ; omega) (by omega)).at2 hNl ha (m := m) (b := b) (by omega) (by omega)
      obtain ⟨w, hw⟩ : ∃ w, D ++ (P ++ (Q ++ q)) = w := ⟨_, rfl⟩
      rw [hw] at hi ⊢
      have w4 := wi_addX (a := b) (b := b2) (by omega)
      ((try simp -implicitDefEqProofs [-loopQ_n, h, w2, w3, w4]) <;> (repeat' (first | (refine condD_dec ?_ ?_ <;> (intro hc; (try simp -implicitDefEqProofs [-loopQ_n, hc, h, w2, w3, w4]))) | (refine guardD_dec ?_ ?_ <;> (intro hc; (try simp -implicitDefEqProofs [-loopQ_n, hc, h, w2, w3, w4]))) | (refine condD_intro ?_ ?_ <;> (intro hd; have hc := hd; (try simp at hc) <;> (try simp -implicitDefEqProofs [-loopQ_n, hd, hc, h, w2, w3, w4]))) | (refine guardD_intro ?_ ?_ <;> (intro hd; have hc := hd; (try simp at hc) <;> (try simp -implicitDefEqProofs [-loopQ_n, hd, hc, h, w2, w3, w4]))) | (refine ldD_ep ?_ ?_; (focus kernel_rfl); (try simp -implicitDefEqProofs [-loopQ_n, h, w2, w3, w4])))))
      refine callG_intro (hi.weaken ?_)
      rintro _ _ ⟨rfl, R, rfl, hR1, hR2⟩
      have hRl : R.length = b2 := by rw [← hR2.1, List.length_append]; omega
      ((try simp -implicitDefEqProofs [-loopQ_n, h, w2, w3, w4]) <;> (repeat' (first | (refine condD_dec ?_ ?_ <;> (intro hc; (try simp -implicitDefEqProofs [-loopQ_n, hc, h, w2, w3, w4]))) | (refine guardD_dec ?_ ?_ <;> (intro hc; (try simp -implicitDefEqProofs [-loopQ_n, hc, h, w2, w3, w4]))) | (refine condD_intro ?_ ?_ <;> (intro hd; have hc := hd; (try simp at hc) <;> (try simp -implicitDefEqProofs [-loopQ_n, hd, hc, h, w2, w3, w4]))) | (refine guardD_intro ?_ ?_ <;> (intro hd; have hc := hd; (try simp at hc) <;> (try simp -implicitDefEqProofs [-loopQ_n, hd, hc, h, w2, w3, w4]))) | (refine ldD_ep ?_ ?_; (focus kernel_rfl); (try simp -implicitDefEqProofs [-loopQ_n, h, w2, w3, w4])))))
      refine loop_next (D ++ R, q) ⟨.snoc hD hRl hR1, hq, ?_⟩ (by simp only [List.length_append]; omega) (weak_ofL 2 0 (by simp) (by simp) rfl ?_ ?_)
      · refine hX.trans ?_
        have := ((Stb.refl (lt := ltCX cm) D).app hR2).app (Stb.refl (lt := ltCX cm) q)
        simpa using this
      · simp [refs, ha, hRl, ← hb]
      · simp [ixC_refsR, ins_refs]
    by_cases hmN : m < N
    · obtain ⟨P, Q, rfl, lP, sP, hq⟩ := hr.one (by omega)
      rw [List.length_append] at hlen
      have hNl : (D ++ (P ++ (Q ++ []))).length = N := by simp only [List.length_append, List.length_nil]; omega
      have hi := (hsym D P Q [] sP (hq.all (by omega)) (fun e => by rw [e] at lP; simp at lP; omega) (fun e => by rw [e] at hlen; simp at hlen; omega) (by omega)).at2 hNl ha (m := m) (b := N) (by omega) (by omega)
      rw [List.append_nil] at hi
      obtain ⟨w, hw⟩ : ∃ w, D ++ (P ++ Q) = w := ⟨_, rfl⟩
      rw [hw] at hi ⊢
      ((try simp -implicitDefEqProofs [-loopQ_n, h, w3, hmN]) <;> (repeat' (first | (refine condD_dec ?_ ?_ <;> (intro hc; (try simp -implicitDefEqProofs [-loopQ_n, hc, h, w3, hmN]))) | (refine guardD_dec ?_ ?_ <;> (intro hc; (try simp -implicitDefEqProofs [-loopQ_n, hc, h, w3, hmN]))) | (refine condD_intro ?_ ?_ <;> (intro hd; have hc := hd; (try simp at hc) <;> (try simp -implicitDefEqProofs [-loopQ_n, hd, hc, h, w3, hmN]))) | (refine guardD_intro ?_ ?_ <;> (intro hd; have hc := hd; (try simp at hc) <;> (try simp -implicitDefEqProofs [-loopQ_n, hd, hc, h, w3, hmN]))) | (refine ldD_ep ?_ ?_; (focus kernel_rfl); (try simp -implicitDefEqProofs [-loopQ_n, h, w3, hmN])))))
      refine callG_intro (hi.weaken ?_)
      rintro _ _ ⟨rfl, R, rfl, hR1, hR2⟩
      rw [List.append_nil]
      have hRl : R.length = P.length + Q.length := by rw [← hR2.1, List.length_append]
      ((try simp -implicitDefEqProofs [-loopQ_n, w2']) <;> (repeat' (first | (refine condD_dec ?_ ?_ <;> (intro hc; (try simp -implicitDefEqProofs [-loopQ_n, hc, w2']))) | (refine guardD_dec ?_ ?_ <;> (intro hc; (try simp -implicitDefEqProofs [-loopQ_n, hc, w2']))) | (refine condD_intro ?_ ?_ <;> (intro hd; have hc := hd; (try simp at hc) <;> (try simp -implicitDefEqProofs [-loopQ_n, hd, hc, w2']))) | (refine guardD_intro ?_ ?_ <;> (intro hd; have hc := hd; (try simp at hc) <;> (try simp -implicitDefEqProofs [-loopQ_n, hd, hc, w2']))) | (refine ldD_ep ?_ ?_; (focus kernel_rfl); (try simp -implicitDefEqProofs [-loopQ_n, w2'])))))
      refine loop_next (b2, D ++ R) ⟨by simp only; omega, by simp only; omega, hD.app (.last (by omega) hR1), ?_⟩ (by simp only; omega) (weak_ofL 2 0 (by simp) (by simp) rfl ?_ ?_)
      · refine hX.trans ?_
        exact (Stb.refl (lt := ltCX cm) D).app hR2
      · simp [refs]
      · simp [ixC_refsR, ins_refs]
    · have hS := hr.all (by omega)
      obtain ⟨w, hw⟩ : ∃ w, D ++ r = w := ⟨_, rfl⟩
      rw [hw]
      ((try simp -implicitDefEqProofs [-loopQ_n, h, w3, hmN, w2']) <;> (repeat' (first | (refine condD_dec ?_ ?_ <;> (intro hc; (try simp -implicitDefEqProofs [-loopQ_n, hc, h, w3, hmN, w2']))) | (refine guardD_dec ?_ ?_ <;> (intro hc; (try simp -implicitDefEqProofs [-loopQ_n, hc, h, w3, hmN, w2']))) | (refine condD_intro ?_ ?_ <;> (intro hd; have hc := hd; (try simp at hc) <;> (try simp -implicitDefEqProofs [-loopQ_n, hd, hc, h, w3, hmN, w2']))) | (refine guardD_intro ?_ ?_ <;> (intro hd; have hc := hd; (try simp at hc) <;> (try simp -implicitDefEqProofs [-loopQ_n, hd, hc, h, w3, hmN, w2']))) | (refine ldD_ep ?_ ?_; (focus kernel_rfl); (try simp -implicitDefEqProofs [-loopQ_n, h, w3, hmN, w2'])))))
      refine loop_next (b2, w) ⟨by simp only; omega, by simp only; omega, by rw [← hw]; exact hD.app (.last (by omega) hS), by rw [← hw]; exact hX⟩ (by simp only; omega) (weak_ofL 2 0 (by simp) (by simp) rfl ?_ ?_)
      · simp [refs]
      · simp [ixC_refsR, ins_refs]
  · ((try simp -implicitDefEqProofs [-loopQ_n, hbs]) <;> (repeat' (first | (refine condD_dec ?_ ?_ <;> (intro hc; (try simp -implicitDefEqProofs [-loopQ_n, hc, hbs]))) | (refine guardD_dec ?_ ?_ <;> (intro hc; (try simp -implicitDefEqProofs [-loopQ_n, hc, hbs]))) | (refine condD_intro ?_ ?_ <;> (intro hd; have hc := hd; (try simp at hc) <;> (try simp -implicitDefEqProofs [-loopQ_n, hd, hc, hbs]))) | (refine guardD_intro ?_ ?_ <;> (intro hd; have hc := hd; (try simp at hc) <;> (try simp -implicitDefEqProofs [-loopQ_n, hd, hc, hbs]))) | (refine ldD_ep ?_ ?_; (focus kernel_rfl); (try simp -implicitDefEqProofs [-loopQ_n, hbs])))))
    exact endG_n (.tup []) rfl ⟨rfl, v, rfl, hrun.all (by omega), hst⟩
set_option maxHeartbeats 8000000 in
theorem sstable_GX (g : Nat) (cm : (Ix li) → (Ix li) → Int) (hcmp : ∀ x y : (Ix li), Pure Try.prog g [.int .i64 (x.i : Int), .int .i64 (y.i : Int), .rp [.rs (rowsOf insC li)]] (.int .i64 (cm x y))) (hs : Swo (ltCX cm))
    (hsym : ∀ A P Q B : List (Ix li), Srtd (ltCX cm) P → Srtd (ltCX cm) Q → P ≠ [] → Q ≠ [] → (A ++ (P ++ (Q ++ B))).length ≤ 2000 → SymCX g cm A P Q B)
    (X : List (Ix li)) (N : Nat) (hN : X.length = N) (hl : N ≤ 2000) :
    CallG Try.prog 59 [.os 1 N, .fn g [.op 0 0]] [bxI li, rowX X]
      fun r H => r = .tup [] ∧ ∃ Y : List (Ix li), H = [bxI li, rowX Y] ∧ Srtd (ltCX cm) Y ∧ Stb (ltCX cm) X Y := by
  refine inl_G mixed Try.func59 rfl (by kernel_rfl) (of_decide_eq_true rfl) (by kernel_rfl) (vc_run ?_)
  ((try simp -implicitDefEqProofs [-loopQ_n, hN]) <;> (repeat' (first | (refine condD_dec ?_ ?_ <;> (intro hc; (try simp -implicitDefEqProofs [-loopQ_n, hc, hN]))) | (refine guardD_dec ?_ ?_ <;> (intro hc; (try simp -implicitDefEqProofs [-loopQ_n, hc, hN]))) | (refine condD_intro ?_ ?_ <;> (intro hd; have hc := hd; (try simp at hc) <;> (try simp -implicitDefEqProofs [-loopQ_n, hd, hc, hN]))) | (refine guardD_intro ?_ ?_ <;> (intro hd; have hc := hd; (try simp at hc) <;> (try simp -implicitDefEqProofs [-loopQ_n, hd, hc, hN]))) | (refine ldD_ep ?_ ?_; (focus kernel_rfl); (try simp -implicitDefEqProofs [-loopQ_n, hN])))))
  refine callG_intro ((stable_GX g cm hcmp hs hsym X N hN hl).weaken ?_)
  rintro _ _ ⟨rfl, Y, rfl, h1, h2⟩
  ((try simp -implicitDefEqProofs [-loopQ_n]) <;> (repeat' (first | (refine condD_dec ?_ ?_ <;> (intro hc; (try simp -implicitDefEqProofs [-loopQ_n, hc]))) | (refine guardD_dec ?_ ?_ <;> (intro hc; (try simp -implicitDefEqProofs [-loopQ_n, hc]))) | (refine condD_intro ?_ ?_ <;> (intro hd; have hc := hd; (try simp at hc) <;> (try simp -implicitDefEqProofs [-loopQ_n, hd, hc]))) | (refine guardD_intro ?_ ?_ <;> (intro hd; have hc := hd; (try simp at hc) <;> (try simp -implicitDefEqProofs [-loopQ_n, hd, hc]))) | (refine ldD_ep ?_ ?_; (focus kernel_rfl); (try simp -implicitDefEqProofs [-loopQ_n])))))
  exact endG_n (.tup []) rfl ⟨rfl, Y, rfl, h1, h2⟩
end Go.Proofs.Ytfbpjlabhckoeaa
