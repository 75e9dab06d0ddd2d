/- Stable sorting of events, fourth part: merging, the whole. -/
import Derived.Test.YtfbpjlabhckoeaaStiM
namespace Go.Proofs.Ytfbpjlabhckoeaa
set_option linter.unusedSimpArgs false
set_option linter.unusedVariables false
set_option linter.unnecessarySimpa false
set_option linter.unusedSectionVars false
open Go.RowKit
variable [Glob]
open Stab
variable {li : List Ins}
set_option maxRecDepth 100000
theorem SymCX.at {g : Nat} {cm : (Ix li) → (Ix li) → Int} {A P Q B : List (Ix li)} (h : SymCX g cm A P Q B) {N a m b : Nat} (hN : (A ++ (P ++ (Q ++ B))).length = N) (ha : A.length = a) (hm : a + P.length = m) (hb : m + Q.length = b) :
    CallG Try.prog 107 [.os 1 N, .int .i64 a, .int .i64 m, .int .i64 b, .fn g [.op 0 0]] [bxI li, rowX (A ++ (P ++ (Q ++ B)))]
      fun r H => r = .tup [] ∧ ∃ R : List (Ix li), H = [bxI li, rowX (A ++ (R ++ B))] ∧ Srtd (ltCX cm) R ∧ Stb (ltCX cm) (P ++ Q) R := by
  subst hN ha hm hb
  exact h
def SymLX (cm : (Ix li) → (Ix li) → Int) (P Q : List (Ix li)) (a h r0 r : Nat) : Prop := r = r0 ∨ ∃ u v, P[r - a]? = some u ∧ Q[h - 1 - (r - a)]? = some v ∧ ltCX cm v u = true
def SymGX (cm : (Ix li) → (Ix li) → Int) (P Q : List (Ix li)) (a h s0 s : Nat) : Prop := s = s0 ∨ ∃ u v, P[s - a - 1]? = some u ∧ Q[h - (s - a)]? = some v ∧ ltCX cm v u = false
set_option maxHeartbeats 16000000 in
theorem sym_partsX (g : Nat) (cm : (Ix li) → (Ix li) → Int) (hs : Swo (ltCX cm)) (A P Q B P1 P2 Q1 Q2 w w1 : List (Ix li)) (hP : Srtd (ltCX cm) P) (hQ : Srtd (ltCX cm) Q)
    (ih : ∀ A' P' Q' B' : List (Ix li), P'.length + Q'.length < P.length + Q.length → Srtd (ltCX cm) P' → Srtd (ltCX cm) Q' → P' ≠ [] → Q' ≠ [] → (A' ++ (P' ++ (Q' ++ B'))).length ≤ 2000 → SymCX g cm A' P' Q' B')
    (N a m b mid r en d f : Nat) (ha : A.length = a) (hd : P.length = d) (hf : Q.length = f) (hm : a + d = m) (hb : m + f = b) (hP1 : 2 ≤ d) (hQ1 : 2 ≤ f) (hmid1 : a < mid) (hmid2 : mid < b) (hT : a + d + f + B.length = N) (hN2 : N ≤ 2000)
    (hspP : P1 ++ P2 = P) (hspQ : Q1 ++ Q2 = Q) (lP1 : P1.length = r - a) (lQ1 : Q1.length = en - m) (k1 : a ≤ r) (k2 : r ≤ m) (k3 : r ≤ mid) (k4 : en ≤ b) (k5 : en + r = mid + m)
    (hcut1 : ∀ x ∈ P2, ∀ y ∈ Q1, ltCX cm y x = true) (hcut2 : ∀ x ∈ P1, ∀ y ∈ Q2, ltCX cm y x = false)
    (hw : A ++ (P ++ (Q ++ B)) = w) (hwN : w.length = N) (hw1 : A ++ (P1 ++ (Q1 ++ (P2 ++ (Q2 ++ B)))) = w1) :
    (∀ (w' L R : List (Ix li)), A ++ (L ++ (R ++ B)) = w' → Srtd (ltCX cm) L → Srtd (ltCX cm) R → Stb (ltCX cm) (P1 ++ Q1) L → Stb (ltCX cm) (P2 ++ Q2) R →
          ∃ R', [bxI li, rowX w'] = [bxI li, rowX (A ++ (R' ++ B))] ∧ Srtd (ltCX cm) R' ∧ Stb (ltCX cm) (P ++ Q) R') ∧
    (r < m → r < mid → CallG Try.prog 124 [.os 1 N, .int .i64 r, .int .i64 m, .int .i64 en, .fn g [.op 0 0]] [bxI li, rowX w] fun r H => r = .tup [] ∧ H = [bxI li, rowX w1]) ∧
    (a < r → r < mid → CallG Try.prog 107 [.os 1 N, .int .i64 a, .int .i64 r, .int .i64 mid, .fn g [.op 0 0]] [bxI li, rowX w1]
          fun r H => r = .tup [] ∧ ∃ R : List (Ix li), H = [bxI li, rowX (A ++ (R ++ (P2 ++ (Q2 ++ B))))] ∧ Srtd (ltCX cm) R ∧ Stb (ltCX cm) (P1 ++ Q1) R) ∧
    (∀ L w2 : List (Ix li), A ++ (L ++ (P2 ++ (Q2 ++ B))) = w2 → L.length = P1.length + Q1.length → r < m → en < b → CallG Try.prog 107 [.os 1 N, .int .i64 mid, .int .i64 en, .int .i64 b, .fn g [.op 0 0]] [bxI li, rowX w2]
          fun r H => r = .tup [] ∧ ∃ R : List (Ix li), H = [bxI li, rowX (A ++ (L ++ (R ++ B)))] ∧ Srtd (ltCX cm) R ∧ Stb (ltCX cm) (P2 ++ Q2) R) ∧
    (¬ a < r → P1 = []) ∧ (¬ r < m → P2 = []) ∧ (¬ r < mid → Q1 = []) ∧ (¬ en < b → Q2 = []) ∧ (mid < en) = (r < m) ∧ (m < en) = (r < mid) ∧
    Srtd (ltCX cm) P1 ∧ Srtd (ltCX cm) P2 ∧ Srtd (ltCX cm) Q1 ∧ Srtd (ltCX cm) Q2 ∧ A ++ (P1 ++ (P2 ++ (Q1 ++ (Q2 ++ B)))) = w := by
  have eA : (mid < en) = (r < m) := propext (by omega)
  have eB : (m < en) = (r < mid) := propext (by omega)
  have sP := hP
  have sQ := hQ
  rw [← hspP, srtd_app] at sP
  rw [← hspQ, srtd_app] at sQ
  have hT1 : P1.length + P2.length = d := by rw [← hd, ← hspP, List.length_append]
  have hT2 : Q1.length + Q2.length = f := by rw [← hf, ← hspQ, List.length_append]
  have lP2 : P2.length = m - r := by omega
  have lQ2 : Q2.length = b - en := by omega
  have fin : ∀ (w' L R : List (Ix li)), A ++ (L ++ (R ++ B)) = w' → Srtd (ltCX cm) L → Srtd (ltCX cm) R → Stb (ltCX cm) (P1 ++ Q1) L → Stb (ltCX cm) (P2 ++ Q2) R →
      ∃ R', [bxI li, rowX w'] = [bxI li, rowX (A ++ (R' ++ B))] ∧ Srtd (ltCX cm) R' ∧ Stb (ltCX cm) (P ++ Q) R' := fun w' L R e h1 h2 h3 h4 => by
    obtain ⟨m1, m2⟩ := merge_mid hs (by rw [hspP]; exact hP) (by rw [hspQ]; exact hQ) hcut1 hcut2 h1 h2 h3 h4
    rw [hspP, hspQ] at m2
    exact ⟨L ++ R, by rw [← e]; simp, m1, m2⟩
  have hww : A ++ (P1 ++ (P2 ++ (Q1 ++ (Q2 ++ B)))) = w := by rw [← hw, ← hspP, ← hspQ]; simp
  have ne : ∀ l : List (Ix li), 0 < l.length → l ≠ [] := fun l hl e => by rw [e] at hl; simp at hl
  have nil : ∀ l : List (Ix li), l.length = 0 → l = [] := fun l hl => List.eq_nil_of_length_eq_zero hl
  have hrot : r < m → r < mid → CallG Try.prog 124 [.os 1 N, .int .i64 r, .int .i64 m, .int .i64 en, .fn g [.op 0 0]] [bxI li, rowX w] fun r H => r = .tup [] ∧ H = [bxI li, rowX w1] := fun hA hB => by
    have := rot_GX g (A ++ P1) P2 Q1 (Q2 ++ B) N r m en (by rw [← hwN, ← hww]; simp) (by rw [List.length_append, ha]; omega) (by omega) (by omega) (ne _ (by omega)) (ne _ (by omega)) hN2
    rw [List.append_assoc, List.append_assoc, hww, hw1] at this
    exact this
  have hsym1 : a < r → r < mid → CallG Try.prog 107 [.os 1 N, .int .i64 a, .int .i64 r, .int .i64 mid, .fn g [.op 0 0]] [bxI li, rowX w1]
      fun r H => r = .tup [] ∧ ∃ R : List (Ix li), H = [bxI li, rowX (A ++ (R ++ (P2 ++ (Q2 ++ B))))] ∧ Srtd (ltCX cm) R ∧ Stb (ltCX cm) (P1 ++ Q1) R := fun hC hB => by
    have hlw : (A ++ (P1 ++ (Q1 ++ (P2 ++ (Q2 ++ B))))).length = N := by simp only [List.length_append] at hT ⊢; omega
    have := (ih A P1 Q1 (P2 ++ (Q2 ++ B)) (by omega) sP.1 sQ.1 (ne _ (by omega)) (ne _ (by omega)) (by omega)).at hlw ha (m := r) (b := mid) (by omega) (by omega)
    rw [hw1] at this
    exact this
  have hsym2 : ∀ L w2 : List (Ix li), A ++ (L ++ (P2 ++ (Q2 ++ B))) = w2 → L.length = P1.length + Q1.length → r < m → en < b → CallG Try.prog 107 [.os 1 N, .int .i64 mid, .int .i64 en, .int .i64 b, .fn g [.op 0 0]] [bxI li, rowX w2]
      fun r H => r = .tup [] ∧ ∃ R : List (Ix li), H = [bxI li, rowX (A ++ (L ++ (R ++ B)))] ∧ Srtd (ltCX cm) R ∧ Stb (ltCX cm) (P2 ++ Q2) R := fun L w2 e hL hA hD => by
    have hlw : ((A ++ L) ++ (P2 ++ (Q2 ++ B))).length = N := by simp only [List.length_append] at hT ⊢; omega
    have := (ih (A ++ L) P2 Q2 B (by omega) sP.2.1 sQ.2.1 (ne _ (by omega)) (ne _ (by omega)) (by omega)).at hlw (a := mid) (by rw [List.length_append, ha]; omega) (m := en) (b := b) (by omega) (by omega)
    simp only [List.append_assoc] at this
    rw [e] at this
    exact this
  exact ⟨fin, hrot, hsym1, hsym2, fun q => nil _ (by omega), fun q => nil _ (by omega), fun q => nil _ (by omega), fun q => nil _ (by omega), eA, eB, sP.1, sP.2.1, sQ.1, sQ.2.1, hww⟩
set_option maxHeartbeats 16000000 in
theorem sym_genX (g : Nat) (cm : (Ix li) → (Ix li) → Int) (hcmp : ∀ x y : (Ix li), Pure Try.prog g [.int .i64 (x.i : Int), .int .i64 (y.i : Int), .rp [.rs (rowsOf insC li)]] (.int .i64 (cm x y))) (hs : Swo (ltCX cm))
    (A P Q B : List (Ix li)) (hP : Srtd (ltCX cm) P) (hQ : Srtd (ltCX cm) Q) (hP1 : 2 ≤ P.length) (hQ1 : 2 ≤ Q.length) (hl : (A ++ (P ++ (Q ++ B))).length ≤ 2000)
    (ih : ∀ A' P' Q' B' : List (Ix li), P'.length + Q'.length < P.length + Q.length → Srtd (ltCX cm) P' → Srtd (ltCX cm) Q' → P' ≠ [] → Q' ≠ [] → (A' ++ (P' ++ (Q' ++ B'))).length ≤ 2000 → SymCX g cm A' P' Q' B')
    (a m b mid s0 r0 : Nat) (ha : A.length = a) (hm : a + P.length = m) (hb : m + Q.length = b) (hmid : (a + b) / 2 = mid) (hc : (mid < m ∧ s0 = mid + m - b ∧ r0 = mid) ∨ (¬ mid < m ∧ s0 = a ∧ r0 = m)) :
    SymCX g cm A P Q B := by
  unfold SymCX
  obtain ⟨N, hN⟩ : ∃ N, (A ++ (P ++ (Q ++ B))).length = N := ⟨_, rfl⟩
  obtain ⟨d, hd⟩ : ∃ d, P.length = d := ⟨_, rfl⟩
  obtain ⟨f, hf⟩ : ∃ f, Q.length = f := ⟨_, rfl⟩
  rw [hN] at hl ⊢
  rw [hd] at hm hP1
  rw [hf] at hb hQ1
  rw [ha, hd, hm, hf, hb]
  have hT : a + d + f + B.length = N := by rw [← hN, ← ha, ← hd, ← hf]; simp; omega
  have w0 := wi_subX (a := m) (b := a) (by omega) (by omega)
  rw [show m - a = d by omega] at w0
  have w00 := wi_subX (a := b) (b := m) (by omega) (by omega)
  rw [show b - m = f by omega] at w00
  have hd1 : ¬ (d : Int) = 1 := by omega
  have hd2 : ¬ d = 1 := by omega
  have hf1 : ¬ (f : Int) = 1 := by omega
  have hf2 : ¬ f = 1 := by omega
  obtain ⟨ab, hab⟩ : ∃ ab, a + b = ab := ⟨_, rfl⟩
  obtain ⟨nn, hnn⟩ : ∃ nn, mid + m = nn := ⟨_, rfl⟩
  obtain ⟨p, hp⟩ : ∃ p, nn - 1 = p := ⟨_, rfl⟩
  have w1 := wi_addX (a := a) (b := b) (by omega)
  rw [hab] at w1
  have w2 : wrapI .u64 (ab : Int) = ab := wu_inX (by omega) (by omega)
  have hh := half_natX ab
  rw [← hab, hmid, hab] at hh
  have w3 : wrapI .i64 (mid : Int) = mid := wrap_in (by omega) (by omega)
  have w4 := wi_addX (a := mid) (b := m) (by omega)
  rw [hnn] at w4
  have w6 : wrapI .i64 ((nn : Int) - 1) = p := by have := wi_subX (a := nn) (b := 1) (by omega) (by omega); rw [hp] at this; exact this
  obtain ⟨w, hw⟩ : ∃ w, A ++ (P ++ (Q ++ B)) = w := ⟨_, rfl⟩
  have hwN : w.length = N := by rw [← hw]; exact hN
  have hwP : ∀ t, t < P.length → w[a + t]? = P[t]? := fun t ht => by
    rw [← hw, List.getElem?_append_right (by omega), List.getElem?_append_left (by omega)]
    congr 1; omega
  have hwQ : ∀ t, t < Q.length → w[m + t]? = Q[t]? := fun t ht => by
    rw [← hw, List.getElem?_append_right (by omega), List.getElem?_append_right (by omega), List.getElem?_append_left (by omega)]
    congr 1; omega
  obtain ⟨h, hhd⟩ : ∃ h, mid - a = h := ⟨_, rfl⟩
  rw [hw]
  refine inl_G mixed Try.func107 rfl (by kernel_rfl) (of_decide_eq_true rfl) (by kernel_rfl) (vc_run ?_)
  have hs0 : a ≤ s0 := by omega
  have hsr : s0 ≤ r0 := by omega
  have hr1 : r0 ≤ m := by omega
  have hr2 : r0 ≤ mid := by omega
  have hsb : nn ≤ s0 + b := by omega
  have hend1 : Unit → (r0 = m ∨ r0 = mid) := fun _ => by omega
  have hend2 : Unit → (s0 = a ∨ s0 + b = nn) := fun _ => by omega
  have hmh : a + h = mid := by omega
  have hp1 : p + 1 = nn := by omega
  have hbN : b ≤ N := by omega
  have w7 : mid < m → wrapI .i64 ((nn : Int) - b) = s0 := fun hc => by rw [wi_subX (by omega) (by omega)]; omega
  have hc : (mid < m ∧ r0 = mid) ∨ (¬ mid < m ∧ s0 = a ∧ r0 = m) := by omega
  clear hmid hhd hp
  have hN2 : N ≤ 2000 := by omega
  rcases hc with ⟨hc, e2⟩ | ⟨hc, e1, e2⟩
  all_goals (
    ((try simp -implicitDefEqProofs [-loopQ_n, w0, w00, hd1, hd2, hf1, hf2, w1, w2, hh, w3, w4, w6, w7, hc]) <;> (repeat' (first | (refine condD_dec ?_ ?_ <;> (intro hc; (try simp -implicitDefEqProofs [-loopQ_n, hc, w0, w00, hd1, hd2, hf1, hf2, w1, w2, hh, w3, w4, w6, w7, hc]))) | (refine guardD_dec ?_ ?_ <;> (intro hc; (try simp -implicitDefEqProofs [-loopQ_n, hc, w0, w00, hd1, hd2, hf1, hf2, w1, w2, hh, w3, w4, w6, w7, hc]))) | (refine condD_intro ?_ ?_ <;> (intro hd; have hc := hd; (try simp at hc) <;> (try simp -implicitDefEqProofs [-loopQ_n, hd, hc, w0, w00, hd1, hd2, hf1, hf2, w1, w2, hh, w3, w4, w6, w7, hc]))) | (refine guardD_intro ?_ ?_ <;> (intro hd; have hc := hd; (try simp at hc) <;> (try simp -implicitDefEqProofs [-loopQ_n, hd, hc, w0, w00, hd1, hd2, hf1, hf2, w1, w2, hh, w3, w4, w6, w7, hc]))) | (refine ldD_ep ?_ ?_; (focus kernel_rfl); (try simp -implicitDefEqProofs [-loopQ_n, w0, w00, hd1, hd2, hf1, hf2, w1, w2, hh, w3, w4, w6, w7, hc])))))
    refine loop_intro (σ := Nat × Nat) (fun y => ⟨[(0, .os 1 N), (1, .int .i64 a), (2, .int .i64 m), (3, .int .i64 b), (4, .fn g [.op 0 0]), (18, .int .i64 mid), (19, .int .i64 nn), (20, .int .i64 y.1), (21, .int .i64 y.2), (22, .int .i64 p)], [bxI li, rowX w]⟩)
      (fun y => s0 ≤ y.1 ∧ y.1 ≤ y.2 ∧ y.2 ≤ r0 ∧ SymLX cm P Q a h r0 y.2 ∧ SymGX cm P Q a h s0 y.1)
      (fun y => y.2 - y.1) (s0, r0) ⟨by simp, hsr, by simp, .inl rfl, .inl rfl⟩ ?_ ?_
    · refine weak_ofL 2 0 (by simp) (by simp) rfl ?_ ?_ <;> simp [ixC_refsR, ins_refs, refs, *]
    rintro ⟨s, r⟩ ⟨q1, q2, q3, c1, c2⟩
    simp only at q1 q2 q3 c1 c2
    by_cases hlt : s < r
    · obtain ⟨sm, hsm⟩ : ∃ sm, s + r = sm := ⟨_, rfl⟩
      obtain ⟨c, hcd⟩ : ∃ c, sm / 2 = c := ⟨_, rfl⟩
      obtain ⟨pc, hpc⟩ : ∃ pc, p - c = pc := ⟨_, rfl⟩
      have v1 := wi_addX (a := s) (b := r) (by omega)
      rw [hsm] at v1
      have v2 : wrapI .u64 (sm : Int) = sm := wu_inX (by omega) (by omega)
      have v3 : wrapI .i64 (c : Int) = c := wrap_in (by omega) (by omega)
      have v4 := wi_oneX (a := c) (by omega)
      have hh2 := half_natX sm
      rw [hcd] at hh2
      have v5 := wi_subX (a := p) (b := c) (by omega) (by omega)
      rw [hpc] at v5
      have hcN : c < N := by omega
      have hpN : pc < N := by omega
      have hcw : c < w.length := by omega
      have hpw : pc < w.length := by omega
      obtain ⟨u, hu⟩ : ∃ u, w[c] = u := ⟨_, rfl⟩
      obtain ⟨v, hv⟩ : ∃ v, w[pc] = v := ⟨_, rfl⟩
      have huP : P[c - a]? = some u := by rw [← hwP (c - a) (by omega), show a + (c - a) = c by omega, List.getElem?_eq_getElem hcw, hu]
      have hvQ : Q[h - 1 - (c - a)]? = some v := by rw [← hwQ (h - 1 - (c - a)) (by omega), show m + (h - 1 - (c - a)) = pc by omega, List.getElem?_eq_getElem hpw, hv]
      by_cases hcm : cm v u < 0
      · ((try simp -implicitDefEqProofs [-loopQ_n, hlt, v1, v2, v3, v4, v5, hh2, hwN, hcN, hpN, hcw, hpw, hu, hv, ixC, hcm]) <;> (repeat' (first | (refine condD_dec ?_ ?_ <;> (intro hc; (try simp -implicitDefEqProofs [-loopQ_n, hc, hlt, v1, v2, v3, v4, v5, hh2, hwN, hcN, hpN, hcw, hpw, hu, hv, ixC, hcm]))) | (refine guardD_dec ?_ ?_ <;> (intro hc; (try simp -implicitDefEqProofs [-loopQ_n, hc, hlt, v1, v2, v3, v4, v5, hh2, hwN, hcN, hpN, hcw, hpw, hu, hv, ixC, hcm]))) | (refine condD_intro ?_ ?_ <;> (intro hd; have hc := hd; (try simp at hc) <;> (try simp -implicitDefEqProofs [-loopQ_n, hd, hc, hlt, v1, v2, v3, v4, v5, hh2, hwN, hcN, hpN, hcw, hpw, hu, hv, ixC, hcm]))) | (refine guardD_intro ?_ ?_ <;> (intro hd; have hc := hd; (try simp at hc) <;> (try simp -implicitDefEqProofs [-loopQ_n, hd, hc, hlt, v1, v2, v3, v4, v5, hh2, hwN, hcN, hpN, hcw, hpw, hu, hv, ixC, hcm]))) | (refine ldD_ep ?_ ?_; (focus kernel_rfl); (try simp -implicitDefEqProofs [-loopQ_n, hlt, v1, v2, v3, v4, v5, hh2, hwN, hcN, hpN, hcw, hpw, hu, hv, ixC, hcm])) | (refine callS_mk ?_; (try simp -implicitDefEqProofs [-loopQ_n, hlt, v1, v2, v3, v4, v5, hh2, hwN, hcN, hpN, hcw, hpw, hu, hv, ixC, hcm]); (first | refine callS_intro (hcmp v u) (.inl rfl) ?_); (try simp -implicitDefEqProofs [-loopQ_n, hlt, v1, v2, v3, v4, v5, hh2, hwN, hcN, hpN, hcw, hpw, hu, hv, ixC, hcm])))))
        refine loop_next (s, c) ⟨q1, by simp only; omega, by simp only; omega, .inr ⟨u, v, huP, hvQ, by simpa [ltCX] using hcm⟩, c2⟩ (by simp only; omega) (weak_ofL 2 0 (by simp) (by simp) rfl ?_ ?_)
        · simp [refs]
        · simp [ixC_refsR, ins_refs]
      · ((try simp -implicitDefEqProofs [-loopQ_n, hlt, v1, v2, v3, v4, v5, hh2, hwN, hcN, hpN, hcw, hpw, hu, hv, ixC, hcm]) <;> (repeat' (first | (refine condD_dec ?_ ?_ <;> (intro hc; (try simp -implicitDefEqProofs [-loopQ_n, hc, hlt, v1, v2, v3, v4, v5, hh2, hwN, hcN, hpN, hcw, hpw, hu, hv, ixC, hcm]))) | (refine guardD_dec ?_ ?_ <;> (intro hc; (try simp -implicitDefEqProofs [-loopQ_n, hc, hlt, v1, v2, v3, v4, v5, hh2, hwN, hcN, hpN, hcw, hpw, hu, hv, ixC, hcm]))) | (refine condD_intro ?_ ?_ <;> (intro hd; have hc := hd; (try simp at hc) <;> (try simp -implicitDefEqProofs [-loopQ_n, hd, hc, hlt, v1, v2, v3, v4, v5, hh2, hwN, hcN, hpN, hcw, hpw, hu, hv, ixC, hcm]))) | (refine guardD_intro ?_ ?_ <;> (intro hd; have hc := hd; (try simp at hc) <;> (try simp -implicitDefEqProofs [-loopQ_n, hd, hc, hlt, v1, v2, v3, v4, v5, hh2, hwN, hcN, hpN, hcw, hpw, hu, hv, ixC, hcm]))) | (refine ldD_ep ?_ ?_; (focus kernel_rfl); (try simp -implicitDefEqProofs [-loopQ_n, hlt, v1, v2, v3, v4, v5, hh2, hwN, hcN, hpN, hcw, hpw, hu, hv, ixC, hcm])) | (refine callS_mk ?_; (try simp -implicitDefEqProofs [-loopQ_n, hlt, v1, v2, v3, v4, v5, hh2, hwN, hcN, hpN, hcw, hpw, hu, hv, ixC, hcm]); (first | refine callS_intro (hcmp v u) (.inl rfl) ?_); (try simp -implicitDefEqProofs [-loopQ_n, hlt, v1, v2, v3, v4, v5, hh2, hwN, hcN, hpN, hcw, hpw, hu, hv, ixC, hcm])))))
        refine loop_next (c + 1, r) ⟨by simp only; omega, by simp only; omega, q3, c1, .inr ⟨u, v, ?_, ?_, by simpa [ltCX] using hcm⟩⟩ (by simp only; omega) (weak_ofL 2 0 (by simp) (by simp) rfl ?_ ?_)
        · rw [show (c + 1, r).1 - a - 1 = c - a by simp only; omega]; exact huP
        · rw [show h - ((c + 1, r).1 - a) = h - 1 - (c - a) by simp only; omega]; exact hvQ
        · simp [refs]
        · simp [ixC_refsR, ins_refs]
    · have hrs : r = s := by omega
      subst hrs
      obtain ⟨en, hen⟩ : ∃ en, nn - r = en := ⟨_, rfl⟩
      have v1 := wi_subX (a := nn) (b := r) (by omega) (by omega)
      rw [hen] at v1
      obtain ⟨hcut1, hcut2⟩ := sym_cut hs hP hQ (h := h) (i := r - a) (by omega)
        (by rcases c1 with q | q
            · rcases hend1 () with q' | q'
              · exact .inl (by omega)
              · exact .inr (.inl (by omega))
            · exact .inr (.inr q))
        (by rcases c2 with q | q
            · rcases hend2 () with q' | q'
              · exact .inl (by omega)
              · exact .inr (.inl (by omega))
            · exact .inr (.inr q))
      have hspP := List.take_append_drop (r - a) P
      have hspQ := List.take_append_drop (h - (r - a)) Q
      have lP1 : (P.take (r - a)).length = r - a := by rw [List.length_take]; omega
      have lQ1 : (Q.take (h - (r - a))).length = en - m := by rw [List.length_take]; omega
      obtain ⟨w1, hw1⟩ : ∃ w1, A ++ (P.take (r - a) ++ (Q.take (h - (r - a)) ++ (P.drop (r - a) ++ (Q.drop (h - (r - a)) ++ B)))) = w1 := ⟨_, rfl⟩
      obtain ⟨fin, hrot, hsym1, hsym2, n1, n2, n3, n4, eA, eB, sP1, sP2, sQ1, sQ2, hww⟩ := sym_partsX g cm hs A P Q B (P.take (r - a)) (P.drop (r - a)) (Q.take (h - (r - a))) (Q.drop (h - (r - a))) w w1 hP hQ ih N a m b mid r en d f ha hd hf hm hb hP1 hQ1 (by omega) (by omega) hT hN2 hspP hspQ lP1 lQ1 (by omega) (by omega) (by omega) (by omega) (by omega) hcut1 hcut2 hw hwN hw1
      generalize P.take (r - a) = P1 at *
      generalize P.drop (r - a) = P2 at *
      generalize Q.take (h - (r - a)) = Q1 at *
      generalize Q.drop (h - (r - a)) = Q2 at *
      clear ih hcut1 hcut2 c1 c2 hend1 hend2 hwP hwQ
      by_cases hA : r < m
      · have hA' : mid < en := by rw [eA]; exact hA
        by_cases hB : r < mid
        · have hB' : m < en := by rw [eB]; exact hB
          ((try simp -implicitDefEqProofs [-loopQ_n, v1, hA, hA', hB, hB']) <;> (repeat' (first | (refine condD_dec ?_ ?_ <;> (intro hc; (try simp -implicitDefEqProofs [-loopQ_n, hc, v1, hA, hA', hB, hB']))) | (refine guardD_dec ?_ ?_ <;> (intro hc; (try simp -implicitDefEqProofs [-loopQ_n, hc, v1, hA, hA', hB, hB']))) | (refine condD_intro ?_ ?_ <;> (intro hd; have hc := hd; (try simp at hc) <;> (try simp -implicitDefEqProofs [-loopQ_n, hd, hc, v1, hA, hA', hB, hB']))) | (refine guardD_intro ?_ ?_ <;> (intro hd; have hc := hd; (try simp at hc) <;> (try simp -implicitDefEqProofs [-loopQ_n, hd, hc, v1, hA, hA', hB, hB']))) | (refine ldD_ep ?_ ?_; (focus kernel_rfl); (try simp -implicitDefEqProofs [-loopQ_n, v1, hA, hA', hB, hB'])))))
          refine callG_intro ((hrot hA hB).weaken ?_)
          rintro _ _ ⟨rfl, rfl⟩
          by_cases hC : a < r
          · ((try simp -implicitDefEqProofs [-loopQ_n, v1, hA, hA', hB, hB', hC]) <;> (repeat' (first | (refine condD_dec ?_ ?_ <;> (intro hc; (try simp -implicitDefEqProofs [-loopQ_n, hc, v1, hA, hA', hB, hB', hC]))) | (refine guardD_dec ?_ ?_ <;> (intro hc; (try simp -implicitDefEqProofs [-loopQ_n, hc, v1, hA, hA', hB, hB', hC]))) | (refine condD_intro ?_ ?_ <;> (intro hd; have hc := hd; (try simp at hc) <;> (try simp -implicitDefEqProofs [-loopQ_n, hd, hc, v1, hA, hA', hB, hB', hC]))) | (refine guardD_intro ?_ ?_ <;> (intro hd; have hc := hd; (try simp at hc) <;> (try simp -implicitDefEqProofs [-loopQ_n, hd, hc, v1, hA, hA', hB, hB', hC]))) | (refine ldD_ep ?_ ?_; (focus kernel_rfl); (try simp -implicitDefEqProofs [-loopQ_n, v1, hA, hA', hB, hB', hC])))))
            refine callG_intro ((hsym1 hC hB).weaken ?_)
            rintro _ _ ⟨rfl, L, rfl, hL1, hL2⟩
            obtain ⟨w2, hw2⟩ : ∃ w2, A ++ (L ++ (P2 ++ (Q2 ++ B))) = w2 := ⟨_, rfl⟩
            rw [hw2]
            by_cases hD : en < b
            · ((try simp -implicitDefEqProofs [-loopQ_n, v1, hA, hA', hB, hB', hC, hD]) <;> (repeat' (first | (refine condD_dec ?_ ?_ <;> (intro hc; (try simp -implicitDefEqProofs [-loopQ_n, hc, v1, hA, hA', hB, hB', hC, hD]))) | (refine guardD_dec ?_ ?_ <;> (intro hc; (try simp -implicitDefEqProofs [-loopQ_n, hc, v1, hA, hA', hB, hB', hC, hD]))) | (refine condD_intro ?_ ?_ <;> (intro hd; have hc := hd; (try simp at hc) <;> (try simp -implicitDefEqProofs [-loopQ_n, hd, hc, v1, hA, hA', hB, hB', hC, hD]))) | (refine guardD_intro ?_ ?_ <;> (intro hd; have hc := hd; (try simp at hc) <;> (try simp -implicitDefEqProofs [-loopQ_n, hd, hc, v1, hA, hA', hB, hB', hC, hD]))) | (refine ldD_ep ?_ ?_; (focus kernel_rfl); (try simp -implicitDefEqProofs [-loopQ_n, v1, hA, hA', hB, hB', hC, hD])))))
              refine callG_intro ((hsym2 L w2 hw2 (by rw [← hL2.1, List.length_append]) hA hD).weaken ?_)
              rintro _ _ ⟨rfl, R, rfl, hR1, hR2⟩
              ((try simp -implicitDefEqProofs [-loopQ_n]) <;> (repeat' (first | (refine condD_dec ?_ ?_ <;> (intro hc; (try simp -implicitDefEqProofs [-loopQ_n, hc]))) | (refine guardD_dec ?_ ?_ <;> (intro hc; (try simp -implicitDefEqProofs [-loopQ_n, hc]))) | (refine condD_intro ?_ ?_ <;> (intro hd; have hc := hd; (try simp at hc) <;> (try simp -implicitDefEqProofs [-loopQ_n, hd, hc]))) | (refine guardD_intro ?_ ?_ <;> (intro hd; have hc := hd; (try simp at hc) <;> (try simp -implicitDefEqProofs [-loopQ_n, hd, hc]))) | (refine ldD_ep ?_ ?_; (focus kernel_rfl); (try simp -implicitDefEqProofs [-loopQ_n])))))
              exact endG_n (.tup []) rfl ⟨rfl, fin _ L R rfl hL1 hR1 hL2 hR2⟩
            · have := n4 hD
              subst this
              ((try simp -implicitDefEqProofs [-loopQ_n, v1, hA, hA', hB, hB', hC, hD]) <;> (repeat' (first | (refine condD_dec ?_ ?_ <;> (intro hc; (try simp -implicitDefEqProofs [-loopQ_n, hc, v1, hA, hA', hB, hB', hC, hD]))) | (refine guardD_dec ?_ ?_ <;> (intro hc; (try simp -implicitDefEqProofs [-loopQ_n, hc, v1, hA, hA', hB, hB', hC, hD]))) | (refine condD_intro ?_ ?_ <;> (intro hd; have hc := hd; (try simp at hc) <;> (try simp -implicitDefEqProofs [-loopQ_n, hd, hc, v1, hA, hA', hB, hB', hC, hD]))) | (refine guardD_intro ?_ ?_ <;> (intro hd; have hc := hd; (try simp at hc) <;> (try simp -implicitDefEqProofs [-loopQ_n, hd, hc, v1, hA, hA', hB, hB', hC, hD]))) | (refine ldD_ep ?_ ?_; (focus kernel_rfl); (try simp -implicitDefEqProofs [-loopQ_n, v1, hA, hA', hB, hB', hC, hD])))))
              exact endG_n (.tup []) rfl ⟨rfl, fin _ L P2 (by rw [← hw2]; simp) hL1 sP2 hL2 (by rw [List.append_nil]; exact Stb.refl _)⟩
          · have := n1 hC
            subst this
            by_cases hD : en < b
            · ((try simp -implicitDefEqProofs [-loopQ_n, v1, hA, hA', hB, hB', hC, hD]) <;> (repeat' (first | (refine condD_dec ?_ ?_ <;> (intro hc; (try simp -implicitDefEqProofs [-loopQ_n, hc, v1, hA, hA', hB, hB', hC, hD]))) | (refine guardD_dec ?_ ?_ <;> (intro hc; (try simp -implicitDefEqProofs [-loopQ_n, hc, v1, hA, hA', hB, hB', hC, hD]))) | (refine condD_intro ?_ ?_ <;> (intro hd; have hc := hd; (try simp at hc) <;> (try simp -implicitDefEqProofs [-loopQ_n, hd, hc, v1, hA, hA', hB, hB', hC, hD]))) | (refine guardD_intro ?_ ?_ <;> (intro hd; have hc := hd; (try simp at hc) <;> (try simp -implicitDefEqProofs [-loopQ_n, hd, hc, v1, hA, hA', hB, hB', hC, hD]))) | (refine ldD_ep ?_ ?_; (focus kernel_rfl); (try simp -implicitDefEqProofs [-loopQ_n, v1, hA, hA', hB, hB', hC, hD])))))
              refine callG_intro ((hsym2 Q1 w1 (by rw [← hw1]; simp) (by simp) hA hD).weaken ?_)
              rintro _ _ ⟨rfl, R, rfl, hR1, hR2⟩
              ((try simp -implicitDefEqProofs [-loopQ_n]) <;> (repeat' (first | (refine condD_dec ?_ ?_ <;> (intro hc; (try simp -implicitDefEqProofs [-loopQ_n, hc]))) | (refine guardD_dec ?_ ?_ <;> (intro hc; (try simp -implicitDefEqProofs [-loopQ_n, hc]))) | (refine condD_intro ?_ ?_ <;> (intro hd; have hc := hd; (try simp at hc) <;> (try simp -implicitDefEqProofs [-loopQ_n, hd, hc]))) | (refine guardD_intro ?_ ?_ <;> (intro hd; have hc := hd; (try simp at hc) <;> (try simp -implicitDefEqProofs [-loopQ_n, hd, hc]))) | (refine ldD_ep ?_ ?_; (focus kernel_rfl); (try simp -implicitDefEqProofs [-loopQ_n])))))
              exact endG_n (.tup []) rfl ⟨rfl, fin _ Q1 R rfl sQ1 hR1 (Stb.refl _) hR2⟩
            · have := n4 hD
              subst this
              ((try simp -implicitDefEqProofs [-loopQ_n, v1, hA, hA', hB, hB', hC, hD]) <;> (repeat' (first | (refine condD_dec ?_ ?_ <;> (intro hc; (try simp -implicitDefEqProofs [-loopQ_n, hc, v1, hA, hA', hB, hB', hC, hD]))) | (refine guardD_dec ?_ ?_ <;> (intro hc; (try simp -implicitDefEqProofs [-loopQ_n, hc, v1, hA, hA', hB, hB', hC, hD]))) | (refine condD_intro ?_ ?_ <;> (intro hd; have hc := hd; (try simp at hc) <;> (try simp -implicitDefEqProofs [-loopQ_n, hd, hc, v1, hA, hA', hB, hB', hC, hD]))) | (refine guardD_intro ?_ ?_ <;> (intro hd; have hc := hd; (try simp at hc) <;> (try simp -implicitDefEqProofs [-loopQ_n, hd, hc, v1, hA, hA', hB, hB', hC, hD]))) | (refine ldD_ep ?_ ?_; (focus kernel_rfl); (try simp -implicitDefEqProofs [-loopQ_n, v1, hA, hA', hB, hB', hC, hD])))))
              exact endG_n (.tup []) rfl ⟨rfl, fin _ Q1 P2 (by rw [← hw1]; simp) sQ1 sP2 (Stb.refl _) (by rw [List.append_nil]; exact Stb.refl _)⟩
        · have hB' : ¬ m < en := by rw [eB]; exact hB
          have := n3 hB
          subst this
          by_cases hC : a < r
          · by_cases hD : en < b
            · ((try simp -implicitDefEqProofs [-loopQ_n, v1, hA, hA', hB, hB', hC, hD]) <;> (repeat' (first | (refine condD_dec ?_ ?_ <;> (intro hc; (try simp -implicitDefEqProofs [-loopQ_n, hc, v1, hA, hA', hB, hB', hC, hD]))) | (refine guardD_dec ?_ ?_ <;> (intro hc; (try simp -implicitDefEqProofs [-loopQ_n, hc, v1, hA, hA', hB, hB', hC, hD]))) | (refine condD_intro ?_ ?_ <;> (intro hd; have hc := hd; (try simp at hc) <;> (try simp -implicitDefEqProofs [-loopQ_n, hd, hc, v1, hA, hA', hB, hB', hC, hD]))) | (refine guardD_intro ?_ ?_ <;> (intro hd; have hc := hd; (try simp at hc) <;> (try simp -implicitDefEqProofs [-loopQ_n, hd, hc, v1, hA, hA', hB, hB', hC, hD]))) | (refine ldD_ep ?_ ?_; (focus kernel_rfl); (try simp -implicitDefEqProofs [-loopQ_n, v1, hA, hA', hB, hB', hC, hD])))))
              refine callG_intro ((hsym2 P1 w (by rw [← hww]; simp) (by simp) hA hD).weaken ?_)
              rintro _ _ ⟨rfl, R, rfl, hR1, hR2⟩
              ((try simp -implicitDefEqProofs [-loopQ_n]) <;> (repeat' (first | (refine condD_dec ?_ ?_ <;> (intro hc; (try simp -implicitDefEqProofs [-loopQ_n, hc]))) | (refine guardD_dec ?_ ?_ <;> (intro hc; (try simp -implicitDefEqProofs [-loopQ_n, hc]))) | (refine condD_intro ?_ ?_ <;> (intro hd; have hc := hd; (try simp at hc) <;> (try simp -implicitDefEqProofs [-loopQ_n, hd, hc]))) | (refine guardD_intro ?_ ?_ <;> (intro hd; have hc := hd; (try simp at hc) <;> (try simp -implicitDefEqProofs [-loopQ_n, hd, hc]))) | (refine ldD_ep ?_ ?_; (focus kernel_rfl); (try simp -implicitDefEqProofs [-loopQ_n])))))
              exact endG_n (.tup []) rfl ⟨rfl, fin _ P1 R rfl sP1 hR1 (by rw [List.append_nil]; exact Stb.refl _) hR2⟩
            · have := n4 hD
              subst this
              ((try simp -implicitDefEqProofs [-loopQ_n, v1, hA, hA', hB, hB', hC, hD]) <;> (repeat' (first | (refine condD_dec ?_ ?_ <;> (intro hc; (try simp -implicitDefEqProofs [-loopQ_n, hc, v1, hA, hA', hB, hB', hC, hD]))) | (refine guardD_dec ?_ ?_ <;> (intro hc; (try simp -implicitDefEqProofs [-loopQ_n, hc, v1, hA, hA', hB, hB', hC, hD]))) | (refine condD_intro ?_ ?_ <;> (intro hd; have hc := hd; (try simp at hc) <;> (try simp -implicitDefEqProofs [-loopQ_n, hd, hc, v1, hA, hA', hB, hB', hC, hD]))) | (refine guardD_intro ?_ ?_ <;> (intro hd; have hc := hd; (try simp at hc) <;> (try simp -implicitDefEqProofs [-loopQ_n, hd, hc, v1, hA, hA', hB, hB', hC, hD]))) | (refine ldD_ep ?_ ?_; (focus kernel_rfl); (try simp -implicitDefEqProofs [-loopQ_n, v1, hA, hA', hB, hB', hC, hD])))))
              exact endG_n (.tup []) rfl ⟨rfl, fin _ P1 P2 (by rw [← hww]; simp) sP1 sP2 (by rw [List.append_nil]; exact Stb.refl _) (by rw [List.append_nil]; exact Stb.refl _)⟩
          · by_cases hD : en < b
            · ((try simp -implicitDefEqProofs [-loopQ_n, v1, hA, hA', hB, hB', hC, hD]) <;> (repeat' (first | (refine condD_dec ?_ ?_ <;> (intro hc; (try simp -implicitDefEqProofs [-loopQ_n, hc, v1, hA, hA', hB, hB', hC, hD]))) | (refine guardD_dec ?_ ?_ <;> (intro hc; (try simp -implicitDefEqProofs [-loopQ_n, hc, v1, hA, hA', hB, hB', hC, hD]))) | (refine condD_intro ?_ ?_ <;> (intro hd; have hc := hd; (try simp at hc) <;> (try simp -implicitDefEqProofs [-loopQ_n, hd, hc, v1, hA, hA', hB, hB', hC, hD]))) | (refine guardD_intro ?_ ?_ <;> (intro hd; have hc := hd; (try simp at hc) <;> (try simp -implicitDefEqProofs [-loopQ_n, hd, hc, v1, hA, hA', hB, hB', hC, hD]))) | (refine ldD_ep ?_ ?_; (focus kernel_rfl); (try simp -implicitDefEqProofs [-loopQ_n, v1, hA, hA', hB, hB', hC, hD])))))
              refine callG_intro ((hsym2 P1 w (by rw [← hww]; simp) (by simp) hA hD).weaken ?_)
              rintro _ _ ⟨rfl, R, rfl, hR1, hR2⟩
              ((try simp -implicitDefEqProofs [-loopQ_n]) <;> (repeat' (first | (refine condD_dec ?_ ?_ <;> (intro hc; (try simp -implicitDefEqProofs [-loopQ_n, hc]))) | (refine guardD_dec ?_ ?_ <;> (intro hc; (try simp -implicitDefEqProofs [-loopQ_n, hc]))) | (refine condD_intro ?_ ?_ <;> (intro hd; have hc := hd; (try simp at hc) <;> (try simp -implicitDefEqProofs [-loopQ_n, hd, hc]))) | (refine guardD_intro ?_ ?_ <;> (intro hd; have hc := hd; (try simp at hc) <;> (try simp -implicitDefEqProofs [-loopQ_n, hd, hc]))) | (refine ldD_ep ?_ ?_; (focus kernel_rfl); (try simp -implicitDefEqProofs [-loopQ_n])))))
              exact endG_n (.tup []) rfl ⟨rfl, fin _ P1 R rfl sP1 hR1 (by rw [List.append_nil]; exact Stb.refl _) hR2⟩
            · have := n4 hD
              subst this
              ((try simp -implicitDefEqProofs [-loopQ_n, v1, hA, hA', hB, hB', hC, hD]) <;> (repeat' (first | (refine condD_dec ?_ ?_ <;> (intro hc; (try simp -implicitDefEqProofs [-loopQ_n, hc, v1, hA, hA', hB, hB', hC, hD]))) | (refine guardD_dec ?_ ?_ <;> (intro hc; (try simp -implicitDefEqProofs [-loopQ_n, hc, v1, hA, hA', hB, hB', hC, hD]))) | (refine condD_intro ?_ ?_ <;> (intro hd; have hc := hd; (try simp at hc) <;> (try simp -implicitDefEqProofs [-loopQ_n, hd, hc, v1, hA, hA', hB, hB', hC, hD]))) | (refine guardD_intro ?_ ?_ <;> (intro hd; have hc := hd; (try simp at hc) <;> (try simp -implicitDefEqProofs [-loopQ_n, hd, hc, v1, hA, hA', hB, hB', hC, hD]))) | (refine ldD_ep ?_ ?_; (focus kernel_rfl); (try simp -implicitDefEqProofs [-loopQ_n, v1, hA, hA', hB, hB', hC, hD])))))
              exact endG_n (.tup []) rfl ⟨rfl, fin _ P1 P2 (by rw [← hww]; simp) sP1 sP2 (by rw [List.append_nil]; exact Stb.refl _) (by rw [List.append_nil]; exact Stb.refl _)⟩
      · have hA' : ¬ mid < en := by rw [eA]; exact hA
        have := n2 hA
        subst this
        have hww1 : w = w1 := by rw [← hww, ← hw1]; simp
        rw [hww1]
        by_cases hBC : a < r ∧ r < mid
        · obtain ⟨hC, hB⟩ := hBC
          ((try simp -implicitDefEqProofs [-loopQ_n, v1, hA, hA', hB, hC]) <;> (repeat' (first | (refine condD_dec ?_ ?_ <;> (intro hc; (try simp -implicitDefEqProofs [-loopQ_n, hc, v1, hA, hA', hB, hC]))) | (refine guardD_dec ?_ ?_ <;> (intro hc; (try simp -implicitDefEqProofs [-loopQ_n, hc, v1, hA, hA', hB, hC]))) | (refine condD_intro ?_ ?_ <;> (intro hd; have hc := hd; (try simp at hc) <;> (try simp -implicitDefEqProofs [-loopQ_n, hd, hc, v1, hA, hA', hB, hC]))) | (refine guardD_intro ?_ ?_ <;> (intro hd; have hc := hd; (try simp at hc) <;> (try simp -implicitDefEqProofs [-loopQ_n, hd, hc, v1, hA, hA', hB, hC]))) | (refine ldD_ep ?_ ?_; (focus kernel_rfl); (try simp -implicitDefEqProofs [-loopQ_n, v1, hA, hA', hB, hC])))))
          refine callG_intro ((hsym1 hC hB).weaken ?_)
          rintro _ _ ⟨rfl, L, rfl, hL1, hL2⟩
          ((try simp -implicitDefEqProofs [-loopQ_n, hA']) <;> (repeat' (first | (refine condD_dec ?_ ?_ <;> (intro hc; (try simp -implicitDefEqProofs [-loopQ_n, hc, hA']))) | (refine guardD_dec ?_ ?_ <;> (intro hc; (try simp -implicitDefEqProofs [-loopQ_n, hc, hA']))) | (refine condD_intro ?_ ?_ <;> (intro hd; have hc := hd; (try simp at hc) <;> (try simp -implicitDefEqProofs [-loopQ_n, hd, hc, hA']))) | (refine guardD_intro ?_ ?_ <;> (intro hd; have hc := hd; (try simp at hc) <;> (try simp -implicitDefEqProofs [-loopQ_n, hd, hc, hA']))) | (refine ldD_ep ?_ ?_; (focus kernel_rfl); (try simp -implicitDefEqProofs [-loopQ_n, hA'])))))
          exact endG_n (.tup []) rfl ⟨rfl, fin _ L Q2 (by simp) hL1 sQ2 hL2 (Stb.refl _)⟩
        · have hs1 : Srtd (ltCX cm) (P1 ++ Q1) := by
            by_cases hC : a < r
            · rw [n3 (fun q => hBC ⟨hC, q⟩), List.append_nil]; exact sP1
            · rw [n1 hC]; exact sQ1
          by_cases hC : a < r
          · have hB : ¬ r < mid := fun q => hBC ⟨hC, q⟩
            ((try simp -implicitDefEqProofs [-loopQ_n, v1, hA, hA', hB, hC]) <;> (repeat' (first | (refine condD_dec ?_ ?_ <;> (intro hc; (try simp -implicitDefEqProofs [-loopQ_n, hc, v1, hA, hA', hB, hC]))) | (refine guardD_dec ?_ ?_ <;> (intro hc; (try simp -implicitDefEqProofs [-loopQ_n, hc, v1, hA, hA', hB, hC]))) | (refine condD_intro ?_ ?_ <;> (intro hd; have hc := hd; (try simp at hc) <;> (try simp -implicitDefEqProofs [-loopQ_n, hd, hc, v1, hA, hA', hB, hC]))) | (refine guardD_intro ?_ ?_ <;> (intro hd; have hc := hd; (try simp at hc) <;> (try simp -implicitDefEqProofs [-loopQ_n, hd, hc, v1, hA, hA', hB, hC]))) | (refine ldD_ep ?_ ?_; (focus kernel_rfl); (try simp -implicitDefEqProofs [-loopQ_n, v1, hA, hA', hB, hC])))))
            exact endG_n (.tup []) rfl ⟨rfl, fin _ (P1 ++ Q1) Q2 (by rw [← hw1]; simp) hs1 sQ2 (Stb.refl _) (Stb.refl _)⟩
          · ((try simp -implicitDefEqProofs [-loopQ_n, v1, hA, hA', hC]) <;> (repeat' (first | (refine condD_dec ?_ ?_ <;> (intro hc; (try simp -implicitDefEqProofs [-loopQ_n, hc, v1, hA, hA', hC]))) | (refine guardD_dec ?_ ?_ <;> (intro hc; (try simp -implicitDefEqProofs [-loopQ_n, hc, v1, hA, hA', hC]))) | (refine condD_intro ?_ ?_ <;> (intro hd; have hc := hd; (try simp at hc) <;> (try simp -implicitDefEqProofs [-loopQ_n, hd, hc, v1, hA, hA', hC]))) | (refine guardD_intro ?_ ?_ <;> (intro hd; have hc := hd; (try simp at hc) <;> (try simp -implicitDefEqProofs [-loopQ_n, hd, hc, v1, hA, hA', hC]))) | (refine ldD_ep ?_ ?_; (focus kernel_rfl); (try simp -implicitDefEqProofs [-loopQ_n, v1, hA, hA', hC])))))
            exact endG_n (.tup []) rfl ⟨rfl, fin _ (P1 ++ Q1) Q2 (by rw [← hw1]; simp) hs1 sQ2 (Stb.refl _) (Stb.refl _)⟩)
end Go.Proofs.Ytfbpjlabhckoeaa
