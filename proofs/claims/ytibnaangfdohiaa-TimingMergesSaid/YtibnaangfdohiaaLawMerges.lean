/- timing.Merge returns the histogram of the reference, or the specified errors, for every two histograms (the law TimingMerges holds for every input; no condition). -/
import Derived.Test.YtibnaangfdohiaaRows
import Derived.Test.YtibnaangfdohiaaFrame
import Derived.Test.YtibnaangfdohiaaTim8
import Derived.Test.YtibnaangfdohiaaTimF
namespace Go.Proofs.Ytibnaangfdohiaa.lawMerges
open Go.ChangeShapes Go.WideShapes Go.ChangeAt Go.RowKit

set_option maxRecDepth 100000 in
set_option maxHeartbeats 4000000 in
theorem walk (w : World) (A : Option Addr) (n k : Nat) (e : List Int) (B : Option Addr) (m l : Nat) (c : List Int) (hA : Ints w A n e) (hB : Ints w B m c) (C : Option Addr) (n' k' : Nat) (e' : List Int) (D : Option Addr) (m' l' : Nat) (c' : List Int) (hC : Ints w C n' e') (hD : Ints w D m' c') :
    Calls Try.prog 6 #[.agg #[.slice A n k, .slice B m l], .agg #[.slice C n' k', .slice D m' l']] w fun e w' => e = .returned (.bool true) ∧ Below w.heap.size w w' := by
  have hn := hA.len
  have hm := hB.len
  have hn' := hC.len
  have hm' := hD.len
  have hd := Lib.hid fun w1 (hb : Below w.heap.size w w1) => merge_any A B C D n k m l n' k' m' l' e c e' c' w1 (hA.below mono_int hb) (hB.below mono_int hb) (hC.below mono_int hb) (hD.below mono_int hb)
  have hrd := Lib.hid fun w1 (hb : Below w.heap.size w w1) => rmerge_any A B C D n k m l n' k' m' l' e c e' c' w1 (hA.below mono_int hb) (hB.below mono_int hb) (hC.below mono_int hb) (hD.below mono_int hb)
  by_cases hf : (decide (n ≤ 25) && decide (m ≤ 25)) = true
  · by_cases hf' : (decide (n' ≤ 25) && decide (m' ≤ 25)) = true
    · skip
      go_enter Try.func6, Try.ntmps6
      go_wp2_with fail
      refine (awake_any _).mono ?_
      rintro e w1 ⟨rfl, hb1⟩
      have hz1 := hb1.size
      try simp at hz1
      obtain ⟨hc1_w, hf1_w⟩ := bcellm (M := w.heap.size + 2) hb1 (by first | omega | (simp; done) | (simp; omega))
      have hl1_w0 : w.heap.size < w1.heap.size := by omega
      have hl1_w1 : w.heap.size + 1 < w1.heap.size := by omega
      go_wp2_with fail
      refine (few_any A B n k m l _ hn hm).mono ?_
      rintro e w2 ⟨rfl, hb2⟩
      have hz2 := hb2.size
      try simp at hz2
      obtain ⟨hc2_w, hf2_w⟩ := bcellm (M := w.heap.size + 2) hb2 (by first | omega | (simp; done) | (simp; omega))
      have hl2_w0 : w.heap.size < w2.heap.size := by omega
      have hl2_w1 : w.heap.size + 1 < w2.heap.size := by omega
      rw [hf]
      go_wp2_with fail
      refine (few_any C D n' k' m' l' _ hn' hm').mono ?_
      rintro e w3 ⟨rfl, hb3⟩
      have hz3 := hb3.size
      try simp at hz3
      obtain ⟨hc3_w, hf3_w⟩ := bcellm (M := w.heap.size + 2) hb3 (by first | omega | (simp; done) | (simp; omega))
      have hl3_w0 : w.heap.size < w3.heap.size := by omega
      have hl3_w1 : w.heap.size + 1 < w3.heap.size := by omega
      rw [hf']
      go_wp2_with fail
      refine (hd.out _ (by repeat (first | exact Below.refl _ _ | assumption | refine Below.drew ?_ | refine bdrewN ?_ _ | refine Below.alloc ?_ (by first | omega | (simp; done) | (simp; omega) | exact Below.size (by assumption)) _ | refine Below.setCell ?_ (by first | omega | (simp; done) | (simp; omega)) _ | refine bstep ?_ (by assumption)))).mono ?_
      rintro e4 w4 ⟨A1, n1, k1, B1, m1, l1, rfl, i1, j1, hb4⟩
      have hz4 := hb4.size
      obtain ⟨hc4, hf4⟩ := bcellm (M := w.heap.size + 2) hb4 (by first | omega | (simp; done) | (simp; omega))
      have hl4 : w.heap.size < w4.heap.size := by omega
      have hl4' : w.heap.size + 1 < w4.heap.size := by omega
      go_wp2_with fail
      refine (hrd.out _ (by repeat (first | exact Below.refl _ _ | assumption | refine Below.drew ?_ | refine bdrewN ?_ _ | refine Below.alloc ?_ (by first | omega | (simp; done) | (simp; omega) | exact Below.size (by assumption)) _ | refine Below.setCell ?_ (by first | omega | (simp; done) | (simp; omega)) _ | refine bstep ?_ (by assumption)))).mono ?_
      rintro e5 w5 ⟨A2, n2, k2, B2, m2, l2, rfl, i2, j2, hb5⟩
      have hz5 := hb5.size
      simp at hz5
      obtain ⟨hc5, hf5⟩ := bcellm (M := w4.heap.size + 1) hb5 (by first | omega | (simp; done) | (simp; omega))
      have b45 : Below w4.heap.size w4 w5 := bstep ((Below.refl _ _).alloc (Nat.le_refl _) _) hb5
      have i1' := i1.below mono_int b45
      have j1' := j1.below mono_int b45
      have hl5 : w4.heap.size < w5.heap.size := by omega
      have hsm := Lib.hid fun w1 (hb : Below w5.heap.size w5 w1) => same_any A1 B1 A2 B2 n1 k1 m1 l1 n2 k2 m2 l2 _ _ _ _ w1 (i1'.below mono_int hb) (j1'.below mono_int hb) (i2.below mono_int hb) (j2.below mono_int hb)
      go_wp2_with fail
      refine (hsm.out _ (by repeat (first | exact Below.refl _ _ | assumption | refine Below.drew ?_ | refine bdrewN ?_ _ | refine Below.alloc ?_ (by first | omega | (simp; done) | (simp; omega) | exact Below.size (by assumption)) _ | refine Below.setCell ?_ (by first | omega | (simp; done) | (simp; omega)) _ | refine bstep ?_ (by assumption)))).mono ?_
      rintro e w6 ⟨rfl, hb6⟩
      have hz6 := hb6.size
      try simp at hz6
      obtain ⟨hc6_w, hf6_w⟩ := bcellm (M := w.heap.size + 2) hb6 (by first | omega | (simp; done) | (simp; omega))
      have hl6_w0 : w.heap.size < w6.heap.size := by omega
      have hl6_w1 : w.heap.size + 1 < w6.heap.size := by omega
      go_wp2_with fail
      go_ret
      exact ⟨ret_bool (by simp), (by repeat (first | exact Below.refl _ _ | assumption | refine Below.drew ?_ | refine bdrewN ?_ _ | refine Below.alloc ?_ (by first | omega | (simp; done) | (simp; omega) | exact Below.size (by assumption)) _ | refine Below.setCell ?_ (by first | omega | (simp; done) | (simp; omega)) _ | refine bstep ?_ (by assumption)))⟩
    · have hf' : (decide (n' ≤ 25) && decide (m' ≤ 25)) = false := by simpa using hf'
      go_enter Try.func6, Try.ntmps6
      go_wp2_with fail
      refine (awake_any _).mono ?_
      rintro e w1 ⟨rfl, hb1⟩
      have hz1 := hb1.size
      try simp at hz1
      obtain ⟨hc1_w, hf1_w⟩ := bcellm (M := w.heap.size + 2) hb1 (by first | omega | (simp; done) | (simp; omega))
      have hl1_w0 : w.heap.size < w1.heap.size := by omega
      have hl1_w1 : w.heap.size + 1 < w1.heap.size := by omega
      go_wp2_with fail
      refine (few_any A B n k m l _ hn hm).mono ?_
      rintro e w2 ⟨rfl, hb2⟩
      have hz2 := hb2.size
      try simp at hz2
      obtain ⟨hc2_w, hf2_w⟩ := bcellm (M := w.heap.size + 2) hb2 (by first | omega | (simp; done) | (simp; omega))
      have hl2_w0 : w.heap.size < w2.heap.size := by omega
      have hl2_w1 : w.heap.size + 1 < w2.heap.size := by omega
      rw [hf]
      go_wp2_with fail
      refine (few_any C D n' k' m' l' _ hn' hm').mono ?_
      rintro e w3 ⟨rfl, hb3⟩
      have hz3 := hb3.size
      try simp at hz3
      obtain ⟨hc3_w, hf3_w⟩ := bcellm (M := w.heap.size + 2) hb3 (by first | omega | (simp; done) | (simp; omega))
      have hl3_w0 : w.heap.size < w3.heap.size := by omega
      have hl3_w1 : w.heap.size + 1 < w3.heap.size := by omega
      rw [hf']
      go_wp2_with fail
      refine (awake_any _).mono ?_
      rintro e w4 ⟨rfl, hb4⟩
      have hz4 := hb4.size
      try simp at hz4
      obtain ⟨hc4_w, hf4_w⟩ := bcellm (M := w.heap.size + 2) hb4 (by first | omega | (simp; done) | (simp; omega))
      have hl4_w0 : w.heap.size < w4.heap.size := by omega
      have hl4_w1 : w.heap.size + 1 < w4.heap.size := by omega
      go_wp2_with fail
      go_ret
      exact ⟨rfl, (by repeat (first | exact Below.refl _ _ | assumption | refine Below.drew ?_ | refine bdrewN ?_ _ | refine Below.alloc ?_ (by first | omega | (simp; done) | (simp; omega) | exact Below.size (by assumption)) _ | refine Below.setCell ?_ (by first | omega | (simp; done) | (simp; omega)) _ | refine bstep ?_ (by assumption)))⟩
  · have hf : (decide (n ≤ 25) && decide (m ≤ 25)) = false := by simpa using hf
    go_enter Try.func6, Try.ntmps6
    go_wp2_with fail
    refine (awake_any _).mono ?_
    rintro e w1 ⟨rfl, hb1⟩
    have hz1 := hb1.size
    try simp at hz1
    obtain ⟨hc1_w, hf1_w⟩ := bcellm (M := w.heap.size + 2) hb1 (by first | omega | (simp; done) | (simp; omega))
    have hl1_w0 : w.heap.size < w1.heap.size := by omega
    have hl1_w1 : w.heap.size + 1 < w1.heap.size := by omega
    go_wp2_with fail
    refine (few_any A B n k m l _ hn hm).mono ?_
    rintro e w2 ⟨rfl, hb2⟩
    have hz2 := hb2.size
    try simp at hz2
    obtain ⟨hc2_w, hf2_w⟩ := bcellm (M := w.heap.size + 2) hb2 (by first | omega | (simp; done) | (simp; omega))
    have hl2_w0 : w.heap.size < w2.heap.size := by omega
    have hl2_w1 : w.heap.size + 1 < w2.heap.size := by omega
    rw [hf]
    go_wp2_with fail
    refine (awake_any _).mono ?_
    rintro e w3 ⟨rfl, hb3⟩
    have hz3 := hb3.size
    try simp at hz3
    obtain ⟨hc3_w, hf3_w⟩ := bcellm (M := w.heap.size + 2) hb3 (by first | omega | (simp; done) | (simp; omega))
    have hl3_w0 : w.heap.size < w3.heap.size := by omega
    have hl3_w1 : w.heap.size + 1 < w3.heap.size := by omega
    go_wp2_with fail
    go_ret
    exact ⟨rfl, (by repeat (first | exact Below.refl _ _ | assumption | refine Below.drew ?_ | refine bdrewN ?_ _ | refine Below.alloc ?_ (by first | omega | (simp; done) | (simp; omega) | exact Below.size (by assumption)) _ | refine Below.setCell ?_ (by first | omega | (simp; done) | (simp; omega)) _ | refine bstep ?_ (by assumption)))⟩

set_option maxRecDepth 100000 in
theorem lifted (os : Os) (started : os.Started) (H : Type) (enc : TypeId × Value → H) :
    ReturnsInHanded {} Try.checked os 6 .any (Rows.timingMergesSpec.pre6 enc Try.prog Try.f6 Rows.timingMergesRow.domain false) (Rows.timingMergesSpec.post enc Try.prog Try.f6 false true false false) := by
  refine returnsInHanded_of_change (C := Try.checked) own started (by kernel_rfl) Try.func6
    (ChangeSpec.witness6 (enc := enc) (C := Try.checked) false ⟨#[], #[.agg #[.slice none 0 0, .slice none 0 0], .agg #[.slice none 0 0, .slice none 0 0]], []⟩ 8 (by kernel_rfl) (by kernel_rfl) (by kernel_rfl) (by kernel_rfl)) ?_
  intro W base args ds gs before hval0 hW hcnd _
  have hval : ∀ (j : Nat) t v, Try.f6.params[j]? = some t → args[j]? = some v → Value.okWide Try.prog W .any base t v := hval0
  have hW' := hW
  obtain ⟨p, q, hA0, hV, rfl, hfz, hnd⟩ := hW
  have hA : DataW.TrodAll enc Try.prog W 0 (fun _ => true) true Try.f6.params.toList args.toList ds p := hA0
  rw [Try.params6] at hA hval
  obtain ⟨v0, vs0, d0, ds0, p0, q0, hargs, rfl, rfl, h0, r0⟩ := trodAll_cons hA
  obtain ⟨v1, vs1, d1, ds1, p1, q1, rfl, rfl, rfl, h1, r1⟩ := trodAll_cons r0
  obtain ⟨rfl, rfl, rfl⟩ := trodAll_nil r1
  obtain rfl : args = #[v0, v1] := by cases args; simp_all
  obtain ⟨rfl, rfl⟩ := trodVars_none hV
  have k0 := h0
  have lt0 : ∀ x ∈ p0, x.block < W.heap.size := by obtain ⟨m, hm⟩ := k0; exact DataW.trod_lt m _ _ _ hm
  obtain ⟨XA0, Xn0, Xc0, Xl0, YA0, Yn0, Yc0, Yl0, rfl, Xi0, Yi0⟩ := open_hist Try.underlying24 (by kernel_rfl) (by kernel_rfl) (by kernel_rfl) (by kernel_rfl) Try.underlying3 (by kernel_rfl) (hval 0 24 v0 rfl rfl) h0
  have k1 := h1
  have lt1 : ∀ x ∈ p1, x.block < W.heap.size := by obtain ⟨m, hm⟩ := k1; exact DataW.trod_lt m _ _ _ hm
  obtain ⟨XA1, Xn1, Xc1, Xl1, YA1, Yn1, Yc1, Yl1, rfl, Xi1, Yi1⟩ := open_hist Try.underlying24 (by kernel_rfl) (by kernel_rfl) (by kernel_rfl) (by kernel_rfl) Try.underlying3 (by kernel_rfl) (hval 1 24 v1 rfl rfl) h1
  clear hA0 hval0
  refine (walk W XA0 Xn0 Xc0 Xl0 YA0 Yn0 Yc0 Yl0 Xi0 Yi0 XA1 Xn1 Xc1 Xl1 YA1 Yn1 Yc1 Yl1 Xi1 Yi1).mono fun e W' ⟨he, bel⟩ => ?_
  subst he
  exact ⟨_, rfl, _, _, _, [], _, [], hW', trodAll_mk1 (shut_bool Try.underlying4 _), (trodAll_cons_mk (Below.trod laidOut (by kernel_rfl) (of_decide_eq_true (by kernel_rfl)) k0 bel lt0) (trodAll_cons_mk (Below.trod laidOut (by kernel_rfl) (of_decide_eq_true (by kernel_rfl)) k1 bel lt1) trodAll_mk0)), rfl, bel.frame _, fun h => by cases h⟩

theorem over : Rows.timingMergesRow.holds Try.pinned (OpenSpec.ofChange Rows.timingMergesSpec) :=
  OpenClaim.holds_of_wide 6 Try.f6 rfl rfl rfl rfl rfl rfl rfl ⟨rfl, rfl, rfl, rfl, rfl⟩ rfl rfl rfl rfl rfl (by kernel_rfl) Try.func6 (by kernel_rfl)
    (of_decide_eq_true (by kernel_rfl)) (by unfold Func.isWrapper; first | (rw [if_pos (by decide +kernel)]; kernel_rfl) | (rw [if_neg (by decide +kernel)]; exact ⟨rfl, rfl⟩))
    (fun os started H enc _ => lifted os started H enc)

theorem proved : Rows.TimingMergesSaid := over
end Go.Proofs.Ytibnaangfdohiaa.lawMerges
