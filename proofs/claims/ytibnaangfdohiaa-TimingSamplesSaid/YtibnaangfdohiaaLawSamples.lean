/- timing.Sample returns the number that the reference gives, or the specified errors, for every histogram and number (the law TimingSamples holds for every input; no condition). -/
import Derived.Test.YtibnaangfdohiaaRows
import Derived.Test.YtibnaangfdohiaaFrame
import Derived.Test.YtibnaangfdohiaaTim8
namespace Go.Proofs.Ytibnaangfdohiaa.lawSamples
open Go.ChangeShapes Go.WideShapes Go.ChangeAt Go.RowKit

set_option maxRecDepth 100000 in
set_option maxHeartbeats 4000000 in
theorem walk (w : World) (A : Option Addr) (n k : Nat) (e : List Int) (B : Option Addr) (m l : Nat) (c : List Int) (hA : Ints w A n e) (hB : Ints w B m c) (N : Int) (_ : (Lit.int .i64 N).wf = true) :
    Calls Try.prog 4 #[.agg #[.slice A n k, .slice B m l], .int .i64 N] w fun e w' => e = .returned (.bool true) ∧ Below w.heap.size w w' := by
  have hn := hA.len
  have hm := hB.len
  have hs := fun w1 (hb : Below w.heap.size w w1) => sample_any A B n k m l e c N w1 (hA.below mono_int hb) (hB.below mono_int hb)
  have hv := Lib.hid fun w1 (hb : Below w.heap.size w w1) => rvalid_any A B n k m l e c w1 (hA.below mono_int hb) (hB.below mono_int hb)
  by_cases hf : (decide (n ≤ 25) && decide (m ≤ 25)) = true
  · by_cases v1 : validH e c = true
    · have V := validH_iff.1 v1
      have ht := Lib.hid fun (w1 : World) (hb : Below w.heap.size w w1) => rtotal_any A B n k m l c w1 (hB.below mono_int hb) V.small
      by_cases h0 : N < 0
      · rw [sampR_range v1 (.inl h0)] at hs
        have HS := Lib.hid hs
        clear hs V
        go_enter Try.func4, Try.ntmps4
        go_wp2_with fail
        refine (awake_any _).mono ?_
        rintro e w1 ⟨rfl, hb1⟩
        have hz1 := hb1.size
        try simp at hz1
        obtain ⟨hc1_w, hf1_w⟩ := bcellm (M := w.heap.size + 1) hb1 (by first | omega | (simp; done) | (simp; omega))
        have hl1_w0 : w.heap.size < w1.heap.size := by omega
        go_wp2_with fail
        refine (few_any A B n k m l _ hn hm).mono ?_
        rintro e w2 ⟨rfl, hb2⟩
        have hz2 := hb2.size
        try simp at hz2
        obtain ⟨hc2_w, hf2_w⟩ := bcellm (M := w.heap.size + 1) hb2 (by first | omega | (simp; done) | (simp; omega))
        have hl2_w0 : w.heap.size < w2.heap.size := by omega
        rw [hf]
        go_wp2_with fail
        refine (HS.out _ (by repeat (first | exact Below.refl _ _ | assumption | refine Below.drew ?_ | refine bdrewN ?_ _ | refine Below.alloc ?_ (by first | omega | (simp; done) | (simp; omega)) _ | refine Below.setCell ?_ (by first | omega | (simp; done) | (simp; omega)) _ | refine bstep ?_ (by assumption)))).mono ?_
        rintro e w3 ⟨rfl, hb3⟩
        have hz3 := hb3.size
        try simp at hz3
        obtain ⟨hc3_w, hf3_w⟩ := bcellm (M := w.heap.size + 1) hb3 (by first | omega | (simp; done) | (simp; omega))
        have hl3_w0 : w.heap.size < w3.heap.size := by omega
        go_wp2_with fail
        refine (hv.out _ (by repeat (first | exact Below.refl _ _ | assumption | refine Below.drew ?_ | refine bdrewN ?_ _ | refine Below.alloc ?_ (by first | omega | (simp; done) | (simp; omega)) _ | refine Below.setCell ?_ (by first | omega | (simp; done) | (simp; omega)) _ | refine bstep ?_ (by assumption)))).mono ?_
        rintro e w4 ⟨rfl, hb4⟩
        have hz4 := hb4.size
        try simp at hz4
        obtain ⟨hc4_w, hf4_w⟩ := bcellm (M := w.heap.size + 1) hb4 (by first | omega | (simp; done) | (simp; omega))
        have hl4_w0 : w.heap.size < w4.heap.size := by omega
        rw [v1]
        go_wp2_with fail
        go_ret
        exact ⟨rfl, (by repeat (first | exact Below.refl _ _ | assumption | refine Below.drew ?_ | refine bdrewN ?_ _ | refine Below.alloc ?_ (by first | omega | (simp; done) | (simp; omega)) _ | refine Below.setCell ?_ (by first | omega | (simp; done) | (simp; omega)) _ | refine bstep ?_ (by assumption)))⟩
      by_cases h1 : tot c ≤ N
      · rw [sampR_range v1 (.inr h1)] at hs
        have HS := Lib.hid hs
        clear hs V
        go_enter Try.func4, Try.ntmps4
        go_wp2_with fail
        refine (awake_any _).mono ?_
        rintro e w1 ⟨rfl, hb1⟩
        have hz1 := hb1.size
        try simp at hz1
        obtain ⟨hc1_w, hf1_w⟩ := bcellm (M := w.heap.size + 1) hb1 (by first | omega | (simp; done) | (simp; omega))
        have hl1_w0 : w.heap.size < w1.heap.size := by omega
        go_wp2_with fail
        refine (few_any A B n k m l _ hn hm).mono ?_
        rintro e w2 ⟨rfl, hb2⟩
        have hz2 := hb2.size
        try simp at hz2
        obtain ⟨hc2_w, hf2_w⟩ := bcellm (M := w.heap.size + 1) hb2 (by first | omega | (simp; done) | (simp; omega))
        have hl2_w0 : w.heap.size < w2.heap.size := by omega
        rw [hf]
        go_wp2_with fail
        refine (HS.out _ (by repeat (first | exact Below.refl _ _ | assumption | refine Below.drew ?_ | refine bdrewN ?_ _ | refine Below.alloc ?_ (by first | omega | (simp; done) | (simp; omega)) _ | refine Below.setCell ?_ (by first | omega | (simp; done) | (simp; omega)) _ | refine bstep ?_ (by assumption)))).mono ?_
        rintro e w3 ⟨rfl, hb3⟩
        have hz3 := hb3.size
        try simp at hz3
        obtain ⟨hc3_w, hf3_w⟩ := bcellm (M := w.heap.size + 1) hb3 (by first | omega | (simp; done) | (simp; omega))
        have hl3_w0 : w.heap.size < w3.heap.size := by omega
        go_wp2_with fail
        refine (hv.out _ (by repeat (first | exact Below.refl _ _ | assumption | refine Below.drew ?_ | refine bdrewN ?_ _ | refine Below.alloc ?_ (by first | omega | (simp; done) | (simp; omega)) _ | refine Below.setCell ?_ (by first | omega | (simp; done) | (simp; omega)) _ | refine bstep ?_ (by assumption)))).mono ?_
        rintro e w4 ⟨rfl, hb4⟩
        have hz4 := hb4.size
        try simp at hz4
        obtain ⟨hc4_w, hf4_w⟩ := bcellm (M := w.heap.size + 1) hb4 (by first | omega | (simp; done) | (simp; omega))
        have hl4_w0 : w.heap.size < w4.heap.size := by omega
        rw [v1]
        go_wp2_with fail
        refine (ht.out _ (by repeat (first | exact Below.refl _ _ | assumption | refine Below.drew ?_ | refine bdrewN ?_ _ | refine Below.alloc ?_ (by first | omega | (simp; done) | (simp; omega)) _ | refine Below.setCell ?_ (by first | omega | (simp; done) | (simp; omega)) _ | refine bstep ?_ (by assumption)))).mono ?_
        rintro e w5 ⟨rfl, hb5⟩
        have hz5 := hb5.size
        try simp at hz5
        obtain ⟨hc5_w, hf5_w⟩ := bcellm (M := w.heap.size + 1) hb5 (by first | omega | (simp; done) | (simp; omega))
        have hl5_w0 : w.heap.size < w5.heap.size := by omega
        go_wp2_with fail
        go_ret
        exact ⟨rfl, (by repeat (first | exact Below.refl _ _ | assumption | refine Below.drew ?_ | refine bdrewN ?_ _ | refine Below.alloc ?_ (by first | omega | (simp; done) | (simp; omega)) _ | refine Below.setCell ?_ (by first | omega | (simp; done) | (simp; omega)) _ | refine bstep ?_ (by assumption)))⟩
      · rw [sampR_ok v1 (by omega) (by omega)] at hs
        have HS := Lib.hid hs
        have hr := Lib.hid fun w1 (hb : Below w.heap.size w w1) => rsample_any A B n k m l e c N w1 (hA.below mono_int hb) (hB.below mono_int hb) V (by omega) (by omega)
        clear hs V
        go_enter Try.func4, Try.ntmps4
        go_wp2_with fail
        refine (awake_any _).mono ?_
        rintro e w1 ⟨rfl, hb1⟩
        have hz1 := hb1.size
        try simp at hz1
        obtain ⟨hc1_w, hf1_w⟩ := bcellm (M := w.heap.size + 1) hb1 (by first | omega | (simp; done) | (simp; omega))
        have hl1_w0 : w.heap.size < w1.heap.size := by omega
        go_wp2_with fail
        refine (few_any A B n k m l _ hn hm).mono ?_
        rintro e w2 ⟨rfl, hb2⟩
        have hz2 := hb2.size
        try simp at hz2
        obtain ⟨hc2_w, hf2_w⟩ := bcellm (M := w.heap.size + 1) hb2 (by first | omega | (simp; done) | (simp; omega))
        have hl2_w0 : w.heap.size < w2.heap.size := by omega
        rw [hf]
        go_wp2_with fail
        refine (HS.out _ (by repeat (first | exact Below.refl _ _ | assumption | refine Below.drew ?_ | refine bdrewN ?_ _ | refine Below.alloc ?_ (by first | omega | (simp; done) | (simp; omega)) _ | refine Below.setCell ?_ (by first | omega | (simp; done) | (simp; omega)) _ | refine bstep ?_ (by assumption)))).mono ?_
        rintro e w3 ⟨rfl, hb3⟩
        have hz3 := hb3.size
        try simp at hz3
        obtain ⟨hc3_w, hf3_w⟩ := bcellm (M := w.heap.size + 1) hb3 (by first | omega | (simp; done) | (simp; omega))
        have hl3_w0 : w.heap.size < w3.heap.size := by omega
        go_wp2_with fail
        refine (hv.out _ (by repeat (first | exact Below.refl _ _ | assumption | refine Below.drew ?_ | refine bdrewN ?_ _ | refine Below.alloc ?_ (by first | omega | (simp; done) | (simp; omega)) _ | refine Below.setCell ?_ (by first | omega | (simp; done) | (simp; omega)) _ | refine bstep ?_ (by assumption)))).mono ?_
        rintro e w4 ⟨rfl, hb4⟩
        have hz4 := hb4.size
        try simp at hz4
        obtain ⟨hc4_w, hf4_w⟩ := bcellm (M := w.heap.size + 1) hb4 (by first | omega | (simp; done) | (simp; omega))
        have hl4_w0 : w.heap.size < w4.heap.size := by omega
        rw [v1]
        go_wp2_with fail
        refine (ht.out _ (by repeat (first | exact Below.refl _ _ | assumption | refine Below.drew ?_ | refine bdrewN ?_ _ | refine Below.alloc ?_ (by first | omega | (simp; done) | (simp; omega)) _ | refine Below.setCell ?_ (by first | omega | (simp; done) | (simp; omega)) _ | refine bstep ?_ (by assumption)))).mono ?_
        rintro e w5 ⟨rfl, hb5⟩
        have hz5 := hb5.size
        try simp at hz5
        obtain ⟨hc5_w, hf5_w⟩ := bcellm (M := w.heap.size + 1) hb5 (by first | omega | (simp; done) | (simp; omega))
        have hl5_w0 : w.heap.size < w5.heap.size := by omega
        go_wp2_with fail
        refine (hr.out _ (by repeat (first | exact Below.refl _ _ | assumption | refine Below.drew ?_ | refine bdrewN ?_ _ | refine Below.alloc ?_ (by first | omega | (simp; done) | (simp; omega)) _ | refine Below.setCell ?_ (by first | omega | (simp; done) | (simp; omega)) _ | refine bstep ?_ (by assumption)))).mono ?_
        rintro e w6 ⟨rfl, hb6⟩
        have hz6 := hb6.size
        try simp at hz6
        obtain ⟨hc6_w, hf6_w⟩ := bcellm (M := w.heap.size + 1) hb6 (by first | omega | (simp; done) | (simp; omega))
        have hl6_w0 : w.heap.size < w6.heap.size := by omega
        go_wp2_with fail
        go_ret
        exact ⟨rfl, (by repeat (first | exact Below.refl _ _ | assumption | refine Below.drew ?_ | refine bdrewN ?_ _ | refine Below.alloc ?_ (by first | omega | (simp; done) | (simp; omega)) _ | refine Below.setCell ?_ (by first | omega | (simp; done) | (simp; omega)) _ | refine bstep ?_ (by assumption)))⟩
    · have v1 : validH e c = false := by simpa using v1
      rw [sampR_arg v1] at hs
      have HS := Lib.hid hs
      clear hs
      go_enter Try.func4, Try.ntmps4
      go_wp2_with fail
      refine (awake_any _).mono ?_
      rintro e w1 ⟨rfl, hb1⟩
      have hz1 := hb1.size
      try simp at hz1
      obtain ⟨hc1_w, hf1_w⟩ := bcellm (M := w.heap.size + 1) hb1 (by first | omega | (simp; done) | (simp; omega))
      have hl1_w0 : w.heap.size < w1.heap.size := by omega
      go_wp2_with fail
      refine (few_any A B n k m l _ hn hm).mono ?_
      rintro e w2 ⟨rfl, hb2⟩
      have hz2 := hb2.size
      try simp at hz2
      obtain ⟨hc2_w, hf2_w⟩ := bcellm (M := w.heap.size + 1) hb2 (by first | omega | (simp; done) | (simp; omega))
      have hl2_w0 : w.heap.size < w2.heap.size := by omega
      rw [hf]
      go_wp2_with fail
      refine (HS.out _ (by repeat (first | exact Below.refl _ _ | assumption | refine Below.drew ?_ | refine bdrewN ?_ _ | refine Below.alloc ?_ (by first | omega | (simp; done) | (simp; omega)) _ | refine Below.setCell ?_ (by first | omega | (simp; done) | (simp; omega)) _ | refine bstep ?_ (by assumption)))).mono ?_
      rintro e w3 ⟨rfl, hb3⟩
      have hz3 := hb3.size
      try simp at hz3
      obtain ⟨hc3_w, hf3_w⟩ := bcellm (M := w.heap.size + 1) hb3 (by first | omega | (simp; done) | (simp; omega))
      have hl3_w0 : w.heap.size < w3.heap.size := by omega
      go_wp2_with fail
      refine (hv.out _ (by repeat (first | exact Below.refl _ _ | assumption | refine Below.drew ?_ | refine bdrewN ?_ _ | refine Below.alloc ?_ (by first | omega | (simp; done) | (simp; omega)) _ | refine Below.setCell ?_ (by first | omega | (simp; done) | (simp; omega)) _ | refine bstep ?_ (by assumption)))).mono ?_
      rintro e w4 ⟨rfl, hb4⟩
      have hz4 := hb4.size
      try simp at hz4
      obtain ⟨hc4_w, hf4_w⟩ := bcellm (M := w.heap.size + 1) hb4 (by first | omega | (simp; done) | (simp; omega))
      have hl4_w0 : w.heap.size < w4.heap.size := by omega
      rw [v1]
      go_wp2_with fail
      go_ret
      exact ⟨rfl, (by repeat (first | exact Below.refl _ _ | assumption | refine Below.drew ?_ | refine bdrewN ?_ _ | refine Below.alloc ?_ (by first | omega | (simp; done) | (simp; omega)) _ | refine Below.setCell ?_ (by first | omega | (simp; done) | (simp; omega)) _ | refine bstep ?_ (by assumption)))⟩
  · have hf : (decide (n ≤ 25) && decide (m ≤ 25)) = false := by simpa using hf
    clear hs hv
    go_enter Try.func4, Try.ntmps4
    go_wp2_with fail
    refine (awake_any _).mono ?_
    rintro e w1 ⟨rfl, hb1⟩
    have hz1 := hb1.size
    try simp at hz1
    obtain ⟨hc1_w, hf1_w⟩ := bcellm (M := w.heap.size + 1) hb1 (by first | omega | (simp; done) | (simp; omega))
    have hl1_w0 : w.heap.size < w1.heap.size := by omega
    go_wp2_with fail
    refine (few_any A B n k m l _ hn hm).mono ?_
    rintro e w2 ⟨rfl, hb2⟩
    have hz2 := hb2.size
    try simp at hz2
    obtain ⟨hc2_w, hf2_w⟩ := bcellm (M := w.heap.size + 1) hb2 (by first | omega | (simp; done) | (simp; omega))
    have hl2_w0 : w.heap.size < w2.heap.size := by omega
    rw [hf]
    go_wp2_with fail
    refine (awake_any _).mono ?_
    rintro e w3 ⟨rfl, hb3⟩
    have hz3 := hb3.size
    try simp at hz3
    obtain ⟨hc3_w, hf3_w⟩ := bcellm (M := w.heap.size + 1) hb3 (by first | omega | (simp; done) | (simp; omega))
    have hl3_w0 : w.heap.size < w3.heap.size := by omega
    go_wp2_with fail
    go_ret
    exact ⟨rfl, (by repeat (first | exact Below.refl _ _ | assumption | refine Below.drew ?_ | refine bdrewN ?_ _ | refine Below.alloc ?_ (by first | omega | (simp; done) | (simp; omega)) _ | refine Below.setCell ?_ (by first | omega | (simp; done) | (simp; omega)) _ | refine bstep ?_ (by assumption)))⟩

set_option maxRecDepth 100000 in
theorem lifted (os : Os) (started : os.Started) (H : Type) (enc : TypeId × Value → H) :
    ReturnsInHanded {} Try.checked os 4 .any (Rows.timingSamplesSpec.pre6 enc Try.prog Try.f4 Rows.timingSamplesRow.domain false) (Rows.timingSamplesSpec.post enc Try.prog Try.f4 false true false false) := by
  refine returnsInHanded_of_change (C := Try.checked) own started (by kernel_rfl) Try.func4
    (ChangeSpec.witness6 (enc := enc) (C := Try.checked) false ⟨#[], #[.agg #[.slice none 0 0, .slice none 0 0], .int .i64 0], []⟩ 8 (by kernel_rfl) (by kernel_rfl) (by kernel_rfl) (by kernel_rfl)) ?_
  intro W base args ds gs before hval0 hW hcnd _
  have hval : ∀ (j : Nat) t v, Try.f4.params[j]? = some t → args[j]? = some v → Value.okWide Try.prog W .any base t v := hval0
  have hW' := hW
  obtain ⟨p, q, hA0, hV, rfl, hfz, hnd⟩ := hW
  have hA : DataW.TrodAll enc Try.prog W 0 (fun _ => true) true Try.f4.params.toList args.toList ds p := hA0
  rw [Try.params4] at hA hval
  obtain ⟨v0, vs0, d0, ds0, p0, q0, hargs, rfl, rfl, h0, r0⟩ := trodAll_cons hA
  obtain ⟨v1, vs1, d1, ds1, p1, q1, rfl, rfl, rfl, h1, r1⟩ := trodAll_cons r0
  obtain ⟨rfl, rfl, rfl⟩ := trodAll_nil r1
  obtain rfl : args = #[v0, v1] := by cases args; simp_all
  obtain ⟨rfl, rfl⟩ := trodVars_none hV
  have k0 := h0
  have lt0 : ∀ x ∈ p0, x.block < W.heap.size := by obtain ⟨m, hm⟩ := k0; exact DataW.trod_lt m _ _ _ hm
  obtain ⟨XA0, Xn0, Xc0, Xl0, YA0, Yn0, Yc0, Yl0, rfl, Xi0, Yi0⟩ := open_hist Try.underlying24 (by kernel_rfl) (by kernel_rfl) (by kernel_rfl) (by kernel_rfl) Try.underlying3 (by kernel_rfl) (hval 0 24 v0 rfl rfl) h0
  have k1 := h1
  have lt1 : ∀ x ∈ p1, x.block < W.heap.size := by obtain ⟨m, hm⟩ := k1; exact DataW.trod_lt m _ _ _ hm
  obtain ⟨Xx1, rfl, Xi1⟩ := open_int1 Try.underlying3 (hval 1 3 v1 rfl rfl) h1
  clear hA0 hval0
  refine (walk W XA0 Xn0 Xc0 Xl0 YA0 Yn0 Yc0 Yl0 Xi0 Yi0 Xx1 Xi1).mono fun e W' ⟨he, bel⟩ => ?_
  subst he
  exact ⟨_, rfl, _, _, _, [], _, [], hW', trodAll_mk1 (shut_bool Try.underlying4 _), (trodAll_cons_mk (Below.trod laidOut (by kernel_rfl) (of_decide_eq_true (by kernel_rfl)) k0 bel lt0) (trodAll_cons_mk (Below.trod laidOut (by kernel_rfl) (of_decide_eq_true (by kernel_rfl)) k1 bel lt1) trodAll_mk0)), rfl, bel.frame _, fun h => by cases h⟩

theorem over : Rows.timingSamplesRow.holds Try.pinned (OpenSpec.ofChange Rows.timingSamplesSpec) :=
  OpenClaim.holds_of_wide 4 Try.f4 rfl rfl rfl rfl rfl rfl rfl ⟨rfl, rfl, rfl, rfl, rfl⟩ rfl rfl rfl rfl rfl (by kernel_rfl) Try.func4 (by kernel_rfl)
    (of_decide_eq_true (by kernel_rfl)) (by unfold Func.isWrapper; first | (rw [if_pos (by decide +kernel)]; kernel_rfl) | (rw [if_neg (by decide +kernel)]; exact ⟨rfl, rfl⟩))
    (fun os started H enc _ => lifted os started H enc)

theorem proved : Rows.TimingSamplesSaid := over
end Go.Proofs.Ytibnaangfdohiaa.lawSamples
