/- timing.Distance and timing.Mean return the fractions of the reference, or the specified errors, for every two histograms (the law TimingDistances holds for every input; no condition). -/
import Derived.Test.YtibnaangfdohiaaRows
import Derived.Test.YtibnaangfdohiaaFrame
import Derived.Test.YtibnaangfdohiaaTim8
import Derived.Test.YtibnaangfdohiaaTimA
import Derived.Test.YtibnaangfdohiaaTimC
namespace Go.Proofs.Ytibnaangfdohiaa.lawDistances
open Go.ChangeShapes Go.WideShapes Go.ChangeAt Go.RowKit

theorem fracSize : (Try.prog.info? 26).map (·.size) = some 2 := by kernel_rfl
set_option maxRecDepth 100000 in
/-- Two arrays of two fractions with the same numbers are equal. -/
theorem eqMean (a b c d : Int) (w : World) : (Op.equalIn 10000 46 (.agg #[.int .i64 a, .int .i64 b, .int .i64 c, .int .i64 d]) (.agg #[.int .i64 a, .int .i64 b, .int .i64 c, .int .i64 d])).run Try.prog w = .ok true w := by
  obtain ⟨i, hi, hs⟩ := Option.map_eq_some_iff.1 fracSize
  have e2 : ∀ (d : Nat) (x y : Int) (w : World), (Op.equalIn (d + 2) 26 (.agg #[.int .i64 x, .int .i64 y]) (.agg #[.int .i64 x, .int .i64 y])).run Try.prog w = .ok true w := by
    intro d x y w
    rw [run_equalIn_agg w (d + 1) 26 _ _ (by kernel_rfl) (by kernel_rfl)]
    go_simp
    done
  show (Op.equalIn (9997 + 2 + 1) 46 _ _).run Try.prog w = _
  unfold Op.equalIn
  have p0 : ∀ w, (part 26 #[Value.int .i64 a, .int .i64 b, .int .i64 c, .int .i64 d] 0).run Try.prog w = .ok (.agg #[.int .i64 a, .int .i64 b]) w := fun w => by kernel_rfl
  have p1 : ∀ w, (part 26 #[Value.int .i64 a, .int .i64 b, .int .i64 c, .int .i64 d] 2).run Try.prog w = .ok (.agg #[.int .i64 c, .int .i64 d]) w := fun w => by kernel_rfl
  have e3 := e2 9997
  simp [run_underlying Try.underlying46, sizeOf, typeInfo, hi, hs, List.range', p0, p1, e3]
theorem noGuard : Try.prog.eqGuardType Try.prog.depth 46 = false := by kernel_rfl

set_option maxRecDepth 100000 in
set_option maxHeartbeats 4000000 in
theorem walk (w : World) (A : Option Addr) (n k : Nat) (e : List Int) (B : Option Addr) (m l : Nat) (c : List Int) (hA : Ints w A n e) (hB : Ints w B m c) (C : Option Addr) (n' k' : Nat) (e' : List Int) (D : Option Addr) (m' l' : Nat) (c' : List Int) (hC : Ints w C n' e') (hD : Ints w D m' c') :
    Calls Try.prog 5 #[.agg #[.slice A n k, .slice B m l], .agg #[.slice C n' k', .slice D m' l']] w fun e w' => e = .returned (.bool true) ∧ Below w.heap.size w w' := by
  have hn := hA.len
  have hm := hB.len
  have hn' := hC.len
  have hm' := hD.len
  have hd := Lib.hid fun w1 (hb : Below w.heap.size w w1) => distance_any A B C D n k m l n' k' m' l' e c e' c' w1 (hA.below mono_int hb) (hB.below mono_int hb) (hC.below mono_int hb) (hD.below mono_int hb)
  have hrd := Lib.hid fun w1 (hb : Below w.heap.size w w1) => rdistance_any A B C D n k m l n' k' m' l' e c e' c' w1 (hA.below mono_int hb) (hB.below mono_int hb) (hC.below mono_int hb) (hD.below mono_int hb)
  have hmn := Lib.hid fun w1 (hb : Below w.heap.size w w1) => mean_any A B n k m l e c w1 (hA.below mono_int hb) (hB.below mono_int hb)
  have hrm := Lib.hid fun w1 (hb : Below w.heap.size w w1) => rmean_any A B n k m l e c w1 (hA.below mono_int hb) (hB.below mono_int hb)
  by_cases hf : (decide (n ≤ 25) && decide (m ≤ 25)) = true
  · by_cases hf' : (decide (n' ≤ 25) && decide (m' ≤ 25)) = true
    · skip
      go_enter Try.func5, Try.ntmps5
      go_wp2_with fail
      refine (awake_any _).mono ?_
      rintro e w1 ⟨rfl, hb1⟩
      have hz1 := hb1.size
      try simp at hz1
      obtain ⟨hc1_w, hf1_w⟩ := bcellm (M := w.heap.size + 2) hb1 (by first | omega | (simp; done) | (simp; omega))
      have hl1_w0 : w.heap.size < w1.heap.size := by omega
      have hl1_w1 : w.heap.size + 1 < w1.heap.size := by omega
      go_wp2_with fail
      refine (few_any A B n k m l _ hn hm).mono ?_
      rintro e w2 ⟨rfl, hb2⟩
      have hz2 := hb2.size
      try simp at hz2
      obtain ⟨hc2_w, hf2_w⟩ := bcellm (M := w.heap.size + 2) hb2 (by first | omega | (simp; done) | (simp; omega))
      have hl2_w0 : w.heap.size < w2.heap.size := by omega
      have hl2_w1 : w.heap.size + 1 < w2.heap.size := by omega
      rw [hf]
      go_wp2_with fail
      refine (few_any C D n' k' m' l' _ hn' hm').mono ?_
      rintro e w3 ⟨rfl, hb3⟩
      have hz3 := hb3.size
      try simp at hz3
      obtain ⟨hc3_w, hf3_w⟩ := bcellm (M := w.heap.size + 2) hb3 (by first | omega | (simp; done) | (simp; omega))
      have hl3_w0 : w.heap.size < w3.heap.size := by omega
      have hl3_w1 : w.heap.size + 1 < w3.heap.size := by omega
      rw [hf']
      go_wp2_with fail
      refine (hd.out _ (by repeat (first | exact Below.refl _ _ | assumption | refine Below.drew ?_ | refine bdrewN ?_ _ | refine Below.alloc ?_ (by first | omega | (simp; done) | (simp; omega)) _ | refine Below.setCell ?_ (by first | omega | (simp; done) | (simp; omega)) _ | refine bstep ?_ (by assumption)))).mono ?_
      rintro e w4 ⟨rfl, hb4⟩
      have hz4 := hb4.size
      try simp at hz4
      obtain ⟨hc4_w, hf4_w⟩ := bcellm (M := w.heap.size + 2) hb4 (by first | omega | (simp; done) | (simp; omega))
      have hl4_w0 : w.heap.size < w4.heap.size := by omega
      have hl4_w1 : w.heap.size + 1 < w4.heap.size := by omega
      go_wp2_with fail
      refine (hrd.out _ (by repeat (first | exact Below.refl _ _ | assumption | refine Below.drew ?_ | refine bdrewN ?_ _ | refine Below.alloc ?_ (by first | omega | (simp; done) | (simp; omega)) _ | refine Below.setCell ?_ (by first | omega | (simp; done) | (simp; omega)) _ | refine bstep ?_ (by assumption)))).mono ?_
      rintro e w5 ⟨rfl, hb5⟩
      have hz5 := hb5.size
      try simp at hz5
      obtain ⟨hc5_w, hf5_w⟩ := bcellm (M := w.heap.size + 2) hb5 (by first | omega | (simp; done) | (simp; omega))
      have hl5_w0 : w.heap.size < w5.heap.size := by omega
      have hl5_w1 : w.heap.size + 1 < w5.heap.size := by omega
      obtain ⟨hc5_w4, hf5_w4⟩ := bcellm (M := w4.heap.size + 1) hb5 (by first | omega | (simp; done) | (simp; omega))
      have hl5_w40 : w4.heap.size < w5.heap.size := by omega
      go_wp2_with fail
      refine (hmn.out _ (by repeat (first | exact Below.refl _ _ | assumption | refine Below.drew ?_ | refine bdrewN ?_ _ | refine Below.alloc ?_ (by first | omega | (simp; done) | (simp; omega)) _ | refine Below.setCell ?_ (by first | omega | (simp; done) | (simp; omega)) _ | refine bstep ?_ (by assumption)))).mono ?_
      rintro e w6 ⟨rfl, hb6⟩
      have hz6 := hb6.size
      try simp at hz6
      obtain ⟨hc6_w, hf6_w⟩ := bcellm (M := w.heap.size + 2) hb6 (by first | omega | (simp; done) | (simp; omega))
      have hl6_w0 : w.heap.size < w6.heap.size := by omega
      have hl6_w1 : w.heap.size + 1 < w6.heap.size := by omega
      obtain ⟨hc6_w4, hf6_w4⟩ := bcellm (M := w4.heap.size + 1) hb6 (by first | omega | (simp; done) | (simp; omega))
      have hl6_w40 : w4.heap.size < w6.heap.size := by omega
      obtain ⟨hc6_w5, hf6_w5⟩ := bcellm (M := w5.heap.size + 1) hb6 (by first | omega | (simp; done) | (simp; omega))
      have hl6_w50 : w5.heap.size < w6.heap.size := by omega
      go_wp2_with fail
      refine (hrm.out _ (by repeat (first | exact Below.refl _ _ | assumption | refine Below.drew ?_ | refine bdrewN ?_ _ | refine Below.alloc ?_ (by first | omega | (simp; done) | (simp; omega)) _ | refine Below.setCell ?_ (by first | omega | (simp; done) | (simp; omega)) _ | refine bstep ?_ (by assumption)))).mono ?_
      rintro e w7 ⟨rfl, hb7⟩
      have hz7 := hb7.size
      try simp at hz7
      obtain ⟨hc7_w, hf7_w⟩ := bcellm (M := w.heap.size + 2) hb7 (by first | omega | (simp; done) | (simp; omega))
      have hl7_w0 : w.heap.size < w7.heap.size := by omega
      have hl7_w1 : w.heap.size + 1 < w7.heap.size := by omega
      obtain ⟨hc7_w4, hf7_w4⟩ := bcellm (M := w4.heap.size + 1) hb7 (by first | omega | (simp; done) | (simp; omega))
      have hl7_w40 : w4.heap.size < w7.heap.size := by omega
      obtain ⟨hc7_w5, hf7_w5⟩ := bcellm (M := w5.heap.size + 1) hb7 (by first | omega | (simp; done) | (simp; omega))
      have hl7_w50 : w5.heap.size < w7.heap.size := by omega
      obtain ⟨hc7_w6, hf7_w6⟩ := bcellm (M := w6.heap.size + 1) hb7 (by first | omega | (simp; done) | (simp; omega))
      have hl7_w60 : w6.heap.size < w7.heap.size := by omega
      have he := eqMean (meanR e c).1.1 (meanR e c).1.2 (meanR e c).2.1.1 (meanR e c).2.1.2
      have hg := noGuard
      go_wp2_with fail
      go_ret
      exact ⟨rfl, (by repeat (first | exact Below.refl _ _ | assumption | refine Below.drew ?_ | refine bdrewN ?_ _ | refine Below.alloc ?_ (by first | omega | (simp; done) | (simp; omega)) _ | refine Below.setCell ?_ (by first | omega | (simp; done) | (simp; omega)) _ | refine bstep ?_ (by assumption)))⟩
    · have hf' : (decide (n' ≤ 25) && decide (m' ≤ 25)) = false := by simpa using hf'
      go_enter Try.func5, Try.ntmps5
      go_wp2_with fail
      refine (awake_any _).mono ?_
      rintro e w1 ⟨rfl, hb1⟩
      have hz1 := hb1.size
      try simp at hz1
      obtain ⟨hc1_w, hf1_w⟩ := bcellm (M := w.heap.size + 2) hb1 (by first | omega | (simp; done) | (simp; omega))
      have hl1_w0 : w.heap.size < w1.heap.size := by omega
      have hl1_w1 : w.heap.size + 1 < w1.heap.size := by omega
      go_wp2_with fail
      refine (few_any A B n k m l _ hn hm).mono ?_
      rintro e w2 ⟨rfl, hb2⟩
      have hz2 := hb2.size
      try simp at hz2
      obtain ⟨hc2_w, hf2_w⟩ := bcellm (M := w.heap.size + 2) hb2 (by first | omega | (simp; done) | (simp; omega))
      have hl2_w0 : w.heap.size < w2.heap.size := by omega
      have hl2_w1 : w.heap.size + 1 < w2.heap.size := by omega
      rw [hf]
      go_wp2_with fail
      refine (few_any C D n' k' m' l' _ hn' hm').mono ?_
      rintro e w3 ⟨rfl, hb3⟩
      have hz3 := hb3.size
      try simp at hz3
      obtain ⟨hc3_w, hf3_w⟩ := bcellm (M := w.heap.size + 2) hb3 (by first | omega | (simp; done) | (simp; omega))
      have hl3_w0 : w.heap.size < w3.heap.size := by omega
      have hl3_w1 : w.heap.size + 1 < w3.heap.size := by omega
      rw [hf']
      go_wp2_with fail
      refine (awake_any _).mono ?_
      rintro e w4 ⟨rfl, hb4⟩
      have hz4 := hb4.size
      try simp at hz4
      obtain ⟨hc4_w, hf4_w⟩ := bcellm (M := w.heap.size + 2) hb4 (by first | omega | (simp; done) | (simp; omega))
      have hl4_w0 : w.heap.size < w4.heap.size := by omega
      have hl4_w1 : w.heap.size + 1 < w4.heap.size := by omega
      go_wp2_with fail
      go_ret
      exact ⟨rfl, (by repeat (first | exact Below.refl _ _ | assumption | refine Below.drew ?_ | refine bdrewN ?_ _ | refine Below.alloc ?_ (by first | omega | (simp; done) | (simp; omega)) _ | refine Below.setCell ?_ (by first | omega | (simp; done) | (simp; omega)) _ | refine bstep ?_ (by assumption)))⟩
  · have hf : (decide (n ≤ 25) && decide (m ≤ 25)) = false := by simpa using hf
    go_enter Try.func5, Try.ntmps5
    go_wp2_with fail
    refine (awake_any _).mono ?_
    rintro e w1 ⟨rfl, hb1⟩
    have hz1 := hb1.size
    try simp at hz1
    obtain ⟨hc1_w, hf1_w⟩ := bcellm (M := w.heap.size + 2) hb1 (by first | omega | (simp; done) | (simp; omega))
    have hl1_w0 : w.heap.size < w1.heap.size := by omega
    have hl1_w1 : w.heap.size + 1 < w1.heap.size := by omega
    go_wp2_with fail
    refine (few_any A B n k m l _ hn hm).mono ?_
    rintro e w2 ⟨rfl, hb2⟩
    have hz2 := hb2.size
    try simp at hz2
    obtain ⟨hc2_w, hf2_w⟩ := bcellm (M := w.heap.size + 2) hb2 (by first | omega | (simp; done) | (simp; omega))
    have hl2_w0 : w.heap.size < w2.heap.size := by omega
    have hl2_w1 : w.heap.size + 1 < w2.heap.size := by omega
    rw [hf]
    go_wp2_with fail
    refine (awake_any _).mono ?_
    rintro e w3 ⟨rfl, hb3⟩
    have hz3 := hb3.size
    try simp at hz3
    obtain ⟨hc3_w, hf3_w⟩ := bcellm (M := w.heap.size + 2) hb3 (by first | omega | (simp; done) | (simp; omega))
    have hl3_w0 : w.heap.size < w3.heap.size := by omega
    have hl3_w1 : w.heap.size + 1 < w3.heap.size := by omega
    go_wp2_with fail
    go_ret
    exact ⟨rfl, (by repeat (first | exact Below.refl _ _ | assumption | refine Below.drew ?_ | refine bdrewN ?_ _ | refine Below.alloc ?_ (by first | omega | (simp; done) | (simp; omega)) _ | refine Below.setCell ?_ (by first | omega | (simp; done) | (simp; omega)) _ | refine bstep ?_ (by assumption)))⟩

set_option maxRecDepth 100000 in
theorem lifted (os : Os) (started : os.Started) (H : Type) (enc : TypeId × Value → H) :
    ReturnsInHanded {} Try.checked os 5 .any (Rows.timingDistancesSpec.pre6 enc Try.prog Try.f5 Rows.timingDistancesRow.domain false) (Rows.timingDistancesSpec.post enc Try.prog Try.f5 false true false false) := by
  refine returnsInHanded_of_change (C := Try.checked) own started (by kernel_rfl) Try.func5
    (ChangeSpec.witness6 (enc := enc) (C := Try.checked) false ⟨#[], #[.agg #[.slice none 0 0, .slice none 0 0], .agg #[.slice none 0 0, .slice none 0 0]], []⟩ 8 (by kernel_rfl) (by kernel_rfl) (by kernel_rfl) (by kernel_rfl)) ?_
  intro W base args ds gs before hval0 hW hcnd _
  have hval : ∀ (j : Nat) t v, Try.f5.params[j]? = some t → args[j]? = some v → Value.okWide Try.prog W .any base t v := hval0
  have hW' := hW
  obtain ⟨p, q, hA0, hV, rfl, hfz, hnd⟩ := hW
  have hA : DataW.TrodAll enc Try.prog W 0 (fun _ => true) true Try.f5.params.toList args.toList ds p := hA0
  rw [Try.params5] at hA hval
  obtain ⟨v0, vs0, d0, ds0, p0, q0, hargs, rfl, rfl, h0, r0⟩ := trodAll_cons hA
  obtain ⟨v1, vs1, d1, ds1, p1, q1, rfl, rfl, rfl, h1, r1⟩ := trodAll_cons r0
  obtain ⟨rfl, rfl, rfl⟩ := trodAll_nil r1
  obtain rfl : args = #[v0, v1] := by cases args; simp_all
  obtain ⟨rfl, rfl⟩ := trodVars_none hV
  have k0 := h0
  have lt0 : ∀ x ∈ p0, x.block < W.heap.size := by obtain ⟨m, hm⟩ := k0; exact DataW.trod_lt m _ _ _ hm
  obtain ⟨XA0, Xn0, Xc0, Xl0, YA0, Yn0, Yc0, Yl0, rfl, Xi0, Yi0⟩ := open_hist Try.underlying24 (by kernel_rfl) (by kernel_rfl) (by kernel_rfl) (by kernel_rfl) Try.underlying3 (by kernel_rfl) (hval 0 24 v0 rfl rfl) h0
  have k1 := h1
  have lt1 : ∀ x ∈ p1, x.block < W.heap.size := by obtain ⟨m, hm⟩ := k1; exact DataW.trod_lt m _ _ _ hm
  obtain ⟨XA1, Xn1, Xc1, Xl1, YA1, Yn1, Yc1, Yl1, rfl, Xi1, Yi1⟩ := open_hist Try.underlying24 (by kernel_rfl) (by kernel_rfl) (by kernel_rfl) (by kernel_rfl) Try.underlying3 (by kernel_rfl) (hval 1 24 v1 rfl rfl) h1
  clear hA0 hval0
  refine (walk W XA0 Xn0 Xc0 Xl0 YA0 Yn0 Yc0 Yl0 Xi0 Yi0 XA1 Xn1 Xc1 Xl1 YA1 Yn1 Yc1 Yl1 Xi1 Yi1).mono fun e W' ⟨he, bel⟩ => ?_
  subst he
  exact ⟨_, rfl, _, _, _, [], _, [], hW', trodAll_mk1 (shut_bool Try.underlying4 _), (trodAll_cons_mk (Below.trod laidOut (by kernel_rfl) (of_decide_eq_true (by kernel_rfl)) k0 bel lt0) (trodAll_cons_mk (Below.trod laidOut (by kernel_rfl) (of_decide_eq_true (by kernel_rfl)) k1 bel lt1) trodAll_mk0)), rfl, bel.frame _, fun h => by cases h⟩

theorem over : Rows.timingDistancesRow.holds Try.pinned (OpenSpec.ofChange Rows.timingDistancesSpec) :=
  OpenClaim.holds_of_wide 5 Try.f5 rfl rfl rfl rfl rfl rfl rfl ⟨rfl, rfl, rfl, rfl, rfl⟩ rfl rfl rfl rfl rfl (by kernel_rfl) Try.func5 (by kernel_rfl)
    (of_decide_eq_true (by kernel_rfl)) (by unfold Func.isWrapper; first | (rw [if_pos (by decide +kernel)]; kernel_rfl) | (rw [if_neg (by decide +kernel)]; exact ⟨rfl, rfl⟩))
    (fun os started H enc _ => lifted os started H enc)

theorem proved : Rows.TimingDistancesSaid := over
end Go.Proofs.Ytibnaangfdohiaa.lawDistances
