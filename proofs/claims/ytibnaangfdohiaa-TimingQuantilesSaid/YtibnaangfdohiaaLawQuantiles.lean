/- timing.Quantile and the reference's Quantile return the same for every histogram and every fraction (the law TimingQuantiles holds for every input; no condition). -/
import Derived.Test.YtibnaangfdohiaaRows
import Derived.Test.YtibnaangfdohiaaFrame
import Derived.Test.YtibnaangfdohiaaTim4
import Derived.Test.YtibnaangfdohiaaTim8
namespace Go.Proofs.Ytibnaangfdohiaa.lawQuantiles
open Go.ChangeShapes Go.WideShapes Go.ChangeAt Go.RowKit

set_option maxRecDepth 100000 in
set_option maxHeartbeats 4000000 in
theorem walk (w : World) (A : Option Addr) (n k : Nat) (e : List Int) (B : Option Addr) (m l : Nat) (c : List Int) (num den : Int) (hA : Ints w A n e) (hB : Ints w B m c) :
    Calls Try.prog 3 #[.agg #[.slice A n k, .slice B m l], .agg #[.int .i64 num, .int .i64 den]] w fun e w' => e = .returned (.bool true) ∧ Below w.heap.size w w' := by
  have hn := hA.len
  have hm := hB.len
  have hq := Lib.hid fun w1 (hb : Below w.heap.size w w1) => quantile_any A B n k m l e c num den w1 (hA.below mono_int hb) (hB.below mono_int hb)
  have hr := Lib.hid fun w1 (hb : Below w.heap.size w w1) => rquantile_any A B n k m l e c num den w1 (hA.below mono_int hb) (hB.below mono_int hb)
  by_cases hf : (decide (n ≤ 25) && decide (m ≤ 25)) = true
  · skip
    go_enter Try.func3, Try.ntmps3
    go_wp2_with fail
    refine (awake_any _).mono ?_
    rintro e w1 ⟨rfl, hb1⟩
    have hz1 := hb1.size
    try simp at hz1
    obtain ⟨hc1_w, hf1_w⟩ := bcellm (M := w.heap.size + 2) hb1 (by first | omega | (simp; done) | (simp; omega))
    have hl1_w0 : w.heap.size < w1.heap.size := by omega
    have hl1_w1 : w.heap.size + 1 < w1.heap.size := by omega
    go_wp2_with fail
    refine (few_any A B n k m l _ hn hm).mono ?_
    rintro e w2 ⟨rfl, hb2⟩
    have hz2 := hb2.size
    try simp at hz2
    obtain ⟨hc2_w, hf2_w⟩ := bcellm (M := w.heap.size + 2) hb2 (by first | omega | (simp; done) | (simp; omega))
    have hl2_w0 : w.heap.size < w2.heap.size := by omega
    have hl2_w1 : w.heap.size + 1 < w2.heap.size := by omega
    rw [hf]
    go_wp2_with fail
    refine (hq.out _ (by repeat (first | exact Below.refl _ _ | assumption | refine Below.drew ?_ | refine bdrewN ?_ _ | refine Below.alloc ?_ (by first | omega | (simp; done) | (simp; omega)) _ | refine Below.setCell ?_ (by first | omega | (simp; done) | (simp; omega)) _ | refine bstep ?_ (by assumption)))).mono ?_
    rintro e w3 ⟨rfl, hb3⟩
    have hz3 := hb3.size
    try simp at hz3
    obtain ⟨hc3_w, hf3_w⟩ := bcellm (M := w.heap.size + 2) hb3 (by first | omega | (simp; done) | (simp; omega))
    have hl3_w0 : w.heap.size < w3.heap.size := by omega
    have hl3_w1 : w.heap.size + 1 < w3.heap.size := by omega
    go_wp2_with fail
    refine (hr.out _ (by repeat (first | exact Below.refl _ _ | assumption | refine Below.drew ?_ | refine bdrewN ?_ _ | refine Below.alloc ?_ (by first | omega | (simp; done) | (simp; omega)) _ | refine Below.setCell ?_ (by first | omega | (simp; done) | (simp; omega)) _ | refine bstep ?_ (by assumption)))).mono ?_
    rintro e w4 ⟨rfl, hb4⟩
    have hz4 := hb4.size
    try simp at hz4
    obtain ⟨hc4_w, hf4_w⟩ := bcellm (M := w.heap.size + 2) hb4 (by first | omega | (simp; done) | (simp; omega))
    have hl4_w0 : w.heap.size < w4.heap.size := by omega
    have hl4_w1 : w.heap.size + 1 < w4.heap.size := by omega
    obtain ⟨hc4_w3, hf4_w3⟩ := bcellm (M := w3.heap.size + 1) hb4 (by first | omega | (simp; done) | (simp; omega))
    have hl4_w30 : w3.heap.size < w4.heap.size := by omega
    go_wp2_with fail
    go_ret
    exact ⟨rfl, (by repeat (first | exact Below.refl _ _ | assumption | refine Below.drew ?_ | refine bdrewN ?_ _ | refine Below.alloc ?_ (by first | omega | (simp; done) | (simp; omega)) _ | refine Below.setCell ?_ (by first | omega | (simp; done) | (simp; omega)) _ | refine bstep ?_ (by assumption)))⟩
  · have hf : (decide (n ≤ 25) && decide (m ≤ 25)) = false := by simpa using hf
    go_enter Try.func3, Try.ntmps3
    go_wp2_with fail
    refine (awake_any _).mono ?_
    rintro e w1 ⟨rfl, hb1⟩
    have hz1 := hb1.size
    try simp at hz1
    obtain ⟨hc1_w, hf1_w⟩ := bcellm (M := w.heap.size + 2) hb1 (by first | omega | (simp; done) | (simp; omega))
    have hl1_w0 : w.heap.size < w1.heap.size := by omega
    have hl1_w1 : w.heap.size + 1 < w1.heap.size := by omega
    go_wp2_with fail
    refine (few_any A B n k m l _ hn hm).mono ?_
    rintro e w2 ⟨rfl, hb2⟩
    have hz2 := hb2.size
    try simp at hz2
    obtain ⟨hc2_w, hf2_w⟩ := bcellm (M := w.heap.size + 2) hb2 (by first | omega | (simp; done) | (simp; omega))
    have hl2_w0 : w.heap.size < w2.heap.size := by omega
    have hl2_w1 : w.heap.size + 1 < w2.heap.size := by omega
    rw [hf]
    go_wp2_with fail
    refine (awake_any _).mono ?_
    rintro e w3 ⟨rfl, hb3⟩
    have hz3 := hb3.size
    try simp at hz3
    obtain ⟨hc3_w, hf3_w⟩ := bcellm (M := w.heap.size + 2) hb3 (by first | omega | (simp; done) | (simp; omega))
    have hl3_w0 : w.heap.size < w3.heap.size := by omega
    have hl3_w1 : w.heap.size + 1 < w3.heap.size := by omega
    go_wp2_with fail
    go_ret
    exact ⟨rfl, (by repeat (first | exact Below.refl _ _ | assumption | refine Below.drew ?_ | refine bdrewN ?_ _ | refine Below.alloc ?_ (by first | omega | (simp; done) | (simp; omega)) _ | refine Below.setCell ?_ (by first | omega | (simp; done) | (simp; omega)) _ | refine bstep ?_ (by assumption)))⟩
theorem walk' (w : World) (A : Option Addr) (n k : Nat) (e : List Int) (B : Option Addr) (m l : Nat) (c : List Int) (hA : Ints w A n e) (hB : Ints w B m c) (num den : Int) (_ : (Lit.int .i64 num).wf = true) (_ : (Lit.int .i64 den).wf = true) :
    Calls Try.prog 3 #[.agg #[.slice A n k, .slice B m l], .agg #[.int .i64 num, .int .i64 den]] w fun e w' => e = .returned (.bool true) ∧ Below w.heap.size w w' :=
  walk w A n k e B m l c num den hA hB

set_option maxRecDepth 100000 in
theorem lifted (os : Os) (started : os.Started) (H : Type) (enc : TypeId × Value → H) :
    ReturnsInHanded {} Try.checked os 3 .any (Rows.timingQuantilesSpec.pre6 enc Try.prog Try.f3 Rows.timingQuantilesRow.domain false) (Rows.timingQuantilesSpec.post enc Try.prog Try.f3 false true false false) := by
  refine returnsInHanded_of_change (C := Try.checked) own started (by kernel_rfl) Try.func3
    (ChangeSpec.witness6 (enc := enc) (C := Try.checked) false ⟨#[], #[.agg #[.slice none 0 0, .slice none 0 0], .agg #[.int .i64 0, .int .i64 0]], []⟩ 8 (by kernel_rfl) (by kernel_rfl) (by kernel_rfl) (by kernel_rfl)) ?_
  intro W base args ds gs before hval0 hW hcnd _
  have hval : ∀ (j : Nat) t v, Try.f3.params[j]? = some t → args[j]? = some v → Value.okWide Try.prog W .any base t v := hval0
  have hW' := hW
  obtain ⟨p, q, hA0, hV, rfl, hfz, hnd⟩ := hW
  have hA : DataW.TrodAll enc Try.prog W 0 (fun _ => true) true Try.f3.params.toList args.toList ds p := hA0
  rw [Try.params3] at hA hval
  obtain ⟨v0, vs0, d0, ds0, p0, q0, hargs, rfl, rfl, h0, r0⟩ := trodAll_cons hA
  obtain ⟨v1, vs1, d1, ds1, p1, q1, rfl, rfl, rfl, h1, r1⟩ := trodAll_cons r0
  obtain ⟨rfl, rfl, rfl⟩ := trodAll_nil r1
  obtain rfl : args = #[v0, v1] := by cases args; simp_all
  obtain ⟨rfl, rfl⟩ := trodVars_none hV
  have k0 := h0
  have lt0 : ∀ x ∈ p0, x.block < W.heap.size := by obtain ⟨m, hm⟩ := k0; exact DataW.trod_lt m _ _ _ hm
  obtain ⟨XA0, Xn0, Xc0, Xl0, YA0, Yn0, Yc0, Yl0, rfl, Xi0, Yi0⟩ := open_hist Try.underlying24 (by kernel_rfl) (by kernel_rfl) (by kernel_rfl) (by kernel_rfl) Try.underlying3 (by kernel_rfl) (hval 0 24 v0 rfl rfl) h0
  have k1 := h1
  have lt1 : ∀ x ∈ p1, x.block < W.heap.size := by obtain ⟨m, hm⟩ := k1; exact DataW.trod_lt m _ _ _ hm
  obtain ⟨Xx1, Yx1, rfl, Xi1, Yi1⟩ := open_two Try.underlying26 (by kernel_rfl) (by kernel_rfl) (by kernel_rfl) (by kernel_rfl) (hval 1 26 v1 rfl rfl) h1
  clear hA0 hval0
  refine (walk' W XA0 Xn0 Xc0 Xl0 YA0 Yn0 Yc0 Yl0 Xi0 Yi0 Xx1 Yx1 Xi1 Yi1).mono fun e W' ⟨he, bel⟩ => ?_
  subst he
  exact ⟨_, rfl, _, _, _, [], _, [], hW', trodAll_mk1 (shut_bool Try.underlying4 _), (trodAll_cons_mk (Below.trod laidOut (by kernel_rfl) (of_decide_eq_true (by kernel_rfl)) k0 bel lt0) (trodAll_cons_mk (Below.trod laidOut (by kernel_rfl) (of_decide_eq_true (by kernel_rfl)) k1 bel lt1) trodAll_mk0)), rfl, bel.frame _, fun h => by cases h⟩

theorem over : Rows.timingQuantilesRow.holds Try.pinned (OpenSpec.ofChange Rows.timingQuantilesSpec) :=
  OpenClaim.holds_of_wide 3 Try.f3 rfl rfl rfl rfl rfl rfl rfl ⟨rfl, rfl, rfl, rfl, rfl⟩ rfl rfl rfl rfl rfl (by kernel_rfl) Try.func3 (by kernel_rfl)
    (of_decide_eq_true (by kernel_rfl)) (by unfold Func.isWrapper; first | (rw [if_pos (by decide +kernel)]; kernel_rfl) | (rw [if_neg (by decide +kernel)]; exact ⟨rfl, rfl⟩))
    (fun os started H enc _ => lifted os started H enc)

theorem proved : Rows.TimingQuantilesSaid := over
end Go.Proofs.Ytibnaangfdohiaa.lawQuantiles
