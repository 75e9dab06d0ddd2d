/- Distances are a metric of shares (the law TimingMetric holds for every input; no condition). -/
import Derived.Test.YtibnaangfdohiaaRows
import Derived.Test.YtibnaangfdohiaaFrameR
import Derived.Test.YtibnaangfdohiaaTimQ
namespace Go.Proofs.Ytibnaangfdohiaa.lawMetric
open Go.ChangeShapes Go.WideShapes Go.ChangeAt Go.RowKit
theorem both {e x y z : List Int} (he : ∀ v ∈ e, (Lit.int .i64 v).wf = true) (hx : ∀ v ∈ x, (Lit.int .i64 v).wf = true) (hy : ∀ v ∈ y, (Lit.int .i64 v).wf = true) (hz : ∀ v ∈ z, (Lit.int .i64 v).wf = true) :
    Pure Try.prog 7 [ints e, ints x, ints y, ints z] (.bool true) := by
  by_cases h : (25 : Int) < e.length ∨ (25 : Int) < x.length ∨ (25 : Int) < y.length ∨ (25 : Int) < z.length
  · exact metric_large h
  · exact metric_small ⟨by omega, he⟩ ⟨by omega, hx⟩ ⟨by omega, hy⟩ ⟨by omega, hz⟩ (by omega) (by omega) (by omega) (by omega)
theorem walk (w : World) (A : Option Addr) (n k : Nat) (l : List Int) (h : IntsR w A n k l) (A1 : Option Addr) (n1 k1 : Nat) (l1 : List Int) (h1 : IntsR w A1 n1 k1 l1) (A2 : Option Addr) (n2 k2 : Nat) (l2 : List Int) (h2 : IntsR w A2 n2 k2 l2) (A3 : Option Addr) (n3 k3 : Nat) (l3 : List Int) (h3 : IntsR w A3 n3 k3 l3) :
    Calls Try.prog 7 #[.slice A n k, .slice A1 n1 k1, .slice A2 n2 k2, .slice A3 n3 k3] w fun e w' => e = .returned (.bool true) ∧ Below w.heap.size w w' := by
  refine ((both h.wfs h1.wfs h2.wfs h3.wfs).2 w (fun _ => False) _ (fun _ h => h.elim) rfl ?_).mono ?_
  · intro j x v hj hv
    match j with
    | 0 => simp at hj hv; subst hj hv; exact h.ro
    | 1 => simp at hj hv; subst hj hv; exact h1.ro
    | 2 => simp at hj hv; subst hj hv; exact h2.ro
    | 3 => simp at hj hv; subst hj hv; exact h3.ro
    | j + 4 => simp at hj
  · rintro e w' ⟨v, rfl, hv, hb⟩
    rw [ro_true hv]
    exact ⟨rfl, hb⟩
set_option maxRecDepth 100000 in
theorem lifted (os : Os) (started : os.Started) (H : Type) (enc : TypeId × Value → H) :
    ReturnsInHanded {} Try.checked os 7 .any (Rows.timingMetricSpec.pre6 enc Try.prog Try.f7 Rows.timingMetricRow.domain false) (Rows.timingMetricSpec.post enc Try.prog Try.f7 false true false false) := by
  refine returnsInHanded_of_change (C := Try.checked) own started (by kernel_rfl) Try.func7
    (ChangeSpec.witness6 (enc := enc) (C := Try.checked) false ⟨#[], #[.slice none 0 0, .slice none 0 0, .slice none 0 0, .slice none 0 0], []⟩ 8 (by kernel_rfl) (by kernel_rfl) (by kernel_rfl) (by kernel_rfl)) ?_
  intro W base args ds gs before hval0 hW hcnd _
  have hval : ∀ (j : Nat) t v, Try.f7.params[j]? = some t → args[j]? = some v → Value.okWide Try.prog W .any base t v := hval0
  have hW' := hW
  obtain ⟨p, q, hA0, hV, rfl, hfz, hnd⟩ := hW
  have hA : DataW.TrodAll enc Try.prog W 0 (fun _ => true) true Try.f7.params.toList args.toList ds p := hA0
  rw [Try.params7] at hA hval
  obtain ⟨v0, vs0, d0, ds0, p0, q0, hargs, rfl, rfl, h0, r0⟩ := trodAll_cons hA
  obtain ⟨v1, vs1, d1, ds1, p1, q1, rfl, rfl, rfl, h1, r1⟩ := trodAll_cons r0
  obtain ⟨v2, vs2, d2, ds2, p2, q2, rfl, rfl, rfl, h2, r2⟩ := trodAll_cons r1
  obtain ⟨v3, vs3, d3, ds3, p3, q3, rfl, rfl, rfl, h3, r3⟩ := trodAll_cons r2
  obtain ⟨rfl, rfl, rfl⟩ := trodAll_nil r3
  obtain rfl : args = #[v0, v1, v2, v3] := by cases args; simp_all
  obtain ⟨rfl, rfl⟩ := trodVars_none hV
  have k0 := h0
  have lt0 : ∀ x ∈ p0, x.block < W.heap.size := by obtain ⟨m, hm⟩ := k0; exact DataW.trod_lt m _ _ _ hm
  obtain ⟨XA0, Xn0, Xc0, Xl0, rfl, Xi0⟩ := open_rints1 Try.underlying22 Try.underlying3 (by kernel_rfl) (hval 0 22 v0 rfl rfl) h0
  have k1 := h1
  have lt1 : ∀ x ∈ p1, x.block < W.heap.size := by obtain ⟨m, hm⟩ := k1; exact DataW.trod_lt m _ _ _ hm
  obtain ⟨XA1, Xn1, Xc1, Xl1, rfl, Xi1⟩ := open_rints1 Try.underlying22 Try.underlying3 (by kernel_rfl) (hval 1 22 v1 rfl rfl) h1
  have k2 := h2
  have lt2 : ∀ x ∈ p2, x.block < W.heap.size := by obtain ⟨m, hm⟩ := k2; exact DataW.trod_lt m _ _ _ hm
  obtain ⟨XA2, Xn2, Xc2, Xl2, rfl, Xi2⟩ := open_rints1 Try.underlying22 Try.underlying3 (by kernel_rfl) (hval 2 22 v2 rfl rfl) h2
  have k3 := h3
  have lt3 : ∀ x ∈ p3, x.block < W.heap.size := by obtain ⟨m, hm⟩ := k3; exact DataW.trod_lt m _ _ _ hm
  obtain ⟨XA3, Xn3, Xc3, Xl3, rfl, Xi3⟩ := open_rints1 Try.underlying22 Try.underlying3 (by kernel_rfl) (hval 3 22 v3 rfl rfl) h3
  clear hA0 hval0
  refine (walk W XA0 Xn0 Xc0 Xl0 Xi0 XA1 Xn1 Xc1 Xl1 Xi1 XA2 Xn2 Xc2 Xl2 Xi2 XA3 Xn3 Xc3 Xl3 Xi3).mono fun e W' ⟨he, bel⟩ => ?_
  subst he
  exact ⟨_, rfl, _, _, _, [], _, [], hW', trodAll_mk1 (shut_bool Try.underlying4 _), (trodAll_cons_mk (Below.trod laidOut (by kernel_rfl) (of_decide_eq_true (by kernel_rfl)) k0 bel lt0) (trodAll_cons_mk (Below.trod laidOut (by kernel_rfl) (of_decide_eq_true (by kernel_rfl)) k1 bel lt1) (trodAll_cons_mk (Below.trod laidOut (by kernel_rfl) (of_decide_eq_true (by kernel_rfl)) k2 bel lt2) (trodAll_cons_mk (Below.trod laidOut (by kernel_rfl) (of_decide_eq_true (by kernel_rfl)) k3 bel lt3) trodAll_mk0)))), rfl, bel.frame _, fun h => by cases h⟩

theorem over : Rows.timingMetricRow.holds Try.pinned (OpenSpec.ofChange Rows.timingMetricSpec) :=
  OpenClaim.holds_of_wide 7 Try.f7 rfl rfl rfl rfl rfl rfl rfl ⟨rfl, rfl, rfl, rfl, rfl⟩ rfl rfl rfl rfl rfl (by kernel_rfl) Try.func7 (by kernel_rfl)
    (of_decide_eq_true (by kernel_rfl)) (by unfold Func.isWrapper; first | (rw [if_pos (by decide +kernel)]; kernel_rfl) | (rw [if_neg (by decide +kernel)]; exact ⟨rfl, rfl⟩))
    (fun os started H enc _ => lifted os started H enc)

theorem proved : Rows.TimingMetricSaid := over
end Go.Proofs.Ytibnaangfdohiaa.lawMetric
