/- With more servers nobody starts later, and the rest of what TopServed says (the law holds for every input; no condition). -/
import Derived.Test.YthiclaihlpkinaaGreatRows
import Derived.Test.YthiclaihlpkinaaGreatSvL
import Derived.Test.YthiclaihlpkinaaGreatSvZ
set_option linter.unusedSimpArgs false
set_option linter.unusedVariables false
set_option linter.unnecessarySimpa false
set_option linter.unusedSectionVars false
set_option maxRecDepth 100000
namespace Go.Proofs.YthiclaihlpkinaaGreat.lawServed
open Go.ChangeShapes Go.WideShapes Go.ChangeAt Go.RowKit Go.Joins Go.Deep
section
variable [Glob]
theorem dc_hist : Tryz.prog.cellsOf 24 = 2 := by kernel_rfl
theorem dc_ints : Tryz.prog.cellsOf 22 = 1 := by kernel_rfl
theorem ints_dec {l : List AV} {n : Nat} (h : shp Tryz.prog (n + 2) 22 l) : ∃ e : List Int, l = [.rs (rowsOf intC e)] ∧ e.length ≤ 9223372036854775807 := by
  obtain ⟨rows, rfl, hlen, hrows⟩ := shp_slice Tryz.underlying22 h
  obtain ⟨e, rfl, _⟩ := rows_dec (f := intC) (p := fun _ => True) rows fun row hr => by
    obtain ⟨x, h1, _⟩ := shp_int Tryz.underlying3 (hrows row hr)
    exact ⟨x, h1, trivial⟩
  exact ⟨e, rfl, by rw [maxLen_eq] at hlen; simpa [rowsOf] using hlen⟩
theorem hist_dec {x : AV} (h : argS Tryz.prog 24 x) : ∃ e c : List Int, x = .agg [.rs (rowsOf intC e), .rs (rowsOf intC c)] ∧ e.length ≤ 9223372036854775807 ∧ c.length ≤ 9223372036854775807 := by
  obtain ⟨l, rfl, hl, hf⟩ := arg_struct Tryz.underlying24 h
  rw [dc_hist] at hl
  match l, hl with
  | [a, b], _ =>
    simp only [List.mem_cons, List.not_mem_nil, or_false, forall_eq_or_imp, forall_eq, dc_ints] at hf
    obtain ⟨e, h1, he⟩ := ints_dec (n := 6) hf.1
    obtain ⟨c, h2, hc⟩ := ints_dec (n := 6) hf.2
    simp at h1 h2
    exact ⟨e, c, by rw [h1, h2], he, hc⟩
theorem int_dec {x : AV} (h : argS Tryz.prog 3 x) : ∃ n : Int, x = .int .i64 n ∧ inI n := by
  obtain ⟨i, rfl, hw⟩ := arg_int Tryz.underlying3 h
  exact ⟨i, rfl, inI_wf hw⟩
theorem both (x0 : AV) (s0 : argS Tryz.prog 24 x0) (x1 : AV) (s1 : argS Tryz.prog 24 x1) (x2 : AV) (s2 : argS Tryz.prog 3 x2) (x3 : AV) (s3 : argS Tryz.prog 3 x3) (x4 : AV) (s4 : argS Tryz.prog 3 x4) : Pure Tryz.prog 3 [x0, x1, x2, x3, x4] (.bool true) := by
  obtain ⟨e, c, rfl, he, hc⟩ := hist_dec s0
  obtain ⟨e2, c2, rfl, he2, hc2⟩ := hist_dec s1
  obtain ⟨seed, rfl, _⟩ := int_dec s2
  obtain ⟨n, rfl, _⟩ := int_dec s3
  obtain ⟨m, rfl, hm⟩ := int_dec s4
  exact served_main load_awake e c e2 c2 seed n m he hc he2 hc2 hm
theorem walk (W : World) (hvo : VarsOk W (fun _ => False)) (v0 : Value) (x0 : AV) (r0 : RO W (fun _ => False) x0 v0) (s0 : argS Tryz.prog 24 x0) (v1 : Value) (x1 : AV) (r1 : RO W (fun _ => False) x1 v1) (s1 : argS Tryz.prog 24 x1) (v2 : Value) (x2 : AV) (r2 : RO W (fun _ => False) x2 v2) (s2 : argS Tryz.prog 3 x2) (v3 : Value) (x3 : AV) (r3 : RO W (fun _ => False) x3 v3) (s3 : argS Tryz.prog 3 x3) (v4 : Value) (x4 : AV) (r4 : RO W (fun _ => False) x4 v4) (s4 : argS Tryz.prog 3 x4) :
    Calls Tryz.prog 3 #[v0, v1, v2, v3, v4] W fun e w' => e = .returned (.bool true) ∧ Below W.heap.size W w' := by
  refine ((both x0 s0 x1 s1 x2 s2 x3 s3 x4 s4).2 W (fun _ => False) _ (fun _ h => h.elim) hvo rfl ?_).mono ?_
  · intro j x v hj hv
    match j with
    | 0 => simp at hj hv; subst hj hv; exact r0
    | 1 => simp at hj hv; subst hj hv; exact r1
    | 2 => simp at hj hv; subst hj hv; exact r2
    | 3 => simp at hj hv; subst hj hv; exact r3
    | 4 => simp at hj hv; subst hj hv; exact r4
    | j + 5 => simp at hj
  · rintro e w' ⟨v, rfl, hv, hb⟩
    rw [ro_tt hv]
    exact ⟨rfl, hb⟩
end
set_option maxRecDepth 100000 in
theorem lifted (os : Os) (started : os.Started) (H : Type) (enc : TypeId × Value → H) :
    ReturnsInHanded {} Tryz.checked os 3 .any (Rows.topServedSpec.pre6 enc Tryz.prog Tryz.f3 Rows.topServedRow.domain false) (Rows.topServedSpec.post enc Tryz.prog Tryz.f3 false true false false) := by
  refine returnsInHanded_of_change (C := Tryz.checked) (@ownK { row := fun _ => none }) started (by kernel_rfl) Tryz.func3
    (ChangeSpec.witness6 (enc := enc) (C := Tryz.checked) false ⟨#[], #[.agg #[.slice none 0 0, .slice none 0 0], .agg #[.slice none 0 0, .slice none 0 0], .int .i64 0, .int .i64 0, .int .i64 0], []⟩ 8 (by kernel_rfl) (by kernel_rfl) (by kernel_rfl) (by kernel_rfl)) ?_
  intro W base args ds gs before hval0 hW hcnd _
  have hval : ∀ (j : Nat) t v, Tryz.f3.params[j]? = some t → args[j]? = some v → Value.okWide Tryz.prog W .any base t v := hval0
  have hW' := hW
  obtain ⟨p, q, hA0, hV, rfl, hfz, hnd⟩ := hW
  have hA : DataW.TrodAll enc Tryz.prog W 0 (fun _ => true) true Tryz.f3.params.toList args.toList ds p := hA0
  rw [Tryz.params3] at hA hval
  obtain ⟨v0, vs0, d0, ds0, p0, q0, hargs, rfl, rfl, h0, r0⟩ := trodAll_cons hA
  obtain ⟨v1, vs1, d1, ds1, p1, q1, rfl, rfl, rfl, h1, r1⟩ := trodAll_cons r0
  obtain ⟨v2, vs2, d2, ds2, p2, q2, rfl, rfl, rfl, h2, r2⟩ := trodAll_cons r1
  obtain ⟨v3, vs3, d3, ds3, p3, q3, rfl, rfl, rfl, h3, r3⟩ := trodAll_cons r2
  obtain ⟨v4, vs4, d4, ds4, p4, q4, rfl, rfl, rfl, h4, r4⟩ := trodAll_cons r3
  obtain ⟨rfl, rfl, rfl⟩ := trodAll_nil r4
  obtain rfl : args = #[v0, v1, v2, v3, v4] := by cases args; simp_all
  obtain ⟨rfl, rfl⟩ := trodVars_none hV
  letI : Glob := { row := fun _ => none }
  have k0 := h0
  have lt0 : ∀ x ∈ p0, x.block < W.heap.size := by obtain ⟨m, hm⟩ := k0; exact DataW.trod_lt m _ _ _ hm
  obtain ⟨x0, y0, s0⟩ := arg_open (P := Tryz.prog) (t := 24) (by kernel_rfl) (by kernel_rfl) (hval 0 24 v0 rfl rfl) h0
  have k1 := h1
  have lt1 : ∀ x ∈ p1, x.block < W.heap.size := by obtain ⟨m, hm⟩ := k1; exact DataW.trod_lt m _ _ _ hm
  obtain ⟨x1, y1, s1⟩ := arg_open (P := Tryz.prog) (t := 24) (by kernel_rfl) (by kernel_rfl) (hval 1 24 v1 rfl rfl) h1
  have k2 := h2
  have lt2 : ∀ x ∈ p2, x.block < W.heap.size := by obtain ⟨m, hm⟩ := k2; exact DataW.trod_lt m _ _ _ hm
  obtain ⟨x2, y2, s2⟩ := arg_open (P := Tryz.prog) (t := 3) (by kernel_rfl) (by kernel_rfl) (hval 2 3 v2 rfl rfl) h2
  have k3 := h3
  have lt3 : ∀ x ∈ p3, x.block < W.heap.size := by obtain ⟨m, hm⟩ := k3; exact DataW.trod_lt m _ _ _ hm
  obtain ⟨x3, y3, s3⟩ := arg_open (P := Tryz.prog) (t := 3) (by kernel_rfl) (by kernel_rfl) (hval 3 3 v3 rfl rfl) h3
  have k4 := h4
  have lt4 : ∀ x ∈ p4, x.block < W.heap.size := by obtain ⟨m, hm⟩ := k4; exact DataW.trod_lt m _ _ _ hm
  obtain ⟨x4, y4, s4⟩ := arg_open (P := Tryz.prog) (t := 3) (by kernel_rfl) (by kernel_rfl) (hval 4 3 v4 rfl rfl) h4
  clear hA0 hval0
  refine (walk W ⟨fun g row h => (by cases h), fun g cs h => (by cases h)⟩ v0 x0 y0 s0 v1 x1 y1 s1 v2 x2 y2 s2 v3 x3 y3 s3 v4 x4 y4 s4).mono fun e W' ⟨he, bel⟩ => ?_
  subst he
  exact ⟨_, rfl, _, _, _, [], _, [], hW', trodAll_mk1 (shut_bool Tryz.underlying4 _), (trodAll_cons_mk (Below.trod laidK (by kernel_rfl) (of_decide_eq_true (by kernel_rfl)) k0 bel lt0) (trodAll_cons_mk (Below.trod laidK (by kernel_rfl) (of_decide_eq_true (by kernel_rfl)) k1 bel lt1) (trodAll_cons_mk (Below.trod laidK (by kernel_rfl) (of_decide_eq_true (by kernel_rfl)) k2 bel lt2) (trodAll_cons_mk (Below.trod laidK (by kernel_rfl) (of_decide_eq_true (by kernel_rfl)) k3 bel lt3) (trodAll_cons_mk (Below.trod laidK (by kernel_rfl) (of_decide_eq_true (by kernel_rfl)) k4 bel lt4) trodAll_mk0))))), rfl, bel.frame _, fun h => by cases h⟩
theorem over : Rows.topServedRow.holds Tryz.pinned (OpenSpec.ofChange Rows.topServedSpec) :=
  OpenClaim.holds_of_wide 3 Tryz.f3 rfl rfl rfl rfl rfl rfl rfl ⟨rfl, rfl, rfl, rfl, rfl⟩ rfl rfl rfl rfl rfl (by kernel_rfl) Tryz.func3 (by kernel_rfl)
    (of_decide_eq_true (by kernel_rfl)) (by unfold Func.isWrapper; first | (rw [if_pos (by decide +kernel)]; kernel_rfl) | (rw [if_neg (by decide +kernel)]; exact ⟨rfl, rfl⟩))
    (fun os started H enc _ => lifted os started H enc)
theorem proved : Rows.TopServedSaid := over
end Go.Proofs.YthiclaihlpkinaaGreat.lawServed
