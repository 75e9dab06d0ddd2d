/- Make, Both, and Closed return what the reference does (the law ClockMakes holds for every input; no condition). -/
import Derived.Test.YtlobmblakilmiaaDoorLaid
import Derived.Test.YtlobmblakilmiaaDoorTie
import Derived.Test.YtlobmblakilmiaaDoorCards
import Derived.SevenTiedAt
import Derived.Test.YtlobmblakilmiaaDoorClkS
namespace Go.Proofs.YtlobmblakilmiaaDoor.lawMakes
set_option linter.unusedSimpArgs false
set_option linter.unusedVariables false
set_option linter.unnecessarySimpa false
set_option linter.unusedSectionVars false
open Go.ChangeShapes Go.WideShapes Go.ChangeAt Go.RowKit Go.Joins Go.Deep
section
variable [Glob]
set_option maxRecDepth 100000
set_option maxHeartbeats 8000000 in
theorem both (hg : ∃ m, Glob.row 0 = some [.int .i64 m]) (x0 : AV) (s0 : argS Tryd.prog 22 x0) (x1 : AV) (s1 : argS Tryd.prog 24 x1) (x2 : AV) (s2 : argS Tryd.prog 24 x2) :
    Pure Tryd.prog 8 [x0, x1, x2] (.bool true) := by
  obtain ⟨m, hg⟩ := hg
  obtain ⟨l, rfl, hl⟩ : ∃ l, x0 = .rs (rowsOf spC l) ∧ l.length ≤ 9223372036854775807 := by
    obtain ⟨rows, rfl, h1, h2⟩ := arg_slice Tryd.underlying22 s0
    obtain ⟨l, rfl, _⟩ := rows_dec (p := inS64) rows fun row hr => span_dec (n := 6) (h2 row hr)
    exact ⟨l, rfl, by rw [maxLen_eq] at h1; simpa [rowsOf] using h1⟩
  obtain ⟨a, rfl, ha, _⟩ := cal_dec s1
  obtain ⟨b, rfl, hb, _⟩ := cal_dec s2
  refine pure_of mixed Tryd.func8 rfl (by kernel_rfl) (of_decide_eq_true rfl) (by kernel_rfl) (vc_run ?_)
  by_cases hG : greatB l = true
  · ((try simp -implicitDefEqProofs [-loopQ_n, hG]) <;> (repeat' (first | (refine condD_dec ?_ ?_ <;> (intro hc; (try simp -implicitDefEqProofs [-loopQ_n, hc, hG]))) | (refine guardD_dec ?_ ?_ <;> (intro hc; (try simp -implicitDefEqProofs [-loopQ_n, hc, hG]))) | (refine condD_intro ?_ ?_ <;> (intro hd; have hc := hd; (try simp at hc) <;> (try simp -implicitDefEqProofs [-loopQ_n, hd, hc, hG]))) | (refine guardD_intro ?_ ?_ <;> (intro hd; have hc := hd; (try simp at hc) <;> (try simp -implicitDefEqProofs [-loopQ_n, hd, hc, hG]))) | (refine ldD_ep ?_ ?_; (focus kernel_rfl); (try simp -implicitDefEqProofs [-loopQ_n, hG])) | (refine callS_mk ?_; (try simp -implicitDefEqProofs [-loopQ_n, hG]); (first | refine callS_intro (awake_pure hg) (.inl rfl) ?_ | refine callS_intro (great_pure _) (.inl rfl) ?_); (try simp -implicitDefEqProofs [-loopQ_n, hG])))))
  have hG : greatB l = false := by simpa using hG
  have hl2 : l.length ≤ 1000000 := by
    simp only [greatB, Bool.or_eq_false_iff, Bool.and_eq_false_iff, decide_eq_false_iff_not] at hG
    omega
  obtain ⟨⟨c, e⟩, hm⟩ : ∃ r, makeRes l = r := ⟨_, rfl⟩
  obtain ⟨⟨d, g⟩, hbo⟩ : ∃ r, bothRes a b = r := ⟨_, rfl⟩
  obtain ⟨⟨n, i⟩, hcl⟩ : ∃ r, closRes a = r := ⟨_, rfl⟩
  have l1 := makeRes_len l
  have l2 := bothRes_len a b
  have l3 := closRes_len a
  have p1 := pmake l hl2
  have p2 := prmake l hl2
  have p3 := pboth a b
  have p4 := prboth a b
  have p5 := pclos a
  have p6 := prclos a
  rw [hm] at l1 p1 p2
  rw [hbo] at l2 p3 p4
  rw [hcl] at l3 p5 p6
  simp only at l1 l2 l3
  have q1 := rcsame_pure c c (by omega) (by omega) rfl
  have q2 := rcsame_pure d d (by omega) (by omega) rfl
  have q3 := rcsame_pure n n (by omega) (by omega) rfl
  ((try simp -implicitDefEqProofs [-loopQ_n, hG]) <;> (repeat' (first | (refine condD_dec ?_ ?_ <;> (intro hc; (try simp -implicitDefEqProofs [-loopQ_n, hc, hG]))) | (refine guardD_dec ?_ ?_ <;> (intro hc; (try simp -implicitDefEqProofs [-loopQ_n, hc, hG]))) | (refine condD_intro ?_ ?_ <;> (intro hd; have hc := hd; (try simp at hc) <;> (try simp -implicitDefEqProofs [-loopQ_n, hd, hc, hG]))) | (refine guardD_intro ?_ ?_ <;> (intro hd; have hc := hd; (try simp at hc) <;> (try simp -implicitDefEqProofs [-loopQ_n, hd, hc, hG]))) | (refine ldD_ep ?_ ?_; (focus kernel_rfl); (try simp -implicitDefEqProofs [-loopQ_n, hG])) | (refine callS_mk ?_; (try simp -implicitDefEqProofs [-loopQ_n, hG]); (first | refine callS_intro (awake_pure hg) (.inl rfl) ?_ | refine callS_intro (great_pure _) (.inl rfl) ?_ | refine callS_intro (p1) (.inr ⟨rfl, rfl⟩) ?_ | refine callS_intro (p2) (.inr ⟨rfl, rfl⟩) ?_ | refine callS_intro (p3) (.inr ⟨rfl, rfl⟩) ?_ | refine callS_intro (p4) (.inr ⟨rfl, rfl⟩) ?_ | refine callS_intro (p5) (.inr ⟨rfl, rfl⟩) ?_ | refine callS_intro (p6) (.inr ⟨rfl, rfl⟩) ?_ | refine callS_intro (q1) (.inl rfl) ?_ | refine callS_intro (q2) (.inl rfl) ?_ | refine callS_intro (q3) (.inl rfl) ?_); (try simp -implicitDefEqProofs [-loopQ_n, hG])))))
theorem walk (W : World) (hvo : VarsOk W (fun _ => False)) (hg : ∃ m, Glob.row 0 = some [.int .i64 m]) (v0 : Value) (x0 : AV) (r0 : RO W (fun _ => False) x0 v0) (s0 : argS Tryd.prog 22 x0) (v1 : Value) (x1 : AV) (r1 : RO W (fun _ => False) x1 v1) (s1 : argS Tryd.prog 24 x1) (v2 : Value) (x2 : AV) (r2 : RO W (fun _ => False) x2 v2) (s2 : argS Tryd.prog 24 x2) :
    Calls Tryd.prog 8 #[v0, v1, v2] W fun e w' => e = .returned (.bool true) ∧ Below W.heap.size W w' := by
  refine ((both hg x0 s0 x1 s1 x2 s2).2 W (fun _ => False) _ (fun _ h => h.elim) hvo rfl ?_).mono ?_
  · intro j x v hj hv
    match j with
    | 0 => simp at hj hv; subst hj hv; exact r0
    | 1 => simp at hj hv; subst hj hv; exact r1
    | 2 => simp at hj hv; subst hj hv; exact r2
    | j + 3 => simp at hj
  · rintro e w' ⟨v, rfl, hv, hb⟩
    rw [ro_tt hv]
    exact ⟨rfl, hb⟩
end
theorem witness_row (os : Os) {H : Type} (enc : TypeId × Value → H) :
    (OpenSpec.ofChange Rows.clockMakesSpec).preRow enc Tryd.prog Tryd.f8 Rows.clockMakesRow.domain false Rows.clockMakesRow.laid ((laidWorld os).forCall (fun _ _ => 0) ⟨#[], #[.slice none 0 0, .agg #[.slice none 0 0], .agg #[.slice none 0 0]], []⟩).memory #[.slice none 0 0, .agg #[.slice none 0 0], .agg #[.slice none 0 0]] := by
  have hw : (DataW.whole enc Tryd.prog ((laidWorld os).forCall (fun _ _ => 0) ⟨#[], #[.slice none 0 0, .agg #[.slice none 0 0], .agg #[.slice none 0 0]], []⟩).memory Tryd.f8.params.toList (OpenSpec.ofChange Rows.clockMakesSpec).vars false #[.slice none 0 0, .agg #[.slice none 0 0], .agg #[.slice none 0 0]].toList 8).map (fun x => (x.1, x.2.1)) = some ([.nil, .agg [.nil], .agg [.nil]], []) := by kernel_rfl
  obtain ⟨⟨x1, x2, x3⟩, hx, hx1⟩ := Option.map_eq_some_iff.1 hw
  simp only [Prod.mk.injEq] at hx1
  obtain ⟨rfl, rfl⟩ := hx1
  exact OpenSpec.preRow_of_cond 8 hx (by kernel_rfl) (fun k hk => by cases hk) (by kernel_rfl) (laid_met os _)
set_option maxRecDepth 100000 in
theorem lifted (os : Os) (started : os.Started) (H : Type) (enc : TypeId × Value → H) (F : Stop.Interp) :
    ReturnsInHanded {} Tryd.checked os 8 .any ((OpenSpec.ofChange Rows.clockMakesSpec).preRow enc Tryd.prog Tryd.f8 Rows.clockMakesRow.domain false Rows.clockMakesRow.laid) (((OpenSpec.ofChange Rows.clockMakesSpec).at F).post enc Tryd.prog Tryd.f8 false true false false) := by
  refine returnsInHanded_of_row (C := Tryd.checked) (s := OpenSpec.ofChange Rows.clockMakesSpec) (@ownK ⟨fun _ => none⟩) started (by kernel_rfl) Tryd.func8
    (witness_row_atRef (enc := enc) (C := Tryd.checked) false (laidWorld os) #[.slice none 0 0, .agg #[.slice none 0 0], .agg #[.slice none 0 0]] rfl (by kernel_rfl) (by kernel_rfl) (by kernel_rfl) (witness_row os enc)) ?_
  intro W base args ds gs before hval0 hW _ _ _ hL hsh _
  have hval : ∀ (j : Nat) t v, Tryd.f8.params[j]? = some t → args[j]? = some v → Value.okWide Tryd.prog W .any base t v := hval0
  have hW' := hW
  obtain ⟨p, q, hA0, hV, rfl, hfz, hnd⟩ := hW
  have hA : DataW.TrodAll enc Tryd.prog W 0 (fun _ => true) true Tryd.f8.params.toList args.toList ds p := hA0
  rw [Tryd.params8] at hA hval
  obtain ⟨v0, vs0, d0, ds0, p0, q0, hargs, rfl, rfl, h0, r0⟩ := trodAll_cons hA
  obtain ⟨v1, vs1, d1, ds1, p1, q1, rfl, rfl, rfl, h1, r1⟩ := trodAll_cons r0
  obtain ⟨v2, vs2, d2, ds2, p2, q2, rfl, rfl, rfl, h2, r2⟩ := trodAll_cons r1
  obtain ⟨rfl, rfl, rfl⟩ := trodAll_nil r2
  obtain rfl : args = #[v0, v1, v2] := by cases args; simp_all
  obtain ⟨rfl, rfl⟩ := trodVars_none hV
  obtain ⟨M, hM⟩ := @maxLen_some ⟨fun _ => none⟩ W hsh
  letI : Glob := ⟨fun g => if g = 0 then some [.int .i64 M] else none⟩
  have hvo : VarsOk W (fun _ => False) := fun g row h => by
    have h : (if g = 0 then some [AV.int .i64 M] else none) = some row := h
    by_cases e : g = 0
    · subst e
      simp only [if_true, Option.some.injEq] at h
      subst h
      refine .rp (fun _ => .int .i64 M) (World.block_lt_of_cell? W _ hM) (fun h => h) (fun j x hj => ?_) fun j x hj => ?_
      · have hj0 : j = 0 := by cases j with | zero => rfl | succ j => simp at hj
        subst hj0
        exact ⟨hM, rfl⟩
      · cases j with
        | zero => simp at hj; subst hj; exact .int
        | succ j => simp at hj
    · simp [e] at h
  have k0 := h0
  have lt0 : ∀ x ∈ p0, x.block < W.heap.size := by obtain ⟨m, hm⟩ := k0; exact DataW.trod_lt m _ _ _ hm
  obtain ⟨x0, y0, s0⟩ := arg_open (P := Tryd.prog) (t := 22) (by kernel_rfl) (by kernel_rfl) (hval 0 22 v0 rfl rfl) h0
  have k1 := h1
  have lt1 : ∀ x ∈ p1, x.block < W.heap.size := by obtain ⟨m, hm⟩ := k1; exact DataW.trod_lt m _ _ _ hm
  obtain ⟨x1, y1, s1⟩ := arg_open (P := Tryd.prog) (t := 24) (by kernel_rfl) (by kernel_rfl) (hval 1 24 v1 rfl rfl) h1
  have k2 := h2
  have lt2 : ∀ x ∈ p2, x.block < W.heap.size := by obtain ⟨m, hm⟩ := k2; exact DataW.trod_lt m _ _ _ hm
  obtain ⟨x2, y2, s2⟩ := arg_open (P := Tryd.prog) (t := 24) (by kernel_rfl) (by kernel_rfl) (hval 2 24 v2 rfl rfl) h2
  clear hA0 hval0
  refine (walk W hvo ⟨M, rfl⟩ v0 x0 y0 s0 v1 x1 y1 s1 v2 x2 y2 s2).mono fun e W' ⟨he, bel⟩ => ?_
  subst he
  exact ⟨_, rfl, _, _, _, [], _, [], hW', trodAll_mk1 (shut_bool Tryd.underlying4 _), (trodAll_cons_mk (Below.trod laidK (by kernel_rfl) (of_decide_eq_true (by kernel_rfl)) k0 bel lt0) (trodAll_cons_mk (Below.trod laidK (by kernel_rfl) (of_decide_eq_true (by kernel_rfl)) k1 bel lt1) (trodAll_cons_mk (Below.trod laidK (by kernel_rfl) (of_decide_eq_true (by kernel_rfl)) k2 bel lt2) trodAll_mk0))), rfl, bel.frame _, fun h => by cases h⟩

theorem over : Rows.clockMakesRow.holds Tryd.pinned (OpenSpec.ofChange Rows.clockMakesSpec) :=
  OpenClaim.holds_of_cond 8 Tryd.f8 rfl rfl rfl rfl rfl rfl rfl ⟨rfl, rfl, rfl, rfl, rfl⟩ rfl rfl rfl rfl rfl (by kernel_rfl) Tryd.func8 (by kernel_rfl)
    (of_decide_eq_true (by kernel_rfl)) (by unfold Func.isWrapper; first | (rw [if_pos (by decide +kernel)]; kernel_rfl) | (rw [if_neg (by decide +kernel)]; exact ⟨rfl, rfl⟩))
    (fun os started H enc _ F0 => by rw [OpenClaim.pre_eq_preRow]; exact lifted os started H enc F0)

theorem proved : Rows.ClockMakesCardSaid :=
  Claim7.holds_tied_plain_at .later [] [.data, .data, .data] true (true, "1880f898bbaf09c6edac37723e6cc967d8125325b76a979ef0306a28409b5d6d") false over (fun _ h => by cases h) (by kernel_rfl) (fun _ h => by cases h) clockMakes_row_tie rfl ⟨rfl, rfl⟩ (by kernel_rfl) rfl
    (fun f fn hf hfn => by
      obtain rfl : f = 8 := Option.some.inj ((show Tryd.prog.funcNamed "casebook/casebooklaw03.ClockMakes" = some 8 by kernel_rfl).symm.trans hf) |>.symm
      obtain rfl : fn = Tryd.f8 := (Option.some.inj (Tryd.func8.symm.trans hfn)).symm
      exact ⟨by kernel_rfl, fun j t ht => by
        rw [Tryd.params8] at ht
        match j with
        | 0 => simp at ht; subst ht; exact (show Tryd.prog.wantsStandIn 22 = false by kernel_rfl)
        | 1 => simp at ht; subst ht; exact (show Tryd.prog.wantsStandIn 24 = false by kernel_rfl)
        | 2 => simp at ht; subst ht; exact (show Tryd.prog.wantsStandIn 24 = false by kernel_rfl)
        | j + 3 => simp at ht⟩)
    (by kernel_rfl)
end Go.Proofs.YtlobmblakilmiaaDoor.lawMakes
