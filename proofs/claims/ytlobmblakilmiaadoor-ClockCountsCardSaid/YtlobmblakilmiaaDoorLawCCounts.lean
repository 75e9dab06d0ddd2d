/- Working time is the number of open minutes (the law ClockCounts holds for every input; no condition). -/
import Derived.Test.YtlobmblakilmiaaDoorLaid
import Derived.Test.YtlobmblakilmiaaDoorTie
import Derived.Test.YtlobmblakilmiaaDoorCards
import Derived.SevenTiedAt
import Derived.Test.YtlobmblakilmiaaDoorClk5
namespace Go.Proofs.YtlobmblakilmiaaDoor.lawCounts
set_option linter.unusedSimpArgs false
set_option linter.unusedVariables false
set_option linter.unnecessarySimpa false
set_option linter.unusedSectionVars false
open Go.ChangeShapes Go.WideShapes Go.ChangeAt Go.RowKit Go.Joins Go.Deep
section
variable [Glob]
set_option maxRecDepth 100000
set_option maxHeartbeats 8000000 in
theorem both (hg : ∃ m, Glob.row 0 = some [.int .i64 m]) (x0 : AV) (s0 : argS Tryd.prog 24 x0) (x1 : AV) (s1 : argS Tryd.prog 26 x1) (x2 : AV) (s2 : argS Tryd.prog 3 x2) :
    Pure Tryd.prog 6 [x0, x1, x2] (.bool true) := by
  obtain ⟨m, hg⟩ := hg
  obtain ⟨l, rfl, hl, hd⟩ := cal_dec s0
  obtain ⟨f, t, rfl, hf, ht⟩ := sp_dec s1
  obtain ⟨n, rfl, hn⟩ := arg_int Tryd.underlying3 s2
  refine pure_of mixed Tryd.func6 rfl (by kernel_rfl) (of_decide_eq_true rfl) (by kernel_rfl) (vc_run ?_)
  ((try simp -implicitDefEqProofs [-loopQ_n]) <;> (repeat' (first | (simp (disch := omega) only [wrap_in, if_pos, if_neg] <;> (try simp -implicitDefEqProofs [-loopQ_n])) | (refine condD_dec ?_ ?_ <;> (intro hc; (try simp -implicitDefEqProofs [-loopQ_n, hc]))) | (refine guardD_dec ?_ ?_ <;> (intro hc; (try simp -implicitDefEqProofs [-loopQ_n, hc]))) | (refine condD_intro ?_ ?_ <;> (intro hd; have hc := hd; (try simp at hc) <;> (try simp -implicitDefEqProofs [-loopQ_n, hd, hc]))) | (refine guardD_intro ?_ ?_ <;> (intro hd; have hc := hd; (try simp at hc) <;> (try simp -implicitDefEqProofs [-loopQ_n, hd, hc]))) | (refine callS_mk ?_; (try simp -implicitDefEqProofs [-loopQ_n]); (first | refine callS_intro (awake_pure hg) (.inl rfl) ?_ | refine callS_intro (great_pure _) (.inl rfl) ?_ | refine callS_intro (valid_pure _) (.inl rfl) ?_ | refine callS_intro (validSpan_pure _ _) (.inl rfl) ?_); (try simp -implicitDefEqProofs [-loopQ_n])))))
  have hv := ‹calOk l = true›
  have hsv := ‹spV ⟨f, t⟩ = true›
  have hsv2 := spV_iff.1 hsv
  simp only at hsv2
  obtain ⟨hln, hcal⟩ := calOk_v hv
  have ho : workOut l ⟨f, t⟩ = (untL l t - untL l f, 0) := by rw [workOut, if_pos ⟨hv, hsv⟩]
  refine loop_intro (σ := Int × Int) (fun x => ⟨[(2, .int .i64 n), (3, .op 0 0), (4, .op 1 0), (7, .int .i64 x.1), (8, .int .i64 x.2)], [.box 24 [.rs (rowsOf spC l)], .box 26 [.int .i64 f, .int .i64 t]]⟩)
    (fun x => f ≤ x.2 ∧ x.2 ≤ t ∧ x.1 = untL l x.2 - untL l f) (fun x => (t - x.2).toNat) (0, f) ⟨by simp, by simp only; omega, by simp⟩ ?_ ?_
  · refine weak_of 2 0 rfl rfl ?_ ?_ <;> simp
  · rintro ⟨c, u⟩ ⟨h1, h2, h3⟩
    simp only at h1 h2 h3
    by_cases h : u < t
    · have hou : openOut l u = (openW (u % 10080) l, 0) := by rw [openOut, if_pos hv, if_pos (inst_iff.2 ⟨by omega, by omega⟩)]
      have hst := untL_step hcal (t := u) (by omega)
      have hb1 := untL_mono hcal (t := f) (u := u) (by omega) h1
      have w2 : wrapI .i64 (u + 1) = u + 1 := wrap_in (by omega) (by omega)
      cases how : openW (u % 10080) l with
      | false =>
        rw [if_neg (by rw [how]; simp)] at hst
        ((try simp -implicitDefEqProofs [-loopQ_n, h, hou, how, w2]) <;> (repeat' (first | (refine condD_dec ?_ ?_ <;> (intro hc; (try simp -implicitDefEqProofs [-loopQ_n, hc, h, hou, how, w2]))) | (refine guardD_dec ?_ ?_ <;> (intro hc; (try simp -implicitDefEqProofs [-loopQ_n, hc, h, hou, how, w2]))) | (refine condD_intro ?_ ?_ <;> (intro hd; have hc := hd; (try simp at hc) <;> (try simp -implicitDefEqProofs [-loopQ_n, hd, hc, h, hou, how, w2]))) | (refine guardD_intro ?_ ?_ <;> (intro hd; have hc := hd; (try simp at hc) <;> (try simp -implicitDefEqProofs [-loopQ_n, hd, hc, h, hou, how, w2]))) | (refine callS_mk ?_; (try simp -implicitDefEqProofs [-loopQ_n, h, hou, how, w2]); (first | refine callS_intro (open_pure _ _) (.inl rfl) ?_); (try simp -implicitDefEqProofs [-loopQ_n, h, hou, how, w2])))))
        refine loop_next (c, u + 1) ⟨by simp only; omega, by simp only; omega, by simp only; omega⟩ (by simp only; omega) (weak_of 2 0 rfl rfl ?_ ?_) <;> simp
      | true =>
        rw [if_pos how] at hst
        have w1 : wrapI .i64 (c + 1) = c + 1 := wrap_in (by omega) (by omega)
        by_cases hcn : c + 1 = n
        · have haf := aftOut_at hv (a := f) (t := u) (n := n) (by omega) h1 (by omega) (by omega) how (by omega)
          have w1' : wrapI .i64 n = n := by rw [hcn] at w1; exact w1
          ((try simp -implicitDefEqProofs [-loopQ_n, h, hou, how, w1', w2, hcn, haf]) <;> (repeat' (first | (refine condD_dec ?_ ?_ <;> (intro hc; (try simp -implicitDefEqProofs [-loopQ_n, hc, h, hou, how, w1', w2, hcn, haf]))) | (refine guardD_dec ?_ ?_ <;> (intro hc; (try simp -implicitDefEqProofs [-loopQ_n, hc, h, hou, how, w1', w2, hcn, haf]))) | (refine condD_intro ?_ ?_ <;> (intro hd; have hc := hd; (try simp at hc) <;> (try simp -implicitDefEqProofs [-loopQ_n, hd, hc, h, hou, how, w1', w2, hcn, haf]))) | (refine guardD_intro ?_ ?_ <;> (intro hd; have hc := hd; (try simp at hc) <;> (try simp -implicitDefEqProofs [-loopQ_n, hd, hc, h, hou, how, w1', w2, hcn, haf]))) | (refine callS_mk ?_; (try simp -implicitDefEqProofs [-loopQ_n, h, hou, how, w1', w2, hcn, haf]); (first | refine callS_intro (open_pure _ _) (.inl rfl) ?_ | refine callS_intro (after_pure _ _ _) (.inl rfl) ?_); (try simp -implicitDefEqProofs [-loopQ_n, h, hou, how, w1', w2, hcn, haf])))))
          refine loop_next (n, u + 1) ⟨by simp only; omega, by simp only; omega, by simp only; omega⟩ (by simp only; omega) (weak_of 2 0 rfl rfl ?_ ?_) <;> simp
        · ((try simp -implicitDefEqProofs [-loopQ_n, h, hou, how, w1, w2, hcn]) <;> (repeat' (first | (refine condD_dec ?_ ?_ <;> (intro hc; (try simp -implicitDefEqProofs [-loopQ_n, hc, h, hou, how, w1, w2, hcn]))) | (refine guardD_dec ?_ ?_ <;> (intro hc; (try simp -implicitDefEqProofs [-loopQ_n, hc, h, hou, how, w1, w2, hcn]))) | (refine condD_intro ?_ ?_ <;> (intro hd; have hc := hd; (try simp at hc) <;> (try simp -implicitDefEqProofs [-loopQ_n, hd, hc, h, hou, how, w1, w2, hcn]))) | (refine guardD_intro ?_ ?_ <;> (intro hd; have hc := hd; (try simp at hc) <;> (try simp -implicitDefEqProofs [-loopQ_n, hd, hc, h, hou, how, w1, w2, hcn]))) | (refine callS_mk ?_; (try simp -implicitDefEqProofs [-loopQ_n, h, hou, how, w1, w2, hcn]); (first | refine callS_intro (open_pure _ _) (.inl rfl) ?_); (try simp -implicitDefEqProofs [-loopQ_n, h, hou, how, w1, w2, hcn])))))
          refine loop_next (c + 1, u + 1) ⟨by simp only; omega, by simp only; omega, by simp only; omega⟩ (by simp only; omega) (weak_of 2 0 rfl rfl ?_ ?_) <;> simp
    · have hut : u = t := by omega
      subst hut
      ((try simp -implicitDefEqProofs [-loopQ_n, h, ho, h3]) <;> (repeat' (first | (refine condD_dec ?_ ?_ <;> (intro hc; (try simp -implicitDefEqProofs [-loopQ_n, hc, h, ho, h3]))) | (refine guardD_dec ?_ ?_ <;> (intro hc; (try simp -implicitDefEqProofs [-loopQ_n, hc, h, ho, h3]))) | (refine condD_intro ?_ ?_ <;> (intro hd; have hc := hd; (try simp at hc) <;> (try simp -implicitDefEqProofs [-loopQ_n, hd, hc, h, ho, h3]))) | (refine guardD_intro ?_ ?_ <;> (intro hd; have hc := hd; (try simp at hc) <;> (try simp -implicitDefEqProofs [-loopQ_n, hd, hc, h, ho, h3]))) | (refine callS_mk ?_; (try simp -implicitDefEqProofs [-loopQ_n, h, ho, h3]); (first | refine callS_intro (working_pure _ _ _) (.inl rfl) ?_); (try simp -implicitDefEqProofs [-loopQ_n, h, ho, h3])))))
theorem walk (W : World) (hvo : VarsOk W (fun _ => False)) (hg : ∃ m, Glob.row 0 = some [.int .i64 m]) (v0 : Value) (x0 : AV) (r0 : RO W (fun _ => False) x0 v0) (s0 : argS Tryd.prog 24 x0) (v1 : Value) (x1 : AV) (r1 : RO W (fun _ => False) x1 v1) (s1 : argS Tryd.prog 26 x1) (v2 : Value) (x2 : AV) (r2 : RO W (fun _ => False) x2 v2) (s2 : argS Tryd.prog 3 x2) :
    Calls Tryd.prog 6 #[v0, v1, v2] W fun e w' => e = .returned (.bool true) ∧ Below W.heap.size W w' := by
  refine ((both hg x0 s0 x1 s1 x2 s2).2 W (fun _ => False) _ (fun _ h => h.elim) hvo rfl ?_).mono ?_
  · intro j x v hj hv
    match j with
    | 0 => simp at hj hv; subst hj hv; exact r0
    | 1 => simp at hj hv; subst hj hv; exact r1
    | 2 => simp at hj hv; subst hj hv; exact r2
    | j + 3 => simp at hj
  · rintro e w' ⟨v, rfl, hv, hb⟩
    rw [ro_tt hv]
    exact ⟨rfl, hb⟩
end
theorem witness_row (os : Os) {H : Type} (enc : TypeId × Value → H) :
    (OpenSpec.ofChange Rows.clockCountsSpec).preRow enc Tryd.prog Tryd.f6 Rows.clockCountsRow.domain false Rows.clockCountsRow.laid ((laidWorld os).forCall (fun _ _ => 0) ⟨#[], #[.agg #[.slice none 0 0], .agg #[.int .i64 0, .int .i64 0], .int .i64 0], []⟩).memory #[.agg #[.slice none 0 0], .agg #[.int .i64 0, .int .i64 0], .int .i64 0] := by
  have hw : (DataW.whole enc Tryd.prog ((laidWorld os).forCall (fun _ _ => 0) ⟨#[], #[.agg #[.slice none 0 0], .agg #[.int .i64 0, .int .i64 0], .int .i64 0], []⟩).memory Tryd.f6.params.toList (OpenSpec.ofChange Rows.clockCountsSpec).vars false #[.agg #[.slice none 0 0], .agg #[.int .i64 0, .int .i64 0], .int .i64 0].toList 8).map (fun x => (x.1, x.2.1)) = some ([.agg [.nil], .agg [.lit (.int .i64 0), .lit (.int .i64 0)], .lit (.int .i64 0)], []) := by kernel_rfl
  obtain ⟨⟨x1, x2, x3⟩, hx, hx1⟩ := Option.map_eq_some_iff.1 hw
  simp only [Prod.mk.injEq] at hx1
  obtain ⟨rfl, rfl⟩ := hx1
  exact OpenSpec.preRow_of_cond 8 hx (by kernel_rfl) (fun k hk => by cases hk) (by kernel_rfl) (laid_met os _)
set_option maxRecDepth 100000 in
theorem lifted (os : Os) (started : os.Started) (H : Type) (enc : TypeId × Value → H) (F : Stop.Interp) :
    ReturnsInHanded {} Tryd.checked os 6 .any ((OpenSpec.ofChange Rows.clockCountsSpec).preRow enc Tryd.prog Tryd.f6 Rows.clockCountsRow.domain false Rows.clockCountsRow.laid) (((OpenSpec.ofChange Rows.clockCountsSpec).at F).post enc Tryd.prog Tryd.f6 false true false false) := by
  refine returnsInHanded_of_row (C := Tryd.checked) (s := OpenSpec.ofChange Rows.clockCountsSpec) (@ownK ⟨fun _ => none⟩) started (by kernel_rfl) Tryd.func6
    (witness_row_atRef (enc := enc) (C := Tryd.checked) false (laidWorld os) #[.agg #[.slice none 0 0], .agg #[.int .i64 0, .int .i64 0], .int .i64 0] rfl (by kernel_rfl) (by kernel_rfl) (by kernel_rfl) (witness_row os enc)) ?_
  intro W base args ds gs before hval0 hW _ _ _ hL hsh _
  have hval : ∀ (j : Nat) t v, Tryd.f6.params[j]? = some t → args[j]? = some v → Value.okWide Tryd.prog W .any base t v := hval0
  have hW' := hW
  obtain ⟨p, q, hA0, hV, rfl, hfz, hnd⟩ := hW
  have hA : DataW.TrodAll enc Tryd.prog W 0 (fun _ => true) true Tryd.f6.params.toList args.toList ds p := hA0
  rw [Tryd.params6] at hA hval
  obtain ⟨v0, vs0, d0, ds0, p0, q0, hargs, rfl, rfl, h0, r0⟩ := trodAll_cons hA
  obtain ⟨v1, vs1, d1, ds1, p1, q1, rfl, rfl, rfl, h1, r1⟩ := trodAll_cons r0
  obtain ⟨v2, vs2, d2, ds2, p2, q2, rfl, rfl, rfl, h2, r2⟩ := trodAll_cons r1
  obtain ⟨rfl, rfl, rfl⟩ := trodAll_nil r2
  obtain rfl : args = #[v0, v1, v2] := by cases args; simp_all
  obtain ⟨rfl, rfl⟩ := trodVars_none hV
  obtain ⟨M, hM⟩ := @maxLen_some ⟨fun _ => none⟩ W hsh
  letI : Glob := ⟨fun g => if g = 0 then some [.int .i64 M] else none⟩
  have hvo : VarsOk W (fun _ => False) := fun g row h => by
    have h : (if g = 0 then some [AV.int .i64 M] else none) = some row := h
    by_cases e : g = 0
    · subst e
      simp only [if_true, Option.some.injEq] at h
      subst h
      refine .rp (fun _ => .int .i64 M) (World.block_lt_of_cell? W _ hM) (fun h => h) (fun j x hj => ?_) fun j x hj => ?_
      · have hj0 : j = 0 := by cases j with | zero => rfl | succ j => simp at hj
        subst hj0
        exact ⟨hM, rfl⟩
      · cases j with
        | zero => simp at hj; subst hj; exact .int
        | succ j => simp at hj
    · simp [e] at h
  have k0 := h0
  have lt0 : ∀ x ∈ p0, x.block < W.heap.size := by obtain ⟨m, hm⟩ := k0; exact DataW.trod_lt m _ _ _ hm
  obtain ⟨x0, y0, s0⟩ := arg_open (P := Tryd.prog) (t := 24) (by kernel_rfl) (by kernel_rfl) (hval 0 24 v0 rfl rfl) h0
  have k1 := h1
  have lt1 : ∀ x ∈ p1, x.block < W.heap.size := by obtain ⟨m, hm⟩ := k1; exact DataW.trod_lt m _ _ _ hm
  obtain ⟨x1, y1, s1⟩ := arg_open (P := Tryd.prog) (t := 26) (by kernel_rfl) (by kernel_rfl) (hval 1 26 v1 rfl rfl) h1
  have k2 := h2
  have lt2 : ∀ x ∈ p2, x.block < W.heap.size := by obtain ⟨m, hm⟩ := k2; exact DataW.trod_lt m _ _ _ hm
  obtain ⟨x2, y2, s2⟩ := arg_open (P := Tryd.prog) (t := 3) (by kernel_rfl) (by kernel_rfl) (hval 2 3 v2 rfl rfl) h2
  clear hA0 hval0
  refine (walk W hvo ⟨M, rfl⟩ v0 x0 y0 s0 v1 x1 y1 s1 v2 x2 y2 s2).mono fun e W' ⟨he, bel⟩ => ?_
  subst he
  exact ⟨_, rfl, _, _, _, [], _, [], hW', trodAll_mk1 (shut_bool Tryd.underlying4 _), (trodAll_cons_mk (Below.trod laidK (by kernel_rfl) (of_decide_eq_true (by kernel_rfl)) k0 bel lt0) (trodAll_cons_mk (Below.trod laidK (by kernel_rfl) (of_decide_eq_true (by kernel_rfl)) k1 bel lt1) (trodAll_cons_mk (Below.trod laidK (by kernel_rfl) (of_decide_eq_true (by kernel_rfl)) k2 bel lt2) trodAll_mk0))), rfl, bel.frame _, fun h => by cases h⟩

theorem over : Rows.clockCountsRow.holds Tryd.pinned (OpenSpec.ofChange Rows.clockCountsSpec) :=
  OpenClaim.holds_of_cond 6 Tryd.f6 rfl rfl rfl rfl rfl rfl rfl ⟨rfl, rfl, rfl, rfl, rfl⟩ rfl rfl rfl rfl rfl (by kernel_rfl) Tryd.func6 (by kernel_rfl)
    (of_decide_eq_true (by kernel_rfl)) (by unfold Func.isWrapper; first | (rw [if_pos (by decide +kernel)]; kernel_rfl) | (rw [if_neg (by decide +kernel)]; exact ⟨rfl, rfl⟩))
    (fun os started H enc _ F0 => by rw [OpenClaim.pre_eq_preRow]; exact lifted os started H enc F0)

theorem proved : Rows.ClockCountsCardSaid :=
  Claim7.holds_tied_plain_at .later [] [.data, .data, .data] true (true, "1880f898bbaf09c6edac37723e6cc967d8125325b76a979ef0306a28409b5d6d") false over (fun _ h => by cases h) (by kernel_rfl) (fun _ h => by cases h) clockCounts_row_tie rfl ⟨rfl, rfl⟩ (by kernel_rfl) rfl
    (fun f fn hf hfn => by
      obtain rfl : f = 6 := Option.some.inj ((show Tryd.prog.funcNamed "casebook/casebooklaw03.ClockCounts" = some 6 by kernel_rfl).symm.trans hf) |>.symm
      obtain rfl : fn = Tryd.f6 := (Option.some.inj (Tryd.func6.symm.trans hfn)).symm
      exact ⟨by kernel_rfl, fun j t ht => by
        rw [Tryd.params6] at ht
        match j with
        | 0 => simp at ht; subst ht; exact (show Tryd.prog.wantsStandIn 24 = false by kernel_rfl)
        | 1 => simp at ht; subst ht; exact (show Tryd.prog.wantsStandIn 26 = false by kernel_rfl)
        | 2 => simp at ht; subst ht; exact (show Tryd.prog.wantsStandIn 3 = false by kernel_rfl)
        | j + 3 => simp at ht⟩)
    (by kernel_rfl)
end Go.Proofs.YtlobmblakilmiaaDoor.lawCounts
