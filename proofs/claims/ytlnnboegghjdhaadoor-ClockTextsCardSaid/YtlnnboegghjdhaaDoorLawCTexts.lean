/- Text and Parse return what is specified, and are inverse to each other (the law ClockTexts holds for every input; no condition). -/
import Derived.Test.YtlnnboegghjdhaaDoorLaid
import Derived.Test.YtlnnboegghjdhaaDoorTie
import Derived.Test.YtlnnboegghjdhaaDoorCards
import Derived.SevenTiedAt
import Derived.Test.YtlnnboegghjdhaaDoorClkU
import Derived.Test.YtlnnboegghjdhaaDoorDec
import Derived.Lib.LaidTab
import Derived.Stop.LaidErr
namespace Go.Proofs.YtlnnboegghjdhaaDoor.lawTexts
set_option linter.unusedSimpArgs false
set_option linter.unusedVariables false
set_option linter.unnecessarySimpa false
set_option linter.unusedSectionVars false
open Go.ChangeShapes Go.WideShapes Go.ChangeAt Go.RowKit Go.Joins Go.Deep
section
variable [Glob]
set_option maxRecDepth 100000
set_option maxHeartbeats 8000000 in
theorem main {m : Int} (hg : Glob.row 0 = some [.int .i64 m]) (hx : Glob.exact 1 = some (Lib.pow10Tab.map fun z => Value.int .u64 z).toArray) (t : Int) (s : ByteArray) :
    Pure Tryd.prog 3 [.int .i64 t, .str s] (.bool true) := by
  by_cases hl : (60 : Int) < s.size
  · skip
    refine pure_of mixed Tryd.func3 rfl (by kernel_rfl) (of_decide_eq_true rfl) (by kernel_rfl) (vc_run ?_)
    ((try simp -implicitDefEqProofs [-loopQ_n, hl]) <;> (repeat' (first | (refine condD_dec ?_ ?_ <;> (intro hc; (try simp -implicitDefEqProofs [-loopQ_n, hc, hl]))) | (refine guardD_dec ?_ ?_ <;> (intro hc; (try simp -implicitDefEqProofs [-loopQ_n, hc, hl]))) | (refine condD_intro ?_ ?_ <;> (intro hd; have hc := hd; (try simp at hc) <;> (try simp -implicitDefEqProofs [-loopQ_n, hd, hc, hl]))) | (refine guardD_intro ?_ ?_ <;> (intro hd; have hc := hd; (try simp at hc) <;> (try simp -implicitDefEqProofs [-loopQ_n, hd, hc, hl]))) | (refine ldD_ep ?_ ?_; (focus kernel_rfl); (try simp -implicitDefEqProofs [-loopQ_n, hl])) | (refine callS_mk ?_; (try simp -implicitDefEqProofs [-loopQ_n, hl]); (first | refine callS_intro (awake_pure hg) (.inl rfl) ?_); (try simp -implicitDefEqProofs [-loopQ_n, hl])))))
  have h1 := text_pure hx t
  have h2 := rtext_pure t
  have h3 := parse_pure hg s (by omega)
  have h4 := rparse_pure s (by omega)
  obtain ⟨⟨n, e⟩, hp⟩ : ∃ R, parseL (bl s) = R := ⟨_, rfl⟩
  rw [hp] at h3 h4
  simp only [parT] at h3 h4
  have hback : e = 0 → inst n = true ∧ textL n = bl s := fun he => by subst he; exact text_parse hp
  unfold textR at h1 h2
  cases hv : inst t with
  | false =>
    rw [hv] at h1 h2
    simp only [Bool.false_eq_true, if_false] at h1 h2
    by_cases he : e = 0
    · subst he
      obtain ⟨b1, b2⟩ := hback rfl
      have h6 := text_pure hx n
      unfold textR at h6
      rw [b1, b2, sb_bl] at h6
      simp only [if_true] at h6
      refine pure_of mixed Tryd.func3 rfl (by kernel_rfl) (of_decide_eq_true rfl) (by kernel_rfl) (vc_run ?_)
      ((try simp -implicitDefEqProofs [-loopQ_n, hl]) <;> (repeat' (first | (refine condD_dec ?_ ?_ <;> (intro hc; (try simp -implicitDefEqProofs [-loopQ_n, hc, hl]))) | (refine guardD_dec ?_ ?_ <;> (intro hc; (try simp -implicitDefEqProofs [-loopQ_n, hc, hl]))) | (refine condD_intro ?_ ?_ <;> (intro hd; have hc := hd; (try simp at hc) <;> (try simp -implicitDefEqProofs [-loopQ_n, hd, hc, hl]))) | (refine guardD_intro ?_ ?_ <;> (intro hd; have hc := hd; (try simp at hc) <;> (try simp -implicitDefEqProofs [-loopQ_n, hd, hc, hl]))) | (refine ldD_ep ?_ ?_; (focus kernel_rfl); (try simp -implicitDefEqProofs [-loopQ_n, hl])) | (refine callS_mk ?_; (try simp -implicitDefEqProofs [-loopQ_n, hl]); (first | refine callS_intro (awake_pure hg) (.inl rfl) ?_ | refine callS_intro (h1) (.inl rfl) ?_ | refine callS_intro (h2) (.inl rfl) ?_ | refine callS_intro (h3) (.inl rfl) ?_ | refine callS_intro (h4) (.inl rfl) ?_ | refine callS_intro (h6) (.inl rfl) ?_); (try simp -implicitDefEqProofs [-loopQ_n, hl])))))
    · skip
      refine pure_of mixed Tryd.func3 rfl (by kernel_rfl) (of_decide_eq_true rfl) (by kernel_rfl) (vc_run ?_)
      ((try simp -implicitDefEqProofs [-loopQ_n, hl, he]) <;> (repeat' (first | (refine condD_dec ?_ ?_ <;> (intro hc; (try simp -implicitDefEqProofs [-loopQ_n, hc, hl, he]))) | (refine guardD_dec ?_ ?_ <;> (intro hc; (try simp -implicitDefEqProofs [-loopQ_n, hc, hl, he]))) | (refine condD_intro ?_ ?_ <;> (intro hd; have hc := hd; (try simp at hc) <;> (try simp -implicitDefEqProofs [-loopQ_n, hd, hc, hl, he]))) | (refine guardD_intro ?_ ?_ <;> (intro hd; have hc := hd; (try simp at hc) <;> (try simp -implicitDefEqProofs [-loopQ_n, hd, hc, hl, he]))) | (refine ldD_ep ?_ ?_; (focus kernel_rfl); (try simp -implicitDefEqProofs [-loopQ_n, hl, he])) | (refine callS_mk ?_; (try simp -implicitDefEqProofs [-loopQ_n, hl, he]); (first | refine callS_intro (awake_pure hg) (.inl rfl) ?_ | refine callS_intro (h1) (.inl rfl) ?_ | refine callS_intro (h2) (.inl rfl) ?_ | refine callS_intro (h3) (.inl rfl) ?_ | refine callS_intro (h4) (.inl rfl) ?_); (try simp -implicitDefEqProofs [-loopQ_n, hl, he])))))
  | true =>
    have h5 := parse_pure hg (sb (textL t)) (by
      rw [sb_size]
      have hv' := hv
      simp only [inst, Bool.and_eq_true, decide_eq_true_eq] at hv'
      have := dec9 (n := t.toNat) (by omega)
      unfold textL
      rw [show (t / 1440).toNat = t.toNat / 1440 by omega]
      simp [twoL]; omega)
    rw [bl_sb, parse_text hv] at h5
    simp only [parT] at h5
    rw [hv] at h1 h2
    simp only [if_true] at h1 h2
    by_cases he : e = 0
    · subst he
      obtain ⟨b1, b2⟩ := hback rfl
      have h6 := text_pure hx n
      unfold textR at h6
      rw [b1, b2, sb_bl] at h6
      simp only [if_true] at h6
      refine pure_of mixed Tryd.func3 rfl (by kernel_rfl) (of_decide_eq_true rfl) (by kernel_rfl) (vc_run ?_)
      ((try simp -implicitDefEqProofs [-loopQ_n, hl]) <;> (repeat' (first | (refine condD_dec ?_ ?_ <;> (intro hc; (try simp -implicitDefEqProofs [-loopQ_n, hc, hl]))) | (refine guardD_dec ?_ ?_ <;> (intro hc; (try simp -implicitDefEqProofs [-loopQ_n, hc, hl]))) | (refine condD_intro ?_ ?_ <;> (intro hd; have hc := hd; (try simp at hc) <;> (try simp -implicitDefEqProofs [-loopQ_n, hd, hc, hl]))) | (refine guardD_intro ?_ ?_ <;> (intro hd; have hc := hd; (try simp at hc) <;> (try simp -implicitDefEqProofs [-loopQ_n, hd, hc, hl]))) | (refine ldD_ep ?_ ?_; (focus kernel_rfl); (try simp -implicitDefEqProofs [-loopQ_n, hl])) | (refine callS_mk ?_; (try simp -implicitDefEqProofs [-loopQ_n, hl]); (first | refine callS_intro (awake_pure hg) (.inl rfl) ?_ | refine callS_intro (h1) (.inl rfl) ?_ | refine callS_intro (h2) (.inl rfl) ?_ | refine callS_intro (h3) (.inl rfl) ?_ | refine callS_intro (h4) (.inl rfl) ?_ | refine callS_intro (h5) (.inl rfl) ?_ | refine callS_intro (h6) (.inl rfl) ?_); (try simp -implicitDefEqProofs [-loopQ_n, hl])))))
    · skip
      refine pure_of mixed Tryd.func3 rfl (by kernel_rfl) (of_decide_eq_true rfl) (by kernel_rfl) (vc_run ?_)
      ((try simp -implicitDefEqProofs [-loopQ_n, hl, he]) <;> (repeat' (first | (refine condD_dec ?_ ?_ <;> (intro hc; (try simp -implicitDefEqProofs [-loopQ_n, hc, hl, he]))) | (refine guardD_dec ?_ ?_ <;> (intro hc; (try simp -implicitDefEqProofs [-loopQ_n, hc, hl, he]))) | (refine condD_intro ?_ ?_ <;> (intro hd; have hc := hd; (try simp at hc) <;> (try simp -implicitDefEqProofs [-loopQ_n, hd, hc, hl, he]))) | (refine guardD_intro ?_ ?_ <;> (intro hd; have hc := hd; (try simp at hc) <;> (try simp -implicitDefEqProofs [-loopQ_n, hd, hc, hl, he]))) | (refine ldD_ep ?_ ?_; (focus kernel_rfl); (try simp -implicitDefEqProofs [-loopQ_n, hl, he])) | (refine callS_mk ?_; (try simp -implicitDefEqProofs [-loopQ_n, hl, he]); (first | refine callS_intro (awake_pure hg) (.inl rfl) ?_ | refine callS_intro (h1) (.inl rfl) ?_ | refine callS_intro (h2) (.inl rfl) ?_ | refine callS_intro (h3) (.inl rfl) ?_ | refine callS_intro (h4) (.inl rfl) ?_ | refine callS_intro (h5) (.inl rfl) ?_); (try simp -implicitDefEqProofs [-loopQ_n, hl, he])))))
theorem both (hg : ∃ m, Glob.row 0 = some [.int .i64 m]) (hx : Glob.exact 1 = some (Lib.pow10Tab.map fun z => Value.int .u64 z).toArray) (x0 : AV) (s0 : argS Tryd.prog 3 x0) (x1 : AV) (s1 : argS Tryd.prog 9 x1) :
    Pure Tryd.prog 3 [x0, x1] (.bool true) := by
  obtain ⟨m, hg⟩ := hg
  obtain ⟨t, rfl, _⟩ := arg_int Tryd.underlying3 s0
  obtain ⟨s, rfl, _⟩ := arg_str Tryd.underlying9 s1
  exact main hg hx t s
theorem walk (W : World) (hvo : VarsOk W (fun _ => False)) (hg : ∃ m, Glob.row 0 = some [.int .i64 m]) (hx : Glob.exact 1 = some (Lib.pow10Tab.map fun z => Value.int .u64 z).toArray) (v0 : Value) (x0 : AV) (r0 : RO W (fun _ => False) x0 v0) (s0 : argS Tryd.prog 3 x0) (v1 : Value) (x1 : AV) (r1 : RO W (fun _ => False) x1 v1) (s1 : argS Tryd.prog 9 x1) :
    Calls Tryd.prog 3 #[v0, v1] W fun e w' => e = .returned (.bool true) ∧ Below W.heap.size W w' := by
  refine ((both hg hx x0 s0 x1 s1).2 W (fun _ => False) _ (fun _ h => h.elim) hvo rfl ?_).mono ?_
  · intro j x v hj hv
    match j with
    | 0 => simp at hj hv; subst hj hv; exact r0
    | 1 => simp at hj hv; subst hj hv; exact r1
    | j + 2 => simp at hj
  · rintro e w' ⟨v, rfl, hv, hb⟩
    rw [ro_tt hv]
    exact ⟨rfl, hb⟩
end
theorem witness_row (os : Os) {H : Type} (enc : TypeId × Value → H) :
    (OpenSpec.ofChange Rows.clockTextsSpec).preRow enc Tryd.prog Tryd.f3 Rows.clockTextsRow.domain false Rows.clockTextsRow.laid ((laidWorld os).forCall (fun _ _ => 0) ⟨#[], #[.int .i64 0, .string ByteArray.empty], []⟩).memory #[.int .i64 0, .string ByteArray.empty] := by
  have hw : (DataW.whole enc Tryd.prog ((laidWorld os).forCall (fun _ _ => 0) ⟨#[], #[.int .i64 0, .string ByteArray.empty], []⟩).memory Tryd.f3.params.toList (OpenSpec.ofChange Rows.clockTextsSpec).vars false #[.int .i64 0, .string ByteArray.empty].toList 8).map (fun x => (x.1, x.2.1)) = some ([.lit (.int .i64 0), .lit (.string [])], []) := by kernel_rfl
  obtain ⟨⟨x1, x2, x3⟩, hx, hx1⟩ := Option.map_eq_some_iff.1 hw
  simp only [Prod.mk.injEq] at hx1
  obtain ⟨rfl, rfl⟩ := hx1
  exact OpenSpec.preRow_of_cond 8 hx (by kernel_rfl) (fun k hk => by cases hk) (by kernel_rfl) (laid_met os _)
set_option maxRecDepth 100000 in
theorem lifted (os : Os) (started : os.Started) (H : Type) (enc : TypeId × Value → H) (F : Stop.Interp) :
    ReturnsInHanded {} Tryd.checked os 3 .any ((OpenSpec.ofChange Rows.clockTextsSpec).preRow enc Tryd.prog Tryd.f3 Rows.clockTextsRow.domain false Rows.clockTextsRow.laid) (((OpenSpec.ofChange Rows.clockTextsSpec).at F).post enc Tryd.prog Tryd.f3 false true false false) := by
  refine returnsInHanded_of_row (C := Tryd.checked) (s := OpenSpec.ofChange Rows.clockTextsSpec) (@ownK { row := fun _ => none }) started (by kernel_rfl) Tryd.func3
    (witness_row_atRef (enc := enc) (C := Tryd.checked) false (laidWorld os) #[.int .i64 0, .string ByteArray.empty] rfl (by kernel_rfl) (by kernel_rfl) (by kernel_rfl) (witness_row os enc)) ?_
  intro W base args ds gs before hval0 hW _ _ _ hL hsh _
  have hval : ∀ (j : Nat) t v, Tryd.f3.params[j]? = some t → args[j]? = some v → Value.okWide Tryd.prog W .any base t v := hval0
  have hW' := hW
  obtain ⟨p, q, hA0, hV, rfl, hfz, hnd⟩ := hW
  have hA : DataW.TrodAll enc Tryd.prog W 0 (fun _ => true) true Tryd.f3.params.toList args.toList ds p := hA0
  rw [Tryd.params3] at hA hval
  obtain ⟨v0, vs0, d0, ds0, p0, q0, hargs, rfl, rfl, h0, r0⟩ := trodAll_cons hA
  obtain ⟨v1, vs1, d1, ds1, p1, q1, rfl, rfl, rfl, h1, r1⟩ := trodAll_cons r0
  obtain ⟨rfl, rfl, rfl⟩ := trodAll_nil r1
  obtain rfl : args = #[v0, v1] := by cases args; simp_all
  obtain ⟨rfl, rfl⟩ := trodVars_none hV
  obtain ⟨M, hM⟩ := @maxLen_some { row := fun _ => none } W hsh
  have hL2 := hL
  rw [MakeChecks.laidMetH_plain _ _ _ (by kernel_rfl)] at hL2
  have hL3 : laidMet Tryd.prog [("math/bits.deBruijn32tab", Rows.laid_math_bits_deBruijn32tab), ("math/bits.deBruijn64tab", Rows.laid_math_bits_deBruijn64tab), ("internal/strconv.uint64pow10", Rows.laid_internal_strconv_uint64pow10)] W := hL2
  have htab : Lib.TabIs Tryd.prog W "internal/strconv.uint64pow10" .u64 Lib.pow10Tab := Lib.tabIs_of_head (g := 1) (n := 20) (by kernel_rfl) (by kernel_rfl) Tryd.underlying64 Tryd.underlying55 (by kernel_rfl) (by kernel_rfl) (laidMet.tail (laidMet.tail hL3))
  letI : Glob := { row := fun g => if g = 0 then some [.int .i64 M] else none, exact := fun g => if g = 1 then some (Lib.pow10Tab.map fun z => Value.int .u64 z).toArray else none }
  have hvo : VarsOk W (fun _ => False) := ⟨fun g row h => by
    have h : (if g = 0 then some [AV.int .i64 M] else none) = some row := h
    by_cases e : g = 0
    · subst e
      simp only [if_true, Option.some.injEq] at h
      subst h
      refine .rp (fun _ => .int .i64 M) (World.block_lt_of_cell? W _ hM) (fun h => h) (fun j x hj => ?_) fun j x hj => ?_
      · have hj0 : j = 0 := by cases j with | zero => rfl | succ j => simp at hj
        subst hj0
        exact ⟨hM, rfl⟩
      · cases j with
        | zero => simp at hj; subst hj; exact .int
        | succ j => simp at hj
    · simp [e] at h, fun g cs h => by
    have h : (if g = 1 then some (Lib.pow10Tab.map fun z => Value.int .u64 z).toArray else none) = some cs := h
    by_cases e : g = 1
    · subst e
      simp only [if_true, Option.some.injEq] at h
      subst h
      unfold Lib.TabIs World.var? at htab
      rw [show Tryd.prog.globalNamed "internal/strconv.uint64pow10" = some 1 by kernel_rfl] at htab
      simp only [Option.bind_some] at htab
      split at htab
      · rename_i cs t f hh
        simp only [Option.some.injEq] at htab
        subst htab
        exact ⟨(Array.getElem?_eq_some_iff.1 hh).1, fun q => q, t, f, hh⟩
      · cases htab
    · simp [e] at h⟩
  have k0 := h0
  have lt0 : ∀ x ∈ p0, x.block < W.heap.size := by obtain ⟨m, hm⟩ := k0; exact DataW.trod_lt m _ _ _ hm
  obtain ⟨x0, y0, s0⟩ := arg_open (P := Tryd.prog) (t := 3) (by kernel_rfl) (by kernel_rfl) (hval 0 3 v0 rfl rfl) h0
  have k1 := h1
  have lt1 : ∀ x ∈ p1, x.block < W.heap.size := by obtain ⟨m, hm⟩ := k1; exact DataW.trod_lt m _ _ _ hm
  obtain ⟨x1, y1, s1⟩ := arg_open (P := Tryd.prog) (t := 9) (by kernel_rfl) (by kernel_rfl) (hval 1 9 v1 rfl rfl) h1
  clear hA0 hval0
  refine (walk W hvo ⟨M, rfl⟩ rfl v0 x0 y0 s0 v1 x1 y1 s1).mono fun e W' ⟨he, bel⟩ => ?_
  subst he
  exact ⟨_, rfl, _, _, _, [], _, [], hW', trodAll_mk1 (shut_bool Tryd.underlying4 _), (trodAll_cons_mk (Below.trod laidK (by kernel_rfl) (of_decide_eq_true (by kernel_rfl)) k0 bel lt0) (trodAll_cons_mk (Below.trod laidK (by kernel_rfl) (of_decide_eq_true (by kernel_rfl)) k1 bel lt1) trodAll_mk0)), rfl, bel.frame _, fun h => by cases h⟩

theorem over : Rows.clockTextsRow.holds Tryd.pinned (OpenSpec.ofChange Rows.clockTextsSpec) :=
  OpenClaim.holds_of_cond 3 Tryd.f3 rfl rfl rfl rfl rfl rfl rfl ⟨rfl, rfl, rfl, rfl, rfl⟩ rfl rfl rfl rfl rfl (by kernel_rfl) Tryd.func3 (by kernel_rfl)
    (of_decide_eq_true (by kernel_rfl)) (by unfold Func.isWrapper; first | (rw [if_pos (by decide +kernel)]; kernel_rfl) | (rw [if_neg (by decide +kernel)]; exact ⟨rfl, rfl⟩))
    (fun os started H enc _ F0 => by rw [OpenClaim.pre_eq_preRow]; exact lifted os started H enc F0)

theorem proved : Rows.ClockTextsCardSaid :=
  Claim7.holds_tied_plain_at .later [] [.data, .data, .data] true (true, "c9c91d44687ac49d118a65be6d195652218d08f6ae0a89923e30afe749ca255e") false over (fun _ h => by cases h) (by kernel_rfl) (fun _ h => by cases h) clockTexts_row_tie rfl ⟨rfl, rfl⟩ (by kernel_rfl) rfl
    (fun f fn hf hfn => by
      obtain rfl : f = 3 := Option.some.inj ((show Tryd.prog.funcNamed "casebook/casebooklaw03.ClockTexts" = some 3 by kernel_rfl).symm.trans hf) |>.symm
      obtain rfl : fn = Tryd.f3 := (Option.some.inj (Tryd.func3.symm.trans hfn)).symm
      exact ⟨by kernel_rfl, fun j t ht => by
        rw [Tryd.params3] at ht
        match j with
        | 0 => simp at ht; subst ht; exact (show Tryd.prog.wantsStandIn 3 = false by kernel_rfl)
        | 1 => simp at ht; subst ht; exact (show Tryd.prog.wantsStandIn 9 = false by kernel_rfl)
        | j + 2 => simp at ht⟩)
    (by kernel_rfl)
end Go.Proofs.YtlnnboegghjdhaaDoor.lawTexts
