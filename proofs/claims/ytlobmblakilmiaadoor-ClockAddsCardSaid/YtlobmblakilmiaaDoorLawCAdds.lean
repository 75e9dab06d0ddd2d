/- Working times add up (the law ClockAdds holds for every input; no condition). -/
import Derived.Test.YtlobmblakilmiaaDoorLaid
import Derived.Test.YtlobmblakilmiaaDoorTie
import Derived.Test.YtlobmblakilmiaaDoorCards
import Derived.SevenTiedAt
import Derived.Test.YtlobmblakilmiaaDoorClk5
namespace Go.Proofs.YtlobmblakilmiaaDoor.lawAdds
set_option linter.unusedSimpArgs false
set_option linter.unusedVariables false
set_option linter.unnecessarySimpa false
set_option linter.unusedSectionVars false
open Go.ChangeShapes Go.WideShapes Go.ChangeAt Go.RowKit Go.Joins Go.Deep
section
variable [Glob]
set_option maxRecDepth 100000
theorem c_at : Tryd.prog.cellsOf 51 = 3 := by kernel_rfl
theorem at_dec {x : AV} (h : argS Tryd.prog 51 x) : ∃ a b d, x = .agg [.int .i64 a, .int .i64 b, .int .i64 d] ∧ inI a ∧ inI b ∧ inI d := by
  obtain ⟨l, rfl, hl, hf⟩ := arg_array Tryd.underlying51 h
  rw [c_at] at hl
  match l, hl with
  | [a, b, d], _ =>
    have f0 := hf 0 (by omega)
    have f1 := hf 1 (by omega)
    have f2 := hf 2 (by omega)
    rw [c_int] at f0 f1 f2
    obtain ⟨x, h1, w1⟩ := shp_int (n := 7) Tryd.underlying3 f0
    obtain ⟨y, h2, w2⟩ := shp_int (n := 7) Tryd.underlying3 f1
    obtain ⟨z, h3, w3⟩ := shp_int (n := 7) Tryd.underlying3 f2
    simp at h1 h2 h3
    exact ⟨x, y, z, by rw [h1, h2, h3], inI_wf w1, inI_wf w2, inI_wf w3⟩
theorem none_pure (l : List Sp) : Pure Tryd.prog 26 [.agg [.rs (rowsOf spC l)]] (.bool (decide (l.length = 0))) := by
  refine pure_of mixed Tryd.func26 rfl (by kernel_rfl) (of_decide_eq_true rfl) (by kernel_rfl) (vc_run ?_)
  ((try simp -implicitDefEqProofs [-loopQ_n]) <;> (repeat' (first | (refine condD_dec ?_ ?_ <;> (intro hc; (try simp -implicitDefEqProofs [-loopQ_n, hc]))) | (refine guardD_dec ?_ ?_ <;> (intro hc; (try simp -implicitDefEqProofs [-loopQ_n, hc]))) | (refine condD_intro ?_ ?_ <;> (intro hd; have hc := hd; (try simp at hc) <;> (try simp -implicitDefEqProofs [-loopQ_n, hd, hc]))) | (refine guardD_intro ?_ ?_ <;> (intro hd; have hc := hd; (try simp at hc) <;> (try simp -implicitDefEqProofs [-loopQ_n, hd, hc]))))))
set_option maxHeartbeats 8000000 in
theorem both (hg : ∃ m, Glob.row 0 = some [.int .i64 m]) (x0 : AV) (s0 : argS Tryd.prog 24 x0) (x1 : AV) (s1 : argS Tryd.prog 51 x1) (x2 : AV) (s2 : argS Tryd.prog 5 x2) (x3 : AV) (s3 : argS Tryd.prog 3 x3) :
    Pure Tryd.prog 7 [x0, x1, x2, x3] (.bool true) := by
  obtain ⟨m, hg⟩ := hg
  obtain ⟨l, rfl, hl, hd⟩ := cal_dec s0
  obtain ⟨a, b, d, rfl, ha, hb, hd2⟩ := at_dec s1
  obtain ⟨ws, rfl, hws⟩ := arg_int Tryd.underlying5 s2
  obtain ⟨n, rfl, hn⟩ := arg_int Tryd.underlying3 s3
  have hws2 : 0 ≤ ws ∧ ws ≤ 255 := by
    simp [Lit.wf, IntKind.min, IntKind.max, IntKind.signed, IntKind.bits] at hws
    exact hws
  refine pure_of mixed Tryd.func7 rfl (by kernel_rfl) (of_decide_eq_true rfl) (by kernel_rfl) (vc_run ?_)
  ((try simp -implicitDefEqProofs [-loopQ_n]) <;> (repeat' (first | (simp (disch := omega) only [wrap_in, if_pos, if_neg] <;> (try simp -implicitDefEqProofs [-loopQ_n])) | (refine condD_dec ?_ ?_ <;> (intro hc; (try simp -implicitDefEqProofs [-loopQ_n, hc]))) | (refine guardD_dec ?_ ?_ <;> (intro hc; (try simp -implicitDefEqProofs [-loopQ_n, hc]))) | (refine condD_intro ?_ ?_ <;> (intro hd; have hc := hd; (try simp at hc) <;> (try simp -implicitDefEqProofs [-loopQ_n, hd, hc]))) | (refine guardD_intro ?_ ?_ <;> (intro hd; have hc := hd; (try simp at hc) <;> (try simp -implicitDefEqProofs [-loopQ_n, hd, hc]))) | (refine callS_mk ?_; (try simp -implicitDefEqProofs [-loopQ_n]); (first | refine callS_intro (awake_pure hg) (.inl rfl) ?_ | refine callS_intro (great_pure _) (.inl rfl) ?_ | refine callS_intro (valid_pure _) (.inl rfl) ?_); (try simp -implicitDefEqProofs [-loopQ_n])))))
  have hv := ‹calOk l = true›
  have g1 := ‹¬ a < 0›
  have g2 := ‹¬ b ≤ a›
  have g3 := ‹¬ d ≤ b›
  have g4 := ‹¬ (1099511627776 : Int) < d›
  obtain ⟨hln, hcal⟩ := calOk_v hv
  have v1 : spV ⟨a, b⟩ = true := spV_iff.2 ⟨by simp only; omega, by simp only; omega, by simp only; omega⟩
  have v2 : spV ⟨b, d⟩ = true := spV_iff.2 ⟨by simp only; omega, by simp only; omega, by simp only; omega⟩
  have v3 : spV ⟨a, d⟩ = true := spV_iff.2 ⟨by simp only; omega, by simp only; omega, by simp only; omega⟩
  have o1 : workOut l ⟨a, b⟩ = (untL l b - untL l a, 0) := by rw [workOut, if_pos ⟨hv, v1⟩]
  have o2 : workOut l ⟨b, d⟩ = (untL l d - untL l b, 0) := by rw [workOut, if_pos ⟨hv, v2⟩]
  have o3 : workOut l ⟨a, d⟩ = (untL l d - untL l a, 0) := by rw [workOut, if_pos ⟨hv, v3⟩]
  have m1 := untL_mono hcal (t := a) (u := b) (by omega) (by omega)
  have m2 := untL_mono hcal (t := b) (u := d) (by omega) (by omega)
  have m3 := untL_mono hcal (t := a) (u := d) (by omega) (by omega)
  have w1 : wrapI .i64 (untL l b - untL l a + (untL l d - untL l b)) = untL l d - untL l a := by rw [wrap_in (by omega) (by omega)]; omega
  have q1 : ¬ untL l b - untL l a < 0 := by omega
  have q2 : ¬ untL l d - untL l b < 0 := by omega
  have q3 : ¬ (1099511627776 : Int) < untL l d - untL l a := by omega
  have q4 : ¬ untL l d - untL l a < untL l b - untL l a := by omega
  have q5 : ¬ untL l d - untL l a < untL l d - untL l b := by omega
  have w2 : wrapI .i64 ws = ws := wrap_in (by omega) (by omega)
  have w3 : wrapI .i64 (ws * 10080) = ws * 10080 := wrap_in (by omega) (by omega)
  have w4 : wrapI .i64 (1099511627776 - ws * 10080) = 1099511627776 - ws * 10080 := wrap_in (by omega) (by omega)
  have w5 : wrapI .i64 (a + ws * 10080) = a + ws * 10080 := wrap_in (by omega) (by omega)
  have w6 : wrapI .i64 (d + ws * 10080) = d + ws * 10080 := wrap_in (by omega) (by omega)
  have hmv : d ≤ 1099511627776 - ws * 10080 → workOut l ⟨a + ws * 10080, d + ws * 10080⟩ = (untL l d - untL l a, 0) := fun hq => by
    rw [workOut, if_pos ⟨hv, spV_iff.2 ⟨by simp only; omega, by simp only; omega, by simp only; omega⟩⟩, untL_weeks, untL_weeks]
    simp only [Prod.mk.injEq, and_true]; omega
  -- what After hands back
  have haft : 1 ≤ n → n ≤ 1099511627776 → (l.length = 0 ∧ aftOut l a n = (0, 10)) ∨ (¬ l.length = 0 ∧ aftOut l a n = (0, 6)) ∨ ∃ u, aftOut l a n = (u, 0) ∧ a < u ∧ u ≤ 1099511627776 ∧ workOut l ⟨a, u⟩ = (n, 0) ∧ openOut l (u - 1) = (true, 0) := fun h1 h2 => by
    by_cases hl0 : l.length = 0
    · left
      refine ⟨hl0, ?_⟩
      unfold aftOut
      rw [if_pos hv, if_pos ⟨inst_iff.2 ⟨by omega, by omega⟩, inst_iff.2 ⟨by omega, by omega⟩⟩, if_neg (by omega), if_pos hl0]
    · right
      have hne : l ≠ [] := fun e => hl0 (by rw [e]; rfl)
      obtain ⟨p1, p2, p3⟩ := aftU_spec hcal hne (t := a) (n := n) (by omega) h1
      by_cases hb : aftU l a n > 1099511627776
      · left
        refine ⟨hl0, ?_⟩
        unfold aftOut
        rw [if_pos hv, if_pos ⟨inst_iff.2 ⟨by omega, by omega⟩, inst_iff.2 ⟨by omega, by omega⟩⟩, if_neg (by omega), if_neg hl0, if_pos hb]
      · right
        have hau : a < aftU l a n := by
          by_cases q : a < aftU l a n
          · exact q
          · have := untL_mono hcal (t := aftU l a n) (u := a) (by omega) (by omega); omega
        refine ⟨aftU l a n, ?_, hau, by omega, ?_, ?_⟩
        · unfold aftOut
          rw [if_pos hv, if_pos ⟨inst_iff.2 ⟨by omega, by omega⟩, inst_iff.2 ⟨by omega, by omega⟩⟩, if_neg (by omega), if_neg hl0, if_neg hb]
        · rw [workOut, if_pos ⟨hv, spV_iff.2 ⟨by simp only; omega, by simp only; omega, by simp only; omega⟩⟩, p2]
          simp only [Prod.mk.injEq, and_true]; omega
        · rw [openOut, if_pos hv, if_pos (inst_iff.2 ⟨by omega, by omega⟩), p3]
  ((try simp -implicitDefEqProofs [-loopQ_n, o1, o2, o3, w1, w2, w3, w4, w5, w6, q1, q2, q3, q4, q5]) <;> (repeat' (first | (refine condD_dec ?_ ?_ <;> (intro hc; (try simp -implicitDefEqProofs [-loopQ_n, hc, o1, o2, o3, w1, w2, w3, w4, w5, w6, q1, q2, q3, q4, q5]))) | (refine guardD_dec ?_ ?_ <;> (intro hc; (try simp -implicitDefEqProofs [-loopQ_n, hc, o1, o2, o3, w1, w2, w3, w4, w5, w6, q1, q2, q3, q4, q5]))) | (refine condD_intro ?_ ?_ <;> (intro hd; have hc := hd; (try simp at hc) <;> (try simp -implicitDefEqProofs [-loopQ_n, hd, hc, o1, o2, o3, w1, w2, w3, w4, w5, w6, q1, q2, q3, q4, q5]))) | (refine guardD_intro ?_ ?_ <;> (intro hd; have hc := hd; (try simp at hc) <;> (try simp -implicitDefEqProofs [-loopQ_n, hd, hc, o1, o2, o3, w1, w2, w3, w4, w5, w6, q1, q2, q3, q4, q5]))) | (refine callS_mk ?_; (try simp -implicitDefEqProofs [-loopQ_n, o1, o2, o3, w1, w2, w3, w4, w5, w6, q1, q2, q3, q4, q5]); (first | refine callS_intro (working_pure _ _ _) (.inl rfl) ?_); (try simp -implicitDefEqProofs [-loopQ_n, o1, o2, o3, w1, w2, w3, w4, w5, w6, q1, q2, q3, q4, q5])))))
  all_goals first
    | (rw [hmv ‹_›] at *; simp_all; done)
    | (rcases haft (by omega) (by omega) with ⟨e1, e2⟩ | ⟨e1, e2⟩ | ⟨u, e1, e2, e3, e4, e5⟩
       · ((try simp -implicitDefEqProofs [-loopQ_n, e1, e2]) <;> (repeat' (first | (refine condD_dec ?_ ?_ <;> (intro hc; (try simp -implicitDefEqProofs [-loopQ_n, hc, e1, e2]))) | (refine guardD_dec ?_ ?_ <;> (intro hc; (try simp -implicitDefEqProofs [-loopQ_n, hc, e1, e2]))) | (refine condD_intro ?_ ?_ <;> (intro hd; have hc := hd; (try simp at hc) <;> (try simp -implicitDefEqProofs [-loopQ_n, hd, hc, e1, e2]))) | (refine guardD_intro ?_ ?_ <;> (intro hd; have hc := hd; (try simp at hc) <;> (try simp -implicitDefEqProofs [-loopQ_n, hd, hc, e1, e2]))) | (refine callS_mk ?_; (try simp -implicitDefEqProofs [-loopQ_n, e1, e2]); (first | refine callS_intro (after_pure _ _ _) (.inl rfl) ?_ | refine callS_intro (none_pure _) (.inl rfl) ?_); (try simp -implicitDefEqProofs [-loopQ_n, e1, e2])))))
       · ((try simp -implicitDefEqProofs [-loopQ_n, e1, e2]) <;> (repeat' (first | (refine condD_dec ?_ ?_ <;> (intro hc; (try simp -implicitDefEqProofs [-loopQ_n, hc, e1, e2]))) | (refine guardD_dec ?_ ?_ <;> (intro hc; (try simp -implicitDefEqProofs [-loopQ_n, hc, e1, e2]))) | (refine condD_intro ?_ ?_ <;> (intro hd; have hc := hd; (try simp at hc) <;> (try simp -implicitDefEqProofs [-loopQ_n, hd, hc, e1, e2]))) | (refine guardD_intro ?_ ?_ <;> (intro hd; have hc := hd; (try simp at hc) <;> (try simp -implicitDefEqProofs [-loopQ_n, hd, hc, e1, e2]))) | (refine callS_mk ?_; (try simp -implicitDefEqProofs [-loopQ_n, e1, e2]); (first | refine callS_intro (after_pure _ _ _) (.inl rfl) ?_ | refine callS_intro (none_pure _) (.inl rfl) ?_); (try simp -implicitDefEqProofs [-loopQ_n, e1, e2])))))
       · have k1 : ¬ u ≤ a := by omega
         have k2 : ¬ (1099511627776 : Int) < u := by omega
         have k3 : wrapI .i64 (u - 1) = u - 1 := wrap_in (by omega) (by omega)
         ((try simp -implicitDefEqProofs [-loopQ_n, e1, e4, e5, k1, k2, k3]) <;> (repeat' (first | (refine condD_dec ?_ ?_ <;> (intro hc; (try simp -implicitDefEqProofs [-loopQ_n, hc, e1, e4, e5, k1, k2, k3]))) | (refine guardD_dec ?_ ?_ <;> (intro hc; (try simp -implicitDefEqProofs [-loopQ_n, hc, e1, e4, e5, k1, k2, k3]))) | (refine condD_intro ?_ ?_ <;> (intro hd; have hc := hd; (try simp at hc) <;> (try simp -implicitDefEqProofs [-loopQ_n, hd, hc, e1, e4, e5, k1, k2, k3]))) | (refine guardD_intro ?_ ?_ <;> (intro hd; have hc := hd; (try simp at hc) <;> (try simp -implicitDefEqProofs [-loopQ_n, hd, hc, e1, e4, e5, k1, k2, k3]))) | (refine callS_mk ?_; (try simp -implicitDefEqProofs [-loopQ_n, e1, e4, e5, k1, k2, k3]); (first | refine callS_intro (after_pure _ _ _) (.inl rfl) ?_ | refine callS_intro (working_pure _ _ _) (.inl rfl) ?_ | refine callS_intro (open_pure _ _) (.inl rfl) ?_); (try simp -implicitDefEqProofs [-loopQ_n, e1, e4, e5, k1, k2, k3]))))))
theorem walk (W : World) (hvo : VarsOk W (fun _ => False)) (hg : ∃ m, Glob.row 0 = some [.int .i64 m]) (v0 : Value) (x0 : AV) (r0 : RO W (fun _ => False) x0 v0) (s0 : argS Tryd.prog 24 x0) (v1 : Value) (x1 : AV) (r1 : RO W (fun _ => False) x1 v1) (s1 : argS Tryd.prog 51 x1) (v2 : Value) (x2 : AV) (r2 : RO W (fun _ => False) x2 v2) (s2 : argS Tryd.prog 5 x2) (v3 : Value) (x3 : AV) (r3 : RO W (fun _ => False) x3 v3) (s3 : argS Tryd.prog 3 x3) :
    Calls Tryd.prog 7 #[v0, v1, v2, v3] W fun e w' => e = .returned (.bool true) ∧ Below W.heap.size W w' := by
  refine ((both hg x0 s0 x1 s1 x2 s2 x3 s3).2 W (fun _ => False) _ (fun _ h => h.elim) hvo rfl ?_).mono ?_
  · intro j x v hj hv
    match j with
    | 0 => simp at hj hv; subst hj hv; exact r0
    | 1 => simp at hj hv; subst hj hv; exact r1
    | 2 => simp at hj hv; subst hj hv; exact r2
    | 3 => simp at hj hv; subst hj hv; exact r3
    | j + 4 => simp at hj
  · rintro e w' ⟨v, rfl, hv, hb⟩
    rw [ro_tt hv]
    exact ⟨rfl, hb⟩
end
theorem witness_row (os : Os) {H : Type} (enc : TypeId × Value → H) :
    (OpenSpec.ofChange Rows.clockAddsSpec).preRow enc Tryd.prog Tryd.f7 Rows.clockAddsRow.domain false Rows.clockAddsRow.laid ((laidWorld os).forCall (fun _ _ => 0) ⟨#[], #[.agg #[.slice none 0 0], .agg #[.int .i64 0, .int .i64 0, .int .i64 0], .int .u8 0, .int .i64 0], []⟩).memory #[.agg #[.slice none 0 0], .agg #[.int .i64 0, .int .i64 0, .int .i64 0], .int .u8 0, .int .i64 0] := by
  have hw : (DataW.whole enc Tryd.prog ((laidWorld os).forCall (fun _ _ => 0) ⟨#[], #[.agg #[.slice none 0 0], .agg #[.int .i64 0, .int .i64 0, .int .i64 0], .int .u8 0, .int .i64 0], []⟩).memory Tryd.f7.params.toList (OpenSpec.ofChange Rows.clockAddsSpec).vars false #[.agg #[.slice none 0 0], .agg #[.int .i64 0, .int .i64 0, .int .i64 0], .int .u8 0, .int .i64 0].toList 8).map (fun x => (x.1, x.2.1)) = some ([.agg [.nil], .agg [.lit (.int .i64 0), .lit (.int .i64 0), .lit (.int .i64 0)], .lit (.int .u8 0), .lit (.int .i64 0)], []) := by kernel_rfl
  obtain ⟨⟨x1, x2, x3⟩, hx, hx1⟩ := Option.map_eq_some_iff.1 hw
  simp only [Prod.mk.injEq] at hx1
  obtain ⟨rfl, rfl⟩ := hx1
  exact OpenSpec.preRow_of_cond 8 hx (by kernel_rfl) (fun k hk => by cases hk) (by kernel_rfl) (laid_met os _)
set_option maxRecDepth 100000 in
theorem lifted (os : Os) (started : os.Started) (H : Type) (enc : TypeId × Value → H) (F : Stop.Interp) :
    ReturnsInHanded {} Tryd.checked os 7 .any ((OpenSpec.ofChange Rows.clockAddsSpec).preRow enc Tryd.prog Tryd.f7 Rows.clockAddsRow.domain false Rows.clockAddsRow.laid) (((OpenSpec.ofChange Rows.clockAddsSpec).at F).post enc Tryd.prog Tryd.f7 false true false false) := by
  refine returnsInHanded_of_row (C := Tryd.checked) (s := OpenSpec.ofChange Rows.clockAddsSpec) (@ownK ⟨fun _ => none⟩) started (by kernel_rfl) Tryd.func7
    (witness_row_atRef (enc := enc) (C := Tryd.checked) false (laidWorld os) #[.agg #[.slice none 0 0], .agg #[.int .i64 0, .int .i64 0, .int .i64 0], .int .u8 0, .int .i64 0] rfl (by kernel_rfl) (by kernel_rfl) (by kernel_rfl) (witness_row os enc)) ?_
  intro W base args ds gs before hval0 hW _ _ _ hL hsh _
  have hval : ∀ (j : Nat) t v, Tryd.f7.params[j]? = some t → args[j]? = some v → Value.okWide Tryd.prog W .any base t v := hval0
  have hW' := hW
  obtain ⟨p, q, hA0, hV, rfl, hfz, hnd⟩ := hW
  have hA : DataW.TrodAll enc Tryd.prog W 0 (fun _ => true) true Tryd.f7.params.toList args.toList ds p := hA0
  rw [Tryd.params7] at hA hval
  obtain ⟨v0, vs0, d0, ds0, p0, q0, hargs, rfl, rfl, h0, r0⟩ := trodAll_cons hA
  obtain ⟨v1, vs1, d1, ds1, p1, q1, rfl, rfl, rfl, h1, r1⟩ := trodAll_cons r0
  obtain ⟨v2, vs2, d2, ds2, p2, q2, rfl, rfl, rfl, h2, r2⟩ := trodAll_cons r1
  obtain ⟨v3, vs3, d3, ds3, p3, q3, rfl, rfl, rfl, h3, r3⟩ := trodAll_cons r2
  obtain ⟨rfl, rfl, rfl⟩ := trodAll_nil r3
  obtain rfl : args = #[v0, v1, v2, v3] := by cases args; simp_all
  obtain ⟨rfl, rfl⟩ := trodVars_none hV
  obtain ⟨M, hM⟩ := @maxLen_some ⟨fun _ => none⟩ W hsh
  letI : Glob := ⟨fun g => if g = 0 then some [.int .i64 M] else none⟩
  have hvo : VarsOk W (fun _ => False) := fun g row h => by
    have h : (if g = 0 then some [AV.int .i64 M] else none) = some row := h
    by_cases e : g = 0
    · subst e
      simp only [if_true, Option.some.injEq] at h
      subst h
      refine .rp (fun _ => .int .i64 M) (World.block_lt_of_cell? W _ hM) (fun h => h) (fun j x hj => ?_) fun j x hj => ?_
      · have hj0 : j = 0 := by cases j with | zero => rfl | succ j => simp at hj
        subst hj0
        exact ⟨hM, rfl⟩
      · cases j with
        | zero => simp at hj; subst hj; exact .int
        | succ j => simp at hj
    · simp [e] at h
  have k0 := h0
  have lt0 : ∀ x ∈ p0, x.block < W.heap.size := by obtain ⟨m, hm⟩ := k0; exact DataW.trod_lt m _ _ _ hm
  obtain ⟨x0, y0, s0⟩ := arg_open (P := Tryd.prog) (t := 24) (by kernel_rfl) (by kernel_rfl) (hval 0 24 v0 rfl rfl) h0
  have k1 := h1
  have lt1 : ∀ x ∈ p1, x.block < W.heap.size := by obtain ⟨m, hm⟩ := k1; exact DataW.trod_lt m _ _ _ hm
  obtain ⟨x1, y1, s1⟩ := arg_open (P := Tryd.prog) (t := 51) (by kernel_rfl) (by kernel_rfl) (hval 1 51 v1 rfl rfl) h1
  have k2 := h2
  have lt2 : ∀ x ∈ p2, x.block < W.heap.size := by obtain ⟨m, hm⟩ := k2; exact DataW.trod_lt m _ _ _ hm
  obtain ⟨x2, y2, s2⟩ := arg_open (P := Tryd.prog) (t := 5) (by kernel_rfl) (by kernel_rfl) (hval 2 5 v2 rfl rfl) h2
  have k3 := h3
  have lt3 : ∀ x ∈ p3, x.block < W.heap.size := by obtain ⟨m, hm⟩ := k3; exact DataW.trod_lt m _ _ _ hm
  obtain ⟨x3, y3, s3⟩ := arg_open (P := Tryd.prog) (t := 3) (by kernel_rfl) (by kernel_rfl) (hval 3 3 v3 rfl rfl) h3
  clear hA0 hval0
  refine (walk W hvo ⟨M, rfl⟩ v0 x0 y0 s0 v1 x1 y1 s1 v2 x2 y2 s2 v3 x3 y3 s3).mono fun e W' ⟨he, bel⟩ => ?_
  subst he
  exact ⟨_, rfl, _, _, _, [], _, [], hW', trodAll_mk1 (shut_bool Tryd.underlying4 _), (trodAll_cons_mk (Below.trod laidK (by kernel_rfl) (of_decide_eq_true (by kernel_rfl)) k0 bel lt0) (trodAll_cons_mk (Below.trod laidK (by kernel_rfl) (of_decide_eq_true (by kernel_rfl)) k1 bel lt1) (trodAll_cons_mk (Below.trod laidK (by kernel_rfl) (of_decide_eq_true (by kernel_rfl)) k2 bel lt2) (trodAll_cons_mk (Below.trod laidK (by kernel_rfl) (of_decide_eq_true (by kernel_rfl)) k3 bel lt3) trodAll_mk0)))), rfl, bel.frame _, fun h => by cases h⟩

theorem over : Rows.clockAddsRow.holds Tryd.pinned (OpenSpec.ofChange Rows.clockAddsSpec) :=
  OpenClaim.holds_of_cond 7 Tryd.f7 rfl rfl rfl rfl rfl rfl rfl ⟨rfl, rfl, rfl, rfl, rfl⟩ rfl rfl rfl rfl rfl (by kernel_rfl) Tryd.func7 (by kernel_rfl)
    (of_decide_eq_true (by kernel_rfl)) (by unfold Func.isWrapper; first | (rw [if_pos (by decide +kernel)]; kernel_rfl) | (rw [if_neg (by decide +kernel)]; exact ⟨rfl, rfl⟩))
    (fun os started H enc _ F0 => by rw [OpenClaim.pre_eq_preRow]; exact lifted os started H enc F0)

theorem proved : Rows.ClockAddsCardSaid :=
  Claim7.holds_tied_plain_at .later [] [.data, .data, .data] true (true, "1880f898bbaf09c6edac37723e6cc967d8125325b76a979ef0306a28409b5d6d") false over (fun _ h => by cases h) (by kernel_rfl) (fun _ h => by cases h) clockAdds_row_tie rfl ⟨rfl, rfl⟩ (by kernel_rfl) rfl
    (fun f fn hf hfn => by
      obtain rfl : f = 7 := Option.some.inj ((show Tryd.prog.funcNamed "casebook/casebooklaw03.ClockAdds" = some 7 by kernel_rfl).symm.trans hf) |>.symm
      obtain rfl : fn = Tryd.f7 := (Option.some.inj (Tryd.func7.symm.trans hfn)).symm
      exact ⟨by kernel_rfl, fun j t ht => by
        rw [Tryd.params7] at ht
        match j with
        | 0 => simp at ht; subst ht; exact (show Tryd.prog.wantsStandIn 24 = false by kernel_rfl)
        | 1 => simp at ht; subst ht; exact (show Tryd.prog.wantsStandIn 51 = false by kernel_rfl)
        | 2 => simp at ht; subst ht; exact (show Tryd.prog.wantsStandIn 5 = false by kernel_rfl)
        | 3 => simp at ht; subst ht; exact (show Tryd.prog.wantsStandIn 3 = false by kernel_rfl)
        | j + 4 => simp at ht⟩)
    (by kernel_rfl)
end Go.Proofs.YtlobmblakilmiaaDoor.lawAdds
