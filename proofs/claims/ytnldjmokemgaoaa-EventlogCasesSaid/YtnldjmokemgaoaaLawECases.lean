/- Cases and Traces return the cases and traces of the reference (the law EventlogCases holds for every input; no condition). -/
import Derived.Test.YtnldjmokemgaoaaRows
import Derived.Test.YtnldjmokemgaoaaEl2
import Derived.Test.YtnldjmokemgaoaaEl3
import Derived.Test.YtnldjmokemgaoaaElA
import Derived.Test.YtnldjmokemgaoaaDecL
namespace Go.Proofs.Ytnldjmokemgaoaa.lawECases
set_option linter.unusedSimpArgs false
set_option linter.unusedVariables false
set_option linter.unnecessarySimpa false
set_option linter.unusedSectionVars false
open Go.ChangeShapes Go.WideShapes Go.ChangeAt Go.RowKit Go.Joins Go.Deep
section
variable [Glob]
set_option maxRecDepth 100000
theorem ecases_pure (l : List Evt) (hl : l.length ≤ 2000) (hsz : ∀ e ∈ l, e.case_.size ≤ maxLen) : Pure Try.prog 10 [.agg [.rs (rowsOf evtC l)]] (if logV l = true then .tup [.rs (rowsOf strC (casesL l)), .int .i64 0] else .tup [.rs [], .int .i64 1]) := by
  refine pure_of mixed Try.func10 rfl (by kernel_rfl) (of_decide_eq_true rfl) (by kernel_rfl) (vc_run ?_)
  by_cases hV : logV l = true
  · rw [if_pos hV]
    ((try simp -implicitDefEqProofs [-loopQ_n, hV]) <;> (repeat' (first | (refine condD_dec ?_ ?_ <;> (intro hc; (try simp -implicitDefEqProofs [-loopQ_n, hc, hV]))) | (refine guardD_dec ?_ ?_ <;> (intro hc; (try simp -implicitDefEqProofs [-loopQ_n, hc, hV]))) | (refine condD_intro ?_ ?_ <;> (intro hd; have hc := hd; (try simp at hc) <;> (try simp -implicitDefEqProofs [-loopQ_n, hd, hc, hV]))) | (refine guardD_intro ?_ ?_ <;> (intro hd; have hc := hd; (try simp at hc) <;> (try simp -implicitDefEqProofs [-loopQ_n, hd, hc, hV]))) | (refine ldD_ep ?_ ?_; (focus kernel_rfl); (try simp -implicitDefEqProofs [-loopQ_n, hV])) | (refine callS_mk ?_; (try simp -implicitDefEqProofs [-loopQ_n, hV]); (first | refine callS_intro (log_pure _) (.inl rfl) ?_ | refine callS_intro (cases_pure l hl hsz) (.inr ⟨rfl, rfl⟩) ?_); (try simp -implicitDefEqProofs [-loopQ_n, hV])))))
  · rw [if_neg hV]
    have hV : logV l = false := by simpa using hV
    ((try simp -implicitDefEqProofs [-loopQ_n, hV]) <;> (repeat' (first | (refine condD_dec ?_ ?_ <;> (intro hc; (try simp -implicitDefEqProofs [-loopQ_n, hc, hV]))) | (refine guardD_dec ?_ ?_ <;> (intro hc; (try simp -implicitDefEqProofs [-loopQ_n, hc, hV]))) | (refine condD_intro ?_ ?_ <;> (intro hd; have hc := hd; (try simp at hc) <;> (try simp -implicitDefEqProofs [-loopQ_n, hd, hc, hV]))) | (refine guardD_intro ?_ ?_ <;> (intro hd; have hc := hd; (try simp at hc) <;> (try simp -implicitDefEqProofs [-loopQ_n, hd, hc, hV]))) | (refine ldD_ep ?_ ?_; (focus kernel_rfl); (try simp -implicitDefEqProofs [-loopQ_n, hV])) | (refine callS_mk ?_; (try simp -implicitDefEqProofs [-loopQ_n, hV]); (first | refine callS_intro (log_pure _) (.inl rfl) ?_); (try simp -implicitDefEqProofs [-loopQ_n, hV])))))
theorem etraces_bad (l : List Evt) (hV : logV l = false) : Pure Try.prog 11 [.agg [.rs (rowsOf evtC l)]] (.tup [.rs [], .int .i64 1]) := by
  refine pure_of mixed Try.func11 rfl (by kernel_rfl) (of_decide_eq_true rfl) (by kernel_rfl) (vc_run ?_)
  ((try simp -implicitDefEqProofs [-loopQ_n, hV]) <;> (repeat' (first | (refine condD_dec ?_ ?_ <;> (intro hc; (try simp -implicitDefEqProofs [-loopQ_n, hc, hV]))) | (refine guardD_dec ?_ ?_ <;> (intro hc; (try simp -implicitDefEqProofs [-loopQ_n, hc, hV]))) | (refine condD_intro ?_ ?_ <;> (intro hd; have hc := hd; (try simp at hc) <;> (try simp -implicitDefEqProofs [-loopQ_n, hd, hc, hV]))) | (refine guardD_intro ?_ ?_ <;> (intro hd; have hc := hd; (try simp at hc) <;> (try simp -implicitDefEqProofs [-loopQ_n, hd, hc, hV]))) | (refine ldD_ep ?_ ?_; (focus kernel_rfl); (try simp -implicitDefEqProofs [-loopQ_n, hV])) | (refine callS_mk ?_; (try simp -implicitDefEqProofs [-loopQ_n, hV]); (first | refine callS_intro (log_pure _) (.inl rfl) ?_); (try simp -implicitDefEqProofs [-loopQ_n, hV])))))
theorem tr_put (al : Al) (e : Evt) : trStep al e = if e.life = 5 then aput al e.case_ ((alook al e.case_).getD [] ++ [e.act]) else al := by
  unfold trStep aput alook
  split
  · cases afind e.case_ al 0 <;> rfl
  · rfl
theorem tr_alook (c : ByteArray) : ∀ (l : List Evt) (al : Al), (alook (l.foldl trStep al) c).getD [] = (alook al c).getD [] ++ wordL l c := by
  intro l
  induction l with
  | nil => intro al; simp [wordL]
  | cons e l ih =>
    intro al
    rw [List.foldl_cons, ih, tr_put]
    by_cases h5 : e.life = 5
    · rw [if_pos h5, alook_put]
      by_cases hc : e.case_ = c
      · subst hc
        simp [wordL, wordE, h5]
      · have hw : wordL (e :: l) c = wordL l c := by simp [wordL, wordE, hc]
        simp [hw, hc]
    · have hw : wordL (e :: l) c = wordL l c := by simp [wordL, wordE, h5]
      rw [if_neg h5, hw]
def trC (l : List Evt) (c : ByteArray) : List AV := [.str c, .rs (rowsOf strC (wordL l c))]
theorem trC_eq (l : List Evt) : (fun c => [.str c, .rs (rowsOf strC ((alook (trL l) c).getD []))]) = trC l := by
  funext c
  rw [trL, tr_alook]
  simp [trC, alook, afind]
theorem word_len (l : List Evt) (c : ByteArray) : (wordL l c).length ≤ l.length := by
  simp only [wordL, List.length_map]
  exact List.length_filter_le _ _
set_option maxHeartbeats 8000000 in
theorem both (x0 : AV) (s0 : argS Try.prog 24 x0) : Pure Try.prog 3 [x0] (.bool true) := by
  obtain ⟨l, rfl, hl, hd⟩ := log_dec s0
  rw [maxLen_eq] at hl
  have hd : ∀ e ∈ l, e.data.length ≤ 9223372036854775807 := fun e he => by have := hd e he; rwa [maxLen_eq] at this
  refine pure_of mixed Try.func3 rfl (by kernel_rfl) (of_decide_eq_true rfl) (by kernel_rfl) (vc_run ?_)
  by_cases hS : smallB l = true
  rotate_left
  · have hS : smallB l = false := by simpa using hS
    ((try simp -implicitDefEqProofs [-loopQ_n, hS]) <;> (repeat' (first | (refine condD_dec ?_ ?_ <;> (intro hc; (try simp -implicitDefEqProofs [-loopQ_n, hc, hS]))) | (refine guardD_dec ?_ ?_ <;> (intro hc; (try simp -implicitDefEqProofs [-loopQ_n, hc, hS]))) | (refine condD_intro ?_ ?_ <;> (intro hd; have hc := hd; (try simp at hc) <;> (try simp -implicitDefEqProofs [-loopQ_n, hd, hc, hS]))) | (refine guardD_intro ?_ ?_ <;> (intro hd; have hc := hd; (try simp at hc) <;> (try simp -implicitDefEqProofs [-loopQ_n, hd, hc, hS]))) | (refine ldD_ep ?_ ?_; (focus kernel_rfl); (try simp -implicitDefEqProofs [-loopQ_n, hS])) | (refine callS_mk ?_; (try simp -implicitDefEqProofs [-loopQ_n, hS]); (first | refine callS_intro (awake_pure) (.inl rfl) ?_ | refine callS_intro (small_pure _ hl hd) (.inl rfl) ?_); (try simp -implicitDefEqProofs [-loopQ_n, hS])))))
  obtain ⟨hl40, hpl⟩ := small_spec hS
  have hsz : ∀ e ∈ l, e.case_.size ≤ maxLen := fun e he => by have := plain_case (hpl e he); rw [maxLen_eq]; omega
  have hC := ecases_pure l (by omega) hsz
  by_cases hV : logV l = true
  rotate_left
  · have hV : logV l = false := by simpa using hV
    rw [if_neg (by simp [hV])] at hC
    ((try simp -implicitDefEqProofs [-loopQ_n, hS, hV]) <;> (repeat' (first | (refine condD_dec ?_ ?_ <;> (intro hc; (try simp -implicitDefEqProofs [-loopQ_n, hc, hS, hV]))) | (refine guardD_dec ?_ ?_ <;> (intro hc; (try simp -implicitDefEqProofs [-loopQ_n, hc, hS, hV]))) | (refine condD_intro ?_ ?_ <;> (intro hd; have hc := hd; (try simp at hc) <;> (try simp -implicitDefEqProofs [-loopQ_n, hd, hc, hS, hV]))) | (refine guardD_intro ?_ ?_ <;> (intro hd; have hc := hd; (try simp at hc) <;> (try simp -implicitDefEqProofs [-loopQ_n, hd, hc, hS, hV]))) | (refine ldD_ep ?_ ?_; (focus kernel_rfl); (try simp -implicitDefEqProofs [-loopQ_n, hS, hV])) | (refine callS_mk ?_; (try simp -implicitDefEqProofs [-loopQ_n, hS, hV]); (first | refine callS_intro (awake_pure) (.inl rfl) ?_ | refine callS_intro (small_pure _ hl hd) (.inl rfl) ?_ | refine callS_intro (hC) (.inr ⟨rfl, rfl⟩) ?_ | refine callS_intro (etraces_bad l hV) (.inr ⟨rfl, rfl⟩) ?_ | refine callS_intro (rlog_pure l) (.inl rfl) ?_); (try simp -implicitDefEqProofs [-loopQ_n, hS, hV])))))
  rw [if_pos hV] at hC
  have hT := traces_pure l (by omega) hsz hV
  rw [trC_eq] at hT
  generalize hcs : casesL l = cs at hC hT
  have hcl : cs.length ≤ 2000 := by rw [← hcs]; exact cases_len (by omega)
  have hrc := rcases_pure l (by omega)
  rw [hcs] at hrc
  ((try simp -implicitDefEqProofs [-loopQ_n, hS, hV]) <;> (repeat' (first | (refine condD_dec ?_ ?_ <;> (intro hc; (try simp -implicitDefEqProofs [-loopQ_n, hc, hS, hV]))) | (refine guardD_dec ?_ ?_ <;> (intro hc; (try simp -implicitDefEqProofs [-loopQ_n, hc, hS, hV]))) | (refine condD_intro ?_ ?_ <;> (intro hd; have hc := hd; (try simp at hc) <;> (try simp -implicitDefEqProofs [-loopQ_n, hd, hc, hS, hV]))) | (refine guardD_intro ?_ ?_ <;> (intro hd; have hc := hd; (try simp at hc) <;> (try simp -implicitDefEqProofs [-loopQ_n, hd, hc, hS, hV]))) | (refine ldD_ep ?_ ?_; (focus kernel_rfl); (try simp -implicitDefEqProofs [-loopQ_n, hS, hV])) | (refine callS_mk ?_; (try simp -implicitDefEqProofs [-loopQ_n, hS, hV]); (first | refine callS_intro (awake_pure) (.inl rfl) ?_ | refine callS_intro (small_pure _ hl hd) (.inl rfl) ?_ | refine callS_intro (hC) (.inr ⟨rfl, rfl⟩) ?_ | refine callS_intro (hT) (.inr ⟨rfl, rfl⟩) ?_ | refine callS_intro (rlog_pure l) (.inl rfl) ?_ | refine callS_intro (hrc) (.inr ⟨rfl, rfl⟩) ?_ | refine callS_intro (eqS_pure _ _ (by omega) (by omega)) (.inl rfl) ?_); (try simp -implicitDefEqProofs [-loopQ_n, hS, hV])))))
  refine loop_intro (σ := Nat) (fun i => ⟨[(1, .op 0 0), (7, .rs (rowsOf strC cs)), (68, .rs (rowsOf (trC l) cs)), (69, .int .i64 cs.length), (70, .int .i64 i)], [.box 24 [.rs (rowsOf evtC l)]]⟩) (fun i => i ≤ cs.length) (fun i => cs.length - i) 0 (by simp) ?_ ?_
  · refine weak_of 1 0 rfl rfl ?_ ?_ <;> simp
  rintro i hi
  by_cases h : i < cs.length
  · have w1 : wrapI .i64 ((i : Int) + 1) = ((i + 1 : Nat) : Int) := by rw [wrap_in (by omega) (by omega)]; omega
    have hwl := word_len l cs[i]
    ((try simp -implicitDefEqProofs [-loopQ_n, h, trC]) <;> (repeat' (first | (refine condD_dec ?_ ?_ <;> (intro hc; (try simp -implicitDefEqProofs [-loopQ_n, hc, h, trC]))) | (refine guardD_dec ?_ ?_ <;> (intro hc; (try simp -implicitDefEqProofs [-loopQ_n, hc, h, trC]))) | (refine condD_intro ?_ ?_ <;> (intro hd; have hc := hd; (try simp at hc) <;> (try simp -implicitDefEqProofs [-loopQ_n, hd, hc, h, trC]))) | (refine guardD_intro ?_ ?_ <;> (intro hd; have hc := hd; (try simp at hc) <;> (try simp -implicitDefEqProofs [-loopQ_n, hd, hc, h, trC]))) | (refine ldD_ep ?_ ?_; (focus kernel_rfl); (try simp -implicitDefEqProofs [-loopQ_n, h, trC])) | (refine callS_mk ?_; (try simp -implicitDefEqProofs [-loopQ_n, h, trC]); (first | refine callS_intro (rword_pure l cs[i] (by omega)) (.inr ⟨rfl, rfl⟩) ?_ | refine callS_intro (eqS_pure _ _ (by omega) (by omega)) (.inl rfl) ?_); (try simp -implicitDefEqProofs [-loopQ_n, h, trC])))))
    all_goals (refine loop_next (i + 1) (by omega) (by omega) (weak_of 1 0 rfl rfl ?_ ?_) <;> simp [w1])
  · ((try simp -implicitDefEqProofs [-loopQ_n, h]) <;> (repeat' (first | (refine condD_dec ?_ ?_ <;> (intro hc; (try simp -implicitDefEqProofs [-loopQ_n, hc, h]))) | (refine guardD_dec ?_ ?_ <;> (intro hc; (try simp -implicitDefEqProofs [-loopQ_n, hc, h]))) | (refine condD_intro ?_ ?_ <;> (intro hd; have hc := hd; (try simp at hc) <;> (try simp -implicitDefEqProofs [-loopQ_n, hd, hc, h]))) | (refine guardD_intro ?_ ?_ <;> (intro hd; have hc := hd; (try simp at hc) <;> (try simp -implicitDefEqProofs [-loopQ_n, hd, hc, h]))) | (refine ldD_ep ?_ ?_; (focus kernel_rfl); (try simp -implicitDefEqProofs [-loopQ_n, h])))))
theorem walk (W : World) (hvo : VarsOk W (fun _ => False)) (v0 : Value) (x0 : AV) (r0 : RO W (fun _ => False) x0 v0) (s0 : argS Try.prog 24 x0) :
    Calls Try.prog 3 #[v0] W fun e w' => e = .returned (.bool true) ∧ Below W.heap.size W w' := by
  refine ((both x0 s0).2 W (fun _ => False) _ (fun _ h => h.elim) hvo rfl ?_).mono ?_
  · intro j x v hj hv
    match j with
    | 0 => simp at hj hv; subst hj hv; exact r0
    | j + 1 => simp at hj
  · rintro e w' ⟨v, rfl, hv, hb⟩
    rw [ro_tt hv]
    exact ⟨rfl, hb⟩
end
set_option maxRecDepth 100000 in
theorem lifted (os : Os) (started : os.Started) (H : Type) (enc : TypeId × Value → H) :
    ReturnsInHanded {} Try.checked os 3 .any (Rows.eventlogCasesSpec.pre6 enc Try.prog Try.f3 Rows.eventlogCasesRow.domain false) (Rows.eventlogCasesSpec.post enc Try.prog Try.f3 false true false false) := by
  refine returnsInHanded_of_change (C := Try.checked) (@ownK ⟨fun _ => none⟩) started (by kernel_rfl) Try.func3
    (ChangeSpec.witness6 (enc := enc) (C := Try.checked) false ⟨#[], #[.agg #[.slice none 0 0]], []⟩ 8 (by kernel_rfl) (by kernel_rfl) (by kernel_rfl) (by kernel_rfl)) ?_
  intro W base args ds gs before hval0 hW hcnd _
  have hval : ∀ (j : Nat) t v, Try.f3.params[j]? = some t → args[j]? = some v → Value.okWide Try.prog W .any base t v := hval0
  have hW' := hW
  obtain ⟨p, q, hA0, hV, rfl, hfz, hnd⟩ := hW
  have hA : DataW.TrodAll enc Try.prog W 0 (fun _ => true) true Try.f3.params.toList args.toList ds p := hA0
  rw [Try.params3] at hA hval
  obtain ⟨v0, vs0, d0, ds0, p0, q0, hargs, rfl, rfl, h0, r0⟩ := trodAll_cons hA
  obtain ⟨rfl, rfl, rfl⟩ := trodAll_nil r0
  obtain rfl : args = #[v0] := by cases args; simp_all
  obtain ⟨rfl, rfl⟩ := trodVars_none hV
  letI : Glob := ⟨fun _ => none⟩
  have k0 := h0
  have lt0 : ∀ x ∈ p0, x.block < W.heap.size := by obtain ⟨m, hm⟩ := k0; exact DataW.trod_lt m _ _ _ hm
  obtain ⟨x0, y0, s0⟩ := arg_open (P := Try.prog) (t := 24) (by kernel_rfl) (by kernel_rfl) (hval 0 24 v0 rfl rfl) h0
  clear hA0 hval0
  refine (walk W (fun g row h => by cases h) v0 x0 y0 s0).mono fun e W' ⟨he, bel⟩ => ?_
  subst he
  exact ⟨_, rfl, _, _, _, [], _, [], hW', trodAll_mk1 (shut_bool Try.underlying4 _), (trodAll_cons_mk (Below.trod laidK (by kernel_rfl) (of_decide_eq_true (by kernel_rfl)) k0 bel lt0) trodAll_mk0), rfl, bel.frame _, fun h => by cases h⟩

theorem over : Rows.eventlogCasesRow.holds Try.pinned (OpenSpec.ofChange Rows.eventlogCasesSpec) :=
  OpenClaim.holds_of_wide 3 Try.f3 rfl rfl rfl rfl rfl rfl rfl ⟨rfl, rfl, rfl, rfl, rfl⟩ rfl rfl rfl rfl rfl (by kernel_rfl) Try.func3 (by kernel_rfl)
    (of_decide_eq_true (by kernel_rfl)) (by unfold Func.isWrapper; first | (rw [if_pos (by decide +kernel)]; kernel_rfl) | (rw [if_neg (by decide +kernel)]; exact ⟨rfl, rfl⟩))
    (fun os started H enc _ => lifted os started H enc)

theorem proved : Rows.EventlogCasesSaid := over
end Go.Proofs.Ytnldjmokemgaoaa.lawECases
