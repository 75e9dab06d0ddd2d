/- Instances returns the instances that the reference does, and Valid says the same (the law SpansInstances holds for every input; no condition). -/
import Derived.Test.YtpgoefakhecdnaaRows
import Derived.Test.YtpgoefakhecdnaaInsW
import Derived.Test.YtpgoefakhecdnaaInsV
import Derived.Test.YtpgoefakhecdnaaDecL
namespace Go.Proofs.Ytpgoefakhecdnaa.lawSInst
set_option linter.unusedSimpArgs false
set_option linter.unusedVariables false
set_option linter.unnecessarySimpa false
set_option linter.unusedSectionVars false
open Go.ChangeShapes Go.WideShapes Go.ChangeAt Go.RowKit Go.Joins Go.Deep
section
variable [Glob]
set_option maxRecDepth 100000
theorem i_ins : Try.prog.cellsOf 26 = 6 := by kernel_rfl
theorem arg_inst {x : AV} (h : argS Try.prog 26 x) : ∃ v : Ins, x = .agg (insC v) := by
  obtain ⟨l, rfl, hl, hf⟩ := arg_struct Try.underlying26 h
  rw [i_ins] at hl
  match l, hl with
  | [a, b, c, d, e, f], _ =>
    simp only [List.mem_cons, List.not_mem_nil, or_false, forall_eq_or_imp, forall_eq, c_int, c_str] at hf
    obtain ⟨f1, f2, f3, f4, f5, f6⟩ := hf
    obtain ⟨s1, h1, _⟩ := shp_str Try.underlying9 f1
    obtain ⟨s2, h2, _⟩ := shp_str Try.underlying9 f2
    obtain ⟨s3, h3, _⟩ := shp_str Try.underlying9 f3
    obtain ⟨x, h4, w4⟩ := shp_int Try.underlying3 f4
    obtain ⟨y, h5, w5⟩ := shp_int Try.underlying3 f5
    obtain ⟨z, h6, w6⟩ := shp_int Try.underlying3 f6
    simp at h1 h2 h3 h4 h5 h6
    exact ⟨⟨s1, s2, s3, x, y, z⟩, by rw [h1, h2, h3, h4, h5, h6]; rfl⟩
theorem run_len : ∀ (l : List Evt) (f : Of) (out : List Ins), (runI f out l).1.length ≤ out.length + l.length := by
  intro l
  induction l with
  | nil => intro f out; simp [runI]
  | cons e r ih =>
    intro f out
    simp only [runI]
    split
    · simp
    · rename_i L x _
      have h := ih (updF f (kyE e) L) (out ++ outE e x)
      have := outE_len (e := e) (x := x)
      simp only [List.length_append, List.length_cons] at h ⊢
      omega
theorem inst_len (l : List Evt) : (instL l).1.length ≤ 1000000 := by
  unfold instL
  split
  · rename_i h
    have h1 := run_len l (fun _ => []) []
    have h2 := log_len h
    simp only [List.length_nil] at h1
    omega
  · simp
set_option maxHeartbeats 8000000 in
theorem main (l : List Evt) (x : Ins) (hl : l.length ≤ 9223372036854775807) (hd : ∀ e ∈ l, e.data.length ≤ 9223372036854775807) : Pure Try.prog 3 [.agg [.rs (rowsOf evtC l)], .agg (insC x)] (.bool true) := by
  have hI := instances_pure l
  have hR := rinstances_pure l
  rw [instR_eq] at hR
  have hlen := inst_len l
  generalize instL l = U at *
  obtain ⟨u1, u2⟩ := U
  simp only [insO] at hI hR hlen
  have hS := rsameI_pure u1 hlen
  have hV := svalid1_pure x
  have hW := rsvalid1_pure x
  have hF := sfew_pure [x] (by simp)
  have hG := lgd_pure l hl hd
  obtain ⟨c, a, r, t1, t2, t3⟩ := x
  simp only [rowsOf, List.map_cons, List.map_nil, insC] at hV hW hF
  simp only [insC]
  refine pure_of mixed Try.func3 rfl (by kernel_rfl) (of_decide_eq_true rfl) (by kernel_rfl) (vc_run ?_)
  by_cases g1 : lgdB l = true
  rotate_left
  · have g1 : lgdB l = false := by simpa using g1
    ((try simp -implicitDefEqProofs [-loopQ_n, g1]) <;> (repeat' (first | (refine condD_dec ?_ ?_ <;> (intro hc; (try simp -implicitDefEqProofs [-loopQ_n, hc, g1]))) | (refine guardD_dec ?_ ?_ <;> (intro hc; (try simp -implicitDefEqProofs [-loopQ_n, hc, g1]))) | (refine condD_intro ?_ ?_ <;> (intro hd; have hc := hd; (try simp at hc) <;> (try simp -implicitDefEqProofs [-loopQ_n, hd, hc, g1]))) | (refine guardD_intro ?_ ?_ <;> (intro hd; have hc := hd; (try simp at hc) <;> (try simp -implicitDefEqProofs [-loopQ_n, hd, hc, g1]))) | (refine ldD_ep ?_ ?_; (focus kernel_rfl); (try simp -implicitDefEqProofs [-loopQ_n, g1])) | (refine callS_mk ?_; (try simp -implicitDefEqProofs [-loopQ_n, g1]); (first | refine callS_intro (awake_pure) (.inl rfl) ?_ | refine callS_intro (hG) (.inl rfl) ?_); (try simp -implicitDefEqProofs [-loopQ_n, g1])))))
  by_cases g2 : fewI [⟨c, a, r, t1, t2, t3⟩] = true
  rotate_left
  · have g2 : fewI [⟨c, a, r, t1, t2, t3⟩] = false := by simpa using g2
    ((try simp -implicitDefEqProofs [-loopQ_n, g1, g2]) <;> (repeat' (first | (refine condD_dec ?_ ?_ <;> (intro hc; (try simp -implicitDefEqProofs [-loopQ_n, hc, g1, g2]))) | (refine guardD_dec ?_ ?_ <;> (intro hc; (try simp -implicitDefEqProofs [-loopQ_n, hc, g1, g2]))) | (refine condD_intro ?_ ?_ <;> (intro hd; have hc := hd; (try simp at hc) <;> (try simp -implicitDefEqProofs [-loopQ_n, hd, hc, g1, g2]))) | (refine guardD_intro ?_ ?_ <;> (intro hd; have hc := hd; (try simp at hc) <;> (try simp -implicitDefEqProofs [-loopQ_n, hd, hc, g1, g2]))) | (refine ldD_ep ?_ ?_; (focus kernel_rfl); (try simp -implicitDefEqProofs [-loopQ_n, g1, g2])) | (refine callS_mk ?_; (try simp -implicitDefEqProofs [-loopQ_n, g1, g2]); (first | refine callS_intro (awake_pure) (.inl rfl) ?_ | refine callS_intro (hG) (.inl rfl) ?_ | refine callS_intro (hF) (.inl rfl) ?_); (try simp -implicitDefEqProofs [-loopQ_n, g1, g2])))))
  generalize insV ⟨c, a, r, t1, t2, t3⟩ = v at *
  cases v with
  | true => ((try simp -implicitDefEqProofs [-loopQ_n, g1, g2, ins_reify]) <;> (repeat' (first | (refine condD_dec ?_ ?_ <;> (intro hc; (try simp -implicitDefEqProofs [-loopQ_n, hc, g1, g2, ins_reify]))) | (refine guardD_dec ?_ ?_ <;> (intro hc; (try simp -implicitDefEqProofs [-loopQ_n, hc, g1, g2, ins_reify]))) | (refine condD_intro ?_ ?_ <;> (intro hd; have hc := hd; (try simp at hc) <;> (try simp -implicitDefEqProofs [-loopQ_n, hd, hc, g1, g2, ins_reify]))) | (refine guardD_intro ?_ ?_ <;> (intro hd; have hc := hd; (try simp at hc) <;> (try simp -implicitDefEqProofs [-loopQ_n, hd, hc, g1, g2, ins_reify]))) | (refine ldD_ep ?_ ?_; (focus kernel_rfl); (try simp -implicitDefEqProofs [-loopQ_n, g1, g2, ins_reify])) | (refine callS_mk ?_; (try simp -implicitDefEqProofs [-loopQ_n, g1, g2, ins_reify]); (first | refine callS_intro (awake_pure) (.inl rfl) ?_ | refine callS_intro (hG) (.inl rfl) ?_ | refine callS_intro (hF) (.inl rfl) ?_ | refine callS_intro (hI) (.inr ⟨rfl, rfl⟩) ?_ | refine callS_intro (hR) (.inr ⟨rfl, rfl⟩) ?_ | refine callS_intro (hS) (.inl rfl) ?_ | refine callS_intro (hV) (.inl rfl) ?_ | refine callS_intro (hW) (.inl rfl) ?_); (try simp -implicitDefEqProofs [-loopQ_n, g1, g2, ins_reify])))))
  | false => ((try simp -implicitDefEqProofs [-loopQ_n, g1, g2, ins_reify]) <;> (repeat' (first | (refine condD_dec ?_ ?_ <;> (intro hc; (try simp -implicitDefEqProofs [-loopQ_n, hc, g1, g2, ins_reify]))) | (refine guardD_dec ?_ ?_ <;> (intro hc; (try simp -implicitDefEqProofs [-loopQ_n, hc, g1, g2, ins_reify]))) | (refine condD_intro ?_ ?_ <;> (intro hd; have hc := hd; (try simp at hc) <;> (try simp -implicitDefEqProofs [-loopQ_n, hd, hc, g1, g2, ins_reify]))) | (refine guardD_intro ?_ ?_ <;> (intro hd; have hc := hd; (try simp at hc) <;> (try simp -implicitDefEqProofs [-loopQ_n, hd, hc, g1, g2, ins_reify]))) | (refine ldD_ep ?_ ?_; (focus kernel_rfl); (try simp -implicitDefEqProofs [-loopQ_n, g1, g2, ins_reify])) | (refine callS_mk ?_; (try simp -implicitDefEqProofs [-loopQ_n, g1, g2, ins_reify]); (first | refine callS_intro (awake_pure) (.inl rfl) ?_ | refine callS_intro (hG) (.inl rfl) ?_ | refine callS_intro (hF) (.inl rfl) ?_ | refine callS_intro (hI) (.inr ⟨rfl, rfl⟩) ?_ | refine callS_intro (hR) (.inr ⟨rfl, rfl⟩) ?_ | refine callS_intro (hS) (.inl rfl) ?_ | refine callS_intro (hV) (.inl rfl) ?_ | refine callS_intro (hW) (.inl rfl) ?_); (try simp -implicitDefEqProofs [-loopQ_n, g1, g2, ins_reify])))))
theorem both (x0 : AV) (s0 : argS Try.prog 24 x0) (x1 : AV) (s1 : argS Try.prog 26 x1) : Pure Try.prog 3 [x0, x1] (.bool true) := by
  obtain ⟨l, rfl, hl, hd⟩ := log_dec s0
  rw [maxLen_eq] at hl
  have hd : ∀ e ∈ l, e.data.length ≤ 9223372036854775807 := fun e he => by have := hd e he; rwa [maxLen_eq] at this
  obtain ⟨x, rfl⟩ := arg_inst s1
  exact main l x hl hd
theorem walk (W : World) (hvo : VarsOk W (fun _ => False)) (v0 : Value) (x0 : AV) (r0 : RO W (fun _ => False) x0 v0) (s0 : argS Try.prog 24 x0) (v1 : Value) (x1 : AV) (r1 : RO W (fun _ => False) x1 v1) (s1 : argS Try.prog 26 x1) :
    Calls Try.prog 3 #[v0, v1] W fun e w' => e = .returned (.bool true) ∧ Below W.heap.size W w' := by
  refine ((both x0 s0 x1 s1).2 W (fun _ => False) _ (fun _ h => h.elim) hvo rfl ?_).mono ?_
  · intro j x v hj hv
    match j with
    | 0 => simp at hj hv; subst hj hv; exact r0
    | 1 => simp at hj hv; subst hj hv; exact r1
    | j + 2 => simp at hj
  · rintro e w' ⟨v, rfl, hv, hb⟩
    rw [ro_tt hv]
    exact ⟨rfl, hb⟩
end
set_option maxRecDepth 100000 in
theorem lifted (os : Os) (started : os.Started) (H : Type) (enc : TypeId × Value → H) :
    ReturnsInHanded {} Try.checked os 3 .any (Rows.spansInstancesSpec.pre6 enc Try.prog Try.f3 Rows.spansInstancesRow.domain false) (Rows.spansInstancesSpec.post enc Try.prog Try.f3 false true false false) := by
  refine returnsInHanded_of_change (C := Try.checked) (@ownK { row := fun _ => none }) started (by kernel_rfl) Try.func3
    (ChangeSpec.witness6 (enc := enc) (C := Try.checked) false ⟨#[], #[.agg #[.slice none 0 0], .agg #[.string ByteArray.empty, .string ByteArray.empty, .string ByteArray.empty, .int .i64 0, .int .i64 0, .int .i64 0]], []⟩ 8 (by kernel_rfl) (by kernel_rfl) (by kernel_rfl) (by kernel_rfl)) ?_
  intro W base args ds gs before hval0 hW hcnd _
  have hval : ∀ (j : Nat) t v, Try.f3.params[j]? = some t → args[j]? = some v → Value.okWide Try.prog W .any base t v := hval0
  have hW' := hW
  obtain ⟨p, q, hA0, hV, rfl, hfz, hnd⟩ := hW
  have hA : DataW.TrodAll enc Try.prog W 0 (fun _ => true) true Try.f3.params.toList args.toList ds p := hA0
  rw [Try.params3] at hA hval
  obtain ⟨v0, vs0, d0, ds0, p0, q0, hargs, rfl, rfl, h0, r0⟩ := trodAll_cons hA
  obtain ⟨v1, vs1, d1, ds1, p1, q1, rfl, rfl, rfl, h1, r1⟩ := trodAll_cons r0
  obtain ⟨rfl, rfl, rfl⟩ := trodAll_nil r1
  obtain rfl : args = #[v0, v1] := by cases args; simp_all
  obtain ⟨rfl, rfl⟩ := trodVars_none hV
  letI : Glob := { row := fun _ => none }
  have k0 := h0
  have lt0 : ∀ x ∈ p0, x.block < W.heap.size := by obtain ⟨m, hm⟩ := k0; exact DataW.trod_lt m _ _ _ hm
  obtain ⟨x0, y0, s0⟩ := arg_open (P := Try.prog) (t := 24) (by kernel_rfl) (by kernel_rfl) (hval 0 24 v0 rfl rfl) h0
  have k1 := h1
  have lt1 : ∀ x ∈ p1, x.block < W.heap.size := by obtain ⟨m, hm⟩ := k1; exact DataW.trod_lt m _ _ _ hm
  obtain ⟨x1, y1, s1⟩ := arg_open (P := Try.prog) (t := 26) (by kernel_rfl) (by kernel_rfl) (hval 1 26 v1 rfl rfl) h1
  clear hA0 hval0
  refine (walk W ⟨fun g row h => (by cases h), fun g cs h => (by cases h)⟩ v0 x0 y0 s0 v1 x1 y1 s1).mono fun e W' ⟨he, bel⟩ => ?_
  subst he
  exact ⟨_, rfl, _, _, _, [], _, [], hW', trodAll_mk1 (shut_bool Try.underlying4 _), (trodAll_cons_mk (Below.trod laidK (by kernel_rfl) (of_decide_eq_true (by kernel_rfl)) k0 bel lt0) (trodAll_cons_mk (Below.trod laidK (by kernel_rfl) (of_decide_eq_true (by kernel_rfl)) k1 bel lt1) trodAll_mk0)), rfl, bel.frame _, fun h => by cases h⟩

theorem over : Rows.spansInstancesRow.holds Try.pinned (OpenSpec.ofChange Rows.spansInstancesSpec) :=
  OpenClaim.holds_of_wide 3 Try.f3 rfl rfl rfl rfl rfl rfl rfl ⟨rfl, rfl, rfl, rfl, rfl⟩ rfl rfl rfl rfl rfl (by kernel_rfl) Try.func3 (by kernel_rfl)
    (of_decide_eq_true (by kernel_rfl)) (by unfold Func.isWrapper; first | (rw [if_pos (by decide +kernel)]; kernel_rfl) | (rw [if_neg (by decide +kernel)]; exact ⟨rfl, rfl⟩))
    (fun os started H enc _ => lifted os started H enc)

theorem proved : Rows.SpansInstancesSaid := over
end Go.Proofs.Ytpgoefakhecdnaa.lawSInst
