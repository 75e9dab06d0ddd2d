/- Valid, Types, and Flatten return what the reference does (the law ObjectsFlatten holds for every input; no condition). -/
import Derived.Test.YteclpabcfcpifaaRows
import Derived.Test.YteclpabcfcpifaaObj3
import Derived.Test.YteclpabcfcpifaaObD
import Derived.Test.YteclpabcfcpifaaObj12
namespace Go.Proofs.Yteclpabcfcpifaa.lawFlatten
set_option linter.unusedSimpArgs false
set_option linter.unusedVariables false
set_option linter.unnecessarySimpa false
set_option linter.unusedSectionVars false
open Go.ChangeShapes Go.WideShapes Go.ChangeAt Go.RowKit Go.Joins Go.Deep
section
variable [Glob]
set_option maxRecDepth 100000
theorem flat_bd (l : List Obj) (t : ByteArray) : (flatOut l t).1.length ≤ 9223372036854775807 ∧ ∀ e ∈ (flatOut l t).1, e.data = [] := by
  have hF : ∀ e ∈ flatEv l t, e.data = [] := fun e he => by
    simp only [flatEv, List.mem_flatMap, List.mem_map] at he
    obtain ⟨o, _, r, _, rfl⟩ := he
    rfl
  by_cases h : objV l = true ∧ isNameS t = true
  · have hsm := objV_small h.1
    have := flatEv_len (t := t) hsm.2
    have := hsm.1
    unfold flatOut
    rw [if_pos h]
    split
    · simp
    · split
      · simp
      · exact ⟨by simp only; omega, hF⟩
  · unfold flatOut; rw [if_neg h]; simp
set_option maxHeartbeats 8000000 in
theorem both (x0 : AV) (s0 : argS Try.prog 24 x0) (x1 : AV) (s1 : argS Try.prog 9 x1) :
    Pure Try.prog 5 [x0, x1] (.bool true) := by
  obtain ⟨l, rfl, hl, hd⟩ := log_dec s0
  obtain ⟨kind, rfl, _⟩ := arg_str Try.underlying9 s1
  rw [maxLen_eq] at hl
  have hd : ∀ e ∈ l, e.refs.length ≤ 9223372036854775807 := fun e he => by have := hd e he; rwa [maxLen_eq] at this
  refine pure_of mixed Try.func5 rfl (by kernel_rfl) (of_decide_eq_true rfl) (by kernel_rfl) (vc_run ?_)
  by_cases hV : objV l = true
  · have hbd := flat_bd l kind
    obtain ⟨⟨es, k⟩, hx⟩ : ∃ x, flatOut l kind = x := ⟨_, rfl⟩
    have hsm := objV_small hV
    have hln := hsm.1
    have hal := allT_len hsm.2
    have hsl : (setB (allT l)).length ≤ 9223372036854775807 := by have := setB_len_le (allT l) []; simp only [List.length_nil] at this; unfold setB; omega
    rw [hx] at hbd
    have hT : typesOut l = (setB (allT l), 0) := by unfold typesOut; rw [if_pos hV]
    ((try simp -implicitDefEqProofs [-loopQ_n, hV, hT, hx]) <;> (repeat' (first | (refine condD_dec ?_ ?_ <;> (intro hc; (try simp -implicitDefEqProofs [-loopQ_n, hc, hV, hT, hx]))) | (refine guardD_dec ?_ ?_ <;> (intro hc; (try simp -implicitDefEqProofs [-loopQ_n, hc, hV, hT, hx]))) | (refine condD_intro ?_ ?_ <;> (intro hd; have hc := hd; (try simp at hc) <;> (try simp -implicitDefEqProofs [-loopQ_n, hd, hc, hV, hT, hx]))) | (refine guardD_intro ?_ ?_ <;> (intro hd; have hc := hd; (try simp at hc) <;> (try simp -implicitDefEqProofs [-loopQ_n, hd, hc, hV, hT, hx]))) | (refine callS_mk ?_; (try simp -implicitDefEqProofs [-loopQ_n, hV, hT, hx]); (first | refine callS_intro (awake_pure) (.inl rfl) ?_ | refine callS_intro (few_pure _ hl hd) (.inl rfl) ?_ | refine callS_intro (otypes_pure _) (.inr ⟨rfl, rfl⟩) ?_ | refine callS_intro (oflat_pure _ _) (.inr ⟨rfl, rfl⟩) ?_ | refine callS_intro (rflat_pure _ _) (.inr ⟨rfl, rfl⟩) ?_ | refine callS_intro (rovalid_pure _) (.inl rfl) ?_ | refine callS_intro (ovalid_pure _) (.inl rfl) ?_ | refine callS_intro (rtypes_pure _ hV) (.inr ⟨rfl, rfl⟩) ?_ | refine callS_intro (equalS_pure _ _ hsl hsl) (.inl rfl) ?_ | refine callS_intro (same12_refl _ hbd.1 hbd.2) (.inl rfl) ?_); (try simp -implicitDefEqProofs [-loopQ_n, hV, hT, hx])))))
  · have hV : objV l = false := by simpa using hV
    have hx : flatOut l kind = ([], 1) := by unfold flatOut; rw [if_neg (by simp [hV])]
    have hT : typesOut l = ([], 1) := by unfold typesOut; rw [if_neg (by simp [hV])]
    ((try simp -implicitDefEqProofs [-loopQ_n, hV, hT, hx]) <;> (repeat' (first | (refine condD_dec ?_ ?_ <;> (intro hc; (try simp -implicitDefEqProofs [-loopQ_n, hc, hV, hT, hx]))) | (refine guardD_dec ?_ ?_ <;> (intro hc; (try simp -implicitDefEqProofs [-loopQ_n, hc, hV, hT, hx]))) | (refine condD_intro ?_ ?_ <;> (intro hd; have hc := hd; (try simp at hc) <;> (try simp -implicitDefEqProofs [-loopQ_n, hd, hc, hV, hT, hx]))) | (refine guardD_intro ?_ ?_ <;> (intro hd; have hc := hd; (try simp at hc) <;> (try simp -implicitDefEqProofs [-loopQ_n, hd, hc, hV, hT, hx]))) | (refine callS_mk ?_; (try simp -implicitDefEqProofs [-loopQ_n, hV, hT, hx]); (first | refine callS_intro (awake_pure) (.inl rfl) ?_ | refine callS_intro (few_pure _ hl hd) (.inl rfl) ?_ | refine callS_intro (otypes_pure _) (.inr ⟨rfl, rfl⟩) ?_ | refine callS_intro (oflat_pure _ _) (.inr ⟨rfl, rfl⟩) ?_ | refine callS_intro (rflat_pure _ _) (.inr ⟨rfl, rfl⟩) ?_ | refine callS_intro (rovalid_pure _) (.inl rfl) ?_ | refine callS_intro (ovalid_pure _) (.inl rfl) ?_); (try simp -implicitDefEqProofs [-loopQ_n, hV, hT, hx])))))
theorem walk (W : World) (hvo : VarsOk W (fun _ => False)) (v0 : Value) (x0 : AV) (r0 : RO W (fun _ => False) x0 v0) (s0 : argS Try.prog 24 x0) (v1 : Value) (x1 : AV) (r1 : RO W (fun _ => False) x1 v1) (s1 : argS Try.prog 9 x1) :
    Calls Try.prog 5 #[v0, v1] W fun e w' => e = .returned (.bool true) ∧ Below W.heap.size W w' := by
  refine ((both x0 s0 x1 s1).2 W (fun _ => False) _ (fun _ h => h.elim) hvo rfl ?_).mono ?_
  · intro j x v hj hv
    match j with
    | 0 => simp at hj hv; subst hj hv; exact r0
    | 1 => simp at hj hv; subst hj hv; exact r1
    | j + 2 => simp at hj
  · rintro e w' ⟨v, rfl, hv, hb⟩
    rw [ro_tt hv]
    exact ⟨rfl, hb⟩
end
set_option maxRecDepth 100000 in
theorem lifted (os : Os) (started : os.Started) (H : Type) (enc : TypeId × Value → H) :
    ReturnsInHanded {} Try.checked os 5 .any (Rows.objectsFlattenSpec.pre6 enc Try.prog Try.f5 Rows.objectsFlattenRow.domain false) (Rows.objectsFlattenSpec.post enc Try.prog Try.f5 false true false false) := by
  refine returnsInHanded_of_change (C := Try.checked) (@ownK ⟨fun _ => none⟩) started (by kernel_rfl) Try.func5
    (ChangeSpec.witness6 (enc := enc) (C := Try.checked) false ⟨#[], #[.agg #[.slice none 0 0], .string ByteArray.empty], []⟩ 8 (by kernel_rfl) (by kernel_rfl) (by kernel_rfl) (by kernel_rfl)) ?_
  intro W base args ds gs before hval0 hW hcnd _
  have hval : ∀ (j : Nat) t v, Try.f5.params[j]? = some t → args[j]? = some v → Value.okWide Try.prog W .any base t v := hval0
  have hW' := hW
  obtain ⟨p, q, hA0, hV, rfl, hfz, hnd⟩ := hW
  have hA : DataW.TrodAll enc Try.prog W 0 (fun _ => true) true Try.f5.params.toList args.toList ds p := hA0
  rw [Try.params5] at hA hval
  obtain ⟨v0, vs0, d0, ds0, p0, q0, hargs, rfl, rfl, h0, r0⟩ := trodAll_cons hA
  obtain ⟨v1, vs1, d1, ds1, p1, q1, rfl, rfl, rfl, h1, r1⟩ := trodAll_cons r0
  obtain ⟨rfl, rfl, rfl⟩ := trodAll_nil r1
  obtain rfl : args = #[v0, v1] := by cases args; simp_all
  obtain ⟨rfl, rfl⟩ := trodVars_none hV
  letI : Glob := ⟨fun _ => none⟩
  have k0 := h0
  have lt0 : ∀ x ∈ p0, x.block < W.heap.size := by obtain ⟨m, hm⟩ := k0; exact DataW.trod_lt m _ _ _ hm
  obtain ⟨x0, y0, s0⟩ := arg_open (P := Try.prog) (t := 24) (by kernel_rfl) (by kernel_rfl) (hval 0 24 v0 rfl rfl) h0
  have k1 := h1
  have lt1 : ∀ x ∈ p1, x.block < W.heap.size := by obtain ⟨m, hm⟩ := k1; exact DataW.trod_lt m _ _ _ hm
  obtain ⟨x1, y1, s1⟩ := arg_open (P := Try.prog) (t := 9) (by kernel_rfl) (by kernel_rfl) (hval 1 9 v1 rfl rfl) h1
  clear hA0 hval0
  refine (walk W (fun g row h => by cases h) v0 x0 y0 s0 v1 x1 y1 s1).mono fun e W' ⟨he, bel⟩ => ?_
  subst he
  exact ⟨_, rfl, _, _, _, [], _, [], hW', trodAll_mk1 (shut_bool Try.underlying4 _), (trodAll_cons_mk (Below.trod laidK (by kernel_rfl) (of_decide_eq_true (by kernel_rfl)) k0 bel lt0) (trodAll_cons_mk (Below.trod laidK (by kernel_rfl) (of_decide_eq_true (by kernel_rfl)) k1 bel lt1) trodAll_mk0)), rfl, bel.frame _, fun h => by cases h⟩

theorem over : Rows.objectsFlattenRow.holds Try.pinned (OpenSpec.ofChange Rows.objectsFlattenSpec) :=
  OpenClaim.holds_of_wide 5 Try.f5 rfl rfl rfl rfl rfl rfl rfl ⟨rfl, rfl, rfl, rfl, rfl⟩ rfl rfl rfl rfl rfl (by kernel_rfl) Try.func5 (by kernel_rfl)
    (of_decide_eq_true (by kernel_rfl)) (by unfold Func.isWrapper; first | (rw [if_pos (by decide +kernel)]; kernel_rfl) | (rw [if_neg (by decide +kernel)]; exact ⟨rfl, rfl⟩))
    (fun os started H enc _ => lifted os started H enc)

theorem proved : Rows.ObjectsFlattenSaid := over
end Go.Proofs.Yteclpabcfcpifaa.lawFlatten
