/- Merge, Select, Rename, and Shift return the logs of the reference (the law EventlogChanges holds for every input; no condition). -/
import Derived.Test.YtnldjmokemgaoaaGreatRows
import Derived.Test.YtnldjmokemgaoaaGreatElA
import Derived.Test.YtnldjmokemgaoaaGreatElM
import Derived.Test.YtnldjmokemgaoaaGreatDecV
namespace Go.Proofs.YtnldjmokemgaoaaGreat.lawEChanges
set_option linter.unusedSimpArgs false
set_option linter.unusedVariables false
set_option linter.unnecessarySimpa false
set_option linter.unusedSectionVars false
open Go.ChangeShapes Go.WideShapes Go.ChangeAt Go.RowKit Go.Joins Go.Deep
section
variable [Glob]
set_option maxRecDepth 100000
open Classical in
noncomputable def sameL (a b : List Evt) : Bool := decide (a = b)
theorem sameL_self (a : List Evt) : sameL a a = true := by simp [sameL]
/-- Lists of events that the comparison takes. -/
def Bd (r : List Evt × Int) : Prop := r.1.length ≤ 9223372036854775807 ∧ ∀ e ∈ r.1, e.data.length ≤ 9223372036854775807
theorem bd_nil (n : Int) : Bd ([], n) := ⟨by simp, by simp⟩
theorem bd_log {l : List Evt} (h : logV l = true) (n : Int) : Bd (l, n) := ⟨by have := log_lenE h; simp only; omega, fun e he => by have := evt_bd (log_evt h e he); omega⟩
theorem bd_merge (a b : List Evt) : Bd (mergeR a b) := by
  unfold mergeR
  split
  · rename_i h
    split
    · exact bd_nil _
    · have h1 := log_lenE h.1
      have h2 := log_lenE h.2
      exact ⟨by simp only [Stab.mrgG_len]; omega, fun e he => ((Stab.mrgG_mem _ _).1 he).elim (fun q => (bd_log h.1 0).2 e q) fun q => (bd_log h.2 0).2 e q⟩
  · exact bd_nil _
theorem bd_select (l : List Evt) (cs : List ByteArray) : Bd (selectR l cs) := by
  unfold selectR
  split
  · rename_i h
    split
    · exact bd_nil _
    · have h1 := log_lenE h.1
      exact ⟨Nat.le_trans (List.length_filter_le _ _) (by omega), fun e he => (bd_log h.1 0).2 e (List.mem_filter.1 he).1⟩
  · exact bd_nil _
theorem renE_data (ps : List (ByteArray × ByteArray)) (e : Evt) : (renE ps e).data = e.data := by unfold renE; split <;> rfl
theorem bd_rename (l : List Evt) (fr to_ : List ByteArray) : Bd (renameR l fr to_) := by
  unfold renameR
  split
  · rename_i h
    split
    · exact bd_nil _
    · split
      · exact bd_nil _
      · split
        · have h1 := log_lenE h.1
          refine ⟨by simp only [List.length_map]; omega, fun e he => ?_⟩
          obtain ⟨x, hx, rfl⟩ := List.mem_map.1 he
          rw [renE_data]
          exact (bd_log h.1 0).2 x hx
        · exact bd_nil _
  · exact bd_nil _
theorem shF_mem (k : Int) : ∀ (l acc : List Evt), (shF k l acc).1.length ≤ acc.length + l.length ∧ ∀ e ∈ (shF k l acc).1, e ∈ acc ∨ ∃ x ∈ l, e = shE k x := by
  intro l
  induction l with
  | nil => intro acc; exact ⟨by simp [shF], fun e he => .inl he⟩
  | cons x l ih =>
    intro acc
    unfold shF
    split
    · exact ⟨by simp, by simp⟩
    · obtain ⟨h1, h2⟩ := ih (acc ++ [shE k x])
      refine ⟨by simp at h1 ⊢; omega, fun e he => ?_⟩
      rcases h2 e he with q | ⟨y, q1, q2⟩
      · rcases List.mem_append.1 q with q | q
        · exact .inl q
        · exact .inr ⟨x, by simp, by simpa using q⟩
      · exact .inr ⟨y, by simp [q1], q2⟩
theorem bd_shift (l : List Evt) (k : Int) : Bd (shiftR l k) := by
  unfold shiftR
  split
  · rename_i h
    split
    · exact bd_nil _
    · have h1 := log_lenE h
      obtain ⟨q1, q2⟩ := shF_mem k l []
      refine ⟨by simp at q1; omega, fun e he => ?_⟩
      rcases q2 e he with q | ⟨y, q3, rfl⟩
      · simp at q
      · exact (bd_log h 0).2 y q3
  · exact bd_nil _
set_option maxHeartbeats 16000000 in
theorem both (x0 : AV) (s0 : argS Tryz.prog 24 x0) (x1 : AV) (s1 : argS Tryz.prog 24 x1) (x2 : AV) (s2 : argS Tryz.prog 34 x2) (x3 : AV) (s3 : argS Tryz.prog 34 x3) (x4 : AV) (s4 : argS Tryz.prog 3 x4) : Pure Tryz.prog 4 [x0, x1, x2, x3, x4] (.bool true) := by
  obtain ⟨a, rfl, la, da⟩ := log_dec2 s0
  obtain ⟨b, rfl, lb, db⟩ := log_dec2 s1
  obtain ⟨x, rfl, lx⟩ := arg_strs s2
  obtain ⟨y, rfl, ly⟩ := arg_strs s3
  obtain ⟨k, rfl, _⟩ := arg_int Tryz.underlying3 s4
  have sm : ∀ r : List Evt × Int, Bd r → Pure Tryz.prog 23 [.agg [.rs (rowsOf evtC r.1)], .agg [.rs (rowsOf evtC r.1)]] (.bool true) := fun r hr => by
    have h : Pure Tryz.prog 23 [.agg [.rs (rowsOf evtC r.1)], .agg [.rs (rowsOf evtC r.1)]] (.bool (sameL r.1 r.1)) := rlsame_pure r.1 r.1 hr.2 hr.2 hr.1 hr.1
    rwa [sameL_self] at h
  have m1 := merge_pure a b la lb
  have m2 := rmerge_pure a b la lb
  have m3 := sm _ (bd_merge a b)
  have e1 := select_pure a x lx
  have e2 := rselect_pure a x lx
  have e3 := sm _ (bd_select a x)
  have r1 := rename_pure a x y lx ly
  have r2 := rrename_pure a x y lx ly
  have r3 := sm _ (bd_rename a x y)
  have t1 := shift_pure a k
  have t2 := rshift_pure a k
  have t3 := sm _ (bd_shift a k)
  generalize mergeR a b = M at m1 m2 m3
  generalize selectR a x = E at e1 e2 e3
  generalize renameR a x y = R at r1 r2 r3
  generalize shiftR a k = T at t1 t2 t3
  obtain ⟨M, Me⟩ := M
  obtain ⟨E, Ee⟩ := E
  obtain ⟨R, Re⟩ := R
  obtain ⟨T, Te⟩ := T
  simp only [logO] at m1 m2 m3 e1 e2 e3 r1 r2 r3 t1 t2 t3
  have fx := few_pure x lx
  have fy := few_pure y ly
  refine pure_of mixed Tryz.func4 rfl (by kernel_rfl) (of_decide_eq_true rfl) (by kernel_rfl) (vc_run ?_)
  by_cases hS : smallB a = true
  rotate_left
  · have hS : smallB a = false := by simpa using hS
    ((try simp -implicitDefEqProofs [-loopQ_n, hS]) <;> (repeat' (first | (refine condD_dec ?_ ?_ <;> (intro hc; (try simp -implicitDefEqProofs [-loopQ_n, hc, hS]))) | (refine guardD_dec ?_ ?_ <;> (intro hc; (try simp -implicitDefEqProofs [-loopQ_n, hc, hS]))) | (refine condD_intro ?_ ?_ <;> (intro hd; have hc := hd; (try simp at hc) <;> (try simp -implicitDefEqProofs [-loopQ_n, hd, hc, hS]))) | (refine guardD_intro ?_ ?_ <;> (intro hd; have hc := hd; (try simp at hc) <;> (try simp -implicitDefEqProofs [-loopQ_n, hd, hc, hS]))) | (refine ldD_ep ?_ ?_; (focus kernel_rfl); (try simp -implicitDefEqProofs [-loopQ_n, hS])) | (refine callS_mk ?_; (try simp -implicitDefEqProofs [-loopQ_n, hS]); (first | refine callS_intro (awake_pure) (.inl rfl) ?_ | refine callS_intro (small_pure a la da) (.inl rfl) ?_); (try simp -implicitDefEqProofs [-loopQ_n, hS])))))
  by_cases hS2 : smallB b = true
  rotate_left
  · have hS2 : smallB b = false := by simpa using hS2
    ((try simp -implicitDefEqProofs [-loopQ_n, hS, hS2]) <;> (repeat' (first | (refine condD_dec ?_ ?_ <;> (intro hc; (try simp -implicitDefEqProofs [-loopQ_n, hc, hS, hS2]))) | (refine guardD_dec ?_ ?_ <;> (intro hc; (try simp -implicitDefEqProofs [-loopQ_n, hc, hS, hS2]))) | (refine condD_intro ?_ ?_ <;> (intro hd; have hc := hd; (try simp at hc) <;> (try simp -implicitDefEqProofs [-loopQ_n, hd, hc, hS, hS2]))) | (refine guardD_intro ?_ ?_ <;> (intro hd; have hc := hd; (try simp at hc) <;> (try simp -implicitDefEqProofs [-loopQ_n, hd, hc, hS, hS2]))) | (refine ldD_ep ?_ ?_; (focus kernel_rfl); (try simp -implicitDefEqProofs [-loopQ_n, hS, hS2])) | (refine callS_mk ?_; (try simp -implicitDefEqProofs [-loopQ_n, hS, hS2]); (first | refine callS_intro (awake_pure) (.inl rfl) ?_ | refine callS_intro (small_pure a la da) (.inl rfl) ?_ | refine callS_intro (small_pure b lb db) (.inl rfl) ?_); (try simp -implicitDefEqProofs [-loopQ_n, hS, hS2])))))
  by_cases hF : fewB x = true
  rotate_left
  · have hF : fewB x = false := by simpa using hF
    ((try simp -implicitDefEqProofs [-loopQ_n, hS, hS2, hF]) <;> (repeat' (first | (refine condD_dec ?_ ?_ <;> (intro hc; (try simp -implicitDefEqProofs [-loopQ_n, hc, hS, hS2, hF]))) | (refine guardD_dec ?_ ?_ <;> (intro hc; (try simp -implicitDefEqProofs [-loopQ_n, hc, hS, hS2, hF]))) | (refine condD_intro ?_ ?_ <;> (intro hd; have hc := hd; (try simp at hc) <;> (try simp -implicitDefEqProofs [-loopQ_n, hd, hc, hS, hS2, hF]))) | (refine guardD_intro ?_ ?_ <;> (intro hd; have hc := hd; (try simp at hc) <;> (try simp -implicitDefEqProofs [-loopQ_n, hd, hc, hS, hS2, hF]))) | (refine ldD_ep ?_ ?_; (focus kernel_rfl); (try simp -implicitDefEqProofs [-loopQ_n, hS, hS2, hF])) | (refine callS_mk ?_; (try simp -implicitDefEqProofs [-loopQ_n, hS, hS2, hF]); (first | refine callS_intro (awake_pure) (.inl rfl) ?_ | refine callS_intro (small_pure a la da) (.inl rfl) ?_ | refine callS_intro (small_pure b lb db) (.inl rfl) ?_ | refine callS_intro (fx) (.inl rfl) ?_); (try simp -implicitDefEqProofs [-loopQ_n, hS, hS2, hF])))))
  by_cases hG : fewB y = true
  rotate_left
  · have hG : fewB y = false := by simpa using hG
    ((try simp -implicitDefEqProofs [-loopQ_n, hS, hS2, hF, hG]) <;> (repeat' (first | (refine condD_dec ?_ ?_ <;> (intro hc; (try simp -implicitDefEqProofs [-loopQ_n, hc, hS, hS2, hF, hG]))) | (refine guardD_dec ?_ ?_ <;> (intro hc; (try simp -implicitDefEqProofs [-loopQ_n, hc, hS, hS2, hF, hG]))) | (refine condD_intro ?_ ?_ <;> (intro hd; have hc := hd; (try simp at hc) <;> (try simp -implicitDefEqProofs [-loopQ_n, hd, hc, hS, hS2, hF, hG]))) | (refine guardD_intro ?_ ?_ <;> (intro hd; have hc := hd; (try simp at hc) <;> (try simp -implicitDefEqProofs [-loopQ_n, hd, hc, hS, hS2, hF, hG]))) | (refine ldD_ep ?_ ?_; (focus kernel_rfl); (try simp -implicitDefEqProofs [-loopQ_n, hS, hS2, hF, hG])) | (refine callS_mk ?_; (try simp -implicitDefEqProofs [-loopQ_n, hS, hS2, hF, hG]); (first | refine callS_intro (awake_pure) (.inl rfl) ?_ | refine callS_intro (small_pure a la da) (.inl rfl) ?_ | refine callS_intro (small_pure b lb db) (.inl rfl) ?_ | refine callS_intro (fx) (.inl rfl) ?_ | refine callS_intro (fy) (.inl rfl) ?_); (try simp -implicitDefEqProofs [-loopQ_n, hS, hS2, hF, hG])))))
  ((try simp -implicitDefEqProofs [-loopQ_n, hS, hS2, hF, hG]) <;> (repeat' (first | (refine condD_dec ?_ ?_ <;> (intro hc; (try simp -implicitDefEqProofs [-loopQ_n, hc, hS, hS2, hF, hG]))) | (refine guardD_dec ?_ ?_ <;> (intro hc; (try simp -implicitDefEqProofs [-loopQ_n, hc, hS, hS2, hF, hG]))) | (refine condD_intro ?_ ?_ <;> (intro hd; have hc := hd; (try simp at hc) <;> (try simp -implicitDefEqProofs [-loopQ_n, hd, hc, hS, hS2, hF, hG]))) | (refine guardD_intro ?_ ?_ <;> (intro hd; have hc := hd; (try simp at hc) <;> (try simp -implicitDefEqProofs [-loopQ_n, hd, hc, hS, hS2, hF, hG]))) | (refine ldD_ep ?_ ?_; (focus kernel_rfl); (try simp -implicitDefEqProofs [-loopQ_n, hS, hS2, hF, hG])) | (refine callS_mk ?_; (try simp -implicitDefEqProofs [-loopQ_n, hS, hS2, hF, hG]); (first | refine callS_intro (awake_pure) (.inl rfl) ?_ | refine callS_intro (small_pure a la da) (.inl rfl) ?_ | refine callS_intro (small_pure b lb db) (.inl rfl) ?_ | refine callS_intro (fx) (.inl rfl) ?_ | refine callS_intro (fy) (.inl rfl) ?_ | refine callS_intro (m1) (.inr ⟨rfl, rfl⟩) ?_ | refine callS_intro (e1) (.inr ⟨rfl, rfl⟩) ?_ | refine callS_intro (r1) (.inr ⟨rfl, rfl⟩) ?_ | refine callS_intro (t1) (.inr ⟨rfl, rfl⟩) ?_ | refine callS_intro (m2) (.inr ⟨rfl, rfl⟩) ?_ | refine callS_intro (e2) (.inr ⟨rfl, rfl⟩) ?_ | refine callS_intro (r2) (.inr ⟨rfl, rfl⟩) ?_ | refine callS_intro (t2) (.inr ⟨rfl, rfl⟩) ?_ | refine callS_intro (m3) (.inl rfl) ?_ | refine callS_intro (e3) (.inl rfl) ?_ | refine callS_intro (r3) (.inl rfl) ?_ | refine callS_intro (t3) (.inl rfl) ?_); (try simp -implicitDefEqProofs [-loopQ_n, hS, hS2, hF, hG])))))
theorem walk (W : World) (hvo : VarsOk W (fun _ => False)) (v0 : Value) (x0 : AV) (r0 : RO W (fun _ => False) x0 v0) (s0 : argS Tryz.prog 24 x0) (v1 : Value) (x1 : AV) (r1 : RO W (fun _ => False) x1 v1) (s1 : argS Tryz.prog 24 x1) (v2 : Value) (x2 : AV) (r2 : RO W (fun _ => False) x2 v2) (s2 : argS Tryz.prog 34 x2) (v3 : Value) (x3 : AV) (r3 : RO W (fun _ => False) x3 v3) (s3 : argS Tryz.prog 34 x3) (v4 : Value) (x4 : AV) (r4 : RO W (fun _ => False) x4 v4) (s4 : argS Tryz.prog 3 x4) :
    Calls Tryz.prog 4 #[v0, v1, v2, v3, v4] W fun e w' => e = .returned (.bool true) ∧ Below W.heap.size W w' := by
  refine ((both x0 s0 x1 s1 x2 s2 x3 s3 x4 s4).2 W (fun _ => False) _ (fun _ h => h.elim) hvo rfl ?_).mono ?_
  · intro j x v hj hv
    match j with
    | 0 => simp at hj hv; subst hj hv; exact r0
    | 1 => simp at hj hv; subst hj hv; exact r1
    | 2 => simp at hj hv; subst hj hv; exact r2
    | 3 => simp at hj hv; subst hj hv; exact r3
    | 4 => simp at hj hv; subst hj hv; exact r4
    | j + 5 => simp at hj
  · rintro e w' ⟨v, rfl, hv, hb⟩
    rw [ro_tt hv]
    exact ⟨rfl, hb⟩
end
set_option maxRecDepth 100000 in
theorem lifted (os : Os) (started : os.Started) (H : Type) (enc : TypeId × Value → H) :
    ReturnsInHanded {} Tryz.checked os 4 .any (Rows.eventlogChangesSpec.pre6 enc Tryz.prog Tryz.f4 Rows.eventlogChangesRow.domain false) (Rows.eventlogChangesSpec.post enc Tryz.prog Tryz.f4 false true false false) := by
  refine returnsInHanded_of_change (C := Tryz.checked) (@ownK ⟨fun _ => none⟩) started (by kernel_rfl) Tryz.func4
    (ChangeSpec.witness6 (enc := enc) (C := Tryz.checked) false ⟨#[], #[.agg #[.slice none 0 0], .agg #[.slice none 0 0], .slice none 0 0, .slice none 0 0, .int .i64 0], []⟩ 8 (by kernel_rfl) (by kernel_rfl) (by kernel_rfl) (by kernel_rfl)) ?_
  intro W base args ds gs before hval0 hW hcnd _
  have hval : ∀ (j : Nat) t v, Tryz.f4.params[j]? = some t → args[j]? = some v → Value.okWide Tryz.prog W .any base t v := hval0
  have hW' := hW
  obtain ⟨p, q, hA0, hV, rfl, hfz, hnd⟩ := hW
  have hA : DataW.TrodAll enc Tryz.prog W 0 (fun _ => true) true Tryz.f4.params.toList args.toList ds p := hA0
  rw [Tryz.params4] at hA hval
  obtain ⟨v0, vs0, d0, ds0, p0, q0, hargs, rfl, rfl, h0, r0⟩ := trodAll_cons hA
  obtain ⟨v1, vs1, d1, ds1, p1, q1, rfl, rfl, rfl, h1, r1⟩ := trodAll_cons r0
  obtain ⟨v2, vs2, d2, ds2, p2, q2, rfl, rfl, rfl, h2, r2⟩ := trodAll_cons r1
  obtain ⟨v3, vs3, d3, ds3, p3, q3, rfl, rfl, rfl, h3, r3⟩ := trodAll_cons r2
  obtain ⟨v4, vs4, d4, ds4, p4, q4, rfl, rfl, rfl, h4, r4⟩ := trodAll_cons r3
  obtain ⟨rfl, rfl, rfl⟩ := trodAll_nil r4
  obtain rfl : args = #[v0, v1, v2, v3, v4] := by cases args; simp_all
  obtain ⟨rfl, rfl⟩ := trodVars_none hV
  letI : Glob := ⟨fun _ => none⟩
  have k0 := h0
  have lt0 : ∀ x ∈ p0, x.block < W.heap.size := by obtain ⟨m, hm⟩ := k0; exact DataW.trod_lt m _ _ _ hm
  obtain ⟨x0, y0, s0⟩ := arg_open (P := Tryz.prog) (t := 24) (by kernel_rfl) (by kernel_rfl) (hval 0 24 v0 rfl rfl) h0
  have k1 := h1
  have lt1 : ∀ x ∈ p1, x.block < W.heap.size := by obtain ⟨m, hm⟩ := k1; exact DataW.trod_lt m _ _ _ hm
  obtain ⟨x1, y1, s1⟩ := arg_open (P := Tryz.prog) (t := 24) (by kernel_rfl) (by kernel_rfl) (hval 1 24 v1 rfl rfl) h1
  have k2 := h2
  have lt2 : ∀ x ∈ p2, x.block < W.heap.size := by obtain ⟨m, hm⟩ := k2; exact DataW.trod_lt m _ _ _ hm
  obtain ⟨x2, y2, s2⟩ := arg_open (P := Tryz.prog) (t := 34) (by kernel_rfl) (by kernel_rfl) (hval 2 34 v2 rfl rfl) h2
  have k3 := h3
  have lt3 : ∀ x ∈ p3, x.block < W.heap.size := by obtain ⟨m, hm⟩ := k3; exact DataW.trod_lt m _ _ _ hm
  obtain ⟨x3, y3, s3⟩ := arg_open (P := Tryz.prog) (t := 34) (by kernel_rfl) (by kernel_rfl) (hval 3 34 v3 rfl rfl) h3
  have k4 := h4
  have lt4 : ∀ x ∈ p4, x.block < W.heap.size := by obtain ⟨m, hm⟩ := k4; exact DataW.trod_lt m _ _ _ hm
  obtain ⟨x4, y4, s4⟩ := arg_open (P := Tryz.prog) (t := 3) (by kernel_rfl) (by kernel_rfl) (hval 4 3 v4 rfl rfl) h4
  clear hA0 hval0
  refine (walk W (fun g row h => by cases h) v0 x0 y0 s0 v1 x1 y1 s1 v2 x2 y2 s2 v3 x3 y3 s3 v4 x4 y4 s4).mono fun e W' ⟨he, bel⟩ => ?_
  subst he
  exact ⟨_, rfl, _, _, _, [], _, [], hW', trodAll_mk1 (shut_bool Tryz.underlying4 _), (trodAll_cons_mk (Below.trod laidK (by kernel_rfl) (of_decide_eq_true (by kernel_rfl)) k0 bel lt0) (trodAll_cons_mk (Below.trod laidK (by kernel_rfl) (of_decide_eq_true (by kernel_rfl)) k1 bel lt1) (trodAll_cons_mk (Below.trod laidK (by kernel_rfl) (of_decide_eq_true (by kernel_rfl)) k2 bel lt2) (trodAll_cons_mk (Below.trod laidK (by kernel_rfl) (of_decide_eq_true (by kernel_rfl)) k3 bel lt3) (trodAll_cons_mk (Below.trod laidK (by kernel_rfl) (of_decide_eq_true (by kernel_rfl)) k4 bel lt4) trodAll_mk0))))), rfl, bel.frame _, fun h => by cases h⟩

theorem over : Rows.eventlogChangesRow.holds Tryz.pinned (OpenSpec.ofChange Rows.eventlogChangesSpec) :=
  OpenClaim.holds_of_wide 4 Tryz.f4 rfl rfl rfl rfl rfl rfl rfl ⟨rfl, rfl, rfl, rfl, rfl⟩ rfl rfl rfl rfl rfl (by kernel_rfl) Tryz.func4 (by kernel_rfl)
    (of_decide_eq_true (by kernel_rfl)) (by unfold Func.isWrapper; first | (rw [if_pos (by decide +kernel)]; kernel_rfl) | (rw [if_neg (by decide +kernel)]; exact ⟨rfl, rfl⟩))
    (fun os started H enc _ => lifted os started H enc)

theorem proved : Rows.EventlogChangesSaid := over
end Go.Proofs.YtnldjmokemgaoaaGreat.lawEChanges
