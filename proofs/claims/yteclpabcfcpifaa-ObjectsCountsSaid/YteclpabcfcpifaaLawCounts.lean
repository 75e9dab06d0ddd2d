/- Relations, Convergence, and Divergence return what the reference does (the law ObjectsCounts holds for every input; no condition). -/
import Derived.Test.YteclpabcfcpifaaRows
import Derived.Test.YteclpabcfcpifaaObj3
import Derived.Test.YteclpabcfcpifaaObj9
import Derived.Test.YteclpabcfcpifaaDec
namespace Go.Proofs.Yteclpabcfcpifaa.lawCounts
open Go.ChangeShapes Go.WideShapes Go.ChangeAt Go.RowKit Go.Joins Go.Deep
set_option maxRecDepth 100000
theorem cfObj_idx {p : Obj → Bool} {l : List Obj} {g : Nat} {caps : List AV} (hp : ∀ x ∈ l, Pure Try.prog g (.agg (objC x) :: caps) (.bool (p x))) (hc : ∀ H k, caps.mapM (reify H (k + 5)) = some caps) (hf : refsL 0 caps = true) (hl : l.length ≤ 9223372036854775807) :
    Pure Try.prog 64 [.rs (rowsOf objC l), .fn g caps] (.int .i64 (idxOf p l)) := by
  refine pure_of mixed Try.func64 rfl (by kernel_rfl) (of_decide_eq_true rfl) (by kernel_rfl) (vc_run ?_)
  simp -implicitDefEqProofs
  refine loop_intro (σ := Nat) (fun i => ⟨[(0, .rs (rowsOf objC l)), (1, .fn g caps), (7, .int .i64 l.length), (8, .int .i64 i)], []⟩) (fun i => i ≤ l.length ∧ allF p (l.take i)) (fun i => l.length - i) 0 ⟨Nat.zero_le _, allF_nil⟩ ?_ ?_
  · refine weak_of 0 0 rfl rfl ?_ ?_ <;> simp [hf]
  · rintro i ⟨hi, hall⟩
    by_cases h : i < l.length
    · simp -implicitDefEqProofs [h, objC]
      have hc8 : ∀ H, caps.mapM (reify H 8) = some caps := fun H => hc H 3
      refine call_intro (hp l[i] (by simp)) (by simp -implicitDefEqProofs [hc8, objC]) (.inl rfl) ?_
      by_cases hpx : p l[i] = true
      · simp -implicitDefEqProofs [hpx]
        exact (idxOf_some p l i h hall hpx).symm
      · have hpx : p l[i] = false := by simpa using hpx
        simp -implicitDefEqProofs [hpx]
        refine ⟨i + 1, ⟨by omega, allF_succ hall h hpx⟩, by omega, weak_of 0 0 rfl rfl ?_ ?_⟩
        · simp [hf]
          exact (wrap_in (by omega) (by omega)).symm
        · simp
    · simp -implicitDefEqProofs [h]
      rw [idxOf_none p l (allF_all hall h)]
theorem cfObj_any {p : Obj → Bool} {l : List Obj} {g : Nat} {caps : List AV} (hp : ∀ x ∈ l, Pure Try.prog g (.agg (objC x) :: caps) (.bool (p x))) (hc : ∀ H k, caps.mapM (reify H (k + 5)) = some caps) (hf : refsL 0 caps = true) (hl : l.length ≤ 9223372036854775807) :
    Pure Try.prog 37 [.rs (rowsOf objC l), .fn g caps] (.bool (l.any p)) := by
  refine pure_of mixed Try.func37 rfl (by kernel_rfl) (of_decide_eq_true rfl) (by kernel_rfl) (vc_run ?_)
  simp -implicitDefEqProofs
  have hc7 : ∀ H, caps.mapM (reify H 7) = some caps := fun H => hc H 2
  refine call_intro (cfObj_idx hp hc hf hl) (by simp -implicitDefEqProofs [hc7]) (.inl rfl) ?_
  simp -implicitDefEqProofs
  rw [← ge_idxOf]

theorem c_int : Try.prog.cellsOf 3 = 1 := by kernel_rfl
theorem c_str : Try.prog.cellsOf 9 = 1 := by kernel_rfl
theorem c_ref : Try.prog.cellsOf 49 = 2 := by kernel_rfl
theorem c_refs : Try.prog.cellsOf 44 = 1 := by kernel_rfl
theorem c_obj : Try.prog.cellsOf 46 = 3 := by kernel_rfl
theorem c_objs : Try.prog.cellsOf 22 = 1 := by kernel_rfl
theorem c_log : Try.prog.cellsOf 24 = 1 := by kernel_rfl
theorem ref_dec {n : Nat} {row : List AV} (h : shp Try.prog (n + 2) 49 row) : ∃ v, row = refC v := by
  obtain ⟨hl, hf⟩ := shp_struct Try.underlying49 h
  rw [c_ref] at hl
  match row, hl with
  | [a, b], _ =>
    simp only [List.mem_cons, List.not_mem_nil, or_false, forall_eq_or_imp, forall_eq, c_str] at hf
    obtain ⟨x, h1, _⟩ := shp_str Try.underlying9 hf.1
    obtain ⟨y, h2, _⟩ := shp_str Try.underlying9 hf.2
    simp at h1 h2
    exact ⟨⟨x, y⟩, by rw [h1, h2]; rfl⟩
theorem obj_dec {n : Nat} {row : List AV} (h : shp Try.prog (n + 4) 46 row) : ∃ e, row = objC e ∧ e.refs.length ≤ maxLen := by
  obtain ⟨hl, hf⟩ := shp_struct Try.underlying46 h
  rw [c_obj] at hl
  match row, hl with
  | [a, b, c], _ =>
    simp only [List.mem_cons, List.not_mem_nil, or_false, forall_eq_or_imp, forall_eq, c_str, c_int, c_refs] at hf
    obtain ⟨x, h1, _⟩ := shp_str Try.underlying9 hf.1
    obtain ⟨y, h2, _⟩ := shp_int Try.underlying3 hf.2.1
    obtain ⟨rows, h3, hlen, hrows⟩ := shp_slice Try.underlying44 hf.2.2
    obtain ⟨fs, rfl, _⟩ := rows_dec (p := fun _ => True) rows fun row hr => by obtain ⟨f, hf⟩ := ref_dec (hrows row hr); exact ⟨f, hf, trivial⟩
    simp at h1 h2 h3
    exact ⟨⟨x, y, fs⟩, by rw [h1, h2, h3]; rfl, by simpa [rowsOf] using hlen⟩
theorem log_dec {x : AV} (h : argS Try.prog 24 x) : ∃ l, x = .agg [.rs (rowsOf objC l)] ∧ l.length ≤ maxLen ∧ ∀ e ∈ l, e.refs.length ≤ maxLen := by
  obtain ⟨l, rfl, hl, hf⟩ := arg_struct Try.underlying24 h
  rw [c_log] at hl
  match l, hl with
  | [a], _ =>
    simp only [List.mem_cons, List.not_mem_nil, or_false, forall_eq, c_objs] at hf
    obtain ⟨rows, h6, hlen, hrows⟩ := shp_slice Try.underlying22 hf
    obtain ⟨es, rfl, hd⟩ := rows_dec (p := fun e : Obj => e.refs.length ≤ maxLen) rows fun row hr => obj_dec (n := 3) (hrows row hr)
    simp at h6
    exact ⟨es, by rw [h6], by simpa [rowsOf] using hlen, hd⟩
def bigR (r : Rf) : Bool := decide ((100 : Int) < r.a.size) || decide ((100 : Int) < r.b.size)
theorem few11_pure (r : Rf) : Pure Try.prog 39 [.agg (refC r)] (.bool (bigR r)) := by
  refine pure_of mixed Try.func39 rfl (by kernel_rfl) (of_decide_eq_true rfl) (by kernel_rfl) (vc_run ?_)
  obtain ⟨a, b⟩ := r
  ((try simp -implicitDefEqProofs [-loopQ_n, refC]) <;> (repeat' (first | (refine condD_dec ?_ ?_ <;> (intro hc; (try simp -implicitDefEqProofs [-loopQ_n, hc, refC]))) | (refine guardD_dec ?_ ?_ <;> (intro hc; (try simp -implicitDefEqProofs [-loopQ_n, hc, refC]))) | (refine condD_intro ?_ ?_ <;> (intro hd; have hc := hd; (try simp at hc) <;> (try simp -implicitDefEqProofs [-loopQ_n, hd, hc, refC]))) | (refine guardD_intro ?_ ?_ <;> (intro hd; have hc := hd; (try simp at hc) <;> (try simp -implicitDefEqProofs [-loopQ_n, hd, hc, refC])))))) <;> simp [bigR, *]
def bigO (o : Obj) : Bool := decide ((25 : Int) < o.refs.length) || decide ((100 : Int) < o.act.size) || o.refs.any bigR
theorem few1_pure (o : Obj) (hl : o.refs.length ≤ 9223372036854775807) : Pure Try.prog 38 [.agg (objC o)] (.bool (bigO o)) := by
  refine pure_of mixed Try.func38 rfl (by kernel_rfl) (of_decide_eq_true rfl) (by kernel_rfl) (vc_run ?_)
  obtain ⟨a, t, refs⟩ := o
  ((try simp -implicitDefEqProofs [-loopQ_n, objC]) <;> (repeat' (first | (refine condD_dec ?_ ?_ <;> (intro hc; (try simp -implicitDefEqProofs [-loopQ_n, hc, objC]))) | (refine guardD_dec ?_ ?_ <;> (intro hc; (try simp -implicitDefEqProofs [-loopQ_n, hc, objC]))) | (refine condD_intro ?_ ?_ <;> (intro hd; have hc := hd; (try simp at hc) <;> (try simp -implicitDefEqProofs [-loopQ_n, hd, hc, objC]))) | (refine guardD_intro ?_ ?_ <;> (intro hd; have hc := hd; (try simp at hc) <;> (try simp -implicitDefEqProofs [-loopQ_n, hd, hc, objC]))) | (refine call_a (by (try simp -implicitDefEqProofs [-loopQ_n, objC]); first | done | exact rfl | (and_intros <;> exact rfl)) (cfRef_any (p := bigR) (l := refs) (g := 39) (caps := []) (fun x _ => few11_pure x) (fun H k => rfl) rfl hl) (.inl rfl) ?_; (try simp -implicitDefEqProofs [-loopQ_n, objC])))))
  all_goals simp [bigO, *]
def fewB (l : List Obj) : Bool := !(decide ((60 : Int) < l.length) && decide ((l.length : Int) ≤ 2000) || decide ((2005 : Int) < l.length)) && !l.any bigO
theorem few_pure (l : List Obj) (hl : l.length ≤ 9223372036854775807) (hd : ∀ e ∈ l, e.refs.length ≤ 9223372036854775807) : Pure Try.prog 8 [.agg [.rs (rowsOf objC l)]] (.bool (fewB l)) := by
  refine pure_of mixed Try.func8 rfl (by kernel_rfl) (of_decide_eq_true rfl) (by kernel_rfl) (vc_run ?_)
  ((try simp -implicitDefEqProofs [-loopQ_n]) <;> (repeat' (first | (refine condD_dec ?_ ?_ <;> (intro hc; (try simp -implicitDefEqProofs [-loopQ_n, hc]))) | (refine guardD_dec ?_ ?_ <;> (intro hc; (try simp -implicitDefEqProofs [-loopQ_n, hc]))) | (refine condD_intro ?_ ?_ <;> (intro hd; have hc := hd; (try simp at hc) <;> (try simp -implicitDefEqProofs [-loopQ_n, hd, hc]))) | (refine guardD_intro ?_ ?_ <;> (intro hd; have hc := hd; (try simp at hc) <;> (try simp -implicitDefEqProofs [-loopQ_n, hd, hc]))) | (refine call_a (by (try simp -implicitDefEqProofs [-loopQ_n]); first | done | exact rfl | (and_intros <;> exact rfl)) (cfObj_any (p := bigO) (l := l) (g := 38) (caps := []) (fun x hx => few1_pure x (hd x hx)) (fun H k => rfl) rfl hl) (.inl rfl) ?_; (try simp -implicitDefEqProofs [-loopQ_n])))))
  all_goals (first | (simp [fewB, *]; done) | (simp_all [fewB]; try omega))
set_option maxHeartbeats 8000000 in
theorem both (x0 : AV) (s0 : argS Try.prog 24 x0) (x1 : AV) (s1 : argS Try.prog 9 x1) (x2 : AV) (s2 : argS Try.prog 9 x2) :
    Pure Try.prog 3 [x0, x1, x2] (.bool true) := by
  obtain ⟨l, rfl, hl, hd⟩ := log_dec s0
  obtain ⟨act, rfl, _⟩ := arg_str Try.underlying9 s1
  obtain ⟨kind, rfl, _⟩ := arg_str Try.underlying9 s2
  rw [maxLen_eq] at hl
  have hd : ∀ e ∈ l, e.refs.length ≤ 9223372036854775807 := fun e he => by have := hd e he; rwa [maxLen_eq] at this
  refine pure_of mixed Try.func3 rfl (by kernel_rfl) (of_decide_eq_true rfl) (by kernel_rfl) (vc_run ?_)
  ((try simp -implicitDefEqProofs [-loopQ_n]) <;> (repeat' (first | (refine condD_dec ?_ ?_ <;> (intro hc; (try simp -implicitDefEqProofs [-loopQ_n, hc]))) | (refine guardD_dec ?_ ?_ <;> (intro hc; (try simp -implicitDefEqProofs [-loopQ_n, hc]))) | (refine condD_intro ?_ ?_ <;> (intro hd; have hc := hd; (try simp at hc) <;> (try simp -implicitDefEqProofs [-loopQ_n, hd, hc]))) | (refine guardD_intro ?_ ?_ <;> (intro hd; have hc := hd; (try simp at hc) <;> (try simp -implicitDefEqProofs [-loopQ_n, hd, hc]))) | (refine call_a (by (try simp -implicitDefEqProofs [-loopQ_n]); first | done | exact rfl | (and_intros <;> exact rfl)) (awake_pure) (.inl rfl) ?_; (try simp -implicitDefEqProofs [-loopQ_n])) | (refine call_a (by (try simp -implicitDefEqProofs [-loopQ_n]); first | done | exact rfl | (and_intros <;> exact rfl)) (few_pure _ hl hd) (.inl rfl) ?_; (try simp -implicitDefEqProofs [-loopQ_n])) | (refine call_a (by (try simp -implicitDefEqProofs [-loopQ_n]); first | done | exact rfl | (and_intros <;> exact rfl)) (orel_pure _ _ _) (.inl rfl) ?_; (try simp -implicitDefEqProofs [-loopQ_n])) | (refine call_a (by (try simp -implicitDefEqProofs [-loopQ_n]); first | done | exact rfl | (and_intros <;> exact rfl)) (rrel_pure _ _ _) (.inl rfl) ?_; (try simp -implicitDefEqProofs [-loopQ_n])) | (refine call_a (by (try simp -implicitDefEqProofs [-loopQ_n]); first | done | exact rfl | (and_intros <;> exact rfl)) (ocon_pure _ _) (.inl rfl) ?_; (try simp -implicitDefEqProofs [-loopQ_n])) | (refine call_a (by (try simp -implicitDefEqProofs [-loopQ_n]); first | done | exact rfl | (and_intros <;> exact rfl)) (rcon_pure _ _) (.inl rfl) ?_; (try simp -implicitDefEqProofs [-loopQ_n])) | (refine call_a (by (try simp -implicitDefEqProofs [-loopQ_n]); first | done | exact rfl | (and_intros <;> exact rfl)) (odiv_pure _ _) (.inl rfl) ?_; (try simp -implicitDefEqProofs [-loopQ_n])) | (refine call_a (by (try simp -implicitDefEqProofs [-loopQ_n]); first | done | exact rfl | (and_intros <;> exact rfl)) (rdiv_pure _ _) (.inl rfl) ?_; (try simp -implicitDefEqProofs [-loopQ_n])))))
theorem walk (W : World) (v0 : Value) (x0 : AV) (r0 : RO W (fun _ => False) x0 v0) (s0 : argS Try.prog 24 x0) (v1 : Value) (x1 : AV) (r1 : RO W (fun _ => False) x1 v1) (s1 : argS Try.prog 9 x1) (v2 : Value) (x2 : AV) (r2 : RO W (fun _ => False) x2 v2) (s2 : argS Try.prog 9 x2) :
    Calls Try.prog 3 #[v0, v1, v2] W fun e w' => e = .returned (.bool true) ∧ Below W.heap.size W w' := by
  refine ((both x0 s0 x1 s1 x2 s2).2 W (fun _ => False) _ (fun _ h => h.elim) rfl ?_).mono ?_
  · intro j x v hj hv
    match j with
    | 0 => simp at hj hv; subst hj hv; exact r0
    | 1 => simp at hj hv; subst hj hv; exact r1
    | 2 => simp at hj hv; subst hj hv; exact r2
    | j + 3 => simp at hj
  · rintro e w' ⟨v, rfl, hv, hb⟩
    rw [ro_tt hv]
    exact ⟨rfl, hb⟩
set_option maxRecDepth 100000 in
theorem lifted (os : Os) (started : os.Started) (H : Type) (enc : TypeId × Value → H) :
    ReturnsInHanded {} Try.checked os 3 .any (Rows.objectsCountsSpec.pre6 enc Try.prog Try.f3 Rows.objectsCountsRow.domain false) (Rows.objectsCountsSpec.post enc Try.prog Try.f3 false true false false) := by
  refine returnsInHanded_of_change (C := Try.checked) ownK started (by kernel_rfl) Try.func3
    (ChangeSpec.witness6 (enc := enc) (C := Try.checked) false ⟨#[], #[.agg #[.slice none 0 0], .string ByteArray.empty, .string ByteArray.empty], []⟩ 8 (by kernel_rfl) (by kernel_rfl) (by kernel_rfl) (by kernel_rfl)) ?_
  intro W base args ds gs before hval0 hW hcnd _
  have hval : ∀ (j : Nat) t v, Try.f3.params[j]? = some t → args[j]? = some v → Value.okWide Try.prog W .any base t v := hval0
  have hW' := hW
  obtain ⟨p, q, hA0, hV, rfl, hfz, hnd⟩ := hW
  have hA : DataW.TrodAll enc Try.prog W 0 (fun _ => true) true Try.f3.params.toList args.toList ds p := hA0
  rw [Try.params3] at hA hval
  obtain ⟨v0, vs0, d0, ds0, p0, q0, hargs, rfl, rfl, h0, r0⟩ := trodAll_cons hA
  obtain ⟨v1, vs1, d1, ds1, p1, q1, rfl, rfl, rfl, h1, r1⟩ := trodAll_cons r0
  obtain ⟨v2, vs2, d2, ds2, p2, q2, rfl, rfl, rfl, h2, r2⟩ := trodAll_cons r1
  obtain ⟨rfl, rfl, rfl⟩ := trodAll_nil r2
  obtain rfl : args = #[v0, v1, v2] := by cases args; simp_all
  obtain ⟨rfl, rfl⟩ := trodVars_none hV
  have k0 := h0
  have lt0 : ∀ x ∈ p0, x.block < W.heap.size := by obtain ⟨m, hm⟩ := k0; exact DataW.trod_lt m _ _ _ hm
  obtain ⟨x0, y0, s0⟩ := arg_open (P := Try.prog) (t := 24) (by kernel_rfl) (by kernel_rfl) (hval 0 24 v0 rfl rfl) h0
  have k1 := h1
  have lt1 : ∀ x ∈ p1, x.block < W.heap.size := by obtain ⟨m, hm⟩ := k1; exact DataW.trod_lt m _ _ _ hm
  obtain ⟨x1, y1, s1⟩ := arg_open (P := Try.prog) (t := 9) (by kernel_rfl) (by kernel_rfl) (hval 1 9 v1 rfl rfl) h1
  have k2 := h2
  have lt2 : ∀ x ∈ p2, x.block < W.heap.size := by obtain ⟨m, hm⟩ := k2; exact DataW.trod_lt m _ _ _ hm
  obtain ⟨x2, y2, s2⟩ := arg_open (P := Try.prog) (t := 9) (by kernel_rfl) (by kernel_rfl) (hval 2 9 v2 rfl rfl) h2
  clear hA0 hval0
  refine (walk W v0 x0 y0 s0 v1 x1 y1 s1 v2 x2 y2 s2).mono fun e W' ⟨he, bel⟩ => ?_
  subst he
  exact ⟨_, rfl, _, _, _, [], _, [], hW', trodAll_mk1 (shut_bool Try.underlying4 _), (trodAll_cons_mk (Below.trod laidK (by kernel_rfl) (of_decide_eq_true (by kernel_rfl)) k0 bel lt0) (trodAll_cons_mk (Below.trod laidK (by kernel_rfl) (of_decide_eq_true (by kernel_rfl)) k1 bel lt1) (trodAll_cons_mk (Below.trod laidK (by kernel_rfl) (of_decide_eq_true (by kernel_rfl)) k2 bel lt2) trodAll_mk0))), rfl, bel.frame _, fun h => by cases h⟩

theorem over : Rows.objectsCountsRow.holds Try.pinned (OpenSpec.ofChange Rows.objectsCountsSpec) :=
  OpenClaim.holds_of_wide 3 Try.f3 rfl rfl rfl rfl rfl rfl rfl ⟨rfl, rfl, rfl, rfl, rfl⟩ rfl rfl rfl rfl rfl (by kernel_rfl) Try.func3 (by kernel_rfl)
    (of_decide_eq_true (by kernel_rfl)) (by unfold Func.isWrapper; first | (rw [if_pos (by decide +kernel)]; kernel_rfl) | (rw [if_neg (by decide +kernel)]; exact ⟨rfl, rfl⟩))
    (fun os started H enc _ => lifted os started H enc)

theorem proved : Rows.ObjectsCountsSaid := over
end Go.Proofs.Yteclpabcfcpifaa.lawCounts
