/- Logs of objects as arguments of laws; how many events a law looks at. -/
import Derived.Test.YtdkcmfafganhhaaDoorObj3
import Derived.Test.YtdkcmfafganhhaaDoorDec
import Derived.Test.YtdkcmfafganhhaaDoorObj9
namespace Go.Proofs.YtdkcmfafganhhaaDoor
set_option linter.unusedSimpArgs false
set_option linter.unusedVariables false
set_option linter.unnecessarySimpa false
set_option linter.unusedSectionVars false
open Go.RowKit
variable [Glob]
set_option maxRecDepth 100000
theorem cfObj_idx {p : Obj → Bool} {l : List Obj} {g : Nat} {caps : List AV} (hp : ∀ x ∈ l, Pure Tryd.prog g (.agg (objC x) :: caps) (.bool (p x))) (hc : ∀ H k, caps.mapM (reify H (k + 5)) = some caps) (hf : refsL 0 caps = true) (hl : l.length ≤ 9223372036854775807) :
    Pure Tryd.prog 48 [.rs (rowsOf objC l), .fn g caps] (.int .i64 (idxOf p l)) := by
  refine pure_of mixed Tryd.func48 rfl (by kernel_rfl) (of_decide_eq_true rfl) (by kernel_rfl) (vc_run ?_)
  simp -implicitDefEqProofs
  refine loop_intro (σ := Nat) (fun i => ⟨[(0, .rs (rowsOf objC l)), (1, .fn g caps), (7, .int .i64 l.length), (8, .int .i64 i)], []⟩) (fun i => i ≤ l.length ∧ allF p (l.take i)) (fun i => l.length - i) 0 ⟨Nat.zero_le _, allF_nil⟩ ?_ ?_
  · refine weak_of 0 0 rfl rfl ?_ ?_ <;> simp [hf]
  · rintro i ⟨hi, hall⟩
    by_cases h : i < l.length
    · simp -implicitDefEqProofs [h, objC]
      have hc8 : ∀ H, caps.mapM (reify H 8) = some caps := fun H => hc H 3
      refine call_intro (hp l[i] (by simp)) (by simp -implicitDefEqProofs [hc8, objC]) (.inl rfl) ?_
      by_cases hpx : p l[i] = true
      · simp -implicitDefEqProofs [hpx]
        exact (idxOf_some p l i h hall hpx).symm
      · have hpx : p l[i] = false := by simpa using hpx
        simp -implicitDefEqProofs [hpx]
        refine ⟨i + 1, ⟨by omega, allF_succ hall h hpx⟩, by omega, weak_of 0 0 rfl rfl ?_ ?_⟩
        · simp [hf]
          exact (wrap_in (by omega) (by omega)).symm
        · simp
    · simp -implicitDefEqProofs [h]
      rw [idxOf_none p l (allF_all hall h)]
theorem cfObj_any {p : Obj → Bool} {l : List Obj} {g : Nat} {caps : List AV} (hp : ∀ x ∈ l, Pure Tryd.prog g (.agg (objC x) :: caps) (.bool (p x))) (hc : ∀ H k, caps.mapM (reify H (k + 5)) = some caps) (hf : refsL 0 caps = true) (hl : l.length ≤ 9223372036854775807) :
    Pure Tryd.prog 22 [.rs (rowsOf objC l), .fn g caps] (.bool (l.any p)) := by
  refine pure_of mixed Tryd.func22 rfl (by kernel_rfl) (of_decide_eq_true rfl) (by kernel_rfl) (vc_run ?_)
  simp -implicitDefEqProofs
  have hc7 : ∀ H, caps.mapM (reify H 7) = some caps := fun H => hc H 2
  refine call_intro (cfObj_idx hp hc hf hl) (by simp -implicitDefEqProofs [hc7]) (.inl rfl) ?_
  simp -implicitDefEqProofs
  rw [← ge_idxOf]

theorem c_int : Tryd.prog.cellsOf 3 = 1 := by kernel_rfl
theorem c_str : Tryd.prog.cellsOf 9 = 1 := by kernel_rfl
theorem c_ref : Tryd.prog.cellsOf 53 = 2 := by kernel_rfl
theorem c_refs : Tryd.prog.cellsOf 46 = 1 := by kernel_rfl
theorem c_obj : Tryd.prog.cellsOf 48 = 3 := by kernel_rfl
theorem c_objs : Tryd.prog.cellsOf 22 = 1 := by kernel_rfl
theorem c_log : Tryd.prog.cellsOf 24 = 1 := by kernel_rfl
theorem ref_dec {n : Nat} {row : List AV} (h : shp Tryd.prog (n + 2) 53 row) : ∃ v, row = refC v := by
  obtain ⟨hl, hf⟩ := shp_struct Tryd.underlying53 h
  rw [c_ref] at hl
  match row, hl with
  | [a, b], _ =>
    simp only [List.mem_cons, List.not_mem_nil, or_false, forall_eq_or_imp, forall_eq, c_str] at hf
    obtain ⟨x, h1, _⟩ := shp_str Tryd.underlying9 hf.1
    obtain ⟨y, h2, _⟩ := shp_str Tryd.underlying9 hf.2
    simp at h1 h2
    exact ⟨⟨x, y⟩, by rw [h1, h2]; rfl⟩
theorem obj_dec {n : Nat} {row : List AV} (h : shp Tryd.prog (n + 4) 48 row) : ∃ e, row = objC e ∧ e.refs.length ≤ maxLen := by
  obtain ⟨hl, hf⟩ := shp_struct Tryd.underlying48 h
  rw [c_obj] at hl
  match row, hl with
  | [a, b, c], _ =>
    simp only [List.mem_cons, List.not_mem_nil, or_false, forall_eq_or_imp, forall_eq, c_str, c_int, c_refs] at hf
    obtain ⟨x, h1, _⟩ := shp_str Tryd.underlying9 hf.1
    obtain ⟨y, h2, _⟩ := shp_int Tryd.underlying3 hf.2.1
    obtain ⟨rows, h3, hlen, hrows⟩ := shp_slice Tryd.underlying46 hf.2.2
    obtain ⟨fs, rfl, _⟩ := rows_dec (p := fun _ => True) rows fun row hr => by obtain ⟨f, hf⟩ := ref_dec (hrows row hr); exact ⟨f, hf, trivial⟩
    simp at h1 h2 h3
    exact ⟨⟨x, y, fs⟩, by rw [h1, h2, h3]; rfl, by simpa [rowsOf] using hlen⟩
theorem log_dec {x : AV} (h : argS Tryd.prog 24 x) : ∃ l, x = .agg [.rs (rowsOf objC l)] ∧ l.length ≤ maxLen ∧ ∀ e ∈ l, e.refs.length ≤ maxLen := by
  obtain ⟨l, rfl, hl, hf⟩ := arg_struct Tryd.underlying24 h
  rw [c_log] at hl
  match l, hl with
  | [a], _ =>
    simp only [List.mem_cons, List.not_mem_nil, or_false, forall_eq, c_objs] at hf
    obtain ⟨rows, h6, hlen, hrows⟩ := shp_slice Tryd.underlying22 hf
    obtain ⟨es, rfl, hd⟩ := rows_dec (p := fun e : Obj => e.refs.length ≤ maxLen) rows fun row hr => obj_dec (n := 3) (hrows row hr)
    simp at h6
    exact ⟨es, by rw [h6], by simpa [rowsOf] using hlen, hd⟩
def bigR (r : Rf) : Bool := decide ((100 : Int) < r.a.size) || decide ((100 : Int) < r.b.size)
theorem few11_pure (r : Rf) : Pure Tryd.prog 25 [.agg (refC r)] (.bool (bigR r)) := by
  refine pure_of mixed Tryd.func25 rfl (by kernel_rfl) (of_decide_eq_true rfl) (by kernel_rfl) (vc_run ?_)
  obtain ⟨a, b⟩ := r
  ((try simp -implicitDefEqProofs [-loopQ_n, refC]) <;> (repeat' (first | (refine condD_dec ?_ ?_ <;> (intro hc; (try simp -implicitDefEqProofs [-loopQ_n, hc, refC]))) | (refine guardD_dec ?_ ?_ <;> (intro hc; (try simp -implicitDefEqProofs [-loopQ_n, hc, refC]))) | (refine condD_intro ?_ ?_ <;> (intro hd; have hc := hd; (try simp at hc) <;> (try simp -implicitDefEqProofs [-loopQ_n, hd, hc, refC]))) | (refine guardD_intro ?_ ?_ <;> (intro hd; have hc := hd; (try simp at hc) <;> (try simp -implicitDefEqProofs [-loopQ_n, hd, hc, refC]))) | (refine ldD_ep ?_ ?_; (focus kernel_rfl); (try simp -implicitDefEqProofs [-loopQ_n, refC]))))) <;> simp [bigR, *]
def bigO (o : Obj) : Bool := decide ((25 : Int) < o.refs.length) || decide ((100 : Int) < o.act.size) || o.refs.any bigR
theorem few1_pure (o : Obj) (hl : o.refs.length ≤ 9223372036854775807) : Pure Tryd.prog 23 [.agg (objC o)] (.bool (bigO o)) := by
  refine pure_of mixed Tryd.func23 rfl (by kernel_rfl) (of_decide_eq_true rfl) (by kernel_rfl) (vc_run ?_)
  obtain ⟨a, t, refs⟩ := o
  ((try simp -implicitDefEqProofs [-loopQ_n, objC]) <;> (repeat' (first | (refine condD_dec ?_ ?_ <;> (intro hc; (try simp -implicitDefEqProofs [-loopQ_n, hc, objC]))) | (refine guardD_dec ?_ ?_ <;> (intro hc; (try simp -implicitDefEqProofs [-loopQ_n, hc, objC]))) | (refine condD_intro ?_ ?_ <;> (intro hd; have hc := hd; (try simp at hc) <;> (try simp -implicitDefEqProofs [-loopQ_n, hd, hc, objC]))) | (refine guardD_intro ?_ ?_ <;> (intro hd; have hc := hd; (try simp at hc) <;> (try simp -implicitDefEqProofs [-loopQ_n, hd, hc, objC]))) | (refine ldD_ep ?_ ?_; (focus kernel_rfl); (try simp -implicitDefEqProofs [-loopQ_n, objC])) | (refine callS_mk ?_; (try simp -implicitDefEqProofs [-loopQ_n, objC]); (first | refine callS_intro (cfRef_any (p := bigR) (l := refs) (g := 25) (caps := []) (fun x _ => few11_pure x) (fun H k => rfl) rfl hl) (.inl rfl) ?_); (try simp -implicitDefEqProofs [-loopQ_n, objC])))))
  all_goals simp [bigO, *]
def fewB (l : List Obj) : Bool := !(decide ((60 : Int) < l.length) && decide ((l.length : Int) ≤ 2000) || decide ((2005 : Int) < l.length)) && !l.any bigO
theorem few_pure (l : List Obj) (hl : l.length ≤ 9223372036854775807) (hd : ∀ e ∈ l, e.refs.length ≤ 9223372036854775807) : Pure Tryd.prog 6 [.agg [.rs (rowsOf objC l)]] (.bool (fewB l)) := by
  refine pure_of mixed Tryd.func6 rfl (by kernel_rfl) (of_decide_eq_true rfl) (by kernel_rfl) (vc_run ?_)
  ((try simp -implicitDefEqProofs [-loopQ_n]) <;> (repeat' (first | (refine condD_dec ?_ ?_ <;> (intro hc; (try simp -implicitDefEqProofs [-loopQ_n, hc]))) | (refine guardD_dec ?_ ?_ <;> (intro hc; (try simp -implicitDefEqProofs [-loopQ_n, hc]))) | (refine condD_intro ?_ ?_ <;> (intro hd; have hc := hd; (try simp at hc) <;> (try simp -implicitDefEqProofs [-loopQ_n, hd, hc]))) | (refine guardD_intro ?_ ?_ <;> (intro hd; have hc := hd; (try simp at hc) <;> (try simp -implicitDefEqProofs [-loopQ_n, hd, hc]))) | (refine ldD_ep ?_ ?_; (focus kernel_rfl); (try simp -implicitDefEqProofs [-loopQ_n])) | (refine callS_mk ?_; (try simp -implicitDefEqProofs [-loopQ_n]); (first | refine callS_intro (cfObj_any (p := bigO) (l := l) (g := 23) (caps := []) (fun x hx => few1_pure x (hd x hx)) (fun H k => rfl) rfl hl) (.inl rfl) ?_); (try simp -implicitDefEqProofs [-loopQ_n])))))
  all_goals (first | (simp [fewB, *]; done) | (simp_all [fewB]; try omega))
end Go.Proofs.YtdkcmfafganhhaaDoor
