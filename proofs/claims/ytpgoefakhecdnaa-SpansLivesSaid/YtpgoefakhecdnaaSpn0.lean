/- Instances: which are valid; whether there are few. -/
import Derived.Test.YtpgoefakhecdnaaVal
import Derived.Test.YtpgoefakhecdnaaAbMv
namespace Go.Proofs.Ytpgoefakhecdnaa
set_option linter.unusedSimpArgs false
set_option linter.unusedVariables false
set_option linter.unnecessarySimpa false
set_option linter.unusedSectionVars false
open Go.RowKit
variable [Glob]
set_option maxRecDepth 100000
theorem w_succ' {i n : Nat} (h : i < n) (hn : n ≤ 9223372036854775807) : wrapI .i64 ((i : Int) + 1) = ((i + 1 : Nat) : Int) := by rw [wrap_in (by omega) (by omega)]; omega
structure Ins where
  case_ : ByteArray
  act : ByteArray
  res : ByteArray
  ready : Int
  from_ : Int
  to_ : Int
deriving DecidableEq
def insC (x : Ins) : List AV := [.str x.case_, .str x.act, .str x.res, .int .i64 x.ready, .int .i64 x.from_, .int .i64 x.to_]
def insV (x : Ins) : Bool := isNameS x.case_ && isNameS x.act && (emptyS x.res || isNameS x.res) && decide (0 ≤ x.ready) && decide (x.ready ≤ x.from_) && decide (x.from_ ≤ x.to_) && decide (x.to_ ≤ 1099511627776)
def insL (l : List Ins) : Bool := decide ((l.length : Int) ≤ 2000) && !l.any fun x => !insV x
theorem ins_reify {H : List Blk} {n : Nat} {l : List Ins} : (rowsOf insC l).mapM (fun row => row.mapM (reify H (n + 1))) = some (rowsOf insC l) := rowsOf_reify fun x => by simp [insC, reify]
theorem ins_refs {m : Nat} {l : List Ins} : refsR m (rowsOf insC l) = true := rowsOf_refs fun x => by simp [insC, refs]
theorem ins_all {l : List Ins} : allLen 6 (rowsOf insC l) = true := rowsOf_allLen fun x => rfl
theorem insV_bd {x : Ins} (h : insV x = true) : 0 ≤ x.ready ∧ x.ready ≤ x.from_ ∧ x.from_ ≤ x.to_ ∧ x.to_ ≤ 1099511627776 := by
  simp only [insV, Bool.and_eq_true, decide_eq_true_eq] at h
  omega
theorem insL_mem {l : List Ins} (h : insL l = true) : l.length ≤ 2000 ∧ ∀ x ∈ l, insV x = true := by
  simp only [insL, Bool.and_eq_true, decide_eq_true_eq, Bool.not_eq_true', List.any_eq_false, Bool.not_eq_false] at h
  exact ⟨by omega, h.2⟩
theorem svalid1_pure (x : Ins) : Pure Try.prog 11 [.agg (insC x)] (.bool (insV x)) := by
  obtain ⟨c, a, r, t1, t2, t3⟩ := x
  refine pure_of mixed Try.func11 rfl (by kernel_rfl) (of_decide_eq_true rfl) (by kernel_rfl) (vc_run ?_)
  ((try simp -implicitDefEqProofs [-loopQ_n, insC]) <;> (repeat' (first | (refine condD_dec ?_ ?_ <;> (intro hc; (try simp -implicitDefEqProofs [-loopQ_n, hc, insC]))) | (refine guardD_dec ?_ ?_ <;> (intro hc; (try simp -implicitDefEqProofs [-loopQ_n, hc, insC]))) | (refine condD_intro ?_ ?_ <;> (intro hd; have hc := hd; (try simp at hc) <;> (try simp -implicitDefEqProofs [-loopQ_n, hd, hc, insC]))) | (refine guardD_intro ?_ ?_ <;> (intro hd; have hc := hd; (try simp at hc) <;> (try simp -implicitDefEqProofs [-loopQ_n, hd, hc, insC]))) | (refine ldD_ep ?_ ?_; (focus kernel_rfl); (try simp -implicitDefEqProofs [-loopQ_n, insC])) | (refine callS_mk ?_; (try simp -implicitDefEqProofs [-loopQ_n, insC]); (first | refine callS_intro (isName_pure _) (.inl rfl) ?_); (try simp -implicitDefEqProofs [-loopQ_n, insC])))))
  all_goals first | (simp [insV, emptyS, *]; done) | (simp [insV, emptyS, *]; omega)
theorem svalidc_pure (x : Ins) : Pure Try.prog 65 [.agg (insC x)] (.bool (!insV x)) := by
  refine pure_of mixed Try.func65 rfl (by kernel_rfl) (of_decide_eq_true rfl) (by kernel_rfl) (vc_run ?_)
  ((try simp -implicitDefEqProofs [-loopQ_n, insC]) <;> (repeat' (first | (refine condD_dec ?_ ?_ <;> (intro hc; (try simp -implicitDefEqProofs [-loopQ_n, hc, insC]))) | (refine guardD_dec ?_ ?_ <;> (intro hc; (try simp -implicitDefEqProofs [-loopQ_n, hc, insC]))) | (refine condD_intro ?_ ?_ <;> (intro hd; have hc := hd; (try simp at hc) <;> (try simp -implicitDefEqProofs [-loopQ_n, hd, hc, insC]))) | (refine guardD_intro ?_ ?_ <;> (intro hd; have hc := hd; (try simp at hc) <;> (try simp -implicitDefEqProofs [-loopQ_n, hd, hc, insC]))) | (refine ldD_ep ?_ ?_; (focus kernel_rfl); (try simp -implicitDefEqProofs [-loopQ_n, insC])) | (refine callS_mk ?_; (try simp -implicitDefEqProofs [-loopQ_n, insC]); (first | refine callS_intro (svalid1_pure x) (.inl rfl) ?_); (try simp -implicitDefEqProofs [-loopQ_n, insC])))))
theorem ins_idx {p : Ins → Bool} {l : List Ins} {g : Nat} {caps : List AV} (hp : ∀ x ∈ l, Pure Try.prog g (.agg (insC x) :: caps) (.bool (p x))) (hc : ∀ H k, caps.mapM (reify H (k + 5)) = some caps) (hf : refsL 0 caps = true) (hl : l.length ≤ 9223372036854775807) :
    Pure Try.prog 42 [.rs (rowsOf insC l), .fn g caps] (.int .i64 (idxOf p l)) := by
  refine pure_of mixed Try.func42 rfl (by kernel_rfl) (of_decide_eq_true rfl) (by kernel_rfl) (vc_run ?_)
  simp -implicitDefEqProofs
  refine loop_intro (σ := Nat) (fun i => ⟨[(0, .rs (rowsOf insC l)), (1, .fn g caps), (7, .int .i64 l.length), (8, .int .i64 i)], []⟩) (fun i => i ≤ l.length ∧ allF p (l.take i)) (fun i => l.length - i) 0 ⟨Nat.zero_le _, allF_nil⟩ ?_ ?_
  · refine weak_of 0 0 rfl rfl ?_ ?_ <;> simp [hf]
  · rintro i ⟨hi, hall⟩
    by_cases h : i < l.length
    · simp -implicitDefEqProofs [h, insC]
      have hc8 : ∀ H, caps.mapM (reify H 8) = some caps := fun H => hc H 3
      refine call_intro (hp l[i] (by simp)) (by simp -implicitDefEqProofs [hc8, insC]) (.inl rfl) ?_
      by_cases hpx : p l[i] = true
      · simp -implicitDefEqProofs [hpx]
        exact (idxOf_some p l i h hall hpx).symm
      · have hpx : p l[i] = false := by simpa using hpx
        simp -implicitDefEqProofs [hpx]
        refine ⟨i + 1, ⟨by omega, allF_succ hall h hpx⟩, by omega, weak_of 0 0 rfl rfl ?_ ?_⟩
        · simp [hf]
          exact (wrap_in (by omega) (by omega)).symm
        · simp
    · simp -implicitDefEqProofs [h]
      rw [idxOf_none p l (allF_all hall h)]
theorem ins_any {p : Ins → Bool} {l : List Ins} {g : Nat} {caps : List AV} (hp : ∀ x ∈ l, Pure Try.prog g (.agg (insC x) :: caps) (.bool (p x))) (hc : ∀ H k, caps.mapM (reify H (k + 5)) = some caps) (hf : refsL 0 caps = true) (hl : l.length ≤ 9223372036854775807) :
    Pure Try.prog 31 [.rs (rowsOf insC l), .fn g caps] (.bool (l.any p)) := by
  refine pure_of mixed Try.func31 rfl (by kernel_rfl) (of_decide_eq_true rfl) (by kernel_rfl) (vc_run ?_)
  simp -implicitDefEqProofs
  have hc7 : ∀ H, caps.mapM (reify H 7) = some caps := fun H => hc H 2
  refine call_intro (ins_idx hp hc hf hl) (by simp -implicitDefEqProofs [hc7]) (.inl rfl) ?_
  simp -implicitDefEqProofs
  rw [← ge_idxOf]

theorem svalid_pure (l : List Ins) (hl : l.length ≤ 9223372036854775807) : Pure Try.prog 44 [.rs (rowsOf insC l)] (.bool (insL l)) := by
  have hA := ins_any (p := fun x => !insV x) (l := l) (g := 65) (caps := []) (fun x _ => svalidc_pure x) (fun H k => rfl) rfl hl
  refine pure_of mixed Try.func44 rfl (by kernel_rfl) (of_decide_eq_true rfl) (by kernel_rfl) (vc_run ?_)
  ((try simp -implicitDefEqProofs [-loopQ_n]) <;> (repeat' (first | (refine condD_dec ?_ ?_ <;> (intro hc; (try simp -implicitDefEqProofs [-loopQ_n, hc]))) | (refine guardD_dec ?_ ?_ <;> (intro hc; (try simp -implicitDefEqProofs [-loopQ_n, hc]))) | (refine condD_intro ?_ ?_ <;> (intro hd; have hc := hd; (try simp at hc) <;> (try simp -implicitDefEqProofs [-loopQ_n, hd, hc]))) | (refine guardD_intro ?_ ?_ <;> (intro hd; have hc := hd; (try simp at hc) <;> (try simp -implicitDefEqProofs [-loopQ_n, hd, hc]))) | (refine ldD_ep ?_ ?_; (focus kernel_rfl); (try simp -implicitDefEqProofs [-loopQ_n])) | (refine callS_mk ?_; (try simp -implicitDefEqProofs [-loopQ_n]); (first | refine callS_intro (hA) (.inl rfl) ?_); (try simp -implicitDefEqProofs [-loopQ_n])))))
  all_goals simp [insL, *]
theorem rinst_pure (t : Int) : Pure Try.prog 39 [.int .i64 t] (.bool (decide (0 ≤ t) && decide (t ≤ 1099511627776))) := by
  refine pure_of mixed Try.func39 rfl (by kernel_rfl) (of_decide_eq_true rfl) (by kernel_rfl) (vc_run ?_)
  ((try simp -implicitDefEqProofs [-loopQ_n]) <;> (repeat' (first | (refine condD_dec ?_ ?_ <;> (intro hc; (try simp -implicitDefEqProofs [-loopQ_n, hc]))) | (refine guardD_dec ?_ ?_ <;> (intro hc; (try simp -implicitDefEqProofs [-loopQ_n, hc]))) | (refine condD_intro ?_ ?_ <;> (intro hd; have hc := hd; (try simp at hc) <;> (try simp -implicitDefEqProofs [-loopQ_n, hd, hc]))) | (refine guardD_intro ?_ ?_ <;> (intro hd; have hc := hd; (try simp at hc) <;> (try simp -implicitDefEqProofs [-loopQ_n, hd, hc]))) | (refine ldD_ep ?_ ?_; (focus kernel_rfl); (try simp -implicitDefEqProofs [-loopQ_n]))))) <;> simp [*]
theorem rsvalid1_pure (x : Ins) : Pure Try.prog 12 [.agg (insC x)] (.bool (insV x)) := by
  obtain ⟨c, a, r, t1, t2, t3⟩ := x
  refine pure_of mixed Try.func12 rfl (by kernel_rfl) (of_decide_eq_true rfl) (by kernel_rfl) (vc_run ?_)
  ((try simp -implicitDefEqProofs [-loopQ_n, insC]) <;> (repeat' (first | (refine condD_dec ?_ ?_ <;> (intro hc; (try simp -implicitDefEqProofs [-loopQ_n, hc, insC]))) | (refine guardD_dec ?_ ?_ <;> (intro hc; (try simp -implicitDefEqProofs [-loopQ_n, hc, insC]))) | (refine condD_intro ?_ ?_ <;> (intro hd; have hc := hd; (try simp at hc) <;> (try simp -implicitDefEqProofs [-loopQ_n, hd, hc, insC]))) | (refine guardD_intro ?_ ?_ <;> (intro hd; have hc := hd; (try simp at hc) <;> (try simp -implicitDefEqProofs [-loopQ_n, hd, hc, insC]))) | (refine ldD_ep ?_ ?_; (focus kernel_rfl); (try simp -implicitDefEqProofs [-loopQ_n, insC])) | (refine callS_mk ?_; (try simp -implicitDefEqProofs [-loopQ_n, insC]); (first | refine callS_intro (risName_pure _) (.inl rfl) ?_ | refine callS_intro (rinst_pure _) (.inl rfl) ?_); (try simp -implicitDefEqProofs [-loopQ_n, insC])))))
  all_goals first | (simp [insV, emptyS, *]; done) | (simp [insV, emptyS, *]; omega)
def bigI (x : Ins) : Bool := decide ((100 : Int) < x.case_.size) || decide ((100 : Int) < x.act.size) || decide ((100 : Int) < x.res.size)
def fewI (l : List Ins) : Bool := (decide ((l.length : Int) ≤ 40) || (decide ((2000 : Int) < l.length) && decide ((l.length : Int) < 2005))) && !l.any bigI
theorem sfew1_pure (x : Ins) : Pure Try.prog 32 [.agg (insC x)] (.bool (bigI x)) := by
  obtain ⟨c, a, r, t1, t2, t3⟩ := x
  refine pure_of mixed Try.func32 rfl (by kernel_rfl) (of_decide_eq_true rfl) (by kernel_rfl) (vc_run ?_)
  ((try simp -implicitDefEqProofs [-loopQ_n, insC]) <;> (repeat' (first | (refine condD_dec ?_ ?_ <;> (intro hc; (try simp -implicitDefEqProofs [-loopQ_n, hc, insC]))) | (refine guardD_dec ?_ ?_ <;> (intro hc; (try simp -implicitDefEqProofs [-loopQ_n, hc, insC]))) | (refine condD_intro ?_ ?_ <;> (intro hd; have hc := hd; (try simp at hc) <;> (try simp -implicitDefEqProofs [-loopQ_n, hd, hc, insC]))) | (refine guardD_intro ?_ ?_ <;> (intro hd; have hc := hd; (try simp at hc) <;> (try simp -implicitDefEqProofs [-loopQ_n, hd, hc, insC]))) | (refine ldD_ep ?_ ?_; (focus kernel_rfl); (try simp -implicitDefEqProofs [-loopQ_n, insC])))))
  all_goals simp [bigI, *]
theorem sfew_pure (l : List Ins) (hl : l.length ≤ 9223372036854775807) : Pure Try.prog 7 [.rs (rowsOf insC l)] (.bool (fewI l)) := by
  have hA := ins_any (p := bigI) (l := l) (g := 32) (caps := []) (fun x _ => sfew1_pure x) (fun H k => rfl) rfl hl
  refine pure_of mixed Try.func7 rfl (by kernel_rfl) (of_decide_eq_true rfl) (by kernel_rfl) (vc_run ?_)
  ((try simp -implicitDefEqProofs [-loopQ_n]) <;> (repeat' (first | (refine condD_dec ?_ ?_ <;> (intro hc; (try simp -implicitDefEqProofs [-loopQ_n, hc]))) | (refine guardD_dec ?_ ?_ <;> (intro hc; (try simp -implicitDefEqProofs [-loopQ_n, hc]))) | (refine condD_intro ?_ ?_ <;> (intro hd; have hc := hd; (try simp at hc) <;> (try simp -implicitDefEqProofs [-loopQ_n, hd, hc]))) | (refine guardD_intro ?_ ?_ <;> (intro hd; have hc := hd; (try simp at hc) <;> (try simp -implicitDefEqProofs [-loopQ_n, hd, hc]))) | (refine ldD_ep ?_ ?_; (focus kernel_rfl); (try simp -implicitDefEqProofs [-loopQ_n])) | (refine callS_mk ?_; (try simp -implicitDefEqProofs [-loopQ_n]); (first | refine callS_intro (hA) (.inl rfl) ?_); (try simp -implicitDefEqProofs [-loopQ_n])))))
  all_goals simp [fewI, *]
end Go.Proofs.Ytpgoefakhecdnaa
