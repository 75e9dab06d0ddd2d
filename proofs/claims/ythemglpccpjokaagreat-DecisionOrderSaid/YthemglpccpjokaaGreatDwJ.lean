/- Which tables the laws take. -/
import Derived.Test.YthemglpccpjokaaGreatDwI
set_option linter.unusedSimpArgs false
set_option linter.unusedVariables false
set_option linter.unnecessarySimpa false
set_option linter.unusedSectionVars false
set_option maxRecDepth 100000
namespace Go.Proofs.YthemglpccpjokaaGreat
open Go.RowKit
variable [Glob]
theorem dvT_idx {p : Tst → Bool} {l : List Tst} {g : Nat} {caps : List AV} (hp : ∀ x ∈ l, Pure Tryz.prog g (.agg (tstC x) :: caps) (.bool (p x))) (hc : ∀ H k, caps.mapM (reify H (k + 5)) = some caps) (hf : refsL 0 caps = true) (hl : l.length ≤ 9223372036854775807) :
    Pure Tryz.prog 94 [.rs (rowsOf tstC l), .fn g caps] (.int .i64 (idxOf p l)) := by
  refine pure_of mixed Tryz.func94 rfl (by kernel_rfl) (of_decide_eq_true rfl) (by kernel_rfl) (vc_run ?_)
  simp -implicitDefEqProofs
  refine loop_intro (σ := Nat) (fun i => ⟨[(0, .rs (rowsOf tstC l)), (1, .fn g caps), (7, .int .i64 l.length), (8, .int .i64 i)], []⟩) (fun i => i ≤ l.length ∧ allF p (l.take i)) (fun i => l.length - i) 0 ⟨Nat.zero_le _, allF_nil⟩ ?_ ?_
  · refine weak_of 0 0 rfl rfl ?_ ?_ <;> simp [hf]
  · rintro i ⟨hi, hall⟩
    by_cases h : i < l.length
    · simp -implicitDefEqProofs [h, tstC]
      have hc8 : ∀ H, caps.mapM (reify H 8) = some caps := fun H => hc H 3
      refine call_intro (hp l[i] (by simp)) (by simp -implicitDefEqProofs [hc8, tstC]) (.inl rfl) ?_
      by_cases hpx : p l[i] = true
      · simp -implicitDefEqProofs [hpx]
        exact (idxOf_some p l i h hall hpx).symm
      · have hpx : p l[i] = false := by simpa using hpx
        simp -implicitDefEqProofs [hpx]
        refine ⟨i + 1, ⟨by omega, allF_succ hall h hpx⟩, by omega, weak_of 0 0 rfl rfl ?_ ?_⟩
        · simp [hf]
          exact (wrap_in (by omega) (by omega)).symm
        · simp
    · simp -implicitDefEqProofs [h]
      rw [idxOf_none p l (allF_all hall h)]
theorem dvT_any {p : Tst → Bool} {l : List Tst} {g : Nat} {caps : List AV} (hp : ∀ x ∈ l, Pure Tryz.prog g (.agg (tstC x) :: caps) (.bool (p x))) (hc : ∀ H k, caps.mapM (reify H (k + 5)) = some caps) (hf : refsL 0 caps = true) (hl : l.length ≤ 9223372036854775807) :
    Pure Tryz.prog 47 [.rs (rowsOf tstC l), .fn g caps] (.bool (l.any p)) := by
  refine pure_of mixed Tryz.func47 rfl (by kernel_rfl) (of_decide_eq_true rfl) (by kernel_rfl) (vc_run ?_)
  simp -implicitDefEqProofs
  have hc7 : ∀ H, caps.mapM (reify H 7) = some caps := fun H => hc H 2
  refine call_intro (dvT_idx hp hc hf hl) (by simp -implicitDefEqProofs [hc7]) (.inl rfl) ?_
  simp -implicitDefEqProofs
  rw [← ge_idxOf]
theorem dvD_idx {p : Dom → Bool} {l : List Dom} {g : Nat} {caps : List AV} (hp : ∀ x ∈ l, Pure Tryz.prog g (.agg (domC x) :: caps) (.bool (p x))) (hc : ∀ H k, caps.mapM (reify H (k + 5)) = some caps) (hf : refsL 0 caps = true) (hl : l.length ≤ 9223372036854775807) :
    Pure Tryz.prog 92 [.rs (rowsOf domC l), .fn g caps] (.int .i64 (idxOf p l)) := by
  refine pure_of mixed Tryz.func92 rfl (by kernel_rfl) (of_decide_eq_true rfl) (by kernel_rfl) (vc_run ?_)
  simp -implicitDefEqProofs
  refine loop_intro (σ := Nat) (fun i => ⟨[(0, .rs (rowsOf domC l)), (1, .fn g caps), (7, .int .i64 l.length), (8, .int .i64 i)], []⟩) (fun i => i ≤ l.length ∧ allF p (l.take i)) (fun i => l.length - i) 0 ⟨Nat.zero_le _, allF_nil⟩ ?_ ?_
  · refine weak_of 0 0 rfl rfl ?_ ?_ <;> simp [hf]
  · rintro i ⟨hi, hall⟩
    by_cases h : i < l.length
    · simp -implicitDefEqProofs [h, domC]
      have hc8 : ∀ H, caps.mapM (reify H 8) = some caps := fun H => hc H 3
      refine call_intro (hp l[i] (by simp)) (by simp -implicitDefEqProofs [hc8, domC]) (.inl rfl) ?_
      by_cases hpx : p l[i] = true
      · simp -implicitDefEqProofs [hpx]
        exact (idxOf_some p l i h hall hpx).symm
      · have hpx : p l[i] = false := by simpa using hpx
        simp -implicitDefEqProofs [hpx]
        refine ⟨i + 1, ⟨by omega, allF_succ hall h hpx⟩, by omega, weak_of 0 0 rfl rfl ?_ ?_⟩
        · simp [hf]
          exact (wrap_in (by omega) (by omega)).symm
        · simp
    · simp -implicitDefEqProofs [h]
      rw [idxOf_none p l (allF_all hall h)]
theorem dvD_any {p : Dom → Bool} {l : List Dom} {g : Nat} {caps : List AV} (hp : ∀ x ∈ l, Pure Tryz.prog g (.agg (domC x) :: caps) (.bool (p x))) (hc : ∀ H k, caps.mapM (reify H (k + 5)) = some caps) (hf : refsL 0 caps = true) (hl : l.length ≤ 9223372036854775807) :
    Pure Tryz.prog 43 [.rs (rowsOf domC l), .fn g caps] (.bool (l.any p)) := by
  refine pure_of mixed Tryz.func43 rfl (by kernel_rfl) (of_decide_eq_true rfl) (by kernel_rfl) (vc_run ?_)
  simp -implicitDefEqProofs
  have hc7 : ∀ H, caps.mapM (reify H 7) = some caps := fun H => hc H 2
  refine call_intro (dvD_idx hp hc hf hl) (by simp -implicitDefEqProofs [hc7]) (.inl rfl) ?_
  simp -implicitDefEqProofs
  rw [← ge_idxOf]
def longV (v : Val) : Bool := decide (300 < v.s.size)
def valuesB (l : List Val) : Bool := decide (l.length ≤ 30) && !l.any longV
def testB (t : Tst) : Bool := valuesB t.items && decide (t.v.s.size ≤ 300)
def longS (s : ByteArray) : Bool := decide (300 < s.size)
def wideB (x : Dom) : Bool := decide (x.name.size ≤ 200) && (decide (x.items.length ≤ 1100) && !x.items.any longS)
def badR (r : Rw) : Bool := decide (12 < r.tests.length) || (decide (300 < r.out.s.size) || r.tests.any fun t => !testB t)
theorem values1_pure (v : Val) : Pure Tryz.prog 57 [.agg (valC v)] (.bool (longV v)) := by
  refine pure_of mixed Tryz.func57 rfl (by kernel_rfl) (of_decide_eq_true rfl) (by kernel_rfl) (vc_run ?_)
  ((try simp -implicitDefEqProofs [-loopQ_n, valC]) <;> (repeat' (first | ((first | refine condD_dec ?_ ?_ | refine guardD_dec ?_ ?_) <;> (intro hc; (try simp -implicitDefEqProofs [-loopQ_n, hc, valC]))))))
  simp [longV]
  omega
theorem values_pure (l : List Val) (hl : l.length ≤ 9223372036854775807) : Pure Tryz.prog 20 [.rs (rowsOf valC l)] (.bool (valuesB l)) := by
  have hA := dvV_any (p := longV) (l := l) (g := 57) (caps := []) (fun x _ => values1_pure x) (fun H k => rfl) rfl (by omega)
  refine pure_of mixed Tryz.func20 rfl (by kernel_rfl) (of_decide_eq_true rfl) (by kernel_rfl) (vc_run ?_)
  by_cases q : (l.length : Int) ≤ 30
  · ((try simp -implicitDefEqProofs [-loopQ_n, q]) <;> (repeat' (first | ((first | refine condD_dec ?_ ?_ | refine guardD_dec ?_ ?_) <;> (intro hc; (try simp -implicitDefEqProofs [-loopQ_n, hc, q]))) | (refine callS_mk ?_; (try simp -implicitDefEqProofs [-loopQ_n, q]); (first | refine callS_intro (hA) (.inl rfl) ?_); (try simp -implicitDefEqProofs [-loopQ_n, q])))))
    have : l.length ≤ 30 := by omega
    simp [valuesB, this]
  · clear hA
    ((try simp -implicitDefEqProofs [-loopQ_n, q]) <;> (repeat' (first | ((first | refine condD_dec ?_ ?_ | refine guardD_dec ?_ ?_) <;> (intro hc; (try simp -implicitDefEqProofs [-loopQ_n, hc, q]))))))
    have : ¬ l.length ≤ 30 := by omega
    simp [valuesB, this]
theorem test_pure (t : Tst) (hl : t.items.length ≤ 9223372036854775807) : Pure Tryz.prog 33 [.agg (tstC t)] (.bool (testB t)) := by
  have hv := values_pure t.items hl
  unfold testB
  by_cases q : valuesB t.items = true
  · rw [q] at hv ⊢
    refine pure_of mixed Tryz.func33 rfl (by kernel_rfl) (of_decide_eq_true rfl) (by kernel_rfl) (vc_run ?_)
    ((try simp -implicitDefEqProofs [-loopQ_n, tstC]) <;> (repeat' (first | ((first | refine condD_dec ?_ ?_ | refine guardD_dec ?_ ?_) <;> (intro hc; (try simp -implicitDefEqProofs [-loopQ_n, hc, tstC]))) | (refine callS_mk ?_; (try simp -implicitDefEqProofs [-loopQ_n, tstC]); (first | refine callS_intro (hv) (.inl rfl) ?_); (try simp -implicitDefEqProofs [-loopQ_n, tstC])))))
    all_goals omega
  · have q : valuesB t.items = false := by simpa using q
    rw [q] at hv ⊢
    refine pure_of mixed Tryz.func33 rfl (by kernel_rfl) (of_decide_eq_true rfl) (by kernel_rfl) (vc_run ?_)
    ((try simp -implicitDefEqProofs [-loopQ_n, tstC]) <;> (repeat' (first | ((first | refine condD_dec ?_ ?_ | refine guardD_dec ?_ ?_) <;> (intro hc; (try simp -implicitDefEqProofs [-loopQ_n, hc, tstC]))) | (refine callS_mk ?_; (try simp -implicitDefEqProofs [-loopQ_n, tstC]); (first | refine callS_intro (hv) (.inl rfl) ?_); (try simp -implicitDefEqProofs [-loopQ_n, tstC])))))
theorem wide1_pure (s : ByteArray) : Pure Tryz.prog 75 [.str s] (.bool (longS s)) := by
  refine pure_of mixed Tryz.func75 rfl (by kernel_rfl) (of_decide_eq_true rfl) (by kernel_rfl) (vc_run ?_)
  ((try simp -implicitDefEqProofs [-loopQ_n]) <;> (repeat' (first | ((first | refine condD_dec ?_ ?_ | refine guardD_dec ?_ ?_) <;> (intro hc; (try simp -implicitDefEqProofs [-loopQ_n, hc]))))))
  simp [longS]
  omega
theorem wide_pure (x : Dom) (hl : x.items.length ≤ 9223372036854775807) : Pure Tryz.prog 32 [.agg (domC x)] (.bool (wideB x)) := by
  have hA := dvS_any (p := longS) (l := x.items) (g := 75) (caps := []) (fun x _ => wide1_pure x) (fun H k => rfl) rfl (by omega)
  unfold wideB
  refine pure_of mixed Tryz.func32 rfl (by kernel_rfl) (of_decide_eq_true rfl) (by kernel_rfl) (vc_run ?_)
  by_cases q : (x.name.size : Int) ≤ 200
  · have q2 : x.name.size ≤ 200 := by omega
    by_cases r : (x.items.length : Int) ≤ 1100
    · have r2 : x.items.length ≤ 1100 := by omega
      ((try simp -implicitDefEqProofs [-loopQ_n, domC, q, r]) <;> (repeat' (first | ((first | refine condD_dec ?_ ?_ | refine guardD_dec ?_ ?_) <;> (intro hc; (try simp -implicitDefEqProofs [-loopQ_n, hc, domC, q, r]))) | (refine callS_mk ?_; (try simp -implicitDefEqProofs [-loopQ_n, domC, q, r]); (first | refine callS_intro (hA) (.inl rfl) ?_); (try simp -implicitDefEqProofs [-loopQ_n, domC, q, r])))))
      simp [q2, r2]
    · have r2 : ¬ x.items.length ≤ 1100 := by omega
      clear hA
      ((try simp -implicitDefEqProofs [-loopQ_n, domC, q, r]) <;> (repeat' (first | ((first | refine condD_dec ?_ ?_ | refine guardD_dec ?_ ?_) <;> (intro hc; (try simp -implicitDefEqProofs [-loopQ_n, hc, domC, q, r]))))))
      simp [r2]
  · have q2 : ¬ x.name.size ≤ 200 := by omega
    clear hA
    ((try simp -implicitDefEqProofs [-loopQ_n, domC, q]) <;> (repeat' (first | ((first | refine condD_dec ?_ ?_ | refine guardD_dec ?_ ?_) <;> (intro hc; (try simp -implicitDefEqProofs [-loopQ_n, hc, domC, q]))))))
    simp [q2]
theorem few1_pure (x : Dom) (hl : x.items.length ≤ 9223372036854775807) : Pure Tryz.prog 44 [.agg (domC x)] (.bool (!wideB x)) := by
  have hw := wide_pure x hl
  simp only [domC] at hw
  refine pure_of mixed Tryz.func44 rfl (by kernel_rfl) (of_decide_eq_true rfl) (by kernel_rfl) (vc_run ?_)
  ((try simp -implicitDefEqProofs [-loopQ_n, domC]) <;> (repeat' (first | ((first | refine condD_dec ?_ ?_ | refine guardD_dec ?_ ?_) <;> (intro hc; (try simp -implicitDefEqProofs [-loopQ_n, hc, domC]))) | (refine callS_mk ?_; (try simp -implicitDefEqProofs [-loopQ_n, domC]); (first | refine callS_intro (hw) (.inl rfl) ?_); (try simp -implicitDefEqProofs [-loopQ_n, domC])))))
theorem few21_pure (t : Tst) (hl : t.items.length ≤ 9223372036854775807) : Pure Tryz.prog 48 [.agg (tstC t)] (.bool (!testB t)) := by
  have hw := test_pure t hl
  simp only [tstC] at hw
  refine pure_of mixed Tryz.func48 rfl (by kernel_rfl) (of_decide_eq_true rfl) (by kernel_rfl) (vc_run ?_)
  ((try simp -implicitDefEqProofs [-loopQ_n, tstC]) <;> (repeat' (first | ((first | refine condD_dec ?_ ?_ | refine guardD_dec ?_ ?_) <;> (intro hc; (try simp -implicitDefEqProofs [-loopQ_n, hc, tstC]))) | (refine callS_mk ?_; (try simp -implicitDefEqProofs [-loopQ_n, tstC]); (first | refine callS_intro (hw) (.inl rfl) ?_); (try simp -implicitDefEqProofs [-loopQ_n, tstC])))))
theorem few2_pure (r : Rw) (hl : r.tests.length ≤ 9223372036854775807) (ht : ∀ t ∈ r.tests, t.items.length ≤ 9223372036854775807) : Pure Tryz.prog 46 [.agg (rwC r)] (.bool (badR r)) := by
  have hA := dvT_any (p := fun t => !testB t) (l := r.tests) (g := 48) (caps := []) (fun x hx => few21_pure x (ht x hx)) (fun H k => rfl) rfl (by omega)
  unfold badR
  refine pure_of mixed Tryz.func46 rfl (by kernel_rfl) (of_decide_eq_true rfl) (by kernel_rfl) (vc_run ?_)
  by_cases q : (12 : Int) < r.tests.length
  · have q2 : 12 < r.tests.length := by omega
    clear hA
    ((try simp -implicitDefEqProofs [-loopQ_n, rwC, q]) <;> (repeat' (first | ((first | refine condD_dec ?_ ?_ | refine guardD_dec ?_ ?_) <;> (intro hc; (try simp -implicitDefEqProofs [-loopQ_n, hc, rwC, q]))))))
    simp [q2]
  · have q2 : ¬ 12 < r.tests.length := by omega
    by_cases s : (300 : Int) < r.out.s.size
    · have s2 : 300 < r.out.s.size := by omega
      clear hA
      ((try simp -implicitDefEqProofs [-loopQ_n, rwC, q, s]) <;> (repeat' (first | ((first | refine condD_dec ?_ ?_ | refine guardD_dec ?_ ?_) <;> (intro hc; (try simp -implicitDefEqProofs [-loopQ_n, hc, rwC, q, s]))))))
      simp [s2]
    · have s2 : ¬ 300 < r.out.s.size := by omega
      ((try simp -implicitDefEqProofs [-loopQ_n, rwC, q, s]) <;> (repeat' (first | ((first | refine condD_dec ?_ ?_ | refine guardD_dec ?_ ?_) <;> (intro hc; (try simp -implicitDefEqProofs [-loopQ_n, hc, rwC, q, s]))) | (refine callS_mk ?_; (try simp -implicitDefEqProofs [-loopQ_n, rwC, q, s]); (first | refine callS_intro (hA) (.inl rfl) ?_); (try simp -implicitDefEqProofs [-loopQ_n, rwC, q, s])))))
      simp [q2, s2]
def fewB (d : Dec) : Bool := !(decide (10 < d.inputs.length) || (d.inputs.any (fun x => !wideB x) || (!wideB d.out || (!valuesB d.order || (decide (10 < d.rows.length ∧ d.rows.length ≤ 60) || decide (70 < d.rows.length)))))) && (!d.rows.any badR && (!domsV d.inputs || (decide (capA 1 d.inputs ≤ 300) || decide (10000 < capA 1 d.inputs))))
theorem few_sz {d : Dec} (h : fewB d = true) : szD d := by
  simp only [fewB, Bool.and_eq_true, Bool.not_eq_true', Bool.or_eq_false_iff, decide_eq_false_iff_not, List.any_eq_false] at h
  obtain ⟨⟨h1, h2, h3, h4, h5, h6⟩, h7, h8⟩ := h
  have h4 : valuesB d.order = true := by simpa using h4
  simp only [valuesB, Bool.and_eq_true, decide_eq_true_eq] at h4
  refine ⟨by omega, by omega, by omega, fun r hr => ?_⟩
  have hb := h7 r hr
  simp only [badR, Bool.not_eq_true, Bool.or_eq_false_iff, decide_eq_false_iff_not, List.any_eq_false] at hb
  refine ⟨by omega, fun t ht => ?_⟩
  have ht := hb.2.2 t ht
  have ht : testB t = true := by simpa using ht
  simp only [testB, valuesB, Bool.and_eq_true, decide_eq_true_eq] at ht
  omega
set_option maxHeartbeats 8000000 in
theorem few_pure (d : Dec) (hb : BgD d) : Pure Tryz.prog 11 [.agg (decC d)] (.bool (fewB d)) := by
  obtain ⟨b1, b2, b3, b4, b5, b6⟩ := hb
  have hA := dvD_any (p := fun x => !wideB x) (l := d.inputs) (g := 44) (caps := []) (fun x hx => few1_pure x (b2 x hx)) (fun H k => rfl) rfl (by omega)
  have hB := dvR_any (p := badR) (l := d.rows) (g := 46) (caps := []) (fun x hx => few2_pure x (b6 x hx).1 (b6 x hx).2) (fun H k => rfl) rfl (by omega)
  have hw := wide_pure d.out b3
  have hv := values_pure d.order b4
  simp only [domC] at hw
  unfold fewB
  by_cases c1 : (10 : Int) < d.inputs.length
  · have c1' : 10 < d.inputs.length := by omega
    clear hA hB hw hv
    refine pure_of mixed Tryz.func11 rfl (by kernel_rfl) (of_decide_eq_true rfl) (by kernel_rfl) (vc_run ?_)
    ((try simp -implicitDefEqProofs [-loopQ_n, decC, c1]) <;> (repeat' (first | ((first | refine condD_dec ?_ ?_ | refine guardD_dec ?_ ?_) <;> (intro hc; (try simp -implicitDefEqProofs [-loopQ_n, hc, decC, c1]))))))
    all_goals (intros; omega)
  have c1' : ¬ 10 < d.inputs.length := by omega
  by_cases c2 : d.inputs.any (fun x => !wideB x) = true
  · rw [c2] at hA ⊢
    clear hB hw hv
    refine pure_of mixed Tryz.func11 rfl (by kernel_rfl) (of_decide_eq_true rfl) (by kernel_rfl) (vc_run ?_)
    ((try simp -implicitDefEqProofs [-loopQ_n, decC, c1]) <;> (repeat' (first | ((first | refine condD_dec ?_ ?_ | refine guardD_dec ?_ ?_) <;> (intro hc; (try simp -implicitDefEqProofs [-loopQ_n, hc, decC, c1]))) | (refine callS_mk ?_; (try simp -implicitDefEqProofs [-loopQ_n, decC, c1]); (first | refine callS_intro (hA) (.inl rfl) ?_); (try simp -implicitDefEqProofs [-loopQ_n, decC, c1])))))
    all_goals (intros; omega)
  have c2 : d.inputs.any (fun x => !wideB x) = false := by simpa using c2
  rw [c2] at hA ⊢
  by_cases c3 : wideB d.out = true
  rotate_left
  · have c3 : wideB d.out = false := by simpa using c3
    rw [c3] at hw ⊢
    clear hB hv
    refine pure_of mixed Tryz.func11 rfl (by kernel_rfl) (of_decide_eq_true rfl) (by kernel_rfl) (vc_run ?_)
    ((try simp -implicitDefEqProofs [-loopQ_n, decC, c1]) <;> (repeat' (first | ((first | refine condD_dec ?_ ?_ | refine guardD_dec ?_ ?_) <;> (intro hc; (try simp -implicitDefEqProofs [-loopQ_n, hc, decC, c1]))) | (refine callS_mk ?_; (try simp -implicitDefEqProofs [-loopQ_n, decC, c1]); (first | refine callS_intro (hA) (.inl rfl) ?_ | refine callS_intro (hw) (.inl rfl) ?_); (try simp -implicitDefEqProofs [-loopQ_n, decC, c1])))))
  rw [c3] at hw ⊢
  by_cases c4 : valuesB d.order = true
  rotate_left
  · have c4 : valuesB d.order = false := by simpa using c4
    rw [c4] at hv ⊢
    clear hB
    refine pure_of mixed Tryz.func11 rfl (by kernel_rfl) (of_decide_eq_true rfl) (by kernel_rfl) (vc_run ?_)
    ((try simp -implicitDefEqProofs [-loopQ_n, decC, c1]) <;> (repeat' (first | ((first | refine condD_dec ?_ ?_ | refine guardD_dec ?_ ?_) <;> (intro hc; (try simp -implicitDefEqProofs [-loopQ_n, hc, decC, c1]))) | (refine callS_mk ?_; (try simp -implicitDefEqProofs [-loopQ_n, decC, c1]); (first | refine callS_intro (hA) (.inl rfl) ?_ | refine callS_intro (hw) (.inl rfl) ?_ | refine callS_intro (hv) (.inl rfl) ?_); (try simp -implicitDefEqProofs [-loopQ_n, decC, c1])))))
  rw [c4] at hv ⊢
  by_cases c5 : (10 : Int) < d.rows.length ∧ (d.rows.length : Int) ≤ 60
  · have c5' : 10 < d.rows.length ∧ d.rows.length ≤ 60 := by omega
    clear hB
    refine pure_of mixed Tryz.func11 rfl (by kernel_rfl) (of_decide_eq_true rfl) (by kernel_rfl) (vc_run ?_)
    ((try simp -implicitDefEqProofs [-loopQ_n, decC, c1, c5.1, c5.2]) <;> (repeat' (first | ((first | refine condD_dec ?_ ?_ | refine guardD_dec ?_ ?_) <;> (intro hc; (try simp -implicitDefEqProofs [-loopQ_n, hc, decC, c1, c5.1, c5.2]))) | (refine callS_mk ?_; (try simp -implicitDefEqProofs [-loopQ_n, decC, c1, c5.1, c5.2]); (first | refine callS_intro (hA) (.inl rfl) ?_ | refine callS_intro (hw) (.inl rfl) ?_ | refine callS_intro (hv) (.inl rfl) ?_); (try simp -implicitDefEqProofs [-loopQ_n, decC, c1, c5.1, c5.2])))))
    all_goals (intros; omega)
  have c5' : ¬ (10 < d.rows.length ∧ d.rows.length ≤ 60) := by omega
  by_cases c6 : (70 : Int) < d.rows.length
  · have c6' : 70 < d.rows.length := by omega
    have c7 : (10 : Int) < d.rows.length := by omega
    have c8 : ¬ (d.rows.length : Int) ≤ 60 := by omega
    clear hB
    refine pure_of mixed Tryz.func11 rfl (by kernel_rfl) (of_decide_eq_true rfl) (by kernel_rfl) (vc_run ?_)
    ((try simp -implicitDefEqProofs [-loopQ_n, decC, c1, c6, c7, c8]) <;> (repeat' (first | ((first | refine condD_dec ?_ ?_ | refine guardD_dec ?_ ?_) <;> (intro hc; (try simp -implicitDefEqProofs [-loopQ_n, hc, decC, c1, c6, c7, c8]))) | (refine callS_mk ?_; (try simp -implicitDefEqProofs [-loopQ_n, decC, c1, c6, c7, c8]); (first | refine callS_intro (hA) (.inl rfl) ?_ | refine callS_intro (hw) (.inl rfl) ?_ | refine callS_intro (hv) (.inl rfl) ?_); (try simp -implicitDefEqProofs [-loopQ_n, decC, c1, c6, c7, c8])))))
    all_goals (intros; omega)
  have c6' : ¬ 70 < d.rows.length := by omega
  have e0 : (!(decide (10 < d.inputs.length) || (false || (!true || (!true || (decide (10 < d.rows.length ∧ d.rows.length ≤ 60) || decide (70 < d.rows.length))))))) = true := by
    rw [decide_eq_false c1', decide_eq_false c5', decide_eq_false c6']; rfl
  rw [e0, Bool.true_and]
  have hd := rdoms_pure d.inputs (by omega)
  have hn := fun h => rasg_pure d.inputs (by omega) h
  have c9 : (10 : Int) < d.rows.length → ¬ (d.rows.length : Int) ≤ 60 := fun _ => by omega
  by_cases c7 : d.rows.any badR = true
  · rw [c7] at hB ⊢
    clear hd hn
    refine pure_of mixed Tryz.func11 rfl (by kernel_rfl) (of_decide_eq_true rfl) (by kernel_rfl) (vc_run ?_)
    ((try simp -implicitDefEqProofs [-loopQ_n, decC, c1, c6, c9]) <;> (repeat' (first | ((first | refine condD_dec ?_ ?_ | refine guardD_dec ?_ ?_) <;> (intro hc; (try simp -implicitDefEqProofs [-loopQ_n, hc, decC, c1, c6, c9]))) | (refine callS_mk ?_; (try simp -implicitDefEqProofs [-loopQ_n, decC, c1, c6, c9]); (first | refine callS_intro (hA) (.inl rfl) ?_ | refine callS_intro (hw) (.inl rfl) ?_ | refine callS_intro (hv) (.inl rfl) ?_ | refine callS_intro (hB) (.inl rfl) ?_); (try simp -implicitDefEqProofs [-loopQ_n, decC, c1, c6, c9])))))
  have c7 : d.rows.any badR = false := by simpa using c7
  rw [c7] at hB ⊢
  by_cases q : domsV d.inputs = true
  · have hn := hn (doms_mem q)
    rw [q] at hd ⊢
    by_cases r1 : capA 1 d.inputs ≤ 300
    · skip
      refine pure_of mixed Tryz.func11 rfl (by kernel_rfl) (of_decide_eq_true rfl) (by kernel_rfl) (vc_run ?_)
      ((try simp -implicitDefEqProofs [-loopQ_n, decC, c1, c6, c9, r1]) <;> (repeat' (first | ((first | refine condD_dec ?_ ?_ | refine guardD_dec ?_ ?_) <;> (intro hc; (try simp -implicitDefEqProofs [-loopQ_n, hc, decC, c1, c6, c9, r1]))) | (refine callS_mk ?_; (try simp -implicitDefEqProofs [-loopQ_n, decC, c1, c6, c9, r1]); (first | refine callS_intro (hA) (.inl rfl) ?_ | refine callS_intro (hw) (.inl rfl) ?_ | refine callS_intro (hv) (.inl rfl) ?_ | refine callS_intro (hB) (.inl rfl) ?_ | refine callS_intro (hd) (.inl rfl) ?_ | refine callS_intro (hn) (.inl rfl) ?_); (try simp -implicitDefEqProofs [-loopQ_n, decC, c1, c6, c9, r1])))))
      all_goals simp [r1]
    · skip
      refine pure_of mixed Tryz.func11 rfl (by kernel_rfl) (of_decide_eq_true rfl) (by kernel_rfl) (vc_run ?_)
      ((try simp -implicitDefEqProofs [-loopQ_n, decC, c1, c6, c9, r1]) <;> (repeat' (first | ((first | refine condD_dec ?_ ?_ | refine guardD_dec ?_ ?_) <;> (intro hc; (try simp -implicitDefEqProofs [-loopQ_n, hc, decC, c1, c6, c9, r1]))) | (refine callS_mk ?_; (try simp -implicitDefEqProofs [-loopQ_n, decC, c1, c6, c9, r1]); (first | refine callS_intro (hA) (.inl rfl) ?_ | refine callS_intro (hw) (.inl rfl) ?_ | refine callS_intro (hv) (.inl rfl) ?_ | refine callS_intro (hB) (.inl rfl) ?_ | refine callS_intro (hd) (.inl rfl) ?_ | refine callS_intro (hn) (.inl rfl) ?_); (try simp -implicitDefEqProofs [-loopQ_n, decC, c1, c6, c9, r1])))))
      all_goals simp [r1]
  · have q : domsV d.inputs = false := by simpa using q
    rw [q] at hd ⊢
    clear hn
    refine pure_of mixed Tryz.func11 rfl (by kernel_rfl) (of_decide_eq_true rfl) (by kernel_rfl) (vc_run ?_)
    ((try simp -implicitDefEqProofs [-loopQ_n, decC, c1, c6, c9]) <;> (repeat' (first | ((first | refine condD_dec ?_ ?_ | refine guardD_dec ?_ ?_) <;> (intro hc; (try simp -implicitDefEqProofs [-loopQ_n, hc, decC, c1, c6, c9]))) | (refine callS_mk ?_; (try simp -implicitDefEqProofs [-loopQ_n, decC, c1, c6, c9]); (first | refine callS_intro (hA) (.inl rfl) ?_ | refine callS_intro (hw) (.inl rfl) ?_ | refine callS_intro (hv) (.inl rfl) ?_ | refine callS_intro (hB) (.inl rfl) ?_ | refine callS_intro (hd) (.inl rfl) ?_); (try simp -implicitDefEqProofs [-loopQ_n, decC, c1, c6, c9])))))
end Go.Proofs.YthemglpccpjokaaGreat
