/- The cases and words of a log, as the reference has them; small logs. -/
import Derived.Test.YtnldjmokemgaoaaEl1
import Derived.Test.YtnldjmokemgaoaaSrt0
namespace Go.Proofs.Ytnldjmokemgaoaa
set_option linter.unusedSimpArgs false
set_option linter.unusedVariables false
set_option linter.unnecessarySimpa false
set_option linter.unusedSectionVars false
open Go.RowKit
variable [Glob]
set_option maxRecDepth 100000
theorem idxA_no {x : ByteArray} : ∀ {l : List ByteArray} {i : Int}, x ∉ l → idxA l x i = -1 := by
  intro l
  induction l with
  | nil => intro i _; rfl
  | cons y r ih =>
    intro i h
    simp only [List.mem_cons, not_or] at h
    rw [idxA, if_neg (fun e => h.1 e.symm), ih h.2]
theorem idxA_yes {x : ByteArray} : ∀ {l : List ByteArray} {i : Int}, x ∈ l → i ≤ idxA l x i := by
  intro l
  induction l with
  | nil => intro i h; simp at h
  | cons y r ih =>
    intro i h
    rw [idxA]
    by_cases e : y = x
    · rw [if_pos e]; exact Int.le_refl _
    · rw [if_neg e]
      have := ih (i := i + 1) ((List.mem_cons.1 h).resolve_left fun q => e q.symm)
      omega
theorem idxS_no {l : List ByteArray} {x : ByteArray} (h : x ∉ l) : idxS l x = -1 := idxA_no h
theorem idxS_yes {l : List ByteArray} {x : ByteArray} (h : x ∈ l) : ¬ idxS l x < 0 := by
  have := idxA_yes (i := 0) h
  unfold idxS; omega
theorem insB_has {l : List ByteArray} {s : ByteArray} (h : s ∈ l) : insB l s = l := by unfold insB; rw [if_pos (hasB_iff.2 h)]
/-- The word of a case. -/
def wordE (c : ByteArray) (e : Evt) : Bool := decide (e.case_ = c) && decide (e.life = 5)
def wordL (l : List Evt) (c : ByteArray) : List ByteArray := (l.filter (wordE c)).map (·.act)
set_option maxHeartbeats 8000000 in
theorem rcases_pure (l : List Evt) (hl : l.length ≤ 2000) : Pure Try.prog 13 [.agg [.rs (rowsOf evtC l)]] (.rs (rowsOf strC (casesL l))) := by
  refine pure_of mixed Try.func13 rfl (by kernel_rfl) (of_decide_eq_true rfl) (by kernel_rfl) (vc_run ?_)
  ((try simp -implicitDefEqProofs [-loopQ_n]) <;> (repeat' (first | (refine condD_dec ?_ ?_ <;> (intro hc; (try simp -implicitDefEqProofs [-loopQ_n, hc]))) | (refine guardD_dec ?_ ?_ <;> (intro hc; (try simp -implicitDefEqProofs [-loopQ_n, hc]))) | (refine condD_intro ?_ ?_ <;> (intro hd; have hc := hd; (try simp at hc) <;> (try simp -implicitDefEqProofs [-loopQ_n, hd, hc]))) | (refine guardD_intro ?_ ?_ <;> (intro hd; have hc := hd; (try simp at hc) <;> (try simp -implicitDefEqProofs [-loopQ_n, hd, hc]))) | (refine ldD_ep ?_ ?_; (focus kernel_rfl); (try simp -implicitDefEqProofs [-loopQ_n])))))
  refine loop_intro (σ := Nat × List ByteArray) (fun x => ⟨[(1, .op 0 0), (3, .rs (rowsOf strC x.2)), (4, .int .i64 x.1)], [.box 24 [.rs (rowsOf evtC l)]]⟩)
    (fun x => x.1 ≤ l.length ∧ x.2.length ≤ x.1 ∧ ((l.map (·.case_)).drop x.1).foldl insB x.2 = casesL l) (fun x => l.length - x.1) (0, []) ⟨by simp, by simp, by simp [casesL, setB]⟩ ?_ ?_
  · refine weak_of 1 0 rfl rfl ?_ ?_ <;> simp [rowsOf]
  rintro ⟨i, acc⟩ ⟨hi, hL, hR⟩
  simp only at hi hL hR
  by_cases h : i < l.length
  · have w1 : wrapI .i64 ((i : Int) + 1) = (i : Int) + 1 := wrap_in (by omega) (by omega)
    obtain ⟨⟨c, a, r, life, time, data⟩, hf⟩ : ∃ e, l[i] = e := ⟨_, rfl⟩
    rw [← List.map_drop, List.drop_eq_getElem_cons h, hf, List.map_cons, List.foldl_cons, List.map_drop] at hR
    by_cases hc : c ∈ acc
    · have hn := idxS_yes hc
      rw [insB_has hc] at hR
      ((try simp -implicitDefEqProofs [-loopQ_n, h, hf, evtC, hn, w1]) <;> (repeat' (first | (refine condD_dec ?_ ?_ <;> (intro hc; (try simp -implicitDefEqProofs [-loopQ_n, hc, h, hf, evtC, hn, w1]))) | (refine guardD_dec ?_ ?_ <;> (intro hc; (try simp -implicitDefEqProofs [-loopQ_n, hc, h, hf, evtC, hn, w1]))) | (refine condD_intro ?_ ?_ <;> (intro hd; have hc := hd; (try simp at hc) <;> (try simp -implicitDefEqProofs [-loopQ_n, hd, hc, h, hf, evtC, hn, w1]))) | (refine guardD_intro ?_ ?_ <;> (intro hd; have hc := hd; (try simp at hc) <;> (try simp -implicitDefEqProofs [-loopQ_n, hd, hc, h, hf, evtC, hn, w1]))) | (refine ldD_ep ?_ ?_; (focus kernel_rfl); (try simp -implicitDefEqProofs [-loopQ_n, h, hf, evtC, hn, w1])) | (refine callS_mk ?_; (try simp -implicitDefEqProofs [-loopQ_n, h, hf, evtC, hn, w1]); (first | refine callS_intro (rindex_pure acc c (by omega)) (.inl rfl) ?_); (try simp -implicitDefEqProofs [-loopQ_n, h, hf, evtC, hn, w1])))))
      refine loop_next (i + 1, acc) ⟨by simp only; omega, by simp only; omega, hR⟩ (by simp only; omega) (weak_of 1 0 rfl rfl ?_ ?_) <;> simp [sw_refs]
    · have hn := idxS_no hc
      have hlen : (insB acc c).length ≤ acc.length + 1 := by have := setB_lenB [c] acc; simpa using this
      ((try simp -implicitDefEqProofs [-loopQ_n, h, hf, evtC, hn, w1]) <;> (repeat' (first | (refine condD_dec ?_ ?_ <;> (intro hc; (try simp -implicitDefEqProofs [-loopQ_n, hc, h, hf, evtC, hn, w1]))) | (refine guardD_dec ?_ ?_ <;> (intro hc; (try simp -implicitDefEqProofs [-loopQ_n, hc, h, hf, evtC, hn, w1]))) | (refine condD_intro ?_ ?_ <;> (intro hd; have hc := hd; (try simp at hc) <;> (try simp -implicitDefEqProofs [-loopQ_n, hd, hc, h, hf, evtC, hn, w1]))) | (refine guardD_intro ?_ ?_ <;> (intro hd; have hc := hd; (try simp at hc) <;> (try simp -implicitDefEqProofs [-loopQ_n, hd, hc, h, hf, evtC, hn, w1]))) | (refine ldD_ep ?_ ?_; (focus kernel_rfl); (try simp -implicitDefEqProofs [-loopQ_n, h, hf, evtC, hn, w1])) | (refine callS_mk ?_; (try simp -implicitDefEqProofs [-loopQ_n, h, hf, evtC, hn, w1]); (first | refine callS_intro (rindex_pure acc c (by omega)) (.inl rfl) ?_ | refine callS_intro (rins_pure acc c (by omega)) (.inr ⟨rfl, rfl⟩) ?_); (try simp -implicitDefEqProofs [-loopQ_n, h, hf, evtC, hn, w1])))))
      refine loop_next (i + 1, insB acc c) ⟨by simp only; omega, by simp only; omega, hR⟩ (by simp only; omega) (weak_of 1 0 rfl rfl ?_ ?_) <;> simp [sw_refs]
  · rw [List.drop_eq_nil_of_le (by simp; omega)] at hR
    have hR : acc = casesL l := hR
    rw [← hR]
    ((try simp -implicitDefEqProofs [-loopQ_n, h, sw_reify]) <;> (repeat' (first | (refine condD_dec ?_ ?_ <;> (intro hc; (try simp -implicitDefEqProofs [-loopQ_n, hc, h, sw_reify]))) | (refine guardD_dec ?_ ?_ <;> (intro hc; (try simp -implicitDefEqProofs [-loopQ_n, hc, h, sw_reify]))) | (refine condD_intro ?_ ?_ <;> (intro hd; have hc := hd; (try simp at hc) <;> (try simp -implicitDefEqProofs [-loopQ_n, hd, hc, h, sw_reify]))) | (refine guardD_intro ?_ ?_ <;> (intro hd; have hc := hd; (try simp at hc) <;> (try simp -implicitDefEqProofs [-loopQ_n, hd, hc, h, sw_reify]))) | (refine ldD_ep ?_ ?_; (focus kernel_rfl); (try simp -implicitDefEqProofs [-loopQ_n, h, sw_reify])))))
set_option maxHeartbeats 8000000 in
theorem rword_pure (l : List Evt) (c : ByteArray) (hl : l.length ≤ 2000) : Pure Try.prog 15 [.agg [.rs (rowsOf evtC l)], .str c] (.rs (rowsOf strC (wordL l c))) := by
  refine pure_of mixed Try.func15 rfl (by kernel_rfl) (of_decide_eq_true rfl) (by kernel_rfl) (vc_run ?_)
  ((try simp -implicitDefEqProofs [-loopQ_n]) <;> (repeat' (first | (refine condD_dec ?_ ?_ <;> (intro hc; (try simp -implicitDefEqProofs [-loopQ_n, hc]))) | (refine guardD_dec ?_ ?_ <;> (intro hc; (try simp -implicitDefEqProofs [-loopQ_n, hc]))) | (refine condD_intro ?_ ?_ <;> (intro hd; have hc := hd; (try simp at hc) <;> (try simp -implicitDefEqProofs [-loopQ_n, hd, hc]))) | (refine guardD_intro ?_ ?_ <;> (intro hd; have hc := hd; (try simp at hc) <;> (try simp -implicitDefEqProofs [-loopQ_n, hd, hc]))) | (refine ldD_ep ?_ ?_; (focus kernel_rfl); (try simp -implicitDefEqProofs [-loopQ_n])))))
  refine loop_intro (σ := Nat × List ByteArray) (fun x => ⟨[(1, .str c), (2, .op 0 0), (5, .os 1 x.2.length), (6, .int .i64 x.1)], [.box 24 [.rs (rowsOf evtC l)], .row 9 true (rowsOf strC x.2)]⟩)
    (fun x => x.1 ≤ l.length ∧ x.2.length ≤ x.1 ∧ x.2 ++ wordL (l.drop x.1) c = wordL l c) (fun x => l.length - x.1) (0, []) ⟨by simp, by simp, by simp⟩ ?_ ?_
  · refine weak_of 1 1 rfl rfl ?_ ?_ <;> simp [rowsOf]
  rintro ⟨i, acc⟩ ⟨hi, hL, hR⟩
  simp only at hi hL hR
  by_cases h : i < l.length
  · have w1 : wrapI .i64 ((i : Int) + 1) = (i : Int) + 1 := wrap_in (by omega) (by omega)
    obtain ⟨⟨c2, a, r, life, time, data⟩, hf⟩ : ∃ e, l[i] = e := ⟨_, rfl⟩
    have hlen : acc.length ≤ 1073741823 := by omega
    rw [List.drop_eq_getElem_cons h, hf] at hR
    by_cases hc : c2 = c
    · by_cases h5 : life = 5
      · have hw : wordL (⟨c2, a, r, life, time, data⟩ :: l.drop (i + 1)) c = a :: wordL (l.drop (i + 1)) c := by simp [wordL, wordE, hc, h5]
        rw [hw] at hR
        have hc' : c2.toList = c.toList := by rw [hc]
        ((try simp -implicitDefEqProofs [-loopQ_n, h, hf, evtC, hc', h5, w1, hlen]) <;> (repeat' (first | (refine condD_dec ?_ ?_ <;> (intro hc; (try simp -implicitDefEqProofs [-loopQ_n, hc, h, hf, evtC, hc', h5, w1, hlen]))) | (refine guardD_dec ?_ ?_ <;> (intro hc; (try simp -implicitDefEqProofs [-loopQ_n, hc, h, hf, evtC, hc', h5, w1, hlen]))) | (refine condD_intro ?_ ?_ <;> (intro hd; have hc := hd; (try simp at hc) <;> (try simp -implicitDefEqProofs [-loopQ_n, hd, hc, h, hf, evtC, hc', h5, w1, hlen]))) | (refine guardD_intro ?_ ?_ <;> (intro hd; have hc := hd; (try simp at hc) <;> (try simp -implicitDefEqProofs [-loopQ_n, hd, hc, h, hf, evtC, hc', h5, w1, hlen]))) | (refine ldD_ep ?_ ?_; (focus kernel_rfl); (try simp -implicitDefEqProofs [-loopQ_n, h, hf, evtC, hc', h5, w1, hlen])))))
        refine loop_next (i + 1, acc ++ [a]) ⟨by simp only; omega, by simp; omega, by simpa using hR⟩ (by simp only; omega) (weak_of 2 0 rfl rfl ?_ ?_) <;> simp [sw_refs, strs_snoc]
      · have hw : wordL (⟨c2, a, r, life, time, data⟩ :: l.drop (i + 1)) c = wordL (l.drop (i + 1)) c := by simp [wordL, wordE, h5]
        rw [hw] at hR
        have hc' : c2.toList = c.toList := by rw [hc]
        ((try simp -implicitDefEqProofs [-loopQ_n, h, hf, evtC, hc', h5, w1]) <;> (repeat' (first | (refine condD_dec ?_ ?_ <;> (intro hc; (try simp -implicitDefEqProofs [-loopQ_n, hc, h, hf, evtC, hc', h5, w1]))) | (refine guardD_dec ?_ ?_ <;> (intro hc; (try simp -implicitDefEqProofs [-loopQ_n, hc, h, hf, evtC, hc', h5, w1]))) | (refine condD_intro ?_ ?_ <;> (intro hd; have hc := hd; (try simp at hc) <;> (try simp -implicitDefEqProofs [-loopQ_n, hd, hc, h, hf, evtC, hc', h5, w1]))) | (refine guardD_intro ?_ ?_ <;> (intro hd; have hc := hd; (try simp at hc) <;> (try simp -implicitDefEqProofs [-loopQ_n, hd, hc, h, hf, evtC, hc', h5, w1]))) | (refine ldD_ep ?_ ?_; (focus kernel_rfl); (try simp -implicitDefEqProofs [-loopQ_n, h, hf, evtC, hc', h5, w1])))))
        refine loop_next (i + 1, acc) ⟨by simp only; omega, by simp only; omega, hR⟩ (by simp only; omega) (weak_of 2 0 rfl rfl ?_ ?_) <;> simp [sw_refs]
    · have hw : wordL (⟨c2, a, r, life, time, data⟩ :: l.drop (i + 1)) c = wordL (l.drop (i + 1)) c := by simp [wordL, wordE, hc]
      rw [hw] at hR
      have hc' : ¬ c2.toList = c.toList := fun q => hc (ba_eq (by rw [ba_toList, ba_toList] at q; exact q))
      ((try simp -implicitDefEqProofs [-loopQ_n, h, hf, evtC, hc', w1]) <;> (repeat' (first | (refine condD_dec ?_ ?_ <;> (intro hc; (try simp -implicitDefEqProofs [-loopQ_n, hc, h, hf, evtC, hc', w1]))) | (refine guardD_dec ?_ ?_ <;> (intro hc; (try simp -implicitDefEqProofs [-loopQ_n, hc, h, hf, evtC, hc', w1]))) | (refine condD_intro ?_ ?_ <;> (intro hd; have hc := hd; (try simp at hc) <;> (try simp -implicitDefEqProofs [-loopQ_n, hd, hc, h, hf, evtC, hc', w1]))) | (refine guardD_intro ?_ ?_ <;> (intro hd; have hc := hd; (try simp at hc) <;> (try simp -implicitDefEqProofs [-loopQ_n, hd, hc, h, hf, evtC, hc', w1]))) | (refine ldD_ep ?_ ?_; (focus kernel_rfl); (try simp -implicitDefEqProofs [-loopQ_n, h, hf, evtC, hc', w1])))))
      refine loop_next (i + 1, acc) ⟨by simp only; omega, by simp only; omega, hR⟩ (by simp only; omega) (weak_of 2 0 rfl rfl ?_ ?_) <;> simp [sw_refs]
  · rw [List.drop_eq_nil_of_le (by omega)] at hR
    have hR : acc = wordL l c := by simpa [wordL] using hR
    rw [← hR]
    ((try simp -implicitDefEqProofs [-loopQ_n, h, sw_reify]) <;> (repeat' (first | (refine condD_dec ?_ ?_ <;> (intro hc; (try simp -implicitDefEqProofs [-loopQ_n, hc, h, sw_reify]))) | (refine guardD_dec ?_ ?_ <;> (intro hc; (try simp -implicitDefEqProofs [-loopQ_n, hc, h, sw_reify]))) | (refine condD_intro ?_ ?_ <;> (intro hd; have hc := hd; (try simp at hc) <;> (try simp -implicitDefEqProofs [-loopQ_n, hd, hc, h, sw_reify]))) | (refine guardD_intro ?_ ?_ <;> (intro hd; have hc := hd; (try simp at hc) <;> (try simp -implicitDefEqProofs [-loopQ_n, hd, hc, h, sw_reify]))) | (refine ldD_ep ?_ ?_; (focus kernel_rfl); (try simp -implicitDefEqProofs [-loopQ_n, h, sw_reify])))))
/-- Small logs. -/
def bigF (f : Fld) : Bool := decide ((60 : Int) < f.name.size) || decide ((250 : Int) < f.v.s.size)
def plainE (e : Evt) : Bool := decide ((e.case_.size : Int) ≤ 60) && decide ((e.act.size : Int) ≤ 60) && decide ((e.res.size : Int) ≤ 60) && decide ((e.data.length : Int) ≤ 12) && !e.data.any bigF
def smallB (l : List Evt) : Bool := decide ((l.length : Int) ≤ 40) && !l.any fun e => !plainE e
theorem cfFld_idx {p : Fld → Bool} {l : List Fld} {g : Nat} {caps : List AV} (hp : ∀ x ∈ l, Pure Try.prog g (.agg (fldC x) :: caps) (.bool (p x))) (hc : ∀ H k, caps.mapM (reify H (k + 5)) = some caps) (hf : refsL 0 caps = true) (hl : l.length ≤ 9223372036854775807) :
    Pure Try.prog 85 [.rs (rowsOf fldC l), .fn g caps] (.int .i64 (idxOf p l)) := by
  refine pure_of mixed Try.func85 rfl (by kernel_rfl) (of_decide_eq_true rfl) (by kernel_rfl) (vc_run ?_)
  simp -implicitDefEqProofs
  refine loop_intro (σ := Nat) (fun i => ⟨[(0, .rs (rowsOf fldC l)), (1, .fn g caps), (7, .int .i64 l.length), (8, .int .i64 i)], []⟩) (fun i => i ≤ l.length ∧ allF p (l.take i)) (fun i => l.length - i) 0 ⟨Nat.zero_le _, allF_nil⟩ ?_ ?_
  · refine weak_of 0 0 rfl rfl ?_ ?_ <;> simp [hf]
  · rintro i ⟨hi, hall⟩
    by_cases h : i < l.length
    · simp -implicitDefEqProofs [h, fldC]
      have hc8 : ∀ H, caps.mapM (reify H 8) = some caps := fun H => hc H 3
      refine call_intro (hp l[i] (by simp)) (by simp -implicitDefEqProofs [hc8, fldC]) (.inl rfl) ?_
      by_cases hpx : p l[i] = true
      · simp -implicitDefEqProofs [hpx]
        exact (idxOf_some p l i h hall hpx).symm
      · have hpx : p l[i] = false := by simpa using hpx
        simp -implicitDefEqProofs [hpx]
        refine ⟨i + 1, ⟨by omega, allF_succ hall h hpx⟩, by omega, weak_of 0 0 rfl rfl ?_ ?_⟩
        · simp [hf]
          exact (wrap_in (by omega) (by omega)).symm
        · simp
    · simp -implicitDefEqProofs [h]
      rw [idxOf_none p l (allF_all hall h)]
theorem cfFld_any {p : Fld → Bool} {l : List Fld} {g : Nat} {caps : List AV} (hp : ∀ x ∈ l, Pure Try.prog g (.agg (fldC x) :: caps) (.bool (p x))) (hc : ∀ H k, caps.mapM (reify H (k + 5)) = some caps) (hf : refsL 0 caps = true) (hl : l.length ≤ 9223372036854775807) :
    Pure Try.prog 66 [.rs (rowsOf fldC l), .fn g caps] (.bool (l.any p)) := by
  refine pure_of mixed Try.func66 rfl (by kernel_rfl) (of_decide_eq_true rfl) (by kernel_rfl) (vc_run ?_)
  simp -implicitDefEqProofs
  have hc7 : ∀ H, caps.mapM (reify H 7) = some caps := fun H => hc H 2
  refine call_intro (cfFld_idx hp hc hf hl) (by simp -implicitDefEqProofs [hc7]) (.inl rfl) ?_
  simp -implicitDefEqProofs
  rw [← ge_idxOf]

theorem cfEvt_idx {p : Evt → Bool} {l : List Evt} {g : Nat} {caps : List AV} (hp : ∀ x ∈ l, Pure Try.prog g (.agg (evtC x) :: caps) (.bool (p x))) (hc : ∀ H k, caps.mapM (reify H (k + 5)) = some caps) (hf : refsL 0 caps = true) (hl : l.length ≤ 9223372036854775807) :
    Pure Try.prog 58 [.rs (rowsOf evtC l), .fn g caps] (.int .i64 (idxOf p l)) := by
  refine pure_of mixed Try.func58 rfl (by kernel_rfl) (of_decide_eq_true rfl) (by kernel_rfl) (vc_run ?_)
  simp -implicitDefEqProofs
  refine loop_intro (σ := Nat) (fun i => ⟨[(0, .rs (rowsOf evtC l)), (1, .fn g caps), (7, .int .i64 l.length), (8, .int .i64 i)], []⟩) (fun i => i ≤ l.length ∧ allF p (l.take i)) (fun i => l.length - i) 0 ⟨Nat.zero_le _, allF_nil⟩ ?_ ?_
  · refine weak_of 0 0 rfl rfl ?_ ?_ <;> simp [hf]
  · rintro i ⟨hi, hall⟩
    by_cases h : i < l.length
    · simp -implicitDefEqProofs [h, evtC]
      have hc8 : ∀ H, caps.mapM (reify H 8) = some caps := fun H => hc H 3
      refine call_intro (hp l[i] (by simp)) (by simp -implicitDefEqProofs [hc8, evtC]) (.inl rfl) ?_
      by_cases hpx : p l[i] = true
      · simp -implicitDefEqProofs [hpx]
        exact (idxOf_some p l i h hall hpx).symm
      · have hpx : p l[i] = false := by simpa using hpx
        simp -implicitDefEqProofs [hpx]
        refine ⟨i + 1, ⟨by omega, allF_succ hall h hpx⟩, by omega, weak_of 0 0 rfl rfl ?_ ?_⟩
        · simp [hf]
          exact (wrap_in (by omega) (by omega)).symm
        · simp
    · simp -implicitDefEqProofs [h]
      rw [idxOf_none p l (allF_all hall h)]
theorem cfEvt_any {p : Evt → Bool} {l : List Evt} {g : Nat} {caps : List AV} (hp : ∀ x ∈ l, Pure Try.prog g (.agg (evtC x) :: caps) (.bool (p x))) (hc : ∀ H k, caps.mapM (reify H (k + 5)) = some caps) (hf : refsL 0 caps = true) (hl : l.length ≤ 9223372036854775807) :
    Pure Try.prog 27 [.rs (rowsOf evtC l), .fn g caps] (.bool (l.any p)) := by
  refine pure_of mixed Try.func27 rfl (by kernel_rfl) (of_decide_eq_true rfl) (by kernel_rfl) (vc_run ?_)
  simp -implicitDefEqProofs
  have hc7 : ∀ H, caps.mapM (reify H 7) = some caps := fun H => hc H 2
  refine call_intro (cfEvt_idx hp hc hf hl) (by simp -implicitDefEqProofs [hc7]) (.inl rfl) ?_
  simp -implicitDefEqProofs
  rw [← ge_idxOf]

theorem plain1_pure (f : Fld) : Pure Try.prog 67 [.agg (fldC f)] (.bool (bigF f)) := by
  refine pure_of mixed Try.func67 rfl (by kernel_rfl) (of_decide_eq_true rfl) (by kernel_rfl) (vc_run ?_)
  obtain ⟨n, ⟨k, m, s⟩⟩ := f
  ((try simp -implicitDefEqProofs [-loopQ_n, fldC]) <;> (repeat' (first | (refine condD_dec ?_ ?_ <;> (intro hc; (try simp -implicitDefEqProofs [-loopQ_n, hc, fldC]))) | (refine guardD_dec ?_ ?_ <;> (intro hc; (try simp -implicitDefEqProofs [-loopQ_n, hc, fldC]))) | (refine condD_intro ?_ ?_ <;> (intro hd; have hc := hd; (try simp at hc) <;> (try simp -implicitDefEqProofs [-loopQ_n, hd, hc, fldC]))) | (refine guardD_intro ?_ ?_ <;> (intro hd; have hc := hd; (try simp at hc) <;> (try simp -implicitDefEqProofs [-loopQ_n, hd, hc, fldC]))) | (refine ldD_ep ?_ ?_; (focus kernel_rfl); (try simp -implicitDefEqProofs [-loopQ_n, fldC]))))) <;> simp [bigF, *]
theorem plain_pure (e : Evt) (hl : e.data.length ≤ 9223372036854775807) : Pure Try.prog 39 [.agg (evtC e)] (.bool (plainE e)) := by
  refine pure_of mixed Try.func39 rfl (by kernel_rfl) (of_decide_eq_true rfl) (by kernel_rfl) (vc_run ?_)
  obtain ⟨c, a, r, life, time, data⟩ := e
  ((try simp -implicitDefEqProofs [-loopQ_n, evtC]) <;> (repeat' (first | (refine condD_dec ?_ ?_ <;> (intro hc; (try simp -implicitDefEqProofs [-loopQ_n, hc, evtC]))) | (refine guardD_dec ?_ ?_ <;> (intro hc; (try simp -implicitDefEqProofs [-loopQ_n, hc, evtC]))) | (refine condD_intro ?_ ?_ <;> (intro hd; have hc := hd; (try simp at hc) <;> (try simp -implicitDefEqProofs [-loopQ_n, hd, hc, evtC]))) | (refine guardD_intro ?_ ?_ <;> (intro hd; have hc := hd; (try simp at hc) <;> (try simp -implicitDefEqProofs [-loopQ_n, hd, hc, evtC]))) | (refine ldD_ep ?_ ?_; (focus kernel_rfl); (try simp -implicitDefEqProofs [-loopQ_n, evtC])) | (refine callS_mk ?_; (try simp -implicitDefEqProofs [-loopQ_n, evtC]); (first | refine callS_intro (cfFld_any (p := bigF) (l := data) (g := 67) (caps := []) (fun x _ => plain1_pure x) (fun H k => rfl) rfl hl) (.inl rfl) ?_); (try simp -implicitDefEqProofs [-loopQ_n, evtC])))))
  all_goals simp [plainE, *]
theorem small1_pure (e : Evt) (hl : e.data.length ≤ 9223372036854775807) : Pure Try.prog 38 [.agg (evtC e)] (.bool (!plainE e)) := by
  obtain ⟨c, a, r, life, time, data⟩ := e
  refine pure_of mixed Try.func38 rfl (by kernel_rfl) (of_decide_eq_true rfl) (by kernel_rfl) (vc_run ?_)
  ((try simp -implicitDefEqProofs [-loopQ_n, evtC]) <;> (repeat' (first | (refine condD_dec ?_ ?_ <;> (intro hc; (try simp -implicitDefEqProofs [-loopQ_n, hc, evtC]))) | (refine guardD_dec ?_ ?_ <;> (intro hc; (try simp -implicitDefEqProofs [-loopQ_n, hc, evtC]))) | (refine condD_intro ?_ ?_ <;> (intro hd; have hc := hd; (try simp at hc) <;> (try simp -implicitDefEqProofs [-loopQ_n, hd, hc, evtC]))) | (refine guardD_intro ?_ ?_ <;> (intro hd; have hc := hd; (try simp at hc) <;> (try simp -implicitDefEqProofs [-loopQ_n, hd, hc, evtC]))) | (refine ldD_ep ?_ ?_; (focus kernel_rfl); (try simp -implicitDefEqProofs [-loopQ_n, evtC])) | (refine callS_mk ?_; (try simp -implicitDefEqProofs [-loopQ_n, evtC]); (first | refine callS_intro (plain_pure ⟨c, a, r, life, time, data⟩ hl) (.inl rfl) ?_); (try simp -implicitDefEqProofs [-loopQ_n, evtC])))))
theorem small_pure (l : List Evt) (hl : l.length ≤ 9223372036854775807) (hd : ∀ e ∈ l, e.data.length ≤ 9223372036854775807) : Pure Try.prog 9 [.agg [.rs (rowsOf evtC l)]] (.bool (smallB l)) := by
  refine pure_of mixed Try.func9 rfl (by kernel_rfl) (of_decide_eq_true rfl) (by kernel_rfl) (vc_run ?_)
  ((try simp -implicitDefEqProofs [-loopQ_n]) <;> (repeat' (first | (refine condD_dec ?_ ?_ <;> (intro hc; (try simp -implicitDefEqProofs [-loopQ_n, hc]))) | (refine guardD_dec ?_ ?_ <;> (intro hc; (try simp -implicitDefEqProofs [-loopQ_n, hc]))) | (refine condD_intro ?_ ?_ <;> (intro hd; have hc := hd; (try simp at hc) <;> (try simp -implicitDefEqProofs [-loopQ_n, hd, hc]))) | (refine guardD_intro ?_ ?_ <;> (intro hd; have hc := hd; (try simp at hc) <;> (try simp -implicitDefEqProofs [-loopQ_n, hd, hc]))) | (refine ldD_ep ?_ ?_; (focus kernel_rfl); (try simp -implicitDefEqProofs [-loopQ_n])) | (refine callS_mk ?_; (try simp -implicitDefEqProofs [-loopQ_n]); (first | refine callS_intro (cfEvt_any (p := fun e => !plainE e) (l := l) (g := 38) (caps := []) (fun x hx => small1_pure x (hd x hx)) (fun H k => rfl) rfl hl) (.inl rfl) ?_); (try simp -implicitDefEqProofs [-loopQ_n])))))
  all_goals simp [smallB, *]
theorem small_spec {l : List Evt} (h : smallB l = true) : l.length ≤ 40 ∧ ∀ e ∈ l, plainE e = true := by
  simp only [smallB, Bool.and_eq_true, decide_eq_true_eq, Bool.not_eq_true', List.any_eq_false] at h
  exact ⟨by omega, fun e he => by simpa using h.2 e he⟩
theorem plain_case {e : Evt} (h : plainE e = true) : e.case_.size ≤ 60 := by
  simp only [plainE, Bool.and_eq_true, decide_eq_true_eq] at h
  omega
end Go.Proofs.Ytnldjmokemgaoaa
