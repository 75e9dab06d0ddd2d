/- The program's Instances, walked. -/
import Derived.Test.YtpgoefakhecdnaaM6
import Derived.Test.YtpgoefakhecdnaaLog
namespace Go.Proofs.Ytpgoefakhecdnaa
set_option linter.unusedSimpArgs false
set_option linter.unusedVariables false
set_option linter.unnecessarySimpa false
set_option linter.unusedSectionVars false
open Go.RowKit
variable [Glob]
set_option maxRecDepth 100000
theorem takeL_len {e : Evt} {L L' : List Xc} {x : Option Xc} (h : takeL e L = some (L', x)) : L'.length ≤ L.length + 1 := by
  unfold takeL at h
  have hE : ∀ i, (L.eraseIdx i).length ≤ L.length + 1 := fun i => by rw [List.length_eraseIdx]; split <;> omega
  (repeat' split at h) <;> simp only [Option.some.injEq, Prod.mk.injEq, reduceCtorEq] at h
  all_goals (obtain ⟨rfl, _⟩ := h)
  all_goals first | exact hE _ | omega | (simp only [List.length_append, List.length_set, List.length_cons, List.length_nil]; omega)
theorem outE_len {e : Evt} {x : Option Xc} : (outE e x).length ≤ 1 := by unfold outE; cases x <;> simp
theorem take_ok {f : Of} {out : List Ins} {es : Es} {fo : AV} {bs : Fs} {e : Evt} {L' : List Xc} {x : Option Xc} {K : AV → List Blk → Prop} (hF : FS f out es fo bs) (hl : (f (kyE e)).length ≤ 1000000) (hol : out.length ≤ 1000000) (ht : takeL e (f (kyE e)) = some (L', x))
    (hK : ∀ es' fo' bs', FS (updF f (kyE e) L') (out ++ outE e x) es' fo' bs' → K (.bool true) (memF es' fo' bs')) :
    CallG Try.prog 34 [.op 0 0, .agg (evtC e)] (memF es fo bs) K := by
  by_cases c5 : e.life = 5
  · exact take_5 hF hl hol c5 ht hK
  unfold takeL at ht
  by_cases c1 : e.life = 1
  · rw [if_pos c1] at ht
    simp only [Option.some.injEq, Prod.mk.injEq] at ht
    obtain ⟨rfl, rfl⟩ := ht
    exact take_1 hF hl hol c1 fun es' fo' bs' h => hK _ _ _ (by simpa [outE] using h)
  rw [if_neg c1] at ht
  by_cases c2 : e.life = 2
  · rw [if_pos c2] at ht
    cases hn : fstX 1 (f (kyE e)) with
    | none =>
      rw [hn] at ht
      simp only [Option.some.injEq, Prod.mk.injEq] at ht
      obtain ⟨rfl, rfl⟩ := ht
      exact take_20 hF hl hol c2 hn fun es' fo' bs' h => hK _ _ _ (by simpa [outE] using h)
    | some n =>
      rw [hn] at ht
      simp only [Option.some.injEq, Prod.mk.injEq] at ht
      obtain ⟨rfl, rfl⟩ := ht
      exact take_2 hF hl hol c2 hn fun es' fo' bs' h => hK _ _ _ (by simpa [outE] using h)
  rw [if_neg c2] at ht
  by_cases c3 : e.life = 3
  · rw [if_pos c3] at ht
    cases hn : fstX 2 (f (kyE e)) with
    | none => rw [hn] at ht; simp at ht
    | some n =>
      rw [hn] at ht
      simp only [Option.some.injEq, Prod.mk.injEq] at ht
      obtain ⟨rfl, rfl⟩ := ht
      exact take_3 hF hl hol c3 hn fun es' fo' bs' h => hK _ _ _ (by simpa [outE] using h)
  rw [if_neg c3] at ht
  by_cases c4 : e.life = 4
  · rw [if_pos c4] at ht
    cases hn : fstX 3 (f (kyE e)) with
    | none => rw [hn] at ht; simp at ht
    | some n =>
      rw [hn] at ht
      simp only [Option.some.injEq, Prod.mk.injEq] at ht
      obtain ⟨rfl, rfl⟩ := ht
      exact take_4 hF hl hol c4 hn fun es' fo' bs' h => hK _ _ _ (by simpa [outE] using h)
  rw [if_neg c4, if_neg c5] at ht
  by_cases c6 : e.life = 6
  · rw [if_pos c6] at ht
    cases hn : f (kyE e) with
    | nil => rw [hn] at ht; simp at ht
    | cons y r =>
      rw [hn] at ht
      simp only [Option.some.injEq, Prod.mk.injEq] at ht
      obtain ⟨rfl, rfl⟩ := ht
      exact take_6 hF hl hol c6 hn fun es' fo' bs' h => hK _ _ _ (by simpa [outE] using h)
  rw [if_neg c6] at ht
  simp only [Option.some.injEq, Prod.mk.injEq] at ht
  obtain ⟨rfl, rfl⟩ := ht
  exact take_7 hF hl hol (by omega) fun bs' h => hK _ _ _ (by rw [updF_self]; simpa [outE] using h)
theorem take_bad {f : Of} {out : List Ins} {es : Es} {fo : AV} {bs : Fs} {e : Evt} {K : AV → List Blk → Prop} (hF : FS f out es fo bs) (hl : (f (kyE e)).length ≤ 1000000) (hol : out.length ≤ 1000000) (ht : takeL e (f (kyE e)) = none)
    (hK : ∀ bs', K (.bool false) (memF es fo bs')) :
    CallG Try.prog 34 [.op 0 0, .agg (evtC e)] (memF es fo bs) K := by
  unfold takeL at ht
  by_cases c1 : e.life = 1
  · rw [if_pos c1] at ht; simp at ht
  rw [if_neg c1] at ht
  by_cases c2 : e.life = 2
  · rw [if_pos c2] at ht; cases hn : fstX 1 (f (kyE e)) <;> rw [hn] at ht <;> simp at ht
  rw [if_neg c2] at ht
  by_cases c3 : e.life = 3
  · rw [if_pos c3] at ht
    cases hn : fstX 2 (f (kyE e)) with
    | some n => rw [hn] at ht; simp at ht
    | none => exact take_30 hF hl hol c3 hn hK
  rw [if_neg c3] at ht
  by_cases c4 : e.life = 4
  · rw [if_pos c4] at ht
    cases hn : fstX 3 (f (kyE e)) with
    | some n => rw [hn] at ht; simp at ht
    | none => exact take_40 hF hl hol c4 hn hK
  rw [if_neg c4] at ht
  by_cases c5 : e.life = 5
  · rw [if_pos c5] at ht
    cases hn : fstX 2 (f (kyE e)) with
    | some n => rw [hn] at ht; simp at ht
    | none =>
      rw [hn] at ht
      cases hn2 : fstX 1 (f (kyE e)) <;> rw [hn2] at ht <;> simp at ht
  rw [if_neg c5] at ht
  by_cases c6 : e.life = 6
  · rw [if_pos c6] at ht
    cases hn : f (kyE e) with
    | nil => exact take_60 hF hl hol c6 hn hK
    | cons y r => rw [hn] at ht; simp at ht
  rw [if_neg c6] at ht
  simp at ht
/-- Only what the slots hold is forgotten. -/
def subT (T T' : List (Nat × AV)) : Prop := ∀ p ∈ T', tget T p.1 = p.2
theorem subT_get {T : List (Nat × AV)} : ∀ {T' : List (Nat × AV)}, subT T T' → ∀ k, tget T' k = .any ∨ tget T k = tget T' k := by
  intro T'
  induction T' with
  | nil => intro _ k; exact .inl rfl
  | cons p r ih =>
    intro h k
    obtain ⟨j, v⟩ := p
    simp only [tget]
    by_cases e : j = k
    · rw [if_pos e]; subst e; exact .inr (h (j, v) (by simp))
    · rw [if_neg e]; exact ih (fun q hq => h q (by simp [hq])) k
theorem weak_slots {P : Program} {L : Nat} {T T' : List (Nat × AV)} {H : List Blk} (h : subT T T') : Weak P L ⟨T, H⟩ ⟨T', H⟩ := by
  intro B w0 X N φ a w hB hr
  refine ⟨φ, hr.hr, hr.tn, fun k => ?_, hr.size, hr.df⟩
  rcases subT_get h k with e | e
  · show RV _ _ _ _ _ (tget T' k) _
    rw [e]; exact .ro .any
  · have := hr.t k
    show RV _ _ _ _ _ (tget T' k) _
    rw [← e]; exact this
def alLen (f : Of) (i : Nat) : Prop := ∀ k, (f k).length ≤ i
theorem alLen_upd {f : Of} {i : Nat} {k : Ky} {L : List Xc} (h : alLen f i) (hL : L.length ≤ i + 1) : alLen (updF f k L) (i + 1) := fun q => by
  unfold updF
  split
  · exact hL
  · have := h q; omega
def insO (r : List Ins × Int) : AV := .tup [.rs (rowsOf insC r.1), .int .i64 r.2]
noncomputable def instL (l : List Evt) : List Ins × Int := if logV l = true then runI (fun _ => []) [] l else ([], 1)
theorem log_len {l : List Evt} (h : logV l = true) : l.length ≤ 2000 := by
  unfold logV at h
  simp only [Bool.and_eq_true, decide_eq_true_eq] at h
  omega
theorem fs_start : FS (fun _ => []) [] [] .nils [] := ⟨⟨by simp, by simp, by simp⟩, fun k => rfl, fun i b h => by simp at h, .inl ⟨rfl, rfl⟩⟩
theorem evtI_refs {m : Nat} {l : List Evt} : refsR m (rowsOf evtC l) = true := rowsOf_refs fun x => by simp [evtC, refs]
set_option maxHeartbeats 8000000 in
theorem instances_pure (l : List Evt) : Pure Try.prog 8 [.agg [.rs (rowsOf evtC l)]] (insO (instL l)) := by
  have hP := log_pure l
  refine pure_of mixed Try.func8 rfl (by kernel_rfl) (of_decide_eq_true rfl) (by kernel_rfl) (vc_run ?_)
  by_cases hV : logV l = true
  rotate_left
  · rw [instL, if_neg hV]
    have hV : logV l = false := by simpa using hV
    rw [hV] at hP
    ((try simp -implicitDefEqProofs [-loopQ_n, insO, rowsOf_nil]) <;> (repeat' (first | (refine condD_dec ?_ ?_ <;> (intro hc; (try simp -implicitDefEqProofs [-loopQ_n, hc, insO, rowsOf_nil]))) | (refine guardD_dec ?_ ?_ <;> (intro hc; (try simp -implicitDefEqProofs [-loopQ_n, hc, insO, rowsOf_nil]))) | (refine condD_intro ?_ ?_ <;> (intro hd; have hc := hd; (try simp at hc) <;> (try simp -implicitDefEqProofs [-loopQ_n, hd, hc, insO, rowsOf_nil]))) | (refine guardD_intro ?_ ?_ <;> (intro hd; have hc := hd; (try simp at hc) <;> (try simp -implicitDefEqProofs [-loopQ_n, hd, hc, insO, rowsOf_nil]))) | (refine ldD_ep ?_ ?_; (focus kernel_rfl); (try simp -implicitDefEqProofs [-loopQ_n, insO, rowsOf_nil])) | (refine callS_mk ?_; (try simp -implicitDefEqProofs [-loopQ_n, insO, rowsOf_nil]); (first | refine callS_intro (hP) (.inl rfl) ?_); (try simp -implicitDefEqProofs [-loopQ_n, insO, rowsOf_nil])))))
  rw [instL, if_pos hV]
  rw [hV] at hP
  have hl := log_len hV
  obtain ⟨R, hR⟩ : ∃ R, runI (fun _ => []) [] l = R := ⟨_, rfl⟩
  rw [hR]
  ((try simp -implicitDefEqProofs [-loopQ_n]) <;> (repeat' (first | (refine condD_dec ?_ ?_ <;> (intro hc; (try simp -implicitDefEqProofs [-loopQ_n, hc]))) | (refine guardD_dec ?_ ?_ <;> (intro hc; (try simp -implicitDefEqProofs [-loopQ_n, hc]))) | (refine condD_intro ?_ ?_ <;> (intro hd; have hc := hd; (try simp at hc) <;> (try simp -implicitDefEqProofs [-loopQ_n, hd, hc]))) | (refine guardD_intro ?_ ?_ <;> (intro hd; have hc := hd; (try simp at hc) <;> (try simp -implicitDefEqProofs [-loopQ_n, hd, hc]))) | (refine ldD_ep ?_ ?_; (focus kernel_rfl); (try simp -implicitDefEqProofs [-loopQ_n])) | (refine callS_mk ?_; (try simp -implicitDefEqProofs [-loopQ_n]); (first | refine callS_intro (hP) (.inl rfl) ?_); (try simp -implicitDefEqProofs [-loopQ_n])))))
  refine loop_intro (σ := Nat × Of × List Ins × Es × AV × Fs) (fun x => ⟨[(4, .op 0 0), (14, .rs (rowsOf evtC l)), (15, .int .i64 l.length), (16, .int .i64 x.1)], memF x.2.2.2.1 x.2.2.2.2.1 x.2.2.2.2.2⟩)
    (fun x => x.1 ≤ l.length ∧ FS x.2.1 x.2.2.1 x.2.2.2.1 x.2.2.2.2.1 x.2.2.2.2.2 ∧ alLen x.2.1 x.1 ∧ x.2.2.1.length ≤ x.1 ∧ runI x.2.1 x.2.2.1 (l.drop x.1) = R) (fun x => l.length - x.1) (0, fun _ => [], [], [], .nils, []) ⟨by simp, fs_start, fun k => by simp, by simp, by simpa using hR⟩ ?_ ?_
  · refine weak_ren [2, 1] rfl (by decide) (fun i h => by simp at h ⊢; omega) (fun i h => absurd h (Nat.not_lt_zero _)) (fun i j b h1 h2 => ?_) (tEq_get ?_)
    · match i, h1 with
      | 0, h1 =>
        simp at h1; subst h1
        simp [memF] at h2; subst h2
        simp [rn, mB, mL, mA]
      | 1, h1 =>
        simp at h1; subst h1
        simp [memF, mE] at h2; subst h2
        simp [rn, mB]
    · simp [tEq, rn, mA, mL]
  clear hR
  rintro ⟨i, f, out, es, fo, bs⟩ ⟨hi, hF, hfl, hol, hR⟩
  simp only at hi hF hfl hol hR
  have sn := fun b => memF_snoc (fo := fo) (b := b) hF.ok
  by_cases h : i < l.length
  · have w1 := w_succ' h (by omega)
    rw [List.drop_eq_getElem_cons h, runI] at hR
    obtain ⟨⟨ec, ea, er, el, et, ed⟩, hf⟩ : ∃ e, l[i] = e := ⟨_, rfl⟩
    obtain ⟨e, he⟩ : ∃ e : Evt, ⟨ec, ea, er, el, et, ed⟩ = e := ⟨_, rfl⟩
    rw [hf, he] at hR
    have hF1 := hF.snoc (mvI_evt (t := 41) (e := ⟨ec, ea, er, el, et, ed⟩))
    simp only [evtC] at hF1
    have hfk := hfl (kyE e)
    ((try simp -implicitDefEqProofs [-loopQ_n, h, hf, sn, evtC, memF_setl, memF_len, memF_get, memF_getE, List.getElem?_append, List.getElem_append, blkF, la01, lt0, lt1]) <;> (repeat' (first | (refine condD_dec ?_ ?_ <;> (intro hc; (try simp -implicitDefEqProofs [-loopQ_n, hc, h, hf, sn, evtC, memF_setl, memF_len, memF_get, memF_getE, List.getElem?_append, List.getElem_append, blkF, la01, lt0, lt1]))) | (refine guardD_dec ?_ ?_ <;> (intro hc; (try simp -implicitDefEqProofs [-loopQ_n, hc, h, hf, sn, evtC, memF_setl, memF_len, memF_get, memF_getE, List.getElem?_append, List.getElem_append, blkF, la01, lt0, lt1]))) | (refine condD_intro ?_ ?_ <;> (intro hd; have hc := hd; (try simp at hc) <;> (try simp -implicitDefEqProofs [-loopQ_n, hd, hc, h, hf, sn, evtC, memF_setl, memF_len, memF_get, memF_getE, List.getElem?_append, List.getElem_append, blkF, la01, lt0, lt1]))) | (refine guardD_intro ?_ ?_ <;> (intro hd; have hc := hd; (try simp at hc) <;> (try simp -implicitDefEqProofs [-loopQ_n, hd, hc, h, hf, sn, evtC, memF_setl, memF_len, memF_get, memF_getE, List.getElem?_append, List.getElem_append, blkF, la01, lt0, lt1]))) | (refine ldD_ep ?_ ?_; (focus kernel_rfl); (try simp -implicitDefEqProofs [-loopQ_n, h, hf, sn, evtC, memF_setl, memF_len, memF_get, memF_getE, List.getElem?_append, List.getElem_append, blkF, la01, lt0, lt1])))))
    cases ht : takeL e (f (kyE e)) with
    | none =>
      rw [ht] at hR
      simp only at hR
      subst hR
      have hT := take_bad (K := fun v H => v = .bool false ∧ ∃ bs', H = memF es fo bs') hF1 (by omega) (by omega) ht fun bs' => ⟨rfl, bs', rfl⟩
      rw [← he] at hT
      simp only [evtC] at hT
      refine callG_intro (CallG.weaken hT fun v H hv => ?_)
      obtain ⟨rfl, bs', rfl⟩ := hv
      ((try simp -implicitDefEqProofs [-loopQ_n, insO, rowsOf_nil]) <;> (repeat' (first | (refine condD_dec ?_ ?_ <;> (intro hc; (try simp -implicitDefEqProofs [-loopQ_n, hc, insO, rowsOf_nil]))) | (refine guardD_dec ?_ ?_ <;> (intro hc; (try simp -implicitDefEqProofs [-loopQ_n, hc, insO, rowsOf_nil]))) | (refine condD_intro ?_ ?_ <;> (intro hd; have hc := hd; (try simp at hc) <;> (try simp -implicitDefEqProofs [-loopQ_n, hd, hc, insO, rowsOf_nil]))) | (refine guardD_intro ?_ ?_ <;> (intro hd; have hc := hd; (try simp at hc) <;> (try simp -implicitDefEqProofs [-loopQ_n, hd, hc, insO, rowsOf_nil]))) | (refine ldD_ep ?_ ?_; (focus kernel_rfl); (try simp -implicitDefEqProofs [-loopQ_n, insO, rowsOf_nil])))))
    | some q =>
      obtain ⟨L', x⟩ := q
      rw [ht] at hR
      simp only at hR
      have hT := take_ok (K := fun v H => v = .bool true ∧ ∃ es' fo' bs', FS (updF f (kyE e) L') (out ++ outE e x) es' fo' bs' ∧ H = memF es' fo' bs') hF1 (by omega) (by omega) ht fun es' fo' bs' h => ⟨rfl, es', fo', bs', h, rfl⟩
      rw [← he] at hT
      simp only [evtC] at hT
      rw [he] at hT
      refine callG_intro (CallG.weaken hT fun v H hv => ?_)
      obtain ⟨rfl, es', fo', bs', hF', rfl⟩ := hv
      have hLl := takeL_len ht
      have hol' := outE_len (e := e) (x := x)
      ((try simp -implicitDefEqProofs [-loopQ_n, w1]) <;> (repeat' (first | (refine condD_dec ?_ ?_ <;> (intro hc; (try simp -implicitDefEqProofs [-loopQ_n, hc, w1]))) | (refine guardD_dec ?_ ?_ <;> (intro hc; (try simp -implicitDefEqProofs [-loopQ_n, hc, w1]))) | (refine condD_intro ?_ ?_ <;> (intro hd; have hc := hd; (try simp at hc) <;> (try simp -implicitDefEqProofs [-loopQ_n, hd, hc, w1]))) | (refine guardD_intro ?_ ?_ <;> (intro hd; have hc := hd; (try simp at hc) <;> (try simp -implicitDefEqProofs [-loopQ_n, hd, hc, w1]))) | (refine ldD_ep ?_ ?_; (focus kernel_rfl); (try simp -implicitDefEqProofs [-loopQ_n, w1])))))
      refine loop_next (i + 1, updF f (kyE e) L', out ++ outE e x, es', fo', bs') ⟨h, hF', alLen_upd hfl (by omega), by simp; omega, hR⟩ (by simp only; omega) (weak_slots ?_)
      simp [subT, w1]
  · rw [List.drop_eq_nil_of_le (by omega), runI] at hR
    subst hR
    rcases hF.res with ⟨h2, h3⟩ | ⟨h2, ido, nb, h3, h4⟩
    · subst h2; subst h3
      ((try simp -implicitDefEqProofs [-loopQ_n, h, memF_0, insO, rowsOf_nil]) <;> (repeat' (first | (refine condD_dec ?_ ?_ <;> (intro hc; (try simp -implicitDefEqProofs [-loopQ_n, hc, h, memF_0, insO, rowsOf_nil]))) | (refine guardD_dec ?_ ?_ <;> (intro hc; (try simp -implicitDefEqProofs [-loopQ_n, hc, h, memF_0, insO, rowsOf_nil]))) | (refine condD_intro ?_ ?_ <;> (intro hd; have hc := hd; (try simp at hc) <;> (try simp -implicitDefEqProofs [-loopQ_n, hd, hc, h, memF_0, insO, rowsOf_nil]))) | (refine guardD_intro ?_ ?_ <;> (intro hd; have hc := hd; (try simp at hc) <;> (try simp -implicitDefEqProofs [-loopQ_n, hd, hc, h, memF_0, insO, rowsOf_nil]))) | (refine ldD_ep ?_ ?_; (focus kernel_rfl); (try simp -implicitDefEqProofs [-loopQ_n, h, memF_0, insO, rowsOf_nil])))))
    · subst h3
      ((try simp -implicitDefEqProofs [-loopQ_n, h, memF_0, insO, memF_get, h4, blkF, ins_reify, rowsOf_length]) <;> (repeat' (first | (refine condD_dec ?_ ?_ <;> (intro hc; (try simp -implicitDefEqProofs [-loopQ_n, hc, h, memF_0, insO, memF_get, h4, blkF, ins_reify, rowsOf_length]))) | (refine guardD_dec ?_ ?_ <;> (intro hc; (try simp -implicitDefEqProofs [-loopQ_n, hc, h, memF_0, insO, memF_get, h4, blkF, ins_reify, rowsOf_length]))) | (refine condD_intro ?_ ?_ <;> (intro hd; have hc := hd; (try simp at hc) <;> (try simp -implicitDefEqProofs [-loopQ_n, hd, hc, h, memF_0, insO, memF_get, h4, blkF, ins_reify, rowsOf_length]))) | (refine guardD_intro ?_ ?_ <;> (intro hd; have hc := hd; (try simp at hc) <;> (try simp -implicitDefEqProofs [-loopQ_n, hd, hc, h, memF_0, insO, memF_get, h4, blkF, ins_reify, rowsOf_length]))) | (refine ldD_ep ?_ ?_; (focus kernel_rfl); (try simp -implicitDefEqProofs [-loopQ_n, h, memF_0, insO, memF_get, h4, blkF, ins_reify, rowsOf_length])))))
end Go.Proofs.Ytpgoefakhecdnaa
