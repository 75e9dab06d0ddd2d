/- Logs with other times, names, cases (program). -/
import Derived.Test.YtkionfcafifhdaaEl4
import Derived.Test.YtkionfcafifhdaaClF
namespace Go.Proofs.Ytkionfcafifhdaa
set_option linter.unusedSimpArgs false
set_option linter.unusedVariables false
set_option linter.unnecessarySimpa false
set_option linter.unusedSectionVars false
open Go.RowKit
variable [Glob]
set_option maxRecDepth 100000
theorem copied_pure (e : Evt) (hl : e.data.length ≤ 1073741824) : Pure Try.prog 27 [.agg (evtC e)] (.agg (evtC e)) := by
  obtain ⟨c, a, r, life, time, data⟩ := e
  refine pure_of mixed Try.func27 rfl (by kernel_rfl) (of_decide_eq_true rfl) (by kernel_rfl) (vc_run ?_)
  by_cases h0 : data = []
  · subst h0
    ((try simp -implicitDefEqProofs [-loopQ_n, evtC, rowsOf_nil]) <;> (repeat' (first | (refine condD_dec ?_ ?_ <;> (intro hc; (try simp -implicitDefEqProofs [-loopQ_n, hc, evtC, rowsOf_nil]))) | (refine guardD_dec ?_ ?_ <;> (intro hc; (try simp -implicitDefEqProofs [-loopQ_n, hc, evtC, rowsOf_nil]))) | (refine condD_intro ?_ ?_ <;> (intro hd; have hc := hd; (try simp at hc) <;> (try simp -implicitDefEqProofs [-loopQ_n, hd, hc, evtC, rowsOf_nil]))) | (refine guardD_intro ?_ ?_ <;> (intro hd; have hc := hd; (try simp at hc) <;> (try simp -implicitDefEqProofs [-loopQ_n, hd, hc, evtC, rowsOf_nil]))) | (refine ldD_ep ?_ ?_; (focus kernel_rfl); (try simp -implicitDefEqProofs [-loopQ_n, evtC, rowsOf_nil])))))
    refine callG_intro (cloneF0_G fun nb => ?_)
    ((try simp -implicitDefEqProofs [-loopQ_n, evtC, rowsOf_nil]) <;> (repeat' (first | (refine condD_dec ?_ ?_ <;> (intro hc; (try simp -implicitDefEqProofs [-loopQ_n, hc, evtC, rowsOf_nil]))) | (refine guardD_dec ?_ ?_ <;> (intro hc; (try simp -implicitDefEqProofs [-loopQ_n, hc, evtC, rowsOf_nil]))) | (refine condD_intro ?_ ?_ <;> (intro hd; have hc := hd; (try simp at hc) <;> (try simp -implicitDefEqProofs [-loopQ_n, hd, hc, evtC, rowsOf_nil]))) | (refine guardD_intro ?_ ?_ <;> (intro hd; have hc := hd; (try simp at hc) <;> (try simp -implicitDefEqProofs [-loopQ_n, hd, hc, evtC, rowsOf_nil]))) | (refine ldD_ep ?_ ?_; (focus kernel_rfl); (try simp -implicitDefEqProofs [-loopQ_n, evtC, rowsOf_nil])))))
  · ((try simp -implicitDefEqProofs [-loopQ_n, evtC]) <;> (repeat' (first | (refine condD_dec ?_ ?_ <;> (intro hc; (try simp -implicitDefEqProofs [-loopQ_n, hc, evtC]))) | (refine guardD_dec ?_ ?_ <;> (intro hc; (try simp -implicitDefEqProofs [-loopQ_n, hc, evtC]))) | (refine condD_intro ?_ ?_ <;> (intro hd; have hc := hd; (try simp at hc) <;> (try simp -implicitDefEqProofs [-loopQ_n, hd, hc, evtC]))) | (refine guardD_intro ?_ ?_ <;> (intro hd; have hc := hd; (try simp at hc) <;> (try simp -implicitDefEqProofs [-loopQ_n, hd, hc, evtC]))) | (refine ldD_ep ?_ ?_; (focus kernel_rfl); (try simp -implicitDefEqProofs [-loopQ_n, evtC])) | (refine callS_mk ?_; (try simp -implicitDefEqProofs [-loopQ_n, evtC]); (first | refine callS_intro (cloneF_pure data h0 hl) (.inr ⟨rfl, rfl⟩) ?_); (try simp -implicitDefEqProofs [-loopQ_n, evtC])))))
theorem evt_reify {H : List Blk} {n : Nat} {l : List Evt} : (rowsOf evtC l).mapM (fun row => row.mapM (reify H (n + 1))) = some (rowsOf evtC l) := rowsOf_reify fun x => by simp [evtC, reify]
theorem evt_refs {m : Nat} {l : List Evt} : refsR m (rowsOf evtC l) = true := rowsOf_refs fun x => by simp [evtC, refs]
def logO (r : List Evt × Int) : AV := .tup [.agg [.rs (rowsOf evtC r.1)], .int .i64 r.2]
theorem log_lenE {l : List Evt} (h : logV l = true) : l.length ≤ 2000 := by
  simp only [logV, Bool.and_eq_true, decide_eq_true_eq] at h
  omega
theorem log_evt {l : List Evt} (h : logV l = true) : ∀ e ∈ l, eventV e = true := fun e he => by
  simp only [logV, Bool.and_eq_true, decide_eq_true_eq] at h
  obtain ⟨i, hi, rfl⟩ := List.getElem_of_mem he
  have := h.2 i hi hi
  simp only [evOk, Bool.and_eq_true] at this
  exact this.1
theorem evt_bd {e : Evt} (h : eventV e = true) : 0 ≤ e.time ∧ e.time ≤ 1099511627776 ∧ e.data.length ≤ 8 ∧ isNameS e.case_ = true ∧ isNameS e.act = true := by
  simp only [eventV, Bool.and_eq_true, decide_eq_true_eq] at h
  exact ⟨by omega, by omega, by omega, h.1.1.1.1.1.1.1.1, h.1.1.1.1.1.1.1.2⟩
/-! Shift. -/
def shE (by_ : Int) (e : Evt) : Evt := { e with time := e.time + by_ }
def shF (by_ : Int) : List Evt → List Evt → List Evt × Int
  | [], acc => (acc, 0)
  | e :: r, acc => if e.time + by_ < 0 ∨ 1099511627776 < e.time + by_ then ([], 2) else shF by_ r (acc ++ [shE by_ e])
noncomputable def shiftR (l : List Evt) (by_ : Int) : List Evt × Int := if logV l = true then (if by_ < -1099511627776 ∨ 1099511627776 < by_ then ([], 2) else shF by_ l []) else ([], 1)
set_option maxHeartbeats 8000000 in
theorem shift_pure (l : List Evt) (by_ : Int) : Pure Try.prog 9 [.agg [.rs (rowsOf evtC l)], .int .i64 by_] (logO (shiftR l by_)) := by
  refine pure_of mixed Try.func9 rfl (by kernel_rfl) (of_decide_eq_true rfl) (by kernel_rfl) (vc_run ?_)
  by_cases hV : logV l = true
  rotate_left
  · rw [shiftR, if_neg hV]
    have hV : logV l = false := by simpa using hV
    ((try simp -implicitDefEqProofs [-loopQ_n, hV, logO, rowsOf_nil]) <;> (repeat' (first | (refine condD_dec ?_ ?_ <;> (intro hc; (try simp -implicitDefEqProofs [-loopQ_n, hc, hV, logO, rowsOf_nil]))) | (refine guardD_dec ?_ ?_ <;> (intro hc; (try simp -implicitDefEqProofs [-loopQ_n, hc, hV, logO, rowsOf_nil]))) | (refine condD_intro ?_ ?_ <;> (intro hd; have hc := hd; (try simp at hc) <;> (try simp -implicitDefEqProofs [-loopQ_n, hd, hc, hV, logO, rowsOf_nil]))) | (refine guardD_intro ?_ ?_ <;> (intro hd; have hc := hd; (try simp at hc) <;> (try simp -implicitDefEqProofs [-loopQ_n, hd, hc, hV, logO, rowsOf_nil]))) | (refine ldD_ep ?_ ?_; (focus kernel_rfl); (try simp -implicitDefEqProofs [-loopQ_n, hV, logO, rowsOf_nil])) | (refine callS_mk ?_; (try simp -implicitDefEqProofs [-loopQ_n, hV, logO, rowsOf_nil]); (first | refine callS_intro (log_pure l) (.inl rfl) ?_); (try simp -implicitDefEqProofs [-loopQ_n, hV, logO, rowsOf_nil])))))
  rw [shiftR, if_pos hV]
  by_cases h1 : by_ < -1099511627776
  · rw [if_pos (.inl h1)]
    ((try simp -implicitDefEqProofs [-loopQ_n, hV, h1, logO, rowsOf_nil]) <;> (repeat' (first | (refine condD_dec ?_ ?_ <;> (intro hc; (try simp -implicitDefEqProofs [-loopQ_n, hc, hV, h1, logO, rowsOf_nil]))) | (refine guardD_dec ?_ ?_ <;> (intro hc; (try simp -implicitDefEqProofs [-loopQ_n, hc, hV, h1, logO, rowsOf_nil]))) | (refine condD_intro ?_ ?_ <;> (intro hd; have hc := hd; (try simp at hc) <;> (try simp -implicitDefEqProofs [-loopQ_n, hd, hc, hV, h1, logO, rowsOf_nil]))) | (refine guardD_intro ?_ ?_ <;> (intro hd; have hc := hd; (try simp at hc) <;> (try simp -implicitDefEqProofs [-loopQ_n, hd, hc, hV, h1, logO, rowsOf_nil]))) | (refine ldD_ep ?_ ?_; (focus kernel_rfl); (try simp -implicitDefEqProofs [-loopQ_n, hV, h1, logO, rowsOf_nil])) | (refine callS_mk ?_; (try simp -implicitDefEqProofs [-loopQ_n, hV, h1, logO, rowsOf_nil]); (first | refine callS_intro (log_pure l) (.inl rfl) ?_); (try simp -implicitDefEqProofs [-loopQ_n, hV, h1, logO, rowsOf_nil])))))
  by_cases h2 : 1099511627776 < by_
  · rw [if_pos (.inr h2)]
    ((try simp -implicitDefEqProofs [-loopQ_n, hV, h1, h2, logO, rowsOf_nil]) <;> (repeat' (first | (refine condD_dec ?_ ?_ <;> (intro hc; (try simp -implicitDefEqProofs [-loopQ_n, hc, hV, h1, h2, logO, rowsOf_nil]))) | (refine guardD_dec ?_ ?_ <;> (intro hc; (try simp -implicitDefEqProofs [-loopQ_n, hc, hV, h1, h2, logO, rowsOf_nil]))) | (refine condD_intro ?_ ?_ <;> (intro hd; have hc := hd; (try simp at hc) <;> (try simp -implicitDefEqProofs [-loopQ_n, hd, hc, hV, h1, h2, logO, rowsOf_nil]))) | (refine guardD_intro ?_ ?_ <;> (intro hd; have hc := hd; (try simp at hc) <;> (try simp -implicitDefEqProofs [-loopQ_n, hd, hc, hV, h1, h2, logO, rowsOf_nil]))) | (refine ldD_ep ?_ ?_; (focus kernel_rfl); (try simp -implicitDefEqProofs [-loopQ_n, hV, h1, h2, logO, rowsOf_nil])) | (refine callS_mk ?_; (try simp -implicitDefEqProofs [-loopQ_n, hV, h1, h2, logO, rowsOf_nil]); (first | refine callS_intro (log_pure l) (.inl rfl) ?_); (try simp -implicitDefEqProofs [-loopQ_n, hV, h1, h2, logO, rowsOf_nil])))))
  rw [if_neg (by omega)]
  have hll := log_lenE hV
  obtain ⟨R, hRR⟩ : ∃ R, shF by_ l [] = R := ⟨_, rfl⟩
  rw [hRR]
  ((try simp -implicitDefEqProofs [-loopQ_n, hV, h1, h2]) <;> (repeat' (first | (refine condD_dec ?_ ?_ <;> (intro hc; (try simp -implicitDefEqProofs [-loopQ_n, hc, hV, h1, h2]))) | (refine guardD_dec ?_ ?_ <;> (intro hc; (try simp -implicitDefEqProofs [-loopQ_n, hc, hV, h1, h2]))) | (refine condD_intro ?_ ?_ <;> (intro hd; have hc := hd; (try simp at hc) <;> (try simp -implicitDefEqProofs [-loopQ_n, hd, hc, hV, h1, h2]))) | (refine guardD_intro ?_ ?_ <;> (intro hd; have hc := hd; (try simp at hc) <;> (try simp -implicitDefEqProofs [-loopQ_n, hd, hc, hV, h1, h2]))) | (refine ldD_ep ?_ ?_; (focus kernel_rfl); (try simp -implicitDefEqProofs [-loopQ_n, hV, h1, h2])) | (refine callS_mk ?_; (try simp -implicitDefEqProofs [-loopQ_n, hV, h1, h2]); (first | refine callS_intro (log_pure l) (.inl rfl) ?_); (try simp -implicitDefEqProofs [-loopQ_n, hV, h1, h2])))))
  refine loop_intro (σ := Nat × List Evt) (fun x => ⟨[(1, .int .i64 by_), (4, .op 1 0), (6, .op 2 0), (22, .rs (rowsOf evtC l)), (23, .int .i64 l.length), (24, .int .i64 x.1)], [.gone, .box 24 [.nils], .box 24 [.os 3 x.2.length], .row 58 true (rowsOf evtC x.2)]⟩)
    (fun x => x.1 ≤ l.length ∧ x.2.length ≤ x.1 ∧ shF by_ (l.drop x.1) x.2 = R) (fun x => l.length - x.1) (0, []) ⟨by simp, by simp, by simpa using hRR⟩ ?_ ?_
  · refine weak_of 3 1 rfl rfl ?_ ?_ <;> simp
  rintro ⟨i, acc⟩ ⟨hi, hal, hR⟩
  simp only at hi hal hR
  by_cases h : i < l.length
  · have w1 : wrapI .i64 ((i : Int) + 1) = (i : Int) + 1 := wrap_in (by omega) (by omega)
    have hb := evt_bd (log_evt hV _ (List.getElem_mem h))
    obtain ⟨⟨c, a, r, life, time, data⟩, hf⟩ : ∃ e, l[i] = e := ⟨_, rfl⟩
    rw [hf] at hb
    simp only at hb
    have hC := copied_pure ⟨c, a, r, life, time, data⟩ (by simp only; omega)
    have w2 : wrapI .i64 (time + by_) = time + by_ := wrap_in (by omega) (by omega)
    have hlen : acc.length ≤ 1073741823 := by omega
    rw [List.drop_eq_getElem_cons h, hf, shF] at hR
    simp only at hR
    by_cases g1 : time + by_ < 0
    · rw [if_pos (.inl g1)] at hR
      rw [← hR]
      ((try simp -implicitDefEqProofs [-loopQ_n, h, hf, evtC, w2, g1, logO, rowsOf_nil]) <;> (repeat' (first | (refine condD_dec ?_ ?_ <;> (intro hc; (try simp -implicitDefEqProofs [-loopQ_n, hc, h, hf, evtC, w2, g1, logO, rowsOf_nil]))) | (refine guardD_dec ?_ ?_ <;> (intro hc; (try simp -implicitDefEqProofs [-loopQ_n, hc, h, hf, evtC, w2, g1, logO, rowsOf_nil]))) | (refine condD_intro ?_ ?_ <;> (intro hd; have hc := hd; (try simp at hc) <;> (try simp -implicitDefEqProofs [-loopQ_n, hd, hc, h, hf, evtC, w2, g1, logO, rowsOf_nil]))) | (refine guardD_intro ?_ ?_ <;> (intro hd; have hc := hd; (try simp at hc) <;> (try simp -implicitDefEqProofs [-loopQ_n, hd, hc, h, hf, evtC, w2, g1, logO, rowsOf_nil]))) | (refine ldD_ep ?_ ?_; (focus kernel_rfl); (try simp -implicitDefEqProofs [-loopQ_n, h, hf, evtC, w2, g1, logO, rowsOf_nil])) | (refine callS_mk ?_; (try simp -implicitDefEqProofs [-loopQ_n, h, hf, evtC, w2, g1, logO, rowsOf_nil]); (first | refine callS_intro (hC) (.inr ⟨rfl, rfl⟩) ?_); (try simp -implicitDefEqProofs [-loopQ_n, h, hf, evtC, w2, g1, logO, rowsOf_nil])))))
    by_cases g2 : 1099511627776 < time + by_
    · rw [if_pos (.inr g2)] at hR
      rw [← hR]
      ((try simp -implicitDefEqProofs [-loopQ_n, h, hf, evtC, w2, g1, g2, logO, rowsOf_nil]) <;> (repeat' (first | (refine condD_dec ?_ ?_ <;> (intro hc; (try simp -implicitDefEqProofs [-loopQ_n, hc, h, hf, evtC, w2, g1, g2, logO, rowsOf_nil]))) | (refine guardD_dec ?_ ?_ <;> (intro hc; (try simp -implicitDefEqProofs [-loopQ_n, hc, h, hf, evtC, w2, g1, g2, logO, rowsOf_nil]))) | (refine condD_intro ?_ ?_ <;> (intro hd; have hc := hd; (try simp at hc) <;> (try simp -implicitDefEqProofs [-loopQ_n, hd, hc, h, hf, evtC, w2, g1, g2, logO, rowsOf_nil]))) | (refine guardD_intro ?_ ?_ <;> (intro hd; have hc := hd; (try simp at hc) <;> (try simp -implicitDefEqProofs [-loopQ_n, hd, hc, h, hf, evtC, w2, g1, g2, logO, rowsOf_nil]))) | (refine ldD_ep ?_ ?_; (focus kernel_rfl); (try simp -implicitDefEqProofs [-loopQ_n, h, hf, evtC, w2, g1, g2, logO, rowsOf_nil])) | (refine callS_mk ?_; (try simp -implicitDefEqProofs [-loopQ_n, h, hf, evtC, w2, g1, g2, logO, rowsOf_nil]); (first | refine callS_intro (hC) (.inr ⟨rfl, rfl⟩) ?_); (try simp -implicitDefEqProofs [-loopQ_n, h, hf, evtC, w2, g1, g2, logO, rowsOf_nil])))))
    rw [if_neg (by omega)] at hR
    have hsn : rowsOf evtC acc ++ [[.str c, .str a, .str r, .int .i64 life, .int .i64 (time + by_), .rs (rowsOf fldC data)]] = rowsOf evtC (acc ++ [⟨c, a, r, life, time + by_, data⟩]) := by simp only [rowsOf, List.map_append, List.map_cons, List.map_nil, evtC]
    ((try simp -implicitDefEqProofs [-loopQ_n, h, hf, evtC, w1, w2, g1, g2, hlen, hsn]) <;> (repeat' (first | (refine condD_dec ?_ ?_ <;> (intro hc; (try simp -implicitDefEqProofs [-loopQ_n, hc, h, hf, evtC, w1, w2, g1, g2, hlen, hsn]))) | (refine guardD_dec ?_ ?_ <;> (intro hc; (try simp -implicitDefEqProofs [-loopQ_n, hc, h, hf, evtC, w1, w2, g1, g2, hlen, hsn]))) | (refine condD_intro ?_ ?_ <;> (intro hd; have hc := hd; (try simp at hc) <;> (try simp -implicitDefEqProofs [-loopQ_n, hd, hc, h, hf, evtC, w1, w2, g1, g2, hlen, hsn]))) | (refine guardD_intro ?_ ?_ <;> (intro hd; have hc := hd; (try simp at hc) <;> (try simp -implicitDefEqProofs [-loopQ_n, hd, hc, h, hf, evtC, w1, w2, g1, g2, hlen, hsn]))) | (refine ldD_ep ?_ ?_; (focus kernel_rfl); (try simp -implicitDefEqProofs [-loopQ_n, h, hf, evtC, w1, w2, g1, g2, hlen, hsn])) | (refine callS_mk ?_; (try simp -implicitDefEqProofs [-loopQ_n, h, hf, evtC, w1, w2, g1, g2, hlen, hsn]); (first | refine callS_intro (hC) (.inr ⟨rfl, rfl⟩) ?_); (try simp -implicitDefEqProofs [-loopQ_n, h, hf, evtC, w1, w2, g1, g2, hlen, hsn])))))
    refine loop_next (i + 1, acc ++ [⟨c, a, r, life, time + by_, data⟩]) ⟨by simp only; omega, by simp; omega, hR⟩ (by simp only; omega) (weak_of 4 0 rfl rfl ?_ ?_)
    · simp
    · simp [evt_refs]
  · rw [List.drop_eq_nil_of_le (by omega), shF] at hR
    rw [← hR]
    ((try simp -implicitDefEqProofs [-loopQ_n, h, logO, evt_reify]) <;> (repeat' (first | (refine condD_dec ?_ ?_ <;> (intro hc; (try simp -implicitDefEqProofs [-loopQ_n, hc, h, logO, evt_reify]))) | (refine guardD_dec ?_ ?_ <;> (intro hc; (try simp -implicitDefEqProofs [-loopQ_n, hc, h, logO, evt_reify]))) | (refine condD_intro ?_ ?_ <;> (intro hd; have hc := hd; (try simp at hc) <;> (try simp -implicitDefEqProofs [-loopQ_n, hd, hc, h, logO, evt_reify]))) | (refine guardD_intro ?_ ?_ <;> (intro hd; have hc := hd; (try simp at hc) <;> (try simp -implicitDefEqProofs [-loopQ_n, hd, hc, h, logO, evt_reify]))) | (refine ldD_ep ?_ ?_; (focus kernel_rfl); (try simp -implicitDefEqProofs [-loopQ_n, h, logO, evt_reify])))))
/-! Rename. -/
def sV (x : ByteArray) : AV := .str x
def renE (ps : List (ByteArray × ByteArray)) (e : Evt) : Evt := match alook ps e.act with | some s => { e with act := s } | none => e
noncomputable def renameR (l : List Evt) (fr to_ : List ByteArray) : List Evt × Int :=
  if logV l = true ∧ namesL fr = true ∧ namesL to_ = true then (if fr.length ≠ to_.length then ([], 29) else if 1000 < fr.length then ([], 5) else if fr.Nodup then (l.map (renE (fr.zip to_)), 0) else ([], 9)) else ([], 1)
theorem zip_keys {α β : Type} : ∀ {a : List α} {b : List β}, a.length = b.length → (a.zip b).map (·.1) = a := by
  intro a
  induction a with
  | nil => intro b _; rfl
  | cons x a ih =>
    intro b h
    cases b with
    | nil => simp at h
    | cons y b => simp only [List.zip_cons_cons, List.map_cons]; rw [ih (by simpa using h)]
theorem ss_refs {m : Nat} {es : List (ByteArray × ByteArray)} : refsM m (mE sK sV es) = true := mE_refs (fun x => by simp [sK, refs]) fun x => by simp [sV, refs]
theorem not_nodup {fr : List ByteArray} {i : Nat} (h : i < fr.length) (hc : fr[i] ∈ fr.take i) : ¬ fr.Nodup := fun hn => by
  obtain ⟨j, hj, he⟩ := List.getElem_of_mem hc
  simp only [List.length_take] at hj
  rw [List.getElem_take] at he
  have := (List.getElem_inj (h₀ := by omega) (h₁ := h) hn).1 he
  omega
theorem nodup_take {fr : List ByteArray} {i : Nat} (h : i < fr.length) (hn : (fr.take i).Nodup) (hc : fr[i] ∉ fr.take i) : (fr.take (i + 1)).Nodup := by
  rw [List.take_succ_eq_append_getElem h]
  exact List.nodup_append.2 ⟨hn, by simp, fun a ha b hb => by simp at hb; subst hb; exact fun e => hc (e ▸ ha)⟩
/-! Select. -/
noncomputable def selectR (l : List Evt) (cs : List ByteArray) : List Evt × Int :=
  if logV l = true ∧ namesL cs = true then (if 1000 < cs.length then ([], 5) else (l.filter (fun e => hasB cs e.case_), 0)) else ([], 1)
def kAll (es : List (ByteArray × Bool)) (s : List ByteArray) : Prop := (∀ k, k ∈ es.map (·.1) ↔ k ∈ s) ∧ ∀ p ∈ es, p.2 = true
theorem kAll_put {es : List (ByteArray × Bool)} {s : List ByteArray} (h : kAll es s) (c : ByteArray) : kAll (aput es c true) (s ++ [c]) := by
  refine ⟨fun k => ?_, fun p hp => ?_⟩
  · rw [aput_keys, List.mem_append, List.mem_singleton, ← h.1]
    split
    · rename_i q
      exact ⟨.inl, fun g => g.elim id fun g => by subst g; exact q⟩
    · rw [List.mem_append, List.mem_singleton]
  · unfold aput at hp
    split at hp
    · rcases List.mem_or_eq_of_mem_set hp with hp | rfl
      · exact h.2 p hp
      · rfl
    · rcases List.mem_append.1 hp with hp | hp
      · exact h.2 p hp
      · simp at hp; subst hp; rfl
theorem kb_refs {m : Nat} {es : List (ByteArray × Bool)} : refsM m (mE sK bV es) = true := mE_refs (fun x => by simp [sK, refs]) fun x => by simp [bV, refs]
set_option maxHeartbeats 8000000 in
theorem select_pure (l : List Evt) (cs : List ByteArray) (hcs : cs.length ≤ 9223372036854775807) : Pure Try.prog 12 [.agg [.rs (rowsOf evtC l)], .rs (rowsOf strC cs)] (logO (selectR l cs)) := by
  refine pure_of mixed Try.func12 rfl (by kernel_rfl) (of_decide_eq_true rfl) (by kernel_rfl) (vc_run ?_)
  by_cases hV : logV l = true
  rotate_left
  · rw [selectR, if_neg (fun q => hV q.1)]
    have hV : logV l = false := by simpa using hV
    ((try simp -implicitDefEqProofs [-loopQ_n, hV, logO, rowsOf_nil]) <;> (repeat' (first | (refine condD_dec ?_ ?_ <;> (intro hc; (try simp -implicitDefEqProofs [-loopQ_n, hc, hV, logO, rowsOf_nil]))) | (refine guardD_dec ?_ ?_ <;> (intro hc; (try simp -implicitDefEqProofs [-loopQ_n, hc, hV, logO, rowsOf_nil]))) | (refine condD_intro ?_ ?_ <;> (intro hd; have hc := hd; (try simp at hc) <;> (try simp -implicitDefEqProofs [-loopQ_n, hd, hc, hV, logO, rowsOf_nil]))) | (refine guardD_intro ?_ ?_ <;> (intro hd; have hc := hd; (try simp at hc) <;> (try simp -implicitDefEqProofs [-loopQ_n, hd, hc, hV, logO, rowsOf_nil]))) | (refine ldD_ep ?_ ?_; (focus kernel_rfl); (try simp -implicitDefEqProofs [-loopQ_n, hV, logO, rowsOf_nil])) | (refine callS_mk ?_; (try simp -implicitDefEqProofs [-loopQ_n, hV, logO, rowsOf_nil]); (first | refine callS_intro (log_pure l) (.inl rfl) ?_); (try simp -implicitDefEqProofs [-loopQ_n, hV, logO, rowsOf_nil])))))
  by_cases hf : namesL cs = true
  rotate_left
  · rw [selectR, if_neg (fun q => hf q.2)]
    have hf : namesL cs = false := by simpa using hf
    ((try simp -implicitDefEqProofs [-loopQ_n, hV, hf, logO, rowsOf_nil]) <;> (repeat' (first | (refine condD_dec ?_ ?_ <;> (intro hc; (try simp -implicitDefEqProofs [-loopQ_n, hc, hV, hf, logO, rowsOf_nil]))) | (refine guardD_dec ?_ ?_ <;> (intro hc; (try simp -implicitDefEqProofs [-loopQ_n, hc, hV, hf, logO, rowsOf_nil]))) | (refine condD_intro ?_ ?_ <;> (intro hd; have hc := hd; (try simp at hc) <;> (try simp -implicitDefEqProofs [-loopQ_n, hd, hc, hV, hf, logO, rowsOf_nil]))) | (refine guardD_intro ?_ ?_ <;> (intro hd; have hc := hd; (try simp at hc) <;> (try simp -implicitDefEqProofs [-loopQ_n, hd, hc, hV, hf, logO, rowsOf_nil]))) | (refine ldD_ep ?_ ?_; (focus kernel_rfl); (try simp -implicitDefEqProofs [-loopQ_n, hV, hf, logO, rowsOf_nil])) | (refine callS_mk ?_; (try simp -implicitDefEqProofs [-loopQ_n, hV, hf, logO, rowsOf_nil]); (first | refine callS_intro (log_pure l) (.inl rfl) ?_ | refine callS_intro (enames_pure cs hcs) (.inl rfl) ?_); (try simp -implicitDefEqProofs [-loopQ_n, hV, hf, logO, rowsOf_nil])))))
  rw [selectR, if_pos ⟨hV, hf⟩]
  by_cases h1 : 1000 < cs.length
  · rw [if_pos h1]
    have h1' : (1000 : Int) < (cs.length : Int) := by omega
    ((try simp -implicitDefEqProofs [-loopQ_n, hV, hf, h1', logO, rowsOf_nil]) <;> (repeat' (first | (refine condD_dec ?_ ?_ <;> (intro hc; (try simp -implicitDefEqProofs [-loopQ_n, hc, hV, hf, h1', logO, rowsOf_nil]))) | (refine guardD_dec ?_ ?_ <;> (intro hc; (try simp -implicitDefEqProofs [-loopQ_n, hc, hV, hf, h1', logO, rowsOf_nil]))) | (refine condD_intro ?_ ?_ <;> (intro hd; have hc := hd; (try simp at hc) <;> (try simp -implicitDefEqProofs [-loopQ_n, hd, hc, hV, hf, h1', logO, rowsOf_nil]))) | (refine guardD_intro ?_ ?_ <;> (intro hd; have hc := hd; (try simp at hc) <;> (try simp -implicitDefEqProofs [-loopQ_n, hd, hc, hV, hf, h1', logO, rowsOf_nil]))) | (refine ldD_ep ?_ ?_; (focus kernel_rfl); (try simp -implicitDefEqProofs [-loopQ_n, hV, hf, h1', logO, rowsOf_nil])) | (refine callS_mk ?_; (try simp -implicitDefEqProofs [-loopQ_n, hV, hf, h1', logO, rowsOf_nil]); (first | refine callS_intro (log_pure l) (.inl rfl) ?_ | refine callS_intro (enames_pure cs hcs) (.inl rfl) ?_); (try simp -implicitDefEqProofs [-loopQ_n, hV, hf, h1', logO, rowsOf_nil])))))
  rw [if_neg h1]
  have h1' : ¬ (1000 : Int) < (cs.length : Int) := by omega
  have hll := log_lenE hV
  obtain ⟨R, hRR⟩ : ∃ R, l.filter (fun e => hasB cs e.case_) = R := ⟨_, rfl⟩
  rw [hRR]
  ((try simp -implicitDefEqProofs [-loopQ_n, hV, hf, h1']) <;> (repeat' (first | (refine condD_dec ?_ ?_ <;> (intro hc; (try simp -implicitDefEqProofs [-loopQ_n, hc, hV, hf, h1']))) | (refine guardD_dec ?_ ?_ <;> (intro hc; (try simp -implicitDefEqProofs [-loopQ_n, hc, hV, hf, h1']))) | (refine condD_intro ?_ ?_ <;> (intro hd; have hc := hd; (try simp at hc) <;> (try simp -implicitDefEqProofs [-loopQ_n, hd, hc, hV, hf, h1']))) | (refine guardD_intro ?_ ?_ <;> (intro hd; have hc := hd; (try simp at hc) <;> (try simp -implicitDefEqProofs [-loopQ_n, hd, hc, hV, hf, h1']))) | (refine ldD_ep ?_ ?_; (focus kernel_rfl); (try simp -implicitDefEqProofs [-loopQ_n, hV, hf, h1'])) | (refine callS_mk ?_; (try simp -implicitDefEqProofs [-loopQ_n, hV, hf, h1']); (first | refine callS_intro (log_pure l) (.inl rfl) ?_ | refine callS_intro (enames_pure cs hcs) (.inl rfl) ?_); (try simp -implicitDefEqProofs [-loopQ_n, hV, hf, h1'])))))
  refine loop_intro (σ := Nat × List (ByteArray × Bool)) (fun x => ⟨[(2, .op 0 0), (4, .op 1 0), (6, .mp 2), (26, .rs (rowsOf strC cs)), (27, .int .i64 cs.length), (28, .int .i64 x.1)], [.box 24 [.rs (rowsOf evtC l)], .box 24 [.nils], .map (mE sK bV x.2)]⟩)
    (fun x => x.1 ≤ cs.length ∧ kAll x.2 (cs.take x.1)) (fun x => cs.length - x.1) (0, []) ⟨by simp, by simp [kAll]⟩ ?_ ?_
  · refine weak_of 3 0 rfl rfl ?_ ?_ <;> simp [mE, refsM]
  rintro ⟨i, es⟩ ⟨hi, hk⟩
  simp only at hi hk
  by_cases h : i < cs.length
  · have w1 : wrapI .i64 ((i : Int) + 1) = (i : Int) + 1 := wrap_in (by omega) (by omega)
    have hmp : mput (mE sK bV es) ((afind cs[i] es 0).map fun e => (e.1, bV e.2)) (.str cs[i]) (.bool true) = mE sK bV (aput es cs[i] true) := mp_s (vc := bV) cs[i] true es
    have hk3 := kAll_put hk cs[i]
    rw [← List.take_succ_eq_append_getElem h] at hk3
    ((try simp -implicitDefEqProofs [-loopQ_n, h, mf_s, strC, hmp]) <;> (repeat' (first | (refine condD_dec ?_ ?_ <;> (intro hc; (try simp -implicitDefEqProofs [-loopQ_n, hc, h, mf_s, strC, hmp]))) | (refine guardD_dec ?_ ?_ <;> (intro hc; (try simp -implicitDefEqProofs [-loopQ_n, hc, h, mf_s, strC, hmp]))) | (refine condD_intro ?_ ?_ <;> (intro hd; have hc := hd; (try simp at hc) <;> (try simp -implicitDefEqProofs [-loopQ_n, hd, hc, h, mf_s, strC, hmp]))) | (refine guardD_intro ?_ ?_ <;> (intro hd; have hc := hd; (try simp at hc) <;> (try simp -implicitDefEqProofs [-loopQ_n, hd, hc, h, mf_s, strC, hmp]))) | (refine ldD_ep ?_ ?_; (focus kernel_rfl); (try simp -implicitDefEqProofs [-loopQ_n, h, mf_s, strC, hmp])))))
    refine loop_next (i + 1, aput es cs[i] true) ⟨by simp only; omega, hk3⟩ (by simp only; omega) (weak_of 3 0 rfl rfl (by simp [w1]) ⟨⟨rfl, .inr (.inl ⟨rfl, rfl⟩), trivial⟩, ⟨rfl, .inr (.inl ⟨rfl, rfl⟩), trivial⟩, ⟨hmp.symm, ?_⟩, trivial⟩)
    show refsM 3 (mput (mE sK bV es) ((afind cs[i] es 0).map fun e => (e.1, bV e.2)) (.str cs[i]) (.bool true)) = true
    rw [hmp]
    exact kb_refs
  · have hin : i = cs.length := by omega
    subst hin
    rw [List.take_length] at hk
    ((try simp -implicitDefEqProofs [-loopQ_n, h]) <;> (repeat' (first | (refine condD_dec ?_ ?_ <;> (intro hc; (try simp -implicitDefEqProofs [-loopQ_n, hc, h]))) | (refine guardD_dec ?_ ?_ <;> (intro hc; (try simp -implicitDefEqProofs [-loopQ_n, hc, h]))) | (refine condD_intro ?_ ?_ <;> (intro hd; have hc := hd; (try simp at hc) <;> (try simp -implicitDefEqProofs [-loopQ_n, hd, hc, h]))) | (refine guardD_intro ?_ ?_ <;> (intro hd; have hc := hd; (try simp at hc) <;> (try simp -implicitDefEqProofs [-loopQ_n, hd, hc, h]))) | (refine ldD_ep ?_ ?_; (focus kernel_rfl); (try simp -implicitDefEqProofs [-loopQ_n, h])))))
    refine loop_intro (σ := Nat × List Evt) (fun x => ⟨[(4, .op 1 0), (6, .mp 2), (9, .op 3 0), (36, .rs (rowsOf evtC l)), (37, .int .i64 l.length), (38, .int .i64 x.1)], [.gone, .box 24 [.nils], .map (mE sK bV es), .box 24 [.os 4 x.2.length], .row 58 true (rowsOf evtC x.2)]⟩)
      (fun x => x.1 ≤ l.length ∧ x.2.length ≤ x.1 ∧ x.2 ++ (l.drop x.1).filter (fun e => hasB cs e.case_) = R) (fun x => l.length - x.1) (0, []) ⟨by simp, by simp, by simpa using hRR⟩ ?_ ?_
    · refine weak_of 4 1 rfl rfl ?_ ?_
      · simp
      · simp [kb_refs, -refsM]
    rintro ⟨i, acc⟩ ⟨hi, hal, hR⟩
    simp only at hi hal hR
    by_cases h : i < l.length
    · have w1 : wrapI .i64 ((i : Int) + 1) = (i : Int) + 1 := wrap_in (by omega) (by omega)
      have hb := evt_bd (log_evt hV _ (List.getElem_mem h))
      obtain ⟨⟨c, a, r, life, time, data⟩, hff⟩ : ∃ e, l[i] = e := ⟨_, rfl⟩
      rw [hff] at hb
      simp only at hb
      have hC := copied_pure ⟨c, a, r, life, time, data⟩ (by simp only; omega)
      have hlen : acc.length ≤ 1073741823 := by omega
      rw [List.drop_eq_getElem_cons h, hff, List.filter_cons] at hR
      simp only at hR
      cases hq : afind c es 0 with
      | none =>
        have hc : ¬ c ∈ cs := fun q => (afind_none 0).1 hq ((hk.1 c).2 q)
        rw [if_neg (fun q => hc (hasB_iff.1 q))] at hR
        ((try simp -implicitDefEqProofs [-loopQ_n, h, hff, evtC, w1, mf_s, hq]) <;> (repeat' (first | (refine condD_dec ?_ ?_ <;> (intro hc; (try simp -implicitDefEqProofs [-loopQ_n, hc, h, hff, evtC, w1, mf_s, hq]))) | (refine guardD_dec ?_ ?_ <;> (intro hc; (try simp -implicitDefEqProofs [-loopQ_n, hc, h, hff, evtC, w1, mf_s, hq]))) | (refine condD_intro ?_ ?_ <;> (intro hd; have hc := hd; (try simp at hc) <;> (try simp -implicitDefEqProofs [-loopQ_n, hd, hc, h, hff, evtC, w1, mf_s, hq]))) | (refine guardD_intro ?_ ?_ <;> (intro hd; have hc := hd; (try simp at hc) <;> (try simp -implicitDefEqProofs [-loopQ_n, hd, hc, h, hff, evtC, w1, mf_s, hq]))) | (refine ldD_ep ?_ ?_; (focus kernel_rfl); (try simp -implicitDefEqProofs [-loopQ_n, h, hff, evtC, w1, mf_s, hq])))))
        refine loop_next (i + 1, acc) ⟨by simp only; omega, by simp only; omega, hR⟩ (by simp only; omega) (weak_of 5 0 rfl rfl ?_ ?_)
        · simp
        · simp [evt_refs, kb_refs, -refsM]
      | some q =>
        obtain ⟨j, b⟩ := q
        have hm := List.mem_of_getElem? (afind_eq hq)
        have hb2 : b = true := hk.2 _ hm
        subst hb2
        have hc : c ∈ cs := (hk.1 c).1 (List.mem_map.2 ⟨_, hm, rfl⟩)
        rw [if_pos (hasB_iff.2 hc)] at hR
        have hsn : rowsOf evtC acc ++ [[.str c, .str a, .str r, .int .i64 life, .int .i64 time, .rs (rowsOf fldC data)]] = rowsOf evtC (acc ++ [⟨c, a, r, life, time, data⟩]) := by simp only [rowsOf, List.map_append, List.map_cons, List.map_nil, evtC]
        ((try simp -implicitDefEqProofs [-loopQ_n, h, hff, evtC, w1, hlen, hsn, mf_s, hq, bV]) <;> (repeat' (first | (refine condD_dec ?_ ?_ <;> (intro hc; (try simp -implicitDefEqProofs [-loopQ_n, hc, h, hff, evtC, w1, hlen, hsn, mf_s, hq, bV]))) | (refine guardD_dec ?_ ?_ <;> (intro hc; (try simp -implicitDefEqProofs [-loopQ_n, hc, h, hff, evtC, w1, hlen, hsn, mf_s, hq, bV]))) | (refine condD_intro ?_ ?_ <;> (intro hd; have hc := hd; (try simp at hc) <;> (try simp -implicitDefEqProofs [-loopQ_n, hd, hc, h, hff, evtC, w1, hlen, hsn, mf_s, hq, bV]))) | (refine guardD_intro ?_ ?_ <;> (intro hd; have hc := hd; (try simp at hc) <;> (try simp -implicitDefEqProofs [-loopQ_n, hd, hc, h, hff, evtC, w1, hlen, hsn, mf_s, hq, bV]))) | (refine ldD_ep ?_ ?_; (focus kernel_rfl); (try simp -implicitDefEqProofs [-loopQ_n, h, hff, evtC, w1, hlen, hsn, mf_s, hq, bV])) | (refine callS_mk ?_; (try simp -implicitDefEqProofs [-loopQ_n, h, hff, evtC, w1, hlen, hsn, mf_s, hq, bV]); (first | refine callS_intro (hC) (.inr ⟨rfl, rfl⟩) ?_); (try simp -implicitDefEqProofs [-loopQ_n, h, hff, evtC, w1, hlen, hsn, mf_s, hq, bV])))))
        refine loop_next (i + 1, acc ++ [⟨c, a, r, life, time, data⟩]) ⟨by simp only; omega, by simp; omega, by rw [← hR]; simp⟩ (by simp only; omega) (weak_of 5 0 rfl rfl ?_ ?_)
        · simp
        · simp [evt_refs, kb_refs, -refsM]
    · rw [List.drop_eq_nil_of_le (by omega), List.filter_nil, List.append_nil] at hR
      rw [← hR]
      ((try simp -implicitDefEqProofs [-loopQ_n, h, logO, evt_reify]) <;> (repeat' (first | (refine condD_dec ?_ ?_ <;> (intro hc; (try simp -implicitDefEqProofs [-loopQ_n, hc, h, logO, evt_reify]))) | (refine guardD_dec ?_ ?_ <;> (intro hc; (try simp -implicitDefEqProofs [-loopQ_n, hc, h, logO, evt_reify]))) | (refine condD_intro ?_ ?_ <;> (intro hd; have hc := hd; (try simp at hc) <;> (try simp -implicitDefEqProofs [-loopQ_n, hd, hc, h, logO, evt_reify]))) | (refine guardD_intro ?_ ?_ <;> (intro hd; have hc := hd; (try simp at hc) <;> (try simp -implicitDefEqProofs [-loopQ_n, hd, hc, h, logO, evt_reify]))) | (refine ldD_ep ?_ ?_; (focus kernel_rfl); (try simp -implicitDefEqProofs [-loopQ_n, h, logO, evt_reify])))))
end Go.Proofs.Ytkionfcafifhdaa
