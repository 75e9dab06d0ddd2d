/- Events and logs: which are valid (the program's answer and the reference's). -/
import Derived.Test.YtdkcmfafganhhaaDoorVal
namespace Go.Proofs.YtdkcmfafganhhaaDoor
set_option linter.unusedSimpArgs false
set_option linter.unusedVariables false
set_option linter.unnecessarySimpa false
set_option linter.unusedSectionVars false
open Go.RowKit
variable [Glob]
set_option maxRecDepth 100000
def geS (a b : ByteArray) : Bool := !Op.bytesLess a.toList b.toList
/-- A field is in order behind the one before it. -/
def fldOk (l : List Fld) (i : Nat) (f : Fld) : Bool := isNameS f.name && valueV f.v && !(match l[i - 1]? with | some g => decide (0 < i) && geS g.name f.name | none => false)
def fldsOk (l : List Fld) (k : Nat) : Prop := ∀ i (h : i < l.length), i < k → fldOk l i l[i] = true
open Classical in
noncomputable def eventV (e : Evt) : Bool :=
  isNameS e.case_ && isNameS e.act && (emptyS e.res || isNameS e.res) && decide (1 ≤ e.life) && decide (e.life ≤ 6) && decide (0 ≤ e.time) && decide (e.time ≤ 1099511627776) && decide ((e.data.length : Int) ≤ 8) && decide (fldsOk e.data e.data.length)
theorem fldsOk_succ {l : List Fld} {i : Nat} (h : fldsOk l i) (hi : i < l.length) (hf : fldOk l i l[i] = true) : fldsOk l (i + 1) := fun j hj hlt => by
  by_cases e : j = i
  · subst e; exact hf
  · exact h j hj (by omega)
theorem fldsOk_all {l : List Fld} {i : Nat} (h : fldsOk l i) (hi : ¬ i < l.length) : fldsOk l l.length := fun j hj hlt => h j hj (by omega)
theorem fldsOk_not {l : List Fld} {i : Nat} (hi : i < l.length) (hf : fldOk l i l[i] = false) : ¬ fldsOk l l.length := fun h => by rw [h i hi hi] at hf; simp at hf
theorem fld_cells {l : List Fld} {i : Nat} (h : i < l.length) {nm s : ByteArray} {k n : Int} (hf : l[i] = ⟨nm, ⟨k, n, s⟩⟩) : (rowsOf fldC l)[i]'(by simpa using h) = [.str nm, .int .i64 k, .int .i64 n, .str s] := by simp [rowsOf, hf, fldC]
open Classical in
set_option maxHeartbeats 16000000 in
theorem event_pure (e : Evt) : Pure Tryd.prog 41 [.agg (evtC e)] (.bool (eventV e)) := by
  obtain ⟨c, a, r, life, time, data⟩ := e
  refine pure_of mixed Tryd.func41 rfl (by kernel_rfl) (of_decide_eq_true rfl) (by kernel_rfl) (vc_run ?_)
  ((try simp -implicitDefEqProofs [-loopQ_n, evtC]) <;> (repeat' (first | (refine condD_dec ?_ ?_ <;> (intro hc; (try simp -implicitDefEqProofs [-loopQ_n, hc, evtC]))) | (refine guardD_dec ?_ ?_ <;> (intro hc; (try simp -implicitDefEqProofs [-loopQ_n, hc, evtC]))) | (refine condD_intro ?_ ?_ <;> (intro hd; have hc := hd; (try simp at hc) <;> (try simp -implicitDefEqProofs [-loopQ_n, hd, hc, evtC]))) | (refine guardD_intro ?_ ?_ <;> (intro hd; have hc := hd; (try simp at hc) <;> (try simp -implicitDefEqProofs [-loopQ_n, hd, hc, evtC]))) | (refine ldD_ep ?_ ?_; (focus kernel_rfl); (try simp -implicitDefEqProofs [-loopQ_n, evtC])) | (refine callS_mk ?_; (try simp -implicitDefEqProofs [-loopQ_n, evtC]); (first | refine callS_intro (isName_pure _) (.inl rfl) ?_); (try simp -implicitDefEqProofs [-loopQ_n, evtC])))))
  all_goals first | (simp [eventV, emptyS, *]; done) | (simp [eventV, emptyS, *]; omega) | skip
  all_goals (
    have hW : eventV ⟨c, a, r, life, time, data⟩ = decide (fldsOk data data.length) := by
      have e1 : 1 ≤ life := by omega
      have e2 : life ≤ 6 := by omega
      have e3 : 0 ≤ time := by omega
      have e4 : time ≤ 1099511627776 := by omega
      have e5 : (data.length : Int) ≤ 8 := by omega
      simp [eventV, emptyS, *]
    have hln : data.length ≤ 8 := by omega
    rw [hW]
    refine loop_intro (σ := Nat) (fun i => ⟨[(1, .op 0 0), (51, .rs (rowsOf fldC data)), (52, .int .i64 data.length), (53, .int .i64 i)], [.box 51 [.str c, .str a, .str r, .int .i64 life, .int .i64 time, .rs (rowsOf fldC data)]]⟩)
      (fun i => i ≤ data.length ∧ fldsOk data i) (fun i => data.length - i) 0 ⟨by simp, fun i _ h => absurd h (Nat.not_lt_zero i)⟩ ?_ ?_
    · refine weak_of 1 0 rfl rfl ?_ ?_ <;> simp
    rintro i ⟨hi, hR⟩
    by_cases h : i < data.length
    · have w1 : wrapI .i64 ((i : Int) + 1) = ((i + 1 : Nat) : Int) := by rw [wrap_in (by omega) (by omega)]; omega
      obtain ⟨⟨nm, ⟨k, n, s⟩⟩, hf⟩ : ∃ e, data[i] = e := ⟨_, rfl⟩
      have hok : fldOk data i data[i] = (isNameS nm && valueV ⟨k, n, s⟩ && !(match data[i - 1]? with | some g => decide (0 < i) && geS g.name nm | none => false)) := by rw [hf]; rfl
      by_cases i0 : i = 0
      · subst i0
        have w1' : wrapI .i64 1 = 1 := by simpa using w1
        have hok2 : fldOk data 0 data[0] = (isNameS nm && valueV ⟨k, n, s⟩) := by rw [hok]; cases data[0 - 1]? <;> simp
        ((try simp -implicitDefEqProofs [-loopQ_n, h, hf, fldC]) <;> (repeat' (first | (refine condD_dec ?_ ?_ <;> (intro hc; (try simp -implicitDefEqProofs [-loopQ_n, hc, h, hf, fldC]))) | (refine guardD_dec ?_ ?_ <;> (intro hc; (try simp -implicitDefEqProofs [-loopQ_n, hc, h, hf, fldC]))) | (refine condD_intro ?_ ?_ <;> (intro hd; have hc := hd; (try simp at hc) <;> (try simp -implicitDefEqProofs [-loopQ_n, hd, hc, h, hf, fldC]))) | (refine guardD_intro ?_ ?_ <;> (intro hd; have hc := hd; (try simp at hc) <;> (try simp -implicitDefEqProofs [-loopQ_n, hd, hc, h, hf, fldC]))) | (refine ldD_ep ?_ ?_; (focus kernel_rfl); (try simp -implicitDefEqProofs [-loopQ_n, h, hf, fldC])) | (refine callS_mk ?_; (try simp -implicitDefEqProofs [-loopQ_n, h, hf, fldC]); (first | refine callS_intro (isName_pure _) (.inl rfl) ?_ | refine callS_intro (value_pure ⟨k, n, s⟩) (.inl rfl) ?_); (try simp -implicitDefEqProofs [-loopQ_n, h, hf, fldC])))))
        all_goals first
          | (have hno := fldsOk_not h (by rw [hok2]; simp [geS, *]; done); simp [hno]; done)
          | (refine loop_next (0 + 1) ⟨by omega, fldsOk_succ hR h (by rw [hok2]; simp [geS, *]; done)⟩ (by omega) (weak_of 1 0 rfl rfl ?_ ?_) <;> simp [*]; done)
      · have hw0 : wrapI .i64 ((i : Int) - 1) = ((i - 1 : Nat) : Int) := by rw [wrap_in (by omega) (by omega)]; omega
        have hi1 : i - 1 < data.length := by omega
        have hi2 : (0 : Int) < i := by omega
        have hi3 : 0 < i := by omega
        obtain ⟨⟨nm', v'⟩, hf'⟩ : ∃ e, data[i - 1] = e := ⟨_, rfl⟩
        have hok2 : fldOk data i data[i] = (isNameS nm && valueV ⟨k, n, s⟩ && !geS nm' nm) := by rw [hok, List.getElem?_eq_getElem hi1, hf']; simp [hi3]
        ((try simp -implicitDefEqProofs [-loopQ_n, h, hf, hf', hw0, hi1, hi2, hi3, fldC]) <;> (repeat' (first | (refine condD_dec ?_ ?_ <;> (intro hc; (try simp -implicitDefEqProofs [-loopQ_n, hc, h, hf, hf', hw0, hi1, hi2, hi3, fldC]))) | (refine guardD_dec ?_ ?_ <;> (intro hc; (try simp -implicitDefEqProofs [-loopQ_n, hc, h, hf, hf', hw0, hi1, hi2, hi3, fldC]))) | (refine condD_intro ?_ ?_ <;> (intro hd; have hc := hd; (try simp at hc) <;> (try simp -implicitDefEqProofs [-loopQ_n, hd, hc, h, hf, hf', hw0, hi1, hi2, hi3, fldC]))) | (refine guardD_intro ?_ ?_ <;> (intro hd; have hc := hd; (try simp at hc) <;> (try simp -implicitDefEqProofs [-loopQ_n, hd, hc, h, hf, hf', hw0, hi1, hi2, hi3, fldC]))) | (refine ldD_ep ?_ ?_; (focus kernel_rfl); (try simp -implicitDefEqProofs [-loopQ_n, h, hf, hf', hw0, hi1, hi2, hi3, fldC])) | (refine callS_mk ?_; (try simp -implicitDefEqProofs [-loopQ_n, h, hf, hf', hw0, hi1, hi2, hi3, fldC]); (first | refine callS_intro (isName_pure _) (.inl rfl) ?_ | refine callS_intro (value_pure ⟨k, n, s⟩) (.inl rfl) ?_); (try simp -implicitDefEqProofs [-loopQ_n, h, hf, hf', hw0, hi1, hi2, hi3, fldC])))))
        all_goals first
          | (have hno := fldsOk_not h (by rw [hok2]; simp [geS, *]; done); simp [hno]; done)
          | (refine loop_next (i + 1) ⟨by omega, fldsOk_succ hR h (by rw [hok2]; simp [geS, *]; done)⟩ (by omega) (weak_of 1 0 rfl rfl ?_ ?_) <;> simp [w1]; done)
    · have := fldsOk_all hR h
      ((try simp -implicitDefEqProofs [-loopQ_n, h, this]) <;> (repeat' (first | (refine condD_dec ?_ ?_ <;> (intro hc; (try simp -implicitDefEqProofs [-loopQ_n, hc, h, this]))) | (refine guardD_dec ?_ ?_ <;> (intro hc; (try simp -implicitDefEqProofs [-loopQ_n, hc, h, this]))) | (refine condD_intro ?_ ?_ <;> (intro hd; have hc := hd; (try simp at hc) <;> (try simp -implicitDefEqProofs [-loopQ_n, hd, hc, h, this]))) | (refine guardD_intro ?_ ?_ <;> (intro hd; have hc := hd; (try simp at hc) <;> (try simp -implicitDefEqProofs [-loopQ_n, hd, hc, h, this]))) | (refine ldD_ep ?_ ?_; (focus kernel_rfl); (try simp -implicitDefEqProofs [-loopQ_n, h, this]))))))
end Go.Proofs.YtdkcmfafganhhaaDoor
