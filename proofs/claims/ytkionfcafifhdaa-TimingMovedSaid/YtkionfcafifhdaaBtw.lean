/- timing.Between and the reference's. -/
import Derived.Test.YtkionfcafifhdaaLog
namespace Go.Proofs.Ytkionfcafifhdaa
set_option linter.unusedSimpArgs false
set_option linter.unusedVariables false
set_option linter.unnecessarySimpa false
set_option linter.unusedSectionVars false
open Go.RowKit
variable [Glob]
set_option maxRecDepth 100000
theorem ints_reify' {H : List Blk} {n : Nat} {l : List Int} : (rowsOf intC l).mapM (fun row => row.mapM (reify H (n + 1))) = some (rowsOf intC l) := rowsOf_reify fun x => by simp [intC, rf_int]
theorem cfEvt_idx {p : Evt → Bool} {l : List Evt} {g : Nat} {caps : List AV} (hp : ∀ x ∈ l, Pure Try.prog g (.agg (evtC x) :: caps) (.bool (p x))) (hc : ∀ H k, caps.mapM (reify H (k + 5)) = some caps) (hf : refsL 0 caps = true) (hl : l.length ≤ 9223372036854775807) :
    Pure Try.prog 24 [.rs (rowsOf evtC l), .fn g caps] (.int .i64 (idxOf p l)) := by
  refine pure_of mixed Try.func24 rfl (by kernel_rfl) (of_decide_eq_true rfl) (by kernel_rfl) (vc_run ?_)
  simp -implicitDefEqProofs
  refine loop_intro (σ := Nat) (fun i => ⟨[(0, .rs (rowsOf evtC l)), (1, .fn g caps), (7, .int .i64 l.length), (8, .int .i64 i)], []⟩) (fun i => i ≤ l.length ∧ allF p (l.take i)) (fun i => l.length - i) 0 ⟨Nat.zero_le _, allF_nil⟩ ?_ ?_
  · refine weak_of 0 0 rfl rfl ?_ ?_ <;> simp [hf]
  · rintro i ⟨hi, hall⟩
    by_cases h : i < l.length
    · simp -implicitDefEqProofs [h, evtC]
      have hc8 : ∀ H, caps.mapM (reify H 8) = some caps := fun H => hc H 3
      refine call_intro (hp l[i] (by simp)) (by simp -implicitDefEqProofs [hc8, evtC]) (.inl rfl) ?_
      by_cases hpx : p l[i] = true
      · simp -implicitDefEqProofs [hpx]
        exact (idxOf_some p l i h hall hpx).symm
      · have hpx : p l[i] = false := by simpa using hpx
        simp -implicitDefEqProofs [hpx]
        refine ⟨i + 1, ⟨by omega, allF_succ hall h hpx⟩, by omega, weak_of 0 0 rfl rfl ?_ ?_⟩
        · simp [hf]
          exact (wrap_in (by omega) (by omega)).symm
        · simp
    · simp -implicitDefEqProofs [h]
      rw [idxOf_none p l (allF_all hall h)]
theorem cfEvt_any {p : Evt → Bool} {l : List Evt} {g : Nat} {caps : List AV} (hp : ∀ x ∈ l, Pure Try.prog g (.agg (evtC x) :: caps) (.bool (p x))) (hc : ∀ H k, caps.mapM (reify H (k + 5)) = some caps) (hf : refsL 0 caps = true) (hl : l.length ≤ 9223372036854775807) :
    Pure Try.prog 18 [.rs (rowsOf evtC l), .fn g caps] (.bool (l.any p)) := by
  refine pure_of mixed Try.func18 rfl (by kernel_rfl) (of_decide_eq_true rfl) (by kernel_rfl) (vc_run ?_)
  simp -implicitDefEqProofs
  have hc7 : ∀ H, caps.mapM (reify H 7) = some caps := fun H => hc H 2
  refine call_intro (cfEvt_idx hp hc hf hl) (by simp -implicitDefEqProofs [hc7]) (.inl rfl) ?_
  simp -implicitDefEqProofs
  rw [← ge_idxOf]

theorem cfFld_idx {p : Fld → Bool} {l : List Fld} {g : Nat} {caps : List AV} (hp : ∀ x ∈ l, Pure Try.prog g (.agg (fldC x) :: caps) (.bool (p x))) (hc : ∀ H k, caps.mapM (reify H (k + 5)) = some caps) (hf : refsL 0 caps = true) (hl : l.length ≤ 9223372036854775807) :
    Pure Try.prog 36 [.rs (rowsOf fldC l), .fn g caps] (.int .i64 (idxOf p l)) := by
  refine pure_of mixed Try.func36 rfl (by kernel_rfl) (of_decide_eq_true rfl) (by kernel_rfl) (vc_run ?_)
  simp -implicitDefEqProofs
  refine loop_intro (σ := Nat) (fun i => ⟨[(0, .rs (rowsOf fldC l)), (1, .fn g caps), (7, .int .i64 l.length), (8, .int .i64 i)], []⟩) (fun i => i ≤ l.length ∧ allF p (l.take i)) (fun i => l.length - i) 0 ⟨Nat.zero_le _, allF_nil⟩ ?_ ?_
  · refine weak_of 0 0 rfl rfl ?_ ?_ <;> simp [hf]
  · rintro i ⟨hi, hall⟩
    by_cases h : i < l.length
    · simp -implicitDefEqProofs [h, fldC]
      have hc8 : ∀ H, caps.mapM (reify H 8) = some caps := fun H => hc H 3
      refine call_intro (hp l[i] (by simp)) (by simp -implicitDefEqProofs [hc8, fldC]) (.inl rfl) ?_
      by_cases hpx : p l[i] = true
      · simp -implicitDefEqProofs [hpx]
        exact (idxOf_some p l i h hall hpx).symm
      · have hpx : p l[i] = false := by simpa using hpx
        simp -implicitDefEqProofs [hpx]
        refine ⟨i + 1, ⟨by omega, allF_succ hall h hpx⟩, by omega, weak_of 0 0 rfl rfl ?_ ?_⟩
        · simp [hf]
          exact (wrap_in (by omega) (by omega)).symm
        · simp
    · simp -implicitDefEqProofs [h]
      rw [idxOf_none p l (allF_all hall h)]
theorem cfFld_any {p : Fld → Bool} {l : List Fld} {g : Nat} {caps : List AV} (hp : ∀ x ∈ l, Pure Try.prog g (.agg (fldC x) :: caps) (.bool (p x))) (hc : ∀ H k, caps.mapM (reify H (k + 5)) = some caps) (hf : refsL 0 caps = true) (hl : l.length ≤ 9223372036854775807) :
    Pure Try.prog 20 [.rs (rowsOf fldC l), .fn g caps] (.bool (l.any p)) := by
  refine pure_of mixed Try.func20 rfl (by kernel_rfl) (of_decide_eq_true rfl) (by kernel_rfl) (vc_run ?_)
  simp -implicitDefEqProofs
  have hc7 : ∀ H, caps.mapM (reify H 7) = some caps := fun H => hc H 2
  refine call_intro (cfFld_idx hp hc hf hl) (by simp -implicitDefEqProofs [hc7]) (.inl rfl) ?_
  simp -implicitDefEqProofs
  rw [← ge_idxOf]

def bigFB (f : Fld) : Bool := decide ((60 : Int) < f.name.size) || decide ((250 : Int) < f.v.s.size)
theorem small11_pure (f : Fld) : Pure Try.prog 21 [.agg (fldC f)] (.bool (bigFB f)) := by
  refine pure_of mixed Try.func21 rfl (by kernel_rfl) (of_decide_eq_true rfl) (by kernel_rfl) (vc_run ?_)
  by_cases h1 : (60 : Int) < f.name.size <;> simp -implicitDefEqProofs [fldC, h1, bigFB]
def bigE (e : Evt) : Bool := decide ((60 : Int) < e.case_.size) || decide ((60 : Int) < e.act.size) || decide ((60 : Int) < e.res.size) || decide ((12 : Int) < e.data.length) || e.data.any bigFB
theorem small1_pure (e : Evt) (hl : e.data.length ≤ 9223372036854775807) : Pure Try.prog 19 [.agg (evtC e)] (.bool (bigE e)) := by
  refine pure_of mixed Try.func19 rfl (by kernel_rfl) (of_decide_eq_true rfl) (by kernel_rfl) (vc_run ?_)
  by_cases h1 : (60 : Int) < e.case_.size
  · simp -implicitDefEqProofs [evtC, h1, bigE]
  by_cases h2 : (60 : Int) < e.act.size
  · simp -implicitDefEqProofs [evtC, h1, h2, bigE]
  by_cases h3 : (60 : Int) < e.res.size
  · simp -implicitDefEqProofs [evtC, h1, h2, h3, bigE]
  by_cases h4 : (12 : Int) < e.data.length
  · simp -implicitDefEqProofs [evtC, h1, h2, h3, h4, bigE]
  simp -implicitDefEqProofs [evtC, h1, h2, h3, h4]
  refine call_intro (cfFld_any (p := bigFB) (l := e.data) (g := 21) (caps := []) (fun x _ => small11_pure x) (fun H k => rfl) rfl hl) (by simp -implicitDefEqProofs) (.inl rfl) ?_
  simp -implicitDefEqProofs [h1, h2, h3, h4, bigE]
def smallL (l : List Evt) : Bool := decide ((l.length : Int) ≤ 40) && !l.any bigE
theorem small_pure (l : List Evt) (hl : l.length ≤ 9223372036854775807) (hd : ∀ e ∈ l, e.data.length ≤ 9223372036854775807) : Pure Try.prog 5 [.agg [.rs (rowsOf evtC l)]] (.bool (smallL l)) := by
  refine pure_of mixed Try.func5 rfl (by kernel_rfl) (of_decide_eq_true rfl) (by kernel_rfl) (vc_run ?_)
  by_cases h1 : (l.length : Int) ≤ 40
  · simp -implicitDefEqProofs [h1]
    refine call_intro (cfEvt_any (p := bigE) (l := l) (g := 19) (caps := []) (fun x hx => small1_pure x (hd x hx)) (fun H k => rfl) rfl hl) (by simp -implicitDefEqProofs) (.inl rfl) ?_
    simp -implicitDefEqProofs [h1, smallL]
  · simp -implicitDefEqProofs [h1, smallL]
def eqS (a b : ByteArray) : Bool := a.toList == b.toList
/-- The event that is looked for. -/
def isB (e : Evt) (b : ByteArray) (x : Evt) : Bool := eqS x.case_ e.case_ && eqS x.act b && x.life == 5
theorem between1_pure (e x : Evt) (b : ByteArray) : Pure Try.prog 25 [.agg (evtC x), .rp (evtC e), .rp [.str b]] (.bool (isB e b x)) := by
  refine pure_of mixed Try.func25 rfl (by kernel_rfl) (of_decide_eq_true rfl) (by kernel_rfl) (vc_run ?_)
  by_cases h1 : x.case_.toList = e.case_.toList
  · by_cases h2 : x.act.toList = b.toList
    · simp -implicitDefEqProofs [evtC, h1, h2, isB, eqS]
    · simp -implicitDefEqProofs [evtC, h1, h2, isB, eqS]
  · simp -implicitDefEqProofs [evtC, h1, isB, eqS]
/-- The time to the next such event. -/
def stepB (l : List Evt) (a b : ByteArray) (i : Nat) : List Int :=
  match l[i]? with
  | none => []
  | some e => if eqS e.act a && e.life == 5 then (match (l.drop (i + 1)).find? (isB e b) with | some x => [x.time - e.time] | none => []) else []
def betw (l : List Evt) (a b : ByteArray) (k : Nat) : List Int := (List.range k).flatMap (stepB l a b)
theorem betw_succ (l : List Evt) (a b : ByteArray) (k : Nat) : betw l a b (k + 1) = betw l a b k ++ stepB l a b k := by simp [betw, List.range_succ]
theorem stepB_len (l : List Evt) (a b : ByteArray) (i : Nat) : (stepB l a b i).length ≤ 1 := by
  unfold stepB
  split
  · simp
  · split
    · split <;> simp
    · simp
theorem betw_len (l : List Evt) (a b : ByteArray) (k : Nat) : (betw l a b k).length ≤ k := by
  induction k with
  | zero => simp [betw]
  | succ k ih => rw [betw_succ, List.length_append]; have := stepB_len l a b k; omega
theorem find_of {α : Type} {p : α → Bool} {l : List α} : (l.findIdx? p = none ∧ l.find? p = none) ∨ ∃ k, ∃ (h : k < l.length), l.findIdx? p = some k ∧ l.find? p = some l[k] := by
  cases hk : l.findIdx? p with
  | none =>
    refine .inl ⟨rfl, ?_⟩
    rw [List.findIdx?_eq_none_iff] at hk
    rw [List.find?_eq_none]
    intro x hx
    simp [hk x hx]
  | some k =>
    refine .inr ⟨k, ?_⟩
    rw [List.findIdx?_eq_some_iff_getElem] at hk
    obtain ⟨h1, h2, h3⟩ := hk
    refine ⟨h1, rfl, ?_⟩
    rw [List.find?_eq_some_iff_getElem]
    exact ⟨h2, k, h1, rfl, fun j hj => by simpa using h3 j hj⟩
theorem log_time {l : List Evt} (hv : logV l = true) {i : Nat} (h : i < l.length) : 0 ≤ l[i].time ∧ l[i].time ≤ 1099511627776 := by
  simp only [logV, Bool.and_eq_true, decide_eq_true_eq] at hv
  have := hv.2 i h h
  simp only [evOk, Bool.and_eq_true] at this
  have := this.1
  simp only [eventV, Bool.and_eq_true, decide_eq_true_eq] at this
  omega
theorem log_len {l : List Evt} (hv : logV l = true) : l.length ≤ 2000 := by
  simp only [logV, Bool.and_eq_true, decide_eq_true_eq] at hv
  omega
theorem evt_rows (l : List Evt) : allLen 6 (rowsOf evtC l) = true := rowsOf_allLen fun x => by simp [evtC]
theorem sub_rows (l : List Evt) (k : Nat) : (((rowsOf evtC l).drop k).take ((rowsOf evtC l).length - k)) = rowsOf evtC (l.drop k) := by
  rw [rowsOf_drop, List.take_of_length_le (by simp [rowsOf])]
set_option maxHeartbeats 8000000 in
theorem between_pure (l : List Evt) (a b : ByteArray) :
    Pure Try.prog 6 [.agg [.rs (rowsOf evtC l)], .str a, .str b] (.tup [ints (if logV l && isNameS a && isNameS b then betw l a b l.length else []), .int .i64 (if logV l && isNameS a && isNameS b then 0 else 1)]) := by
  refine pure_of mixed Try.func6 rfl (by kernel_rfl) (of_decide_eq_true rfl) (by kernel_rfl) (vc_run ?_)
  simp -implicitDefEqProofs
  refine call_intro (log_pure l) (by simp -implicitDefEqProofs) (.inl rfl) ?_
  by_cases h1 : logV l = true
  rotate_left
  · have h1 : logV l = false := by simpa using h1
    simp -implicitDefEqProofs [h1]
  simp -implicitDefEqProofs [h1]
  refine call_intro (isName_pure a) (by simp -implicitDefEqProofs) (.inl rfl) ?_
  by_cases h2 : isNameS a = true
  rotate_left
  · have h2 : isNameS a = false := by simpa using h2
    simp -implicitDefEqProofs [h2]
  simp -implicitDefEqProofs [h2]
  refine call_intro (isName_pure b) (by simp -implicitDefEqProofs) (.inl rfl) ?_
  by_cases h3 : isNameS b = true
  rotate_left
  · have h3 : isNameS b = false := by simpa using h3
    simp -implicitDefEqProofs [h3]
  simp -implicitDefEqProofs [h3]
  have hll := log_len h1
  refine loop_intro (σ := Nat) (fun i => ⟨[(1, .str a), (3, .op 0 0), (5, .op 1 0), (8, .os 2 (betw l a b i).length), (26, .rs (rowsOf evtC l)), (27, .int .i64 l.length), (28, .int .i64 i)], [.box 24 [.rs (rowsOf evtC l)], .box 9 [.str b], .row 3 true (rowsOf intC (betw l a b i))]⟩) (fun i => i ≤ l.length) (fun i => l.length - i) 0 (by omega) ?_ ?_
  · refine weak_of 2 1 rfl rfl ?_ ?_ <;> simp [betw]
  · intro i hi
    have w1 : wrapI .i64 ((i : Int) + 1) = ((i + 1 : Nat) : Int) := by rw [wrap_in (by omega) (by omega)]; omega
    by_cases h : i < l.length
    · have hgo : l[i]? = some l[i] := List.getElem?_eq_getElem h
      have hti := log_time h1 h
      obtain ⟨e, hf⟩ : ∃ e, l[i] = e := ⟨_, rfl⟩
      rw [hf] at hgo hti
      by_cases q1 : e.act.toList = a.toList
      rotate_left
      · have hst : betw l a b (i + 1) = betw l a b i := by rw [betw_succ]; simp [stepB, hgo, eqS, q1]
        simp -implicitDefEqProofs [h, hf, evtC, q1, w1]
        refine ⟨i + 1, by omega, by omega, ?_⟩
        refine weak_of 3 0 rfl rfl ?_ ?_ <;> simp [hst]
      by_cases q2 : e.life = 5
      rotate_left
      · have hst : betw l a b (i + 1) = betw l a b i := by rw [betw_succ]; simp [stepB, hgo, eqS, q1, q2]
        simp -implicitDefEqProofs [h, hf, evtC, q1, q2, w1]
        refine ⟨i + 1, by omega, by omega, ?_⟩
        refine weak_of 3 0 rfl rfl ?_ ?_ <;> simp [hst]
      have hle : ((i : Int) + 1) ≤ l.length := by omega
      have hsub := sub_rows l (i + 1)
      simp only [rowsOf_length] at hsub
      have hI := cfEvt_idx (p := isB e b) (l := l.drop (i + 1)) (g := 25) (caps := [.rp (evtC e), .rp [.str b]]) (fun x _ => between1_pure e x b) (fun H k => by simp) rfl (by simp; omega)
      simp only [evtC, q2] at hI
      have p0 : (0 : Int) ≤ (i : Int) + 1 := by omega
      have hbl := betw_len l a b i
      rcases find_of (p := isB e b) (l := l.drop (i + 1)) with ⟨f1, f2⟩ | ⟨k, hk, f1, f2⟩
      · have hst : betw l a b (i + 1) = betw l a b i := by rw [betw_succ]; simp [stepB, hgo, eqS, q1, q2, f2]
        rw [show idxOf (isB e b) (l.drop (i + 1)) = -1 by simp [idxOf, f1]] at hI
        ((try simp -implicitDefEqProofs [-loopQ_n, h, hf, evtC, q1, q2, w1, hle, p0, evt_rows, hsub]) <;> (repeat' (first | (refine condD_dec ?_ ?_ <;> (intro hc; (try simp -implicitDefEqProofs [-loopQ_n, hc, h, hf, evtC, q1, q2, w1, hle, p0, evt_rows, hsub]))) | (refine guardD_dec ?_ ?_ <;> (intro hc; (try simp -implicitDefEqProofs [-loopQ_n, hc, h, hf, evtC, q1, q2, w1, hle, p0, evt_rows, hsub]))) | (refine condD_intro ?_ ?_ <;> (intro hd; have hc := hd; (try simp at hc) <;> (try simp -implicitDefEqProofs [-loopQ_n, hd, hc, h, hf, evtC, q1, q2, w1, hle, p0, evt_rows, hsub]))) | (refine guardD_intro ?_ ?_ <;> (intro hd; have hc := hd; (try simp at hc) <;> (try simp -implicitDefEqProofs [-loopQ_n, hd, hc, h, hf, evtC, q1, q2, w1, hle, p0, evt_rows, hsub]))) | (refine ldD_ep ?_ ?_; (focus kernel_rfl); (try simp -implicitDefEqProofs [-loopQ_n, h, hf, evtC, q1, q2, w1, hle, p0, evt_rows, hsub])) | (refine callS_mk ?_; (try simp -implicitDefEqProofs [-loopQ_n, h, hf, evtC, q1, q2, w1, hle, p0, evt_rows, hsub]); (first | refine callS_intro (hI) (.inl rfl) ?_); (try simp -implicitDefEqProofs [-loopQ_n, h, hf, evtC, q1, q2, w1, hle, p0, evt_rows, hsub])))))
        refine loop_next (i + 1) (by omega) (by omega) ?_
        refine weak_of 3 0 rfl rfl ?_ ?_ <;> simp [hst]
      · have hk' : i + 1 + k < l.length := by simp at hk; omega
        have htk := log_time h1 hk'
        obtain ⟨x, hx⟩ : ∃ x, l[i + 1 + k] = x := ⟨_, rfl⟩
        have hxe : (l.drop (i + 1))[k] = x := by rw [← hx]; simp
        rw [hx] at htk
        have hst : betw l a b (i + 1) = betw l a b i ++ [x.time - e.time] := by rw [betw_succ]; simp [stepB, hgo, eqS, q1, q2, f2, hxe]
        have w2 : wrapI .i64 (((i + 1 : Nat) : Int) + k) = ((i + 1 + k : Nat) : Int) := by rw [wrap_in (by omega) (by omega)]; omega
        have w2' : wrapI .i64 ((i : Int) + 1 + k) = ((i + 1 + k : Nat) : Int) := by rw [wrap_in (by omega) (by omega)]; omega
        have w3 : wrapI .i64 (x.time - e.time) = x.time - e.time := wrap_in (by omega) (by omega)
        have w4 : (betw l a b i).length + 1 ≤ 1073741824 := by omega
        have hgx : l[i + 1 + k]? = some x := by rw [List.getElem?_eq_getElem hk', hx]
        have p1 : (0 : Int) ≤ (i : Int) + 1 + k := by omega
        have t1 : ((i : Int) + 1 + k).toNat = i + 1 + k := by omega
        rw [show idxOf (isB e b) (l.drop (i + 1)) = k by simp [idxOf, f1]] at hI
        have n1 : ¬ (k : Int) < 0 := by omega
        ((try simp -implicitDefEqProofs [-loopQ_n, h, hf, evtC, q1, q2, hle, p0, evt_rows, hsub, w1, w2, w2', w3, w4, p1, t1, hk', hx, hgx, n1]) <;> (repeat' (first | (refine condD_dec ?_ ?_ <;> (intro hc; (try simp -implicitDefEqProofs [-loopQ_n, hc, h, hf, evtC, q1, q2, hle, p0, evt_rows, hsub, w1, w2, w2', w3, w4, p1, t1, hk', hx, hgx, n1]))) | (refine guardD_dec ?_ ?_ <;> (intro hc; (try simp -implicitDefEqProofs [-loopQ_n, hc, h, hf, evtC, q1, q2, hle, p0, evt_rows, hsub, w1, w2, w2', w3, w4, p1, t1, hk', hx, hgx, n1]))) | (refine condD_intro ?_ ?_ <;> (intro hd; have hc := hd; (try simp at hc) <;> (try simp -implicitDefEqProofs [-loopQ_n, hd, hc, h, hf, evtC, q1, q2, hle, p0, evt_rows, hsub, w1, w2, w2', w3, w4, p1, t1, hk', hx, hgx, n1]))) | (refine guardD_intro ?_ ?_ <;> (intro hd; have hc := hd; (try simp at hc) <;> (try simp -implicitDefEqProofs [-loopQ_n, hd, hc, h, hf, evtC, q1, q2, hle, p0, evt_rows, hsub, w1, w2, w2', w3, w4, p1, t1, hk', hx, hgx, n1]))) | (refine ldD_ep ?_ ?_; (focus kernel_rfl); (try simp -implicitDefEqProofs [-loopQ_n, h, hf, evtC, q1, q2, hle, p0, evt_rows, hsub, w1, w2, w2', w3, w4, p1, t1, hk', hx, hgx, n1])) | (refine callS_mk ?_; (try simp -implicitDefEqProofs [-loopQ_n, h, hf, evtC, q1, q2, hle, p0, evt_rows, hsub, w1, w2, w2', w3, w4, p1, t1, hk', hx, hgx, n1]); (first | refine callS_intro (hI) (.inl rfl) ?_); (try simp -implicitDefEqProofs [-loopQ_n, h, hf, evtC, q1, q2, hle, p0, evt_rows, hsub, w1, w2, w2', w3, w4, p1, t1, hk', hx, hgx, n1])))))
        refine loop_next (i + 1) (by omega) (by omega) ?_
        have hrr : rowsOf intC (betw l a b i) ++ [[AV.int .i64 (x.time - e.time)]] = rowsOf intC (betw l a b (i + 1)) := by
          rw [show ([AV.int .i64 (x.time - e.time)] : List AV) = intC (x.time - e.time) from rfl, rowsOf_snoc, hst]
        refine weak_of 3 0 rfl rfl ?_ ?_
        · simp [hst]
        · simp [hrr]
    · have hil : i = l.length := by omega
      subst hil
      simp -implicitDefEqProofs [h, ints_reify', h1, h2, h3]
end Go.Proofs.Ytkionfcafifhdaa
