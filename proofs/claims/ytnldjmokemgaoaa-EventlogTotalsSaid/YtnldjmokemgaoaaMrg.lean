/- eventlog.Merge: the events of two logs, stably sorted by their times. -/
import Derived.Test.YtnldjmokemgaoaaCat
import Derived.Test.YtnldjmokemgaoaaM4
import Derived.Test.YtnldjmokemgaoaaM3
namespace Go.Proofs.Ytnldjmokemgaoaa
set_option linter.unusedSimpArgs false
set_option linter.unusedVariables false
set_option linter.unnecessarySimpa false
set_option linter.unusedSectionVars false
open Go.RowKit
variable [Glob]
open Stab
set_option maxRecDepth 100000
def ltE (x y : Evt) : Bool := decide (x.time < y.time)
/-- The events of two logs in order. -/
noncomputable def mergeR (a b : List Evt) : List Evt × Int := if logV a = true ∧ logV b = true then (if 2000 < a.length + b.length then ([], 5) else (mrgG ltE a b, 0)) else ([], 1)
theorem log_srtd {l : List Evt} (h : logV l = true) : Srtd ltE l := by
  have hb := log_evt h
  simp only [logV, Bool.and_eq_true, decide_eq_true_eq] at h
  have hst : ∀ i, (hi : i + 1 < l.length) → l[i].time ≤ l[i + 1].time := fun i hi => by
    have := h.2 (i + 1) hi hi
    simp only [evOk, Bool.and_eq_true] at this
    have h2 := this.2
    have e : i + 1 - 1 = i := rfl
    rw [e, List.getElem?_eq_getElem (by omega : i < l.length)] at h2
    simp at h2
    omega
  unfold Srtd
  rw [List.pairwise_iff_getElem]
  intro i j hi hj hij
  unfold ltE
  rw [decide_eq_false_iff_not]
  have : ∀ k, (hk : i + k < l.length) → l[i].time ≤ l[i + k].time := by
    intro k
    induction k with
    | zero => intro _; exact Int.le_refl _
    | succ k ih =>
      intro hk
      have := ih (by omega)
      have := hst (i + k) (by omega)
      simp only [Nat.add_assoc] at *
      omega
  have := this (j - i) (by omega)
  have e : i + (j - i) = j := by omega
  simp only [e] at this
  omega
def evV (x : EvS) : Evt := x.1
def mkS (e : Evt) (h : 0 ≤ e.time ∧ e.time ≤ 1099511627776) : EvS := ⟨e, h⟩
def toS (l : List Evt) (h : ∀ e ∈ l, 0 ≤ e.time ∧ e.time ≤ 1099511627776) : List EvS := l.attach.map fun e => mkS e.1 (h e.1 e.2)
theorem toS_val {l : List Evt} {h : ∀ e ∈ l, 0 ≤ e.time ∧ e.time ≤ 1099511627776} : (toS l h).map evV = l := by
  unfold toS
  rw [List.map_map]
  exact List.attach_map_subtype_val l
theorem rowsOf_val {X : List EvS} : rowsOf evS X = rowsOf evtC (X.map evV) := by simp [rowsOf, evS, evV]
theorem srtdS {X : List EvS} (h : Srtd ltE (X.map evV)) : Srtd (ltC evCm) X := by
  unfold Srtd at h ⊢
  rw [List.pairwise_map] at h
  refine h.imp fun {x y} q => ?_
  unfold ltE at q
  cases e : ltC evCm y x
  · rfl
  · rw [evCm_lt] at e
    rw [decide_eq_false_iff_not] at q
    exact absurd e q
theorem ltE_val (x y : EvS) : ltC evCm x y = ltE x.1 y.1 := by
  cases e : ltC evCm x y
  · have : ¬ x.1.time < y.1.time := fun q => by rw [evCm_lt.2 q] at e; cases e
    simp [ltE, this]
  · have := evCm_lt.1 e
    simp [ltE, this]
/-- What a stable sort leaves of two logs. -/
theorem sort_merge {a b : List Evt} (ha : logV a = true) (hb : logV b = true) {X Y : List EvS} (hX : X.map evV = a ++ b) (h1 : Srtd (ltC evCm) Y) (h2 : Stb (ltC evCm) X Y) : Y.map evV = mrgG ltE a b := by
  have hba := fun e he => evt_bd (log_evt ha e he)
  have hbb := fun e he => evt_bd (log_evt hb e he)
  have hA : (toS a fun e he => ⟨(hba e he).1, (hba e he).2.1⟩).map evV = a := toS_val
  have hB : (toS b fun e he => ⟨(hbb e he).1, (hbb e he).2.1⟩).map evV = b := toS_val
  generalize (toS a fun e he => ⟨(hba e he).1, (hba e he).2.1⟩) = A at hA
  generalize (toS b fun e he => ⟨(hbb e he).1, (hbb e he).2.1⟩) = B at hB
  have sA : Srtd (ltC evCm) A := srtdS (by rw [hA]; exact log_srtd ha)
  have sB : Srtd (ltC evCm) B := srtdS (by rw [hB]; exact log_srtd hb)
  have hXe : X = A ++ B := by
    have hinj : ∀ (l l' : List EvS), l.map evV = l'.map evV → l = l' := fun l l' h => List.map_inj_right (fun x y => Subtype.ext) |>.1 h
    exact hinj _ _ (by rw [hX, List.map_append, hA, hB])
  subst hXe
  have := stab_uniq evCm_swo Y (mrgG (ltC evCm) A B) h1 (mrgG_srtd evCm_swo _ _ sA sB) (h2.symm.trans (mrgG_stb evCm_swo _ _ sA sB))
  rw [this, mrgG_map (f := evV) ltE_val, hA, hB]
theorem rowE_mB {ρ : Nat → Nat} {X : List EvS} : mB ρ (rowE X) = rowE X := by
  simp only [rowE, mB]
  congr 1
  unfold rowsOf
  rw [List.map_map]
  exact List.map_congr_left fun x _ => rfl
set_option maxHeartbeats 8000000 in
theorem merge_pure (a b : List Evt) (ha : a.length ≤ 9223372036854775807) (hb : b.length ≤ 9223372036854775807) : Pure Try.prog 32 [.agg [.rs (rowsOf evtC a)], .agg [.rs (rowsOf evtC b)]] (logO (mergeR a b)) := by
  refine pure_of mixed Try.func32 rfl (by kernel_rfl) (of_decide_eq_true rfl) (by kernel_rfl) (vc_run ?_)
  by_cases hV : logV a = true
  rotate_left
  · rw [mergeR, if_neg (fun q => hV q.1)]
    have hV : logV a = false := by simpa using hV
    ((try simp -implicitDefEqProofs [-loopQ_n, hV, logO, rowsOf_nil]) <;> (repeat' (first | (refine condD_dec ?_ ?_ <;> (intro hc; (try simp -implicitDefEqProofs [-loopQ_n, hc, hV, logO, rowsOf_nil]))) | (refine guardD_dec ?_ ?_ <;> (intro hc; (try simp -implicitDefEqProofs [-loopQ_n, hc, hV, logO, rowsOf_nil]))) | (refine condD_intro ?_ ?_ <;> (intro hd; have hc := hd; (try simp at hc) <;> (try simp -implicitDefEqProofs [-loopQ_n, hd, hc, hV, logO, rowsOf_nil]))) | (refine guardD_intro ?_ ?_ <;> (intro hd; have hc := hd; (try simp at hc) <;> (try simp -implicitDefEqProofs [-loopQ_n, hd, hc, hV, logO, rowsOf_nil]))) | (refine ldD_ep ?_ ?_; (focus kernel_rfl); (try simp -implicitDefEqProofs [-loopQ_n, hV, logO, rowsOf_nil])) | (refine callS_mk ?_; (try simp -implicitDefEqProofs [-loopQ_n, hV, logO, rowsOf_nil]); (first | refine callS_intro (log_pure a) (.inl rfl) ?_); (try simp -implicitDefEqProofs [-loopQ_n, hV, logO, rowsOf_nil])))))
  by_cases hW : logV b = true
  rotate_left
  · rw [mergeR, if_neg (fun q => hW q.2)]
    have hW : logV b = false := by simpa using hW
    ((try simp -implicitDefEqProofs [-loopQ_n, hV, hW, logO, rowsOf_nil]) <;> (repeat' (first | (refine condD_dec ?_ ?_ <;> (intro hc; (try simp -implicitDefEqProofs [-loopQ_n, hc, hV, hW, logO, rowsOf_nil]))) | (refine guardD_dec ?_ ?_ <;> (intro hc; (try simp -implicitDefEqProofs [-loopQ_n, hc, hV, hW, logO, rowsOf_nil]))) | (refine condD_intro ?_ ?_ <;> (intro hd; have hc := hd; (try simp at hc) <;> (try simp -implicitDefEqProofs [-loopQ_n, hd, hc, hV, hW, logO, rowsOf_nil]))) | (refine guardD_intro ?_ ?_ <;> (intro hd; have hc := hd; (try simp at hc) <;> (try simp -implicitDefEqProofs [-loopQ_n, hd, hc, hV, hW, logO, rowsOf_nil]))) | (refine ldD_ep ?_ ?_; (focus kernel_rfl); (try simp -implicitDefEqProofs [-loopQ_n, hV, hW, logO, rowsOf_nil])) | (refine callS_mk ?_; (try simp -implicitDefEqProofs [-loopQ_n, hV, hW, logO, rowsOf_nil]); (first | refine callS_intro (log_pure a) (.inl rfl) ?_ | refine callS_intro (log_pure b) (.inl rfl) ?_); (try simp -implicitDefEqProofs [-loopQ_n, hV, hW, logO, rowsOf_nil])))))
  rw [mergeR, if_pos ⟨hV, hW⟩]
  have hla := log_lenE hV
  have hlb := log_lenE hW
  have w0 : wrapI .i64 ((a.length : Int) + b.length) = ((a ++ b).length : Nat) := by rw [wrap_in (by omega) (by omega), List.length_append]; omega
  by_cases h1 : 2000 < a.length + b.length
  · rw [if_pos h1]
    have h1' : (2000 : Int) < (((a ++ b).length : Nat) : Int) := by rw [List.length_append]; omega
    generalize (a ++ b).length = n at *
    ((try simp -implicitDefEqProofs [-loopQ_n, hV, hW, logO, rowsOf_nil, w0, h1']) <;> (repeat' (first | (refine condD_dec ?_ ?_ <;> (intro hc; (try simp -implicitDefEqProofs [-loopQ_n, hc, hV, hW, logO, rowsOf_nil, w0, h1']))) | (refine guardD_dec ?_ ?_ <;> (intro hc; (try simp -implicitDefEqProofs [-loopQ_n, hc, hV, hW, logO, rowsOf_nil, w0, h1']))) | (refine condD_intro ?_ ?_ <;> (intro hd; have hc := hd; (try simp at hc) <;> (try simp -implicitDefEqProofs [-loopQ_n, hd, hc, hV, hW, logO, rowsOf_nil, w0, h1']))) | (refine guardD_intro ?_ ?_ <;> (intro hd; have hc := hd; (try simp at hc) <;> (try simp -implicitDefEqProofs [-loopQ_n, hd, hc, hV, hW, logO, rowsOf_nil, w0, h1']))) | (refine ldD_ep ?_ ?_; (focus kernel_rfl); (try simp -implicitDefEqProofs [-loopQ_n, hV, hW, logO, rowsOf_nil, w0, h1'])) | (refine callS_mk ?_; (try simp -implicitDefEqProofs [-loopQ_n, hV, hW, logO, rowsOf_nil, w0, h1']); (first | refine callS_intro (log_pure a) (.inl rfl) ?_ | refine callS_intro (log_pure b) (.inl rfl) ?_); (try simp -implicitDefEqProofs [-loopQ_n, hV, hW, logO, rowsOf_nil, w0, h1'])))))
  rw [if_neg h1]
  have h1' : ¬ (2000 : Int) < (((a ++ b).length : Nat) : Int) := by rw [List.length_append]; omega
  have hab : (a ++ b).length ≤ 2000 := by rw [List.length_append]; omega
  have hbd : ∀ e ∈ a ++ b, eventV e = true := fun e he => (List.mem_append.1 he).elim (log_evt hV e) (log_evt hW e)
  have hcat := concatE_pure [a, b] (by simp) (by simp; omega)
  have hfl : [a, b].flatten = a ++ b := by simp
  rw [hfl] at hcat
  have hmer := fun {X Y : List EvS} => sort_merge (X := X) (Y := Y) hV hW
  generalize hm : mrgG ltE a b = m at *
  generalize hq : a ++ b = q at *
  obtain ⟨n, hn⟩ : ∃ n, q.length = n := ⟨_, rfl⟩
  rw [hn] at w0 h1' hab
  have hr2 : ([0, 1] : List Nat) = List.range 2 := rfl
  ((try simp -implicitDefEqProofs [-loopQ_n, hV, hW, w0, h1', hr2]) <;> (repeat' (first | (refine condD_dec ?_ ?_ <;> (intro hc; (try simp -implicitDefEqProofs [-loopQ_n, hc, hV, hW, w0, h1', hr2]))) | (refine guardD_dec ?_ ?_ <;> (intro hc; (try simp -implicitDefEqProofs [-loopQ_n, hc, hV, hW, w0, h1', hr2]))) | (refine condD_intro ?_ ?_ <;> (intro hd; have hc := hd; (try simp at hc) <;> (try simp -implicitDefEqProofs [-loopQ_n, hd, hc, hV, hW, w0, h1', hr2]))) | (refine guardD_intro ?_ ?_ <;> (intro hd; have hc := hd; (try simp at hc) <;> (try simp -implicitDefEqProofs [-loopQ_n, hd, hc, hV, hW, w0, h1', hr2]))) | (refine ldD_ep ?_ ?_; (focus kernel_rfl); (try simp -implicitDefEqProofs [-loopQ_n, hV, hW, w0, h1', hr2])) | (refine callS_mk ?_; (try simp -implicitDefEqProofs [-loopQ_n, hV, hW, w0, h1', hr2]); (first | refine callS_intro (log_pure a) (.inl rfl) ?_ | refine callS_intro (log_pure b) (.inl rfl) ?_); (try simp -implicitDefEqProofs [-loopQ_n, hV, hW, w0, h1', hr2])))))
  refine callG_intro (frz_G (id := 4) hcat rfl (fun x hx c hc => ?_) ?_ ?_ ?_)
  · simp at hx
    rcases hx with rfl | rfl <;> (simp at hc; subst hc; rfl)
  · simp [frL, frA, rowsOf, lstC]
  · rfl
  ((try simp -implicitDefEqProofs [-loopQ_n, frH, frB, frL, frA, hn]) <;> (repeat' (first | (refine condD_dec ?_ ?_ <;> (intro hc; (try simp -implicitDefEqProofs [-loopQ_n, hc, frH, frB, frL, frA, hn]))) | (refine guardD_dec ?_ ?_ <;> (intro hc; (try simp -implicitDefEqProofs [-loopQ_n, hc, frH, frB, frL, frA, hn]))) | (refine condD_intro ?_ ?_ <;> (intro hd; have hc := hd; (try simp at hc) <;> (try simp -implicitDefEqProofs [-loopQ_n, hd, hc, frH, frB, frL, frA, hn]))) | (refine guardD_intro ?_ ?_ <;> (intro hd; have hc := hd; (try simp at hc) <;> (try simp -implicitDefEqProofs [-loopQ_n, hd, hc, frH, frB, frL, frA, hn]))) | (refine ldD_ep ?_ ?_; (focus kernel_rfl); (try simp -implicitDefEqProofs [-loopQ_n, frH, frB, frL, frA, hn])))))
  refine loop_intro (σ := Nat) (fun i => ⟨[(4, .op 2 0), (6, .op 3 0), (32, .rs (rowsOf evtC q)), (33, .int .i64 n), (34, .int .i64 i)], [.gone, .gone, .box 24 [.nils], .box 24 [.os 5 i], .gone, .row 54 true (rowsOf evtC (q.take i))]⟩)
    (fun i => i ≤ n) (fun i => n - i) 0 (by simp) ?_ ?_
  · refine weak_of 5 1 rfl rfl ?_ ?_ <;> simp
  intro i hi
  by_cases h : i < q.length
  · have g : i < n := by omega
    have w1 : wrapI .i64 ((i : Int) + 1) = (i : Int) + 1 := wrap_in (by omega) (by omega)
    have hb := evt_bd (hbd _ (List.getElem_mem h))
    obtain ⟨⟨c, ac, r, life, time, data⟩, hf⟩ : ∃ e, q[i] = e := ⟨_, rfl⟩
    rw [hf] at hb
    simp only at hb
    have hC := copied_pure ⟨c, ac, r, life, time, data⟩ (by simp only; omega)
    have hlen : i + 1 ≤ 1073741824 := by omega
    have hmin : min i q.length = i := by omega
    have hsn : rowsOf evtC (q.take i) ++ [[.str c, .str ac, .str r, .int .i64 life, .int .i64 time, .rs (rowsOf fldC data)]] = rowsOf evtC (q.take (i + 1)) := by
      rw [List.take_succ_eq_append_getElem h, hf]
      simp only [rowsOf, List.map_append, List.map_cons, List.map_nil, evtC]
    ((try simp -implicitDefEqProofs [-loopQ_n, h, g, hf, evtC, w1, hlen, hmin, hsn]) <;> (repeat' (first | (refine condD_dec ?_ ?_ <;> (intro hc; (try simp -implicitDefEqProofs [-loopQ_n, hc, h, g, hf, evtC, w1, hlen, hmin, hsn]))) | (refine guardD_dec ?_ ?_ <;> (intro hc; (try simp -implicitDefEqProofs [-loopQ_n, hc, h, g, hf, evtC, w1, hlen, hmin, hsn]))) | (refine condD_intro ?_ ?_ <;> (intro hd; have hc := hd; (try simp at hc) <;> (try simp -implicitDefEqProofs [-loopQ_n, hd, hc, h, g, hf, evtC, w1, hlen, hmin, hsn]))) | (refine guardD_intro ?_ ?_ <;> (intro hd; have hc := hd; (try simp at hc) <;> (try simp -implicitDefEqProofs [-loopQ_n, hd, hc, h, g, hf, evtC, w1, hlen, hmin, hsn]))) | (refine ldD_ep ?_ ?_; (focus kernel_rfl); (try simp -implicitDefEqProofs [-loopQ_n, h, g, hf, evtC, w1, hlen, hmin, hsn])) | (refine callS_mk ?_; (try simp -implicitDefEqProofs [-loopQ_n, h, g, hf, evtC, w1, hlen, hmin, hsn]); (first | refine callS_intro (hC) (.inr ⟨rfl, rfl⟩) ?_); (try simp -implicitDefEqProofs [-loopQ_n, h, g, hf, evtC, w1, hlen, hmin, hsn])))))
    refine loop_next (i + 1) (by omega) (by omega) (weak_of 6 0 rfl rfl ?_ ?_)
    · simp [w1]
    · simp [evt_refs]
  · have hin : i = n := by omega
    rw [hin, ← hn, List.take_length]
    have hbs := fun e he => evt_bd (hbd e he)
    have hQ : (toS q fun e he => ⟨(hbs e he).1, (hbs e he).2.1⟩).map evV = q := toS_val
    generalize (toS q fun e he => ⟨(hbs e he).1, (hbs e he).2.1⟩) = X at hQ
    have hXn : X.length = q.length := by rw [← hQ, List.length_map]
    have hXr : rowsOf evtC q = rowsOf evS X := by rw [rowsOf_val, hQ]
    rw [hXr]
    ((try simp -implicitDefEqProofs [-loopQ_n, h]) <;> (repeat' (first | (refine condD_dec ?_ ?_ <;> (intro hc; (try simp -implicitDefEqProofs [-loopQ_n, hc, h]))) | (refine guardD_dec ?_ ?_ <;> (intro hc; (try simp -implicitDefEqProofs [-loopQ_n, hc, h]))) | (refine condD_intro ?_ ?_ <;> (intro hd; have hc := hd; (try simp at hc) <;> (try simp -implicitDefEqProofs [-loopQ_n, hd, hc, h]))) | (refine guardD_intro ?_ ?_ <;> (intro hd; have hc := hd; (try simp at hc) <;> (try simp -implicitDefEqProofs [-loopQ_n, hd, hc, h]))) | (refine ldD_ep ?_ ?_; (focus kernel_rfl); (try simp -implicitDefEqProofs [-loopQ_n, h])))))
    refine callG_intro (foot1 (sortE_G X q.length hXn (by omega)) 5 rfl (fun _ => rowE_mB) (fun ρ hρ => by simp [mL, mA, hρ]) ?_)
    rintro _ _ ⟨rfl, Y, rfl, hY1, hY2⟩
    refine ⟨_, rfl, fun _ => rowE_mB, fun _ => rfl, ?_⟩
    have hYm := hmer hQ hY1 hY2
    have hYr : rowsOf evS Y = rowsOf evtC m := by rw [rowsOf_val, hYm]
    have hYn : q.length = m.length := by rw [← hYm, List.length_map, ← hY2.1, hXn]
    rw [rowE, hYr, hYn]
    ((try simp -implicitDefEqProofs [-loopQ_n, logO, evt_reify]) <;> (repeat' (first | (refine condD_dec ?_ ?_ <;> (intro hc; (try simp -implicitDefEqProofs [-loopQ_n, hc, logO, evt_reify]))) | (refine guardD_dec ?_ ?_ <;> (intro hc; (try simp -implicitDefEqProofs [-loopQ_n, hc, logO, evt_reify]))) | (refine condD_intro ?_ ?_ <;> (intro hd; have hc := hd; (try simp at hc) <;> (try simp -implicitDefEqProofs [-loopQ_n, hd, hc, logO, evt_reify]))) | (refine guardD_intro ?_ ?_ <;> (intro hd; have hc := hd; (try simp at hc) <;> (try simp -implicitDefEqProofs [-loopQ_n, hd, hc, logO, evt_reify]))) | (refine ldD_ep ?_ ?_; (focus kernel_rfl); (try simp -implicitDefEqProofs [-loopQ_n, logO, evt_reify])))))
end Go.Proofs.Ytnldjmokemgaoaa
