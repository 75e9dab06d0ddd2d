/- The counts of variants add up to the number of cases; selecting all cases changes nothing; the events of selected and of other cases are, merged, all of them, but for their order at equal times (the law EventlogTotals holds for every input; no condition). -/
import Derived.Test.YtnldjmokemgaoaaRows
import Derived.Test.YtnldjmokemgaoaaElA
import Derived.Test.YtnldjmokemgaoaaEl6
import Derived.Test.YtnldjmokemgaoaaM6
import Derived.Test.YtnldjmokemgaoaaTotP
import Derived.Test.YtnldjmokemgaoaaDecV
namespace Go.Proofs.Ytnldjmokemgaoaa.lawETotals
set_option linter.unusedSimpArgs false
set_option linter.unusedVariables false
set_option linter.unnecessarySimpa false
set_option linter.unusedSectionVars false
open Go.ChangeShapes Go.WideShapes Go.ChangeAt Go.RowKit Go.Joins Go.Deep
section
variable [Glob]
open Stab
set_option maxRecDepth 100000
theorem ecases_pure (l : List Evt) (hl : l.length ≤ 2000) (hsz : ∀ e ∈ l, e.case_.size ≤ maxLen) : Pure Try.prog 10 [.agg [.rs (rowsOf evtC l)]] (if logV l = true then .tup [.rs (rowsOf strC (casesL l)), .int .i64 0] else .tup [.rs [], .int .i64 1]) := by
  refine pure_of mixed Try.func10 rfl (by kernel_rfl) (of_decide_eq_true rfl) (by kernel_rfl) (vc_run ?_)
  by_cases hV : logV l = true
  · rw [if_pos hV]
    ((try simp -implicitDefEqProofs [-loopQ_n, hV]) <;> (repeat' (first | (refine condD_dec ?_ ?_ <;> (intro hc; (try simp -implicitDefEqProofs [-loopQ_n, hc, hV]))) | (refine guardD_dec ?_ ?_ <;> (intro hc; (try simp -implicitDefEqProofs [-loopQ_n, hc, hV]))) | (refine condD_intro ?_ ?_ <;> (intro hd; have hc := hd; (try simp at hc) <;> (try simp -implicitDefEqProofs [-loopQ_n, hd, hc, hV]))) | (refine guardD_intro ?_ ?_ <;> (intro hd; have hc := hd; (try simp at hc) <;> (try simp -implicitDefEqProofs [-loopQ_n, hd, hc, hV]))) | (refine ldD_ep ?_ ?_; (focus kernel_rfl); (try simp -implicitDefEqProofs [-loopQ_n, hV])) | (refine callS_mk ?_; (try simp -implicitDefEqProofs [-loopQ_n, hV]); (first | refine callS_intro (log_pure _) (.inl rfl) ?_ | refine callS_intro (cases_pure l hl hsz) (.inr ⟨rfl, rfl⟩) ?_); (try simp -implicitDefEqProofs [-loopQ_n, hV])))))
  · rw [if_neg hV]
    have hV : logV l = false := by simpa using hV
    ((try simp -implicitDefEqProofs [-loopQ_n, hV]) <;> (repeat' (first | (refine condD_dec ?_ ?_ <;> (intro hc; (try simp -implicitDefEqProofs [-loopQ_n, hc, hV]))) | (refine guardD_dec ?_ ?_ <;> (intro hc; (try simp -implicitDefEqProofs [-loopQ_n, hc, hV]))) | (refine condD_intro ?_ ?_ <;> (intro hd; have hc := hd; (try simp at hc) <;> (try simp -implicitDefEqProofs [-loopQ_n, hd, hc, hV]))) | (refine guardD_intro ?_ ?_ <;> (intro hd; have hc := hd; (try simp at hc) <;> (try simp -implicitDefEqProofs [-loopQ_n, hd, hc, hV]))) | (refine ldD_ep ?_ ?_; (focus kernel_rfl); (try simp -implicitDefEqProofs [-loopQ_n, hV])) | (refine callS_mk ?_; (try simp -implicitDefEqProofs [-loopQ_n, hV]); (first | refine callS_intro (log_pure _) (.inl rfl) ?_); (try simp -implicitDefEqProofs [-loopQ_n, hV])))))
/-! Bounds. -/
def bndV (R : List Vr) (i : Nat) : Prop := R.length ≤ 40 + i ∧ ∀ v ∈ R, v.acts.length ≤ 40 ∧ 0 ≤ v.count ∧ v.count ≤ 40 + 40 * (i : Int)
theorem bnd_add {R : List Vr} {i : Nat} {w : List ByteArray} {n : Int} (h : bndV R i) (hw : w.length ≤ 40) (h0 : 0 ≤ n) (h1 : n ≤ 40) : bndV (addV w n R) (i + 1) := by
  refine ⟨by have := addV_len w n R; have := h.1; omega, fun v hv => ?_⟩
  rcases addV_any w n R v hv with q | ⟨q1, q2⟩
  · have := h.2 v q
    omega
  · refine ⟨by rw [q1]; exact hw, ?_⟩
    rcases q2 with q2 | ⟨u, hu, q2⟩
    · omega
    · have := h.2 u hu
      omega
theorem bnd_var {l : List Evt} (hV : logV l = true) (hl : l.length ≤ 40) : bndV (varL l) 0 ∧ ∀ v ∈ varL l, v.acts.length ≤ 40 ∧ 0 ≤ v.count ∧ v.count ≤ 40 := by
  have hg := varL_good l
  have hcl : (casesL l).length ≤ 40 := by
    have := setB_lenB (l.map (·.case_)) []
    simp only [List.length_nil, List.length_map] at this
    have h2 : (casesL l).length = ((l.map (·.case_)).foldl insB []).length := rfl
    omega
  have h : ∀ v ∈ varL l, v.acts.length ≤ 40 ∧ 0 ≤ v.count ∧ v.count ≤ 40 := fun v hv => by
    obtain ⟨q1, q2⟩ := (hg.2 v).1 hv
    obtain ⟨c, hc, hcw⟩ := List.mem_map.1 q1
    have h3 := occ_le v.acts ((casesL l).map (wordL l))
    simp only [List.length_map] at h3
    have h4 := word_len l c
    rw [hcw] at h4
    omega
  exact ⟨⟨by have := (varL_valid hV hl).2.2; omega, fun v hv => by have := h v hv; omega⟩, h⟩
open Classical in
noncomputable def sameW (a b : List Vr) : Bool := decide (a = b)
theorem sameW_self (a : List Vr) : sameW a a = true := by simp [sameW]
open Classical in
noncomputable def sameL (a b : List Evt) : Bool := decide (a = b)
theorem sameL_self (a : List Evt) : sameL a a = true := by simp [sameL]
theorem sel_eq {l : List Evt} {cs : List ByteArray} (hV : logV l = true) (hn : namesL cs = true) (hc : cs.length ≤ 1000) {p : Evt → Bool} (hp : ∀ e ∈ l, hasB cs e.case_ = p e) : selectR l cs = (l.filter p, 0) := by
  unfold selectR
  rw [if_pos ⟨hV, hn⟩, if_neg (by omega), List.filter_congr hp]
theorem hasB_filter {C : List ByteArray} {q : ByteArray → Bool} {x : ByteArray} (hx : x ∈ C) : hasB (C.filter q) x = q x := by
  cases h : q x
  · cases e : hasB (C.filter q) x
    · rfl
    · have := (List.mem_filter.1 (hasB_iff.1 e)).2
      rw [h] at this; cases this
  · exact hasB_iff.2 (List.mem_filter.2 ⟨hx, h⟩)
theorem str_snoc {l : List ByteArray} {s : ByteArray} : rowsOf strC l ++ [[AV.str s]] = rowsOf strC (l ++ [s]) := by simp [rowsOf, strC]
theorem str_refs {m : Nat} {l : List ByteArray} : refsR m (rowsOf strC l) = true := rowsOf_refs fun x => by simp [strC, refs]
theorem str_own {l : List ByteArray} : ∀ r ∈ rowsOf strC l, ∀ c ∈ r, owns c = false := rowsOf_owns' fun s c hc => by simp [strC] at hc; subst hc; rfl
theorem str_frL {id : Nat} {rows : List (List AV)} {l : List ByteArray} : List.map (frL id rows) (rowsOf strC l) = rowsOf strC l := by
  unfold rowsOf
  rw [List.map_map]
  exact List.map_congr_left fun e _ => rfl
set_option maxHeartbeats 32000000 in
theorem main (l : List Evt) (s : List ByteArray) (ll : l.length ≤ 9223372036854775807) (hd : ∀ e ∈ l, e.data.length ≤ 9223372036854775807) (ls : s.length ≤ 9223372036854775807) (hS : smallB l = true) (hF : fewB s = true) (hV : logV l = true) : Pure Try.prog 7 [.agg [.rs (rowsOf evtC l)], .rs (rowsOf strC s)] (.bool true) := by
  obtain ⟨hl40, hpl⟩ := small_spec hS
  have hsz : ∀ e ∈ l, e.case_.size ≤ maxLen := fun e he => by have := plain_case (hpl e he); rw [maxLen_eq]; omega
  have hfw := few_pure s ls
  rw [hF] at hfw
  have hVar := variants_pure l (by omega) hsz hV
  obtain ⟨hvv, hvr, hvl⟩ := varL_valid hV hl40
  rw [hvr] at hVar
  have hCas := ecases_pure l (by omega) hsz
  rw [if_pos hV] at hCas
  have hcl : (casesL l).length ≤ 40 := by
    have := setB_lenB (l.map (·.case_)) []
    simp only [List.length_nil, List.length_map] at this
    have h2 : (casesL l).length = ((l.map (·.case_)).foldl insB []).length := rfl
    omega
  have hcm : ∀ e ∈ l, e.case_ ∈ casesL l := fun e he => by unfold casesL; rw [setB_mem]; exact List.mem_map.2 ⟨e, he, rfl⟩
  have hcn : ∀ c ∈ casesL l, isNameS c = true := fun c hc => by
    unfold casesL at hc
    rw [setB_mem] at hc
    obtain ⟨e, he, rfl⟩ := List.mem_map.1 hc
    exact (evt_bd (log_evt hV e he)).2.2.2.1
  have hnl : ∀ cs : List ByteArray, (∀ c ∈ cs, c ∈ casesL l) → namesL cs = true := fun cs h => List.all_eq_true.2 fun c hc => hcn c (h c hc)
  have hsel := select_pure l (casesL l) (by omega)
  rw [sel_eq (p := fun _ => true) hV (hnl _ fun c h => h) (by omega) (fun e he => hasB_iff.2 (hcm e he)), List.filter_eq_self.2 (fun _ _ => rfl)] at hsel
  have hIn := select_pure l ((casesL l).filter (hasB s)) (Nat.le_trans (List.length_filter_le _ _) (by omega))
  rw [sel_eq (p := inC s) hV (hnl _ fun c h => (List.mem_filter.1 h).1) (Nat.le_trans (List.length_filter_le _ _) (by omega)) (fun e he => hasB_filter (hcm e he))] at hIn
  have hOut := select_pure l ((casesL l).filter fun c => !hasB s c) (Nat.le_trans (List.length_filter_le _ _) (by omega))
  rw [sel_eq (p := outC s) hV (hnl _ fun c h => (List.mem_filter.1 h).1) (Nat.le_trans (List.length_filter_le _ _) (by omega)) (fun e he => hasB_filter (q := fun c => !hasB s c) (hcm e he))] at hOut
  have hla := List.length_filter_le (inC s) l
  have hlb := List.length_filter_le (outC s) l
  have hVa := logV_filter hV (inC s)
  have hVb := logV_filter hV (outC s)
  have hMer := merge_pure (l.filter (inC s)) (l.filter (outC s)) (by omega) (by omega)
  rw [show mergeR (l.filter (inC s)) (l.filter (outC s)) = (mrgG ltE (l.filter (inC s)) (l.filter (outC s)), 0) from by unfold mergeR; rw [if_pos ⟨hVa, hVb⟩, if_neg (by omega)]] at hMer
  have hml := merged_len l s
  have hmV := merged_logV hV s
  have hmm := merged_mem l s
  have hmv := merged_var l s
  have hVm := variants_pure (mrgG ltE (l.filter (inC s)) (l.filter (outC s))) (by omega) (fun e he => hsz e ((hmm e).1 he)) hmV
  rw [(varL_valid hmV (by omega)).2.1, hmv] at hVm
  have hVA := variants_pure (l.filter (inC s)) (by omega) (fun e he => hsz e (List.mem_filter.1 he).1) hVa
  rw [(varL_valid hVa (by omega)).2.1] at hVA
  have hVB := variants_pure (l.filter (outC s)) (by omega) (fun e he => hsz e (List.mem_filter.1 he).1) hVb
  rw [(varL_valid hVb (by omega)).2.1] at hVB
  have hfold := parted_var l s
  obtain ⟨bA, _⟩ := bnd_var hVa (by omega)
  obtain ⟨_, bB⟩ := bnd_var hVb (by omega)
  have hlB := (varL_valid hVb (by omega)).2.2
  obtain ⟨bV0, bV⟩ := bnd_var hV hl40
  have hsum := varL_sum l
  have hSm : Pure Try.prog 20 [.agg [.rs (rowsOf evtC l)], .agg [.rs (rowsOf evtC l)]] (.bool true) := by
    have h : Pure Try.prog 20 [.agg [.rs (rowsOf evtC l)], .agg [.rs (rowsOf evtC l)]] (.bool (sameL l l)) := elsame_pure l l hd hd ll ll
    rwa [sameL_self] at h
  have hSv : Pure Try.prog 35 [.rs (rowsOf vrC (varL l)), .rs (rowsOf vrC (varL l))] (.bool true) := by
    have hb : ∀ v ∈ varL l, v.acts.length ≤ 9223372036854775807 := fun v hv => by have := bV v hv; omega
    have h : Pure Try.prog 35 [.rs (rowsOf vrC (varL l)), .rs (rowsOf vrC (varL l))] (.bool (sameW (varL l) (varL l))) := rsamev_pure _ _ (by omega) (by omega) hb hb
    rwa [sameW_self] at h
  have hEv := evv_pure (varL l) fun v hv => by have := bV v hv; omega
  rw [hvv] at hEv
  have hVl := log_pure l
  rw [hV] at hVl
  have hVmv := log_pure (mrgG ltE (l.filter (inC s)) (l.filter (outC s)))
  rw [hmV] at hVmv
  have hSmall := small_pure l ll hd
  rw [hS] at hSmall
  clear hmV hmm hVa hVb
  generalize mrgG ltE (l.filter (inC s)) (l.filter (outC s)) = m at *
  generalize l.filter (inC s) = a at *
  generalize l.filter (outC s) = b at *
  generalize varL l = V at *
  generalize varL a = VA at *
  generalize varL b = VB at *
  generalize hC : casesL l = C at *
  simp only [varO, logO] at hVar hsel hIn hOut hMer hVm hVA hVB
  refine pure_of mixed Try.func7 rfl (by kernel_rfl) (of_decide_eq_true rfl) (by kernel_rfl) (vc_run ?_)
  ((try simp -implicitDefEqProofs [-loopQ_n]) <;> (repeat' (first | (refine condD_dec ?_ ?_ <;> (intro hc; (try simp -implicitDefEqProofs [-loopQ_n, hc]))) | (refine guardD_dec ?_ ?_ <;> (intro hc; (try simp -implicitDefEqProofs [-loopQ_n, hc]))) | (refine condD_intro ?_ ?_ <;> (intro hd; have hc := hd; (try simp at hc) <;> (try simp -implicitDefEqProofs [-loopQ_n, hd, hc]))) | (refine guardD_intro ?_ ?_ <;> (intro hd; have hc := hd; (try simp at hc) <;> (try simp -implicitDefEqProofs [-loopQ_n, hd, hc]))) | (refine ldD_ep ?_ ?_; (focus kernel_rfl); (try simp -implicitDefEqProofs [-loopQ_n])) | (refine callS_mk ?_; (try simp -implicitDefEqProofs [-loopQ_n]); (first | refine callS_intro (awake_pure) (.inl rfl) ?_ | refine callS_intro (hSmall) (.inl rfl) ?_ | refine callS_intro (hfw) (.inl rfl) ?_ | refine callS_intro (hVar) (.inr ⟨rfl, rfl⟩) ?_ | refine callS_intro (hCas) (.inr ⟨rfl, rfl⟩) ?_); (try simp -implicitDefEqProofs [-loopQ_n])))))
  refine loop_intro (σ := Nat × Int) (fun x => ⟨[(1, .rs (rowsOf strC s)), (2, .op 0 0), (5, .rs (rowsOf vrC V)), (7, .rs (rowsOf strC C)), (9, .int .i64 x.2), (67, .rs (rowsOf vrC V)), (68, .int .i64 V.length), (69, .int .i64 x.1)], [.box 24 [.rs (rowsOf evtC l)]]⟩)
    (fun x => x.1 ≤ V.length ∧ x.2 + sumC (V.drop x.1) = C.length ∧ 0 ≤ x.2 ∧ x.2 ≤ 40 * (x.1 : Int)) (fun x => V.length - x.1) (0, 0) ⟨by simp, by simpa using hsum, by simp, by simp⟩ ?_ ?_
  · refine weak_of 1 0 rfl rfl ?_ ?_ <;> simp
  rintro ⟨i, n⟩ ⟨hi, hn1, hn2, hn3⟩
  simp only at hi hn1 hn2 hn3
  by_cases h : i < V.length
  · have w1 : wrapI .i64 ((i : Int) + 1) = (i : Int) + 1 := wrap_in (by omega) (by omega)
    have hb := bV _ (List.getElem_mem h)
    obtain ⟨⟨ac, k⟩, hf⟩ : ∃ e, V[i] = e := ⟨_, rfl⟩
    rw [hf] at hb
    simp only at hb
    rw [List.drop_eq_getElem_cons h, hf, sumC_cons] at hn1
    simp only at hn1
    have w2 : wrapI .i64 (n + k) = n + k := wrap_in (by omega) (by omega)
    ((try simp -implicitDefEqProofs [-loopQ_n, h, hf, vrC, w1, w2]) <;> (repeat' (first | (refine condD_dec ?_ ?_ <;> (intro hc; (try simp -implicitDefEqProofs [-loopQ_n, hc, h, hf, vrC, w1, w2]))) | (refine guardD_dec ?_ ?_ <;> (intro hc; (try simp -implicitDefEqProofs [-loopQ_n, hc, h, hf, vrC, w1, w2]))) | (refine condD_intro ?_ ?_ <;> (intro hd; have hc := hd; (try simp at hc) <;> (try simp -implicitDefEqProofs [-loopQ_n, hd, hc, h, hf, vrC, w1, w2]))) | (refine guardD_intro ?_ ?_ <;> (intro hd; have hc := hd; (try simp at hc) <;> (try simp -implicitDefEqProofs [-loopQ_n, hd, hc, h, hf, vrC, w1, w2]))) | (refine ldD_ep ?_ ?_; (focus kernel_rfl); (try simp -implicitDefEqProofs [-loopQ_n, h, hf, vrC, w1, w2])))))
    refine loop_next (i + 1, n + k) ⟨by simp only; omega, by simp only; omega, by simp only; omega, by simp only; omega⟩ (by simp only; omega) (weak_of 1 0 rfl rfl ?_ ?_) <;> simp [w1]
  have hin : i = V.length := by omega
  subst hin
  rw [List.drop_length] at hn1
  have hn : n = (C.length : Int) := by simpa [sumC] using hn1
  subst hn
  obtain ⟨I, hI⟩ : ∃ I, C.filter (hasB s) = I := ⟨_, rfl⟩
  obtain ⟨O, hO⟩ : ∃ O, (C.filter fun c => !hasB s c) = O := ⟨_, rfl⟩
  rw [hI] at hIn
  rw [hO] at hOut
  ((try simp -implicitDefEqProofs [-loopQ_n, h]) <;> (repeat' (first | (refine condD_dec ?_ ?_ <;> (intro hc; (try simp -implicitDefEqProofs [-loopQ_n, hc, h]))) | (refine guardD_dec ?_ ?_ <;> (intro hc; (try simp -implicitDefEqProofs [-loopQ_n, hc, h]))) | (refine condD_intro ?_ ?_ <;> (intro hd; have hc := hd; (try simp at hc) <;> (try simp -implicitDefEqProofs [-loopQ_n, hd, hc, h]))) | (refine guardD_intro ?_ ?_ <;> (intro hd; have hc := hd; (try simp at hc) <;> (try simp -implicitDefEqProofs [-loopQ_n, hd, hc, h]))) | (refine ldD_ep ?_ ?_; (focus kernel_rfl); (try simp -implicitDefEqProofs [-loopQ_n, h])) | (refine callS_mk ?_; (try simp -implicitDefEqProofs [-loopQ_n, h]); (first | refine callS_intro (hsel) (.inr ⟨rfl, rfl⟩) ?_ | refine callS_intro (hEv) (.inl rfl) ?_ | refine callS_intro (hSm) (.inl rfl) ?_); (try simp -implicitDefEqProofs [-loopQ_n, h])))))
  refine loop_intro (σ := Nat × List ByteArray × List ByteArray) (fun x => ⟨[(1, .rs (rowsOf strC s)), (2, .op 0 0), (5, .rs (rowsOf vrC V)), (14, .os 2 x.2.1.length), (15, .os 3 x.2.2.length), (103, .rs (rowsOf strC C)), (104, .int .i64 C.length), (105, .int .i64 x.1)], [.box 24 [.rs (rowsOf evtC l)], .gone, .row 9 true (rowsOf strC x.2.1), .row 9 true (rowsOf strC x.2.2)]⟩)
    (fun x => x.1 ≤ C.length ∧ x.2.1.length ≤ x.1 ∧ x.2.2.length ≤ x.1 ∧ x.2.1 ++ (C.drop x.1).filter (hasB s) = I ∧ x.2.2 ++ ((C.drop x.1).filter fun c => !hasB s c) = O) (fun x => C.length - x.1) (0, [], []) ⟨by simp, by simp, by simp, by simpa using hI, by simpa using hO⟩ ?_ ?_
  · refine weak_of 2 2 rfl rfl ?_ ?_
    · simp
      exact ⟨1, by omega, by omega⟩
    · simp
  rintro ⟨i, ins, outs⟩ ⟨hi, hl1, hl2, hq1, hq2⟩
  simp only at hi hl1 hl2 hq1 hq2
  by_cases g : i < C.length
  · have w1 : wrapI .i64 ((i : Int) + 1) = (i : Int) + 1 := wrap_in (by omega) (by omega)
    obtain ⟨c, hf⟩ : ∃ e, C[i] = e := ⟨_, rfl⟩
    rw [List.drop_eq_getElem_cons g, hf, List.filter_cons] at hq1 hq2
    have hco := contains_pure s c ls
    have h1 : ins.length ≤ 1073741823 := by omega
    have h2 : outs.length ≤ 1073741823 := by omega
    by_cases hb : hasB s c = true
    · rw [hb] at hco
      rw [if_pos hb] at hq1
      rw [if_neg (by rw [hb]; simp)] at hq2
      ((try simp -implicitDefEqProofs [-loopQ_n, g, hf, strC, h1, str_snoc]) <;> (repeat' (first | (refine condD_dec ?_ ?_ <;> (intro hc; (try simp -implicitDefEqProofs [-loopQ_n, hc, g, hf, strC, h1, str_snoc]))) | (refine guardD_dec ?_ ?_ <;> (intro hc; (try simp -implicitDefEqProofs [-loopQ_n, hc, g, hf, strC, h1, str_snoc]))) | (refine condD_intro ?_ ?_ <;> (intro hd; have hc := hd; (try simp at hc) <;> (try simp -implicitDefEqProofs [-loopQ_n, hd, hc, g, hf, strC, h1, str_snoc]))) | (refine guardD_intro ?_ ?_ <;> (intro hd; have hc := hd; (try simp at hc) <;> (try simp -implicitDefEqProofs [-loopQ_n, hd, hc, g, hf, strC, h1, str_snoc]))) | (refine ldD_ep ?_ ?_; (focus kernel_rfl); (try simp -implicitDefEqProofs [-loopQ_n, g, hf, strC, h1, str_snoc])) | (refine callS_mk ?_; (try simp -implicitDefEqProofs [-loopQ_n, g, hf, strC, h1, str_snoc]); (first | refine callS_intro (hco) (.inl rfl) ?_); (try simp -implicitDefEqProofs [-loopQ_n, g, hf, strC, h1, str_snoc])))))
      refine loop_next (i + 1, ins ++ [c], outs) ⟨by simp only; omega, by simp; omega, by simp only; omega, by rw [← hq1]; simp, hq2⟩ (by simp only; omega) (weak_of 4 0 rfl rfl ?_ ?_) <;> simp [w1, str_refs]
    · have hb : hasB s c = false := by simpa using hb
      rw [hb] at hco
      rw [if_neg (by rw [hb]; simp)] at hq1
      rw [if_pos (by rw [hb]; simp)] at hq2
      ((try simp -implicitDefEqProofs [-loopQ_n, g, hf, strC, h2, str_snoc]) <;> (repeat' (first | (refine condD_dec ?_ ?_ <;> (intro hc; (try simp -implicitDefEqProofs [-loopQ_n, hc, g, hf, strC, h2, str_snoc]))) | (refine guardD_dec ?_ ?_ <;> (intro hc; (try simp -implicitDefEqProofs [-loopQ_n, hc, g, hf, strC, h2, str_snoc]))) | (refine condD_intro ?_ ?_ <;> (intro hd; have hc := hd; (try simp at hc) <;> (try simp -implicitDefEqProofs [-loopQ_n, hd, hc, g, hf, strC, h2, str_snoc]))) | (refine guardD_intro ?_ ?_ <;> (intro hd; have hc := hd; (try simp at hc) <;> (try simp -implicitDefEqProofs [-loopQ_n, hd, hc, g, hf, strC, h2, str_snoc]))) | (refine ldD_ep ?_ ?_; (focus kernel_rfl); (try simp -implicitDefEqProofs [-loopQ_n, g, hf, strC, h2, str_snoc])) | (refine callS_mk ?_; (try simp -implicitDefEqProofs [-loopQ_n, g, hf, strC, h2, str_snoc]); (first | refine callS_intro (hco) (.inl rfl) ?_); (try simp -implicitDefEqProofs [-loopQ_n, g, hf, strC, h2, str_snoc])))))
      refine loop_next (i + 1, ins, outs ++ [c]) ⟨by simp only; omega, by simp only; omega, by simp; omega, hq1, by rw [← hq2]; simp⟩ (by simp only; omega) (weak_of 4 0 rfl rfl ?_ ?_) <;> simp [w1, str_refs]
  have hin : i = C.length := by omega
  subst hin
  rw [List.drop_length, List.filter_nil, List.append_nil] at hq1 hq2
  subst hq1 hq2
  ((try simp -implicitDefEqProofs [-loopQ_n, g]) <;> (repeat' (first | (refine condD_dec ?_ ?_ <;> (intro hc; (try simp -implicitDefEqProofs [-loopQ_n, hc, g]))) | (refine guardD_dec ?_ ?_ <;> (intro hc; (try simp -implicitDefEqProofs [-loopQ_n, hc, g]))) | (refine condD_intro ?_ ?_ <;> (intro hd; have hc := hd; (try simp at hc) <;> (try simp -implicitDefEqProofs [-loopQ_n, hd, hc, g]))) | (refine guardD_intro ?_ ?_ <;> (intro hd; have hc := hd; (try simp at hc) <;> (try simp -implicitDefEqProofs [-loopQ_n, hd, hc, g]))) | (refine ldD_ep ?_ ?_; (focus kernel_rfl); (try simp -implicitDefEqProofs [-loopQ_n, g])))))
  refine callG_intro (frz_G (id := 2) hIn rfl str_own ?_ rfl ?_)
  · simp [frL, frA, rowsOf_length]
  ((try simp -implicitDefEqProofs [-loopQ_n, frH, frB, frL, frA, rowsOf_length, str_frL]) <;> (repeat' (first | (refine condD_dec ?_ ?_ <;> (intro hc; (try simp -implicitDefEqProofs [-loopQ_n, hc, frH, frB, frL, frA, rowsOf_length, str_frL]))) | (refine guardD_dec ?_ ?_ <;> (intro hc; (try simp -implicitDefEqProofs [-loopQ_n, hc, frH, frB, frL, frA, rowsOf_length, str_frL]))) | (refine condD_intro ?_ ?_ <;> (intro hd; have hc := hd; (try simp at hc) <;> (try simp -implicitDefEqProofs [-loopQ_n, hd, hc, frH, frB, frL, frA, rowsOf_length, str_frL]))) | (refine guardD_intro ?_ ?_ <;> (intro hd; have hc := hd; (try simp at hc) <;> (try simp -implicitDefEqProofs [-loopQ_n, hd, hc, frH, frB, frL, frA, rowsOf_length, str_frL]))) | (refine ldD_ep ?_ ?_; (focus kernel_rfl); (try simp -implicitDefEqProofs [-loopQ_n, frH, frB, frL, frA, rowsOf_length, str_frL])))))
  refine callG_intro (frz_G (id := 3) hOut rfl str_own ?_ rfl ?_)
  · simp [frL, frA, rowsOf_length]
  have hml' : ¬ ((m.length : Int) = (l.length : Int)) ↔ False := by rw [hml]; simp
  ((try simp -implicitDefEqProofs [-loopQ_n, frH, frB, frL, frA, rowsOf_length, hml]) <;> (repeat' (first | (refine condD_dec ?_ ?_ <;> (intro hc; (try simp -implicitDefEqProofs [-loopQ_n, hc, frH, frB, frL, frA, rowsOf_length, hml]))) | (refine guardD_dec ?_ ?_ <;> (intro hc; (try simp -implicitDefEqProofs [-loopQ_n, hc, frH, frB, frL, frA, rowsOf_length, hml]))) | (refine condD_intro ?_ ?_ <;> (intro hd; have hc := hd; (try simp at hc) <;> (try simp -implicitDefEqProofs [-loopQ_n, hd, hc, frH, frB, frL, frA, rowsOf_length, hml]))) | (refine guardD_intro ?_ ?_ <;> (intro hd; have hc := hd; (try simp at hc) <;> (try simp -implicitDefEqProofs [-loopQ_n, hd, hc, frH, frB, frL, frA, rowsOf_length, hml]))) | (refine ldD_ep ?_ ?_; (focus kernel_rfl); (try simp -implicitDefEqProofs [-loopQ_n, frH, frB, frL, frA, rowsOf_length, hml])) | (refine callS_mk ?_; (try simp -implicitDefEqProofs [-loopQ_n, frH, frB, frL, frA, rowsOf_length, hml]); (first | refine callS_intro (hMer) (.inr ⟨rfl, rfl⟩) ?_ | refine callS_intro (hVmv) (.inl rfl) ?_ | refine callS_intro (hVm) (.inr ⟨rfl, rfl⟩) ?_ | refine callS_intro (hVA) (.inr ⟨rfl, rfl⟩) ?_ | refine callS_intro (hVB) (.inr ⟨rfl, rfl⟩) ?_ | refine callS_intro (hSv) (.inl rfl) ?_); (try simp -implicitDefEqProofs [-loopQ_n, frH, frB, frL, frA, rowsOf_length, hml])))))
  refine loop_intro (σ := Nat × List Vr) (fun x => ⟨[(5, .rs (rowsOf vrC V)), (24, .rs (rowsOf vrC x.2)), (194, .rs (rowsOf vrC VB)), (195, .int .i64 VB.length), (196, .int .i64 x.1)], []⟩)
    (fun x => x.1 ≤ VB.length ∧ bndV x.2 x.1 ∧ (VB.drop x.1).foldl (fun acc z => addV z.acts z.count acc) x.2 = V) (fun x => VB.length - x.1) (0, VA) ⟨by simp, bA, by simpa using hfold⟩ ?_ ?_
  · refine weak_of 0 0 rfl rfl ?_ ?_ <;> simp
  rintro ⟨i, acc⟩ ⟨hi, hb, hR⟩
  simp only at hi hb hR
  by_cases q : i < VB.length
  · have w1 : wrapI .i64 ((i : Int) + 1) = (i : Int) + 1 := wrap_in (by omega) (by omega)
    have hz := bB _ (List.getElem_mem q)
    obtain ⟨⟨ac, k⟩, hf⟩ : ∃ e, VB[i] = e := ⟨_, rfl⟩
    rw [hf] at hz
    simp only at hz
    rw [List.drop_eq_getElem_cons q, hf, List.foldl_cons] at hR
    have hA := radd_pure acc ac k (by have := hb.1; omega) (fun v hv => by have := hb.2 v hv; omega) (by omega) (fun v hv => wrap_in (by have := hb.2 v hv; omega) (by have := hb.2 v hv; omega))
    ((try simp -implicitDefEqProofs [-loopQ_n, q, hf, vrC]) <;> (repeat' (first | (refine condD_dec ?_ ?_ <;> (intro hc; (try simp -implicitDefEqProofs [-loopQ_n, hc, q, hf, vrC]))) | (refine guardD_dec ?_ ?_ <;> (intro hc; (try simp -implicitDefEqProofs [-loopQ_n, hc, q, hf, vrC]))) | (refine condD_intro ?_ ?_ <;> (intro hd; have hc := hd; (try simp at hc) <;> (try simp -implicitDefEqProofs [-loopQ_n, hd, hc, q, hf, vrC]))) | (refine guardD_intro ?_ ?_ <;> (intro hd; have hc := hd; (try simp at hc) <;> (try simp -implicitDefEqProofs [-loopQ_n, hd, hc, q, hf, vrC]))) | (refine ldD_ep ?_ ?_; (focus kernel_rfl); (try simp -implicitDefEqProofs [-loopQ_n, q, hf, vrC])) | (refine callS_mk ?_; (try simp -implicitDefEqProofs [-loopQ_n, q, hf, vrC]); (first | refine callS_intro (hA) (.inr ⟨rfl, rfl⟩) ?_); (try simp -implicitDefEqProofs [-loopQ_n, q, hf, vrC])))))
    refine loop_next (i + 1, addV ac k acc) ⟨by simp only; omega, bnd_add hb (by omega) (by omega) (by omega), hR⟩ (by simp only; omega) (weak_of 0 0 rfl rfl ?_ ?_) <;> simp [w1, vr_refs]
  · rw [List.drop_eq_nil_of_le (by omega), List.foldl_nil] at hR
    subst hR
    ((try simp -implicitDefEqProofs [-loopQ_n, q]) <;> (repeat' (first | (refine condD_dec ?_ ?_ <;> (intro hc; (try simp -implicitDefEqProofs [-loopQ_n, hc, q]))) | (refine guardD_dec ?_ ?_ <;> (intro hc; (try simp -implicitDefEqProofs [-loopQ_n, hc, q]))) | (refine condD_intro ?_ ?_ <;> (intro hd; have hc := hd; (try simp at hc) <;> (try simp -implicitDefEqProofs [-loopQ_n, hd, hc, q]))) | (refine guardD_intro ?_ ?_ <;> (intro hd; have hc := hd; (try simp at hc) <;> (try simp -implicitDefEqProofs [-loopQ_n, hd, hc, q]))) | (refine ldD_ep ?_ ?_; (focus kernel_rfl); (try simp -implicitDefEqProofs [-loopQ_n, q])) | (refine callS_mk ?_; (try simp -implicitDefEqProofs [-loopQ_n, q]); (first | refine callS_intro (hSv) (.inl rfl) ?_); (try simp -implicitDefEqProofs [-loopQ_n, q])))))
theorem both (x0 : AV) (s0 : argS Try.prog 24 x0) (x1 : AV) (s1 : argS Try.prog 27 x1) : Pure Try.prog 7 [x0, x1] (.bool true) := by
  obtain ⟨l, rfl, ll, hd⟩ := log_dec2 s0
  obtain ⟨s, rfl, ls⟩ := arg_strs s1
  have fx := few_pure s ls
  by_cases hS : smallB l = true
  rotate_left
  · skip
    refine pure_of mixed Try.func7 rfl (by kernel_rfl) (of_decide_eq_true rfl) (by kernel_rfl) (vc_run ?_)
    have hS : smallB l = false := by simpa using hS
    ((try simp -implicitDefEqProofs [-loopQ_n, hS]) <;> (repeat' (first | (refine condD_dec ?_ ?_ <;> (intro hc; (try simp -implicitDefEqProofs [-loopQ_n, hc, hS]))) | (refine guardD_dec ?_ ?_ <;> (intro hc; (try simp -implicitDefEqProofs [-loopQ_n, hc, hS]))) | (refine condD_intro ?_ ?_ <;> (intro hd; have hc := hd; (try simp at hc) <;> (try simp -implicitDefEqProofs [-loopQ_n, hd, hc, hS]))) | (refine guardD_intro ?_ ?_ <;> (intro hd; have hc := hd; (try simp at hc) <;> (try simp -implicitDefEqProofs [-loopQ_n, hd, hc, hS]))) | (refine ldD_ep ?_ ?_; (focus kernel_rfl); (try simp -implicitDefEqProofs [-loopQ_n, hS])) | (refine callS_mk ?_; (try simp -implicitDefEqProofs [-loopQ_n, hS]); (first | refine callS_intro (awake_pure) (.inl rfl) ?_ | refine callS_intro (small_pure l ll hd) (.inl rfl) ?_); (try simp -implicitDefEqProofs [-loopQ_n, hS])))))
  by_cases hF : fewB s = true
  rotate_left
  · have hF : fewB s = false := by simpa using hF
    refine pure_of mixed Try.func7 rfl (by kernel_rfl) (of_decide_eq_true rfl) (by kernel_rfl) (vc_run ?_)
    ((try simp -implicitDefEqProofs [-loopQ_n, hS, hF]) <;> (repeat' (first | (refine condD_dec ?_ ?_ <;> (intro hc; (try simp -implicitDefEqProofs [-loopQ_n, hc, hS, hF]))) | (refine guardD_dec ?_ ?_ <;> (intro hc; (try simp -implicitDefEqProofs [-loopQ_n, hc, hS, hF]))) | (refine condD_intro ?_ ?_ <;> (intro hd; have hc := hd; (try simp at hc) <;> (try simp -implicitDefEqProofs [-loopQ_n, hd, hc, hS, hF]))) | (refine guardD_intro ?_ ?_ <;> (intro hd; have hc := hd; (try simp at hc) <;> (try simp -implicitDefEqProofs [-loopQ_n, hd, hc, hS, hF]))) | (refine ldD_ep ?_ ?_; (focus kernel_rfl); (try simp -implicitDefEqProofs [-loopQ_n, hS, hF])) | (refine callS_mk ?_; (try simp -implicitDefEqProofs [-loopQ_n, hS, hF]); (first | refine callS_intro (awake_pure) (.inl rfl) ?_ | refine callS_intro (small_pure l ll hd) (.inl rfl) ?_ | refine callS_intro (fx) (.inl rfl) ?_); (try simp -implicitDefEqProofs [-loopQ_n, hS, hF])))))
  by_cases hV : logV l = true
  · exact main l s ll hd ls hS hF hV
  · have hV : logV l = false := by simpa using hV
    obtain ⟨hl40, hpl⟩ := small_spec hS
    have hsz : ∀ e ∈ l, e.case_.size ≤ maxLen := fun e he => by have := plain_case (hpl e he); rw [maxLen_eq]; omega
    have hCas := ecases_pure l (by omega) hsz
    rw [if_neg (by rw [hV]; simp)] at hCas
    have hVar := variants_bad l hV
    simp only [varO, rowsOf_nil] at hVar
    refine pure_of mixed Try.func7 rfl (by kernel_rfl) (of_decide_eq_true rfl) (by kernel_rfl) (vc_run ?_)
    ((try simp -implicitDefEqProofs [-loopQ_n, hS, hF, hV]) <;> (repeat' (first | (refine condD_dec ?_ ?_ <;> (intro hc; (try simp -implicitDefEqProofs [-loopQ_n, hc, hS, hF, hV]))) | (refine guardD_dec ?_ ?_ <;> (intro hc; (try simp -implicitDefEqProofs [-loopQ_n, hc, hS, hF, hV]))) | (refine condD_intro ?_ ?_ <;> (intro hd; have hc := hd; (try simp at hc) <;> (try simp -implicitDefEqProofs [-loopQ_n, hd, hc, hS, hF, hV]))) | (refine guardD_intro ?_ ?_ <;> (intro hd; have hc := hd; (try simp at hc) <;> (try simp -implicitDefEqProofs [-loopQ_n, hd, hc, hS, hF, hV]))) | (refine ldD_ep ?_ ?_; (focus kernel_rfl); (try simp -implicitDefEqProofs [-loopQ_n, hS, hF, hV])) | (refine callS_mk ?_; (try simp -implicitDefEqProofs [-loopQ_n, hS, hF, hV]); (first | refine callS_intro (awake_pure) (.inl rfl) ?_ | refine callS_intro (small_pure l ll hd) (.inl rfl) ?_ | refine callS_intro (fx) (.inl rfl) ?_ | refine callS_intro (hVar) (.inl rfl) ?_ | refine callS_intro (hCas) (.inl rfl) ?_ | refine callS_intro (log_pure l) (.inl rfl) ?_); (try simp -implicitDefEqProofs [-loopQ_n, hS, hF, hV])))))
theorem walk (W : World) (hvo : VarsOk W (fun _ => False)) (v0 : Value) (x0 : AV) (r0 : RO W (fun _ => False) x0 v0) (s0 : argS Try.prog 24 x0) (v1 : Value) (x1 : AV) (r1 : RO W (fun _ => False) x1 v1) (s1 : argS Try.prog 27 x1) :
    Calls Try.prog 7 #[v0, v1] W fun e w' => e = .returned (.bool true) ∧ Below W.heap.size W w' := by
  refine ((both x0 s0 x1 s1).2 W (fun _ => False) _ (fun _ h => h.elim) hvo rfl ?_).mono ?_
  · intro j x v hj hv
    match j with
    | 0 => simp at hj hv; subst hj hv; exact r0
    | 1 => simp at hj hv; subst hj hv; exact r1
    | j + 2 => simp at hj
  · rintro e w' ⟨v, rfl, hv, hb⟩
    rw [ro_tt hv]
    exact ⟨rfl, hb⟩
end
set_option maxRecDepth 100000 in
theorem lifted (os : Os) (started : os.Started) (H : Type) (enc : TypeId × Value → H) :
    ReturnsInHanded {} Try.checked os 7 .any (Rows.eventlogTotalsSpec.pre6 enc Try.prog Try.f7 Rows.eventlogTotalsRow.domain false) (Rows.eventlogTotalsSpec.post enc Try.prog Try.f7 false true false false) := by
  refine returnsInHanded_of_change (C := Try.checked) (@ownK ⟨fun _ => none⟩) started (by kernel_rfl) Try.func7
    (ChangeSpec.witness6 (enc := enc) (C := Try.checked) false ⟨#[], #[.agg #[.slice none 0 0], .slice none 0 0], []⟩ 8 (by kernel_rfl) (by kernel_rfl) (by kernel_rfl) (by kernel_rfl)) ?_
  intro W base args ds gs before hval0 hW hcnd _
  have hval : ∀ (j : Nat) t v, Try.f7.params[j]? = some t → args[j]? = some v → Value.okWide Try.prog W .any base t v := hval0
  have hW' := hW
  obtain ⟨p, q, hA0, hV, rfl, hfz, hnd⟩ := hW
  have hA : DataW.TrodAll enc Try.prog W 0 (fun _ => true) true Try.f7.params.toList args.toList ds p := hA0
  rw [Try.params7] at hA hval
  obtain ⟨v0, vs0, d0, ds0, p0, q0, hargs, rfl, rfl, h0, r0⟩ := trodAll_cons hA
  obtain ⟨v1, vs1, d1, ds1, p1, q1, rfl, rfl, rfl, h1, r1⟩ := trodAll_cons r0
  obtain ⟨rfl, rfl, rfl⟩ := trodAll_nil r1
  obtain rfl : args = #[v0, v1] := by cases args; simp_all
  obtain ⟨rfl, rfl⟩ := trodVars_none hV
  letI : Glob := ⟨fun _ => none⟩
  have k0 := h0
  have lt0 : ∀ x ∈ p0, x.block < W.heap.size := by obtain ⟨m, hm⟩ := k0; exact DataW.trod_lt m _ _ _ hm
  obtain ⟨x0, y0, s0⟩ := arg_open (P := Try.prog) (t := 24) (by kernel_rfl) (by kernel_rfl) (hval 0 24 v0 rfl rfl) h0
  have k1 := h1
  have lt1 : ∀ x ∈ p1, x.block < W.heap.size := by obtain ⟨m, hm⟩ := k1; exact DataW.trod_lt m _ _ _ hm
  obtain ⟨x1, y1, s1⟩ := arg_open (P := Try.prog) (t := 27) (by kernel_rfl) (by kernel_rfl) (hval 1 27 v1 rfl rfl) h1
  clear hA0 hval0
  refine (walk W (fun g row h => by cases h) v0 x0 y0 s0 v1 x1 y1 s1).mono fun e W' ⟨he, bel⟩ => ?_
  subst he
  exact ⟨_, rfl, _, _, _, [], _, [], hW', trodAll_mk1 (shut_bool Try.underlying4 _), (trodAll_cons_mk (Below.trod laidK (by kernel_rfl) (of_decide_eq_true (by kernel_rfl)) k0 bel lt0) (trodAll_cons_mk (Below.trod laidK (by kernel_rfl) (of_decide_eq_true (by kernel_rfl)) k1 bel lt1) trodAll_mk0)), rfl, bel.frame _, fun h => by cases h⟩

theorem over : Rows.eventlogTotalsRow.holds Try.pinned (OpenSpec.ofChange Rows.eventlogTotalsSpec) :=
  OpenClaim.holds_of_wide 7 Try.f7 rfl rfl rfl rfl rfl rfl rfl ⟨rfl, rfl, rfl, rfl, rfl⟩ rfl rfl rfl rfl rfl (by kernel_rfl) Try.func7 (by kernel_rfl)
    (of_decide_eq_true (by kernel_rfl)) (by unfold Func.isWrapper; first | (rw [if_pos (by decide +kernel)]; kernel_rfl) | (rw [if_neg (by decide +kernel)]; exact ⟨rfl, rfl⟩))
    (fun os started H enc _ => lifted os started H enc)

theorem proved : Rows.EventlogTotalsSaid := over
end Go.Proofs.Ytnldjmokemgaoaa.lawETotals
