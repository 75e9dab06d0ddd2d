/- The activities of variants; the same variants. -/
import Derived.Test.YtnldjmokemgaoaaEl5
namespace Go.Proofs.Ytnldjmokemgaoaa
set_option linter.unusedSimpArgs false
set_option linter.unusedVariables false
set_option linter.unnecessarySimpa false
set_option linter.unusedSectionVars false
open Go.RowKit
variable [Glob]
set_option maxRecDepth 100000
open Classical in
theorem rsamev_pure (a b : List Vr) (la : a.length ≤ 9223372036854775807) (lb : b.length ≤ 9223372036854775807) (ha : ∀ v ∈ a, v.acts.length ≤ 9223372036854775807) (hb : ∀ v ∈ b, v.acts.length ≤ 9223372036854775807) :
    Pure Try.prog 35 [.rs (rowsOf vrC a), .rs (rowsOf vrC b)] (.bool (decide (a = b))) := by
  refine pure_of mixed Try.func35 rfl (by kernel_rfl) (of_decide_eq_true rfl) (by kernel_rfl) (vc_run ?_)
  by_cases hl : a.length = b.length
  · ((try simp -implicitDefEqProofs [-loopQ_n, hl]) <;> (repeat' (first | (refine condD_dec ?_ ?_ <;> (intro hc; (try simp -implicitDefEqProofs [-loopQ_n, hc, hl]))) | (refine guardD_dec ?_ ?_ <;> (intro hc; (try simp -implicitDefEqProofs [-loopQ_n, hc, hl]))) | (refine condD_intro ?_ ?_ <;> (intro hd; have hc := hd; (try simp at hc) <;> (try simp -implicitDefEqProofs [-loopQ_n, hd, hc, hl]))) | (refine guardD_intro ?_ ?_ <;> (intro hd; have hc := hd; (try simp at hc) <;> (try simp -implicitDefEqProofs [-loopQ_n, hd, hc, hl]))) | (refine ldD_ep ?_ ?_; (focus kernel_rfl); (try simp -implicitDefEqProofs [-loopQ_n, hl])))))
    refine loop_intro (σ := Nat) (fun i => ⟨[(0, .rs (rowsOf vrC a)), (1, .rs (rowsOf vrC b)), (5, .int .i64 i)], []⟩) (fun i => i ≤ b.length ∧ (a = b ↔ a.drop i = b.drop i)) (fun i => b.length - i) 0 ⟨by omega, by simp⟩ ?_ ?_
    · refine weak_of 0 0 rfl rfl ?_ ?_ <;> simp
    rintro i ⟨hi, hR⟩
    by_cases h : i < b.length
    · have w1 := sw_suc h (by omega)
      have g : i < a.length := by omega
      have hda := ha a[i] (List.getElem_mem g)
      have hdb := hb b[i] (List.getElem_mem h)
      rw [List.drop_eq_getElem_cons g, List.drop_eq_getElem_cons h, List.cons.injEq] at hR
      obtain ⟨⟨x1, n1⟩, e1⟩ : ∃ e, a[i] = e := ⟨_, rfl⟩
      obtain ⟨⟨x2, n2⟩, e2⟩ : ∃ e, b[i] = e := ⟨_, rfl⟩
      rw [e1, e2] at hR
      rw [e1] at hda
      rw [e2] at hdb
      have hS := rsame_pure x1 x2 hda hdb
      by_cases en : n1 = n2
      · subst en
        by_cases ex : x1 = x2
        · subst ex
          rw [decide_eq_true rfl] at hS
          ((try simp -implicitDefEqProofs [-loopQ_n, h, g, w1, hl, vrC, e1, e2]) <;> (repeat' (first | (refine condD_dec ?_ ?_ <;> (intro hc; (try simp -implicitDefEqProofs [-loopQ_n, hc, h, g, w1, hl, vrC, e1, e2]))) | (refine guardD_dec ?_ ?_ <;> (intro hc; (try simp -implicitDefEqProofs [-loopQ_n, hc, h, g, w1, hl, vrC, e1, e2]))) | (refine condD_intro ?_ ?_ <;> (intro hd; have hc := hd; (try simp at hc) <;> (try simp -implicitDefEqProofs [-loopQ_n, hd, hc, h, g, w1, hl, vrC, e1, e2]))) | (refine guardD_intro ?_ ?_ <;> (intro hd; have hc := hd; (try simp at hc) <;> (try simp -implicitDefEqProofs [-loopQ_n, hd, hc, h, g, w1, hl, vrC, e1, e2]))) | (refine ldD_ep ?_ ?_; (focus kernel_rfl); (try simp -implicitDefEqProofs [-loopQ_n, h, g, w1, hl, vrC, e1, e2])) | (refine callS_mk ?_; (try simp -implicitDefEqProofs [-loopQ_n, h, g, w1, hl, vrC, e1, e2]); (first | refine callS_intro (hS) (.inl rfl) ?_); (try simp -implicitDefEqProofs [-loopQ_n, h, g, w1, hl, vrC, e1, e2])))))
          refine loop_next (i + 1) ⟨h, by rw [hR]; simp⟩ (by omega) (weak_of 0 0 rfl rfl ?_ ?_) <;> simp
        · have hne : ¬ a = b := by rw [hR, Vr.mk.injEq]; exact fun q => ex q.1.1
          rw [decide_eq_false ex] at hS
          ((try simp -implicitDefEqProofs [-loopQ_n, h, g, w1, hl, vrC, e1, e2]) <;> (repeat' (first | (refine condD_dec ?_ ?_ <;> (intro hc; (try simp -implicitDefEqProofs [-loopQ_n, hc, h, g, w1, hl, vrC, e1, e2]))) | (refine guardD_dec ?_ ?_ <;> (intro hc; (try simp -implicitDefEqProofs [-loopQ_n, hc, h, g, w1, hl, vrC, e1, e2]))) | (refine condD_intro ?_ ?_ <;> (intro hd; have hc := hd; (try simp at hc) <;> (try simp -implicitDefEqProofs [-loopQ_n, hd, hc, h, g, w1, hl, vrC, e1, e2]))) | (refine guardD_intro ?_ ?_ <;> (intro hd; have hc := hd; (try simp at hc) <;> (try simp -implicitDefEqProofs [-loopQ_n, hd, hc, h, g, w1, hl, vrC, e1, e2]))) | (refine ldD_ep ?_ ?_; (focus kernel_rfl); (try simp -implicitDefEqProofs [-loopQ_n, h, g, w1, hl, vrC, e1, e2])) | (refine callS_mk ?_; (try simp -implicitDefEqProofs [-loopQ_n, h, g, w1, hl, vrC, e1, e2]); (first | refine callS_intro (hS) (.inl rfl) ?_); (try simp -implicitDefEqProofs [-loopQ_n, h, g, w1, hl, vrC, e1, e2])))))
          simp [hne]
      · have hne : ¬ a = b := by rw [hR, Vr.mk.injEq]; exact fun q => en q.1.2
        ((try simp -implicitDefEqProofs [-loopQ_n, h, g, w1, hl, vrC, e1, e2, en]) <;> (repeat' (first | (refine condD_dec ?_ ?_ <;> (intro hc; (try simp -implicitDefEqProofs [-loopQ_n, hc, h, g, w1, hl, vrC, e1, e2, en]))) | (refine guardD_dec ?_ ?_ <;> (intro hc; (try simp -implicitDefEqProofs [-loopQ_n, hc, h, g, w1, hl, vrC, e1, e2, en]))) | (refine condD_intro ?_ ?_ <;> (intro hd; have hc := hd; (try simp at hc) <;> (try simp -implicitDefEqProofs [-loopQ_n, hd, hc, h, g, w1, hl, vrC, e1, e2, en]))) | (refine guardD_intro ?_ ?_ <;> (intro hd; have hc := hd; (try simp at hc) <;> (try simp -implicitDefEqProofs [-loopQ_n, hd, hc, h, g, w1, hl, vrC, e1, e2, en]))) | (refine ldD_ep ?_ ?_; (focus kernel_rfl); (try simp -implicitDefEqProofs [-loopQ_n, h, g, w1, hl, vrC, e1, e2, en])) | (refine callS_mk ?_; (try simp -implicitDefEqProofs [-loopQ_n, h, g, w1, hl, vrC, e1, e2, en]); (first | refine callS_intro (hS) (.inl rfl) ?_); (try simp -implicitDefEqProofs [-loopQ_n, h, g, w1, hl, vrC, e1, e2, en])))))
        simp [hne]
    · rw [List.drop_eq_nil_of_le (by omega), List.drop_eq_nil_of_le (by omega)] at hR
      have he : a = b := hR.2 rfl
      ((try simp -implicitDefEqProofs [-loopQ_n, h, hl]) <;> (repeat' (first | (refine condD_dec ?_ ?_ <;> (intro hc; (try simp -implicitDefEqProofs [-loopQ_n, hc, h, hl]))) | (refine guardD_dec ?_ ?_ <;> (intro hc; (try simp -implicitDefEqProofs [-loopQ_n, hc, h, hl]))) | (refine condD_intro ?_ ?_ <;> (intro hd; have hc := hd; (try simp at hc) <;> (try simp -implicitDefEqProofs [-loopQ_n, hd, hc, h, hl]))) | (refine guardD_intro ?_ ?_ <;> (intro hd; have hc := hd; (try simp at hc) <;> (try simp -implicitDefEqProofs [-loopQ_n, hd, hc, h, hl]))) | (refine ldD_ep ?_ ?_; (focus kernel_rfl); (try simp -implicitDefEqProofs [-loopQ_n, h, hl])))))
      simp [he]
  · have hl' : ¬ (a.length : Int) = b.length := by omega
    have hne : ¬ a = b := fun e => hl (by rw [e])
    ((try simp -implicitDefEqProofs [-loopQ_n, hl']) <;> (repeat' (first | (refine condD_dec ?_ ?_ <;> (intro hc; (try simp -implicitDefEqProofs [-loopQ_n, hc, hl']))) | (refine guardD_dec ?_ ?_ <;> (intro hc; (try simp -implicitDefEqProofs [-loopQ_n, hc, hl']))) | (refine condD_intro ?_ ?_ <;> (intro hd; have hc := hd; (try simp at hc) <;> (try simp -implicitDefEqProofs [-loopQ_n, hd, hc, hl']))) | (refine guardD_intro ?_ ?_ <;> (intro hd; have hc := hd; (try simp at hc) <;> (try simp -implicitDefEqProofs [-loopQ_n, hd, hc, hl']))) | (refine ldD_ep ?_ ?_; (focus kernel_rfl); (try simp -implicitDefEqProofs [-loopQ_n, hl'])))))
    simp [hne]
/-! Activities. -/
def actsL (l : List Vr) : List ByteArray := setB (l.flatMap (·.acts))
def actO (l : List Vr) : AV := if vlV l = true then (if 40 < (actsL l).length then .tup [.rs [], .int .i64 5] else .tup [.rs (rowsOf strC (actsL l)), .int .i64 0]) else .tup [.rs [], .int .i64 1]
theorem vFrom_ok : ∀ {l : List Vr} {p : Option Vr}, vFrom p l = true → ∀ v ∈ l, vOk v = true := by
  intro l
  induction l with
  | nil => intro p _ v hv; cases hv
  | cons u r ih =>
    intro p h v hv
    have h2 : vOk u = true ∧ vFrom (some u) r = true := by
      cases p <;> simp only [vFrom, Bool.and_eq_true] at h
      · exact h
      · exact ⟨h.1.1, h.2⟩
    rcases List.mem_cons.1 hv with rfl | hv
    · exact h2.1
    · exact ih h2.2 v hv
theorem vlV_ok {l : List Vr} (h : vlV l = true) : l.length ≤ 300 ∧ ∀ v ∈ l, vOk v = true := by
  simp only [vlV, Bool.and_eq_true, decide_eq_true_eq] at h
  exact ⟨h.1, vFrom_ok h.2⟩
theorem vOk_len {v : Vr} (h : vOk v = true) : v.acts.length ≤ 200 := by
  simp only [vOk, Bool.and_eq_true, decide_eq_true_eq] at h
  exact h.1.1.1
def kOk (es : List (ByteArray × Bool)) (s : List ByteArray) : Prop := (es.map (·.1)).Nodup ∧ ∀ k, k ∈ es.map (·.1) ↔ k ∈ s
theorem kOk_put {es : List (ByteArray × Bool)} {s : List ByteArray} (h : kOk es s) (c : ByteArray) : kOk (aput es c true) (s ++ [c]) := by
  refine ⟨?_, fun k => ?_⟩
  · rw [aput_keys]
    split
    · exact h.1
    · rename_i q
      exact List.nodup_append.2 ⟨h.1, by simp, fun a ha b hb => by simp at hb; subst hb; exact fun e => q (e ▸ ha)⟩
  · rw [aput_keys, List.mem_append, List.mem_singleton, ← h.2]
    split
    · rename_i q
      exact ⟨.inl, fun g => g.elim id fun g => by subst g; exact q⟩
    · rw [List.mem_append, List.mem_singleton]
theorem setB_nodup {ks : List ByteArray} (h : ks.Nodup) : (setB ks).length = ks.length := by
  have := congrArg List.length (keys_set (List.Perm.refl (ks.map (·.data.toList))) h)
  simpa using this.symm
theorem mp_keys (es : List (ByteArray × Bool)) (c : ByteArray) : mput (mE sK bV es) ((afind c es 0).map fun e => (e.1, bV e.2)) (.str c) (.bool true) = mE sK bV (aput es c true) := mp_s (vc := bV) c true es
set_option maxHeartbeats 8000000 in
theorem eacts_pure (l : List Vr) (hd : ∀ v ∈ l, v.acts.length ≤ 9223372036854775807) (hsz : ∀ v ∈ l, ∀ s ∈ v.acts, s.size ≤ maxLen) : Pure Try.prog 26 [.rs (rowsOf vrC l)] (actO l) := by
  refine pure_of mixed Try.func26 rfl (by kernel_rfl) (of_decide_eq_true rfl) (by kernel_rfl) (vc_run ?_)
  by_cases hV : vlV l = true
  rotate_left
  · rw [actO, if_neg hV]
    have hV : vlV l = false := by simpa using hV
    ((try simp -implicitDefEqProofs [-loopQ_n, hV, rowsOf_nil]) <;> (repeat' (first | (refine condD_dec ?_ ?_ <;> (intro hc; (try simp -implicitDefEqProofs [-loopQ_n, hc, hV, rowsOf_nil]))) | (refine guardD_dec ?_ ?_ <;> (intro hc; (try simp -implicitDefEqProofs [-loopQ_n, hc, hV, rowsOf_nil]))) | (refine condD_intro ?_ ?_ <;> (intro hd; have hc := hd; (try simp at hc) <;> (try simp -implicitDefEqProofs [-loopQ_n, hd, hc, hV, rowsOf_nil]))) | (refine guardD_intro ?_ ?_ <;> (intro hd; have hc := hd; (try simp at hc) <;> (try simp -implicitDefEqProofs [-loopQ_n, hd, hc, hV, rowsOf_nil]))) | (refine ldD_ep ?_ ?_; (focus kernel_rfl); (try simp -implicitDefEqProofs [-loopQ_n, hV, rowsOf_nil])) | (refine callS_mk ?_; (try simp -implicitDefEqProofs [-loopQ_n, hV, rowsOf_nil]); (first | refine callS_intro (evv_pure l hd) (.inl rfl) ?_); (try simp -implicitDefEqProofs [-loopQ_n, hV, rowsOf_nil])))))
  rw [actO, if_pos hV]
  obtain ⟨hl, hok⟩ := vlV_ok hV
  ((try simp -implicitDefEqProofs [-loopQ_n, hV]) <;> (repeat' (first | (refine condD_dec ?_ ?_ <;> (intro hc; (try simp -implicitDefEqProofs [-loopQ_n, hc, hV]))) | (refine guardD_dec ?_ ?_ <;> (intro hc; (try simp -implicitDefEqProofs [-loopQ_n, hc, hV]))) | (refine condD_intro ?_ ?_ <;> (intro hd; have hc := hd; (try simp at hc) <;> (try simp -implicitDefEqProofs [-loopQ_n, hd, hc, hV]))) | (refine guardD_intro ?_ ?_ <;> (intro hd; have hc := hd; (try simp at hc) <;> (try simp -implicitDefEqProofs [-loopQ_n, hd, hc, hV]))) | (refine ldD_ep ?_ ?_; (focus kernel_rfl); (try simp -implicitDefEqProofs [-loopQ_n, hV])) | (refine callS_mk ?_; (try simp -implicitDefEqProofs [-loopQ_n, hV]); (first | refine callS_intro (evv_pure l hd) (.inl rfl) ?_); (try simp -implicitDefEqProofs [-loopQ_n, hV])))))
  refine loop_intro (σ := Nat × List (ByteArray × Bool)) (fun x => ⟨[(4, .mp 0), (13, .rs (rowsOf vrC l)), (14, .int .i64 l.length), (15, .int .i64 x.1)], [.map (mE sK bV x.2)]⟩)
    (fun x => x.1 ≤ l.length ∧ x.2.length ≤ x.1 * 200 ∧ kOk x.2 ((l.take x.1).flatMap (·.acts))) (fun x => l.length - x.1) (0, []) ⟨by simp, by simp, by simp [kOk]⟩ ?_ ?_
  · refine weak_of 1 0 rfl rfl ?_ ?_ <;> simp [mE, refsM]
  rintro ⟨i, es⟩ ⟨hi, hln, hk⟩
  simp only at hi hln hk
  by_cases h : i < l.length
  · have w1 : wrapI .i64 ((i : Int) + 1) = (i : Int) + 1 := wrap_in (by omega) (by omega)
    have hkn : (l.take (i + 1)).flatMap (·.acts) = (l.take i).flatMap (·.acts) ++ l[i].acts := by rw [List.take_succ_eq_append_getElem h, List.flatMap_append]; simp only [List.flatMap_cons, List.flatMap_nil, List.append_nil]
    have hac := vOk_len (hok _ (List.getElem_mem h))
    obtain ⟨⟨ac, n⟩, hf⟩ : ∃ e, l[i] = e := ⟨_, rfl⟩
    rw [hf] at hkn hac
    simp only at hkn hac
    generalize hpre : (l.take i).flatMap (·.acts) = pre at hk hkn
    ((try simp -implicitDefEqProofs [-loopQ_n, h, hf, vrC]) <;> (repeat' (first | (refine condD_dec ?_ ?_ <;> (intro hc; (try simp -implicitDefEqProofs [-loopQ_n, hc, h, hf, vrC]))) | (refine guardD_dec ?_ ?_ <;> (intro hc; (try simp -implicitDefEqProofs [-loopQ_n, hc, h, hf, vrC]))) | (refine condD_intro ?_ ?_ <;> (intro hd; have hc := hd; (try simp at hc) <;> (try simp -implicitDefEqProofs [-loopQ_n, hd, hc, h, hf, vrC]))) | (refine guardD_intro ?_ ?_ <;> (intro hd; have hc := hd; (try simp at hc) <;> (try simp -implicitDefEqProofs [-loopQ_n, hd, hc, h, hf, vrC]))) | (refine ldD_ep ?_ ?_; (focus kernel_rfl); (try simp -implicitDefEqProofs [-loopQ_n, h, hf, vrC])))))
    refine loop_intro (σ := Nat × List (ByteArray × Bool)) (fun x => ⟨[(4, .mp 0), (13, .rs (rowsOf vrC l)), (14, .int .i64 l.length), (15, .int .i64 i), (20, .rs (rowsOf strC ac)), (21, .int .i64 ac.length), (22, .int .i64 x.1)], [.map (mE sK bV x.2)]⟩)
      (fun x => x.1 ≤ ac.length ∧ x.2.length ≤ i * 200 + x.1 ∧ kOk x.2 (pre ++ ac.take x.1)) (fun x => ac.length - x.1) (0, es) ⟨by simp, by simpa using hln, by simpa using hk⟩ ?_ ?_
    · refine weak_of 1 0 rfl rfl ?_ ⟨⟨rfl, mE_refs (fun x => by simp [sK, refs]) fun x => by simp [bV, refs]⟩, trivial⟩
      simp
    rintro ⟨j, es2⟩ ⟨hj, hln2, hk2⟩
    simp only at hj hln2 hk2
    by_cases g : j < ac.length
    · have w2 : wrapI .i64 ((j : Int) + 1) = (j : Int) + 1 := wrap_in (by omega) (by omega)
      have hmp := mp_keys es2 ac[j]
      have hk3 := kOk_put hk2 ac[j]
      rw [List.append_assoc, ← List.take_succ_eq_append_getElem g] at hk3
      ((try simp -implicitDefEqProofs [-loopQ_n, g, mf_s, strC, hmp]) <;> (repeat' (first | (refine condD_dec ?_ ?_ <;> (intro hc; (try simp -implicitDefEqProofs [-loopQ_n, hc, g, mf_s, strC, hmp]))) | (refine guardD_dec ?_ ?_ <;> (intro hc; (try simp -implicitDefEqProofs [-loopQ_n, hc, g, mf_s, strC, hmp]))) | (refine condD_intro ?_ ?_ <;> (intro hd; have hc := hd; (try simp at hc) <;> (try simp -implicitDefEqProofs [-loopQ_n, hd, hc, g, mf_s, strC, hmp]))) | (refine guardD_intro ?_ ?_ <;> (intro hd; have hc := hd; (try simp at hc) <;> (try simp -implicitDefEqProofs [-loopQ_n, hd, hc, g, mf_s, strC, hmp]))) | (refine ldD_ep ?_ ?_; (focus kernel_rfl); (try simp -implicitDefEqProofs [-loopQ_n, g, mf_s, strC, hmp])))))
      refine loop_next (j + 1, aput es2 ac[j] true) ⟨by simp only; omega, by have := aput_len_le es2 ac[j] true; simp only; omega, hk3⟩ (by simp only; omega) (weak_of 1 0 rfl rfl (by simp [w2]) ⟨⟨hmp.symm, ?_⟩, trivial⟩)
      show refsM 1 (mput (mE sK bV es2) ((afind ac[j] es2 0).map fun e => (e.1, bV e.2)) (.str ac[j]) (.bool true)) = true
      rw [hmp]
      exact mE_refs (fun x => by simp [sK, refs]) fun x => by simp [bV, refs]
    · have hin : j = ac.length := by omega
      subst hin
      rw [List.take_length] at hk2
      ((try simp -implicitDefEqProofs [-loopQ_n, g]) <;> (repeat' (first | (refine condD_dec ?_ ?_ <;> (intro hc; (try simp -implicitDefEqProofs [-loopQ_n, hc, g]))) | (refine guardD_dec ?_ ?_ <;> (intro hc; (try simp -implicitDefEqProofs [-loopQ_n, hc, g]))) | (refine condD_intro ?_ ?_ <;> (intro hd; have hc := hd; (try simp at hc) <;> (try simp -implicitDefEqProofs [-loopQ_n, hd, hc, g]))) | (refine guardD_intro ?_ ?_ <;> (intro hd; have hc := hd; (try simp at hc) <;> (try simp -implicitDefEqProofs [-loopQ_n, hd, hc, g]))) | (refine ldD_ep ?_ ?_; (focus kernel_rfl); (try simp -implicitDefEqProofs [-loopQ_n, g])))))
      refine loop_next (i + 1, es2) ⟨by simp only; omega, by simp only; omega, by simp only; rw [hkn]; exact hk2⟩ (by simp only; omega) (weak_of 1 0 rfl rfl (by simp [w1]) ⟨⟨rfl, mE_refs (fun x => by simp [sK, refs]) fun x => by simp [bV, refs]⟩, trivial⟩)
  · have hin : i = l.length := by omega
    subst hin
    rw [List.take_length] at hk
    have hA : setB (es.map (·.1)) = actsL l := setB_eq hk.2
    have hlen : es.length = (actsL l).length := by rw [← hA, setB_nodup hk.1]; simp
    by_cases h40 : 40 < (actsL l).length
    · have h40' : (40 : Int) < ((actsL l).length : Int) := by omega
      rw [if_pos h40]
      ((try simp -implicitDefEqProofs [-loopQ_n, h, mE_len, hlen, h40', rowsOf_nil]) <;> (repeat' (first | (refine condD_dec ?_ ?_ <;> (intro hc; (try simp -implicitDefEqProofs [-loopQ_n, hc, h, mE_len, hlen, h40', rowsOf_nil]))) | (refine guardD_dec ?_ ?_ <;> (intro hc; (try simp -implicitDefEqProofs [-loopQ_n, hc, h, mE_len, hlen, h40', rowsOf_nil]))) | (refine condD_intro ?_ ?_ <;> (intro hd; have hc := hd; (try simp at hc) <;> (try simp -implicitDefEqProofs [-loopQ_n, hd, hc, h, mE_len, hlen, h40', rowsOf_nil]))) | (refine guardD_intro ?_ ?_ <;> (intro hd; have hc := hd; (try simp at hc) <;> (try simp -implicitDefEqProofs [-loopQ_n, hd, hc, h, mE_len, hlen, h40', rowsOf_nil]))) | (refine ldD_ep ?_ ?_; (focus kernel_rfl); (try simp -implicitDefEqProofs [-loopQ_n, h, mE_len, hlen, h40', rowsOf_nil])))))
    · have h40' : ¬ (40 : Int) < ((actsL l).length : Int) := by omega
      rw [if_neg h40]
      ((try simp -implicitDefEqProofs [-loopQ_n, h, mE_len, hlen, h40']) <;> (repeat' (first | (refine condD_dec ?_ ?_ <;> (intro hc; (try simp -implicitDefEqProofs [-loopQ_n, hc, h, mE_len, hlen, h40']))) | (refine guardD_dec ?_ ?_ <;> (intro hc; (try simp -implicitDefEqProofs [-loopQ_n, hc, h, mE_len, hlen, h40']))) | (refine condD_intro ?_ ?_ <;> (intro hd; have hc := hd; (try simp at hc) <;> (try simp -implicitDefEqProofs [-loopQ_n, hd, hc, h, mE_len, hlen, h40']))) | (refine guardD_intro ?_ ?_ <;> (intro hd; have hc := hd; (try simp at hc) <;> (try simp -implicitDefEqProofs [-loopQ_n, hd, hc, h, mE_len, hlen, h40']))) | (refine ldD_ep ?_ ?_; (focus kernel_rfl); (try simp -implicitDefEqProofs [-loopQ_n, h, mE_len, hlen, h40'])))))
      refine inl_intro mixed Try.func57 rfl (by kernel_rfl) (of_decide_eq_true rfl) (by kernel_rfl) ?_
      ((try simp -implicitDefEqProofs [-loopQ_n]) <;> (repeat' (first | (refine condD_dec ?_ ?_ <;> (intro hc; (try simp -implicitDefEqProofs [-loopQ_n, hc]))) | (refine guardD_dec ?_ ?_ <;> (intro hc; (try simp -implicitDefEqProofs [-loopQ_n, hc]))) | (refine condD_intro ?_ ?_ <;> (intro hd; have hc := hd; (try simp at hc) <;> (try simp -implicitDefEqProofs [-loopQ_n, hd, hc]))) | (refine guardD_intro ?_ ?_ <;> (intro hd; have hc := hd; (try simp at hc) <;> (try simp -implicitDefEqProofs [-loopQ_n, hd, hc]))) | (refine ldD_ep ?_ ?_; (focus kernel_rfl); (try simp -implicitDefEqProofs [-loopQ_n])))))
      refine endG_r (.fn 81 [.op 1 0]) rfl ?_
      simp -implicitDefEqProofs [contK]
      refine callG_intro (keys_G (b := 1) (m := 0) (ks := es.map (·.1)) rfl rfl mE_keys hk.1 (fun k hkk => ?_) (by simp; omega) ?_)
      · obtain ⟨v, hv, hs⟩ := List.mem_flatMap.1 ((hk.2 k).1 hkk)
        exact hsz v hv k hs
      ((try simp -implicitDefEqProofs [-loopQ_n, hA]) <;> (repeat' (first | (refine condD_dec ?_ ?_ <;> (intro hc; (try simp -implicitDefEqProofs [-loopQ_n, hc, hA]))) | (refine guardD_dec ?_ ?_ <;> (intro hc; (try simp -implicitDefEqProofs [-loopQ_n, hc, hA]))) | (refine condD_intro ?_ ?_ <;> (intro hd; have hc := hd; (try simp at hc) <;> (try simp -implicitDefEqProofs [-loopQ_n, hd, hc, hA]))) | (refine guardD_intro ?_ ?_ <;> (intro hd; have hc := hd; (try simp at hc) <;> (try simp -implicitDefEqProofs [-loopQ_n, hd, hc, hA]))) | (refine ldD_ep ?_ ?_; (focus kernel_rfl); (try simp -implicitDefEqProofs [-loopQ_n, hA])))))
end Go.Proofs.Ytnldjmokemgaoaa
