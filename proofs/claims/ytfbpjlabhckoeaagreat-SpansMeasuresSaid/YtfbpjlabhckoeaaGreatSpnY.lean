/- Busy (program). -/
import Derived.Test.YtfbpjlabhckoeaaGreatSpnC
namespace Go.Proofs.YtfbpjlabhckoeaaGreat
set_option linter.unusedSimpArgs false
set_option linter.unusedVariables false
set_option linter.unnecessarySimpa false
set_option linter.unusedSectionVars false
open Go.RowKit
variable [Glob]
set_option maxRecDepth 100000
def eqR (a b : ByteArray) : Bool := decide (a.toList = b.toList)
def ofRes (res : ByteArray) (l : List Ins) : List Ins := l.filter fun x => eqR x.res res
def busyR (l : List Ins) (res : ByteArray) : Int × Int := if insL l = true then (totL (unionL (activeL (ofRes res l))), 0) else (0, 1)
theorem busy1_pure (x : Ins) (res : ByteArray) : Pure Tryz.prog 32 [.agg (insC x), .rp [.str res]] (.bool (!eqR x.res res)) := by
  obtain ⟨c, a, r, t1, t2, t3⟩ := x
  refine pure_of mixed Tryz.func32 rfl (by kernel_rfl) (of_decide_eq_true rfl) (by kernel_rfl) (vc_run ?_)
  ((try simp -implicitDefEqProofs [-loopQ_n, insC]) <;> (repeat' (first | (refine condD_dec ?_ ?_ <;> (intro hc; (try simp -implicitDefEqProofs [-loopQ_n, hc, insC]))) | (refine guardD_dec ?_ ?_ <;> (intro hc; (try simp -implicitDefEqProofs [-loopQ_n, hc, insC]))) | (refine condD_intro ?_ ?_ <;> (intro hd; have hc := hd; (try simp at hc) <;> (try simp -implicitDefEqProofs [-loopQ_n, hd, hc, insC]))) | (refine guardD_intro ?_ ?_ <;> (intro hd; have hc := hd; (try simp at hc) <;> (try simp -implicitDefEqProofs [-loopQ_n, hd, hc, insC]))) | (refine ldD_ep ?_ ?_; (focus kernel_rfl); (try simp -implicitDefEqProofs [-loopQ_n, insC])))))
  all_goals simp [eqR, *]
theorem del_nn (l : List Ins) (res : ByteArray) : l.filter (fun x => !(!eqR x.res res)) = ofRes res l := by
  unfold ofRes
  congr 1
  funext x
  simp
/-- The sum of a union's lengths, from a place on. -/
theorem gap_drop {p : Int} {u : List Sp} (h : gapV p u = true) (k : Nat) : ∃ q, gapV q (u.drop k) = true := by
  induction k generalizing p u with
  | zero => exact ⟨p, by simpa using h⟩
  | succ k ih =>
    cases u with
    | nil => exact ⟨p, by simpa using h⟩
    | cons s r => rw [gapV_cons] at h; simpa using ih h.2.2
theorem ins_own {l : List Ins} : ∀ r ∈ rowsOf insC l, ∀ c ∈ r, owns c = false := rowsOf_owns' fun x c hc => by
  simp [insC] at hc
  rcases hc with rfl | rfl | rfl | rfl | rfl | rfl <;> rfl
def fnB : Nat := 32
set_option maxHeartbeats 16000000 in
theorem busy_pure (l : List Ins) (res : ByteArray) (hl : l.length ≤ 9223372036854775807) : Pure Tryz.prog 8 [.rs (rowsOf insC l), .str res] (.tup [.int .i64 (busyR l res).1, .int .i64 (busyR l res).2]) := by
  by_cases hV : insL l = true
  rotate_left
  · rw [busyR, if_neg hV]
    have hV : insL l = false := by simpa using hV
    refine pure_of mixed Tryz.func8 rfl (by kernel_rfl) (of_decide_eq_true rfl) (by kernel_rfl) (vc_run ?_)
    ((try simp -implicitDefEqProofs [-loopQ_n, hV]) <;> (repeat' (first | (refine condD_dec ?_ ?_ <;> (intro hc; (try simp -implicitDefEqProofs [-loopQ_n, hc, hV]))) | (refine guardD_dec ?_ ?_ <;> (intro hc; (try simp -implicitDefEqProofs [-loopQ_n, hc, hV]))) | (refine condD_intro ?_ ?_ <;> (intro hd; have hc := hd; (try simp at hc) <;> (try simp -implicitDefEqProofs [-loopQ_n, hd, hc, hV]))) | (refine guardD_intro ?_ ?_ <;> (intro hd; have hc := hd; (try simp at hc) <;> (try simp -implicitDefEqProofs [-loopQ_n, hd, hc, hV]))) | (refine ldD_ep ?_ ?_; (focus kernel_rfl); (try simp -implicitDefEqProofs [-loopQ_n, hV])) | (refine callS_mk ?_; (try simp -implicitDefEqProofs [-loopQ_n, hV]); (first | refine callS_intro (svalid_pure l hl) (.inl rfl) ?_); (try simp -implicitDefEqProofs [-loopQ_n, hV])))))
  rw [busyR, if_pos hV]
  obtain ⟨hl2, hm⟩ := insL_mem hV
  have hF : ∀ x ∈ ofRes res l, insV x = true := fun x hx => hm x (List.mem_filter.1 hx).1
  have hFl : (ofRes res l).length ≤ l.length := List.length_filter_le _ _
  have hA := active_pure (ofRes res l) (by omega)
  have hok := active_ok hF
  have hM := merged_pure (activeL (ofRes res l)) (fun s hs => by have := hok s hs; omega) (by have := activeL_len (l := ofRes res l); omega)
  have hg := (unionL_spec (l := activeL (ofRes res l)) fun s hs => by have := hok s hs; omega).1
  have hte : ∀ s ∈ unionL (activeL (ofRes res l)), s.t ≤ 1099511627776 := union_end _ _ (fun s hs => (hok s hs).2.2) (by simp)
  have hbd := totL_bd hg hte (by omega)
  have hul : (unionL (activeL (ofRes res l))).length ≤ 2000 := by have := unionL_len (l := activeL (ofRes res l)); have := activeL_len (l := ofRes res l); omega
  generalize activeL (ofRes res l) = A at hA hM hg hte hbd hul hok
  generalize unionL A = u at *
  obtain ⟨T, hT⟩ : ∃ T, totL u = T := ⟨_, rfl⟩
  rw [hT] at hbd
  simp only [hT]
  refine pure_of mixed Tryz.func8 rfl (by kernel_rfl) (of_decide_eq_true rfl) (by kernel_rfl) (vc_run ?_)
  have hD := delB_G (g := 32) (p := fun x => !eqR x.res res) res (fun x => busy1_pure x res)
  have hdn := del_nn l res
  ((try simp -implicitDefEqProofs [-loopQ_n, hV]) <;> (repeat' (first | (refine condD_dec ?_ ?_ <;> (intro hc; (try simp -implicitDefEqProofs [-loopQ_n, hc, hV]))) | (refine guardD_dec ?_ ?_ <;> (intro hc; (try simp -implicitDefEqProofs [-loopQ_n, hc, hV]))) | (refine condD_intro ?_ ?_ <;> (intro hd; have hc := hd; (try simp at hc) <;> (try simp -implicitDefEqProofs [-loopQ_n, hd, hc, hV]))) | (refine guardD_intro ?_ ?_ <;> (intro hd; have hc := hd; (try simp at hc) <;> (try simp -implicitDefEqProofs [-loopQ_n, hd, hc, hV]))) | (refine ldD_ep ?_ ?_; (focus kernel_rfl); (try simp -implicitDefEqProofs [-loopQ_n, hV])) | (refine callS_mk ?_; (try simp -implicitDefEqProofs [-loopQ_n, hV]); (first | refine callS_intro (svalid_pure l hl) (.inl rfl) ?_); (try simp -implicitDefEqProofs [-loopQ_n, hV])))))
  refine callG_intro (cloneIn_G l (by omega) fun nb => ?_)
  have hD := hD nb l hl2
  ((try simp -implicitDefEqProofs [-loopQ_n]) <;> (repeat' (first | (refine condD_dec ?_ ?_ <;> (intro hc; (try simp -implicitDefEqProofs [-loopQ_n, hc]))) | (refine guardD_dec ?_ ?_ <;> (intro hc; (try simp -implicitDefEqProofs [-loopQ_n, hc]))) | (refine condD_intro ?_ ?_ <;> (intro hd; have hc := hd; (try simp at hc) <;> (try simp -implicitDefEqProofs [-loopQ_n, hd, hc]))) | (refine guardD_intro ?_ ?_ <;> (intro hd; have hc := hd; (try simp at hc) <;> (try simp -implicitDefEqProofs [-loopQ_n, hd, hc]))) | (refine ldD_ep ?_ ?_; (focus kernel_rfl); (try simp -implicitDefEqProofs [-loopQ_n])))))
  refine callG_intro (hD.weaken ?_)
  clear hD
  rintro r H (⟨rfl, rfl, hf⟩ | ⟨F, hf, rfl, rfl⟩)
  · rw [hdn] at hf
    rw [hf] at hA
    ((try simp -implicitDefEqProofs [-loopQ_n]) <;> (repeat' (first | (refine condD_dec ?_ ?_ <;> (intro hc; (try simp -implicitDefEqProofs [-loopQ_n, hc]))) | (refine guardD_dec ?_ ?_ <;> (intro hc; (try simp -implicitDefEqProofs [-loopQ_n, hc]))) | (refine condD_intro ?_ ?_ <;> (intro hd; have hc := hd; (try simp at hc) <;> (try simp -implicitDefEqProofs [-loopQ_n, hd, hc]))) | (refine guardD_intro ?_ ?_ <;> (intro hd; have hc := hd; (try simp at hc) <;> (try simp -implicitDefEqProofs [-loopQ_n, hd, hc]))) | (refine ldD_ep ?_ ?_; (focus kernel_rfl); (try simp -implicitDefEqProofs [-loopQ_n])))))
    refine callG_intro (frz_G (id := 1) hA rfl ins_own ?_ rfl ?_)
    · simp [frL, frA]
    ((try simp -implicitDefEqProofs [-loopQ_n, frH, frB, frL, frA]) <;> (repeat' (first | (refine condD_dec ?_ ?_ <;> (intro hc; (try simp -implicitDefEqProofs [-loopQ_n, hc, frH, frB, frL, frA]))) | (refine guardD_dec ?_ ?_ <;> (intro hc; (try simp -implicitDefEqProofs [-loopQ_n, hc, frH, frB, frL, frA]))) | (refine condD_intro ?_ ?_ <;> (intro hd; have hc := hd; (try simp at hc) <;> (try simp -implicitDefEqProofs [-loopQ_n, hd, hc, frH, frB, frL, frA]))) | (refine guardD_intro ?_ ?_ <;> (intro hd; have hc := hd; (try simp at hc) <;> (try simp -implicitDefEqProofs [-loopQ_n, hd, hc, frH, frB, frL, frA]))) | (refine ldD_ep ?_ ?_; (focus kernel_rfl); (try simp -implicitDefEqProofs [-loopQ_n, frH, frB, frL, frA])) | (refine callS_mk ?_; (try simp -implicitDefEqProofs [-loopQ_n, frH, frB, frL, frA]); (first | refine callS_intro (hM) (.inr ⟨rfl, rfl⟩) ?_); (try simp -implicitDefEqProofs [-loopQ_n, frH, frB, frL, frA])))))
    refine loop_intro (σ := Nat × Int) (fun x => ⟨[(7, .int .i64 x.2), (19, .rs (rowsOf spC u)), (20, .int .i64 u.length), (21, .int .i64 x.1)], []⟩) (fun x => x.1 ≤ u.length ∧ 0 ≤ x.2 ∧ x.2 + totL (u.drop x.1) = T) (fun x => u.length - x.1) (0, 0) ⟨by simp, by simp, by simpa using hT⟩ ?_ ?_
    · refine weak_of 0 0 rfl rfl ?_ ?_ <;> simp [sp_refs]
    rintro ⟨i, n⟩ ⟨hi, hn, hR⟩
    simp only at hi hn hR
    by_cases h : i < u.length
    · have w1 := w_succ' h (by omega)
      obtain ⟨q, hgq⟩ := gap_drop hg i
      rw [List.drop_eq_getElem_cons h] at hR hgq
      have hm1 := hte u[i] (List.getElem_mem h)
      have hm2 := gapV_mem hg (List.getElem_mem h)
      obtain ⟨⟨f, t⟩, hf⟩ : ∃ e, u[i] = e := ⟨_, rfl⟩
      rw [hf] at hR hgq hm1 hm2
      rw [gapV_cons] at hgq
      have hnn := totL_nn hgq.2.2
      simp only [totL] at hR hm1 hm2
      have w2 : wrapI .i64 (t - f) = t - f := wrap_in (by omega) (by omega)
      have w3 : wrapI .i64 (n + (t - f)) = n + (t - f) := wrap_in (by omega) (by omega)
      ((try simp -implicitDefEqProofs [-loopQ_n, h, hf, spC, w1, w2, w3]) <;> (repeat' (first | (refine condD_dec ?_ ?_ <;> (intro hc; (try simp -implicitDefEqProofs [-loopQ_n, hc, h, hf, spC, w1, w2, w3]))) | (refine guardD_dec ?_ ?_ <;> (intro hc; (try simp -implicitDefEqProofs [-loopQ_n, hc, h, hf, spC, w1, w2, w3]))) | (refine condD_intro ?_ ?_ <;> (intro hd; have hc := hd; (try simp at hc) <;> (try simp -implicitDefEqProofs [-loopQ_n, hd, hc, h, hf, spC, w1, w2, w3]))) | (refine guardD_intro ?_ ?_ <;> (intro hd; have hc := hd; (try simp at hc) <;> (try simp -implicitDefEqProofs [-loopQ_n, hd, hc, h, hf, spC, w1, w2, w3]))) | (refine ldD_ep ?_ ?_; (focus kernel_rfl); (try simp -implicitDefEqProofs [-loopQ_n, h, hf, spC, w1, w2, w3])))))
      refine loop_next (i + 1, n + (t - f)) ⟨h, by simp only; omega, by simp only; omega⟩ (by simp only; omega) (weak_of 0 0 rfl rfl ?_ ?_) <;> simp [sp_refs]
    · rw [List.drop_eq_nil_of_le (by omega), totL] at hR
      have hnT : n = T := by omega
      subst hnT
      ((try simp -implicitDefEqProofs [-loopQ_n, h]) <;> (repeat' (first | (refine condD_dec ?_ ?_ <;> (intro hc; (try simp -implicitDefEqProofs [-loopQ_n, hc, h]))) | (refine guardD_dec ?_ ?_ <;> (intro hc; (try simp -implicitDefEqProofs [-loopQ_n, hc, h]))) | (refine condD_intro ?_ ?_ <;> (intro hd; have hc := hd; (try simp at hc) <;> (try simp -implicitDefEqProofs [-loopQ_n, hd, hc, h]))) | (refine guardD_intro ?_ ?_ <;> (intro hd; have hc := hd; (try simp at hc) <;> (try simp -implicitDefEqProofs [-loopQ_n, hd, hc, h]))) | (refine ldD_ep ?_ ?_; (focus kernel_rfl); (try simp -implicitDefEqProofs [-loopQ_n, h])))))
  · rw [hdn] at hf
    subst hf
    ((try simp -implicitDefEqProofs [-loopQ_n]) <;> (repeat' (first | (refine condD_dec ?_ ?_ <;> (intro hc; (try simp -implicitDefEqProofs [-loopQ_n, hc]))) | (refine guardD_dec ?_ ?_ <;> (intro hc; (try simp -implicitDefEqProofs [-loopQ_n, hc]))) | (refine condD_intro ?_ ?_ <;> (intro hd; have hc := hd; (try simp at hc) <;> (try simp -implicitDefEqProofs [-loopQ_n, hd, hc]))) | (refine guardD_intro ?_ ?_ <;> (intro hd; have hc := hd; (try simp at hc) <;> (try simp -implicitDefEqProofs [-loopQ_n, hd, hc]))) | (refine ldD_ep ?_ ?_; (focus kernel_rfl); (try simp -implicitDefEqProofs [-loopQ_n])))))
    refine callG_intro (frz_G (id := 2) hA rfl ins_own ?_ rfl ?_)
    · simp [frL, frA]
    ((try simp -implicitDefEqProofs [-loopQ_n, frH, frB, frL, frA]) <;> (repeat' (first | (refine condD_dec ?_ ?_ <;> (intro hc; (try simp -implicitDefEqProofs [-loopQ_n, hc, frH, frB, frL, frA]))) | (refine guardD_dec ?_ ?_ <;> (intro hc; (try simp -implicitDefEqProofs [-loopQ_n, hc, frH, frB, frL, frA]))) | (refine condD_intro ?_ ?_ <;> (intro hd; have hc := hd; (try simp at hc) <;> (try simp -implicitDefEqProofs [-loopQ_n, hd, hc, frH, frB, frL, frA]))) | (refine guardD_intro ?_ ?_ <;> (intro hd; have hc := hd; (try simp at hc) <;> (try simp -implicitDefEqProofs [-loopQ_n, hd, hc, frH, frB, frL, frA]))) | (refine ldD_ep ?_ ?_; (focus kernel_rfl); (try simp -implicitDefEqProofs [-loopQ_n, frH, frB, frL, frA])) | (refine callS_mk ?_; (try simp -implicitDefEqProofs [-loopQ_n, frH, frB, frL, frA]); (first | refine callS_intro (hM) (.inr ⟨rfl, rfl⟩) ?_); (try simp -implicitDefEqProofs [-loopQ_n, frH, frB, frL, frA])))))
    refine loop_intro (σ := Nat × Int) (fun x => ⟨[(7, .int .i64 x.2), (19, .rs (rowsOf spC u)), (20, .int .i64 u.length), (21, .int .i64 x.1)], []⟩) (fun x => x.1 ≤ u.length ∧ 0 ≤ x.2 ∧ x.2 + totL (u.drop x.1) = T) (fun x => u.length - x.1) (0, 0) ⟨by simp, by simp, by simpa using hT⟩ ?_ ?_
    · refine weak_of 0 0 rfl rfl ?_ ?_ <;> simp [sp_refs]
    rintro ⟨i, n⟩ ⟨hi, hn, hR⟩
    simp only at hi hn hR
    by_cases h : i < u.length
    · have w1 := w_succ' h (by omega)
      obtain ⟨q, hgq⟩ := gap_drop hg i
      rw [List.drop_eq_getElem_cons h] at hR hgq
      have hm1 := hte u[i] (List.getElem_mem h)
      have hm2 := gapV_mem hg (List.getElem_mem h)
      obtain ⟨⟨f, t⟩, hf⟩ : ∃ e, u[i] = e := ⟨_, rfl⟩
      rw [hf] at hR hgq hm1 hm2
      rw [gapV_cons] at hgq
      have hnn := totL_nn hgq.2.2
      simp only [totL] at hR hm1 hm2
      have w2 : wrapI .i64 (t - f) = t - f := wrap_in (by omega) (by omega)
      have w3 : wrapI .i64 (n + (t - f)) = n + (t - f) := wrap_in (by omega) (by omega)
      ((try simp -implicitDefEqProofs [-loopQ_n, h, hf, spC, w1, w2, w3]) <;> (repeat' (first | (refine condD_dec ?_ ?_ <;> (intro hc; (try simp -implicitDefEqProofs [-loopQ_n, hc, h, hf, spC, w1, w2, w3]))) | (refine guardD_dec ?_ ?_ <;> (intro hc; (try simp -implicitDefEqProofs [-loopQ_n, hc, h, hf, spC, w1, w2, w3]))) | (refine condD_intro ?_ ?_ <;> (intro hd; have hc := hd; (try simp at hc) <;> (try simp -implicitDefEqProofs [-loopQ_n, hd, hc, h, hf, spC, w1, w2, w3]))) | (refine guardD_intro ?_ ?_ <;> (intro hd; have hc := hd; (try simp at hc) <;> (try simp -implicitDefEqProofs [-loopQ_n, hd, hc, h, hf, spC, w1, w2, w3]))) | (refine ldD_ep ?_ ?_; (focus kernel_rfl); (try simp -implicitDefEqProofs [-loopQ_n, h, hf, spC, w1, w2, w3])))))
      refine loop_next (i + 1, n + (t - f)) ⟨h, by simp only; omega, by simp only; omega⟩ (by simp only; omega) (weak_of 0 0 rfl rfl ?_ ?_) <;> simp [sp_refs]
    · rw [List.drop_eq_nil_of_le (by omega), totL] at hR
      have hnT : n = T := by omega
      subst hnT
      ((try simp -implicitDefEqProofs [-loopQ_n, h]) <;> (repeat' (first | (refine condD_dec ?_ ?_ <;> (intro hc; (try simp -implicitDefEqProofs [-loopQ_n, hc, h]))) | (refine guardD_dec ?_ ?_ <;> (intro hc; (try simp -implicitDefEqProofs [-loopQ_n, hc, h]))) | (refine condD_intro ?_ ?_ <;> (intro hd; have hc := hd; (try simp at hc) <;> (try simp -implicitDefEqProofs [-loopQ_n, hd, hc, h]))) | (refine guardD_intro ?_ ?_ <;> (intro hd; have hc := hd; (try simp at hc) <;> (try simp -implicitDefEqProofs [-loopQ_n, hd, hc, h]))) | (refine ldD_ep ?_ ?_; (focus kernel_rfl); (try simp -implicitDefEqProofs [-loopQ_n, h])))))
end Go.Proofs.YtfbpjlabhckoeaaGreat
