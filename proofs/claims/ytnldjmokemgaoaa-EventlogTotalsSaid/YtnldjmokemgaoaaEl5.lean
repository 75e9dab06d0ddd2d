/- The reference's variants; activities; the same variants. -/
import Derived.Test.YtnldjmokemgaoaaElW
namespace Go.Proofs.Ytnldjmokemgaoaa
set_option linter.unusedSimpArgs false
set_option linter.unusedVariables false
set_option linter.unnecessarySimpa false
set_option linter.unusedSectionVars false
open Go.RowKit
variable [Glob]
set_option maxRecDepth 100000
theorem vr_reify {H : List Blk} {n : Nat} {l : List Vr} : (rowsOf vrC l).mapM (fun row => row.mapM (reify H (n + 1))) = some (rowsOf vrC l) := rowsOf_reify fun x => by simp [vrC, reify]
theorem vr_refs {m : Nat} {l : List Vr} : refsR m (rowsOf vrC l) = true := rowsOf_refs fun x => by simp [vrC, refs]
theorem vr_all {l : List Vr} : allLen 2 (rowsOf vrC l) = true := rowsOf_allLen fun x => rfl
set_option maxHeartbeats 8000000 in
theorem radd_pure (l : List Vr) (w : List ByteArray) (n : Int) (hl : l.length ≤ 1000000) (hd : ∀ v ∈ l, v.acts.length ≤ 9223372036854775807) (hw : w.length ≤ 9223372036854775807) (hc : ∀ v ∈ l, wrapI .i64 (v.count + n) = v.count + n) :
    Pure Try.prog 36 [.rs (rowsOf vrC l), .rs (rowsOf strC w), .int .i64 n] (.rs (rowsOf vrC (addV w n l))) := by
  refine pure_of mixed Try.func36 rfl (by kernel_rfl) (of_decide_eq_true rfl) (by kernel_rfl) (vc_run ?_)
  ((try simp -implicitDefEqProofs [-loopQ_n]) <;> (repeat' (first | (refine condD_dec ?_ ?_ <;> (intro hc; (try simp -implicitDefEqProofs [-loopQ_n, hc]))) | (refine guardD_dec ?_ ?_ <;> (intro hc; (try simp -implicitDefEqProofs [-loopQ_n, hc]))) | (refine condD_intro ?_ ?_ <;> (intro hd; have hc := hd; (try simp at hc) <;> (try simp -implicitDefEqProofs [-loopQ_n, hd, hc]))) | (refine guardD_intro ?_ ?_ <;> (intro hd; have hc := hd; (try simp at hc) <;> (try simp -implicitDefEqProofs [-loopQ_n, hd, hc]))) | (refine ldD_ep ?_ ?_; (focus kernel_rfl); (try simp -implicitDefEqProofs [-loopQ_n])))))
  refine loop_intro (σ := Nat) (fun i => ⟨[(0, .rs (rowsOf vrC l)), (1, .rs (rowsOf strC w)), (2, .int .i64 n), (7, .int .i64 i)], []⟩) (fun i => i ≤ l.length ∧ l.take i ++ addV w n (l.drop i) = addV w n l) (fun i => l.length - i) 0 ⟨by omega, by simp⟩ ?_ ?_
  · refine weak_of 0 0 rfl rfl ?_ ?_ <;> simp
  rintro i ⟨hi, hR⟩
  have hmin : min i l.length = i := by omega
  have hln : i ≤ 1073741824 := by omega
  have hsn : ∀ x : Int, rowsOf vrC (l.take i) ++ [[.rs (rowsOf strC w), .int .i64 x]] = rowsOf vrC (l.take i ++ [⟨w, x⟩]) := fun x => by simp only [rowsOf, List.map_append, List.map_cons, List.map_nil, vrC]
  by_cases h : i < l.length
  · have w1 : wrapI .i64 ((i : Int) + 1) = (i : Int) + 1 := wrap_in (by omega) (by omega)
    obtain ⟨⟨ac, m⟩, hf⟩ : ∃ e, l[i] = e := ⟨_, rfl⟩
    have hac : ac.length ≤ 9223372036854775807 := by have := hd _ (List.getElem_mem h); rw [hf] at this; exact this
    have hcm : wrapI .i64 (m + n) = m + n := by have := hc _ (List.getElem_mem h); rw [hf] at this; exact this
    rw [List.drop_eq_getElem_cons h, hf, addV] at hR
    have hC := rcompare_pure ac w hac hw
    by_cases h1 : cmpL ac w < 0
    · rw [if_pos h1] at hR
      ((try simp -implicitDefEqProofs [-loopQ_n, h, hf, vrC, h1, w1]) <;> (repeat' (first | (refine condD_dec ?_ ?_ <;> (intro hc; (try simp -implicitDefEqProofs [-loopQ_n, hc, h, hf, vrC, h1, w1]))) | (refine guardD_dec ?_ ?_ <;> (intro hc; (try simp -implicitDefEqProofs [-loopQ_n, hc, h, hf, vrC, h1, w1]))) | (refine condD_intro ?_ ?_ <;> (intro hd; have hc := hd; (try simp at hc) <;> (try simp -implicitDefEqProofs [-loopQ_n, hd, hc, h, hf, vrC, h1, w1]))) | (refine guardD_intro ?_ ?_ <;> (intro hd; have hc := hd; (try simp at hc) <;> (try simp -implicitDefEqProofs [-loopQ_n, hd, hc, h, hf, vrC, h1, w1]))) | (refine ldD_ep ?_ ?_; (focus kernel_rfl); (try simp -implicitDefEqProofs [-loopQ_n, h, hf, vrC, h1, w1])) | (refine callS_mk ?_; (try simp -implicitDefEqProofs [-loopQ_n, h, hf, vrC, h1, w1]); (first | refine callS_intro (hC) (.inl rfl) ?_); (try simp -implicitDefEqProofs [-loopQ_n, h, hf, vrC, h1, w1])))))
      refine loop_next (i + 1) ⟨by omega, ?_⟩ (by omega) (weak_of 0 0 rfl rfl ?_ ?_)
      · rw [← hR, List.take_succ_eq_append_getElem h, hf]; simp
      · simp
      · simp
    · rw [if_neg h1] at hR
      by_cases h2 : cmpL ac w = 0
      · rw [if_pos h2] at hR
        have ht : ((i : Int) + 1).toNat = i + 1 := by omega
        have hi1 : (i : Int) + 1 ≤ l.length := by omega
        have hi2 : 0 ≤ (i : Int) + 1 := by omega
        have hi3 : (i : Int) ≤ l.length := by omega
        have hb1 : i + 1 ≤ 1073741824 := by omega
        have hb2 : i + 1 + (l.length - (i + 1)) ≤ 1073741824 := by omega
        have htk : (l.drop (i + 1)).take (l.length - (i + 1)) = l.drop (i + 1) := List.take_of_length_le (by simp)
        ((try simp -implicitDefEqProofs [-loopQ_n, h, hf, vrC, h1, h2, hcm, vr_all, rowsOf_take, rowsOf_drop, hmin, hln, w1, ht, hi1, hi2, hi3, hb1, hb2, htk, vr_reify, hsn, rowsOf_append]) <;> (repeat' (first | (refine condD_dec ?_ ?_ <;> (intro hc; (try simp -implicitDefEqProofs [-loopQ_n, hc, h, hf, vrC, h1, h2, hcm, vr_all, rowsOf_take, rowsOf_drop, hmin, hln, w1, ht, hi1, hi2, hi3, hb1, hb2, htk, vr_reify, hsn, rowsOf_append]))) | (refine guardD_dec ?_ ?_ <;> (intro hc; (try simp -implicitDefEqProofs [-loopQ_n, hc, h, hf, vrC, h1, h2, hcm, vr_all, rowsOf_take, rowsOf_drop, hmin, hln, w1, ht, hi1, hi2, hi3, hb1, hb2, htk, vr_reify, hsn, rowsOf_append]))) | (refine condD_intro ?_ ?_ <;> (intro hd; have hc := hd; (try simp at hc) <;> (try simp -implicitDefEqProofs [-loopQ_n, hd, hc, h, hf, vrC, h1, h2, hcm, vr_all, rowsOf_take, rowsOf_drop, hmin, hln, w1, ht, hi1, hi2, hi3, hb1, hb2, htk, vr_reify, hsn, rowsOf_append]))) | (refine guardD_intro ?_ ?_ <;> (intro hd; have hc := hd; (try simp at hc) <;> (try simp -implicitDefEqProofs [-loopQ_n, hd, hc, h, hf, vrC, h1, h2, hcm, vr_all, rowsOf_take, rowsOf_drop, hmin, hln, w1, ht, hi1, hi2, hi3, hb1, hb2, htk, vr_reify, hsn, rowsOf_append]))) | (refine ldD_ep ?_ ?_; (focus kernel_rfl); (try simp -implicitDefEqProofs [-loopQ_n, h, hf, vrC, h1, h2, hcm, vr_all, rowsOf_take, rowsOf_drop, hmin, hln, w1, ht, hi1, hi2, hi3, hb1, hb2, htk, vr_reify, hsn, rowsOf_append])) | (refine callS_mk ?_; (try simp -implicitDefEqProofs [-loopQ_n, h, hf, vrC, h1, h2, hcm, vr_all, rowsOf_take, rowsOf_drop, hmin, hln, w1, ht, hi1, hi2, hi3, hb1, hb2, htk, vr_reify, hsn, rowsOf_append]); (first | refine callS_intro (hC) (.inl rfl) ?_); (try simp -implicitDefEqProofs [-loopQ_n, h, hf, vrC, h1, h2, hcm, vr_all, rowsOf_take, rowsOf_drop, hmin, hln, w1, ht, hi1, hi2, hi3, hb1, hb2, htk, vr_reify, hsn, rowsOf_append])))))
        exact ⟨by omega, by rw [← hR]⟩
      · rw [if_neg h2] at hR
        have hi3 : (i : Int) ≤ l.length := by omega
        have hb1 : i + 1 ≤ 1073741824 := by omega
        have hb2 : i + 1 + (l.length - i) ≤ 1073741824 := by omega
        have htk : (l.drop i).take (l.length - i) = l.drop i := List.take_of_length_le (by simp)
        ((try simp -implicitDefEqProofs [-loopQ_n, h, hf, vrC, h1, h2, vr_all, rowsOf_take, rowsOf_drop, hmin, hln, hi3, hb1, hb2, htk, vr_reify, hsn, rowsOf_append]) <;> (repeat' (first | (refine condD_dec ?_ ?_ <;> (intro hc; (try simp -implicitDefEqProofs [-loopQ_n, hc, h, hf, vrC, h1, h2, vr_all, rowsOf_take, rowsOf_drop, hmin, hln, hi3, hb1, hb2, htk, vr_reify, hsn, rowsOf_append]))) | (refine guardD_dec ?_ ?_ <;> (intro hc; (try simp -implicitDefEqProofs [-loopQ_n, hc, h, hf, vrC, h1, h2, vr_all, rowsOf_take, rowsOf_drop, hmin, hln, hi3, hb1, hb2, htk, vr_reify, hsn, rowsOf_append]))) | (refine condD_intro ?_ ?_ <;> (intro hd; have hc := hd; (try simp at hc) <;> (try simp -implicitDefEqProofs [-loopQ_n, hd, hc, h, hf, vrC, h1, h2, vr_all, rowsOf_take, rowsOf_drop, hmin, hln, hi3, hb1, hb2, htk, vr_reify, hsn, rowsOf_append]))) | (refine guardD_intro ?_ ?_ <;> (intro hd; have hc := hd; (try simp at hc) <;> (try simp -implicitDefEqProofs [-loopQ_n, hd, hc, h, hf, vrC, h1, h2, vr_all, rowsOf_take, rowsOf_drop, hmin, hln, hi3, hb1, hb2, htk, vr_reify, hsn, rowsOf_append]))) | (refine ldD_ep ?_ ?_; (focus kernel_rfl); (try simp -implicitDefEqProofs [-loopQ_n, h, hf, vrC, h1, h2, vr_all, rowsOf_take, rowsOf_drop, hmin, hln, hi3, hb1, hb2, htk, vr_reify, hsn, rowsOf_append])) | (refine callS_mk ?_; (try simp -implicitDefEqProofs [-loopQ_n, h, hf, vrC, h1, h2, vr_all, rowsOf_take, rowsOf_drop, hmin, hln, hi3, hb1, hb2, htk, vr_reify, hsn, rowsOf_append]); (first | refine callS_intro (hC) (.inl rfl) ?_); (try simp -implicitDefEqProofs [-loopQ_n, h, hf, vrC, h1, h2, vr_all, rowsOf_take, rowsOf_drop, hmin, hln, hi3, hb1, hb2, htk, vr_reify, hsn, rowsOf_append])))))
        exact ⟨by omega, by rw [← hR, List.drop_eq_getElem_cons h, hf]⟩
  · rw [List.drop_eq_nil_of_le (by omega), addV] at hR
    have hi3 : (i : Int) ≤ l.length := by omega
    have hb1 : i + 1 ≤ 1073741824 := by omega
    have hb2 : i + 1 + (l.length - i) ≤ 1073741824 := by omega
    have htk : (l.drop i).take (l.length - i) = l.drop i := List.take_of_length_le (by simp)
    ((try simp -implicitDefEqProofs [-loopQ_n, h, vrC, vr_all, rowsOf_take, rowsOf_drop, hmin, hln, hi3, hb1, hb2, htk, vr_reify, hsn, rowsOf_append]) <;> (repeat' (first | (refine condD_dec ?_ ?_ <;> (intro hc; (try simp -implicitDefEqProofs [-loopQ_n, hc, h, vrC, vr_all, rowsOf_take, rowsOf_drop, hmin, hln, hi3, hb1, hb2, htk, vr_reify, hsn, rowsOf_append]))) | (refine guardD_dec ?_ ?_ <;> (intro hc; (try simp -implicitDefEqProofs [-loopQ_n, hc, h, vrC, vr_all, rowsOf_take, rowsOf_drop, hmin, hln, hi3, hb1, hb2, htk, vr_reify, hsn, rowsOf_append]))) | (refine condD_intro ?_ ?_ <;> (intro hd; have hc := hd; (try simp at hc) <;> (try simp -implicitDefEqProofs [-loopQ_n, hd, hc, h, vrC, vr_all, rowsOf_take, rowsOf_drop, hmin, hln, hi3, hb1, hb2, htk, vr_reify, hsn, rowsOf_append]))) | (refine guardD_intro ?_ ?_ <;> (intro hd; have hc := hd; (try simp at hc) <;> (try simp -implicitDefEqProofs [-loopQ_n, hd, hc, h, vrC, vr_all, rowsOf_take, rowsOf_drop, hmin, hln, hi3, hb1, hb2, htk, vr_reify, hsn, rowsOf_append]))) | (refine ldD_ep ?_ ?_; (focus kernel_rfl); (try simp -implicitDefEqProofs [-loopQ_n, h, vrC, vr_all, rowsOf_take, rowsOf_drop, hmin, hln, hi3, hb1, hb2, htk, vr_reify, hsn, rowsOf_append])))))
    exact ⟨by omega, by rw [← hR, List.drop_eq_nil_of_le (by omega)]⟩
theorem addV_len (w : List ByteArray) (n : Int) : ∀ l : List Vr, (addV w n l).length ≤ l.length + 1 := by
  intro l
  induction l with
  | nil => simp [addV]
  | cons v r ih =>
    unfold addV
    split
    · simp only [List.length_cons]; omega
    · split <;> simp
theorem addV_any (w : List ByteArray) (n : Int) : ∀ l : List Vr, ∀ v ∈ addV w n l, v ∈ l ∨ (v.acts = w ∧ (v.count = n ∨ ∃ u ∈ l, v.count = u.count + n)) := by
  intro l
  induction l with
  | nil => intro v hv; simp [addV] at hv; subst hv; exact .inr ⟨rfl, .inl rfl⟩
  | cons u r ih =>
    intro v hv
    unfold addV at hv
    split at hv
    · rcases List.mem_cons.1 hv with rfl | hv
      · exact .inl (by simp)
      · rcases ih v hv with h | ⟨h1, h | ⟨x, h2, h3⟩⟩
        · exact .inl (by simp [h])
        · exact .inr ⟨h1, .inl h⟩
        · exact .inr ⟨h1, .inr ⟨x, by simp [h2], h3⟩⟩
    · split at hv
      · rcases List.mem_cons.1 hv with rfl | hv
        · exact .inr ⟨rfl, .inr ⟨u, by simp, rfl⟩⟩
        · exact .inl (by simp [hv])
      · rcases List.mem_cons.1 hv with rfl | hv
        · exact .inr ⟨rfl, .inl rfl⟩
        · exact .inl hv
def okV (acc : List Vr) (i : Nat) : Prop := ∀ v ∈ acc, 0 ≤ v.count ∧ v.count ≤ i ∧ v.acts.length ≤ 2000
theorem okV_add {acc : List Vr} {i : Nat} {w : List ByteArray} (h : okV acc i) (hw : w.length ≤ 2000) : okV (addV w 1 acc) (i + 1) := fun v hv => by
  rcases addV_any w 1 acc v hv with h1 | ⟨h1, h2 | ⟨u, h2, h3⟩⟩
  · have := h v h1; exact ⟨this.1, by omega, this.2.2⟩
  · rw [h1, h2]; exact ⟨by omega, by omega, hw⟩
  · have := h u h2; rw [h1, h3]; exact ⟨by omega, by omega, hw⟩
def refV (l : List Evt) : List ByteArray → List Vr → List Vr × Int
  | [], acc => if 300 < acc.length then ([], 5) else (acc, 0)
  | c :: r, acc => if 200 < (wordL l c).length then ([], 5) else refV l r (addV (wordL l c) 1 acc)
theorem refV_eq (l : List Evt) : ∀ (cs : List ByteArray) (acc : List Vr), refV l cs acc = if (cs.any fun c => decide (200 < (wordL l c).length)) = true then ([], 5) else if 300 < ((cs.map (wordL l)).foldl (fun acc w => addV w 1 acc) acc).length then ([], 5) else ((cs.map (wordL l)).foldl (fun acc w => addV w 1 acc) acc, 0) := by
  intro cs
  induction cs with
  | nil => intro acc; simp [refV]
  | cons c cs ih =>
    intro acc
    by_cases h : 200 < (wordL l c).length
    · simp [refV, h]
    · rw [refV, if_neg h, ih, List.map_cons, List.foldl_cons]
      simp [h]
theorem refV_varR (l : List Evt) : refV l (casesL l) [] = varR l := by rw [refV_eq]; rfl
end Go.Proofs.Ytnldjmokemgaoaa
