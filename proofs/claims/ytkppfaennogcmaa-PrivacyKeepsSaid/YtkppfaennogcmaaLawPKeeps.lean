/- What is published keeps k (the law PrivacyKeeps holds for every input; no condition). -/
import Derived.Test.YtkppfaennogcmaaRows
import Derived.Test.YtkppfaennogcmaaPrvB
import Derived.Test.YtkppfaennogcmaaPrvO
import Derived.Test.YtkppfaennogcmaaPrvP
import Derived.Test.YtkppfaennogcmaaPrwG
import Derived.Test.YtkppfaennogcmaaPrwH
import Derived.Test.YtkppfaennogcmaaAbFrz
import Derived.Test.YtkppfaennogcmaaOpen
namespace Go.Proofs.Ytkppfaennogcmaa.lawPKeeps
set_option linter.unusedSimpArgs false
set_option linter.unusedVariables false
set_option linter.unnecessarySimpa false
set_option linter.unusedSectionVars false
open Go.ChangeShapes Go.WideShapes Go.ChangeAt Go.RowKit Go.Joins Go.Deep
section
variable [Glob]
set_option maxRecDepth 100000
theorem supR_val {l : List Wd} {k : Int} : (∃ e, e ≠ 0 ∧ supR l k = ([], e)) ∨ (validW l = true ∧ (1 ≤ k ∧ k ≤ 1048576) ∧ validW (supN k 201 l []) = true ∧ supR l k = (supN k 201 l [], 0)) := by
  unfold supR
  generalize supN k 201 l [] = O
  cases v1 : validW l with
  | false => exact .inl ⟨1, by omega, by simp⟩
  | true =>
    rw [if_neg (by simp)]
    split
    · exact .inl ⟨2, by omega, rfl⟩
    · rename_i h
      cases v2 : validW O with
      | false => exact .inl ⟨5, by omega, by simp⟩
      | true => exact .inr ⟨rfl, by simpa using h, rfl, by simp⟩
structure Kept_ (l O : List Wd) (k : Int) : Prop where
  good : ∀ v ∈ O, wdG v
  len : O.length ≤ l.length
  ge : ∀ v ∈ O, k ≤ v.n
  over : (begE O).any (overE (begE l)) = false
  sum : sumN O ≤ sumN l
  miss : sumN l < sumN O + k
  again : supN k 201 O [] = O
  wide : (∀ v ∈ l, wideB v.acts = false) → ∀ v ∈ O, wideB v.acts = false
theorem wide_no {w : Wo} (hw : w.length ≤ 200) : wideB w = false ↔ w.length ≤ 60 ∧ ∀ s ∈ w, s.size ≤ 100 := by
  unfold wideB
  constructor
  · intro h
    split at h
    · cases h
    · split at h
      · cases h
      · rw [List.any_eq_false] at h
        refine ⟨by omega, fun s hs => ?_⟩
        have := h s hs
        simp only [decide_eq_true_eq] at this
        omega
  · rintro ⟨h1, h2⟩
    rw [if_neg (by omega), if_neg (by omega), List.any_eq_false]
    intro s hs
    have := h2 s hs
    simp; omega
theorem kept {l : List Wd} {k : Int} (v1 : validW l = true) (hk : 1 ≤ k) (v2 : validW (supN k 201 l []) = true) : Kept_ l (supN k 201 l []) k := by
  have gL := validW_good v1
  have lL : lnW l := fun v hv => ⟨(gL v hv).2.1, (gL v hv).1⟩
  have h0 : lnW [] := by simp [lnW]
  obtain ⟨h1, h2, h3⟩ := supN_ok (k := k) 201 l [] lL h0
  have hg := ge_supN (k := k) 201 l [] lL h0 (by simp)
  have hu := fun u => sumU_supN (k := k) (u := u) 201 l [] lL h0
  have hm := supN_miss hk 200 l [] _ _ (rel_start v1)
  have ha := asc_supN (k := k) 201 l [] (by simp [ascW])
  have hn := wI_supN (k := k) (Q := fun w => w.length ≤ 60 ∧ ∀ s ∈ w, s.size ≤ 100) (fun w j h => ⟨by have := List.length_take_le' j w; have := h.1; omega, fun s hs => h.2 s (List.mem_of_mem_take hs)⟩) 201 l []
  generalize supN k 201 l [] = O at *
  have gO := validW_good v2
  simp only [sumN, sumU, List.length_nil] at h2 h3 hm hu
  refine ⟨gO, by omega, hg, ?_, by omega, by omega, supN_again h1 ha hg, fun hw => ?_⟩
  · rw [Bool.eq_false_iff]
    intro hc
    obtain ⟨u, hu'⟩ := (over_iff gL gO).1 hc
    have := hu u
    omega
  have := hn (fun v hv => (wide_no (gL v hv).1).1 (hw v hv)) (by simp [wI])
  exact fun v hv => (wide_no (gO v hv).1).2 (this v hv)
def sumD_ (l : List Wd) (i : Nat) : Int := sumN (l.drop i)
def actD_ (l : List Wd) (i : Nat) : Int := actsS (l.drop i)
theorem sumD_at {l : List Wd} {i : Nat} (h : i < l.length) : sumD_ l i = l[i].n + sumD_ l (i + 1) := by
  unfold sumD_; rw [List.drop_eq_getElem_cons h, sumN]
theorem actD_at {l : List Wd} {i : Nat} (h : i < l.length) : actD_ l i = l[i].n * l[i].acts.length + actD_ l (i + 1) := by
  unfold actD_; rw [List.drop_eq_getElem_cons h, actsS]
theorem sumD_end {l : List Wd} : sumD_ l l.length = 0 := by unfold sumD_; rw [List.drop_length]; rfl
theorem actD_end {l : List Wd} : actD_ l l.length = 0 := by unfold actD_; rw [List.drop_length]; rfl
theorem sumD_bd {l : List Wd} (h : ∀ v ∈ l, wdG v) (hl : l.length ≤ 300) (i : Nat) : 0 ≤ sumD_ l i ∧ sumD_ l i ≤ 314572800 := by
  have h1 : ∀ v ∈ l.drop i, wdG v := fun v hv => h v (List.mem_of_mem_drop hv)
  have h2 := sumN_le _ h1
  have h3 := (sumN_nn (l.drop i) fun v hv => ⟨(h1 v hv).2.1, (h1 v hv).1⟩).1
  have : (l.drop i).length ≤ 300 := by simp; omega
  unfold sumD_
  omega
theorem actD_bd {l : List Wd} (h : ∀ v ∈ l, wdG v) (hl : l.length ≤ 300) (i : Nat) : 0 ≤ actD_ l i ∧ actD_ l i ≤ 62914560000 := by
  have h1 : ∀ v ∈ l.drop i, wdG v := fun v hv => h v (List.mem_of_mem_drop hv)
  have h2 := actsS_bd _ h1
  have : (l.drop i).length ≤ 300 := by simp; omega
  unfold actD_
  omega
set_option maxHeartbeats 16000000 in
theorem main (L : List Wd) (hL : L.length ≤ 9223372036854775807) (hLw : ∀ v ∈ L, wdI v) (k : Int) :
    Pure Try.prog 8 [.rs (rowsOf wdC L), .int .i64 k] (.bool true) := by
  have hA := great_pure L hL hLw
  cases c1 : largeB L with
  | true =>
    rw [c1] at hA
    refine pure_of mixed Try.func8 rfl (by kernel_rfl) (of_decide_eq_true rfl) (by kernel_rfl) (vc_run ?_)
    ((try simp -implicitDefEqProofs [-loopQ_n]) <;> (repeat' (first | (refine condD_dec ?_ ?_ <;> (intro hc; (try simp -implicitDefEqProofs [-loopQ_n, hc]))) | (refine guardD_dec ?_ ?_ <;> (intro hc; (try simp -implicitDefEqProofs [-loopQ_n, hc]))) | (refine condD_intro ?_ ?_ <;> (intro hd; have hc := hd; (try simp at hc) <;> (try simp -implicitDefEqProofs [-loopQ_n, hd, hc]))) | (refine guardD_intro ?_ ?_ <;> (intro hd; have hc := hd; (try simp at hc) <;> (try simp -implicitDefEqProofs [-loopQ_n, hd, hc]))) | (refine ldD_ep ?_ ?_; (focus kernel_rfl); (try simp -implicitDefEqProofs [-loopQ_n])) | (refine callS_mk ?_; (try simp -implicitDefEqProofs [-loopQ_n]); (first | refine callS_intro (awake_pure) (.inl rfl) ?_ | refine callS_intro (hA) (.inl rfl) ?_); (try simp -implicitDefEqProofs [-loopQ_n])))))
  | false =>
  rw [c1] at hA
  have l40 : L.length ≤ 40 := by
    unfold largeB at c1
    split at c1
    · simp at c1
    · omega
  have hC := sup_pure L k (by omega) hLw
  rcases supR_val (l := L) (k := k) with ⟨e, he, hR⟩ | ⟨v1, ke, v2, hR⟩
  · rw [hR] at hC
    simp only [supV, rowsOf_nil] at hC
    refine pure_of mixed Try.func8 rfl (by kernel_rfl) (of_decide_eq_true rfl) (by kernel_rfl) (vc_run ?_)
    ((try simp -implicitDefEqProofs [-loopQ_n, he]) <;> (repeat' (first | (refine condD_dec ?_ ?_ <;> (intro hc; (try simp -implicitDefEqProofs [-loopQ_n, hc, he]))) | (refine guardD_dec ?_ ?_ <;> (intro hc; (try simp -implicitDefEqProofs [-loopQ_n, hc, he]))) | (refine condD_intro ?_ ?_ <;> (intro hd; have hc := hd; (try simp at hc) <;> (try simp -implicitDefEqProofs [-loopQ_n, hd, hc, he]))) | (refine guardD_intro ?_ ?_ <;> (intro hd; have hc := hd; (try simp at hc) <;> (try simp -implicitDefEqProofs [-loopQ_n, hd, hc, he]))) | (refine ldD_ep ?_ ?_; (focus kernel_rfl); (try simp -implicitDefEqProofs [-loopQ_n, he])) | (refine callS_mk ?_; (try simp -implicitDefEqProofs [-loopQ_n, he]); (first | refine callS_intro (awake_pure) (.inl rfl) ?_ | refine callS_intro (hA) (.inl rfl) ?_ | refine callS_intro (hC) (.inr ⟨rfl, rfl⟩) ?_); (try simp -implicitDefEqProofs [-loopQ_n, he])))))
  rw [hR] at hC
  have hK := kept v1 ke.1 v2
  have gL := validW_good v1
  generalize supN k 201 L [] = O at *
  clear hR
  have hO : O.length ≤ 300 := by have := hK.len; omega
  have hOw : ∀ v ∈ O, wdI v := fun v hv => by
    have h1 := hK.good v hv
    refine ⟨?_, by have := h1.1; omega, fun s hs => by have := wdG_size h1 s hs; omega⟩
    have := h1.2.1
    have := h1.2.2.1
    unfold inI
    omega
  have hB := large_pure O (by omega) hOw
  have hlg : largeB O = false := by
    unfold largeB at c1 ⊢
    rw [if_neg (by omega), List.any_eq_false] at c1
    rw [if_neg (by have := hK.len; omega), List.any_eq_false]
    intro v hv
    have := hK.wide (fun v hv => by have := c1 v hv; simpa using this) v hv
    simp [this]
  rw [hlg] at hB
  have hD := keeps_pure O k hO hOw
  have hkp : keepsR O k = (true, 0) := by
    unfold keepsR
    rw [if_neg (by rw [v2]; simp), if_neg (by simpa using ke)]
    simp only [Prod.mk.injEq, and_true, List.all_eq_true, Bool.not_eq_true', decide_eq_false_iff_not]
    intro v hv
    have := hK.ge v hv
    omega
  rw [hkp] at hD
  simp only [keepsV] at hD
  have hE := loss_pure L O (by omega) hO hLw hOw
  have hlo : lossR L O = (actsS L - actsS O, 0) := by
    unfold lossR
    rw [if_neg (by rw [v1]; simp), if_neg (by rw [v2]; simp), hK.over]
    simp
  rw [hlo] at hE
  simp only [lossT] at hE
  have hF := valid_pure O hO hOw
  rw [v2] at hF
  have hS := sup_pure O k hO hOw
  have hR2 : supR O k = (O, 0) := by
    unfold supR
    rw [if_neg (by rw [v2]; simp), if_neg (by simpa using ke), hK.again, if_neg (by rw [v2]; simp)]
  rw [hR2] at hS
  simp only [supV] at hC hS
  have hG := psame_pure O O (by omega) (by omega) (fun v hv => by have := (hK.good v hv).1; omega) (fun v hv => by have := (hK.good v hv).1; omega)
  rw [sameL_self] at hG
  have b1 := sumD_bd gL (by omega)
  have b2 := actD_bd gL (by omega)
  have b3 := sumD_bd hK.good hO
  have b4 := actD_bd hK.good hO
  have hsm := hK.sum
  have hms := hK.miss
  obtain ⟨nL, hnL⟩ : ∃ n, sumN L = n := ⟨_, rfl⟩
  obtain ⟨aL, haL⟩ : ∃ n, actsS L = n := ⟨_, rfl⟩
  obtain ⟨nO, hnO⟩ : ∃ n, sumN O = n := ⟨_, rfl⟩
  obtain ⟨aO, haO⟩ : ∃ n, actsS O = n := ⟨_, rfl⟩
  have e1 : sumD_ L 0 = nL := hnL
  have e2 : actD_ L 0 = aL := haL
  have e3 : sumD_ O 0 = nO := hnO
  have e4 : actD_ O 0 = aO := haO
  rw [hnL, hnO] at hsm hms
  rw [haL, haO] at hE
  clear hnL haL hnO haO hlo
  refine pure_of mixed Try.func8 rfl (by kernel_rfl) (of_decide_eq_true rfl) (by kernel_rfl) (vc_run ?_)
  ((try simp -implicitDefEqProofs [-loopQ_n]) <;> (repeat' (first | (refine condD_dec ?_ ?_ <;> (intro hc; (try simp -implicitDefEqProofs [-loopQ_n, hc]))) | (refine guardD_dec ?_ ?_ <;> (intro hc; (try simp -implicitDefEqProofs [-loopQ_n, hc]))) | (refine condD_intro ?_ ?_ <;> (intro hd; have hc := hd; (try simp at hc) <;> (try simp -implicitDefEqProofs [-loopQ_n, hd, hc]))) | (refine guardD_intro ?_ ?_ <;> (intro hd; have hc := hd; (try simp at hc) <;> (try simp -implicitDefEqProofs [-loopQ_n, hd, hc]))) | (refine ldD_ep ?_ ?_; (focus kernel_rfl); (try simp -implicitDefEqProofs [-loopQ_n])) | (refine callS_mk ?_; (try simp -implicitDefEqProofs [-loopQ_n]); (first | refine callS_intro (awake_pure) (.inl rfl) ?_ | refine callS_intro (hA) (.inl rfl) ?_ | refine callS_intro (hC) (.inr ⟨rfl, rfl⟩) ?_ | refine callS_intro (hB) (.inl rfl) ?_ | refine callS_intro (hD) (.inl rfl) ?_ | refine callS_intro (hE) (.inl rfl) ?_ | refine callS_intro (hF) (.inl rfl) ?_); (try simp -implicitDefEqProofs [-loopQ_n])))))
  refine loop_intro (σ := Nat × Int × Int) (fun x => ⟨[(1, .int .i64 k), (5, .rs (rowsOf wdC O)), (9, .int .i64 (aL - aO)), (11, .int .i64 x.2.1), (12, .int .i64 x.2.2), (64, .rs (rowsOf wdC L)), (65, .int .i64 L.length), (66, .int .i64 x.1)], []⟩)
    (fun x => x.1 ≤ L.length ∧ x.2.1 + sumD_ L x.1 = nL ∧ x.2.2 + actD_ L x.1 = aL) (fun x => L.length - x.1) (0, 0, 0) ⟨by simp, by simp [e1], by simp [e2]⟩ ?_ ?_
  · refine weak_of 0 0 rfl rfl ?_ ?_ <;> simp
  rintro ⟨i, a, b⟩ ⟨hi, ha, hb⟩
  simp only at hi ha hb
  by_cases h : i < L.length
  · have w1 : wrapI .i64 ((i : Int) + 1) = (i : Int) + 1 := wrap_in (by omega) (by omega)
    obtain ⟨⟨A, n⟩, hx⟩ : ∃ x, L[i] = x := ⟨_, rfl⟩
    have q1 := sumD_at h
    have q2 := actD_at h
    have q3 := b1 i
    have q4 := b1 (i + 1)
    have q5 := b2 i
    have q6 := b2 (i + 1)
    have q7 := b1 0
    have q8 := b2 0
    have hg := gL L[i] (by simp)
    rw [hx] at q1 q2 hg
    obtain ⟨g1, g2, g3, _⟩ := hg
    simp only at q1 q2 g1 g2 g3
    obtain ⟨c, hc'⟩ : ∃ c, n * (A.length : Int) = c := ⟨_, rfl⟩
    have q9 : 0 ≤ c := by rw [← hc']; exact Int.mul_nonneg (by omega) (by omega)
    rw [hc'] at q2
    have w2 : wrapI .i64 (a + n) = a + n := wrap_in (by omega) (by omega)
    have w3 : wrapI .i64 c = c := wrap_in (by omega) (by omega)
    have w4 : wrapI .i64 (b + c) = b + c := wrap_in (by omega) (by omega)
    ((try simp -implicitDefEqProofs [-loopQ_n, h, hx, wdC, hc', w2, w3, w4]) <;> (repeat' (first | (refine condD_dec ?_ ?_ <;> (intro hc; (try simp -implicitDefEqProofs [-loopQ_n, hc, h, hx, wdC, hc', w2, w3, w4]))) | (refine guardD_dec ?_ ?_ <;> (intro hc; (try simp -implicitDefEqProofs [-loopQ_n, hc, h, hx, wdC, hc', w2, w3, w4]))) | (refine condD_intro ?_ ?_ <;> (intro hd; have hc := hd; (try simp at hc) <;> (try simp -implicitDefEqProofs [-loopQ_n, hd, hc, h, hx, wdC, hc', w2, w3, w4]))) | (refine guardD_intro ?_ ?_ <;> (intro hd; have hc := hd; (try simp at hc) <;> (try simp -implicitDefEqProofs [-loopQ_n, hd, hc, h, hx, wdC, hc', w2, w3, w4]))) | (refine ldD_ep ?_ ?_; (focus kernel_rfl); (try simp -implicitDefEqProofs [-loopQ_n, h, hx, wdC, hc', w2, w3, w4])))))
    refine loop_next (i + 1, a + n, b + c) ⟨by simp only; omega, by simp only; omega, by simp only; omega⟩ (by simp only; omega) (weak_of 0 0 rfl rfl ?_ ?_) <;> simp [w1]
  have hie : i = L.length := by omega
  subst hie
  rw [sumD_end] at ha
  rw [actD_end] at hb
  have ha' : a = nL := by omega
  have hb' : b = aL := by omega
  subst ha' hb'
  ((try simp -implicitDefEqProofs [-loopQ_n, h]) <;> (repeat' (first | (refine condD_dec ?_ ?_ <;> (intro hc; (try simp -implicitDefEqProofs [-loopQ_n, hc, h]))) | (refine guardD_dec ?_ ?_ <;> (intro hc; (try simp -implicitDefEqProofs [-loopQ_n, hc, h]))) | (refine condD_intro ?_ ?_ <;> (intro hd; have hc := hd; (try simp at hc) <;> (try simp -implicitDefEqProofs [-loopQ_n, hd, hc, h]))) | (refine guardD_intro ?_ ?_ <;> (intro hd; have hc := hd; (try simp at hc) <;> (try simp -implicitDefEqProofs [-loopQ_n, hd, hc, h]))) | (refine ldD_ep ?_ ?_; (focus kernel_rfl); (try simp -implicitDefEqProofs [-loopQ_n, h])))))
  refine loop_intro (σ := Nat × Int × Int × List Wd) (fun x => ⟨[(1, .int .i64 k), (5, .rs (rowsOf wdC O)), (9, .int .i64 (b - aO)), (11, .int .i64 x.2.1), (12, .int .i64 x.2.2.1), (15, .os 0 x.2.2.2.length), (83, .rs (rowsOf wdC O)), (84, .int .i64 O.length), (85, .int .i64 x.1)], [.row 51 true (rowsOf wdC x.2.2.2)]⟩)
    (fun x => x.1 ≤ O.length ∧ x.2.1 + nO = a + sumD_ O x.1 ∧ x.2.2.1 + aO = b + actD_ O x.1 ∧ x.2.2.2.length = x.1 ∧ x.2.2.2 ++ O.drop x.1 = O) (fun x => O.length - x.1) (0, a, b, []) ⟨by simp, by simp [e3], by simp [e4], by simp, by simp⟩ ?_ ?_
  · refine weak_of 0 1 rfl rfl ?_ ?_ <;> simp
  rintro ⟨j, x, y, p⟩ ⟨hj, hx1, hy1, hpl, hp⟩
  simp only at hj hx1 hy1 hpl hp
  have r1 := b1 0
  have r2 := b2 0
  have r3 := b3 0
  have r4 := b4 0
  by_cases h' : j < O.length
  · have w1 : wrapI .i64 ((j : Int) + 1) = (j : Int) + 1 := wrap_in (by omega) (by omega)
    obtain ⟨⟨A, n⟩, hx⟩ : ∃ x, O[j] = x := ⟨_, rfl⟩
    have q1 := sumD_at h'
    have q2 := actD_at h'
    have q3 := b3 j
    have q4 := b3 (j + 1)
    have q5 := b4 j
    have q6 := b4 (j + 1)
    have hg := hK.good O[j] (by simp)
    rw [hx] at q1 q2 hg
    obtain ⟨g1, g2, g3, _⟩ := hg
    simp only at q1 q2 g1 g2 g3
    obtain ⟨c, hc'⟩ : ∃ c, n * (A.length : Int) = c := ⟨_, rfl⟩
    have q9 : 0 ≤ c := by rw [← hc']; exact Int.mul_nonneg (by omega) (by omega)
    rw [hc'] at q2
    have w2 : wrapI .i64 (x - n) = x - n := wrap_in (by omega) (by omega)
    have w3 : wrapI .i64 c = c := wrap_in (by omega) (by omega)
    have w4 : wrapI .i64 (y - c) = y - c := wrap_in (by omega) (by omega)
    have hln : p.length + 1 ≤ 1073741824 := by omega
    have hsn : rowsOf wdC p ++ [[.rs (rowsOf strC A), .int .i64 n]] = rowsOf wdC (p ++ [⟨A, n⟩]) := wd_snoc (v := ⟨A, n⟩)
    ((try simp -implicitDefEqProofs [-loopQ_n, h', hx, wdC, hc', w2, w3, w4, hln, hsn]) <;> (repeat' (first | (refine condD_dec ?_ ?_ <;> (intro hc; (try simp -implicitDefEqProofs [-loopQ_n, hc, h', hx, wdC, hc', w2, w3, w4, hln, hsn]))) | (refine guardD_dec ?_ ?_ <;> (intro hc; (try simp -implicitDefEqProofs [-loopQ_n, hc, h', hx, wdC, hc', w2, w3, w4, hln, hsn]))) | (refine condD_intro ?_ ?_ <;> (intro hd; have hc := hd; (try simp at hc) <;> (try simp -implicitDefEqProofs [-loopQ_n, hd, hc, h', hx, wdC, hc', w2, w3, w4, hln, hsn]))) | (refine guardD_intro ?_ ?_ <;> (intro hd; have hc := hd; (try simp at hc) <;> (try simp -implicitDefEqProofs [-loopQ_n, hd, hc, h', hx, wdC, hc', w2, w3, w4, hln, hsn]))) | (refine ldD_ep ?_ ?_; (focus kernel_rfl); (try simp -implicitDefEqProofs [-loopQ_n, h', hx, wdC, hc', w2, w3, w4, hln, hsn])))))
    refine loop_next (j + 1, x - n, y - c, p ++ [⟨A, n⟩]) ⟨by simp only; omega, by simp only; omega, by simp only; omega, by simp; omega, ?_⟩ (by simp only; omega) (weak_of 1 0 rfl rfl ?_ ?_)
    · rw [← hp, List.append_assoc, List.singleton_append]
      simp only
      conv => rhs; rw [List.drop_eq_getElem_cons h', hx]
      rw [hp]
    · simp [w1]
    · simp [wd_refs, hsn]
  have hje : j = O.length := by omega
  subst hje
  rw [List.drop_length, List.append_nil] at hp
  subst hp
  rw [sumD_end] at hx1
  rw [actD_end] at hy1
  have f1 : (0 : Int) ≤ x := by omega
  have f2 : x < k := by omega
  have f3 : b - aO = y := by omega
  ((try simp -implicitDefEqProofs [-loopQ_n, h', f1, f2, f3, wd_reify]) <;> (repeat' (first | (refine condD_dec ?_ ?_ <;> (intro hc; (try simp -implicitDefEqProofs [-loopQ_n, hc, h', f1, f2, f3, wd_reify]))) | (refine guardD_dec ?_ ?_ <;> (intro hc; (try simp -implicitDefEqProofs [-loopQ_n, hc, h', f1, f2, f3, wd_reify]))) | (refine condD_intro ?_ ?_ <;> (intro hd; have hc := hd; (try simp at hc) <;> (try simp -implicitDefEqProofs [-loopQ_n, hd, hc, h', f1, f2, f3, wd_reify]))) | (refine guardD_intro ?_ ?_ <;> (intro hd; have hc := hd; (try simp at hc) <;> (try simp -implicitDefEqProofs [-loopQ_n, hd, hc, h', f1, f2, f3, wd_reify]))) | (refine ldD_ep ?_ ?_; (focus kernel_rfl); (try simp -implicitDefEqProofs [-loopQ_n, h', f1, f2, f3, wd_reify])) | (refine callS_mk ?_; (try simp -implicitDefEqProofs [-loopQ_n, h', f1, f2, f3, wd_reify]); (first | refine callS_intro (hG) (.inl rfl) ?_); (try simp -implicitDefEqProofs [-loopQ_n, h', f1, f2, f3, wd_reify])))))
  refine callG_intro (frz_G (id := 0) hS rfl (rowsOf_owns' fun x c hc => by simp [wdC] at hc; rcases hc with rfl | rfl <;> rfl) ?_ rfl ?_)
  · simp [frL, frA]
  simp only [frH, frL, frA, frB]
  ((try simp -implicitDefEqProofs [-loopQ_n, h', f1, f2, f3, wd_reify]) <;> (repeat' (first | (refine condD_dec ?_ ?_ <;> (intro hc; (try simp -implicitDefEqProofs [-loopQ_n, hc, h', f1, f2, f3, wd_reify]))) | (refine guardD_dec ?_ ?_ <;> (intro hc; (try simp -implicitDefEqProofs [-loopQ_n, hc, h', f1, f2, f3, wd_reify]))) | (refine condD_intro ?_ ?_ <;> (intro hd; have hc := hd; (try simp at hc) <;> (try simp -implicitDefEqProofs [-loopQ_n, hd, hc, h', f1, f2, f3, wd_reify]))) | (refine guardD_intro ?_ ?_ <;> (intro hd; have hc := hd; (try simp at hc) <;> (try simp -implicitDefEqProofs [-loopQ_n, hd, hc, h', f1, f2, f3, wd_reify]))) | (refine ldD_ep ?_ ?_; (focus kernel_rfl); (try simp -implicitDefEqProofs [-loopQ_n, h', f1, f2, f3, wd_reify])) | (refine callS_mk ?_; (try simp -implicitDefEqProofs [-loopQ_n, h', f1, f2, f3, wd_reify]); (first | refine callS_intro (hG) (.inl rfl) ?_); (try simp -implicitDefEqProofs [-loopQ_n, h', f1, f2, f3, wd_reify])))))
theorem both (x0 : AV) (s0 : argS Try.prog 22 x0) (x1 : AV) (s1 : argS Try.prog 3 x1) : Pure Try.prog 8 [x0, x1] (.bool true) := by
  obtain ⟨L, rfl, hL, hLw⟩ := arg_vars s0
  obtain ⟨k, rfl, _⟩ := arg_i64 s1
  exact main L hL hLw k
theorem walk (W : World) (hvo : VarsOk W (fun _ => False)) (v0 : Value) (x0 : AV) (r0 : RO W (fun _ => False) x0 v0) (s0 : argS Try.prog 22 x0) (v1 : Value) (x1 : AV) (r1 : RO W (fun _ => False) x1 v1) (s1 : argS Try.prog 3 x1) :
    Calls Try.prog 8 #[v0, v1] W fun e w' => e = .returned (.bool true) ∧ Below W.heap.size W w' := by
  refine ((both x0 s0 x1 s1).2 W (fun _ => False) _ (fun _ h => h.elim) hvo rfl ?_).mono ?_
  · intro j x v hj hv
    match j with
    | 0 => simp at hj hv; subst hj hv; exact r0
    | 1 => simp at hj hv; subst hj hv; exact r1
    | j + 2 => simp at hj
  · rintro e w' ⟨v, rfl, hv, hb⟩
    rw [ro_tt hv]
    exact ⟨rfl, hb⟩
end
set_option maxRecDepth 100000 in
theorem lifted (os : Os) (started : os.Started) (H : Type) (enc : TypeId × Value → H) :
    ReturnsInHanded {} Try.checked os 8 .any (Rows.privacyKeepsSpec.pre6 enc Try.prog Try.f8 Rows.privacyKeepsRow.domain false) (Rows.privacyKeepsSpec.post enc Try.prog Try.f8 false true false false) := by
  refine returnsInHanded_of_change (C := Try.checked) (@ownK { row := fun _ => none }) started (by kernel_rfl) Try.func8
    (ChangeSpec.witness6 (enc := enc) (C := Try.checked) false ⟨#[], #[.slice none 0 0, .int .i64 0], []⟩ 8 (by kernel_rfl) (by kernel_rfl) (by kernel_rfl) (by kernel_rfl)) ?_
  intro W base args ds gs before hval0 hW hcnd _
  have hval : ∀ (j : Nat) t v, Try.f8.params[j]? = some t → args[j]? = some v → Value.okWide Try.prog W .any base t v := hval0
  have hW' := hW
  obtain ⟨p, q, hA0, hV, rfl, hfz, hnd⟩ := hW
  have hA : DataW.TrodAll enc Try.prog W 0 (fun _ => true) true Try.f8.params.toList args.toList ds p := hA0
  rw [Try.params8] at hA hval
  obtain ⟨v0, vs0, d0, ds0, p0, q0, hargs, rfl, rfl, h0, r0⟩ := trodAll_cons hA
  obtain ⟨v1, vs1, d1, ds1, p1, q1, rfl, rfl, rfl, h1, r1⟩ := trodAll_cons r0
  obtain ⟨rfl, rfl, rfl⟩ := trodAll_nil r1
  obtain rfl : args = #[v0, v1] := by cases args; simp_all
  obtain ⟨rfl, rfl⟩ := trodVars_none hV
  letI : Glob := { row := fun _ => none }
  have k0 := h0
  have lt0 : ∀ x ∈ p0, x.block < W.heap.size := by obtain ⟨m, hm⟩ := k0; exact DataW.trod_lt m _ _ _ hm
  obtain ⟨x0, y0, s0⟩ := arg_open (P := Try.prog) (t := 22) (by kernel_rfl) (by kernel_rfl) (hval 0 22 v0 rfl rfl) h0
  have k1 := h1
  have lt1 : ∀ x ∈ p1, x.block < W.heap.size := by obtain ⟨m, hm⟩ := k1; exact DataW.trod_lt m _ _ _ hm
  obtain ⟨x1, y1, s1⟩ := arg_open (P := Try.prog) (t := 3) (by kernel_rfl) (by kernel_rfl) (hval 1 3 v1 rfl rfl) h1
  clear hA0 hval0
  refine (walk W ⟨fun g row h => (by cases h), fun g cs h => (by cases h)⟩ v0 x0 y0 s0 v1 x1 y1 s1).mono fun e W' ⟨he, bel⟩ => ?_
  subst he
  exact ⟨_, rfl, _, _, _, [], _, [], hW', trodAll_mk1 (shut_bool Try.underlying4 _), (trodAll_cons_mk (Below.trod laidK (by kernel_rfl) (of_decide_eq_true (by kernel_rfl)) k0 bel lt0) (trodAll_cons_mk (Below.trod laidK (by kernel_rfl) (of_decide_eq_true (by kernel_rfl)) k1 bel lt1) trodAll_mk0)), rfl, bel.frame _, fun h => by cases h⟩

theorem over : Rows.privacyKeepsRow.holds Try.pinned (OpenSpec.ofChange Rows.privacyKeepsSpec) :=
  OpenClaim.holds_of_wide 8 Try.f8 rfl rfl rfl rfl rfl rfl rfl ⟨rfl, rfl, rfl, rfl, rfl⟩ rfl rfl rfl rfl rfl (by kernel_rfl) Try.func8 (by kernel_rfl)
    (of_decide_eq_true (by kernel_rfl)) (by unfold Func.isWrapper; first | (rw [if_pos (by decide +kernel)]; kernel_rfl) | (rw [if_neg (by decide +kernel)]; exact ⟨rfl, rfl⟩))
    (fun os started H enc _ => lifted os started H enc)

theorem proved : Rows.PrivacyKeepsSaid := over
end Go.Proofs.Ytkppfaennogcmaa.lawPKeeps
