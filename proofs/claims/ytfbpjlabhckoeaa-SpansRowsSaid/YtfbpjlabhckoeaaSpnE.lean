/- Rows of instances (program): spans.Rows. -/
import Derived.Test.YtfbpjlabhckoeaaSpnX
import Derived.Test.YtfbpjlabhckoeaaAbRen
namespace Go.Proofs.Ytfbpjlabhckoeaa
set_option linter.unusedSimpArgs false
set_option linter.unusedVariables false
set_option linter.unnecessarySimpa false
set_option linter.unusedSectionVars false
open Go.RowKit
variable [Glob]
open Stab
set_option maxRecDepth 100000
/-- Numbers, as a row holds them. -/
def nC (x : Nat) : List AV := [.int .i64 (x : Int)]
theorem nC_snoc {l : List Nat} {n : Nat} : rowsOf nC l ++ [[.int .i64 (n : Int)]] = rowsOf nC (l ++ [n]) := by simp [rowsOf, nC]
theorem nC_refs {m : Nat} {l : List Nat} : refsR m (rowsOf nC l) = true := rowsOf_refs fun x => by simp [nC, refs]
theorem rowX_nC {li : List Ins} {X : List (Ix li)} : rowsOf ixC X = rowsOf nC (X.map Ix.i) := by simp [rowsOf, ixC, nC]
theorem int_set {l : List Int} {i : Nat} {n : Int} : (rowsOf intC l).set i [.int .i64 n] = rowsOf intC (l.set i n) := by simp [rowsOf, intC, List.map_set]
theorem ints_idx {p : Int → Bool} {l : List Int} {g : Nat} {caps : List AV} (hp : ∀ x ∈ l, Pure Try.prog g (.int .i64 x :: caps) (.bool (p x))) (hc : ∀ H k, caps.mapM (reify H (k + 5)) = some caps) (hf : refsL 0 caps = true) (hl : l.length ≤ 9223372036854775807) :
    Pure Try.prog 63 [.rs (rowsOf intC l), .fn g caps] (.int .i64 (idxOf p l)) := by
  refine pure_of mixed Try.func63 rfl (by kernel_rfl) (of_decide_eq_true rfl) (by kernel_rfl) (vc_run ?_)
  simp -implicitDefEqProofs []
  refine loop_intro (σ := Nat) (fun i => ⟨[(0, .rs (rowsOf intC l)), (1, .fn g caps), (7, .int .i64 l.length), (8, .int .i64 i)], []⟩) (fun i => i ≤ l.length ∧ allF p (l.take i)) (fun i => l.length - i) 0 ⟨Nat.zero_le _, allF_nil⟩ ?_ ?_
  · refine weak_of 0 0 rfl rfl ?_ ?_ <;> simp [hf]
  · rintro i ⟨hi, hall⟩
    by_cases h : i < l.length
    · simp -implicitDefEqProofs [h, intC]
      have hc8 : ∀ H, caps.mapM (reify H 8) = some caps := fun H => hc H 3
      refine call_intro (hp l[i] (by simp)) (by simp -implicitDefEqProofs [hc8, intC]) (.inl rfl) ?_
      by_cases hpx : p l[i] = true
      · simp -implicitDefEqProofs [hpx]
        exact (idxOf_some p l i h hall hpx).symm
      · have hpx : p l[i] = false := by simpa using hpx
        simp -implicitDefEqProofs [hpx]
        refine ⟨i + 1, ⟨by omega, allF_succ hall h hpx⟩, by omega, weak_of 0 0 rfl rfl ?_ ?_⟩
        · simp [hf]
          exact (wrap_in (by omega) (by omega)).symm
        · simp
    · simp -implicitDefEqProofs [h]
      rw [idxOf_none p l (allF_all hall h)]
def rowsR (l : List Ins) : List Int × Int := if insL l = true then ((rowsL (spsI l)).1, 0) else ([], 1)
theorem prop_drop {sp : List Sp} {n i : Nat} (hi : i < n) : ((List.range n).drop i).filter (prp sp) = (if prp sp i = true then [i] else []) ++ ((List.range n).drop (i + 1)).filter (prp sp) := by
  rw [List.drop_eq_getElem_cons (by simpa using hi), List.filter_cons]
  simp only [List.getElem_range]
  split <;> simp
theorem row_idx {u : List Int} {a : Int} : (u.findIdx? (fun t => decide (t ≤ a)) = none ∧ rowOf u a = u.length) ∨ ∃ k, k < u.length ∧ u.findIdx? (fun t => decide (t ≤ a)) = some k ∧ rowOf u a = k := by
  cases h : u.findIdx? fun t => decide (t ≤ a) with
  | none =>
    refine .inl ⟨rfl, ?_⟩
    unfold rowOf
    rw [List.findIdx_eq_length]
    rwa [List.findIdx?_eq_none_iff] at h
  | some k =>
    refine .inr ⟨k, ?_⟩
    have h' := h
    rw [List.findIdx?_eq_some_iff_findIdx_eq] at h'
    exact ⟨h'.1, rfl, h'.2⟩
/-- The order that sorting gives. -/
theorem ord_sorted {l : List Ins} {X Y : List (Ix l)} (hX : X.map Ix.i = propL (spsI l)) (h1 : Srtd (ltCX cX) Y) (h2 : Stb (ltCX cX) X Y) : Y.map Ix.i = ordL' (spsI l) :=
  ordI_uniq ⟨srtd_map _ cX_lt h1, by rw [← hX]; exact stb_map _ cX_swo (swoI _) cX_lt h2⟩ (ordL_ok _)
set_option maxHeartbeats 8000000 in
theorem rows_pure (l : List Ins) (hl : l.length ≤ 9223372036854775807) : Pure Try.prog 17 [.rs (rowsOf insC l)] (intsO (rowsR l)) := by
  refine pure_of mixed Try.func17 rfl (by kernel_rfl) (of_decide_eq_true rfl) (by kernel_rfl) (vc_run ?_)
  by_cases hV : insL l = true
  rotate_left
  · rw [rowsR, if_neg hV]
    have hV : insL l = false := by simpa using hV
    ((try simp -implicitDefEqProofs [-loopQ_n, hV, intsO, rowsOf_nil]) <;> (repeat' (first | (refine condD_dec ?_ ?_ <;> (intro hc; (try simp -implicitDefEqProofs [-loopQ_n, hc, hV, intsO, rowsOf_nil]))) | (refine guardD_dec ?_ ?_ <;> (intro hc; (try simp -implicitDefEqProofs [-loopQ_n, hc, hV, intsO, rowsOf_nil]))) | (refine condD_intro ?_ ?_ <;> (intro hd; have hc := hd; (try simp at hc) <;> (try simp -implicitDefEqProofs [-loopQ_n, hd, hc, hV, intsO, rowsOf_nil]))) | (refine guardD_intro ?_ ?_ <;> (intro hd; have hc := hd; (try simp at hc) <;> (try simp -implicitDefEqProofs [-loopQ_n, hd, hc, hV, intsO, rowsOf_nil]))) | (refine ldD_ep ?_ ?_; (focus kernel_rfl); (try simp -implicitDefEqProofs [-loopQ_n, hV, intsO, rowsOf_nil])) | (refine callS_mk ?_; (try simp -implicitDefEqProofs [-loopQ_n, hV, intsO, rowsOf_nil]); (first | refine callS_intro (svalid_pure l hl) (.inl rfl) ?_); (try simp -implicitDefEqProofs [-loopQ_n, hV, intsO, rowsOf_nil])))))
  rw [rowsR, if_pos hV]
  obtain ⟨hl2, hm⟩ := insL_mem hV
  have hP : ((List.range l.length).drop 0).filter (prp (spsI l)) = propL (spsI l) := by rw [propL, spsI_len]; rfl
  have hpl : ∀ i ∈ propL (spsI l), i < l.length := fun i hi => by
    obtain ⟨s, h, _⟩ := propL_mem.1 hi
    have := (List.getElem?_eq_some_iff.1 h).1
    rwa [spsI_len] at this
  have hpN : (propL (spsI l)).length ≤ l.length := by
    rw [propL, spsI_len]
    refine Nat.le_trans (List.length_filter_le _ _) (by simp)
  obtain ⟨X, hX⟩ := ix_of _ hpl
  obtain ⟨P, hPP⟩ : ∃ P, propL (spsI l) = P := ⟨_, rfl⟩
  rw [hPP] at hP hpl hpN
  ((try simp -implicitDefEqProofs [-loopQ_n, hV]) <;> (repeat' (first | (refine condD_dec ?_ ?_ <;> (intro hc; (try simp -implicitDefEqProofs [-loopQ_n, hc, hV]))) | (refine guardD_dec ?_ ?_ <;> (intro hc; (try simp -implicitDefEqProofs [-loopQ_n, hc, hV]))) | (refine condD_intro ?_ ?_ <;> (intro hd; have hc := hd; (try simp at hc) <;> (try simp -implicitDefEqProofs [-loopQ_n, hd, hc, hV]))) | (refine guardD_intro ?_ ?_ <;> (intro hd; have hc := hd; (try simp at hc) <;> (try simp -implicitDefEqProofs [-loopQ_n, hd, hc, hV]))) | (refine ldD_ep ?_ ?_; (focus kernel_rfl); (try simp -implicitDefEqProofs [-loopQ_n, hV])) | (refine callS_mk ?_; (try simp -implicitDefEqProofs [-loopQ_n, hV]); (first | refine callS_intro (svalid_pure l hl) (.inl rfl) ?_); (try simp -implicitDefEqProofs [-loopQ_n, hV])))))
  refine loop_intro (σ := Nat × List Nat) (fun x => ⟨[(1, .op 0 0), (4, .os 1 x.2.length), (15, .rs (rowsOf insC l)), (16, .int .i64 l.length), (17, .int .i64 x.1)], [.box 30 [.rs (rowsOf insC l)], .row 3 true (rowsOf nC x.2)]⟩) (fun x => x.1 ≤ l.length ∧ x.2.length ≤ x.1 ∧ x.2 ++ ((List.range l.length).drop x.1).filter (prp (spsI l)) = P) (fun x => l.length - x.1) (0, []) ⟨by simp, by simp, by simpa using hP⟩ ?_ ?_
  · refine weak_of 1 1 rfl rfl ?_ ?_ <;> simp [ins_refs, rowsOf_nil]
  rintro ⟨i, acc⟩ ⟨hi, hal, hR⟩
  simp only at hi hal hR
  by_cases h : i < l.length
  · have w1 := w_succ' h (by omega)
    have hpr := prp_at h
    rw [prop_drop h] at hR
    obtain ⟨⟨cs, a, r, t1, t2, t3⟩, hf⟩ : ∃ e, l[i] = e := ⟨_, rfl⟩
    rw [hf] at hpr
    simp only at hpr
    have hl1 : acc.length ≤ 1073741823 := by omega
    by_cases c1 : t2 < t3
    · rw [if_pos (by rw [hpr]; simpa using c1)] at hR
      ((try simp -implicitDefEqProofs [-loopQ_n, h, hf, insC, c1, w1, hl1, nC_snoc]) <;> (repeat' (first | (refine condD_dec ?_ ?_ <;> (intro hc; (try simp -implicitDefEqProofs [-loopQ_n, hc, h, hf, insC, c1, w1, hl1, nC_snoc]))) | (refine guardD_dec ?_ ?_ <;> (intro hc; (try simp -implicitDefEqProofs [-loopQ_n, hc, h, hf, insC, c1, w1, hl1, nC_snoc]))) | (refine condD_intro ?_ ?_ <;> (intro hd; have hc := hd; (try simp at hc) <;> (try simp -implicitDefEqProofs [-loopQ_n, hd, hc, h, hf, insC, c1, w1, hl1, nC_snoc]))) | (refine guardD_intro ?_ ?_ <;> (intro hd; have hc := hd; (try simp at hc) <;> (try simp -implicitDefEqProofs [-loopQ_n, hd, hc, h, hf, insC, c1, w1, hl1, nC_snoc]))) | (refine ldD_ep ?_ ?_; (focus kernel_rfl); (try simp -implicitDefEqProofs [-loopQ_n, h, hf, insC, c1, w1, hl1, nC_snoc])))))
      refine loop_next (i + 1, acc ++ [i]) ⟨h, by simp; omega, by simpa using hR⟩ (by simp only; omega) (weak_of 2 0 rfl rfl ?_ ?_) <;> simp [ins_refs, nC_refs]
    · rw [if_neg (by rw [hpr]; simpa using c1)] at hR
      ((try simp -implicitDefEqProofs [-loopQ_n, h, hf, insC, c1, w1]) <;> (repeat' (first | (refine condD_dec ?_ ?_ <;> (intro hc; (try simp -implicitDefEqProofs [-loopQ_n, hc, h, hf, insC, c1, w1]))) | (refine guardD_dec ?_ ?_ <;> (intro hc; (try simp -implicitDefEqProofs [-loopQ_n, hc, h, hf, insC, c1, w1]))) | (refine condD_intro ?_ ?_ <;> (intro hd; have hc := hd; (try simp at hc) <;> (try simp -implicitDefEqProofs [-loopQ_n, hd, hc, h, hf, insC, c1, w1]))) | (refine guardD_intro ?_ ?_ <;> (intro hd; have hc := hd; (try simp at hc) <;> (try simp -implicitDefEqProofs [-loopQ_n, hd, hc, h, hf, insC, c1, w1]))) | (refine ldD_ep ?_ ?_; (focus kernel_rfl); (try simp -implicitDefEqProofs [-loopQ_n, h, hf, insC, c1, w1])))))
      refine loop_next (i + 1, acc) ⟨h, by simp only; omega, by simpa using hR⟩ (by simp only; omega) (weak_of 2 0 rfl rfl ?_ ?_) <;> simp [ins_refs, nC_refs]
  have hi : i = l.length := by omega
  rw [List.drop_eq_nil_of_le (by simpa using hi ▸ Nat.le_refl _), List.filter_nil, List.append_nil] at hR
  subst hR
  have hXl : X.length = acc.length := by rw [← List.length_map (f := Ix.i), hX, hPP]
  have hXr : rowsOf nC acc = rowsOf ixC X := by rw [rowX_nC, hX, hPP]
  have hG := sstable_GX (li := l) 60 cX rows1_pure cX_swo (fun A P Q B h1 h2 h3 h4 h5 => sym_allX _ cX rows1_pure cX_swo _ A P Q B (Nat.le_refl _) h1 h2 h3 h4 h5) X acc.length hXl (by omega)
  rw [hXr]
  ((try simp -implicitDefEqProofs [-loopQ_n, h]) <;> (repeat' (first | (refine condD_dec ?_ ?_ <;> (intro hc; (try simp -implicitDefEqProofs [-loopQ_n, hc, h]))) | (refine guardD_dec ?_ ?_ <;> (intro hc; (try simp -implicitDefEqProofs [-loopQ_n, hc, h]))) | (refine condD_intro ?_ ?_ <;> (intro hd; have hc := hd; (try simp at hc) <;> (try simp -implicitDefEqProofs [-loopQ_n, hd, hc, h]))) | (refine guardD_intro ?_ ?_ <;> (intro hd; have hc := hd; (try simp at hc) <;> (try simp -implicitDefEqProofs [-loopQ_n, hd, hc, h]))) | (refine ldD_ep ?_ ?_; (focus kernel_rfl); (try simp -implicitDefEqProofs [-loopQ_n, h])))))
  refine callG_intro (hG.weaken ?_)
  rintro _ _ ⟨rfl, Y, rfl, hY1, hY2⟩
  have hYo := ord_sorted hX hY1 hY2
  rw [show rowX Y = .row 3 true (rowsOf nC (ordL' (spsI l))) by rw [rowX, rowX_nC, hYo]]
  have hol : (ordL' (spsI l)).length = acc.length := by rw [← hYo, List.length_map, ← hY2.1, hXl]
  have hoi : ∀ i ∈ ordL' (spsI l), i < l.length := fun i hi => by
    rw [← hYo] at hi
    obtain ⟨y, _, rfl⟩ := List.mem_map.1 hi
    exact y.lt
  obtain ⟨R, hRR⟩ : ∃ R, rowsL (spsI l) = R := ⟨_, rfl⟩
  rw [hRR]
  rw [rowsL, spsI_len] at hRR
  generalize ordL' (spsI l) = o at *
  have hon : o.length ≤ 2000 := by omega
  rw [← hol]
  clear hol hXl hXr hG hY1 hY2 hYo hPP hP hX hal hpN hpl
  have hli : (l.length : Int) ≤ 1073741824 := by omega
  have hli2 : l.length ≤ 1073741824 := by omega
  have hrep : List.replicate l.length [AV.int .i64 0] = rowsOf intC (List.replicate l.length 0) := by simp [rowsOf, intC]
  ((try simp -implicitDefEqProofs [-loopQ_n, hli, hli2, hrep]) <;> (repeat' (first | (refine condD_dec ?_ ?_ <;> (intro hc; (try simp -implicitDefEqProofs [-loopQ_n, hc, hli, hli2, hrep]))) | (refine guardD_dec ?_ ?_ <;> (intro hc; (try simp -implicitDefEqProofs [-loopQ_n, hc, hli, hli2, hrep]))) | (refine condD_intro ?_ ?_ <;> (intro hd; have hc := hd; (try simp at hc) <;> (try simp -implicitDefEqProofs [-loopQ_n, hd, hc, hli, hli2, hrep]))) | (refine guardD_intro ?_ ?_ <;> (intro hd; have hc := hd; (try simp at hc) <;> (try simp -implicitDefEqProofs [-loopQ_n, hd, hc, hli, hli2, hrep]))) | (refine ldD_ep ?_ ?_; (focus kernel_rfl); (try simp -implicitDefEqProofs [-loopQ_n, hli, hli2, hrep])))))
  refine loop_intro (σ := Nat × List Int × List Int) (fun x => ⟨[(1, .op 0 0), (7, .os 2 l.length), (8, .os 3 x.2.2.length), (38, .os 1 o.length), (39, .int .i64 o.length), (40, .int .i64 x.1)], [bxI l, .row 3 true (rowsOf nC o), .row 3 false (rowsOf intC x.2.1), .row 3 true (rowsOf intC x.2.2)]⟩)
    (fun x => x.1 ≤ o.length ∧ x.2.1.length = l.length ∧ x.2.2.length ≤ x.1 ∧ (o.drop x.1).foldl (stepR (spsI l)) x.2 = R) (fun x => o.length - x.1) (0, List.replicate l.length 0, []) ⟨by simp, by simp, by simp, by simpa using hRR⟩ ?_ ?_
  · refine weak_of 3 1 rfl rfl ?_ ?_ <;> simp [ins_refs, nC_refs, int_refs, rowsOf_nil]
  rintro ⟨k, out, u⟩ ⟨hk, hol, hul, hR⟩
  simp only at hk hol hul hR
  by_cases h : k < o.length
  · have w1 := w_succ' h (by omega)
    have hi := hoi _ (List.getElem_mem h)
    obtain ⟨j, hj⟩ : ∃ j, o[k] = j := ⟨_, rfl⟩
    rw [hj] at hi
    have hI := ints_idx (p := fun t => decide (t ≤ frI (spsI l) j)) (l := u) (g := 64) (caps := [.rp [.rs (rowsOf insC l)], .rp [.int .i64 (j : Int)]]) (fun x _ => rows2_pure x j hi) (fun H k => by simp [ins_reify]) (by simp [refs, ins_refs]) (by omega)
    rw [List.drop_eq_getElem_cons h, List.foldl_cons, hj] at hR
    have hto := toI_at hi
    obtain ⟨⟨cs, a, r, t1, t2, t3⟩, hf⟩ : ∃ e, l[j] = e := ⟨_, rfl⟩
    rw [hf] at hto
    simp only at hto
    rcases row_idx (u := u) (a := frI (spsI l) j) with ⟨f1, f2⟩ | ⟨q, hq, f1, f2⟩
    · have hx : idxOf (fun t => decide (t ≤ frI (spsI l) j)) u = -1 := by simp [idxOf, f1]
      rw [hx] at hI
      have hu1 : u.length ≤ 1073741823 := by omega
      have hR2 : (o.drop (k + 1)).foldl (stepR (spsI l)) (out.set j (u.length : Int), u ++ [t3]) = R := by
        rw [← hR]; simp [stepR, f2, hto]
      have hs : (u ++ [(0 : Int)]).set u.length t3 = u ++ [t3] := by simp
      ((try simp -implicitDefEqProofs [-loopQ_n, h, hj, hi, hf, hol, hs, insC, nC, w1, hu1, int_snoc, int_set, ins_reify, int_reify]) <;> (repeat' (first | (refine condD_dec ?_ ?_ <;> (intro hc; (try simp -implicitDefEqProofs [-loopQ_n, hc, h, hj, hi, hf, hol, hs, insC, nC, w1, hu1, int_snoc, int_set, ins_reify, int_reify]))) | (refine guardD_dec ?_ ?_ <;> (intro hc; (try simp -implicitDefEqProofs [-loopQ_n, hc, h, hj, hi, hf, hol, hs, insC, nC, w1, hu1, int_snoc, int_set, ins_reify, int_reify]))) | (refine condD_intro ?_ ?_ <;> (intro hd; have hc := hd; (try simp at hc) <;> (try simp -implicitDefEqProofs [-loopQ_n, hd, hc, h, hj, hi, hf, hol, hs, insC, nC, w1, hu1, int_snoc, int_set, ins_reify, int_reify]))) | (refine guardD_intro ?_ ?_ <;> (intro hd; have hc := hd; (try simp at hc) <;> (try simp -implicitDefEqProofs [-loopQ_n, hd, hc, h, hj, hi, hf, hol, hs, insC, nC, w1, hu1, int_snoc, int_set, ins_reify, int_reify]))) | (refine ldD_ep ?_ ?_; (focus kernel_rfl); (try simp -implicitDefEqProofs [-loopQ_n, h, hj, hi, hf, hol, hs, insC, nC, w1, hu1, int_snoc, int_set, ins_reify, int_reify])) | (refine callS_mk ?_; (try simp -implicitDefEqProofs [-loopQ_n, h, hj, hi, hf, hol, hs, insC, nC, w1, hu1, int_snoc, int_set, ins_reify, int_reify]); (first | refine callS_intro (hI) (.inl rfl) ?_); (try simp -implicitDefEqProofs [-loopQ_n, h, hj, hi, hf, hol, hs, insC, nC, w1, hu1, int_snoc, int_set, ins_reify, int_reify])))))
      refine loop_next (k + 1, out.set j (u.length : Int), u ++ [t3]) ⟨h, by simpa using hol, by simp; omega, hR2⟩ (by simp only; omega) (weak_of 4 0 rfl rfl ?_ ?_) <;> simp [ins_refs, nC_refs, int_refs, w1]
    · have hx : idxOf (fun t => decide (t ≤ frI (spsI l) j)) u = q := by simp [idxOf, f1]
      rw [hx] at hI
      have n1 : ¬ (q : Int) < 0 := by omega
      have hR2 : (o.drop (k + 1)).foldl (stepR (spsI l)) (out.set j (q : Int), u.set q t3) = R := by
        rw [← hR]; simp [stepR, f2, hto, hq]
      ((try simp -implicitDefEqProofs [-loopQ_n, h, hj, hi, hf, hol, insC, nC, w1, hq, n1, int_set, ins_reify, int_reify]) <;> (repeat' (first | (refine condD_dec ?_ ?_ <;> (intro hc; (try simp -implicitDefEqProofs [-loopQ_n, hc, h, hj, hi, hf, hol, insC, nC, w1, hq, n1, int_set, ins_reify, int_reify]))) | (refine guardD_dec ?_ ?_ <;> (intro hc; (try simp -implicitDefEqProofs [-loopQ_n, hc, h, hj, hi, hf, hol, insC, nC, w1, hq, n1, int_set, ins_reify, int_reify]))) | (refine condD_intro ?_ ?_ <;> (intro hd; have hc := hd; (try simp at hc) <;> (try simp -implicitDefEqProofs [-loopQ_n, hd, hc, h, hj, hi, hf, hol, insC, nC, w1, hq, n1, int_set, ins_reify, int_reify]))) | (refine guardD_intro ?_ ?_ <;> (intro hd; have hc := hd; (try simp at hc) <;> (try simp -implicitDefEqProofs [-loopQ_n, hd, hc, h, hj, hi, hf, hol, insC, nC, w1, hq, n1, int_set, ins_reify, int_reify]))) | (refine ldD_ep ?_ ?_; (focus kernel_rfl); (try simp -implicitDefEqProofs [-loopQ_n, h, hj, hi, hf, hol, insC, nC, w1, hq, n1, int_set, ins_reify, int_reify])) | (refine callS_mk ?_; (try simp -implicitDefEqProofs [-loopQ_n, h, hj, hi, hf, hol, insC, nC, w1, hq, n1, int_set, ins_reify, int_reify]); (first | refine callS_intro (hI) (.inl rfl) ?_); (try simp -implicitDefEqProofs [-loopQ_n, h, hj, hi, hf, hol, insC, nC, w1, hq, n1, int_set, ins_reify, int_reify])))))
      refine loop_next (k + 1, out.set j (q : Int), u.set q t3) ⟨h, by simpa using hol, by simp; omega, hR2⟩ (by simp only; omega) (weak_of 4 0 rfl rfl ?_ ?_) <;> simp [ins_refs, nC_refs, int_refs, w1]
  · rw [List.drop_eq_nil_of_le (by omega), List.foldl_nil] at hR
    subst hR
    ((try simp -implicitDefEqProofs [-loopQ_n, h, hol, intsO, int_reify]) <;> (repeat' (first | (refine condD_dec ?_ ?_ <;> (intro hc; (try simp -implicitDefEqProofs [-loopQ_n, hc, h, hol, intsO, int_reify]))) | (refine guardD_dec ?_ ?_ <;> (intro hc; (try simp -implicitDefEqProofs [-loopQ_n, hc, h, hol, intsO, int_reify]))) | (refine condD_intro ?_ ?_ <;> (intro hd; have hc := hd; (try simp at hc) <;> (try simp -implicitDefEqProofs [-loopQ_n, hd, hc, h, hol, intsO, int_reify]))) | (refine guardD_intro ?_ ?_ <;> (intro hd; have hc := hd; (try simp at hc) <;> (try simp -implicitDefEqProofs [-loopQ_n, hd, hc, h, hol, intsO, int_reify]))) | (refine ldD_ep ?_ ?_; (focus kernel_rfl); (try simp -implicitDefEqProofs [-loopQ_n, h, hol, intsO, int_reify])))))
end Go.Proofs.Ytfbpjlabhckoeaa
