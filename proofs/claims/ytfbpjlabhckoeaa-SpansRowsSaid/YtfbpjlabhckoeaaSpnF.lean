/- Rows of instances (program): the reference's Rows. -/
import Derived.Test.YtfbpjlabhckoeaaSpnE
namespace Go.Proofs.Ytfbpjlabhckoeaa
set_option linter.unusedSimpArgs false
set_option linter.unusedVariables false
set_option linter.unnecessarySimpa false
set_option linter.unusedSectionVars false
open Go.RowKit
variable [Glob]
open Stab
set_option maxRecDepth 100000
theorem rbef_pure {l : List Ins} (i k : Nat) (hi : i < l.length) (hk : k < l.length) : Pure Try.prog 66 [.rs (rowsOf insC l), .int .i64 (i : Int), .int .i64 (k : Int)] (.bool (befI (spsI l) i k)) := by
  have e : befI (spsI l) i k = if frI (spsI l) i = frI (spsI l) k then (if toI (spsI l) i = toI (spsI l) k then decide (i < k) else decide (toI (spsI l) i < toI (spsI l) k)) else decide (frI (spsI l) i < frI (spsI l) k) := by
    unfold befI ltI
    rcases Int.lt_trichotomy (frI (spsI l) i) (frI (spsI l) k) with a | a | a
    · have b : ¬ frI (spsI l) i = frI (spsI l) k := by omega
      simp [a, b]
    · rcases Int.lt_trichotomy (toI (spsI l) i) (toI (spsI l) k) with c | c | c
      · have d : ¬ toI (spsI l) i = toI (spsI l) k := by omega
        simp [a, c, d]
      · simp [a, c]
      · have d : ¬ toI (spsI l) i = toI (spsI l) k := by omega
        have d2 : ¬ toI (spsI l) i < toI (spsI l) k := by omega
        simp [a, c, d, d2]
    · have b : ¬ frI (spsI l) i = frI (spsI l) k := by omega
      have b2 : ¬ frI (spsI l) i < frI (spsI l) k := by omega
      have b3 : ¬ frI (spsI l) k = frI (spsI l) i := by omega
      simp [a, b, b2, b3]
  rw [e, frI_at hi, frI_at hk, toI_at hi, toI_at hk]
  obtain ⟨⟨cs, ac, re, t1, t2, t3⟩, hf⟩ : ∃ e, l[i] = e := ⟨_, rfl⟩
  obtain ⟨⟨cs', ac', re', t1', t2', t3'⟩, hg⟩ : ∃ e, l[k] = e := ⟨_, rfl⟩
  rw [hf, hg]
  simp only
  refine pure_M [1] mixed Try.func66 rfl (by kernel_rfl) (of_decide_eq_true rfl) (by kernel_rfl) (vc_run ?_)
  by_cases c1 : t2 = t2'
  · subst c1
    by_cases c2 : t3 = t3'
    · subst c2
      ((try simp -implicitDefEqProofs [-loopQ_n, hi, hk, hf, hg, insC]) <;> (repeat' (first | (refine condD_dec ?_ ?_ <;> (intro hc; (try simp -implicitDefEqProofs [-loopQ_n, hc, hi, hk, hf, hg, insC]))) | (refine guardD_dec ?_ ?_ <;> (intro hc; (try simp -implicitDefEqProofs [-loopQ_n, hc, hi, hk, hf, hg, insC]))) | (refine condD_intro ?_ ?_ <;> (intro hd; have hc := hd; (try simp at hc) <;> (try simp -implicitDefEqProofs [-loopQ_n, hd, hc, hi, hk, hf, hg, insC]))) | (refine guardD_intro ?_ ?_ <;> (intro hd; have hc := hd; (try simp at hc) <;> (try simp -implicitDefEqProofs [-loopQ_n, hd, hc, hi, hk, hf, hg, insC]))) | (refine ldD_ep ?_ ?_; (focus kernel_rfl); (try simp -implicitDefEqProofs [-loopQ_n, hi, hk, hf, hg, insC])) | ((first | (refine ld2_op ?_ ?_; (focus kernel_rfl)) | (refine ld2_ep ?_ ?_; (focus kernel_rfl)) | (refine nbx_intro ?_ ?_; (focus kernel_rfl)) | (refine nbx_fin ?_; (focus kernel_rfl))); (try simp -implicitDefEqProofs [-loopQ_n, hi, hk, hf, hg, insC])))))
    · ((try simp -implicitDefEqProofs [-loopQ_n, hi, hk, hf, hg, insC, c2]) <;> (repeat' (first | (refine condD_dec ?_ ?_ <;> (intro hc; (try simp -implicitDefEqProofs [-loopQ_n, hc, hi, hk, hf, hg, insC, c2]))) | (refine guardD_dec ?_ ?_ <;> (intro hc; (try simp -implicitDefEqProofs [-loopQ_n, hc, hi, hk, hf, hg, insC, c2]))) | (refine condD_intro ?_ ?_ <;> (intro hd; have hc := hd; (try simp at hc) <;> (try simp -implicitDefEqProofs [-loopQ_n, hd, hc, hi, hk, hf, hg, insC, c2]))) | (refine guardD_intro ?_ ?_ <;> (intro hd; have hc := hd; (try simp at hc) <;> (try simp -implicitDefEqProofs [-loopQ_n, hd, hc, hi, hk, hf, hg, insC, c2]))) | (refine ldD_ep ?_ ?_; (focus kernel_rfl); (try simp -implicitDefEqProofs [-loopQ_n, hi, hk, hf, hg, insC, c2])) | ((first | (refine ld2_op ?_ ?_; (focus kernel_rfl)) | (refine ld2_ep ?_ ?_; (focus kernel_rfl)) | (refine nbx_intro ?_ ?_; (focus kernel_rfl)) | (refine nbx_fin ?_; (focus kernel_rfl))); (try simp -implicitDefEqProofs [-loopQ_n, hi, hk, hf, hg, insC, c2])))))
  · ((try simp -implicitDefEqProofs [-loopQ_n, hi, hk, hf, hg, insC, c1]) <;> (repeat' (first | (refine condD_dec ?_ ?_ <;> (intro hc; (try simp -implicitDefEqProofs [-loopQ_n, hc, hi, hk, hf, hg, insC, c1]))) | (refine guardD_dec ?_ ?_ <;> (intro hc; (try simp -implicitDefEqProofs [-loopQ_n, hc, hi, hk, hf, hg, insC, c1]))) | (refine condD_intro ?_ ?_ <;> (intro hd; have hc := hd; (try simp at hc) <;> (try simp -implicitDefEqProofs [-loopQ_n, hd, hc, hi, hk, hf, hg, insC, c1]))) | (refine guardD_intro ?_ ?_ <;> (intro hd; have hc := hd; (try simp at hc) <;> (try simp -implicitDefEqProofs [-loopQ_n, hd, hc, hi, hk, hf, hg, insC, c1]))) | (refine ldD_ep ?_ ?_; (focus kernel_rfl); (try simp -implicitDefEqProofs [-loopQ_n, hi, hk, hf, hg, insC, c1])) | ((first | (refine ld2_op ?_ ?_; (focus kernel_rfl)) | (refine ld2_ep ?_ ?_; (focus kernel_rfl)) | (refine nbx_intro ?_ ?_; (focus kernel_rfl)) | (refine nbx_fin ?_; (focus kernel_rfl))); (try simp -implicitDefEqProofs [-loopQ_n, hi, hk, hf, hg, insC, c1])))))
theorem tw_take {α : Type} {p : α → Bool} {o : List α} : o.take (o.takeWhile p).length = o.takeWhile p ∧ o.drop (o.takeWhile p).length = o.dropWhile p := by
  have h := List.takeWhile_append_dropWhile (p := p) (l := o)
  have g : ∀ a b : List α, a ++ b = o → o.take a.length = a ∧ o.drop a.length = b := fun a b e => by
    subst e; exact ⟨List.take_left' rfl, List.drop_left' rfl⟩
  exact g _ _ h
theorem insI_len {sp : List Sp} {o : List Nat} {i : Nat} : (insI' sp o i).length = o.length + 1 := by
  unfold insI'
  have h := congrArg List.length (List.takeWhile_append_dropWhile (p := fun k => befI sp k i) (l := o))
  rw [List.length_append] at h
  rw [List.length_append, List.length_cons]; omega
theorem insI_mem {sp : List Sp} {o : List Nat} {i x : Nat} (h : x ∈ insI' sp o i) : x ∈ o ∨ x = i := by
  unfold insI' at h
  have e := List.takeWhile_append_dropWhile (p := fun k => befI sp k i) (l := o)
  rw [← e]
  simp only [List.mem_append, List.mem_cons] at h ⊢
  rcases h with h | h | h
  · exact .inl (.inl h)
  · exact .inr h
  · exact .inl (.inr h)
theorem intR_mB {ρ : Nat → Nat} {t : TypeId} {nb : Bool} {l : List Int} : mB ρ (.row t nb (rowsOf intC l)) = .row t nb (rowsOf intC l) := by
  simp only [mB, rowsOf, List.map_map]
  congr 1
theorem nR_mB {ρ : Nat → Nat} {t : TypeId} {nb : Bool} {l : List Nat} : mB ρ (.row t nb (rowsOf nC l)) = .row t nb (rowsOf nC l) := by
  simp only [mB, rowsOf, List.map_map]
  congr 1
/-- An own slice, or none as yet. -/
def oS (id : Nat) (o : List Nat) : AV := if o = [] then .nils else .os id o.length
theorem oS_nil {id : Nat} : oS id [] = .nils := rfl
theorem oS_ne {id : Nat} {o : List Nat} (h : o ≠ []) : oS id o = .os id o.length := if_neg h
theorem oS_refs {id m : Nat} {o : List Nat} (h : id < m) : refs m (oS id o) = true := by
  unfold oS; split <;> simp [refs, h]
set_option maxHeartbeats 8000000 in
theorem rrows_pure (l : List Ins) (hl : l.length ≤ 9223372036854775807) : Pure Try.prog 18 [.rs (rowsOf insC l)] (intsO (rowsR l)) := by
  refine pure_of mixed Try.func18 rfl (by kernel_rfl) (of_decide_eq_true rfl) (by kernel_rfl) (vc_run ?_)
  by_cases hV : insL l = true
  rotate_left
  · rw [rowsR, if_neg hV]
    have hV : insL l = false := by simpa using hV
    ((try simp -implicitDefEqProofs [-loopQ_n, hV, intsO, rowsOf_nil]) <;> (repeat' (first | (refine condD_dec ?_ ?_ <;> (intro hc; (try simp -implicitDefEqProofs [-loopQ_n, hc, hV, intsO, rowsOf_nil]))) | (refine guardD_dec ?_ ?_ <;> (intro hc; (try simp -implicitDefEqProofs [-loopQ_n, hc, hV, intsO, rowsOf_nil]))) | (refine condD_intro ?_ ?_ <;> (intro hd; have hc := hd; (try simp at hc) <;> (try simp -implicitDefEqProofs [-loopQ_n, hd, hc, hV, intsO, rowsOf_nil]))) | (refine guardD_intro ?_ ?_ <;> (intro hd; have hc := hd; (try simp at hc) <;> (try simp -implicitDefEqProofs [-loopQ_n, hd, hc, hV, intsO, rowsOf_nil]))) | (refine ldD_ep ?_ ?_; (focus kernel_rfl); (try simp -implicitDefEqProofs [-loopQ_n, hV, intsO, rowsOf_nil])) | (refine callS_mk ?_; (try simp -implicitDefEqProofs [-loopQ_n, hV, intsO, rowsOf_nil]); (first | refine callS_intro (rsvalid_pure l hl) (.inl rfl) ?_); (try simp -implicitDefEqProofs [-loopQ_n, hV, intsO, rowsOf_nil])))))
  rw [rowsR, if_pos hV]
  obtain ⟨hl2, hm⟩ := insL_mem hV
  have hli : (l.length : Int) ≤ 1073741824 := by omega
  have hli2 : l.length ≤ 1073741824 := by omega
  have hrep : List.replicate l.length [AV.int .i64 0] = rowsOf intC (List.replicate l.length 0) := by simp [rowsOf, intC]
  obtain ⟨O, hO⟩ : ∃ O, ordL' (spsI l) = O := ⟨_, rfl⟩
  obtain ⟨R, hRR⟩ : ∃ R, rowsL (spsI l) = R := ⟨_, rfl⟩
  rw [hRR]
  rw [rowsL, spsI_len, hO] at hRR
  rw [ordL', spsI_len] at hO
  obtain ⟨z, hz⟩ : ∃ z, List.replicate l.length (0 : Int) = z := ⟨_, rfl⟩
  have hzl : z.length = l.length := by rw [← hz]; simp
  rw [hz] at hrep hRR
  ((try simp -implicitDefEqProofs [-loopQ_n, hV, hli, hli2, hrep]) <;> (repeat' (first | (refine condD_dec ?_ ?_ <;> (intro hc; (try simp -implicitDefEqProofs [-loopQ_n, hc, hV, hli, hli2, hrep]))) | (refine guardD_dec ?_ ?_ <;> (intro hc; (try simp -implicitDefEqProofs [-loopQ_n, hc, hV, hli, hli2, hrep]))) | (refine condD_intro ?_ ?_ <;> (intro hd; have hc := hd; (try simp at hc) <;> (try simp -implicitDefEqProofs [-loopQ_n, hd, hc, hV, hli, hli2, hrep]))) | (refine guardD_intro ?_ ?_ <;> (intro hd; have hc := hd; (try simp at hc) <;> (try simp -implicitDefEqProofs [-loopQ_n, hd, hc, hV, hli, hli2, hrep]))) | (refine ldD_ep ?_ ?_; (focus kernel_rfl); (try simp -implicitDefEqProofs [-loopQ_n, hV, hli, hli2, hrep])) | (refine callS_mk ?_; (try simp -implicitDefEqProofs [-loopQ_n, hV, hli, hli2, hrep]); (first | refine callS_intro (rsvalid_pure l hl) (.inl rfl) ?_); (try simp -implicitDefEqProofs [-loopQ_n, hV, hli, hli2, hrep])))))
  refine loop_intro (σ := Nat × List Nat × Bool) (fun x => ⟨[(0, .rs (rowsOf insC l)), (4, oS 1 x.2.1), (5, .os 0 l.length), (6, .int .i64 x.1)], [.row 3 false (rowsOf intC z), .row 3 x.2.2 (rowsOf nC x.2.1)]⟩)
    (fun x => x.1 ≤ l.length ∧ x.2.1.length ≤ x.1 ∧ (∀ k ∈ x.2.1, k < l.length) ∧ ((List.range l.length).drop x.1).foldl (stepO (spsI l)) x.2.1 = O) (fun x => l.length - x.1) (0, [], true) ⟨by simp, by simp, by simp, by simpa using hO⟩ ?_ ?_
  · refine weak_of 1 1 rfl rfl ?_ ?_ <;> simp [ins_refs, int_refs, rowsOf_nil, oS_nil]
  clear hO
  rintro ⟨i, o, nb⟩ ⟨hi, hol, hom, hR⟩
  simp only at hi hol hom hR
  by_cases h : i < l.length
  · have w1 := w_succ' h (by omega)
    have hpr := prp_at h
    rw [List.drop_eq_getElem_cons (by simpa using h), List.foldl_cons, List.getElem_range] at hR
    obtain ⟨⟨cs, a, r, t1, t2, t3⟩, hf⟩ : ∃ e, l[i] = e := ⟨_, rfl⟩
    rw [hf] at hpr
    simp only at hpr
    have hvi := hm l[i] (List.getElem_mem h)
    rw [hf] at hvi
    have hbi := insV_bd hvi
    simp only at hbi
    by_cases c1 : t2 = t3
    · have hst : stepO (spsI l) o i = o := by unfold stepO; rw [hpr, if_neg]; simp; omega
      rw [hst] at hR
      have hr := oS_refs (id := 1) (m := 2) (o := o) (by omega)
      ((try simp -implicitDefEqProofs [-loopQ_n, h, hf, insC, c1, w1]) <;> (repeat' (first | (refine condD_dec ?_ ?_ <;> (intro hc; (try simp -implicitDefEqProofs [-loopQ_n, hc, h, hf, insC, c1, w1]))) | (refine guardD_dec ?_ ?_ <;> (intro hc; (try simp -implicitDefEqProofs [-loopQ_n, hc, h, hf, insC, c1, w1]))) | (refine condD_intro ?_ ?_ <;> (intro hd; have hc := hd; (try simp at hc) <;> (try simp -implicitDefEqProofs [-loopQ_n, hd, hc, h, hf, insC, c1, w1]))) | (refine guardD_intro ?_ ?_ <;> (intro hd; have hc := hd; (try simp at hc) <;> (try simp -implicitDefEqProofs [-loopQ_n, hd, hc, h, hf, insC, c1, w1]))) | (refine ldD_ep ?_ ?_; (focus kernel_rfl); (try simp -implicitDefEqProofs [-loopQ_n, h, hf, insC, c1, w1])))))
      refine loop_next (i + 1, o, nb) ⟨h, by simp only; omega, hom, hR⟩ (by simp only; omega) (weak_of 2 0 rfl rfl ?_ ?_) <;> simp [ins_refs, nC_refs, int_refs, w1, hr]
    · have hst : stepO (spsI l) o i = insI' (spsI l) o i := by unfold stepO; rw [hpr, if_pos]; simp; omega
      rw [hst] at hR
      have hil := insI_len (sp := spsI l) (o := o) (i := i)
      have him : ∀ x ∈ insI' (spsI l) o i, x < l.length := fun x hx => (insI_mem hx).elim (hom x) (fun e => e ▸ h)
      by_cases hne : o = []
      · subst hne
        rw [oS_nil]
        have hin : insI' (spsI l) [] i = [i] := rfl
        rw [hin] at hR
        ((try simp -implicitDefEqProofs [-loopQ_n, h, hf, insC, c1, w1]) <;> (repeat' (first | (refine condD_dec ?_ ?_ <;> (intro hc; (try simp -implicitDefEqProofs [-loopQ_n, hc, h, hf, insC, c1, w1]))) | (refine guardD_dec ?_ ?_ <;> (intro hc; (try simp -implicitDefEqProofs [-loopQ_n, hc, h, hf, insC, c1, w1]))) | (refine condD_intro ?_ ?_ <;> (intro hd; have hc := hd; (try simp at hc) <;> (try simp -implicitDefEqProofs [-loopQ_n, hd, hc, h, hf, insC, c1, w1]))) | (refine guardD_intro ?_ ?_ <;> (intro hd; have hc := hd; (try simp at hc) <;> (try simp -implicitDefEqProofs [-loopQ_n, hd, hc, h, hf, insC, c1, w1]))) | (refine ldD_ep ?_ ?_; (focus kernel_rfl); (try simp -implicitDefEqProofs [-loopQ_n, h, hf, insC, c1, w1])))))
        refine loop_intro (σ := Unit) (fun x => ⟨[(0, .rs (rowsOf insC l)), (4, .nils), (5, .os 0 l.length), (6, .int .i64 i), (7, .nils), (8, .int .i64 0)], [.row 3 false (rowsOf intC z), .row 3 nb (rowsOf nC [])]⟩)
          (fun x => True) (fun x => 0) () trivial ?_ ?_
        · refine weak_of 2 0 rfl rfl ?_ ?_ <;> simp [ins_refs, int_refs, nC_refs]
        rintro _ _
        ((try simp -implicitDefEqProofs [-loopQ_n, w1]) <;> (repeat' (first | (refine condD_dec ?_ ?_ <;> (intro hc; (try simp -implicitDefEqProofs [-loopQ_n, hc, w1]))) | (refine guardD_dec ?_ ?_ <;> (intro hc; (try simp -implicitDefEqProofs [-loopQ_n, hc, w1]))) | (refine condD_intro ?_ ?_ <;> (intro hd; have hc := hd; (try simp at hc) <;> (try simp -implicitDefEqProofs [-loopQ_n, hd, hc, w1]))) | (refine guardD_intro ?_ ?_ <;> (intro hd; have hc := hd; (try simp at hc) <;> (try simp -implicitDefEqProofs [-loopQ_n, hd, hc, w1]))) | (refine ldD_ep ?_ ?_; (focus kernel_rfl); (try simp -implicitDefEqProofs [-loopQ_n, w1])))))
        refine loop_next (i + 1, [i], false) ⟨h, by simp, fun k hk => by simp at hk; subst hk; exact h, hR⟩ (by simp only; omega) (weak_new 1 2 [.row 3 false (rowsOf intC z)] (.row 3 false (rowsOf nC [i])) (by simp) (by simp) (by simp) fun ρ h1 h2 => ⟨?_, ?_, ?_⟩)
        · simp [-mB, intR_mB]
        · simp only [nR_mB]; rfl
        · simp [tEq, w1, mA, h1, h2, oS]
      rw [oS_ne hne]
      have h0 : 0 < o.length := List.length_pos_iff.2 hne
      obtain ⟨J, hJ⟩ : ∃ J, (o.takeWhile fun k => befI (spsI l) k i).length = J := ⟨_, rfl⟩
      have hin : insI' (spsI l) o i = o.take J ++ i :: o.drop J := by
        obtain ⟨e1, e2⟩ := tw_take (p := fun k => befI (spsI l) k i) (o := o)
        rw [hJ] at e1 e2
        rw [e1, e2]; rfl
      generalize insI' (spsI l) o i = o' at *
      ((try simp -implicitDefEqProofs [-loopQ_n, h, hf, insC, c1, w1]) <;> (repeat' (first | (refine condD_dec ?_ ?_ <;> (intro hc; (try simp -implicitDefEqProofs [-loopQ_n, hc, h, hf, insC, c1, w1]))) | (refine guardD_dec ?_ ?_ <;> (intro hc; (try simp -implicitDefEqProofs [-loopQ_n, hc, h, hf, insC, c1, w1]))) | (refine condD_intro ?_ ?_ <;> (intro hd; have hc := hd; (try simp at hc) <;> (try simp -implicitDefEqProofs [-loopQ_n, hd, hc, h, hf, insC, c1, w1]))) | (refine guardD_intro ?_ ?_ <;> (intro hd; have hc := hd; (try simp at hc) <;> (try simp -implicitDefEqProofs [-loopQ_n, hd, hc, h, hf, insC, c1, w1]))) | (refine ldD_ep ?_ ?_; (focus kernel_rfl); (try simp -implicitDefEqProofs [-loopQ_n, h, hf, insC, c1, w1])))))
      refine loop_intro (σ := Nat) (fun x => ⟨[(0, .rs (rowsOf insC l)), (4, .os 1 o.length), (5, .os 0 l.length), (6, .int .i64 i), (7, .os 2 0), (8, .int .i64 x)], [.row 3 false (rowsOf intC z), .row 3 nb (rowsOf nC o), .row 3 true []]⟩)
        (fun x => x ≤ o.length ∧ x + ((o.drop x).takeWhile fun k => befI (spsI l) k i).length = J) (fun x => o.length - x) 0 ⟨by simp, by simpa using hJ⟩ ?_ ?_
      · refine weak_of 2 1 rfl rfl ?_ ?_ <;> simp [ins_refs, int_refs, nC_refs]
      rintro j ⟨hj, hjJ⟩
      have hjr : (j : Int) ≤ o.length := by omega
      have hjn : o.length ≤ 1073741823 := by omega
      by_cases g : j < o.length
      · have w2 := w_succ' g (by omega)
        rw [List.drop_eq_getElem_cons g, List.takeWhile_cons] at hjJ
        have hjm := hom _ (List.getElem_mem g)
        obtain ⟨k, hk⟩ : ∃ k, o[j] = k := ⟨_, rfl⟩
        rw [hk] at hjJ hjm
        have hB := rbef_pure k i hjm h
        cases hb : befI (spsI l) k i with
        | true =>
          rw [hb] at hjJ hB
          ((try simp -implicitDefEqProofs [-loopQ_n, g, hk, nC, w2]) <;> (repeat' (first | (refine condD_dec ?_ ?_ <;> (intro hc; (try simp -implicitDefEqProofs [-loopQ_n, hc, g, hk, nC, w2]))) | (refine guardD_dec ?_ ?_ <;> (intro hc; (try simp -implicitDefEqProofs [-loopQ_n, hc, g, hk, nC, w2]))) | (refine condD_intro ?_ ?_ <;> (intro hd; have hc := hd; (try simp at hc) <;> (try simp -implicitDefEqProofs [-loopQ_n, hd, hc, g, hk, nC, w2]))) | (refine guardD_intro ?_ ?_ <;> (intro hd; have hc := hd; (try simp at hc) <;> (try simp -implicitDefEqProofs [-loopQ_n, hd, hc, g, hk, nC, w2]))) | (refine ldD_ep ?_ ?_; (focus kernel_rfl); (try simp -implicitDefEqProofs [-loopQ_n, g, hk, nC, w2])) | (refine callS_mk ?_; (try simp -implicitDefEqProofs [-loopQ_n, g, hk, nC, w2]); (first | refine callS_intro (hB) (.inl rfl) ?_); (try simp -implicitDefEqProofs [-loopQ_n, g, hk, nC, w2])))))
          refine loop_next (j + 1) ⟨g, by rw [← hjJ]; simp; omega⟩ (by omega) (weak_of 3 0 rfl rfl ?_ ?_) <;> simp [ins_refs, nC_refs, int_refs, w2]
        | false =>
          rw [hb] at hjJ hB
          have hjJ : j = J := by simpa using hjJ
          subst hjJ
          have hlen2 : j + 1 + (o.length - j) = o'.length := by rw [hil]; omega
          have hlen3 : o'.length ≤ 1073741824 := by omega
          have hlen5 : j + 1 + (o.length - j) ≤ 1073741824 := by omega
          have hlen4 : j ≤ 1073741823 := by omega
          have hTk : List.take o.length (rowsOf nC o) = rowsOf nC o := List.take_of_length_le (by rw [rowsOf_length]; exact Nat.le_refl _)
          have hrow : List.take j (rowsOf nC o) ++ [AV.int .i64 (i : Int)] :: List.drop j (rowsOf nC o) = rowsOf nC o' := by rw [hin]; simp [rowsOf, nC, List.map_take, List.map_drop]
          have hone : oS 1 o' = .os 1 o'.length := oS_ne (fun q => by rw [q] at hil; simp at hil)
          have hj4 : j ≤ 1073741824 := by omega
          ((try simp -implicitDefEqProofs [-loopQ_n, g, hk, nC, w1, w2, h0, hj, hjr, hjn, hj4, hlen2, hlen3, hlen4, hlen5, hTk, hrow]) <;> (repeat' (first | (refine condD_dec ?_ ?_ <;> (intro hc; (try simp -implicitDefEqProofs [-loopQ_n, hc, g, hk, nC, w1, w2, h0, hj, hjr, hjn, hj4, hlen2, hlen3, hlen4, hlen5, hTk, hrow]))) | (refine guardD_dec ?_ ?_ <;> (intro hc; (try simp -implicitDefEqProofs [-loopQ_n, hc, g, hk, nC, w1, w2, h0, hj, hjr, hjn, hj4, hlen2, hlen3, hlen4, hlen5, hTk, hrow]))) | (refine condD_intro ?_ ?_ <;> (intro hd; have hc := hd; (try simp at hc) <;> (try simp -implicitDefEqProofs [-loopQ_n, hd, hc, g, hk, nC, w1, w2, h0, hj, hjr, hjn, hj4, hlen2, hlen3, hlen4, hlen5, hTk, hrow]))) | (refine guardD_intro ?_ ?_ <;> (intro hd; have hc := hd; (try simp at hc) <;> (try simp -implicitDefEqProofs [-loopQ_n, hd, hc, g, hk, nC, w1, w2, h0, hj, hjr, hjn, hj4, hlen2, hlen3, hlen4, hlen5, hTk, hrow]))) | (refine ldD_ep ?_ ?_; (focus kernel_rfl); (try simp -implicitDefEqProofs [-loopQ_n, g, hk, nC, w1, w2, h0, hj, hjr, hjn, hj4, hlen2, hlen3, hlen4, hlen5, hTk, hrow])) | (refine callS_mk ?_; (try simp -implicitDefEqProofs [-loopQ_n, g, hk, nC, w1, w2, h0, hj, hjr, hjn, hj4, hlen2, hlen3, hlen4, hlen5, hTk, hrow]); (first | refine callS_intro (hB) (.inl rfl) ?_); (try simp -implicitDefEqProofs [-loopQ_n, g, hk, nC, w1, w2, h0, hj, hjr, hjn, hj4, hlen2, hlen3, hlen4, hlen5, hTk, hrow])))))
          refine loop_next (i + 1, o', true) ⟨h, by simp only; omega, him, hR⟩ (by simp only; omega) (weak_new 1 1 [.row 3 false (rowsOf intC z)] (.row 3 true (rowsOf nC o')) (by simp) (by simp) (by simp) fun ρ h1 h2 => ⟨?_, ?_, ?_⟩)
          · simp [-mB, intR_mB]
          · simp [-mB, nR_mB]
          · simp [tEq, w1, mA, h1, h2, hone]
      · have hjo : j = o.length := by omega
        rw [List.drop_eq_nil_of_le (by omega)] at hjJ
        have hjJ : j = J := by simpa using hjJ
        subst hjJ
        have hlen2 : j + 1 + (o.length - j) = o'.length := by rw [hil]; omega
        have hlen3 : o'.length ≤ 1073741824 := by omega
        have hlen5 : j + 1 + (o.length - j) ≤ 1073741824 := by omega
        have hlen4 : j ≤ 1073741823 := by omega
        have hTk : List.take o.length (rowsOf nC o) = rowsOf nC o := List.take_of_length_le (by rw [rowsOf_length]; exact Nat.le_refl _)
        have hrow : List.take j (rowsOf nC o) ++ [AV.int .i64 (i : Int)] :: List.drop j (rowsOf nC o) = rowsOf nC o' := by rw [hin]; simp [rowsOf, nC, List.map_take, List.map_drop]
        have hone : oS 1 o' = .os 1 o'.length := oS_ne (fun q => by rw [q] at hil; simp at hil)
        have hal : allLen 1 (rowsOf nC o) = true := rowsOf_allLen fun x => rfl
        have hj4 : j ≤ 1073741824 := by omega
        ((try simp -implicitDefEqProofs [-loopQ_n, g, w1, h0, hj, hjr, hjn, hj4, hal, hlen2, hlen3, hlen4, hlen5, hTk, hrow]) <;> (repeat' (first | (refine condD_dec ?_ ?_ <;> (intro hc; (try simp -implicitDefEqProofs [-loopQ_n, hc, g, w1, h0, hj, hjr, hjn, hj4, hal, hlen2, hlen3, hlen4, hlen5, hTk, hrow]))) | (refine guardD_dec ?_ ?_ <;> (intro hc; (try simp -implicitDefEqProofs [-loopQ_n, hc, g, w1, h0, hj, hjr, hjn, hj4, hal, hlen2, hlen3, hlen4, hlen5, hTk, hrow]))) | (refine condD_intro ?_ ?_ <;> (intro hd; have hc := hd; (try simp at hc) <;> (try simp -implicitDefEqProofs [-loopQ_n, hd, hc, g, w1, h0, hj, hjr, hjn, hj4, hal, hlen2, hlen3, hlen4, hlen5, hTk, hrow]))) | (refine guardD_intro ?_ ?_ <;> (intro hd; have hc := hd; (try simp at hc) <;> (try simp -implicitDefEqProofs [-loopQ_n, hd, hc, g, w1, h0, hj, hjr, hjn, hj4, hal, hlen2, hlen3, hlen4, hlen5, hTk, hrow]))) | (refine ldD_ep ?_ ?_; (focus kernel_rfl); (try simp -implicitDefEqProofs [-loopQ_n, g, w1, h0, hj, hjr, hjn, hj4, hal, hlen2, hlen3, hlen4, hlen5, hTk, hrow])))))
        refine loop_next (i + 1, o', true) ⟨h, by simp only; omega, him, hR⟩ (by simp only; omega) (weak_new 1 1 [.row 3 false (rowsOf intC z)] (.row 3 true (rowsOf nC o')) (by simp) (by simp) (by simp) fun ρ h1 h2 => ⟨?_, ?_, ?_⟩)
        · simp [-mB, intR_mB]
        · simp [-mB, nR_mB]
        · simp [tEq, w1, mA, h1, h2, hone]
  rw [List.drop_eq_nil_of_le (by simp; omega), List.foldl_nil] at hR
  subst hR
  by_cases hne : o = []
  · subst hne
    rw [List.foldl_nil] at hRR
    subst hRR
    simp only [oS_nil]
    ((try simp -implicitDefEqProofs [-loopQ_n, h]) <;> (repeat' (first | (refine condD_dec ?_ ?_ <;> (intro hc; (try simp -implicitDefEqProofs [-loopQ_n, hc, h]))) | (refine guardD_dec ?_ ?_ <;> (intro hc; (try simp -implicitDefEqProofs [-loopQ_n, hc, h]))) | (refine condD_intro ?_ ?_ <;> (intro hd; have hc := hd; (try simp at hc) <;> (try simp -implicitDefEqProofs [-loopQ_n, hd, hc, h]))) | (refine guardD_intro ?_ ?_ <;> (intro hd; have hc := hd; (try simp at hc) <;> (try simp -implicitDefEqProofs [-loopQ_n, hd, hc, h]))) | (refine ldD_ep ?_ ?_; (focus kernel_rfl); (try simp -implicitDefEqProofs [-loopQ_n, h])))))
    refine loop_intro (σ := Unit) (fun x => ⟨[(0, .rs (rowsOf insC l)), (4, .nils), (5, .os 0 l.length), (9, .nils), (10, .int .i64 0)], [.row 3 false (rowsOf intC z), .row 3 nb (rowsOf nC [])]⟩)
      (fun x => True) (fun x => 0) () trivial ?_ ?_
    · refine weak_of 2 0 rfl rfl ?_ ?_ <;> simp [ins_refs, int_refs, nC_refs]
    rintro _ _
    ((try simp -implicitDefEqProofs [-loopQ_n, intsO, int_reify, hzl]) <;> (repeat' (first | (refine condD_dec ?_ ?_ <;> (intro hc; (try simp -implicitDefEqProofs [-loopQ_n, hc, intsO, int_reify, hzl]))) | (refine guardD_dec ?_ ?_ <;> (intro hc; (try simp -implicitDefEqProofs [-loopQ_n, hc, intsO, int_reify, hzl]))) | (refine condD_intro ?_ ?_ <;> (intro hd; have hc := hd; (try simp at hc) <;> (try simp -implicitDefEqProofs [-loopQ_n, hd, hc, intsO, int_reify, hzl]))) | (refine guardD_intro ?_ ?_ <;> (intro hd; have hc := hd; (try simp at hc) <;> (try simp -implicitDefEqProofs [-loopQ_n, hd, hc, intsO, int_reify, hzl]))) | (refine ldD_ep ?_ ?_; (focus kernel_rfl); (try simp -implicitDefEqProofs [-loopQ_n, intsO, int_reify, hzl])))))
  simp only [oS_ne hne]
  have h0 : 0 < o.length := List.length_pos_iff.2 hne
  ((try simp -implicitDefEqProofs [-loopQ_n, h]) <;> (repeat' (first | (refine condD_dec ?_ ?_ <;> (intro hc; (try simp -implicitDefEqProofs [-loopQ_n, hc, h]))) | (refine guardD_dec ?_ ?_ <;> (intro hc; (try simp -implicitDefEqProofs [-loopQ_n, hc, h]))) | (refine condD_intro ?_ ?_ <;> (intro hd; have hc := hd; (try simp at hc) <;> (try simp -implicitDefEqProofs [-loopQ_n, hd, hc, h]))) | (refine guardD_intro ?_ ?_ <;> (intro hd; have hc := hd; (try simp at hc) <;> (try simp -implicitDefEqProofs [-loopQ_n, hd, hc, h]))) | (refine ldD_ep ?_ ?_; (focus kernel_rfl); (try simp -implicitDefEqProofs [-loopQ_n, h])))))
  refine loop_intro (σ := Nat × List Int × List Int) (fun x => ⟨[(0, .rs (rowsOf insC l)), (4, .os 1 o.length), (5, .os 0 l.length), (9, .os 2 x.2.2.length), (10, .int .i64 x.1)], [.row 3 false (rowsOf intC x.2.1), .row 3 nb (rowsOf nC o), .row 3 true (rowsOf intC x.2.2)]⟩)
    (fun x => x.1 ≤ o.length ∧ x.2.1.length = l.length ∧ x.2.2.length ≤ x.1 ∧ (o.drop x.1).foldl (stepR (spsI l)) x.2 = R) (fun x => o.length - x.1) (0, z, []) ⟨by simp, hzl, by simp, by simpa using hRR⟩ ?_ ?_
  · refine weak_of 2 1 rfl rfl ?_ ?_ <;> simp [ins_refs, nC_refs, int_refs, rowsOf_nil]
  rintro ⟨k, out, u⟩ ⟨hk, hou, hul, hR⟩
  simp only at hk hou hul hR
  by_cases g : k < o.length
  · have w1 := w_succ' g (by omega)
    have hi2 := hom _ (List.getElem_mem g)
    obtain ⟨j, hj⟩ : ∃ j, o[k] = j := ⟨_, rfl⟩
    rw [hj] at hi2
    rw [List.drop_eq_getElem_cons g, List.foldl_cons, hj] at hR
    have hto := toI_at hi2
    have hfr := frI_at hi2
    obtain ⟨⟨cs, a, r, t1, t2, t3⟩, hf⟩ : ∃ e, l[j] = e := ⟨_, rfl⟩
    rw [hf] at hto hfr
    simp only at hto hfr
    obtain ⟨Q, hQ⟩ : ∃ Q, rowOf u t2 = Q := ⟨_, rfl⟩
    ((try simp -implicitDefEqProofs [-loopQ_n, g, hj, hi2, hf, nC, insC]) <;> (repeat' (first | (refine condD_dec ?_ ?_ <;> (intro hc; (try simp -implicitDefEqProofs [-loopQ_n, hc, g, hj, hi2, hf, nC, insC]))) | (refine guardD_dec ?_ ?_ <;> (intro hc; (try simp -implicitDefEqProofs [-loopQ_n, hc, g, hj, hi2, hf, nC, insC]))) | (refine condD_intro ?_ ?_ <;> (intro hd; have hc := hd; (try simp at hc) <;> (try simp -implicitDefEqProofs [-loopQ_n, hd, hc, g, hj, hi2, hf, nC, insC]))) | (refine guardD_intro ?_ ?_ <;> (intro hd; have hc := hd; (try simp at hc) <;> (try simp -implicitDefEqProofs [-loopQ_n, hd, hc, g, hj, hi2, hf, nC, insC]))) | (refine ldD_ep ?_ ?_; (focus kernel_rfl); (try simp -implicitDefEqProofs [-loopQ_n, g, hj, hi2, hf, nC, insC])))))
    refine loop_intro (σ := Nat) (fun q => ⟨[(0, .rs (rowsOf insC l)), (4, .os 1 o.length), (5, .os 0 l.length), (9, .os 2 u.length), (10, .int .i64 k), (11, .op 3 0), (12, .int .i64 q)], [.row 3 false (rowsOf intC out), .row 3 nb (rowsOf nC o), .row 3 true (rowsOf intC u), .box 26 [.str cs, .str a, .str r, .int .i64 t1, .int .i64 t2, .int .i64 t3]]⟩)
      (fun q => q ≤ u.length ∧ q + rowOf (u.drop q) t2 = Q) (fun q => u.length - q) 0 ⟨by simp, by simpa using hQ⟩ ?_ ?_
    · refine weak_of 4 0 rfl rfl ?_ ?_ <;> simp [ins_refs, nC_refs, int_refs]
    rintro q ⟨hq, hqQ⟩
    by_cases g2 : q < u.length
    · have w2 := w_succ' g2 (by omega)
      obtain ⟨x, hx⟩ : ∃ x, u[q] = x := ⟨_, rfl⟩
      rw [List.drop_eq_getElem_cons g2, hx, rowOf, List.findIdx_cons] at hqQ
      by_cases c : x ≤ t2
      · have hqe : q = Q := by simpa [c] using hqQ
        subst hqe
        have c2 : ¬ t2 < x := by omega
        have c3 : ¬ q = u.length := by omega
        have c4 : ¬ (q : Int) = u.length := by omega
        have hR2 : (o.drop (k + 1)).foldl (stepR (spsI l)) (out.set j (q : Int), u.set q t3) = R := by
          rw [← hR]; simp [stepR, hfr, hQ, hto, g2]
        ((try simp -implicitDefEqProofs [-loopQ_n, g, g2, hx, c2, c3, c4, hj, hi2, nC, intC, int_set, hou, w1, w2]) <;> (repeat' (first | (refine condD_dec ?_ ?_ <;> (intro hc; (try simp -implicitDefEqProofs [-loopQ_n, hc, g, g2, hx, c2, c3, c4, hj, hi2, nC, intC, int_set, hou, w1, w2]))) | (refine guardD_dec ?_ ?_ <;> (intro hc; (try simp -implicitDefEqProofs [-loopQ_n, hc, g, g2, hx, c2, c3, c4, hj, hi2, nC, intC, int_set, hou, w1, w2]))) | (refine condD_intro ?_ ?_ <;> (intro hd; have hc := hd; (try simp at hc) <;> (try simp -implicitDefEqProofs [-loopQ_n, hd, hc, g, g2, hx, c2, c3, c4, hj, hi2, nC, intC, int_set, hou, w1, w2]))) | (refine guardD_intro ?_ ?_ <;> (intro hd; have hc := hd; (try simp at hc) <;> (try simp -implicitDefEqProofs [-loopQ_n, hd, hc, g, g2, hx, c2, c3, c4, hj, hi2, nC, intC, int_set, hou, w1, w2]))) | (refine ldD_ep ?_ ?_; (focus kernel_rfl); (try simp -implicitDefEqProofs [-loopQ_n, g, g2, hx, c2, c3, c4, hj, hi2, nC, intC, int_set, hou, w1, w2])))))
        refine loop_next (k + 1, out.set j (q : Int), u.set q t3) ⟨g, by simpa using hou, by simp; omega, hR2⟩ (by simp only; omega) (weak_of 3 0 rfl rfl ?_ ?_) <;> simp [ins_refs, nC_refs, int_refs, w1]
      · have c2 : t2 < x := by omega
        ((try simp -implicitDefEqProofs [-loopQ_n, g2, hx, c2, intC, w2]) <;> (repeat' (first | (refine condD_dec ?_ ?_ <;> (intro hc; (try simp -implicitDefEqProofs [-loopQ_n, hc, g2, hx, c2, intC, w2]))) | (refine guardD_dec ?_ ?_ <;> (intro hc; (try simp -implicitDefEqProofs [-loopQ_n, hc, g2, hx, c2, intC, w2]))) | (refine condD_intro ?_ ?_ <;> (intro hd; have hc := hd; (try simp at hc) <;> (try simp -implicitDefEqProofs [-loopQ_n, hd, hc, g2, hx, c2, intC, w2]))) | (refine guardD_intro ?_ ?_ <;> (intro hd; have hc := hd; (try simp at hc) <;> (try simp -implicitDefEqProofs [-loopQ_n, hd, hc, g2, hx, c2, intC, w2]))) | (refine ldD_ep ?_ ?_; (focus kernel_rfl); (try simp -implicitDefEqProofs [-loopQ_n, g2, hx, c2, intC, w2])))))
        refine loop_next (q + 1) ⟨g2, ?_⟩ (by omega) (weak_of 4 0 rfl rfl ?_ ?_)
        · rw [← hqQ]; simp [c, rowOf]; omega
        · simp [ins_refs, w2]
        · simp [ins_refs, nC_refs, int_refs]
    · have hqu : q = u.length := by omega
      rw [List.drop_eq_nil_of_le (by omega)] at hqQ
      have hqQ : q = Q := by simpa [rowOf] using hqQ
      subst hqQ
      subst hqu
      have hR2 : (o.drop (k + 1)).foldl (stepR (spsI l)) (out.set j (u.length : Int), u ++ [t3]) = R := by
        rw [← hR]; simp [stepR, hfr, hQ, hto]
      have hu1 : u.length ≤ 1073741823 := by omega
      have hs : (u ++ [(0 : Int)]).set u.length t3 = u ++ [t3] := by simp
      ((try simp -implicitDefEqProofs [-loopQ_n, g, hj, hi2, nC, hu1, hs, int_snoc, int_set, hou, w1]) <;> (repeat' (first | (refine condD_dec ?_ ?_ <;> (intro hc; (try simp -implicitDefEqProofs [-loopQ_n, hc, g, hj, hi2, nC, hu1, hs, int_snoc, int_set, hou, w1]))) | (refine guardD_dec ?_ ?_ <;> (intro hc; (try simp -implicitDefEqProofs [-loopQ_n, hc, g, hj, hi2, nC, hu1, hs, int_snoc, int_set, hou, w1]))) | (refine condD_intro ?_ ?_ <;> (intro hd; have hc := hd; (try simp at hc) <;> (try simp -implicitDefEqProofs [-loopQ_n, hd, hc, g, hj, hi2, nC, hu1, hs, int_snoc, int_set, hou, w1]))) | (refine guardD_intro ?_ ?_ <;> (intro hd; have hc := hd; (try simp at hc) <;> (try simp -implicitDefEqProofs [-loopQ_n, hd, hc, g, hj, hi2, nC, hu1, hs, int_snoc, int_set, hou, w1]))) | (refine ldD_ep ?_ ?_; (focus kernel_rfl); (try simp -implicitDefEqProofs [-loopQ_n, g, hj, hi2, nC, hu1, hs, int_snoc, int_set, hou, w1])))))
      refine loop_next (k + 1, out.set j (u.length : Int), u ++ [t3]) ⟨g, by simpa using hou, by simp; omega, hR2⟩ (by simp only; omega) (weak_of 3 0 rfl rfl ?_ ?_) <;> simp [ins_refs, nC_refs, int_refs, w1]
  · rw [List.drop_eq_nil_of_le (by omega), List.foldl_nil] at hR
    subst hR
    ((try simp -implicitDefEqProofs [-loopQ_n, g, hou, intsO, int_reify]) <;> (repeat' (first | (refine condD_dec ?_ ?_ <;> (intro hc; (try simp -implicitDefEqProofs [-loopQ_n, hc, g, hou, intsO, int_reify]))) | (refine guardD_dec ?_ ?_ <;> (intro hc; (try simp -implicitDefEqProofs [-loopQ_n, hc, g, hou, intsO, int_reify]))) | (refine condD_intro ?_ ?_ <;> (intro hd; have hc := hd; (try simp at hc) <;> (try simp -implicitDefEqProofs [-loopQ_n, hd, hc, g, hou, intsO, int_reify]))) | (refine guardD_intro ?_ ?_ <;> (intro hd; have hc := hd; (try simp at hc) <;> (try simp -implicitDefEqProofs [-loopQ_n, hd, hc, g, hou, intsO, int_reify]))) | (refine ldD_ep ?_ ?_; (focus kernel_rfl); (try simp -implicitDefEqProofs [-loopQ_n, g, hou, intsO, int_reify])))))
end Go.Proofs.Ytfbpjlabhckoeaa
