/- Spending a budget. -/
import Derived.Test.YtkppfaennogcmaaPrvF
namespace Go.Proofs.Ytkppfaennogcmaa
set_option linter.unusedSimpArgs false
set_option linter.unusedVariables false
set_option linter.unnecessarySimpa false
set_option linter.unusedSectionVars false
open Go.RowKit
variable [Glob]
set_option maxRecDepth 100000
def badF (a : Fr) : Bool := !validF a.1 a.2 || decide (a.1 < 0)
/-- Piece by piece: what is left, how many pieces, and the error. -/
def spendG : Fr → Nat → List Fr → Fr × Nat × Int
  | b, i, [] => (b, i, 0)
  | b, i, a :: r => if b.1 * a.2 < a.1 * b.2 then ((0, 0), i, 27) else if (subF b a).2.2 = 0 then spendG ((subF b a).1, (subF b a).2.1) (i + 1) r else ((0, 0), i, (subF b a).2.2)
def spendF (b : Fr) (l : List Fr) : Fr × Nat × Int := if (badF b || l.any badF) = true then ((0, 0), 0, 1) else if 1000 < l.length then ((0, 0), 0, 5) else spendG b 0 l
def goodF (a : Fr) : Prop := validF a.1 a.2 = true ∧ 0 ≤ a.1
theorem badF_good {a : Fr} : badF a = false ↔ goodF a := by
  unfold badF goodF
  cases validF a.1 a.2 <;> simp
theorem cmp_sign {a b : Fr} (ha : validF a.1 a.2 = true) (hb : validF b.1 b.2 = true) : (0 < (cmpF a b).1) ↔ b.1 * a.2 < a.1 * b.2 := by
  unfold cmpF
  rw [ha, hb]
  simp only [Bool.and_self, if_true]
  split
  · simp; omega
  · split
    · simp; omega
    · simp; omega
theorem spend_next {a b : Fr} (ha : goodF a) (hb : goodF b) (h : ¬ b.1 * a.2 < a.1 * b.2) (he : (subF b a).2.2 = 0) : goodF ((subF b a).1, (subF b a).2.1) := by
  obtain ⟨h1, h2⟩ := subF_good hb.1 ha.1 (by omega) he
  exact ⟨h1, h2⟩
theorem spendG_len : ∀ (l : List Fr) (b : Fr) (i : Nat), i ≤ (spendG b i l).2.1 ∧ (spendG b i l).2.1 ≤ i + l.length ∧ ((spendG b i l).2.2 = 0 → (spendG b i l).2.1 = i + l.length) := by
  intro l
  induction l with
  | nil => intro b i; simp [spendG]
  | cons a l ih =>
    intro b i
    simp only [spendG]
    split
    · simp
    · split
      · have := ih ((subF b a).1, (subF b a).2.1) (i + 1)
        simp only [List.length_cons]
        exact ⟨by omega, by omega, fun h => by have := this.2.2 h; omega⟩
      · rename_i h; simp [h]
theorem spendG_shift : ∀ (l : List Fr) (b : Fr) (i k : Nat), spendG b (k + i) l = ((spendG b i l).1, k + (spendG b i l).2.1, (spendG b i l).2.2) := by
  intro l
  induction l with
  | nil => intro b i k; rfl
  | cons a l ih =>
    intro b i k
    simp only [spendG]
    split
    · rfl
    · split
      · rw [show k + i + 1 = k + (i + 1) by omega, ih]
      · rfl
theorem spendG_append : ∀ (x y : List Fr) (b : Fr) (i : Nat), spendG b i (x ++ y) = if (spendG b i x).2.2 = 0 then spendG (spendG b i x).1 (spendG b i x).2.1 y else spendG b i x := by
  intro x
  induction x with
  | nil => intro y b i; simp [spendG]
  | cons a x ih =>
    intro y b i
    simp only [List.cons_append, spendG]
    split
    · simp
    · split
      · rw [ih]
      · rename_i h; simp [h]
theorem spendG_good : ∀ (l : List Fr) (b : Fr) (i : Nat), goodF b → (∀ a ∈ l, goodF a) → (spendG b i l).2.2 = 0 → goodF (spendG b i l).1 := by
  intro l
  induction l with
  | nil => intro b i hb _ _; exact hb
  | cons a l ih =>
    intro b i hb hl h
    simp only [spendG] at h ⊢
    split at h
    · simp at h
    · rename_i h1
      rw [if_neg h1]
      split at h
      · rename_i h2
        rw [if_pos h2]
        exact ih _ _ (spend_next (hl a (by simp)) hb h1 h2) (fun x hx => hl x (by simp [hx])) h
      · rename_i h2; exact absurd h h2
theorem spendG_zero : ∀ (l : List Fr) (b : Fr) (i : Nat), (spendG b i l).2.2 ≠ 0 → (spendG b i l).1 = (0, 0) := by
  intro l
  induction l with
  | nil => intro b i h; simp [spendG] at h
  | cons a l ih =>
    intro b i h
    simp only [spendG] at h ⊢
    split at h
    · rename_i h1; rw [if_pos h1]
    · rename_i h1
      rw [if_neg h1]
      split at h
      · rename_i h2; rw [if_pos h2]; exact ih _ _ h
      · rename_i h2; rw [if_neg h2]
theorem sub_err (a b : Fr) : 0 ≤ (subF a b).2.2 ∧ (subF a b).2.2 ≤ 6 := by
  unfold subF addF
  split
  · unfold fitF; split <;> simp
  · simp
theorem bad_pure (a : Fr) : Pure Try.prog 78 [.agg [.int .i64 a.1, .int .i64 a.2]] (.bool (badF a)) := by
  have hv := fvalid_pure a
  simp only [fracC] at hv
  refine pure_of mixed Try.func78 rfl (by kernel_rfl) (of_decide_eq_true rfl) (by kernel_rfl) (vc_run ?_)
  unfold badF
  cases h : validF a.1 a.2
  · ((try simp -implicitDefEqProofs [-loopQ_n, h]) <;> (repeat' (first | (refine condD_dec ?_ ?_ <;> (intro hc; (try simp -implicitDefEqProofs [-loopQ_n, hc, h]))) | (refine guardD_dec ?_ ?_ <;> (intro hc; (try simp -implicitDefEqProofs [-loopQ_n, hc, h]))) | (refine condD_intro ?_ ?_ <;> (intro hd; have hc := hd; (try simp at hc) <;> (try simp -implicitDefEqProofs [-loopQ_n, hd, hc, h]))) | (refine guardD_intro ?_ ?_ <;> (intro hd; have hc := hd; (try simp at hc) <;> (try simp -implicitDefEqProofs [-loopQ_n, hd, hc, h]))) | (refine ldD_ep ?_ ?_; (focus kernel_rfl); (try simp -implicitDefEqProofs [-loopQ_n, h])) | (refine callS_mk ?_; (try simp -implicitDefEqProofs [-loopQ_n, h]); (first | refine callS_intro (hv) (.inl rfl) ?_); (try simp -implicitDefEqProofs [-loopQ_n, h])))))
  · ((try simp -implicitDefEqProofs [-loopQ_n, h]) <;> (repeat' (first | (refine condD_dec ?_ ?_ <;> (intro hc; (try simp -implicitDefEqProofs [-loopQ_n, hc, h]))) | (refine guardD_dec ?_ ?_ <;> (intro hc; (try simp -implicitDefEqProofs [-loopQ_n, hc, h]))) | (refine condD_intro ?_ ?_ <;> (intro hd; have hc := hd; (try simp at hc) <;> (try simp -implicitDefEqProofs [-loopQ_n, hd, hc, h]))) | (refine guardD_intro ?_ ?_ <;> (intro hd; have hc := hd; (try simp at hc) <;> (try simp -implicitDefEqProofs [-loopQ_n, hd, hc, h]))) | (refine ldD_ep ?_ ?_; (focus kernel_rfl); (try simp -implicitDefEqProofs [-loopQ_n, h])) | (refine callS_mk ?_; (try simp -implicitDefEqProofs [-loopQ_n, h]); (first | refine callS_intro (hv) (.inl rfl) ?_); (try simp -implicitDefEqProofs [-loopQ_n, h])))))
    all_goals simp [*]
theorem w_s {i n : Nat} (h : i < n) (hn : n ≤ 9223372036854775807) : wrapI .i64 ((i : Int) + 1) = ((i + 1 : Nat) : Int) := by rw [wrap_in (by omega) (by omega)]; omega
abbrev frB (a : Fr) : Blk := .box 61 [.int .i64 a.1, .int .i64 a.2]
def spendV (R : Fr × Nat × Int) : AV := .tup [.agg [.int .i64 R.1.1, .int .i64 R.1.2], .int .i64 R.2.1, .int .i64 R.2.2]
set_option maxHeartbeats 8000000 in
theorem spend_pure (b : Fr) (l : List Fr) (hl : l.length ≤ 4611686018427387904) : Pure Try.prog 42 [.agg [.int .i64 b.1, .int .i64 b.2], .rs (rowsOf fracC l)] (spendV (spendF b l)) := by
  have hbp := bad_pure b
  have hany := fracs_any (p := badF) (l := l) (g := 78) (caps := []) (fun x _ => bad_pure x) (by simp) (by simp) (by omega)
  refine pure_of mixed Try.func42 rfl (by kernel_rfl) (of_decide_eq_true rfl) (by kernel_rfl) (vc_run ?_)
  by_cases hb : badF b = true
  · have : spendF b l = ((0, 0), 0, 1) := by simp [spendF, hb]
    rw [this]
    ((try simp -implicitDefEqProofs [-loopQ_n, hb, spendV]) <;> (repeat' (first | (refine condD_dec ?_ ?_ <;> (intro hc; (try simp -implicitDefEqProofs [-loopQ_n, hc, hb, spendV]))) | (refine guardD_dec ?_ ?_ <;> (intro hc; (try simp -implicitDefEqProofs [-loopQ_n, hc, hb, spendV]))) | (refine condD_intro ?_ ?_ <;> (intro hd; have hc := hd; (try simp at hc) <;> (try simp -implicitDefEqProofs [-loopQ_n, hd, hc, hb, spendV]))) | (refine guardD_intro ?_ ?_ <;> (intro hd; have hc := hd; (try simp at hc) <;> (try simp -implicitDefEqProofs [-loopQ_n, hd, hc, hb, spendV]))) | (refine ldD_ep ?_ ?_; (focus kernel_rfl); (try simp -implicitDefEqProofs [-loopQ_n, hb, spendV])) | (refine callS_mk ?_; (try simp -implicitDefEqProofs [-loopQ_n, hb, spendV]); (first | refine callS_intro (hbp) (.inl rfl) ?_); (try simp -implicitDefEqProofs [-loopQ_n, hb, spendV])))))
  · have hb : badF b = false := by simpa using hb
    by_cases ha : l.any badF = true
    · have : spendF b l = ((0, 0), 0, 1) := by simp only [spendF, hb, ha]; rfl
      rw [this]
      ((try simp -implicitDefEqProofs [-loopQ_n, hb, ha, spendV]) <;> (repeat' (first | (refine condD_dec ?_ ?_ <;> (intro hc; (try simp -implicitDefEqProofs [-loopQ_n, hc, hb, ha, spendV]))) | (refine guardD_dec ?_ ?_ <;> (intro hc; (try simp -implicitDefEqProofs [-loopQ_n, hc, hb, ha, spendV]))) | (refine condD_intro ?_ ?_ <;> (intro hd; have hc := hd; (try simp at hc) <;> (try simp -implicitDefEqProofs [-loopQ_n, hd, hc, hb, ha, spendV]))) | (refine guardD_intro ?_ ?_ <;> (intro hd; have hc := hd; (try simp at hc) <;> (try simp -implicitDefEqProofs [-loopQ_n, hd, hc, hb, ha, spendV]))) | (refine ldD_ep ?_ ?_; (focus kernel_rfl); (try simp -implicitDefEqProofs [-loopQ_n, hb, ha, spendV])) | (refine callS_mk ?_; (try simp -implicitDefEqProofs [-loopQ_n, hb, ha, spendV]); (first | refine callS_intro (hbp) (.inl rfl) ?_ | refine callS_intro (hany) (.inl rfl) ?_); (try simp -implicitDefEqProofs [-loopQ_n, hb, ha, spendV])))))
    · have ha : l.any badF = false := by simpa using ha
      by_cases hn : 1000 < l.length
      · have : spendF b l = ((0, 0), 0, 5) := by simp only [spendF, hb, ha]; simp [hn]
        rw [this]
        have hn' : (1000 : Int) < l.length := by omega
        ((try simp -implicitDefEqProofs [-loopQ_n, hb, ha, hn', spendV]) <;> (repeat' (first | (refine condD_dec ?_ ?_ <;> (intro hc; (try simp -implicitDefEqProofs [-loopQ_n, hc, hb, ha, hn', spendV]))) | (refine guardD_dec ?_ ?_ <;> (intro hc; (try simp -implicitDefEqProofs [-loopQ_n, hc, hb, ha, hn', spendV]))) | (refine condD_intro ?_ ?_ <;> (intro hd; have hc := hd; (try simp at hc) <;> (try simp -implicitDefEqProofs [-loopQ_n, hd, hc, hb, ha, hn', spendV]))) | (refine guardD_intro ?_ ?_ <;> (intro hd; have hc := hd; (try simp at hc) <;> (try simp -implicitDefEqProofs [-loopQ_n, hd, hc, hb, ha, hn', spendV]))) | (refine ldD_ep ?_ ?_; (focus kernel_rfl); (try simp -implicitDefEqProofs [-loopQ_n, hb, ha, hn', spendV])) | (refine callS_mk ?_; (try simp -implicitDefEqProofs [-loopQ_n, hb, ha, hn', spendV]); (first | refine callS_intro (hbp) (.inl rfl) ?_ | refine callS_intro (hany) (.inl rfl) ?_); (try simp -implicitDefEqProofs [-loopQ_n, hb, ha, hn', spendV])))))
      · have hn' : ¬ (1000 : Int) < l.length := by omega
        have hR : spendF b l = spendG b 0 l := by simp only [spendF, hb, ha]; simp [hn]
        rw [hR]
        have hlg : ∀ a ∈ l, goodF a := fun a h => badF_good.1 (by rw [List.any_eq_false] at ha; simpa using ha a h)
        generalize hG : spendG b 0 l = R
        ((try simp -implicitDefEqProofs [-loopQ_n, hb, ha, hn']) <;> (repeat' (first | (refine condD_dec ?_ ?_ <;> (intro hc; (try simp -implicitDefEqProofs [-loopQ_n, hc, hb, ha, hn']))) | (refine guardD_dec ?_ ?_ <;> (intro hc; (try simp -implicitDefEqProofs [-loopQ_n, hc, hb, ha, hn']))) | (refine condD_intro ?_ ?_ <;> (intro hd; have hc := hd; (try simp at hc) <;> (try simp -implicitDefEqProofs [-loopQ_n, hd, hc, hb, ha, hn']))) | (refine guardD_intro ?_ ?_ <;> (intro hd; have hc := hd; (try simp at hc) <;> (try simp -implicitDefEqProofs [-loopQ_n, hd, hc, hb, ha, hn']))) | (refine ldD_ep ?_ ?_; (focus kernel_rfl); (try simp -implicitDefEqProofs [-loopQ_n, hb, ha, hn'])) | (refine callS_mk ?_; (try simp -implicitDefEqProofs [-loopQ_n, hb, ha, hn']); (first | refine callS_intro (hbp) (.inl rfl) ?_ | refine callS_intro (hany) (.inl rfl) ?_); (try simp -implicitDefEqProofs [-loopQ_n, hb, ha, hn'])))))
        refine loop_intro (σ := Fr × Nat) (fun x => ⟨[(1, .rs (rowsOf fracC l)), (2, .op 0 0), (4, .op 1 0), (29, .rs (rowsOf fracC l)), (30, .int .i64 l.length), (31, .int .i64 x.2)], [frB x.1, frB (0, 0)]⟩)
          (fun x => x.2 ≤ l.length ∧ goodF x.1 ∧ spendG x.1 x.2 (l.drop x.2) = R) (fun x => l.length - x.2) (b, 0) ⟨by simp, badF_good.1 hb, by simpa using hG⟩ ?_ ?_
        · refine weak_of 2 0 rfl rfl ?_ ?_ <;> simp
        rintro ⟨c, i⟩ ⟨hi, hc, hG⟩
        simp only at hi hc hG
        by_cases h : i < l.length
        · have w1 := w_s h (by omega)
          obtain ⟨a, haq⟩ : ∃ a, l[i] = a := ⟨_, rfl⟩
          have hga : goodF a := haq ▸ hlg _ (List.getElem_mem h)
          rw [List.drop_eq_getElem_cons h, haq] at hG
          simp only [spendG] at hG
          have hcp := cmp_pure a c
          have hsp := sub_pure c a
          simp only [fracC] at hcp hsp
          have hsg := cmp_sign hga.1 hc.1
          by_cases h1 : c.1 * a.2 < a.1 * c.2
          · rw [if_pos h1] at hG
            have h1' := hsg.2 h1
            subst hG
            ((try simp -implicitDefEqProofs [-loopQ_n, h, haq, h1', fracC, spendV]) <;> (repeat' (first | (refine condD_dec ?_ ?_ <;> (intro hc; (try simp -implicitDefEqProofs [-loopQ_n, hc, h, haq, h1', fracC, spendV]))) | (refine guardD_dec ?_ ?_ <;> (intro hc; (try simp -implicitDefEqProofs [-loopQ_n, hc, h, haq, h1', fracC, spendV]))) | (refine condD_intro ?_ ?_ <;> (intro hd; have hc := hd; (try simp at hc) <;> (try simp -implicitDefEqProofs [-loopQ_n, hd, hc, h, haq, h1', fracC, spendV]))) | (refine guardD_intro ?_ ?_ <;> (intro hd; have hc := hd; (try simp at hc) <;> (try simp -implicitDefEqProofs [-loopQ_n, hd, hc, h, haq, h1', fracC, spendV]))) | (refine ldD_ep ?_ ?_; (focus kernel_rfl); (try simp -implicitDefEqProofs [-loopQ_n, h, haq, h1', fracC, spendV])) | (refine callS_mk ?_; (try simp -implicitDefEqProofs [-loopQ_n, h, haq, h1', fracC, spendV]); (first | refine callS_intro (hcp) (.inl rfl) ?_ | refine callS_intro (hsp) (.inl rfl) ?_); (try simp -implicitDefEqProofs [-loopQ_n, h, haq, h1', fracC, spendV])))))
          · rw [if_neg h1] at hG
            have h1' : ¬ 0 < (cmpF a c).1 := fun q => h1 (hsg.1 q)
            by_cases h2 : (subF c a).2.2 = 0
            · rw [if_pos h2] at hG
              ((try simp -implicitDefEqProofs [-loopQ_n, h, haq, h1', h2, fracC]) <;> (repeat' (first | (refine condD_dec ?_ ?_ <;> (intro hc; (try simp -implicitDefEqProofs [-loopQ_n, hc, h, haq, h1', h2, fracC]))) | (refine guardD_dec ?_ ?_ <;> (intro hc; (try simp -implicitDefEqProofs [-loopQ_n, hc, h, haq, h1', h2, fracC]))) | (refine condD_intro ?_ ?_ <;> (intro hd; have hc := hd; (try simp at hc) <;> (try simp -implicitDefEqProofs [-loopQ_n, hd, hc, h, haq, h1', h2, fracC]))) | (refine guardD_intro ?_ ?_ <;> (intro hd; have hc := hd; (try simp at hc) <;> (try simp -implicitDefEqProofs [-loopQ_n, hd, hc, h, haq, h1', h2, fracC]))) | (refine ldD_ep ?_ ?_; (focus kernel_rfl); (try simp -implicitDefEqProofs [-loopQ_n, h, haq, h1', h2, fracC])) | (refine callS_mk ?_; (try simp -implicitDefEqProofs [-loopQ_n, h, haq, h1', h2, fracC]); (first | refine callS_intro (hcp) (.inl rfl) ?_ | refine callS_intro (hsp) (.inl rfl) ?_); (try simp -implicitDefEqProofs [-loopQ_n, h, haq, h1', h2, fracC])))))
              refine loop_next (((subF c a).1, (subF c a).2.1), i + 1) ⟨by simp only; omega, spend_next hga hc h1 h2, hG⟩ (by simp only; omega) (weak_of 2 0 rfl rfl ?_ ?_) <;> simp [w1, fracC]
            · rw [if_neg h2] at hG
              subst hG
              ((try simp -implicitDefEqProofs [-loopQ_n, h, haq, h1', h2, fracC, spendV]) <;> (repeat' (first | (refine condD_dec ?_ ?_ <;> (intro hc; (try simp -implicitDefEqProofs [-loopQ_n, hc, h, haq, h1', h2, fracC, spendV]))) | (refine guardD_dec ?_ ?_ <;> (intro hc; (try simp -implicitDefEqProofs [-loopQ_n, hc, h, haq, h1', h2, fracC, spendV]))) | (refine condD_intro ?_ ?_ <;> (intro hd; have hc := hd; (try simp at hc) <;> (try simp -implicitDefEqProofs [-loopQ_n, hd, hc, h, haq, h1', h2, fracC, spendV]))) | (refine guardD_intro ?_ ?_ <;> (intro hd; have hc := hd; (try simp at hc) <;> (try simp -implicitDefEqProofs [-loopQ_n, hd, hc, h, haq, h1', h2, fracC, spendV]))) | (refine ldD_ep ?_ ?_; (focus kernel_rfl); (try simp -implicitDefEqProofs [-loopQ_n, h, haq, h1', h2, fracC, spendV])) | (refine callS_mk ?_; (try simp -implicitDefEqProofs [-loopQ_n, h, haq, h1', h2, fracC, spendV]); (first | refine callS_intro (hcp) (.inl rfl) ?_ | refine callS_intro (hsp) (.inl rfl) ?_); (try simp -implicitDefEqProofs [-loopQ_n, h, haq, h1', h2, fracC, spendV])))))
        · have hil : i = l.length := by omega
          subst hil
          rw [List.drop_length] at hG
          simp only [spendG] at hG
          subst hG
          ((try simp -implicitDefEqProofs [-loopQ_n, spendV]) <;> (repeat' (first | (refine condD_dec ?_ ?_ <;> (intro hc; (try simp -implicitDefEqProofs [-loopQ_n, hc, spendV]))) | (refine guardD_dec ?_ ?_ <;> (intro hc; (try simp -implicitDefEqProofs [-loopQ_n, hc, spendV]))) | (refine condD_intro ?_ ?_ <;> (intro hd; have hc := hd; (try simp at hc) <;> (try simp -implicitDefEqProofs [-loopQ_n, hd, hc, spendV]))) | (refine guardD_intro ?_ ?_ <;> (intro hd; have hc := hd; (try simp at hc) <;> (try simp -implicitDefEqProofs [-loopQ_n, hd, hc, spendV]))) | (refine ldD_ep ?_ ?_; (focus kernel_rfl); (try simp -implicitDefEqProofs [-loopQ_n, spendV])))))
set_option maxHeartbeats 8000000 in
theorem rspend_pure (b : Fr) (l : List Fr) (hl : l.length ≤ 4611686018427387904) : Pure Try.prog 43 [.agg [.int .i64 b.1, .int .i64 b.2], .rs (rowsOf fracC l)] (spendV (spendF b l)) := by
  have hbp := r1valid_pure b
  refine pure_of mixed Try.func43 rfl (by kernel_rfl) (of_decide_eq_true rfl) (by kernel_rfl) (vc_run ?_)
  by_cases hb : badF b = true
  · have : spendF b l = ((0, 0), 0, 1) := by simp [spendF, hb]
    rw [this]
    cases hv : validF b.1 b.2 with
    | false => ((try simp -implicitDefEqProofs [-loopQ_n, hv, spendV]) <;> (repeat' (first | (refine condD_dec ?_ ?_ <;> (intro hc; (try simp -implicitDefEqProofs [-loopQ_n, hc, hv, spendV]))) | (refine guardD_dec ?_ ?_ <;> (intro hc; (try simp -implicitDefEqProofs [-loopQ_n, hc, hv, spendV]))) | (refine condD_intro ?_ ?_ <;> (intro hd; have hc := hd; (try simp at hc) <;> (try simp -implicitDefEqProofs [-loopQ_n, hd, hc, hv, spendV]))) | (refine guardD_intro ?_ ?_ <;> (intro hd; have hc := hd; (try simp at hc) <;> (try simp -implicitDefEqProofs [-loopQ_n, hd, hc, hv, spendV]))) | (refine ldD_ep ?_ ?_; (focus kernel_rfl); (try simp -implicitDefEqProofs [-loopQ_n, hv, spendV])) | (refine callS_mk ?_; (try simp -implicitDefEqProofs [-loopQ_n, hv, spendV]); (first | refine callS_intro (hbp) (.inl rfl) ?_); (try simp -implicitDefEqProofs [-loopQ_n, hv, spendV])))))
    | true =>
      have h0 : b.1 < 0 := by simpa [badF, hv] using hb
      ((try simp -implicitDefEqProofs [-loopQ_n, hv, h0, spendV]) <;> (repeat' (first | (refine condD_dec ?_ ?_ <;> (intro hc; (try simp -implicitDefEqProofs [-loopQ_n, hc, hv, h0, spendV]))) | (refine guardD_dec ?_ ?_ <;> (intro hc; (try simp -implicitDefEqProofs [-loopQ_n, hc, hv, h0, spendV]))) | (refine condD_intro ?_ ?_ <;> (intro hd; have hc := hd; (try simp at hc) <;> (try simp -implicitDefEqProofs [-loopQ_n, hd, hc, hv, h0, spendV]))) | (refine guardD_intro ?_ ?_ <;> (intro hd; have hc := hd; (try simp at hc) <;> (try simp -implicitDefEqProofs [-loopQ_n, hd, hc, hv, h0, spendV]))) | (refine ldD_ep ?_ ?_; (focus kernel_rfl); (try simp -implicitDefEqProofs [-loopQ_n, hv, h0, spendV])) | (refine callS_mk ?_; (try simp -implicitDefEqProofs [-loopQ_n, hv, h0, spendV]); (first | refine callS_intro (hbp) (.inl rfl) ?_); (try simp -implicitDefEqProofs [-loopQ_n, hv, h0, spendV])))))
  · have hb : badF b = false := by simpa using hb
    obtain ⟨hv, h0⟩ := badF_good.1 hb
    have h0' : ¬ b.1 < 0 := by omega
    ((try simp -implicitDefEqProofs [-loopQ_n, hv, h0']) <;> (repeat' (first | (refine condD_dec ?_ ?_ <;> (intro hc; (try simp -implicitDefEqProofs [-loopQ_n, hc, hv, h0']))) | (refine guardD_dec ?_ ?_ <;> (intro hc; (try simp -implicitDefEqProofs [-loopQ_n, hc, hv, h0']))) | (refine condD_intro ?_ ?_ <;> (intro hd; have hc := hd; (try simp at hc) <;> (try simp -implicitDefEqProofs [-loopQ_n, hd, hc, hv, h0']))) | (refine guardD_intro ?_ ?_ <;> (intro hd; have hc := hd; (try simp at hc) <;> (try simp -implicitDefEqProofs [-loopQ_n, hd, hc, hv, h0']))) | (refine ldD_ep ?_ ?_; (focus kernel_rfl); (try simp -implicitDefEqProofs [-loopQ_n, hv, h0'])) | (refine callS_mk ?_; (try simp -implicitDefEqProofs [-loopQ_n, hv, h0']); (first | refine callS_intro (hbp) (.inl rfl) ?_); (try simp -implicitDefEqProofs [-loopQ_n, hv, h0'])))))
    refine loop_intro (σ := Nat) (fun i => ⟨[(1, .rs (rowsOf fracC l)), (2, .op 0 0), (4, .op 1 0), (7, .int .i64 i)], [frB b, frB (0, 0)]⟩)
      (fun i => i ≤ l.length ∧ ∀ j (h : j < l.length), j < i → goodF l[j]) (fun i => l.length - i) 0 ⟨by simp, fun j _ h => by omega⟩ ?_ ?_
    · refine weak_of 2 0 rfl rfl ?_ ?_ <;> simp
    rintro i ⟨hi, hok⟩
    by_cases h : i < l.length
    · have w1 := w_s h (by omega)
      obtain ⟨a, haq⟩ : ∃ a, l[i] = a := ⟨_, rfl⟩
      have hap := r1valid_pure a
      by_cases hba : badF a = true
      · have ha : l.any badF = true := List.any_eq_true.2 ⟨a, haq ▸ List.getElem_mem h, hba⟩
        have : spendF b l = ((0, 0), 0, 1) := by simp only [spendF, hb, ha]; rfl
        rw [this]
        cases hva : validF a.1 a.2 with
        | false => ((try simp -implicitDefEqProofs [-loopQ_n, h, haq, hva, fracC, spendV]) <;> (repeat' (first | (refine condD_dec ?_ ?_ <;> (intro hc; (try simp -implicitDefEqProofs [-loopQ_n, hc, h, haq, hva, fracC, spendV]))) | (refine guardD_dec ?_ ?_ <;> (intro hc; (try simp -implicitDefEqProofs [-loopQ_n, hc, h, haq, hva, fracC, spendV]))) | (refine condD_intro ?_ ?_ <;> (intro hd; have hc := hd; (try simp at hc) <;> (try simp -implicitDefEqProofs [-loopQ_n, hd, hc, h, haq, hva, fracC, spendV]))) | (refine guardD_intro ?_ ?_ <;> (intro hd; have hc := hd; (try simp at hc) <;> (try simp -implicitDefEqProofs [-loopQ_n, hd, hc, h, haq, hva, fracC, spendV]))) | (refine ldD_ep ?_ ?_; (focus kernel_rfl); (try simp -implicitDefEqProofs [-loopQ_n, h, haq, hva, fracC, spendV])) | (refine callS_mk ?_; (try simp -implicitDefEqProofs [-loopQ_n, h, haq, hva, fracC, spendV]); (first | refine callS_intro (hap) (.inl rfl) ?_); (try simp -implicitDefEqProofs [-loopQ_n, h, haq, hva, fracC, spendV])))))
        | true =>
          have h0 : a.1 < 0 := by simpa [badF, hva] using hba
          ((try simp -implicitDefEqProofs [-loopQ_n, h, haq, hva, h0, fracC, spendV]) <;> (repeat' (first | (refine condD_dec ?_ ?_ <;> (intro hc; (try simp -implicitDefEqProofs [-loopQ_n, hc, h, haq, hva, h0, fracC, spendV]))) | (refine guardD_dec ?_ ?_ <;> (intro hc; (try simp -implicitDefEqProofs [-loopQ_n, hc, h, haq, hva, h0, fracC, spendV]))) | (refine condD_intro ?_ ?_ <;> (intro hd; have hc := hd; (try simp at hc) <;> (try simp -implicitDefEqProofs [-loopQ_n, hd, hc, h, haq, hva, h0, fracC, spendV]))) | (refine guardD_intro ?_ ?_ <;> (intro hd; have hc := hd; (try simp at hc) <;> (try simp -implicitDefEqProofs [-loopQ_n, hd, hc, h, haq, hva, h0, fracC, spendV]))) | (refine ldD_ep ?_ ?_; (focus kernel_rfl); (try simp -implicitDefEqProofs [-loopQ_n, h, haq, hva, h0, fracC, spendV])) | (refine callS_mk ?_; (try simp -implicitDefEqProofs [-loopQ_n, h, haq, hva, h0, fracC, spendV]); (first | refine callS_intro (hap) (.inl rfl) ?_); (try simp -implicitDefEqProofs [-loopQ_n, h, haq, hva, h0, fracC, spendV])))))
      · have hba : badF a = false := by simpa using hba
        obtain ⟨hva, ha0⟩ := badF_good.1 hba
        have ha0' : ¬ a.1 < 0 := by omega
        ((try simp -implicitDefEqProofs [-loopQ_n, h, haq, hva, ha0', fracC]) <;> (repeat' (first | (refine condD_dec ?_ ?_ <;> (intro hc; (try simp -implicitDefEqProofs [-loopQ_n, hc, h, haq, hva, ha0', fracC]))) | (refine guardD_dec ?_ ?_ <;> (intro hc; (try simp -implicitDefEqProofs [-loopQ_n, hc, h, haq, hva, ha0', fracC]))) | (refine condD_intro ?_ ?_ <;> (intro hd; have hc := hd; (try simp at hc) <;> (try simp -implicitDefEqProofs [-loopQ_n, hd, hc, h, haq, hva, ha0', fracC]))) | (refine guardD_intro ?_ ?_ <;> (intro hd; have hc := hd; (try simp at hc) <;> (try simp -implicitDefEqProofs [-loopQ_n, hd, hc, h, haq, hva, ha0', fracC]))) | (refine ldD_ep ?_ ?_; (focus kernel_rfl); (try simp -implicitDefEqProofs [-loopQ_n, h, haq, hva, ha0', fracC])) | (refine callS_mk ?_; (try simp -implicitDefEqProofs [-loopQ_n, h, haq, hva, ha0', fracC]); (first | refine callS_intro (hap) (.inl rfl) ?_); (try simp -implicitDefEqProofs [-loopQ_n, h, haq, hva, ha0', fracC])))))
        refine loop_next (i + 1) ⟨by omega, fun j hj hji => ?_⟩ (by omega) (weak_of 2 0 rfl rfl ?_ ?_)
        · by_cases e : j = i
          · subst e; rw [haq]; exact ⟨hva, ha0⟩
          · exact hok j hj (by omega)
        · simp [w1]
        · simp
    · have hil : i = l.length := by omega
      subst hil
      have hlg : ∀ a ∈ l, goodF a := fun a ha => by
        obtain ⟨j, hj, rfl⟩ := List.getElem_of_mem ha
        exact hok j hj hj
      have ha : l.any badF = false := by
        rw [List.any_eq_false]; intro a ha; simpa using badF_good.2 (hlg a ha)
      by_cases hn : 1000 < l.length
      · have : spendF b l = ((0, 0), 0, 5) := by simp only [spendF, hb, ha]; simp [hn]
        rw [this]
        have hn' : (1000 : Int) < l.length := by omega
        ((try simp -implicitDefEqProofs [-loopQ_n, hn', spendV]) <;> (repeat' (first | (refine condD_dec ?_ ?_ <;> (intro hc; (try simp -implicitDefEqProofs [-loopQ_n, hc, hn', spendV]))) | (refine guardD_dec ?_ ?_ <;> (intro hc; (try simp -implicitDefEqProofs [-loopQ_n, hc, hn', spendV]))) | (refine condD_intro ?_ ?_ <;> (intro hd; have hc := hd; (try simp at hc) <;> (try simp -implicitDefEqProofs [-loopQ_n, hd, hc, hn', spendV]))) | (refine guardD_intro ?_ ?_ <;> (intro hd; have hc := hd; (try simp at hc) <;> (try simp -implicitDefEqProofs [-loopQ_n, hd, hc, hn', spendV]))) | (refine ldD_ep ?_ ?_; (focus kernel_rfl); (try simp -implicitDefEqProofs [-loopQ_n, hn', spendV])))))
      · have hn' : ¬ (1000 : Int) < l.length := by omega
        have hR : spendF b l = spendG b 0 l := by simp only [spendF, hb, ha]; simp [hn]
        rw [hR]
        generalize hG : spendG b 0 l = R
        ((try simp -implicitDefEqProofs [-loopQ_n, hn']) <;> (repeat' (first | (refine condD_dec ?_ ?_ <;> (intro hc; (try simp -implicitDefEqProofs [-loopQ_n, hc, hn']))) | (refine guardD_dec ?_ ?_ <;> (intro hc; (try simp -implicitDefEqProofs [-loopQ_n, hc, hn']))) | (refine condD_intro ?_ ?_ <;> (intro hd; have hc := hd; (try simp at hc) <;> (try simp -implicitDefEqProofs [-loopQ_n, hd, hc, hn']))) | (refine guardD_intro ?_ ?_ <;> (intro hd; have hc := hd; (try simp at hc) <;> (try simp -implicitDefEqProofs [-loopQ_n, hd, hc, hn']))) | (refine ldD_ep ?_ ?_; (focus kernel_rfl); (try simp -implicitDefEqProofs [-loopQ_n, hn'])))))
        refine loop_intro (σ := Fr × Nat) (fun x => ⟨[(1, .rs (rowsOf fracC l)), (2, .op 0 0), (4, .op 1 0), (8, .int .i64 x.2)], [frB x.1, frB (0, 0)]⟩)
          (fun x => x.2 ≤ l.length ∧ goodF x.1 ∧ spendG x.1 x.2 (l.drop x.2) = R) (fun x => l.length - x.2) (b, 0) ⟨by simp, ⟨hv, h0⟩, by simpa using hG⟩ ?_ ?_
        · refine weak_of 2 0 rfl rfl ?_ ?_ <;> simp
        rintro ⟨c, i⟩ ⟨hi, hc, hG⟩
        simp only at hi hc hG
        by_cases h : i < l.length
        · have w1 := w_s h (by omega)
          obtain ⟨a, haq⟩ : ∃ a, l[i] = a := ⟨_, rfl⟩
          have hga : goodF a := haq ▸ hlg _ (List.getElem_mem h)
          rw [List.drop_eq_getElem_cons h, haq] at hG
          simp only [spendG] at hG
          have hcp := r1cmp_pure a c hga.1 hc.1
          have hsp := r1sub_pure c a hc.1 hga.1
          have hsg := cmp_sign hga.1 hc.1
          by_cases h1 : c.1 * a.2 < a.1 * c.2
          · rw [if_pos h1] at hG
            have h1' := hsg.2 h1
            subst hG
            ((try simp -implicitDefEqProofs [-loopQ_n, h, haq, h1', fracC, spendV]) <;> (repeat' (first | (refine condD_dec ?_ ?_ <;> (intro hc; (try simp -implicitDefEqProofs [-loopQ_n, hc, h, haq, h1', fracC, spendV]))) | (refine guardD_dec ?_ ?_ <;> (intro hc; (try simp -implicitDefEqProofs [-loopQ_n, hc, h, haq, h1', fracC, spendV]))) | (refine condD_intro ?_ ?_ <;> (intro hd; have hc := hd; (try simp at hc) <;> (try simp -implicitDefEqProofs [-loopQ_n, hd, hc, h, haq, h1', fracC, spendV]))) | (refine guardD_intro ?_ ?_ <;> (intro hd; have hc := hd; (try simp at hc) <;> (try simp -implicitDefEqProofs [-loopQ_n, hd, hc, h, haq, h1', fracC, spendV]))) | (refine ldD_ep ?_ ?_; (focus kernel_rfl); (try simp -implicitDefEqProofs [-loopQ_n, h, haq, h1', fracC, spendV])) | (refine callS_mk ?_; (try simp -implicitDefEqProofs [-loopQ_n, h, haq, h1', fracC, spendV]); (first | refine callS_intro (hcp) (.inl rfl) ?_ | refine callS_intro (hsp) (.inl rfl) ?_); (try simp -implicitDefEqProofs [-loopQ_n, h, haq, h1', fracC, spendV])))))
          · rw [if_neg h1] at hG
            have h1' : ¬ 0 < (cmpF a c).1 := fun q => h1 (hsg.1 q)
            by_cases h2 : (subF c a).2.2 = 0
            · rw [if_pos h2] at hG
              ((try simp -implicitDefEqProofs [-loopQ_n, h, haq, h1', h2, fracC]) <;> (repeat' (first | (refine condD_dec ?_ ?_ <;> (intro hc; (try simp -implicitDefEqProofs [-loopQ_n, hc, h, haq, h1', h2, fracC]))) | (refine guardD_dec ?_ ?_ <;> (intro hc; (try simp -implicitDefEqProofs [-loopQ_n, hc, h, haq, h1', h2, fracC]))) | (refine condD_intro ?_ ?_ <;> (intro hd; have hc := hd; (try simp at hc) <;> (try simp -implicitDefEqProofs [-loopQ_n, hd, hc, h, haq, h1', h2, fracC]))) | (refine guardD_intro ?_ ?_ <;> (intro hd; have hc := hd; (try simp at hc) <;> (try simp -implicitDefEqProofs [-loopQ_n, hd, hc, h, haq, h1', h2, fracC]))) | (refine ldD_ep ?_ ?_; (focus kernel_rfl); (try simp -implicitDefEqProofs [-loopQ_n, h, haq, h1', h2, fracC])) | (refine callS_mk ?_; (try simp -implicitDefEqProofs [-loopQ_n, h, haq, h1', h2, fracC]); (first | refine callS_intro (hcp) (.inl rfl) ?_ | refine callS_intro (hsp) (.inl rfl) ?_); (try simp -implicitDefEqProofs [-loopQ_n, h, haq, h1', h2, fracC])))))
              refine loop_next (((subF c a).1, (subF c a).2.1), i + 1) ⟨by simp only; omega, spend_next hga hc h1 h2, hG⟩ (by simp only; omega) (weak_of 2 0 rfl rfl ?_ ?_) <;> simp [w1]
            · rw [if_neg h2] at hG
              subst hG
              ((try simp -implicitDefEqProofs [-loopQ_n, h, haq, h1', h2, fracC, spendV]) <;> (repeat' (first | (refine condD_dec ?_ ?_ <;> (intro hc; (try simp -implicitDefEqProofs [-loopQ_n, hc, h, haq, h1', h2, fracC, spendV]))) | (refine guardD_dec ?_ ?_ <;> (intro hc; (try simp -implicitDefEqProofs [-loopQ_n, hc, h, haq, h1', h2, fracC, spendV]))) | (refine condD_intro ?_ ?_ <;> (intro hd; have hc := hd; (try simp at hc) <;> (try simp -implicitDefEqProofs [-loopQ_n, hd, hc, h, haq, h1', h2, fracC, spendV]))) | (refine guardD_intro ?_ ?_ <;> (intro hd; have hc := hd; (try simp at hc) <;> (try simp -implicitDefEqProofs [-loopQ_n, hd, hc, h, haq, h1', h2, fracC, spendV]))) | (refine ldD_ep ?_ ?_; (focus kernel_rfl); (try simp -implicitDefEqProofs [-loopQ_n, h, haq, h1', h2, fracC, spendV])) | (refine callS_mk ?_; (try simp -implicitDefEqProofs [-loopQ_n, h, haq, h1', h2, fracC, spendV]); (first | refine callS_intro (hcp) (.inl rfl) ?_ | refine callS_intro (hsp) (.inl rfl) ?_); (try simp -implicitDefEqProofs [-loopQ_n, h, haq, h1', h2, fracC, spendV])))))
        · have hil : i = l.length := by omega
          subst hil
          rw [List.drop_length] at hG
          simp only [spendG] at hG
          subst hG
          ((try simp -implicitDefEqProofs [-loopQ_n, spendV]) <;> (repeat' (first | (refine condD_dec ?_ ?_ <;> (intro hc; (try simp -implicitDefEqProofs [-loopQ_n, hc, spendV]))) | (refine guardD_dec ?_ ?_ <;> (intro hc; (try simp -implicitDefEqProofs [-loopQ_n, hc, spendV]))) | (refine condD_intro ?_ ?_ <;> (intro hd; have hc := hd; (try simp at hc) <;> (try simp -implicitDefEqProofs [-loopQ_n, hd, hc, spendV]))) | (refine guardD_intro ?_ ?_ <;> (intro hd; have hc := hd; (try simp at hc) <;> (try simp -implicitDefEqProofs [-loopQ_n, hd, hc, spendV]))) | (refine ldD_ep ?_ ?_; (focus kernel_rfl); (try simp -implicitDefEqProofs [-loopQ_n, spendV])))))
end Go.Proofs.Ytkppfaennogcmaa
