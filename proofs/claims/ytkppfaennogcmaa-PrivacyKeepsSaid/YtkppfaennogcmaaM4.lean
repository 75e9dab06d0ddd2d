/- Several texts of the abstract machine, one behind the other. -/
import Derived.Test.YtkppfaennogcmaaPrvP
import Derived.Test.YtkppfaennogcmaaOrdL
/- Putting cases of a word into a publication (the reference's insert), and the same publication. -/
namespace Go.Proofs.Ytkppfaennogcmaa
set_option linter.unusedSimpArgs false
set_option linter.unusedVariables false
set_option linter.unnecessarySimpa false
set_option linter.unusedSectionVars false
open Go.RowKit
variable [Glob]
set_option maxRecDepth 100000
def insP (w : Wo) (c : Int) : List Wd → List Wd
  | [] => [⟨w, c⟩]
  | v :: r => if cmpL v.acts w < 0 then v :: insP w c r else if cmpL v.acts w = 0 then ⟨v.acts, v.n + c⟩ :: r else ⟨w, c⟩ :: v :: r
theorem insP_lt {w : Wo} {c : Int} : ∀ (a b : List Wd), (∀ v ∈ a, cmpL v.acts w < 0) → insP w c (a ++ b) = a ++ insP w c b := by
  intro a
  induction a with
  | nil => intro b _; rfl
  | cons v a ih =>
    intro b h
    rw [List.cons_append, insP, if_pos (h v (by simp)), ih b fun x hx => h x (by simp [hx]), List.cons_append]
theorem insP_len {w : Wo} {c : Int} : ∀ l : List Wd, (insP w c l).length ≤ l.length + 1 := by
  intro l
  induction l with
  | nil => simp [insP]
  | cons v l ih =>
    simp only [insP]
    split
    · simp only [List.length_cons]; omega
    · split <;> simp
theorem wd_allLen {l : List Wd} : allLen 2 (rowsOf wdC l) = true := by simp [allLen, rowsOf, wdC]
theorem st_allLen {l : Wo} : allLen 1 (rowsOf strC l) = true := by simp [allLen, rowsOf, strC]
set_option maxHeartbeats 16000000 in
theorem rinsert_pure (l : List Wd) (w : Wo) (c : Int) (hl : l.length ≤ 1000) (hw : w.length ≤ 1000) (hd : ∀ v ∈ l, v.acts.length ≤ 1000) (hn : ∀ v ∈ l, -4611686018427387904 ≤ v.n ∧ v.n ≤ 4611686018427387904) (hc0 : 0 ≤ c) (hc1 : c ≤ 1048576000) :
    Pure Try.prog 56 [.rs (rowsOf wdC l), .rs (rowsOf strC w), .int .i64 c] (.rs (rowsOf wdC (insP w c l))) := by
  refine pure_of mixed Try.func56 rfl (by kernel_rfl) (of_decide_eq_true rfl) (by kernel_rfl) (vc_run ?_)
  ((try simp -implicitDefEqProofs [-loopQ_n]) <;> (repeat' (first | (refine condD_dec ?_ ?_ <;> (intro hc; (try simp -implicitDefEqProofs [-loopQ_n, hc]))) | (refine guardD_dec ?_ ?_ <;> (intro hc; (try simp -implicitDefEqProofs [-loopQ_n, hc]))) | (refine condD_intro ?_ ?_ <;> (intro hd; have hc := hd; (try simp at hc) <;> (try simp -implicitDefEqProofs [-loopQ_n, hd, hc]))) | (refine guardD_intro ?_ ?_ <;> (intro hd; have hc := hd; (try simp at hc) <;> (try simp -implicitDefEqProofs [-loopQ_n, hd, hc]))) | (refine ldD_ep ?_ ?_; (focus kernel_rfl); (try simp -implicitDefEqProofs [-loopQ_n])))))
  refine loop_intro (σ := Nat) (fun i => ⟨[(0, .rs (rowsOf wdC l)), (1, .rs (rowsOf strC w)), (2, .int .i64 c), (7, .int .i64 i)], []⟩)
    (fun i => i ≤ l.length ∧ ∀ v ∈ l.take i, cmpL v.acts w < 0) (fun i => l.length - i) 0 ⟨by simp, by simp⟩ ?_ ?_
  · refine weak_of 0 0 rfl rfl ?_ ?_ <;> simp
  rintro i ⟨hi, hT⟩
  have hL1 : l.length ≤ 1073741824 := by omega
  have hL2 : l.length + 1 ≤ 1073741824 := by omega
  have hW : w.length ≤ 1073741824 := by omega
  have hlt : (l.take i).length = i := by simp; omega
  have hld : (l.drop i).length = l.length - i := by simp
  have e1 : (rowsOf wdC l).take i = rowsOf wdC (l.take i) := rowsOf_take
  have e2 : (rowsOf wdC l).drop i = rowsOf wdC (l.drop i) := rowsOf_drop
  have e3 : List.take (l.length - i) (rowsOf wdC (l.drop i)) = rowsOf wdC (l.drop i) := List.take_of_length_le (by rw [rowsOf_length]; simp)
  have i1 : i ≤ 1073741824 := by omega
  have i2 : i + 1 ≤ 1073741824 := by omega
  have i3 : i + 1 + (l.length - i) ≤ 1073741824 := by omega
  have hins := insP_lt (c := c) (l.take i) (l.drop i) hT
  rw [List.take_append_drop] at hins
  by_cases h : i < l.length
  · have w1 : wrapI .i64 ((i : Int) + 1) = (i : Int) + 1 := wrap_in (by omega) (by omega)
    obtain ⟨⟨A, n⟩, hx⟩ : ∃ x, l[i] = x := ⟨_, rfl⟩
    have hA := hd l[i] (by simp)
    have hN := hn l[i] (by simp)
    rw [hx] at hA hN
    simp only at hA hN
    have hC := rcompare_pure A w (by omega) (by omega)
    rw [List.drop_eq_getElem_cons h, hx, insP] at hins
    obtain ⟨k, hk⟩ : ∃ k, cmpL A w = k := ⟨_, rfl⟩
    simp only [hk] at hins
    rw [hk] at hC
    by_cases k1 : k < 0
    · ((try simp -implicitDefEqProofs [-loopQ_n, h, hx, wdC, k1]) <;> (repeat' (first | (refine condD_dec ?_ ?_ <;> (intro hc; (try simp -implicitDefEqProofs [-loopQ_n, hc, h, hx, wdC, k1]))) | (refine guardD_dec ?_ ?_ <;> (intro hc; (try simp -implicitDefEqProofs [-loopQ_n, hc, h, hx, wdC, k1]))) | (refine condD_intro ?_ ?_ <;> (intro hd; have hc := hd; (try simp at hc) <;> (try simp -implicitDefEqProofs [-loopQ_n, hd, hc, h, hx, wdC, k1]))) | (refine guardD_intro ?_ ?_ <;> (intro hd; have hc := hd; (try simp at hc) <;> (try simp -implicitDefEqProofs [-loopQ_n, hd, hc, h, hx, wdC, k1]))) | (refine ldD_ep ?_ ?_; (focus kernel_rfl); (try simp -implicitDefEqProofs [-loopQ_n, h, hx, wdC, k1])) | (refine callS_mk ?_; (try simp -implicitDefEqProofs [-loopQ_n, h, hx, wdC, k1]); (first | refine callS_intro (hC) (.inl rfl) ?_); (try simp -implicitDefEqProofs [-loopQ_n, h, hx, wdC, k1])))))
      refine loop_next (i + 1) ⟨by omega, fun v hv => ?_⟩ (by omega) (weak_of 0 0 rfl rfl ?_ ?_)
      · rw [List.take_succ_eq_append_getElem h, hx] at hv
        rcases List.mem_append.1 hv with hv | hv
        · exact hT v hv
        · simp at hv; subst hv; simp only; omega
      · simp [w1]
      · simp
    · rw [if_neg k1] at hins
      by_cases k2 : k = 0
      · have w2 : wrapI .i64 (n + c) = n + c := wrap_in (by omega) (by omega)
        have hne : l ≠ [] := by intro q; subst q; simp at h
        ((try simp -implicitDefEqProofs [-loopQ_n, h, hx, wdC, k1, k2, w2, hL1, wd_allLen, wd_reify]) <;> (repeat' (first | (refine condD_dec ?_ ?_ <;> (intro hc; (try simp -implicitDefEqProofs [-loopQ_n, hc, h, hx, wdC, k1, k2, w2, hL1, wd_allLen, wd_reify]))) | (refine guardD_dec ?_ ?_ <;> (intro hc; (try simp -implicitDefEqProofs [-loopQ_n, hc, h, hx, wdC, k1, k2, w2, hL1, wd_allLen, wd_reify]))) | (refine condD_intro ?_ ?_ <;> (intro hd; have hc := hd; (try simp at hc) <;> (try simp -implicitDefEqProofs [-loopQ_n, hd, hc, h, hx, wdC, k1, k2, w2, hL1, wd_allLen, wd_reify]))) | (refine guardD_intro ?_ ?_ <;> (intro hd; have hc := hd; (try simp at hc) <;> (try simp -implicitDefEqProofs [-loopQ_n, hd, hc, h, hx, wdC, k1, k2, w2, hL1, wd_allLen, wd_reify]))) | (refine ldD_ep ?_ ?_; (focus kernel_rfl); (try simp -implicitDefEqProofs [-loopQ_n, h, hx, wdC, k1, k2, w2, hL1, wd_allLen, wd_reify])) | (refine callS_mk ?_; (try simp -implicitDefEqProofs [-loopQ_n, h, hx, wdC, k1, k2, w2, hL1, wd_allLen, wd_reify]); (first | refine callS_intro (hC) (.inl rfl) ?_); (try simp -implicitDefEqProofs [-loopQ_n, h, hx, wdC, k1, k2, w2, hL1, wd_allLen, wd_reify])))))
        rw [if_pos k2] at hins
        have hs : (rowsOf wdC l).set i [.rs (rowsOf strC A), .int .i64 (n + c)] = rowsOf wdC (insP w c l) := by
          rw [hins, show [AV.rs (rowsOf strC A), .int .i64 (n + c)] = wdC ⟨A, n + c⟩ from rfl, rowsOf_set, List.set_eq_take_append_cons_drop, if_pos h]
        rw [hs]; exact wd_reify
      · ((try simp -implicitDefEqProofs [-loopQ_n, h, hx, wdC, k1, k2, hi, hlt, hld, e1, e2, e3, i1, i2, i3, hL1, hL2, hW, wd_allLen, st_allLen, wd_reify, sw_reify]) <;> (repeat' (first | (refine condD_dec ?_ ?_ <;> (intro hc; (try simp -implicitDefEqProofs [-loopQ_n, hc, h, hx, wdC, k1, k2, hi, hlt, hld, e1, e2, e3, i1, i2, i3, hL1, hL2, hW, wd_allLen, st_allLen, wd_reify, sw_reify]))) | (refine guardD_dec ?_ ?_ <;> (intro hc; (try simp -implicitDefEqProofs [-loopQ_n, hc, h, hx, wdC, k1, k2, hi, hlt, hld, e1, e2, e3, i1, i2, i3, hL1, hL2, hW, wd_allLen, st_allLen, wd_reify, sw_reify]))) | (refine condD_intro ?_ ?_ <;> (intro hd; have hc := hd; (try simp at hc) <;> (try simp -implicitDefEqProofs [-loopQ_n, hd, hc, h, hx, wdC, k1, k2, hi, hlt, hld, e1, e2, e3, i1, i2, i3, hL1, hL2, hW, wd_allLen, st_allLen, wd_reify, sw_reify]))) | (refine guardD_intro ?_ ?_ <;> (intro hd; have hc := hd; (try simp at hc) <;> (try simp -implicitDefEqProofs [-loopQ_n, hd, hc, h, hx, wdC, k1, k2, hi, hlt, hld, e1, e2, e3, i1, i2, i3, hL1, hL2, hW, wd_allLen, st_allLen, wd_reify, sw_reify]))) | (refine ldD_ep ?_ ?_; (focus kernel_rfl); (try simp -implicitDefEqProofs [-loopQ_n, h, hx, wdC, k1, k2, hi, hlt, hld, e1, e2, e3, i1, i2, i3, hL1, hL2, hW, wd_allLen, st_allLen, wd_reify, sw_reify])) | (refine callS_mk ?_; (try simp -implicitDefEqProofs [-loopQ_n, h, hx, wdC, k1, k2, hi, hlt, hld, e1, e2, e3, i1, i2, i3, hL1, hL2, hW, wd_allLen, st_allLen, wd_reify, sw_reify]); (first | refine callS_intro (hC) (.inl rfl) ?_); (try simp -implicitDefEqProofs [-loopQ_n, h, hx, wdC, k1, k2, hi, hlt, hld, e1, e2, e3, i1, i2, i3, hL1, hL2, hW, wd_allLen, st_allLen, wd_reify, sw_reify])))))
        rw [if_neg k2] at hins
        refine ⟨by omega, ?_⟩
        rw [hins, List.drop_eq_getElem_cons h, hx]
        simp [rowsOf, wdC]
  · ((try simp -implicitDefEqProofs [-loopQ_n, h, hi, hlt, hld, e1, e2, e3, i1, i2, i3, hL1, hL2, hW, wd_allLen, st_allLen, wd_reify, sw_reify]) <;> (repeat' (first | (refine condD_dec ?_ ?_ <;> (intro hc; (try simp -implicitDefEqProofs [-loopQ_n, hc, h, hi, hlt, hld, e1, e2, e3, i1, i2, i3, hL1, hL2, hW, wd_allLen, st_allLen, wd_reify, sw_reify]))) | (refine guardD_dec ?_ ?_ <;> (intro hc; (try simp -implicitDefEqProofs [-loopQ_n, hc, h, hi, hlt, hld, e1, e2, e3, i1, i2, i3, hL1, hL2, hW, wd_allLen, st_allLen, wd_reify, sw_reify]))) | (refine condD_intro ?_ ?_ <;> (intro hd; have hc := hd; (try simp at hc) <;> (try simp -implicitDefEqProofs [-loopQ_n, hd, hc, h, hi, hlt, hld, e1, e2, e3, i1, i2, i3, hL1, hL2, hW, wd_allLen, st_allLen, wd_reify, sw_reify]))) | (refine guardD_intro ?_ ?_ <;> (intro hd; have hc := hd; (try simp at hc) <;> (try simp -implicitDefEqProofs [-loopQ_n, hd, hc, h, hi, hlt, hld, e1, e2, e3, i1, i2, i3, hL1, hL2, hW, wd_allLen, st_allLen, wd_reify, sw_reify]))) | (refine ldD_ep ?_ ?_; (focus kernel_rfl); (try simp -implicitDefEqProofs [-loopQ_n, h, hi, hlt, hld, e1, e2, e3, i1, i2, i3, hL1, hL2, hW, wd_allLen, st_allLen, wd_reify, sw_reify])))))
    rw [List.drop_eq_nil_of_le (by omega)] at hins ⊢
    refine ⟨by omega, ?_⟩
    rw [hins]
    simp [rowsOf, wdC, insP]
/-- The same publication. -/
def sameL (a b : List Wd) : Bool := decide (a.length = b.length) && (List.range a.length).all fun i => decide ((wat a i).n = (wat b i).n) && decide ((wat a i).acts = (wat b i).acts)
theorem sameL_self (a : List Wd) : sameL a a = true := by simp [sameL]
set_option maxHeartbeats 16000000 in
theorem psame_pure (a b : List Wd) (ha : a.length ≤ 9223372036854775807) (hb : b.length ≤ 9223372036854775807) (pa : ∀ v ∈ a, v.acts.length ≤ 1000) (pb : ∀ v ∈ b, v.acts.length ≤ 1000) : Pure Try.prog 19 [.rs (rowsOf wdC a), .rs (rowsOf wdC b)] (.bool (sameL a b)) := by
  by_cases hl : a.length = b.length
  rotate_left
  · have hs : sameL a b = false := by simp [sameL, hl]
    have hl' : ¬ (a.length : Int) = b.length := by omega
    rw [hs]
    refine pure_of mixed Try.func19 rfl (by kernel_rfl) (of_decide_eq_true rfl) (by kernel_rfl) (vc_run ?_)
    ((try simp -implicitDefEqProofs [-loopQ_n, hl, hl']) <;> (repeat' (first | (refine condD_dec ?_ ?_ <;> (intro hc; (try simp -implicitDefEqProofs [-loopQ_n, hc, hl, hl']))) | (refine guardD_dec ?_ ?_ <;> (intro hc; (try simp -implicitDefEqProofs [-loopQ_n, hc, hl, hl']))) | (refine condD_intro ?_ ?_ <;> (intro hd; have hc := hd; (try simp at hc) <;> (try simp -implicitDefEqProofs [-loopQ_n, hd, hc, hl, hl']))) | (refine guardD_intro ?_ ?_ <;> (intro hd; have hc := hd; (try simp at hc) <;> (try simp -implicitDefEqProofs [-loopQ_n, hd, hc, hl, hl']))) | (refine ldD_ep ?_ ?_; (focus kernel_rfl); (try simp -implicitDefEqProofs [-loopQ_n, hl, hl'])))))
  have hs : sameL a b = (List.range a.length).all fun i => decide ((wat a i).n = (wat b i).n) && decide ((wat a i).acts = (wat b i).acts) := by simp [sameL, hl]
  have r1 : ∀ i, i < a.length → ((decide ((wat a i).n = (wat b i).n) && decide ((wat a i).acts = (wat b i).acts)) = false) → sameL a b = false := fun i hi h => by
    rw [hs, ← Bool.not_eq_true, List.all_eq_true]
    intro q
    have := q i (by simpa using hi)
    rw [h] at this; cases this
  have r2 : (∀ i, i < a.length → (decide ((wat a i).n = (wat b i).n) && decide ((wat a i).acts = (wat b i).acts)) = true) → sameL a b = true := fun h => by
    rw [hs, List.all_eq_true]
    intro i hi
    exact h i (by simpa using hi)
  clear hs
  generalize sameL a b = R at *
  refine pure_of mixed Try.func19 rfl (by kernel_rfl) (of_decide_eq_true rfl) (by kernel_rfl) (vc_run ?_)
  ((try simp -implicitDefEqProofs [-loopQ_n, hl]) <;> (repeat' (first | (refine condD_dec ?_ ?_ <;> (intro hc; (try simp -implicitDefEqProofs [-loopQ_n, hc, hl]))) | (refine guardD_dec ?_ ?_ <;> (intro hc; (try simp -implicitDefEqProofs [-loopQ_n, hc, hl]))) | (refine condD_intro ?_ ?_ <;> (intro hd; have hc := hd; (try simp at hc) <;> (try simp -implicitDefEqProofs [-loopQ_n, hd, hc, hl]))) | (refine guardD_intro ?_ ?_ <;> (intro hd; have hc := hd; (try simp at hc) <;> (try simp -implicitDefEqProofs [-loopQ_n, hd, hc, hl]))) | (refine ldD_ep ?_ ?_; (focus kernel_rfl); (try simp -implicitDefEqProofs [-loopQ_n, hl])))))
  refine loop_intro (σ := Nat) (fun i => ⟨[(0, .rs (rowsOf wdC a)), (1, .rs (rowsOf wdC b)), (5, .int .i64 i)], []⟩)
    (fun i => i ≤ a.length ∧ ∀ j, j < i → (decide ((wat a j).n = (wat b j).n) && decide ((wat a j).acts = (wat b j).acts)) = true) (fun i => a.length - i) 0 ⟨by simp, fun j h => by omega⟩ ?_ ?_
  · refine weak_of 0 0 rfl rfl ?_ ?_ <;> simp
  rintro i ⟨hi, hok⟩
  by_cases h : i < a.length
  · have g : i < b.length := by omega
    have w1 : wrapI .i64 ((i : Int) + 1) = (i : Int) + 1 := wrap_in (by omega) (by omega)
    obtain ⟨⟨A, n⟩, hx⟩ : ∃ x, a[i] = x := ⟨_, rfl⟩
    obtain ⟨⟨B, m⟩, hy⟩ : ∃ x, b[i] = x := ⟨_, rfl⟩
    have xa : wat a i = ⟨A, n⟩ := by rw [wat_get h, hx]
    have xb : wat b i = ⟨B, m⟩ := by rw [wat_get g, hy]
    have hA := pa a[i] (by simp)
    have hB := pb b[i] (by simp)
    rw [hx] at hA
    rw [hy] at hB
    simp only at hA hB
    have hS := rsame_pure A B (by omega) (by omega)
    by_cases c1 : n = m
    · by_cases c2 : A = B
      · rw [decide_eq_true c2] at hS
        ((try simp -implicitDefEqProofs [-loopQ_n, h, g, hl, hx, hy, wdC, c1]) <;> (repeat' (first | (refine condD_dec ?_ ?_ <;> (intro hc; (try simp -implicitDefEqProofs [-loopQ_n, hc, h, g, hl, hx, hy, wdC, c1]))) | (refine guardD_dec ?_ ?_ <;> (intro hc; (try simp -implicitDefEqProofs [-loopQ_n, hc, h, g, hl, hx, hy, wdC, c1]))) | (refine condD_intro ?_ ?_ <;> (intro hd; have hc := hd; (try simp at hc) <;> (try simp -implicitDefEqProofs [-loopQ_n, hd, hc, h, g, hl, hx, hy, wdC, c1]))) | (refine guardD_intro ?_ ?_ <;> (intro hd; have hc := hd; (try simp at hc) <;> (try simp -implicitDefEqProofs [-loopQ_n, hd, hc, h, g, hl, hx, hy, wdC, c1]))) | (refine ldD_ep ?_ ?_; (focus kernel_rfl); (try simp -implicitDefEqProofs [-loopQ_n, h, g, hl, hx, hy, wdC, c1])) | (refine callS_mk ?_; (try simp -implicitDefEqProofs [-loopQ_n, h, g, hl, hx, hy, wdC, c1]); (first | refine callS_intro (hS) (.inl rfl) ?_); (try simp -implicitDefEqProofs [-loopQ_n, h, g, hl, hx, hy, wdC, c1])))))
        refine loop_next (i + 1) ⟨by omega, fun j hj => ?_⟩ (by omega) (weak_of 0 0 rfl rfl ?_ ?_)
        · by_cases e : j = i
          · subst e; rw [xa, xb]; simp [c1, c2]
          · simpa using hok j (by omega)
        · simp [w1]
        · simp
      · have := r1 i h (by rw [xa, xb]; simp [c2])
        subst this
        rw [decide_eq_false c2] at hS
        ((try simp -implicitDefEqProofs [-loopQ_n, h, g, hl, hx, hy, wdC, c1]) <;> (repeat' (first | (refine condD_dec ?_ ?_ <;> (intro hc; (try simp -implicitDefEqProofs [-loopQ_n, hc, h, g, hl, hx, hy, wdC, c1]))) | (refine guardD_dec ?_ ?_ <;> (intro hc; (try simp -implicitDefEqProofs [-loopQ_n, hc, h, g, hl, hx, hy, wdC, c1]))) | (refine condD_intro ?_ ?_ <;> (intro hd; have hc := hd; (try simp at hc) <;> (try simp -implicitDefEqProofs [-loopQ_n, hd, hc, h, g, hl, hx, hy, wdC, c1]))) | (refine guardD_intro ?_ ?_ <;> (intro hd; have hc := hd; (try simp at hc) <;> (try simp -implicitDefEqProofs [-loopQ_n, hd, hc, h, g, hl, hx, hy, wdC, c1]))) | (refine ldD_ep ?_ ?_; (focus kernel_rfl); (try simp -implicitDefEqProofs [-loopQ_n, h, g, hl, hx, hy, wdC, c1])) | (refine callS_mk ?_; (try simp -implicitDefEqProofs [-loopQ_n, h, g, hl, hx, hy, wdC, c1]); (first | refine callS_intro (hS) (.inl rfl) ?_); (try simp -implicitDefEqProofs [-loopQ_n, h, g, hl, hx, hy, wdC, c1])))))
    · have := r1 i h (by rw [xa, xb]; simp [c1])
      subst this
      ((try simp -implicitDefEqProofs [-loopQ_n, h, g, hl, hx, hy, wdC, c1]) <;> (repeat' (first | (refine condD_dec ?_ ?_ <;> (intro hc; (try simp -implicitDefEqProofs [-loopQ_n, hc, h, g, hl, hx, hy, wdC, c1]))) | (refine guardD_dec ?_ ?_ <;> (intro hc; (try simp -implicitDefEqProofs [-loopQ_n, hc, h, g, hl, hx, hy, wdC, c1]))) | (refine condD_intro ?_ ?_ <;> (intro hd; have hc := hd; (try simp at hc) <;> (try simp -implicitDefEqProofs [-loopQ_n, hd, hc, h, g, hl, hx, hy, wdC, c1]))) | (refine guardD_intro ?_ ?_ <;> (intro hd; have hc := hd; (try simp at hc) <;> (try simp -implicitDefEqProofs [-loopQ_n, hd, hc, h, g, hl, hx, hy, wdC, c1]))) | (refine ldD_ep ?_ ?_; (focus kernel_rfl); (try simp -implicitDefEqProofs [-loopQ_n, h, g, hl, hx, hy, wdC, c1])))))
  · have := r2 fun j hj => hok j (by omega)
    subst this
    have g : ¬ i < b.length := by omega
    ((try simp -implicitDefEqProofs [-loopQ_n, h, g, hl]) <;> (repeat' (first | (refine condD_dec ?_ ?_ <;> (intro hc; (try simp -implicitDefEqProofs [-loopQ_n, hc, h, g, hl]))) | (refine guardD_dec ?_ ?_ <;> (intro hc; (try simp -implicitDefEqProofs [-loopQ_n, hc, h, g, hl]))) | (refine condD_intro ?_ ?_ <;> (intro hd; have hc := hd; (try simp at hc) <;> (try simp -implicitDefEqProofs [-loopQ_n, hd, hc, h, g, hl]))) | (refine guardD_intro ?_ ?_ <;> (intro hd; have hc := hd; (try simp at hc) <;> (try simp -implicitDefEqProofs [-loopQ_n, hd, hc, h, g, hl]))) | (refine ldD_ep ?_ ?_; (focus kernel_rfl); (try simp -implicitDefEqProofs [-loopQ_n, h, g, hl])))))
end Go.Proofs.Ytkppfaennogcmaa

/- Suppress of the reference, walked. -/
namespace Go.Proofs.Ytkppfaennogcmaa
set_option linter.unusedSimpArgs false
set_option linter.unusedVariables false
set_option linter.unnecessarySimpa false
set_option linter.unusedSectionVars false
open Go.RowKit
variable [Glob]
set_option maxRecDepth 100000
def supA (m : Nat) (k : Int) (s : List Wd × List Wd) (v : Wd) : List Wd × List Wd := if v.acts.length = m ∧ k ≤ v.n then (s.1, insP v.acts v.n s.2) else if v.acts.length ≠ m then (insP v.acts v.n s.1, s.2) else s
def supBw (m : Nat) (k : Int) (s : List Wd) (v : Wd) : List Wd := if v.acts.length = m ∧ v.n < k ∧ 0 < m then insP (v.acts.take (m - 1)) v.n s else s
def passA (m : Nat) (k : Int) : List Wd → List Wd × List Wd → List Wd × List Wd
  | [], s => s
  | v :: r, s => passA m k r (supA m k s v)
def passB (m : Nat) (k : Int) : List Wd → List Wd → List Wd
  | [], s => s
  | v :: r, s => passB m k r (supBw m k s v)
def supL (m : Nat) (k : Int) (ws out : List Wd) : List Wd × List Wd := (passB m k ws (passA m k ws ([], out)).1, (passA m k ws ([], out)).2)
/-- So many levels are still to be done. -/
def supN (k : Int) : Nat → List Wd → List Wd → List Wd
  | 0, _, out => out
  | m + 1, ws, out => supN k m (supL m k ws out).1 (supL m k ws out).2
def supR (l : List Wd) (k : Int) : List Wd × Int := if validW l = false then ([], 1) else if ¬ (1 ≤ k ∧ k ≤ 1048576) then ([], 2) else if validW (supN k 201 l []) = false then ([], 5) else (supN k 201 l [], 0)
def supV (R : List Wd × Int) : AV := .tup [.rs (rowsOf wdC R.1), .int .i64 R.2]
def sumN : List Wd → Int
  | [] => 0
  | v :: r => v.n + sumN r
def lnW (l : List Wd) : Prop := ∀ v ∈ l, 1 ≤ v.n ∧ v.acts.length ≤ 200
theorem sumN_nn : ∀ l : List Wd, lnW l → 0 ≤ sumN l ∧ ∀ v ∈ l, v.n ≤ sumN l := by
  intro l
  induction l with
  | nil => intro _; simp [sumN]
  | cons v r ih =>
    intro h
    obtain ⟨h1, h2⟩ := ih fun x hx => h x (by simp [hx])
    have h3 := (h v (by simp)).1
    simp only [sumN]
    refine ⟨by omega, fun x hx => ?_⟩
    rcases List.mem_cons.1 hx with rfl | hx
    · omega
    · have := h2 x hx; omega
theorem sumN_ins {w : Wo} {c : Int} : ∀ l : List Wd, sumN (insP w c l) = sumN l + c := by
  intro l
  induction l with
  | nil => simp [insP, sumN]
  | cons v r ih =>
    simp only [insP]
    split
    · simp only [sumN, ih]; omega
    · split <;> simp only [sumN] <;> omega
theorem lnW_ins {w : Wo} {c : Int} (hc : 1 ≤ c) (hw : w.length ≤ 200) : ∀ l : List Wd, lnW l → lnW (insP w c l) := by
  intro l
  induction l with
  | nil => intro _ x hx; simp [insP] at hx; subst hx; exact ⟨hc, hw⟩
  | cons v r ih =>
    intro h
    have hr := ih fun x hx => h x (by simp [hx])
    have hv := h v (by simp)
    simp only [insP]
    split
    · intro x hx
      rcases List.mem_cons.1 hx with rfl | hx
      · exact hv
      · exact hr x hx
    · split
      · intro x hx
        rcases List.mem_cons.1 hx with rfl | hx
        · exact ⟨by simp only; omega, hv.2⟩
        · exact h x (by simp [hx])
      · intro x hx
        rcases List.mem_cons.1 hx with rfl | hx
        · exact ⟨hc, hw⟩
        · exact h x hx
theorem big_ok {l : List Wd} {T : Int} (h : lnW l) (hs : sumN l ≤ T) (hT : T ≤ 1048576000) : ∀ v ∈ l, -4611686018427387904 ≤ v.n ∧ v.n ≤ 4611686018427387904 := fun v hv => by
  have h1 := (h v hv).1
  have h2 := (sumN_nn l h).2 v hv
  omega
theorem insP_len1 {w : Wo} {c : Int} (l : List Wd) : (insP w c l).length ≤ l.length + 1 := insP_len l
/-- How many words of a list the first and the second pass put somewhere, and with how many cases. -/
def nA (m : Nat) (k : Int) : List Wd → Nat
  | [] => 0
  | v :: r => (if (v.acts.length = m ∧ k ≤ v.n) ∨ v.acts.length ≠ m then 1 else 0) + nA m k r
def nB (m : Nat) (k : Int) : List Wd → Nat
  | [] => 0
  | v :: r => (if v.acts.length = m ∧ v.n < k ∧ 0 < m then 1 else 0) + nB m k r
def cA (m : Nat) (k : Int) : List Wd → Int
  | [] => 0
  | v :: r => (if (v.acts.length = m ∧ k ≤ v.n) ∨ v.acts.length ≠ m then v.n else 0) + cA m k r
def cB (m : Nat) (k : Int) : List Wd → Int
  | [] => 0
  | v :: r => (if v.acts.length = m ∧ v.n < k ∧ 0 < m then v.n else 0) + cB m k r
theorem nAB {m : Nat} {k : Int} : ∀ l : List Wd, lnW l → nA m k l + nB m k l ≤ l.length ∧ cA m k l + cB m k l ≤ sumN l := by
  intro l
  induction l with
  | nil => intro _; simp [nA, nB, cA, cB, sumN]
  | cons v r ih =>
    intro h
    have h1 := ih fun x hx => h x (by simp [hx])
    have h2 := (h v (by simp)).1
    simp only [nA, nB, cA, cB, sumN, List.length_cons]
    by_cases a : (v.acts.length = m ∧ k ≤ v.n) ∨ v.acts.length ≠ m
    · have b : ¬ (v.acts.length = m ∧ v.n < k ∧ 0 < m) := by omega
      simp only [if_pos a, if_neg b]; omega
    · simp only [if_neg a]
      split <;> omega
theorem passA_ok {m : Nat} {k : Int} : ∀ (l : List Wd) (s : List Wd × List Wd), lnW l → lnW s.1 → lnW s.2 →
    lnW (passA m k l s).1 ∧ lnW (passA m k l s).2 ∧ (passA m k l s).1.length + (passA m k l s).2.length ≤ s.1.length + s.2.length + nA m k l ∧ sumN (passA m k l s).1 + sumN (passA m k l s).2 = sumN s.1 + sumN s.2 + cA m k l := by
  intro l
  induction l with
  | nil => intro s _ h1 h2; simp only [passA, nA, cA]; exact ⟨h1, h2, by omega, by omega⟩
  | cons v r ih =>
    intro s h h1 h2
    have hr : lnW r := fun x hx => h x (by simp [hx])
    have hv := h v (by simp)
    simp only [passA, nA, cA]
    by_cases a : v.acts.length = m ∧ k ≤ v.n
    · have e : supA m k s v = (s.1, insP v.acts v.n s.2) := by unfold supA; rw [if_pos a]
      rw [e, if_pos (.inl a), if_pos (.inl a)]
      have := ih (s.1, insP v.acts v.n s.2) hr h1 (lnW_ins hv.1 hv.2 _ h2)
      have hl := insP_len1 (w := v.acts) (c := v.n) s.2
      have hs := sumN_ins (w := v.acts) (c := v.n) s.2
      simp only at this
      exact ⟨this.1, this.2.1, by omega, by omega⟩
    · by_cases b : v.acts.length ≠ m
      · have e : supA m k s v = (insP v.acts v.n s.1, s.2) := by unfold supA; rw [if_neg a, if_pos b]
        rw [e, if_pos (.inr b), if_pos (.inr b)]
        have := ih (insP v.acts v.n s.1, s.2) hr (lnW_ins hv.1 hv.2 _ h1) h2
        have hl := insP_len1 (w := v.acts) (c := v.n) s.1
        have hs := sumN_ins (w := v.acts) (c := v.n) s.1
        simp only at this
        exact ⟨this.1, this.2.1, by omega, by omega⟩
      · have e : supA m k s v = s := by unfold supA; rw [if_neg a, if_neg b]
        have c : ¬ ((v.acts.length = m ∧ k ≤ v.n) ∨ v.acts.length ≠ m) := fun q => q.elim a b
        rw [e, if_neg c, if_neg c]
        have := ih s hr h1 h2
        exact ⟨this.1, this.2.1, by omega, by omega⟩
theorem passB_ok {m : Nat} {k : Int} : ∀ (l : List Wd) (s : List Wd), lnW l → lnW s →
    lnW (passB m k l s) ∧ (passB m k l s).length ≤ s.length + nB m k l ∧ sumN (passB m k l s) = sumN s + cB m k l := by
  intro l
  induction l with
  | nil => intro s _ h1; simp only [passB, nB, cB]; exact ⟨h1, by omega, by omega⟩
  | cons v r ih =>
    intro s h h1
    have hr : lnW r := fun x hx => h x (by simp [hx])
    have hv := h v (by simp)
    simp only [passB, nB, cB]
    by_cases a : v.acts.length = m ∧ v.n < k ∧ 0 < m
    · have e : supBw m k s v = insP (v.acts.take (m - 1)) v.n s := by unfold supBw; rw [if_pos a]
      rw [e, if_pos a, if_pos a]
      have := ih (insP (v.acts.take (m - 1)) v.n s) hr (lnW_ins hv.1 (by simp; have := hv.2; omega) _ h1)
      have hl := insP_len1 (w := v.acts.take (m - 1)) (c := v.n) s
      have hs := sumN_ins (w := v.acts.take (m - 1)) (c := v.n) s
      exact ⟨this.1, by omega, by omega⟩
    · have e : supBw m k s v = s := by unfold supBw; rw [if_neg a]
      rw [e, if_neg a, if_neg a]
      have := ih s hr h1
      exact ⟨this.1, by omega, by omega⟩
theorem supL_ok {m : Nat} {k : Int} {ws out : List Wd} (h1 : lnW ws) (h2 : lnW out) : lnW (supL m k ws out).1 ∧ lnW (supL m k ws out).2 ∧ (supL m k ws out).1.length + (supL m k ws out).2.length ≤ ws.length + out.length ∧ sumN (supL m k ws out).1 + sumN (supL m k ws out).2 ≤ sumN ws + sumN out := by
  unfold supL
  have hA := passA_ok (m := m) (k := k) ws ([], out) h1 (by simp [lnW]) h2
  have hB := passB_ok (m := m) (k := k) ws (passA m k ws ([], out)).1 h1 hA.1
  have hn := nAB (m := m) (k := k) ws h1
  simp only [List.length_nil, sumN] at hA
  exact ⟨hB.1, hA.2.1, by simp only; omega, by simp only; omega⟩
end Go.Proofs.Ytkppfaennogcmaa

/- Publications as counts of words (plain words). -/
namespace Go.Proofs.Ytkppfaennogcmaa
set_option linter.unusedSimpArgs false
set_option linter.unusedVariables false
set_option linter.unnecessarySimpa false
set_option linter.unusedSectionVars false
open Go.RowKit
variable [Glob]
set_option maxRecDepth 100000
/-- How many cases a word has. -/
def cntW (w : Wo) : List Wd → Int
  | [] => 0
  | v :: r => (if v.acts = w then v.n else 0) + cntW w r
theorem cnt_ins {w u : Wo} {c : Int} : ∀ l : List Wd, cntW u (insP w c l) = cntW u l + if w = u then c else 0 := by
  intro l
  induction l with
  | nil => simp [insP, cntW]
  | cons v r ih =>
    simp only [insP]
    split
    · simp only [cntW, ih]; omega
    · split
      · rename_i h
        have := cmpL_zero h
        simp only [cntW, this]
        split <;> omega
      · simp only [cntW]; omega
theorem cnt_append {u : Wo} : ∀ a b : List Wd, cntW u (a ++ b) = cntW u a + cntW u b := by
  intro a b
  induction a with
  | nil => simp [cntW]
  | cons v a ih => simp only [List.cons_append, cntW, ih]; omega
theorem cnt_perm {u : Wo} {a b : List Wd} (h : a.Perm b) : cntW u a = cntW u b := by
  induction h with
  | nil => rfl
  | cons x _ ih => simp only [cntW, ih]
  | swap x y l => simp only [cntW]; omega
  | trans _ _ h1 h2 => rw [h1, h2]
def keyN (l : List Wd) : Prop := (l.map Wd.acts).Nodup
theorem cnt_none {u : Wo} : ∀ l : List Wd, u ∉ l.map Wd.acts → cntW u l = 0 := by
  intro l
  induction l with
  | nil => intro _; rfl
  | cons v r ih =>
    intro h
    simp only [List.map_cons, List.mem_cons, not_or] at h
    have hne : ¬ v.acts = u := fun q => h.1 q.symm
    simp only [cntW, ih h.2, if_neg hne]
    omega
theorem cnt_some : ∀ l : List Wd, keyN l → ∀ v ∈ l, cntW v.acts l = v.n := by
  intro l
  induction l with
  | nil => intro _ v h; cases h
  | cons x r ih =>
    intro hk v hv
    unfold keyN at hk
    simp only [List.map_cons, List.nodup_cons] at hk
    rcases List.mem_cons.1 hv with rfl | hv
    · simp only [cntW, if_true, cnt_none r hk.1]; omega
    · have : x.acts ≠ v.acts := fun q => hk.1 (by rw [q]; exact List.mem_map.2 ⟨v, hv, rfl⟩)
      simp only [cntW, if_neg this, ih hk.2 v hv]; omega
/-- The same counts, no word twice, none without cases: the same entries. -/
theorem same_mem {a b : List Wd} (ka : keyN a) (kb : keyN b) (pa : ∀ v ∈ a, 1 ≤ v.n) (h : ∀ u, cntW u a = cntW u b) : ∀ v ∈ a, v ∈ b := by
  intro v hv
  have h1 := cnt_some a ka v hv
  rw [h] at h1
  have hm : v.acts ∈ b.map Wd.acts := Classical.byContradiction fun q => by
    rw [cnt_none b q] at h1
    have := pa v hv; omega
  obtain ⟨x, hx, he⟩ := List.mem_map.1 hm
  have h2 := cnt_some b kb x hx
  rw [he, h1] at h2
  obtain ⟨A, n⟩ := v
  obtain ⟨B, m⟩ := x
  simp only at he h2
  rw [he, ← h2] at hx
  exact hx
theorem keyN_nodup {a : List Wd} (ka : keyN a) : a.Nodup := by
  induction a with
  | nil => simp
  | cons x r ih =>
    unfold keyN at ka
    simp only [List.map_cons, List.nodup_cons] at ka
    exact List.nodup_cons.2 ⟨fun q => ka.1 (List.mem_map.2 ⟨x, q, rfl⟩), ih ka.2⟩
theorem same_perm {a b : List Wd} (ka : keyN a) (kb : keyN b) (pa : ∀ v ∈ a, 1 ≤ v.n) (pb : ∀ v ∈ b, 1 ≤ v.n) (h : ∀ u, cntW u a = cntW u b) : a.Perm b :=
  (List.perm_ext_iff_of_nodup (keyN_nodup ka) (keyN_nodup kb)).2 fun v => ⟨same_mem ka kb pa h v, same_mem kb ka pb (fun u => (h u).symm) v⟩
/-- Ascending, no word twice. -/
def ascW (l : List Wd) : Prop := l.Pairwise fun a b => cmpL a.acts b.acts < 0
theorem asc_key {l : List Wd} (h : ascW l) : keyN l := by
  induction l with
  | nil => simp [keyN]
  | cons v r ih =>
    have h1 := List.pairwise_cons.1 h
    unfold keyN
    simp only [List.map_cons, List.nodup_cons]
    refine ⟨fun q => ?_, ih h1.2⟩
    obtain ⟨x, hx, he⟩ := List.mem_map.1 q
    have := h1.1 x hx
    rw [he, cmpL_self] at this
    omega
theorem asc_uniq_W : ∀ a b : List Wd, ascW a → ascW b → (∀ v, v ∈ a ↔ v ∈ b) → a = b := by
  intro a
  induction a with
  | nil =>
    intro b _ _ h
    cases b with
    | nil => rfl
    | cons y b => exact absurd ((h y).2 (by simp)) (by simp)
  | cons x a ih =>
    intro b ha hb h
    cases b with
    | nil => exact absurd ((h x).1 (by simp)) (by simp)
    | cons y b =>
      have ha1 := List.pairwise_cons.1 ha
      have hb1 := List.pairwise_cons.1 hb
      have hxy : x = y := by
        rcases List.mem_cons.1 ((h x).1 (by simp)) with e | e
        · exact e
        · rcases List.mem_cons.1 ((h y).2 (by simp)) with e2 | e2
          · exact e2.symm
          · have q1 := hb1.1 x e
            have q2 := ha1.1 y e2
            rw [cmpL_anti] at q2
            omega
      subst hxy
      rw [ih b ha1.2 hb1.2 fun v => ?_]
      constructor
      · intro hv
        rcases List.mem_cons.1 ((h v).1 (by simp [hv])) with e | e
        · have := ha1.1 v hv
          rw [e, cmpL_self] at this; omega
        · exact e
      · intro hv
        rcases List.mem_cons.1 ((h v).2 (by simp [hv])) with e | e
        · have := hb1.1 v hv
          rw [e, cmpL_self] at this; omega
        · exact e
theorem mem_insP_acts {w : Wo} {c : Int} : ∀ (l : List Wd) (v : Wd), v ∈ insP w c l → v.acts = w ∨ ∃ x ∈ l, x.acts = v.acts := by
  intro l
  induction l with
  | nil => intro v hv; simp [insP] at hv; subst hv; exact .inl rfl
  | cons x r ih =>
    intro v hv
    simp only [insP] at hv
    split at hv
    · rcases List.mem_cons.1 hv with rfl | hv
      · exact .inr ⟨v, by simp, rfl⟩
      · rcases ih v hv with e | ⟨y, hy, e⟩
        · exact .inl e
        · exact .inr ⟨y, by simp [hy], e⟩
    · split at hv
      · rcases List.mem_cons.1 hv with rfl | hv
        · exact .inr ⟨x, by simp, rfl⟩
        · exact .inr ⟨v, by simp [hv], rfl⟩
      · rcases List.mem_cons.1 hv with rfl | hv
        · exact .inl rfl
        · exact .inr ⟨v, hv, rfl⟩
theorem ascW_ins {w : Wo} {c : Int} : ∀ l : List Wd, ascW l → ascW (insP w c l) := by
  intro l
  induction l with
  | nil => intro _; simp [insP, ascW]
  | cons x r ih =>
    intro h
    have h1 := List.pairwise_cons.1 h
    simp only [insP]
    split
    · rename_i hlt
      refine List.pairwise_cons.2 ⟨fun v hv => ?_, ih h1.2⟩
      rcases mem_insP_acts r v hv with e | ⟨y, hy, e⟩
      · rw [e]; exact hlt
      · rw [← e]; exact h1.1 y hy
    · split
      · exact List.pairwise_cons.2 ⟨fun v hv => h1.1 v hv, h1.2⟩
      · rename_i n1 n2
        have hgt : cmpL w x.acts < 0 := by rw [cmpL_anti]; omega
        refine List.pairwise_cons.2 ⟨fun v hv => ?_, h⟩
        rcases List.mem_cons.1 hv with rfl | hv
        · exact hgt
        · have := h1.1 v hv
          exact (cmpL_trans w x.acts v.acts (by omega) (by omega)).2 (.inl hgt)
/-- An ascending list is told by its counts. -/
theorem asc_counts {a b : List Wd} (ha : ascW a) (hb : ascW b) (pa : ∀ v ∈ a, 1 ≤ v.n) (pb : ∀ v ∈ b, 1 ≤ v.n) (h : ∀ u, cntW u a = cntW u b) : a = b :=
  asc_uniq_W a b ha hb fun v => ⟨same_mem (asc_key ha) (asc_key hb) pa h v, same_mem (asc_key hb) (asc_key ha) pb (fun u => (h u).symm) v⟩
end Go.Proofs.Ytkppfaennogcmaa

/- A level of the reference's Suppress, as counts of words (plain words). -/
namespace Go.Proofs.Ytkppfaennogcmaa
set_option linter.unusedSimpArgs false
set_option linter.unusedVariables false
set_option linter.unnecessarySimpa false
set_option linter.unusedSectionVars false
open Go.RowKit
variable [Glob]
set_option maxRecDepth 100000
def sumP (p : Wd → Bool) : List Wd → Int
  | [] => 0
  | v :: r => (if p v = true then v.n else 0) + sumP p r
theorem sumP_perm {p : Wd → Bool} {a b : List Wd} (h : a.Perm b) : sumP p a = sumP p b := by
  induction h with
  | nil => rfl
  | cons x _ ih => simp only [sumP, ih]
  | swap x y l => simp only [sumP]; omega
  | trans _ _ h1 h2 => rw [h1, h2]
theorem sumP_append {p : Wd → Bool} : ∀ a b : List Wd, sumP p (a ++ b) = sumP p a + sumP p b := by
  intro a b
  induction a with
  | nil => simp [sumP]
  | cons v a ih => simp only [List.cons_append, sumP, ih]; omega
theorem sumP_filter {p q : Wd → Bool} : ∀ a : List Wd, (∀ v, p v = true → q v = true) → sumP p (a.filter q) = sumP p a := by
  intro a h
  induction a with
  | nil => rfl
  | cons v a ih =>
    by_cases hq : q v = true
    · rw [List.filter_cons_of_pos hq]; simp only [sumP, ih]
    · have hp : ¬ p v = true := fun e => hq (h v e)
      rw [List.filter_cons_of_neg hq]; simp only [sumP, ih, if_neg hp]; omega
def pOther (m : Nat) (u : Wo) (v : Wd) : Bool := decide (v.acts.length ≠ m ∧ v.acts = u)
def pKeep (m : Nat) (k : Int) (u : Wo) (v : Wd) : Bool := decide (v.acts.length = m ∧ k ≤ v.n ∧ v.acts = u)
def pCut (m : Nat) (k : Int) (u : Wo) (v : Wd) : Bool := decide (v.acts.length = m ∧ v.n < k ∧ 0 < m ∧ v.acts.take (m - 1) = u)
theorem cnt_passA {m : Nat} {k : Int} {u : Wo} : ∀ (l : List Wd) (s : List Wd × List Wd),
    cntW u (passA m k l s).1 = cntW u s.1 + sumP (pOther m u) l ∧ cntW u (passA m k l s).2 = cntW u s.2 + sumP (pKeep m k u) l := by
  intro l
  induction l with
  | nil => intro s; simp [passA, sumP]
  | cons v r ih =>
    intro s
    simp only [passA, sumP]
    obtain ⟨i1, i2⟩ := ih (supA m k s v)
    rw [i1, i2]
    unfold supA pOther pKeep
    by_cases a : v.acts.length = m
    · by_cases b : k ≤ v.n
      · rw [if_pos ⟨a, b⟩]
        simp only [cnt_ins, a, b, ne_eq, not_true, false_and, true_and, decide_false, decide_eq_true_eq]
        constructor
        · simp
        · omega
      · rw [if_neg fun q => b q.2, if_neg fun q => q a]
        simp [a, b]
    · rw [if_neg fun q => a q.1, if_pos a]
      simp only [cnt_ins, a, ne_eq, not_false_eq_true, false_and, true_and, decide_false, decide_eq_true_eq]
      constructor
      · omega
      · simp
theorem cnt_passB {m : Nat} {k : Int} {u : Wo} : ∀ (l s : List Wd), cntW u (passB m k l s) = cntW u s + sumP (pCut m k u) l := by
  intro l
  induction l with
  | nil => intro s; simp [passB, sumP]
  | cons v r ih =>
    intro s
    simp only [passB, sumP]
    rw [ih]
    unfold supBw pCut
    by_cases a : v.acts.length = m ∧ v.n < k ∧ 0 < m
    · rw [if_pos a]
      simp only [cnt_ins, a, true_and, decide_eq_true_eq]
      omega
    · rw [if_neg a]
      have : ¬ (v.acts.length = m ∧ v.n < k ∧ 0 < m ∧ v.acts.take (m - 1) = u) := fun q => a ⟨q.1, q.2.1, q.2.2.1⟩
      simp only [this, decide_false]
      simp
/-- A level, as counts. -/
theorem cnt_supL {m : Nat} {k : Int} {u : Wo} {ws out : List Wd} :
    cntW u (supL m k ws out).1 = sumP (pOther m u) ws + sumP (pCut m k u) ws ∧ cntW u (supL m k ws out).2 = cntW u out + sumP (pKeep m k u) ws := by
  unfold supL
  obtain ⟨h1, h2⟩ := cnt_passA (m := m) (k := k) (u := u) ws ([], out)
  rw [cnt_passB, h1, h2]
  simp [cntW]
theorem asc_passA {m : Nat} {k : Int} : ∀ (l : List Wd) (s : List Wd × List Wd), ascW s.1 → ascW s.2 → ascW (passA m k l s).1 ∧ ascW (passA m k l s).2 := by
  intro l
  induction l with
  | nil => intro s h1 h2; exact ⟨h1, h2⟩
  | cons v r ih =>
    intro s h1 h2
    simp only [passA]
    unfold supA
    split
    · exact ih _ h1 (ascW_ins _ h2)
    · split
      · exact ih _ (ascW_ins _ h1) h2
      · exact ih _ h1 h2
theorem asc_passB {m : Nat} {k : Int} : ∀ (l s : List Wd), ascW s → ascW (passB m k l s) := by
  intro l
  induction l with
  | nil => intro s h; exact h
  | cons v r ih =>
    intro s h
    simp only [passB]
    unfold supBw
    split
    · exact ih _ (ascW_ins _ h)
    · exact ih _ h
theorem asc_supL {m : Nat} {k : Int} {ws out : List Wd} (h : ascW out) : ascW (supL m k ws out).1 ∧ ascW (supL m k ws out).2 := by
  unfold supL
  obtain ⟨h1, h2⟩ := asc_passA (m := m) (k := k) ws ([], out) (by simp [ascW]) h
  exact ⟨asc_passB ws _ h1, h2⟩
theorem asc_supN {k : Int} : ∀ (m : Nat) (ws out : List Wd), ascW out → ascW (supN k m ws out) := by
  intro m
  induction m with
  | zero => intro ws out h; exact h
  | succ m ih => intro ws out h; exact ih _ _ (asc_supL h).2
end Go.Proofs.Ytkppfaennogcmaa

/- The program's Suppress by levels, in any order of a level's words, against the reference's (plain words). -/
namespace Go.Proofs.Ytkppfaennogcmaa
set_option linter.unusedSimpArgs false
set_option linter.unusedVariables false
set_option linter.unnecessarySimpa false
set_option linter.unusedSectionVars false
open Go.RowKit
variable [Glob]
set_option maxRecDepth 100000
/-- Cases are put to a word of a map. -/
def aW (w : Wo) (c : Int) : List Wd → List Wd
  | [] => [⟨w, c⟩]
  | v :: r => if v.acts = w then ⟨w, v.n + c⟩ :: r else v :: aW w c r
theorem cnt_aW {w u : Wo} {c : Int} : ∀ l : List Wd, cntW u (aW w c l) = cntW u l + if w = u then c else 0 := by
  intro l
  induction l with
  | nil => simp [aW, cntW]
  | cons v r ih =>
    simp only [aW]
    split
    · rename_i h
      simp only [cntW, h]
      split <;> omega
    · simp only [cntW, ih]; omega
theorem mem_aW {w : Wo} {c : Int} : ∀ (l : List Wd) (v : Wd), v ∈ aW w c l → (v.acts = w ∧ (v.n = c ∨ ∃ x ∈ l, x.acts = w ∧ v.n = x.n + c)) ∨ v ∈ l := by
  intro l
  induction l with
  | nil => intro v hv; simp [aW] at hv; subst hv; exact .inl ⟨rfl, .inl rfl⟩
  | cons x r ih =>
    intro v hv
    simp only [aW] at hv
    split at hv
    · rename_i h
      rcases List.mem_cons.1 hv with rfl | hv
      · exact .inl ⟨rfl, .inr ⟨x, by simp, h, rfl⟩⟩
      · exact .inr (by simp [hv])
    · rcases List.mem_cons.1 hv with rfl | hv
      · exact .inr (by simp)
      · rcases ih v hv with ⟨h1, h2⟩ | h
        · refine .inl ⟨h1, ?_⟩
          rcases h2 with h2 | ⟨y, hy, h2⟩
          · exact .inl h2
          · exact .inr ⟨y, by simp [hy], h2⟩
        · exact .inr (by simp [h])
theorem key_aW {w : Wo} {c : Int} : ∀ l : List Wd, keyN l → keyN (aW w c l) := by
  intro l
  induction l with
  | nil => intro _; simp [aW, keyN]
  | cons x r ih =>
    intro h
    have h1 : x.acts ∉ r.map Wd.acts ∧ keyN r := by
      unfold keyN at h
      simp only [List.map_cons, List.nodup_cons] at h
      exact h
    simp only [aW]
    split
    · rename_i e
      unfold keyN
      simp only [List.map_cons, List.nodup_cons]
      exact ⟨e ▸ h1.1, h1.2⟩
    · rename_i e
      unfold keyN
      simp only [List.map_cons, List.nodup_cons]
      refine ⟨fun q => ?_, ih h1.2⟩
      obtain ⟨v, hv, he⟩ := List.mem_map.1 q
      rcases mem_aW r v hv with ⟨h2, _⟩ | h2
      · exact e (by rw [← he, h2])
      · exact h1.1 (List.mem_map.2 ⟨v, h2, he⟩)
abbrev Lv := Nat → List Wd
def updL (f : Lv) (j : Nat) (x : List Wd) : Lv := fun i => if i = j then x else f i
def stP (m : Nat) (k : Int) (s : Lv × List Wd) (v : Wd) : Lv × List Wd :=
  if k ≤ v.n then (s.1, s.2 ++ [v]) else if 0 < m then (updL s.1 (m - 1) (aW (v.acts.take (m - 1)) v.n (s.1 (m - 1))), s.2) else s
def runP (m : Nat) (k : Int) : List Wd → Lv × List Wd → Lv × List Wd
  | [], s => s
  | v :: r, s => runP m k r (stP m k s v)
/-- What the levels hold. -/
def okLv (m : Nat) (f : Lv) : Prop := ∀ j, j < m → keyN (f j) ∧ ∀ v ∈ f j, v.acts.length = j ∧ 1 ≤ v.n
theorem runP_ok {m : Nat} {k : Int} : ∀ (p : List Wd) (s : Lv × List Wd), (∀ v ∈ p, v.acts.length = m ∧ 1 ≤ v.n) → okLv m s.1 →
    okLv m (runP m k p s).1 ∧ (∀ j u, j < m → u.length = j → cntW u ((runP m k p s).1 j) = cntW u (s.1 j) + (if j + 1 = m then sumP (pCut m k u) p else 0)) ∧ (∀ u, cntW u (runP m k p s).2 = cntW u s.2 + sumP (pKeep m k u) p) := by
  intro p
  induction p with
  | nil => intro s _ h; simp only [runP, sumP]; exact ⟨h, fun j u _ _ => by split <;> omega, fun u => by omega⟩
  | cons v r ih =>
    intro s hp h
    obtain ⟨hv1, hv2⟩ := hp v (by simp)
    have hr : ∀ x ∈ r, x.acts.length = m ∧ 1 ≤ x.n := fun x hx => hp x (by simp [hx])
    simp only [runP, sumP]
    by_cases a : k ≤ v.n
    · have e : stP m k s v = (s.1, s.2 ++ [v]) := by unfold stP; rw [if_pos a]
      rw [e]
      obtain ⟨i1, i2, i3⟩ := ih (s.1, s.2 ++ [v]) hr h
      refine ⟨i1, fun j u hj hu => ?_, fun u => ?_⟩
      · rw [i2 j u hj hu]
        have : ¬ pCut m k u v = true := by unfold pCut; simp; omega
        rw [if_neg this]
        dsimp only
        split <;> omega
      · rw [i3 u]
        dsimp only
        rw [cnt_append]
        have : (pKeep m k u v = true) = (v.acts = u) := by unfold pKeep; simp [hv1, a]
        simp only [cntW, this]
        omega
    · by_cases b : 0 < m
      · have e : stP m k s v = (updL s.1 (m - 1) (aW (v.acts.take (m - 1)) v.n (s.1 (m - 1))), s.2) := by unfold stP; rw [if_neg a, if_pos b]
        rw [e]
        have hlen : (v.acts.take (m - 1)).length = m - 1 := by simp; omega
        have h2 : okLv m (updL s.1 (m - 1) (aW (v.acts.take (m - 1)) v.n (s.1 (m - 1)))) := fun j hj => by
          unfold updL
          split
          · rename_i ej
            subst ej
            obtain ⟨q1, q2⟩ := h (m - 1) (by omega)
            refine ⟨key_aW _ q1, fun x hx => ?_⟩
            rcases mem_aW _ x hx with ⟨h3, h4⟩ | h3
            · refine ⟨by rw [h3]; exact hlen, ?_⟩
              rcases h4 with h4 | ⟨y, hy, _, h4⟩
              · omega
              · have := (q2 y hy).2; omega
            · exact q2 x h3
          · exact h j hj
        obtain ⟨i1, i2, i3⟩ := ih (updL s.1 (m - 1) (aW (v.acts.take (m - 1)) v.n (s.1 (m - 1))), s.2) hr h2
        refine ⟨i1, fun j u hj hu => ?_, fun u => ?_⟩
        · rw [i2 j u hj hu]
          unfold updL
          simp only
          by_cases ej : j = m - 1
          · have hjm : j + 1 = m := by omega
            rw [if_pos ej, if_pos hjm, if_pos hjm, cnt_aW, ej]
            have : (pCut m k u v = true) = (v.acts.take (m - 1) = u) := by
              unfold pCut; simp [hv1, b]; omega
            simp only [this]
            omega
          · rw [if_neg ej, if_neg (by omega), if_neg (by omega)]
        · rw [i3 u]
          have : ¬ pKeep m k u v = true := by unfold pKeep; simp; omega
          rw [if_neg this]
          dsimp only
          omega
      · have e : stP m k s v = s := by unfold stP; rw [if_neg a, if_neg b]
        rw [e]
        obtain ⟨i1, i2, i3⟩ := ih s hr h
        refine ⟨i1, fun j u hj hu => by omega, fun u => ?_⟩
        rw [i3 u]
        have : ¬ pKeep m k u v = true := by unfold pKeep; simp; omega
        rw [if_neg this]; omega
/-- The reference's list and the program's levels, levels below m being still to be done. -/
structure RelS (m : Nat) (ws out : List Wd) (f : Lv) (o : List Wd) : Prop where
  ok : okLv m f
  asc : keyN ws
  pos : lnW ws
  cnt : ∀ u, u.length < m → cntW u ws = cntW u (f u.length)
  top : ∀ v ∈ ws, v.acts.length < m
  eqO : ∀ u, cntW u out = cntW u o
  ascO : ascW out
  posO : lnW out
theorem cnt_filter {m : Nat} {u : Wo} : ∀ l : List Wd, cntW u (l.filter fun v => decide (v.acts.length = m)) = if u.length = m then cntW u l else 0 := by
  intro l
  induction l with
  | nil => simp [cntW]
  | cons v r ih =>
    by_cases h : v.acts.length = m
    · rw [List.filter_cons_of_pos (by simpa using h)]
      simp only [cntW, ih]
      by_cases e : v.acts = u
      · have : u.length = m := by rw [← e]; exact h
        simp only [if_pos e, if_pos this]
      · simp only [if_neg e]
        split <;> omega
    · rw [List.filter_cons_of_neg (by simpa using h), ih]
      simp only [cntW]
      by_cases e : v.acts = u
      · have : ¬ u.length = m := by rw [← e]; exact h
        simp only [if_neg this]
      · simp only [if_neg e]
        split <;> omega
theorem key_filter {q : Wd → Bool} {l : List Wd} (h : keyN l) : keyN (l.filter q) := by
  induction l with
  | nil => simp [keyN]
  | cons v r ih =>
    unfold keyN at h
    simp only [List.map_cons, List.nodup_cons] at h
    have hr := ih h.2
    by_cases hq : q v = true
    · rw [List.filter_cons_of_pos hq]
      unfold keyN
      simp only [List.map_cons, List.nodup_cons]
      refine ⟨fun hh => h.1 ?_, hr⟩
      obtain ⟨x, hx, he⟩ := List.mem_map.1 hh
      exact List.mem_map.2 ⟨x, (List.mem_filter.1 hx).1, he⟩
    · rw [List.filter_cons_of_neg hq]; exact hr
theorem cnt_long {u : Wo} {m : Nat} : ∀ l : List Wd, (∀ v ∈ l, v.acts.length = m) → u.length ≠ m → cntW u l = 0 := fun l h hu => cnt_none l fun q => by
  obtain ⟨x, hx, he⟩ := List.mem_map.1 q
  exact hu (by rw [← he]; exact h x hx)
/-- A level's words in the map, in any order, are the words of that length in the reference's list. -/
theorem RelS.level {m : Nat} {ws out o p : List Wd} {f : Lv} (h : RelS (m + 1) ws out f o) (hp : p.Perm (f m)) : p.Perm (ws.filter fun v => decide (v.acts.length = m)) := by
  obtain ⟨k1, k2⟩ := h.ok m (by omega)
  refine hp.trans (same_perm k1 (key_filter h.asc) (fun v hv => (k2 v hv).2) (fun v hv => (h.pos v (List.mem_filter.1 hv).1).1) fun u => ?_)
  rw [cnt_filter]
  split
  · rename_i e
    have := h.cnt u (by omega)
    rw [this, e]
  · rename_i e
    exact cnt_long _ (fun v hv => (k2 v hv).1) e
theorem sumP_other {m : Nat} {u : Wo} : ∀ l : List Wd, sumP (pOther m u) l = if u.length ≠ m then cntW u l else 0 := by
  intro l
  induction l with
  | nil => simp [sumP, cntW]
  | cons v r ih =>
    simp only [sumP, cntW, ih]
    by_cases e : v.acts = u
    · have : (pOther m u v = true) = (u.length ≠ m) := by unfold pOther; simp [e]
      simp only [this, if_pos e]
      split <;> omega
    · have : ¬ pOther m u v = true := by unfold pOther; simp [e]
      simp only [if_neg this, if_neg e]
      split <;> omega
theorem RelS.sums {m : Nat} {k : Int} {u : Wo} {ws out o p : List Wd} {f : Lv} (h : RelS (m + 1) ws out f o) (hp : p.Perm (f m)) :
    sumP (pCut m k u) p = sumP (pCut m k u) ws ∧ sumP (pKeep m k u) p = sumP (pKeep m k u) ws := by
  have hl := h.level hp
  rw [sumP_perm hl, sumP_perm hl]
  exact ⟨sumP_filter ws fun v hv => by unfold pCut at hv; simp at hv; simp [hv.1], sumP_filter ws fun v hv => by unfold pKeep at hv; simp at hv; simp [hv.1]⟩
theorem cut_len {m : Nat} {k : Int} {u : Wo} : ∀ l : List Wd, u.length + 1 ≠ m → sumP (pCut m k u) l = 0 := by
  intro l hu
  induction l with
  | nil => rfl
  | cons v r ih =>
    have : ¬ pCut m k u v = true := by
      unfold pCut
      simp only [decide_eq_true_eq]
      rintro ⟨h1, _, h3, h4⟩
      have := congrArg List.length h4
      rw [List.length_take] at this
      omega
    simp only [sumP, if_neg this, ih]; omega
/-- One level more is done on both sides. -/
theorem RelS.step {m : Nat} {k : Int} {ws out o p : List Wd} {f : Lv} (h : RelS (m + 1) ws out f o) (hp : p.Perm (f m)) :
    RelS m (supL m k ws out).1 (supL m k ws out).2 (runP m k p (f, o)).1 (runP m k p (f, o)).2 := by
  have hpl : ∀ v ∈ p, v.acts.length = m ∧ 1 ≤ v.n := fun v hv => (h.ok m (by omega)).2 v (hp.mem_iff.1 hv)
  obtain ⟨i1, i2, i3⟩ := runP_ok (m := m) (k := k) p (f, o) hpl fun j hj => h.ok j (by omega)
  have hA := asc_supL (m := m) (k := k) (ws := ws) h.ascO
  have hB := supL_ok (m := m) (k := k) h.pos h.posO
  refine ⟨i1, asc_key hA.1, hB.1, fun u hu => ?_, fun v hv => ?_, fun u => ?_, hA.2, hB.2.1⟩
  · rw [(cnt_supL (u := u)).1, sumP_other, if_pos (by omega), i2 u.length u hu rfl, h.cnt u (by omega)]
    dsimp only
    rw [(h.sums (k := k) (u := u) hp).1]
    split
    · rfl
    · rename_i e
      rw [cut_len ws e]
  · apply Decidable.byContradiction
    intro hc
    have h1 := cnt_some _ (asc_key hA.1) v hv
    have h2 := (hB.1 v hv).1
    rw [(cnt_supL (u := v.acts)).1, sumP_other, cut_len ws (by omega)] at h1
    split at h1
    · rename_i e
      rw [cnt_none ws fun q => by
        obtain ⟨x, hx, he⟩ := List.mem_map.1 q
        have := h.top x hx
        rw [he] at this; omega] at h1
      omega
    · omega
  · rw [(cnt_supL (u := u)).2, i3 u, h.eqO u]
    dsimp only
    rw [(h.sums (k := k) (u := u) hp).2]
end Go.Proofs.Ytkppfaennogcmaa

/- What the program's Suppress has put out, against the reference's (plain words). -/
namespace Go.Proofs.Ytkppfaennogcmaa
set_option linter.unusedSimpArgs false
set_option linter.unusedVariables false
set_option linter.unnecessarySimpa false
set_option linter.unusedSectionVars false
open Go.RowKit
variable [Glob]
set_option maxRecDepth 100000
theorem runP_out {m : Nat} {k : Int} : ∀ (p : List Wd) (s : Lv × List Wd), (runP m k p s).2 = s.2 ++ p.filter fun v => decide (k ≤ v.n) := by
  intro p
  induction p with
  | nil => intro s; simp [runP]
  | cons v r ih =>
    intro s
    simp only [runP]
    rw [ih]
    unfold stP
    by_cases a : k ≤ v.n
    · rw [if_pos a, List.filter_cons_of_pos (by simpa using a)]
      simp
    · rw [if_neg a, List.filter_cons_of_neg (by simpa using a)]
      split <;> rfl
/-- What was put out: words of m and more activities, none twice. -/
def okO (m : Nat) (k : Int) (o : List Wd) : Prop := keyN o ∧ ∀ v ∈ o, m ≤ v.acts.length ∧ 1 ≤ v.n ∧ k ≤ v.n
theorem key_append {a b : List Wd} (ha : keyN a) (hb : keyN b) (h : ∀ v ∈ a, ∀ x ∈ b, v.acts ≠ x.acts) : keyN (a ++ b) := by
  unfold keyN at *
  rw [List.map_append]
  refine List.nodup_append.2 ⟨ha, hb, fun x hx y hy => ?_⟩
  obtain ⟨v, hv, rfl⟩ := List.mem_map.1 hx
  obtain ⟨w, hw, rfl⟩ := List.mem_map.1 hy
  exact h v hv w hw
theorem key_perm {a b : List Wd} (h : a.Perm b) (hb : keyN b) : keyN a := by
  unfold keyN at *
  exact (h.map Wd.acts).nodup_iff.2 hb
theorem okO_step {m : Nat} {k : Int} {ws out o p : List Wd} {f : Lv} (h : RelS (m + 1) ws out f o) (ho : okO (m + 1) k o) (hp : p.Perm (f m)) : okO m k (runP m k p (f, o)).2 := by
  obtain ⟨k1, k2⟩ := h.ok m (by omega)
  rw [runP_out]
  have kp := key_perm hp k1
  refine ⟨key_append ho.1 (key_filter kp) fun v hv x hx e => ?_, fun v hv => ?_⟩
  · have h1 := (ho.2 v hv).1
    have h2 := (k2 x (hp.mem_iff.1 (List.mem_filter.1 hx).1)).1
    rw [e] at h1; omega
  · rcases List.mem_append.1 hv with hv | hv
    · have := ho.2 v hv
      exact ⟨by omega, this.2⟩
    · have h1 := List.mem_filter.1 hv
      have h2 := k2 v (hp.mem_iff.1 h1.1)
      exact ⟨by omega, h2.2, by simpa using h1.2⟩
/-- At the end the reference's list is what was put out, sorted. -/
theorem end_eq {k : Int} {ws out o q : List Wd} {f : Lv} (h : RelS 0 ws out f o) (ho : okO 0 k o) (hq : q.Perm o) (hs : q.Pairwise fun a b => cmpL a.acts b.acts ≤ 0) : q = out := by
  have kq := key_perm hq ho.1
  have ha : ascW q := by
    unfold ascW
    clear h hq ho
    induction q with
    | nil => simp
    | cons x r ih =>
      have h1 := List.pairwise_cons.1 hs
      unfold keyN at kq
      simp only [List.map_cons, List.nodup_cons] at kq
      refine List.pairwise_cons.2 ⟨fun v hv => ?_, ih h1.2 kq.2⟩
      have h2 := h1.1 v hv
      have h3 : cmpL x.acts v.acts ≠ 0 := fun e => kq.1 (List.mem_map.2 ⟨v, hv, (cmpL_zero e).symm⟩)
      omega
  refine asc_counts ha h.ascO (fun v hv => (ho.2 v (hq.mem_iff.1 hv)).2.1) (fun v hv => (h.posO v hv).1) fun u => ?_
  rw [cnt_perm hq, h.eqO u]
end Go.Proofs.Ytkppfaennogcmaa

/- The beginning of Suppress, and whose strings there are (plain words). -/
namespace Go.Proofs.Ytkppfaennogcmaa
set_option linter.unusedSimpArgs false
set_option linter.unusedVariables false
set_option linter.unnecessarySimpa false
set_option linter.unusedSectionVars false
open Go.RowKit
variable [Glob]
set_option maxRecDepth 100000
def addL (f : Lv) (v : Wd) : Lv := updL f v.acts.length (aW v.acts v.n (f v.acts.length))
def addAll : List Wd → Lv → Lv
  | [], f => f
  | v :: r, f => addAll r (addL f v)
theorem addL_ok {M : Nat} {f : Lv} {v : Wd} (h : okLv M f) (hv : 1 ≤ v.n) : okLv M (addL f v) := fun j hj => by
  unfold addL updL
  split
  · rename_i e
    subst e
    obtain ⟨q1, q2⟩ := h _ hj
    refine ⟨key_aW _ q1, fun x hx => ?_⟩
    rcases mem_aW _ x hx with ⟨h3, h4⟩ | h3
    · refine ⟨by rw [h3], ?_⟩
      rcases h4 with h4 | ⟨y, hy, _, h4⟩
      · omega
      · have := (q2 y hy).2; omega
    · exact q2 x h3
  · exact h j hj
theorem addL_cnt {f : Lv} {v : Wd} {u : Wo} : cntW u (addL f v u.length) = cntW u (f u.length) + if v.acts = u then v.n else 0 := by
  unfold addL updL
  by_cases e : u.length = v.acts.length
  · rw [if_pos e, cnt_aW, e]
  · have : ¬ v.acts = u := fun q => e (by rw [q])
    rw [if_neg e, if_neg this]; omega
theorem addAll_ok {M : Nat} : ∀ (l : List Wd) (f : Lv), lnW l → okLv M f → okLv M (addAll l f) ∧ ∀ u : Wo, cntW u (addAll l f u.length) = cntW u (f u.length) + cntW u l := by
  intro l
  induction l with
  | nil => intro f _ h; exact ⟨h, fun u => by simp [addAll, cntW]⟩
  | cons v r ih =>
    intro f hl h
    have hv := (hl v (by simp)).1
    obtain ⟨i1, i2⟩ := ih (addL f v) (fun x hx => hl x (by simp [hx])) (addL_ok h hv)
    refine ⟨i1, fun u => ?_⟩
    simp only [addAll]
    rw [i2 u, addL_cnt]
    simp only [cntW]; omega
/-- Valid lists ascend. -/
theorem validW_asc {l : List Wd} (h : validW l = true) : ascW l := by
  have key : ∀ i, i + 1 < l.length → cmpL (wat l i).acts (wat l (i + 1)).acts < 0 := fun i hi => by
    have := (List.all_eq_true.1 h) (i + 1) (by simpa using hi)
    simp only [badW, Bool.not_eq_true', Bool.or_eq_false_iff, Bool.and_eq_false_iff, decide_eq_false_iff_not] at this
    rcases this.2 with q | q
    · omega
    · rw [Nat.add_sub_cancel] at q; omega
  have all : ∀ j i, i < j → j < l.length → cmpL (wat l i).acts (wat l j).acts < 0 := by
    intro j
    induction j with
    | zero => intro i h; omega
    | succ j ih =>
      intro i h1 h2
      have h3 := key j h2
      by_cases e : i = j
      · subst e; exact h3
      · have h4 := ih i (by omega) (by omega)
        exact (cmpL_trans _ _ _ (by omega) (by omega)).2 (.inl h4)
  unfold ascW
  rw [List.pairwise_iff_getElem]
  intro i j hi hj hij
  have := all j i hij hj
  rw [wat_get hi, wat_get hj] at this
  exact this
theorem rel_start {l : List Wd} (h : validW l = true) : RelS 201 l [] (addAll l fun _ => []) [] := by
  have gL := validW_good h
  have lL : lnW l := fun v hv => ⟨(gL v hv).2.1, (gL v hv).1⟩
  obtain ⟨i1, i2⟩ := addAll_ok (M := 201) l (fun _ => []) lL fun j _ => ⟨by simp [keyN], by simp⟩
  refine ⟨i1, asc_key (validW_asc h), lL, fun u _ => ?_, fun v hv => ?_, fun u => rfl, by simp [ascW], by simp [lnW]⟩
  · rw [i2 u]; simp [cntW]
  · have := (gL v hv).1; omega
/-- Strings of words. -/
def strI (Q : ByteArray → Prop) (l : List Wd) : Prop := ∀ v ∈ l, ∀ s ∈ v.acts, Q s
theorem strI_ins {Q : ByteArray → Prop} {w : Wo} {c : Int} {l : List Wd} (h : strI Q l) (hw : ∀ s ∈ w, Q s) : strI Q (insP w c l) := fun v hv s hs => by
  rcases mem_insP_acts l v hv with e | ⟨x, hx, e⟩
  · rw [e] at hs; exact hw s hs
  · rw [← e] at hs; exact h x hx s hs
theorem strI_passA {Q : ByteArray → Prop} {m : Nat} {k : Int} : ∀ (l : List Wd) (s : List Wd × List Wd), strI Q l → strI Q s.1 → strI Q s.2 → strI Q (passA m k l s).1 ∧ strI Q (passA m k l s).2 := by
  intro l
  induction l with
  | nil => intro s _ h1 h2; exact ⟨h1, h2⟩
  | cons v r ih =>
    intro s hl h1 h2
    have hr : strI Q r := fun x hx => hl x (by simp [hx])
    have hv := hl v (by simp)
    simp only [passA]
    unfold supA
    split
    · exact ih _ hr h1 (strI_ins h2 hv)
    · split
      · exact ih _ hr (strI_ins h1 hv) h2
      · exact ih _ hr h1 h2
theorem strI_passB {Q : ByteArray → Prop} {m : Nat} {k : Int} : ∀ (l s : List Wd), strI Q l → strI Q s → strI Q (passB m k l s) := by
  intro l
  induction l with
  | nil => intro s _ h; exact h
  | cons v r ih =>
    intro s hl h
    have hr : strI Q r := fun x hx => hl x (by simp [hx])
    have hv := hl v (by simp)
    simp only [passB]
    unfold supBw
    split
    · exact ih _ hr (strI_ins h fun s hs => hv s (List.mem_of_mem_take hs))
    · exact ih _ hr h
theorem strI_supN {Q : ByteArray → Prop} {k : Int} : ∀ (m : Nat) (ws out : List Wd), strI Q ws → strI Q out → strI Q (supN k m ws out) := by
  intro m
  induction m with
  | zero => intro ws out _ h; exact h
  | succ m ih =>
    intro ws out h1 h2
    obtain ⟨q1, q2⟩ := strI_passA (m := m) (k := k) ws ([], out) h1 (by simp [strI]) h2
    exact ih _ _ (strI_passB ws _ h1 q1) q2
theorem supN_ok {k : Int} : ∀ (m : Nat) (ws out : List Wd), lnW ws → lnW out → lnW (supN k m ws out) ∧ (supN k m ws out).length ≤ ws.length + out.length ∧ sumN (supN k m ws out) ≤ sumN ws + sumN out := by
  intro m
  induction m with
  | zero =>
    intro ws out h1 h2
    have := (sumN_nn ws h1).1
    exact ⟨h2, by simp only [supN]; omega, by simp only [supN]; omega⟩
  | succ m ih =>
    intro ws out h1 h2
    have hs := supL_ok (m := m) (k := k) h1 h2
    have := ih _ _ hs.1 hs.2.1
    simp only [supN]
    exact ⟨this.1, by omega, by omega⟩
end Go.Proofs.Ytkppfaennogcmaa
