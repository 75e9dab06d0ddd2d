/- Lists of strings: comparing, looking for, being an alphabet (library, program, reference). -/
import Derived.Test.YtkppfaennogcmaaAbExec
import Derived.Test.YtkppfaennogcmaaM6
import Derived.Test.YtkppfaennogcmaaStrSet
namespace Go.Proofs.Ytkppfaennogcmaa
set_option linter.unusedSimpArgs false
set_option linter.unusedVariables false
set_option linter.unnecessarySimpa false
set_option linter.unusedSectionVars false
open Go.RowKit
variable [Glob]
set_option maxRecDepth 100000
theorem sw_suc {i n : Nat} (h : i < n) (hn : n ≤ 9223372036854775807) : wrapI .i64 ((i : Int) + 1) = ((i + 1 : Nat) : Int) := by rw [wrap_in (by omega) (by omega)]; omega
theorem sw_snoc {l : List ByteArray} {x : ByteArray} : rowsOf strC l ++ [[.str x]] = rowsOf strC (l ++ [x]) := by simp [rowsOf, strC]
theorem sw_refs {m : Nat} {l : List ByteArray} : refsR m (rowsOf strC l) = true := rowsOf_refs fun x => by simp [strC, refs]
theorem sw_reify {H : List Blk} {n : Nat} {l : List ByteArray} : (rowsOf strC l).mapM (fun row => row.mapM (reify H (n + 1))) = some (rowsOf strC l) := rowsOf_reify fun x => by simp [strC, reify]
theorem sw_len {l : List ByteArray} : (rowsOf strC l).length = l.length := rowsOf_length
/-- Before, for strings. -/
def ltS (x y : ByteArray) : Bool := Op.bytesLess x.data.toList y.data.toList
structure SLess (x y : ByteArray) : Prop where
  a : Op.bytesLess x.toList y.toList = true
  b : Op.bytesLess y.toList x.toList = false
  c : (x.toList = y.toList) = False
  c' : (y.toList = x.toList) = False
  d : ltS x y = true
  e : ltS y x = false
  n : x ≠ y
theorem sless_of {x y : ByteArray} (h : ltS x y = true) : SLess x y := by
  have hne : x ≠ y := fun e => by subst e; simp [ltS, bl_irrefl] at h
  have hn : x.toList ≠ y.toList := fun e => hne (ba_eq (by rw [ba_toList, ba_toList] at e; exact e))
  exact ⟨by rw [ba_toList, ba_toList]; exact h, by rw [ba_toList, ba_toList]; exact bl_asymm h, by simp [hn], eq_false fun e => hn e.symm, h, bl_asymm h, hne⟩
theorem str_tri (x y : ByteArray) : SLess x y ∨ x = y ∨ SLess y x := by
  rcases ltB_tri x y with h | h | h
  · exact .inl (sless_of h)
  · exact .inr (.inl h)
  · exact .inr (.inr (sless_of h))
theorem str_irr (x : ByteArray) : Op.bytesLess x.toList x.toList = false := bl_irrefl _
theorem ltS_irr (x : ByteArray) : ltS x x = false := bl_irrefl _
/-- The order of words. -/
def cmpL : List ByteArray → List ByteArray → Int
  | [], [] => 0
  | [], _ :: _ => -1
  | _ :: _, [] => 1
  | x :: a, y :: b => if ltS x y = true then -1 else if ltS y x = true then 1 else cmpL a b
theorem cmpL_cons (x y : ByteArray) (a b : List ByteArray) : cmpL (x :: a) (y :: b) = if ltS x y = true then -1 else if ltS y x = true then 1 else cmpL a b := rfl
theorem cmpL_self : ∀ a : List ByteArray, cmpL a a = 0
  | [] => rfl
  | x :: a => by rw [cmpL, if_neg (by rw [ltS_irr]; decide), if_neg (by rw [ltS_irr]; decide)]; exact cmpL_self a
theorem cmpL_zero : ∀ {a b : List ByteArray}, cmpL a b = 0 → a = b
  | [], [], _ => rfl
  | [], _ :: _, h => by simp [cmpL] at h
  | _ :: _, [], h => by simp [cmpL] at h
  | x :: a, y :: b, h => by
    rw [cmpL] at h
    rcases str_tri x y with q | q | q
    · rw [if_pos q.d] at h; cases h
    · subst q
      rw [if_neg (by rw [ltS_irr]; decide), if_neg (by rw [ltS_irr]; decide)] at h
      rw [cmpL_zero h]
    · rw [if_neg (by rw [q.e]; decide), if_pos q.d] at h; cases h
theorem cmpL_iff {a b : List ByteArray} : cmpL a b = 0 ↔ a = b := ⟨cmpL_zero, fun h => h ▸ cmpL_self a⟩
theorem eqS_pure (a b : List ByteArray) (ha : a.length ≤ 9223372036854775807) (hb : b.length ≤ 9223372036854775807) : Pure Try.prog 66 [.rs (rowsOf strC a), .rs (rowsOf strC b)] (.bool (decide (a = b))) := by
  refine pure_of mixed Try.func66 rfl (by kernel_rfl) (of_decide_eq_true rfl) (by kernel_rfl) (vc_run ?_)
  by_cases hl : a.length = b.length
  · ((try simp -implicitDefEqProofs [-loopQ_n, hl]) <;> (repeat' (first | (refine condD_dec ?_ ?_ <;> (intro hc; (try simp -implicitDefEqProofs [-loopQ_n, hc, hl]))) | (refine guardD_dec ?_ ?_ <;> (intro hc; (try simp -implicitDefEqProofs [-loopQ_n, hc, hl]))) | (refine condD_intro ?_ ?_ <;> (intro hd; have hc := hd; (try simp at hc) <;> (try simp -implicitDefEqProofs [-loopQ_n, hd, hc, hl]))) | (refine guardD_intro ?_ ?_ <;> (intro hd; have hc := hd; (try simp at hc) <;> (try simp -implicitDefEqProofs [-loopQ_n, hd, hc, hl]))) | (refine ldD_ep ?_ ?_; (focus kernel_rfl); (try simp -implicitDefEqProofs [-loopQ_n, hl])))))
    refine loop_intro (σ := Nat) (fun i => ⟨[(0, .rs (rowsOf strC a)), (1, .rs (rowsOf strC b)), (12, .int .i64 b.length), (13, .int .i64 i)], []⟩) (fun i => i ≤ b.length ∧ (a = b ↔ a.drop i = b.drop i)) (fun i => b.length - i) 0 ⟨by omega, by simp⟩ ?_ ?_
    · refine weak_of 0 0 rfl rfl ?_ ?_ <;> simp [hl]
    rintro i ⟨hi, hR⟩
    by_cases h : i < b.length
    · have w1 := sw_suc h (by omega)
      have g : i < a.length := by omega
      rw [List.drop_eq_getElem_cons g, List.drop_eq_getElem_cons h, List.cons.injEq] at hR
      by_cases e : a[i] = b[i]
      · have e' : a[i].toList = b[i].toList := by rw [e]
        ((try simp -implicitDefEqProofs [-loopQ_n, h, g, w1, strC, e']) <;> (repeat' (first | (refine condD_dec ?_ ?_ <;> (intro hc; (try simp -implicitDefEqProofs [-loopQ_n, hc, h, g, w1, strC, e']))) | (refine guardD_dec ?_ ?_ <;> (intro hc; (try simp -implicitDefEqProofs [-loopQ_n, hc, h, g, w1, strC, e']))) | (refine condD_intro ?_ ?_ <;> (intro hd; have hc := hd; (try simp at hc) <;> (try simp -implicitDefEqProofs [-loopQ_n, hd, hc, h, g, w1, strC, e']))) | (refine guardD_intro ?_ ?_ <;> (intro hd; have hc := hd; (try simp at hc) <;> (try simp -implicitDefEqProofs [-loopQ_n, hd, hc, h, g, w1, strC, e']))) | (refine ldD_ep ?_ ?_; (focus kernel_rfl); (try simp -implicitDefEqProofs [-loopQ_n, h, g, w1, strC, e'])))))
        refine loop_next (i + 1) ⟨h, by rw [hR]; simp [e]⟩ (by omega) (weak_of 0 0 rfl rfl ?_ ?_) <;> simp
      · have e' : ¬ a[i].toList = b[i].toList := fun q => e (ba_eq (by rw [ba_toList, ba_toList] at q; exact q))
        have hne : ¬ a = b := by rw [hR]; simp [e]
        ((try simp -implicitDefEqProofs [-loopQ_n, h, g, w1, strC, e']) <;> (repeat' (first | (refine condD_dec ?_ ?_ <;> (intro hc; (try simp -implicitDefEqProofs [-loopQ_n, hc, h, g, w1, strC, e']))) | (refine guardD_dec ?_ ?_ <;> (intro hc; (try simp -implicitDefEqProofs [-loopQ_n, hc, h, g, w1, strC, e']))) | (refine condD_intro ?_ ?_ <;> (intro hd; have hc := hd; (try simp at hc) <;> (try simp -implicitDefEqProofs [-loopQ_n, hd, hc, h, g, w1, strC, e']))) | (refine guardD_intro ?_ ?_ <;> (intro hd; have hc := hd; (try simp at hc) <;> (try simp -implicitDefEqProofs [-loopQ_n, hd, hc, h, g, w1, strC, e']))) | (refine ldD_ep ?_ ?_; (focus kernel_rfl); (try simp -implicitDefEqProofs [-loopQ_n, h, g, w1, strC, e'])))))
        simp [hne]
    · rw [List.drop_eq_nil_of_le (by omega), List.drop_eq_nil_of_le (by omega)] at hR
      have he : a = b := hR.2 rfl
      ((try simp -implicitDefEqProofs [-loopQ_n, h]) <;> (repeat' (first | (refine condD_dec ?_ ?_ <;> (intro hc; (try simp -implicitDefEqProofs [-loopQ_n, hc, h]))) | (refine guardD_dec ?_ ?_ <;> (intro hc; (try simp -implicitDefEqProofs [-loopQ_n, hc, h]))) | (refine condD_intro ?_ ?_ <;> (intro hd; have hc := hd; (try simp at hc) <;> (try simp -implicitDefEqProofs [-loopQ_n, hd, hc, h]))) | (refine guardD_intro ?_ ?_ <;> (intro hd; have hc := hd; (try simp at hc) <;> (try simp -implicitDefEqProofs [-loopQ_n, hd, hc, h]))) | (refine ldD_ep ?_ ?_; (focus kernel_rfl); (try simp -implicitDefEqProofs [-loopQ_n, h])))))
      simp [he]
  · have hl' : ¬ (a.length : Int) = b.length := by omega
    have hne : ¬ a = b := fun e => hl (by rw [e])
    ((try simp -implicitDefEqProofs [-loopQ_n, hl']) <;> (repeat' (first | (refine condD_dec ?_ ?_ <;> (intro hc; (try simp -implicitDefEqProofs [-loopQ_n, hc, hl']))) | (refine guardD_dec ?_ ?_ <;> (intro hc; (try simp -implicitDefEqProofs [-loopQ_n, hc, hl']))) | (refine condD_intro ?_ ?_ <;> (intro hd; have hc := hd; (try simp at hc) <;> (try simp -implicitDefEqProofs [-loopQ_n, hd, hc, hl']))) | (refine guardD_intro ?_ ?_ <;> (intro hd; have hc := hd; (try simp at hc) <;> (try simp -implicitDefEqProofs [-loopQ_n, hd, hc, hl']))) | (refine ldD_ep ?_ ?_; (focus kernel_rfl); (try simp -implicitDefEqProofs [-loopQ_n, hl'])))))
    simp [hne]
/-- Where a string stands; -1: nowhere. -/
def idxA : List ByteArray → ByteArray → Int → Int
  | [], _, _ => -1
  | y :: r, x, i => if y = x then i else idxA r x (i + 1)
def idxS (l : List ByteArray) (x : ByteArray) : Int := idxA l x 0
def cmpB (x y : ByteArray) : Int := if ltS x y = true then -1 else if ltS y x = true then 1 else 0
theorem isNaN_pure (x : ByteArray) : Pure Try.prog 129 [.str x] (.bool false) := by
  refine pure_of mixed Try.func129 rfl (by kernel_rfl) (of_decide_eq_true rfl) (by kernel_rfl) (vc_run ?_)
  ((try simp -implicitDefEqProofs [-loopQ_n]) <;> (repeat' (first | (refine condD_dec ?_ ?_ <;> (intro hc; (try simp -implicitDefEqProofs [-loopQ_n, hc]))) | (refine guardD_dec ?_ ?_ <;> (intro hc; (try simp -implicitDefEqProofs [-loopQ_n, hc]))) | (refine condD_intro ?_ ?_ <;> (intro hd; have hc := hd; (try simp at hc) <;> (try simp -implicitDefEqProofs [-loopQ_n, hd, hc]))) | (refine guardD_intro ?_ ?_ <;> (intro hd; have hc := hd; (try simp at hc) <;> (try simp -implicitDefEqProofs [-loopQ_n, hd, hc]))) | (refine ldD_ep ?_ ?_; (focus kernel_rfl); (try simp -implicitDefEqProofs [-loopQ_n])))))
theorem cmpB_pure (x y : ByteArray) : Pure Try.prog 116 [.str x, .str y] (.int .i64 (cmpB x y)) := by
  refine pure_of mixed Try.func116 rfl (by kernel_rfl) (of_decide_eq_true rfl) (by kernel_rfl) (vc_run ?_)
  rcases str_tri x y with q | q | q
  · ((try simp -implicitDefEqProofs [-loopQ_n, q.a, q.b, q.c, q.c']) <;> (repeat' (first | (refine condD_dec ?_ ?_ <;> (intro hc; (try simp -implicitDefEqProofs [-loopQ_n, hc, q.a, q.b, q.c, q.c']))) | (refine guardD_dec ?_ ?_ <;> (intro hc; (try simp -implicitDefEqProofs [-loopQ_n, hc, q.a, q.b, q.c, q.c']))) | (refine condD_intro ?_ ?_ <;> (intro hd; have hc := hd; (try simp at hc) <;> (try simp -implicitDefEqProofs [-loopQ_n, hd, hc, q.a, q.b, q.c, q.c']))) | (refine guardD_intro ?_ ?_ <;> (intro hd; have hc := hd; (try simp at hc) <;> (try simp -implicitDefEqProofs [-loopQ_n, hd, hc, q.a, q.b, q.c, q.c']))) | (refine ldD_ep ?_ ?_; (focus kernel_rfl); (try simp -implicitDefEqProofs [-loopQ_n, q.a, q.b, q.c, q.c'])) | (refine callS_mk ?_; (try simp -implicitDefEqProofs [-loopQ_n, q.a, q.b, q.c, q.c']); (first | refine callS_intro (isNaN_pure x) (.inl rfl) ?_ | refine callS_intro (isNaN_pure y) (.inl rfl) ?_); (try simp -implicitDefEqProofs [-loopQ_n, q.a, q.b, q.c, q.c'])))))
    simp [cmpB, q.d]
  · subst q
    ((try simp -implicitDefEqProofs [-loopQ_n, str_irr]) <;> (repeat' (first | (refine condD_dec ?_ ?_ <;> (intro hc; (try simp -implicitDefEqProofs [-loopQ_n, hc, str_irr]))) | (refine guardD_dec ?_ ?_ <;> (intro hc; (try simp -implicitDefEqProofs [-loopQ_n, hc, str_irr]))) | (refine condD_intro ?_ ?_ <;> (intro hd; have hc := hd; (try simp at hc) <;> (try simp -implicitDefEqProofs [-loopQ_n, hd, hc, str_irr]))) | (refine guardD_intro ?_ ?_ <;> (intro hd; have hc := hd; (try simp at hc) <;> (try simp -implicitDefEqProofs [-loopQ_n, hd, hc, str_irr]))) | (refine ldD_ep ?_ ?_; (focus kernel_rfl); (try simp -implicitDefEqProofs [-loopQ_n, str_irr])) | (refine callS_mk ?_; (try simp -implicitDefEqProofs [-loopQ_n, str_irr]); (first | refine callS_intro (isNaN_pure x) (.inl rfl) ?_); (try simp -implicitDefEqProofs [-loopQ_n, str_irr])))))
    simp [cmpB, ltS_irr]
  · ((try simp -implicitDefEqProofs [-loopQ_n, q.a, q.b, q.c, q.c']) <;> (repeat' (first | (refine condD_dec ?_ ?_ <;> (intro hc; (try simp -implicitDefEqProofs [-loopQ_n, hc, q.a, q.b, q.c, q.c']))) | (refine guardD_dec ?_ ?_ <;> (intro hc; (try simp -implicitDefEqProofs [-loopQ_n, hc, q.a, q.b, q.c, q.c']))) | (refine condD_intro ?_ ?_ <;> (intro hd; have hc := hd; (try simp at hc) <;> (try simp -implicitDefEqProofs [-loopQ_n, hd, hc, q.a, q.b, q.c, q.c']))) | (refine guardD_intro ?_ ?_ <;> (intro hd; have hc := hd; (try simp at hc) <;> (try simp -implicitDefEqProofs [-loopQ_n, hd, hc, q.a, q.b, q.c, q.c']))) | (refine ldD_ep ?_ ?_; (focus kernel_rfl); (try simp -implicitDefEqProofs [-loopQ_n, q.a, q.b, q.c, q.c'])) | (refine callS_mk ?_; (try simp -implicitDefEqProofs [-loopQ_n, q.a, q.b, q.c, q.c']); (first | refine callS_intro (isNaN_pure x) (.inl rfl) ?_ | refine callS_intro (isNaN_pure y) (.inl rfl) ?_); (try simp -implicitDefEqProofs [-loopQ_n, q.a, q.b, q.c, q.c'])))))
    simp [cmpB, q.d, q.e]
theorem compare_pure (a b : List ByteArray) (ha : a.length ≤ 9223372036854775807) (hb : b.length ≤ 9223372036854775807) : Pure Try.prog 106 [.rs (rowsOf strC a), .rs (rowsOf strC b)] (.int .i64 (cmpL a b)) := by
  refine pure_of mixed Try.func106 rfl (by kernel_rfl) (of_decide_eq_true rfl) (by kernel_rfl) (vc_run ?_)
  ((try simp -implicitDefEqProofs [-loopQ_n]) <;> (repeat' (first | (refine condD_dec ?_ ?_ <;> (intro hc; (try simp -implicitDefEqProofs [-loopQ_n, hc]))) | (refine guardD_dec ?_ ?_ <;> (intro hc; (try simp -implicitDefEqProofs [-loopQ_n, hc]))) | (refine condD_intro ?_ ?_ <;> (intro hd; have hc := hd; (try simp at hc) <;> (try simp -implicitDefEqProofs [-loopQ_n, hd, hc]))) | (refine guardD_intro ?_ ?_ <;> (intro hd; have hc := hd; (try simp at hc) <;> (try simp -implicitDefEqProofs [-loopQ_n, hd, hc]))) | (refine ldD_ep ?_ ?_; (focus kernel_rfl); (try simp -implicitDefEqProofs [-loopQ_n])))))
  refine loop_intro (σ := Nat) (fun i => ⟨[(0, .rs (rowsOf strC a)), (1, .rs (rowsOf strC b)), (9, .rs (rowsOf strC a)), (10, .int .i64 a.length), (11, .int .i64 i)], []⟩) (fun i => i ≤ a.length ∧ i ≤ b.length ∧ cmpL (a.drop i) (b.drop i) = cmpL a b) (fun i => a.length - i) 0 ⟨by omega, by omega, by simp⟩ ?_ ?_
  · refine weak_of 0 0 rfl rfl ?_ ?_ <;> simp
  rintro i ⟨hi, hj, hR⟩
  by_cases h : i < a.length
  · have w1 := sw_suc h (by omega)
    rw [List.drop_eq_getElem_cons h] at hR
    by_cases g : i < b.length
    · have g' : ¬ (b.length : Int) ≤ i := by omega
      have g2 : ¬ b.length ≤ i := by omega
      rw [List.drop_eq_getElem_cons g, cmpL_cons] at hR
      have hC := cmpB_pure a[i] b[i]
      rcases str_tri a[i] b[i] with q | q | q
      · rw [if_pos q.d] at hR
        rw [show cmpB a[i] b[i] = -1 from by rw [cmpB, if_pos q.d]] at hC
        ((try simp -implicitDefEqProofs [-loopQ_n, h, g, g', g2, w1, strC]) <;> (repeat' (first | (refine condD_dec ?_ ?_ <;> (intro hc; (try simp -implicitDefEqProofs [-loopQ_n, hc, h, g, g', g2, w1, strC]))) | (refine guardD_dec ?_ ?_ <;> (intro hc; (try simp -implicitDefEqProofs [-loopQ_n, hc, h, g, g', g2, w1, strC]))) | (refine condD_intro ?_ ?_ <;> (intro hd; have hc := hd; (try simp at hc) <;> (try simp -implicitDefEqProofs [-loopQ_n, hd, hc, h, g, g', g2, w1, strC]))) | (refine guardD_intro ?_ ?_ <;> (intro hd; have hc := hd; (try simp at hc) <;> (try simp -implicitDefEqProofs [-loopQ_n, hd, hc, h, g, g', g2, w1, strC]))) | (refine ldD_ep ?_ ?_; (focus kernel_rfl); (try simp -implicitDefEqProofs [-loopQ_n, h, g, g', g2, w1, strC])) | (refine callS_mk ?_; (try simp -implicitDefEqProofs [-loopQ_n, h, g, g', g2, w1, strC]); (first | refine callS_intro (hC) (.inl rfl) ?_); (try simp -implicitDefEqProofs [-loopQ_n, h, g, g', g2, w1, strC])))))
        exact hR
      · rw [q, if_neg (by rw [ltS_irr]; decide), if_neg (by rw [ltS_irr]; decide)] at hR
        rw [show cmpB a[i] b[i] = 0 from by rw [q, cmpB, ltS_irr]; rfl] at hC
        ((try simp -implicitDefEqProofs [-loopQ_n, h, g, g', g2, w1, strC]) <;> (repeat' (first | (refine condD_dec ?_ ?_ <;> (intro hc; (try simp -implicitDefEqProofs [-loopQ_n, hc, h, g, g', g2, w1, strC]))) | (refine guardD_dec ?_ ?_ <;> (intro hc; (try simp -implicitDefEqProofs [-loopQ_n, hc, h, g, g', g2, w1, strC]))) | (refine condD_intro ?_ ?_ <;> (intro hd; have hc := hd; (try simp at hc) <;> (try simp -implicitDefEqProofs [-loopQ_n, hd, hc, h, g, g', g2, w1, strC]))) | (refine guardD_intro ?_ ?_ <;> (intro hd; have hc := hd; (try simp at hc) <;> (try simp -implicitDefEqProofs [-loopQ_n, hd, hc, h, g, g', g2, w1, strC]))) | (refine ldD_ep ?_ ?_; (focus kernel_rfl); (try simp -implicitDefEqProofs [-loopQ_n, h, g, g', g2, w1, strC])) | (refine callS_mk ?_; (try simp -implicitDefEqProofs [-loopQ_n, h, g, g', g2, w1, strC]); (first | refine callS_intro (hC) (.inl rfl) ?_); (try simp -implicitDefEqProofs [-loopQ_n, h, g, g', g2, w1, strC])))))
        refine loop_next (i + 1) ⟨h, g, hR⟩ (by omega) (weak_of 0 0 rfl rfl ?_ ?_) <;> simp
      · rw [if_neg (by rw [q.e]; decide), if_pos q.d] at hR
        rw [show cmpB a[i] b[i] = 1 from by rw [cmpB, if_neg (by rw [q.e]; decide), if_pos q.d]] at hC
        ((try simp -implicitDefEqProofs [-loopQ_n, h, g, g', g2, w1, strC]) <;> (repeat' (first | (refine condD_dec ?_ ?_ <;> (intro hc; (try simp -implicitDefEqProofs [-loopQ_n, hc, h, g, g', g2, w1, strC]))) | (refine guardD_dec ?_ ?_ <;> (intro hc; (try simp -implicitDefEqProofs [-loopQ_n, hc, h, g, g', g2, w1, strC]))) | (refine condD_intro ?_ ?_ <;> (intro hd; have hc := hd; (try simp at hc) <;> (try simp -implicitDefEqProofs [-loopQ_n, hd, hc, h, g, g', g2, w1, strC]))) | (refine guardD_intro ?_ ?_ <;> (intro hd; have hc := hd; (try simp at hc) <;> (try simp -implicitDefEqProofs [-loopQ_n, hd, hc, h, g, g', g2, w1, strC]))) | (refine ldD_ep ?_ ?_; (focus kernel_rfl); (try simp -implicitDefEqProofs [-loopQ_n, h, g, g', g2, w1, strC])) | (refine callS_mk ?_; (try simp -implicitDefEqProofs [-loopQ_n, h, g, g', g2, w1, strC]); (first | refine callS_intro (hC) (.inl rfl) ?_); (try simp -implicitDefEqProofs [-loopQ_n, h, g, g', g2, w1, strC])))))
        exact hR
    · have g' : (b.length : Int) ≤ i := by omega
      have g2 : b.length ≤ i := by omega
      rw [show b.drop i = [] from List.drop_eq_nil_of_le g2, cmpL] at hR
      ((try simp -implicitDefEqProofs [-loopQ_n, h, g, g', g2, w1, strC]) <;> (repeat' (first | (refine condD_dec ?_ ?_ <;> (intro hc; (try simp -implicitDefEqProofs [-loopQ_n, hc, h, g, g', g2, w1, strC]))) | (refine guardD_dec ?_ ?_ <;> (intro hc; (try simp -implicitDefEqProofs [-loopQ_n, hc, h, g, g', g2, w1, strC]))) | (refine condD_intro ?_ ?_ <;> (intro hd; have hc := hd; (try simp at hc) <;> (try simp -implicitDefEqProofs [-loopQ_n, hd, hc, h, g, g', g2, w1, strC]))) | (refine guardD_intro ?_ ?_ <;> (intro hd; have hc := hd; (try simp at hc) <;> (try simp -implicitDefEqProofs [-loopQ_n, hd, hc, h, g, g', g2, w1, strC]))) | (refine ldD_ep ?_ ?_; (focus kernel_rfl); (try simp -implicitDefEqProofs [-loopQ_n, h, g, g', g2, w1, strC])))))
      exact hR
  · rw [List.drop_eq_nil_of_le (by omega)] at hR
    by_cases g : a.length < b.length
    · rw [List.drop_eq_getElem_cons (by omega), cmpL] at hR
      have g' : (a.length : Int) < b.length := by omega
      ((try simp -implicitDefEqProofs [-loopQ_n, h, g, g']) <;> (repeat' (first | (refine condD_dec ?_ ?_ <;> (intro hc; (try simp -implicitDefEqProofs [-loopQ_n, hc, h, g, g']))) | (refine guardD_dec ?_ ?_ <;> (intro hc; (try simp -implicitDefEqProofs [-loopQ_n, hc, h, g, g']))) | (refine condD_intro ?_ ?_ <;> (intro hd; have hc := hd; (try simp at hc) <;> (try simp -implicitDefEqProofs [-loopQ_n, hd, hc, h, g, g']))) | (refine guardD_intro ?_ ?_ <;> (intro hd; have hc := hd; (try simp at hc) <;> (try simp -implicitDefEqProofs [-loopQ_n, hd, hc, h, g, g']))) | (refine ldD_ep ?_ ?_; (focus kernel_rfl); (try simp -implicitDefEqProofs [-loopQ_n, h, g, g'])))))
      exact hR
    · rw [List.drop_eq_nil_of_le (by omega), cmpL] at hR
      have g' : ¬ (a.length : Int) < b.length := by omega
      ((try simp -implicitDefEqProofs [-loopQ_n, h, g, g']) <;> (repeat' (first | (refine condD_dec ?_ ?_ <;> (intro hc; (try simp -implicitDefEqProofs [-loopQ_n, hc, h, g, g']))) | (refine guardD_dec ?_ ?_ <;> (intro hc; (try simp -implicitDefEqProofs [-loopQ_n, hc, h, g, g']))) | (refine condD_intro ?_ ?_ <;> (intro hd; have hc := hd; (try simp at hc) <;> (try simp -implicitDefEqProofs [-loopQ_n, hd, hc, h, g, g']))) | (refine guardD_intro ?_ ?_ <;> (intro hd; have hc := hd; (try simp at hc) <;> (try simp -implicitDefEqProofs [-loopQ_n, hd, hc, h, g, g']))) | (refine ldD_ep ?_ ?_; (focus kernel_rfl); (try simp -implicitDefEqProofs [-loopQ_n, h, g, g'])))))
      exact hR
theorem ncompare_pure (a b : List ByteArray) (ha : a.length ≤ 9223372036854775807) (hb : b.length ≤ 9223372036854775807) : Pure Try.prog 87 [.rs (rowsOf strC a), .rs (rowsOf strC b)] (.int .i64 (cmpL a b)) := by
  refine pure_of mixed Try.func87 rfl (by kernel_rfl) (of_decide_eq_true rfl) (by kernel_rfl) (vc_run ?_)
  ((try simp -implicitDefEqProofs [-loopQ_n]) <;> (repeat' (first | (refine condD_dec ?_ ?_ <;> (intro hc; (try simp -implicitDefEqProofs [-loopQ_n, hc]))) | (refine guardD_dec ?_ ?_ <;> (intro hc; (try simp -implicitDefEqProofs [-loopQ_n, hc]))) | (refine condD_intro ?_ ?_ <;> (intro hd; have hc := hd; (try simp at hc) <;> (try simp -implicitDefEqProofs [-loopQ_n, hd, hc]))) | (refine guardD_intro ?_ ?_ <;> (intro hd; have hc := hd; (try simp at hc) <;> (try simp -implicitDefEqProofs [-loopQ_n, hd, hc]))) | (refine ldD_ep ?_ ?_; (focus kernel_rfl); (try simp -implicitDefEqProofs [-loopQ_n])) | (refine callS_mk ?_; (try simp -implicitDefEqProofs [-loopQ_n]); (first | refine callS_intro (compare_pure a b ha hb) (.inl rfl) ?_); (try simp -implicitDefEqProofs [-loopQ_n])))))
theorem rcompare_pure (a b : List ByteArray) (ha : a.length ≤ 9223372036854775807) (hb : b.length ≤ 9223372036854775807) : Pure Try.prog 65 [.rs (rowsOf strC a), .rs (rowsOf strC b)] (.int .i64 (cmpL a b)) := by
  refine pure_of mixed Try.func65 rfl (by kernel_rfl) (of_decide_eq_true rfl) (by kernel_rfl) (vc_run ?_)
  ((try simp -implicitDefEqProofs [-loopQ_n]) <;> (repeat' (first | (refine condD_dec ?_ ?_ <;> (intro hc; (try simp -implicitDefEqProofs [-loopQ_n, hc]))) | (refine guardD_dec ?_ ?_ <;> (intro hc; (try simp -implicitDefEqProofs [-loopQ_n, hc]))) | (refine condD_intro ?_ ?_ <;> (intro hd; have hc := hd; (try simp at hc) <;> (try simp -implicitDefEqProofs [-loopQ_n, hd, hc]))) | (refine guardD_intro ?_ ?_ <;> (intro hd; have hc := hd; (try simp at hc) <;> (try simp -implicitDefEqProofs [-loopQ_n, hd, hc]))) | (refine ldD_ep ?_ ?_; (focus kernel_rfl); (try simp -implicitDefEqProofs [-loopQ_n])))))
  refine loop_intro (σ := Nat) (fun i => ⟨[(0, .rs (rowsOf strC a)), (1, .rs (rowsOf strC b)), (5, .int .i64 i)], []⟩) (fun i => i ≤ a.length ∧ i ≤ b.length ∧ cmpL (a.drop i) (b.drop i) = cmpL a b) (fun i => a.length - i) 0 ⟨by omega, by omega, by simp⟩ ?_ ?_
  · refine weak_of 0 0 rfl rfl ?_ ?_ <;> simp
  rintro i ⟨hi, hj, hR⟩
  by_cases h : i < a.length
  · have w1 := sw_suc h (by omega)
    rw [List.drop_eq_getElem_cons h] at hR
    by_cases g : i < b.length
    · rw [List.drop_eq_getElem_cons g, cmpL_cons] at hR
      rcases str_tri a[i] b[i] with q | q | q
      · rw [if_pos q.d] at hR
        ((try simp -implicitDefEqProofs [-loopQ_n, h, g, w1, strC, q.a]) <;> (repeat' (first | (refine condD_dec ?_ ?_ <;> (intro hc; (try simp -implicitDefEqProofs [-loopQ_n, hc, h, g, w1, strC, q.a]))) | (refine guardD_dec ?_ ?_ <;> (intro hc; (try simp -implicitDefEqProofs [-loopQ_n, hc, h, g, w1, strC, q.a]))) | (refine condD_intro ?_ ?_ <;> (intro hd; have hc := hd; (try simp at hc) <;> (try simp -implicitDefEqProofs [-loopQ_n, hd, hc, h, g, w1, strC, q.a]))) | (refine guardD_intro ?_ ?_ <;> (intro hd; have hc := hd; (try simp at hc) <;> (try simp -implicitDefEqProofs [-loopQ_n, hd, hc, h, g, w1, strC, q.a]))) | (refine ldD_ep ?_ ?_; (focus kernel_rfl); (try simp -implicitDefEqProofs [-loopQ_n, h, g, w1, strC, q.a])))))
        exact hR
      · rw [q, if_neg (by rw [ltS_irr]; decide), if_neg (by rw [ltS_irr]; decide)] at hR
        ((try simp -implicitDefEqProofs [-loopQ_n, h, g, w1, strC, q, str_irr]) <;> (repeat' (first | (refine condD_dec ?_ ?_ <;> (intro hc; (try simp -implicitDefEqProofs [-loopQ_n, hc, h, g, w1, strC, q, str_irr]))) | (refine guardD_dec ?_ ?_ <;> (intro hc; (try simp -implicitDefEqProofs [-loopQ_n, hc, h, g, w1, strC, q, str_irr]))) | (refine condD_intro ?_ ?_ <;> (intro hd; have hc := hd; (try simp at hc) <;> (try simp -implicitDefEqProofs [-loopQ_n, hd, hc, h, g, w1, strC, q, str_irr]))) | (refine guardD_intro ?_ ?_ <;> (intro hd; have hc := hd; (try simp at hc) <;> (try simp -implicitDefEqProofs [-loopQ_n, hd, hc, h, g, w1, strC, q, str_irr]))) | (refine ldD_ep ?_ ?_; (focus kernel_rfl); (try simp -implicitDefEqProofs [-loopQ_n, h, g, w1, strC, q, str_irr])))))
        refine loop_next (i + 1) ⟨h, g, hR⟩ (by omega) (weak_of 0 0 rfl rfl ?_ ?_) <;> simp
      · rw [if_neg (by rw [q.e]; decide), if_pos q.d] at hR
        ((try simp -implicitDefEqProofs [-loopQ_n, h, g, w1, strC, q.a, q.b, q.c, q.c']) <;> (repeat' (first | (refine condD_dec ?_ ?_ <;> (intro hc; (try simp -implicitDefEqProofs [-loopQ_n, hc, h, g, w1, strC, q.a, q.b, q.c, q.c']))) | (refine guardD_dec ?_ ?_ <;> (intro hc; (try simp -implicitDefEqProofs [-loopQ_n, hc, h, g, w1, strC, q.a, q.b, q.c, q.c']))) | (refine condD_intro ?_ ?_ <;> (intro hd; have hc := hd; (try simp at hc) <;> (try simp -implicitDefEqProofs [-loopQ_n, hd, hc, h, g, w1, strC, q.a, q.b, q.c, q.c']))) | (refine guardD_intro ?_ ?_ <;> (intro hd; have hc := hd; (try simp at hc) <;> (try simp -implicitDefEqProofs [-loopQ_n, hd, hc, h, g, w1, strC, q.a, q.b, q.c, q.c']))) | (refine ldD_ep ?_ ?_; (focus kernel_rfl); (try simp -implicitDefEqProofs [-loopQ_n, h, g, w1, strC, q.a, q.b, q.c, q.c'])))))
        exact hR
    · have g' : ¬ a.length < b.length := by omega
      have g3 : b.length < a.length := by omega
      have g4 : ¬ (a.length : Int) < b.length := by omega
      have g5 : (b.length : Int) < a.length := by omega
      rw [show b.drop i = [] from List.drop_eq_nil_of_le (by omega), cmpL] at hR
      ((try simp -implicitDefEqProofs [-loopQ_n, h, g, g', g3, g4, g5]) <;> (repeat' (first | (refine condD_dec ?_ ?_ <;> (intro hc; (try simp -implicitDefEqProofs [-loopQ_n, hc, h, g, g', g3, g4, g5]))) | (refine guardD_dec ?_ ?_ <;> (intro hc; (try simp -implicitDefEqProofs [-loopQ_n, hc, h, g, g', g3, g4, g5]))) | (refine condD_intro ?_ ?_ <;> (intro hd; have hc := hd; (try simp at hc) <;> (try simp -implicitDefEqProofs [-loopQ_n, hd, hc, h, g, g', g3, g4, g5]))) | (refine guardD_intro ?_ ?_ <;> (intro hd; have hc := hd; (try simp at hc) <;> (try simp -implicitDefEqProofs [-loopQ_n, hd, hc, h, g, g', g3, g4, g5]))) | (refine ldD_ep ?_ ?_; (focus kernel_rfl); (try simp -implicitDefEqProofs [-loopQ_n, h, g, g', g3, g4, g5])))))
      exact hR
  · rw [List.drop_eq_nil_of_le (by omega)] at hR
    by_cases g : a.length < b.length
    · rw [List.drop_eq_getElem_cons (by omega), cmpL] at hR
      have g' : (a.length : Int) < b.length := by omega
      ((try simp -implicitDefEqProofs [-loopQ_n, h, g, g']) <;> (repeat' (first | (refine condD_dec ?_ ?_ <;> (intro hc; (try simp -implicitDefEqProofs [-loopQ_n, hc, h, g, g']))) | (refine guardD_dec ?_ ?_ <;> (intro hc; (try simp -implicitDefEqProofs [-loopQ_n, hc, h, g, g']))) | (refine condD_intro ?_ ?_ <;> (intro hd; have hc := hd; (try simp at hc) <;> (try simp -implicitDefEqProofs [-loopQ_n, hd, hc, h, g, g']))) | (refine guardD_intro ?_ ?_ <;> (intro hd; have hc := hd; (try simp at hc) <;> (try simp -implicitDefEqProofs [-loopQ_n, hd, hc, h, g, g']))) | (refine ldD_ep ?_ ?_; (focus kernel_rfl); (try simp -implicitDefEqProofs [-loopQ_n, h, g, g'])))))
      exact hR
    · have g' : ¬ (a.length : Int) < b.length := by omega
      have g2 : ¬ (b.length : Int) < a.length := by omega
      rw [List.drop_eq_nil_of_le (by omega), cmpL] at hR
      ((try simp -implicitDefEqProofs [-loopQ_n, h, g, g', g2]) <;> (repeat' (first | (refine condD_dec ?_ ?_ <;> (intro hc; (try simp -implicitDefEqProofs [-loopQ_n, hc, h, g, g', g2]))) | (refine guardD_dec ?_ ?_ <;> (intro hc; (try simp -implicitDefEqProofs [-loopQ_n, hc, h, g, g', g2]))) | (refine condD_intro ?_ ?_ <;> (intro hd; have hc := hd; (try simp at hc) <;> (try simp -implicitDefEqProofs [-loopQ_n, hd, hc, h, g, g', g2]))) | (refine guardD_intro ?_ ?_ <;> (intro hd; have hc := hd; (try simp at hc) <;> (try simp -implicitDefEqProofs [-loopQ_n, hd, hc, h, g, g', g2]))) | (refine ldD_ep ?_ ?_; (focus kernel_rfl); (try simp -implicitDefEqProofs [-loopQ_n, h, g, g', g2])))))
      exact hR
theorem rsame_pure (a b : List ByteArray) (ha : a.length ≤ 9223372036854775807) (hb : b.length ≤ 9223372036854775807) : Pure Try.prog 61 [.rs (rowsOf strC a), .rs (rowsOf strC b)] (.bool (decide (a = b))) := by
  refine pure_of mixed Try.func61 rfl (by kernel_rfl) (of_decide_eq_true rfl) (by kernel_rfl) (vc_run ?_)
  ((try simp -implicitDefEqProofs [-loopQ_n]) <;> (repeat' (first | (refine condD_dec ?_ ?_ <;> (intro hc; (try simp -implicitDefEqProofs [-loopQ_n, hc]))) | (refine guardD_dec ?_ ?_ <;> (intro hc; (try simp -implicitDefEqProofs [-loopQ_n, hc]))) | (refine condD_intro ?_ ?_ <;> (intro hd; have hc := hd; (try simp at hc) <;> (try simp -implicitDefEqProofs [-loopQ_n, hd, hc]))) | (refine guardD_intro ?_ ?_ <;> (intro hd; have hc := hd; (try simp at hc) <;> (try simp -implicitDefEqProofs [-loopQ_n, hd, hc]))) | (refine ldD_ep ?_ ?_; (focus kernel_rfl); (try simp -implicitDefEqProofs [-loopQ_n])) | (refine callS_mk ?_; (try simp -implicitDefEqProofs [-loopQ_n]); (first | refine callS_intro (rcompare_pure a b ha hb) (.inl rfl) ?_); (try simp -implicitDefEqProofs [-loopQ_n])))))
  all_goals simp [cmpL_iff]
end Go.Proofs.Ytkppfaennogcmaa
