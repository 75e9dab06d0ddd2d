/- Lists of strings: comparing, looking for, being an alphabet (library, program, reference). -/
import Derived.Test.YthemglpccpjokaaGreatM4
import Derived.Test.YthemglpccpjokaaGreatNm2
import Derived.Test.YthemglpccpjokaaGreatStrSet
set_option linter.unusedSimpArgs false
set_option linter.unusedVariables false
set_option linter.unnecessarySimpa false
set_option linter.unusedSectionVars false
set_option maxRecDepth 100000
namespace Go.Proofs.YthemglpccpjokaaGreat
open Go.RowKit
variable [Glob]
theorem sw_suc {i n : Nat} (h : i < n) (hn : n ≤ 9223372036854775807) : wrapI .i64 ((i : Int) + 1) = ((i + 1 : Nat) : Int) := by rw [wrap_in (by omega) (by omega)]; omega
theorem sw_snoc {l : List ByteArray} {x : ByteArray} : rowsOf strC l ++ [[.str x]] = rowsOf strC (l ++ [x]) := by simp [rowsOf, strC]
theorem sw_refs {m : Nat} {l : List ByteArray} : refsR m (rowsOf strC l) = true := rowsOf_refs fun x => by simp [strC, refs]
theorem sw_reify {H : List Blk} {n : Nat} {l : List ByteArray} : (rowsOf strC l).mapM (fun row => row.mapM (reify H (n + 1))) = some (rowsOf strC l) := rowsOf_reify fun x => by simp [strC, reify]
theorem sw_len {l : List ByteArray} : (rowsOf strC l).length = l.length := rowsOf_length
def ltS (x y : ByteArray) : Bool := Op.bytesLess x.data.toList y.data.toList
structure SLess (x y : ByteArray) : Prop where
  a : Op.bytesLess x.toList y.toList = true
  b : Op.bytesLess y.toList x.toList = false
  c : (x.toList = y.toList) = False
  c' : (y.toList = x.toList) = False
  d : ltS x y = true
  e : ltS y x = false
  n : x ≠ y
theorem sless_of {x y : ByteArray} (h : ltS x y = true) : SLess x y := by
  have hne : x ≠ y := fun e => by subst e; simp [ltS, bl_irrefl] at h
  have hn : x.toList ≠ y.toList := fun e => hne (ba_eq (by rw [ba_toList, ba_toList] at e; exact e))
  exact ⟨by rw [ba_toList, ba_toList]; exact h, by rw [ba_toList, ba_toList]; exact bl_asymm h, by simp [hn], eq_false fun e => hn e.symm, h, bl_asymm h, hne⟩
theorem str_tri (x y : ByteArray) : SLess x y ∨ x = y ∨ SLess y x := by
  rcases ltB_tri x y with h | h | h
  · exact .inl (sless_of h)
  · exact .inr (.inl h)
  · exact .inr (.inr (sless_of h))
theorem str_irr (x : ByteArray) : Op.bytesLess x.toList x.toList = false := bl_irrefl _
theorem ltS_irr (x : ByteArray) : ltS x x = false := bl_irrefl _
def cmpL : List ByteArray → List ByteArray → Int
  | [], [] => 0
  | [], _ :: _ => -1
  | _ :: _, [] => 1
  | x :: a, y :: b => if ltS x y = true then -1 else if ltS y x = true then 1 else cmpL a b
theorem cmpL_cons (x y : ByteArray) (a b : List ByteArray) : cmpL (x :: a) (y :: b) = if ltS x y = true then -1 else if ltS y x = true then 1 else cmpL a b := rfl
theorem cmpL_self : ∀ a : List ByteArray, cmpL a a = 0
  | [] => rfl
  | x :: a => by rw [cmpL, if_neg (by rw [ltS_irr]; decide), if_neg (by rw [ltS_irr]; decide)]; exact cmpL_self a
theorem cmpL_zero : ∀ {a b : List ByteArray}, cmpL a b = 0 → a = b
  | [], [], _ => rfl
  | [], _ :: _, h => by simp [cmpL] at h
  | _ :: _, [], h => by simp [cmpL] at h
  | x :: a, y :: b, h => by
    rw [cmpL] at h
    rcases str_tri x y with q | q | q
    · rw [if_pos q.d] at h; cases h
    · subst q
      rw [if_neg (by rw [ltS_irr]; decide), if_neg (by rw [ltS_irr]; decide)] at h
      rw [cmpL_zero h]
    · rw [if_neg (by rw [q.e]; decide), if_pos q.d] at h; cases h
theorem cmpL_iff {a b : List ByteArray} : cmpL a b = 0 ↔ a = b := ⟨cmpL_zero, fun h => h ▸ cmpL_self a⟩
theorem eqS_pure (a b : List ByteArray) (ha : a.length ≤ 9223372036854775807) (hb : b.length ≤ 9223372036854775807) : Pure Tryz.prog 65 [.rs (rowsOf strC a), .rs (rowsOf strC b)] (.bool (decide (a = b))) := by
  refine pure_of mixed Tryz.func65 rfl (by kernel_rfl) (of_decide_eq_true rfl) (by kernel_rfl) (vc_run ?_)
  by_cases hl : a.length = b.length
  · ((try simp -implicitDefEqProofs [-loopQ_n, hl]) <;> (repeat' (first | ((first | refine condD_dec ?_ ?_ | refine guardD_dec ?_ ?_) <;> (intro hc; (try simp -implicitDefEqProofs [-loopQ_n, hc, hl]))) | ((first | refine condD_intro ?_ ?_ | refine guardD_intro ?_ ?_) <;> (intro hd; have hc := hd; (try simp at hc) <;> (try simp -implicitDefEqProofs [-loopQ_n, hd, hc, hl]))) | (refine ldD_ep ?_ ?_; (focus kernel_rfl); (try simp -implicitDefEqProofs [-loopQ_n, hl])))))
    refine loop_intro (σ := Nat) (fun i => ⟨[(0, .rs (rowsOf strC a)), (1, .rs (rowsOf strC b)), (12, .int .i64 b.length), (13, .int .i64 i)], []⟩) (fun i => i ≤ b.length ∧ (a = b ↔ a.drop i = b.drop i)) (fun i => b.length - i) 0 ⟨by omega, by simp⟩ ?_ ?_
    · refine weak_of 0 0 rfl rfl ?_ ?_ <;> simp [hl]
    rintro i ⟨hi, hR⟩
    by_cases h : i < b.length
    · have w1 := sw_suc h (by omega)
      have g : i < a.length := by omega
      rw [List.drop_eq_getElem_cons g, List.drop_eq_getElem_cons h, List.cons.injEq] at hR
      by_cases e : a[i] = b[i]
      · have e' : a[i].toList = b[i].toList := by rw [e]
        ((try simp -implicitDefEqProofs [-loopQ_n, h, g, w1, strC, e']) <;> (repeat' (first | ((first | refine condD_dec ?_ ?_ | refine guardD_dec ?_ ?_) <;> (intro hc; (try simp -implicitDefEqProofs [-loopQ_n, hc, h, g, w1, strC, e']))) | ((first | refine condD_intro ?_ ?_ | refine guardD_intro ?_ ?_) <;> (intro hd; have hc := hd; (try simp at hc) <;> (try simp -implicitDefEqProofs [-loopQ_n, hd, hc, h, g, w1, strC, e']))) | (refine ldD_ep ?_ ?_; (focus kernel_rfl); (try simp -implicitDefEqProofs [-loopQ_n, h, g, w1, strC, e'])))))
        refine loop_next (i + 1) ⟨h, by rw [hR]; simp [e]⟩ (by omega) (weak_of 0 0 rfl rfl ?_ ?_) <;> simp
      · have e' : ¬ a[i].toList = b[i].toList := fun q => e (ba_eq (by rw [ba_toList, ba_toList] at q; exact q))
        have hne : ¬ a = b := by rw [hR]; simp [e]
        ((try simp -implicitDefEqProofs [-loopQ_n, h, g, w1, strC, e']) <;> (repeat' (first | ((first | refine condD_dec ?_ ?_ | refine guardD_dec ?_ ?_) <;> (intro hc; (try simp -implicitDefEqProofs [-loopQ_n, hc, h, g, w1, strC, e']))) | ((first | refine condD_intro ?_ ?_ | refine guardD_intro ?_ ?_) <;> (intro hd; have hc := hd; (try simp at hc) <;> (try simp -implicitDefEqProofs [-loopQ_n, hd, hc, h, g, w1, strC, e']))) | (refine ldD_ep ?_ ?_; (focus kernel_rfl); (try simp -implicitDefEqProofs [-loopQ_n, h, g, w1, strC, e'])))))
        simp [hne]
    · rw [List.drop_eq_nil_of_le (by omega), List.drop_eq_nil_of_le (by omega)] at hR
      have he : a = b := hR.2 rfl
      ((try simp -implicitDefEqProofs [-loopQ_n, h]) <;> (repeat' (first | ((first | refine condD_dec ?_ ?_ | refine guardD_dec ?_ ?_) <;> (intro hc; (try simp -implicitDefEqProofs [-loopQ_n, hc, h]))) | ((first | refine condD_intro ?_ ?_ | refine guardD_intro ?_ ?_) <;> (intro hd; have hc := hd; (try simp at hc) <;> (try simp -implicitDefEqProofs [-loopQ_n, hd, hc, h]))) | (refine ldD_ep ?_ ?_; (focus kernel_rfl); (try simp -implicitDefEqProofs [-loopQ_n, h])))))
      simp [he]
  · have hl' : ¬ (a.length : Int) = b.length := by omega
    have hne : ¬ a = b := fun e => hl (by rw [e])
    ((try simp -implicitDefEqProofs [-loopQ_n, hl']) <;> (repeat' (first | ((first | refine condD_dec ?_ ?_ | refine guardD_dec ?_ ?_) <;> (intro hc; (try simp -implicitDefEqProofs [-loopQ_n, hc, hl']))) | ((first | refine condD_intro ?_ ?_ | refine guardD_intro ?_ ?_) <;> (intro hd; have hc := hd; (try simp at hc) <;> (try simp -implicitDefEqProofs [-loopQ_n, hd, hc, hl']))) | (refine ldD_ep ?_ ?_; (focus kernel_rfl); (try simp -implicitDefEqProofs [-loopQ_n, hl'])))))
    simp [hne]
def idxA : List ByteArray → ByteArray → Int → Int
  | [], _, _ => -1
  | y :: r, x, i => if y = x then i else idxA r x (i + 1)
def idxS (l : List ByteArray) (x : ByteArray) : Int := idxA l x 0
theorem index_pure (l : List ByteArray) (x : ByteArray) (hl : l.length ≤ 9223372036854775807) : Pure Tryz.prog 140 [.rs (rowsOf strC l), .str x] (.int .i64 (idxS l x)) := by
  refine pure_of mixed Tryz.func140 rfl (by kernel_rfl) (of_decide_eq_true rfl) (by kernel_rfl) (vc_run ?_)
  ((try simp -implicitDefEqProofs [-loopQ_n]) <;> (repeat' (first | ((first | refine condD_dec ?_ ?_ | refine guardD_dec ?_ ?_) <;> (intro hc; (try simp -implicitDefEqProofs [-loopQ_n, hc]))) | ((first | refine condD_intro ?_ ?_ | refine guardD_intro ?_ ?_) <;> (intro hd; have hc := hd; (try simp at hc) <;> (try simp -implicitDefEqProofs [-loopQ_n, hd, hc]))) | (refine ldD_ep ?_ ?_; (focus kernel_rfl); (try simp -implicitDefEqProofs [-loopQ_n])))))
  refine loop_intro (σ := Nat) (fun i => ⟨[(0, .rs (rowsOf strC l)), (1, .str x), (7, .int .i64 l.length), (8, .int .i64 i)], []⟩) (fun i => i ≤ l.length ∧ idxA (l.drop i) x i = idxS l x) (fun i => l.length - i) 0 ⟨by omega, by simp [idxS]⟩ ?_ ?_
  · refine weak_of 0 0 rfl rfl ?_ ?_ <;> simp
  rintro i ⟨hi, hR⟩
  by_cases h : i < l.length
  · have w1 := sw_suc h (by omega)
    rw [List.drop_eq_getElem_cons h, idxA] at hR
    by_cases e : l[i] = x
    · have e' : x.toList = l[i].toList := by rw [e]
      rw [if_pos e] at hR
      ((try simp -implicitDefEqProofs [-loopQ_n, h, w1, strC, e']) <;> (repeat' (first | ((first | refine condD_dec ?_ ?_ | refine guardD_dec ?_ ?_) <;> (intro hc; (try simp -implicitDefEqProofs [-loopQ_n, hc, h, w1, strC, e']))) | ((first | refine condD_intro ?_ ?_ | refine guardD_intro ?_ ?_) <;> (intro hd; have hc := hd; (try simp at hc) <;> (try simp -implicitDefEqProofs [-loopQ_n, hd, hc, h, w1, strC, e']))) | (refine ldD_ep ?_ ?_; (focus kernel_rfl); (try simp -implicitDefEqProofs [-loopQ_n, h, w1, strC, e'])))))
      exact hR
    · have e' : ¬ x.toList = l[i].toList := fun q => e (ba_eq (by rw [ba_toList, ba_toList] at q; exact q.symm))
      rw [if_neg e] at hR
      ((try simp -implicitDefEqProofs [-loopQ_n, h, w1, strC, e']) <;> (repeat' (first | ((first | refine condD_dec ?_ ?_ | refine guardD_dec ?_ ?_) <;> (intro hc; (try simp -implicitDefEqProofs [-loopQ_n, hc, h, w1, strC, e']))) | ((first | refine condD_intro ?_ ?_ | refine guardD_intro ?_ ?_) <;> (intro hd; have hc := hd; (try simp at hc) <;> (try simp -implicitDefEqProofs [-loopQ_n, hd, hc, h, w1, strC, e']))) | (refine ldD_ep ?_ ?_; (focus kernel_rfl); (try simp -implicitDefEqProofs [-loopQ_n, h, w1, strC, e'])))))
      refine loop_next (i + 1) ⟨h, by simpa using hR⟩ (by omega) (weak_of 0 0 rfl rfl ?_ ?_) <;> simp
  · rw [List.drop_eq_nil_of_le (by omega), idxA] at hR
    ((try simp -implicitDefEqProofs [-loopQ_n, h]) <;> (repeat' (first | ((first | refine condD_dec ?_ ?_ | refine guardD_dec ?_ ?_) <;> (intro hc; (try simp -implicitDefEqProofs [-loopQ_n, hc, h]))) | ((first | refine condD_intro ?_ ?_ | refine guardD_intro ?_ ?_) <;> (intro hd; have hc := hd; (try simp at hc) <;> (try simp -implicitDefEqProofs [-loopQ_n, hd, hc, h]))) | (refine ldD_ep ?_ ?_; (focus kernel_rfl); (try simp -implicitDefEqProofs [-loopQ_n, h])))))
    exact hR
theorem rindex_pure (l : List ByteArray) (x : ByteArray) (hl : l.length ≤ 9223372036854775807) : Pure Tryz.prog 105 [.rs (rowsOf strC l), .str x] (.int .i64 (idxS l x)) := by
  refine pure_of mixed Tryz.func105 rfl (by kernel_rfl) (of_decide_eq_true rfl) (by kernel_rfl) (vc_run ?_)
  ((try simp -implicitDefEqProofs [-loopQ_n]) <;> (repeat' (first | ((first | refine condD_dec ?_ ?_ | refine guardD_dec ?_ ?_) <;> (intro hc; (try simp -implicitDefEqProofs [-loopQ_n, hc]))) | ((first | refine condD_intro ?_ ?_ | refine guardD_intro ?_ ?_) <;> (intro hd; have hc := hd; (try simp at hc) <;> (try simp -implicitDefEqProofs [-loopQ_n, hd, hc]))) | (refine ldD_ep ?_ ?_; (focus kernel_rfl); (try simp -implicitDefEqProofs [-loopQ_n])))))
  refine loop_intro (σ := Nat) (fun i => ⟨[(0, .rs (rowsOf strC l)), (1, .str x), (5, .int .i64 i)], []⟩) (fun i => i ≤ l.length ∧ idxA (l.drop i) x i = idxS l x) (fun i => l.length - i) 0 ⟨by omega, by simp [idxS]⟩ ?_ ?_
  · refine weak_of 0 0 rfl rfl ?_ ?_ <;> simp
  rintro i ⟨hi, hR⟩
  by_cases h : i < l.length
  · have w1 := sw_suc h (by omega)
    rw [List.drop_eq_getElem_cons h, idxA] at hR
    by_cases e : l[i] = x
    · have e' : l[i].toList = x.toList := by rw [e]
      rw [if_pos e] at hR
      ((try simp -implicitDefEqProofs [-loopQ_n, h, w1, strC, e']) <;> (repeat' (first | ((first | refine condD_dec ?_ ?_ | refine guardD_dec ?_ ?_) <;> (intro hc; (try simp -implicitDefEqProofs [-loopQ_n, hc, h, w1, strC, e']))) | ((first | refine condD_intro ?_ ?_ | refine guardD_intro ?_ ?_) <;> (intro hd; have hc := hd; (try simp at hc) <;> (try simp -implicitDefEqProofs [-loopQ_n, hd, hc, h, w1, strC, e']))) | (refine ldD_ep ?_ ?_; (focus kernel_rfl); (try simp -implicitDefEqProofs [-loopQ_n, h, w1, strC, e'])))))
      exact hR
    · have e' : ¬ l[i].toList = x.toList := fun q => e (ba_eq (by rw [ba_toList, ba_toList] at q; exact q))
      rw [if_neg e] at hR
      ((try simp -implicitDefEqProofs [-loopQ_n, h, w1, strC, e']) <;> (repeat' (first | ((first | refine condD_dec ?_ ?_ | refine guardD_dec ?_ ?_) <;> (intro hc; (try simp -implicitDefEqProofs [-loopQ_n, hc, h, w1, strC, e']))) | ((first | refine condD_intro ?_ ?_ | refine guardD_intro ?_ ?_) <;> (intro hd; have hc := hd; (try simp at hc) <;> (try simp -implicitDefEqProofs [-loopQ_n, hd, hc, h, w1, strC, e']))) | (refine ldD_ep ?_ ?_; (focus kernel_rfl); (try simp -implicitDefEqProofs [-loopQ_n, h, w1, strC, e'])))))
      refine loop_next (i + 1) ⟨h, by simpa using hR⟩ (by omega) (weak_of 0 0 rfl rfl ?_ ?_) <;> simp
  · rw [List.drop_eq_nil_of_le (by omega), idxA] at hR
    ((try simp -implicitDefEqProofs [-loopQ_n, h]) <;> (repeat' (first | ((first | refine condD_dec ?_ ?_ | refine guardD_dec ?_ ?_) <;> (intro hc; (try simp -implicitDefEqProofs [-loopQ_n, hc, h]))) | ((first | refine condD_intro ?_ ?_ | refine guardD_intro ?_ ?_) <;> (intro hd; have hc := hd; (try simp at hc) <;> (try simp -implicitDefEqProofs [-loopQ_n, hd, hc, h]))) | (refine ldD_ep ?_ ?_; (focus kernel_rfl); (try simp -implicitDefEqProofs [-loopQ_n, h])))))
    exact hR
def cmpB (x y : ByteArray) : Int := if ltS x y = true then -1 else if ltS y x = true then 1 else 0
theorem isNaN_pure (x : ByteArray) : Pure Tryz.prog 161 [.str x] (.bool false) := by
  refine pure_of mixed Tryz.func161 rfl (by kernel_rfl) (of_decide_eq_true rfl) (by kernel_rfl) (vc_run ?_)
  ((try simp -implicitDefEqProofs [-loopQ_n]) <;> (repeat' (first | ((first | refine condD_dec ?_ ?_ | refine guardD_dec ?_ ?_) <;> (intro hc; (try simp -implicitDefEqProofs [-loopQ_n, hc]))) | ((first | refine condD_intro ?_ ?_ | refine guardD_intro ?_ ?_) <;> (intro hd; have hc := hd; (try simp at hc) <;> (try simp -implicitDefEqProofs [-loopQ_n, hd, hc]))) | (refine ldD_ep ?_ ?_; (focus kernel_rfl); (try simp -implicitDefEqProofs [-loopQ_n])))))
theorem cmpB_pure (x y : ByteArray) : Pure Tryz.prog 155 [.str x, .str y] (.int .i64 (cmpB x y)) := by
  refine pure_of mixed Tryz.func155 rfl (by kernel_rfl) (of_decide_eq_true rfl) (by kernel_rfl) (vc_run ?_)
  rcases str_tri x y with q | q | q
  · ((try simp -implicitDefEqProofs [-loopQ_n, q.a, q.b, q.c, q.c']) <;> (repeat' (first | ((first | refine condD_dec ?_ ?_ | refine guardD_dec ?_ ?_) <;> (intro hc; (try simp -implicitDefEqProofs [-loopQ_n, hc, q.a, q.b, q.c, q.c']))) | ((first | refine condD_intro ?_ ?_ | refine guardD_intro ?_ ?_) <;> (intro hd; have hc := hd; (try simp at hc) <;> (try simp -implicitDefEqProofs [-loopQ_n, hd, hc, q.a, q.b, q.c, q.c']))) | ((first | (refine ldD_ep ?_ ?_; (focus kernel_rfl)) | (refine callS_mk ?_; (try simp -implicitDefEqProofs [-loopQ_n, q.a, q.b, q.c, q.c']); (first | refine callS_intro (isNaN_pure x) (.inl rfl) ?_ | refine callS_intro (isNaN_pure y) (.inl rfl) ?_))); (try simp -implicitDefEqProofs [-loopQ_n, q.a, q.b, q.c, q.c'])))))
    simp [cmpB, q.d]
  · subst q
    ((try simp -implicitDefEqProofs [-loopQ_n, str_irr]) <;> (repeat' (first | ((first | refine condD_dec ?_ ?_ | refine guardD_dec ?_ ?_) <;> (intro hc; (try simp -implicitDefEqProofs [-loopQ_n, hc, str_irr]))) | ((first | refine condD_intro ?_ ?_ | refine guardD_intro ?_ ?_) <;> (intro hd; have hc := hd; (try simp at hc) <;> (try simp -implicitDefEqProofs [-loopQ_n, hd, hc, str_irr]))) | ((first | (refine ldD_ep ?_ ?_; (focus kernel_rfl)) | (refine callS_mk ?_; (try simp -implicitDefEqProofs [-loopQ_n, str_irr]); (first | refine callS_intro (isNaN_pure x) (.inl rfl) ?_))); (try simp -implicitDefEqProofs [-loopQ_n, str_irr])))))
    simp [cmpB, ltS_irr]
  · ((try simp -implicitDefEqProofs [-loopQ_n, q.a, q.b, q.c, q.c']) <;> (repeat' (first | ((first | refine condD_dec ?_ ?_ | refine guardD_dec ?_ ?_) <;> (intro hc; (try simp -implicitDefEqProofs [-loopQ_n, hc, q.a, q.b, q.c, q.c']))) | ((first | refine condD_intro ?_ ?_ | refine guardD_intro ?_ ?_) <;> (intro hd; have hc := hd; (try simp at hc) <;> (try simp -implicitDefEqProofs [-loopQ_n, hd, hc, q.a, q.b, q.c, q.c']))) | ((first | (refine ldD_ep ?_ ?_; (focus kernel_rfl)) | (refine callS_mk ?_; (try simp -implicitDefEqProofs [-loopQ_n, q.a, q.b, q.c, q.c']); (first | refine callS_intro (isNaN_pure x) (.inl rfl) ?_ | refine callS_intro (isNaN_pure y) (.inl rfl) ?_))); (try simp -implicitDefEqProofs [-loopQ_n, q.a, q.b, q.c, q.c'])))))
    simp [cmpB, q.d, q.e]
end Go.Proofs.YthemglpccpjokaaGreat
