/- The order of words is total and transitive (plain words). -/
import Derived.Test.YtkppfaennogcmaaStrW
namespace Go.Proofs.Ytkppfaennogcmaa
set_option linter.unusedSimpArgs false
set_option linter.unusedVariables false
set_option linter.unnecessarySimpa false
set_option linter.unusedSectionVars false
open Go.RowKit
variable [Glob]
theorem cmpL_anti : ∀ a b : List ByteArray, cmpL b a = - cmpL a b
  | [], [] => rfl
  | [], _ :: _ => rfl
  | _ :: _, [] => rfl
  | x :: a, y :: b => by
    rw [cmpL_cons, cmpL_cons]
    rcases str_tri x y with q | q | q
    · rw [if_neg (by rw [q.e]; decide), if_pos q.d, if_pos q.d]; rfl
    · subst q
      rw [if_neg (by rw [ltS_irr]; decide), if_neg (by rw [ltS_irr]; decide), if_neg (by rw [ltS_irr]; decide), if_neg (by rw [ltS_irr]; decide)]
      exact cmpL_anti a b
    · rw [if_pos q.d, if_neg (by rw [q.e]; decide), if_pos q.d]
theorem cmpL_vals : ∀ a b : List ByteArray, cmpL a b = -1 ∨ cmpL a b = 0 ∨ cmpL a b = 1
  | [], [] => .inr (.inl rfl)
  | [], _ :: _ => .inl rfl
  | _ :: _, [] => .inr (.inr rfl)
  | x :: a, y :: b => by
    rw [cmpL_cons]
    split
    · exact .inl rfl
    · split
      · exact .inr (.inr rfl)
      · exact cmpL_vals a b
theorem ltS_trans {x y z : ByteArray} (h : ltS x y = true) (g : ltS y z = true) : ltS x z = true := bl_trans _ _ _ h g
theorem cmpL_lt {x y : ByteArray} (h : SLess x y) (a b : List ByteArray) : cmpL (x :: a) (y :: b) = -1 := by rw [cmpL_cons, if_pos h.d]
theorem cmpL_gt {x y : ByteArray} (h : SLess y x) (a b : List ByteArray) : cmpL (x :: a) (y :: b) = 1 := by rw [cmpL_cons, if_neg (by rw [h.e]; decide), if_pos h.d]
theorem cmpL_eq (x : ByteArray) (a b : List ByteArray) : cmpL (x :: a) (x :: b) = cmpL a b := by rw [cmpL_cons, if_neg (by rw [ltS_irr]; decide), if_neg (by rw [ltS_irr]; decide)]
/-- Where words come one behind the other, or are the same. -/
theorem cmpL_trans : ∀ a b c : List ByteArray, cmpL a b ≤ 0 → cmpL b c ≤ 0 → cmpL a c ≤ 0 ∧ ((cmpL a b < 0 ∨ cmpL b c < 0) → cmpL a c < 0)
  | [], [], [] => fun _ _ => ⟨by simp [cmpL], by simp [cmpL]⟩
  | [], [], _ :: _ => fun _ _ => ⟨by simp [cmpL], by simp [cmpL]⟩
  | [], _ :: _, [] => fun _ h => by simp [cmpL] at h
  | [], _ :: _, _ :: _ => fun _ _ => ⟨by simp [cmpL], by simp [cmpL]⟩
  | _ :: _, [], _ => fun h _ => by simp [cmpL] at h
  | _ :: _, _ :: _, [] => fun _ h => by simp [cmpL] at h
  | x :: a, y :: b, z :: c => fun h g => by
    rcases str_tri x y with q | q | q
    · rcases str_tri y z with r | r | r
      · rw [cmpL_lt (sless_of (ltS_trans q.d r.d))]; simp
      · subst r; rw [cmpL_lt q]; simp
      · rw [cmpL_gt r] at g; simp at g
    · subst q
      rw [cmpL_eq] at h ⊢
      rcases str_tri x z with r | r | r
      · rw [cmpL_lt r]; simp
      · subst r
        rw [cmpL_eq] at g ⊢
        rw [cmpL_eq]
        exact cmpL_trans a b c h g
      · rw [cmpL_gt r] at g; simp at g
    · rw [cmpL_gt q] at h; simp at h
theorem cmpL_more : ∀ (a : List ByteArray) (x : ByteArray), cmpL a (a ++ [x]) = -1
  | [], _ => rfl
  | y :: a, x => by rw [List.cons_append, cmpL_cons, if_neg (by rw [ltS_irr]; decide), if_neg (by rw [ltS_irr]; decide)]; exact cmpL_more a x
end Go.Proofs.Ytkppfaennogcmaa
