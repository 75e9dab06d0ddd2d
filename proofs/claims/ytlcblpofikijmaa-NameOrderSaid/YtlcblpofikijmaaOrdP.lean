/- The order of words, and alphabets (plain words). -/
import Derived.Test.YtlcblpofikijmaaSrt
namespace Go.Proofs.Ytlcblpofikijmaa
set_option linter.unusedSimpArgs false
set_option linter.unusedVariables false
set_option linter.unnecessarySimpa false
set_option linter.unusedSectionVars false
open Go.RowKit
variable [Glob]
theorem cmpL_anti : ∀ a b : List ByteArray, cmpL b a = - cmpL a b
  | [], [] => rfl
  | [], _ :: _ => rfl
  | _ :: _, [] => rfl
  | x :: a, y :: b => by
    rw [cmpL_cons, cmpL_cons]
    rcases str_tri x y with q | q | q
    · rw [if_neg (by rw [q.e]; decide), if_pos q.d, if_pos q.d]; rfl
    · subst q
      rw [if_neg (by rw [ltS_irr]; decide), if_neg (by rw [ltS_irr]; decide), if_neg (by rw [ltS_irr]; decide), if_neg (by rw [ltS_irr]; decide)]
      exact cmpL_anti a b
    · rw [if_pos q.d, if_neg (by rw [q.e]; decide), if_pos q.d]
theorem cmpL_vals : ∀ a b : List ByteArray, cmpL a b = -1 ∨ cmpL a b = 0 ∨ cmpL a b = 1
  | [], [] => .inr (.inl rfl)
  | [], _ :: _ => .inl rfl
  | _ :: _, [] => .inr (.inr rfl)
  | x :: a, y :: b => by
    rw [cmpL_cons]
    split
    · exact .inl rfl
    · split
      · exact .inr (.inr rfl)
      · exact cmpL_vals a b
theorem ltS_trans {x y z : ByteArray} (h : ltS x y = true) (g : ltS y z = true) : ltS x z = true := bl_trans _ _ _ h g
theorem cmpL_lt {x y : ByteArray} (h : SLess x y) (a b : List ByteArray) : cmpL (x :: a) (y :: b) = -1 := by rw [cmpL_cons, if_pos h.d]
theorem cmpL_gt {x y : ByteArray} (h : SLess y x) (a b : List ByteArray) : cmpL (x :: a) (y :: b) = 1 := by rw [cmpL_cons, if_neg (by rw [h.e]; decide), if_pos h.d]
theorem cmpL_eq (x : ByteArray) (a b : List ByteArray) : cmpL (x :: a) (x :: b) = cmpL a b := by rw [cmpL_cons, if_neg (by rw [ltS_irr]; decide), if_neg (by rw [ltS_irr]; decide)]
/-- Where words come one behind the other, or are the same. -/
theorem cmpL_trans : ∀ a b c : List ByteArray, cmpL a b ≤ 0 → cmpL b c ≤ 0 → cmpL a c ≤ 0 ∧ ((cmpL a b < 0 ∨ cmpL b c < 0) → cmpL a c < 0)
  | [], [], [] => fun _ _ => ⟨by simp [cmpL], by simp [cmpL]⟩
  | [], [], _ :: _ => fun _ _ => ⟨by simp [cmpL], by simp [cmpL]⟩
  | [], _ :: _, [] => fun _ h => by simp [cmpL] at h
  | [], _ :: _, _ :: _ => fun _ _ => ⟨by simp [cmpL], by simp [cmpL]⟩
  | _ :: _, [], _ => fun h _ => by simp [cmpL] at h
  | _ :: _, _ :: _, [] => fun _ h => by simp [cmpL] at h
  | x :: a, y :: b, z :: c => fun h g => by
    rcases str_tri x y with q | q | q
    · rcases str_tri y z with r | r | r
      · rw [cmpL_lt (sless_of (ltS_trans q.d r.d))]; simp
      · subst r; rw [cmpL_lt q]; simp
      · rw [cmpL_gt r] at g; simp at g
    · subst q
      rw [cmpL_eq] at h ⊢
      rcases str_tri x z with r | r | r
      · rw [cmpL_lt r]; simp
      · subst r
        rw [cmpL_eq] at g ⊢
        rw [cmpL_eq]
        exact cmpL_trans a b c h g
      · rw [cmpL_gt r] at g; simp at g
    · rw [cmpL_gt q] at h; simp at h
theorem cmpL_more : ∀ (a : List ByteArray) (x : ByteArray), cmpL a (a ++ [x]) = -1
  | [], _ => rfl
  | y :: a, x => by rw [List.cons_append, cmpL_cons, if_neg (by rw [ltS_irr]; decide), if_neg (by rw [ltS_irr]; decide)]; exact cmpL_more a x
theorem ascB_get {l : List ByteArray} (h : ascB l) (j : Nat) (hj : j + 1 < l.length) : ltS l[j] l[j + 1] = true := List.pairwise_iff_getElem.1 h j (j + 1) (by omega) hj (by omega)
theorem setB_idem {l : List ByteArray} (h : ascB l) : setB l = l := asc_uniq (setB_asc l) h fun x => setB_mem l x
theorem setB_setB (l : List ByteArray) : setB (setB l) = setB l := setB_idem (setB_asc l)
theorem namesL_setB {l : List ByteArray} (h : namesL l = true) : namesL (setB l) = true := by
  rw [namesL, List.all_eq_true] at h ⊢
  exact fun x hx => h x ((setB_mem l x).1 hx)
theorem sorted_ok {l a : List ByteArray} (h : sortedR l = .ok a) : a = setB l ∧ namesL l = true ∧ a.length ≤ 40 := by
  unfold sortedR at h
  split at h
  · split at h
    · cases h
    · split at h
      · cases h
      · cases h
        exact ⟨rfl, by assumption, by omega⟩
  · cases h
theorem sorted_again {l a : List ByteArray} (h : sortedR l = .ok a) : sortedR a = .ok a ∧ alphL a = true ∧ ∀ (j : Nat) (hj : j + 1 < a.length), cmpL [a[j]] [a[j + 1]] = -1 := by
  obtain ⟨rfl, h1, h2⟩ := sorted_ok h
  refine ⟨?_, ?_, fun j hj => ?_⟩
  · rw [sortedR, if_pos (namesL_setB h1), if_neg (by omega), setB_setB, if_neg (by omega)]
  · rw [alphL, namesL_setB h1, ascL_yes fun j hj => ascB_get (setB_asc l) j hj]
    simp [h2]
  · rw [cmpL_cons, if_pos (ascB_get (setB_asc l) j hj)]
theorem idxA_in : ∀ (l : List ByteArray) (x : ByteArray) (i : Int), x ∈ l → ∃ j : Nat, idxA l x i = i + j ∧ ∃ h : j < l.length, l[j] = x
  | [], _, _, h => by simp at h
  | y :: r, x, i, h => by
    rw [idxA]
    split
    · rename_i e; exact ⟨0, by simp, by simp, e⟩
    · rename_i e
      rcases List.mem_cons.1 h with q | q
      · exact absurd q.symm e
      · obtain ⟨j, h1, h2, h3⟩ := idxA_in r x (i + 1) q
        exact ⟨j + 1, by rw [h1]; omega, by simp; exact h2, by simpa using h3⟩
theorem idxS_in {l : List ByteArray} {x : ByteArray} (h : x ∈ l) : ∃ j : Nat, idxS l x = j ∧ ∃ h : j < l.length, l[j] = x := by
  obtain ⟨j, h1, h2⟩ := idxA_in l x 0 h
  exact ⟨j, by rw [idxS, h1]; omega, h2⟩
end Go.Proofs.Ytlcblpofikijmaa
