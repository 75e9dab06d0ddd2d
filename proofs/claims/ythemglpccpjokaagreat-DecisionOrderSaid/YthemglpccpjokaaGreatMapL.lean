/- Maps as lists of data. -/
import Derived.Test.YthemglpccpjokaaGreatAbBase
set_option linter.unusedSimpArgs false
set_option linter.unusedVariables false
set_option linter.unnecessarySimpa false
set_option linter.unusedSectionVars false
namespace Go.Proofs.YthemglpccpjokaaGreat
open Go.RowKit
variable [Glob]
section
variable {α β : Type} {kc : α → AV} {vc : β → AV}
def mE (kc : α → AV) (vc : β → AV) (es : List (α × β)) : List (AV × AV) := es.map fun e => (kc e.1, vc e.2)
def afind [DecidableEq α] (k : α) : List (α × β) → Nat → Option (Nat × β)
  | [], _ => none
  | e :: r, i => if e.1 = k then some (i, e.2) else afind k r (i + 1)
def alook [DecidableEq α] (es : List (α × β)) (k : α) : Option β := (afind k es 0).map (·.2)
def aput [DecidableEq α] (es : List (α × β)) (k : α) (v : β) : List (α × β) := match afind k es 0 with | some e => es.set e.1 (k, v) | none => es ++ [(k, v)]
theorem mE_len {es : List (α × β)} : (mE kc vc es).length = es.length := by simp [mE]
theorem mfind_E [DecidableEq α] {ks : Bool × List Nat} (hk : ∀ x y, keq ks (kc x) (kc y) = some (decide (y = x))) (k : α) : ∀ (es : List (α × β)) (i : Nat), mfind ks (kc k) (mE kc vc es) i = some ((afind k es i).map fun e => (e.1, vc e.2)) := by
  intro es
  induction es with
  | nil => intro i; rfl
  | cons e r ih =>
    intro i
    simp only [mE, List.map_cons, mfind, hk, afind]
    by_cases h : e.1 = k
    · simp [h]
    · simpa [mE, h] using ih (i + 1)
theorem mput_E [DecidableEq α] (es : List (α × β)) (k : α) (v : β) : mput (mE kc vc es) ((afind k es 0).map fun e => (e.1, vc e.2)) (kc k) (vc v) = mE kc vc (aput es k v) := by
  unfold aput
  cases afind k es 0 <;> simp [mput, mE]
theorem afind_shift [DecidableEq α] (k : α) : ∀ (es : List (α × β)) (i : Nat), (afind k es i) = (afind k es 0).map fun e => (e.1 + i, e.2) := by
  intro es
  induction es with
  | nil => intro i; rfl
  | cons e r ih =>
    intro i
    simp only [afind]
    by_cases h : e.1 = k
    · simp [h]
    · simp only [if_neg h]
      rw [ih (i + 1), ih (0 + 1), Option.map_map]
      congr 1; funext x; simp only [Function.comp]; congr 1; omega
theorem alook_nil [DecidableEq α] (k : α) : alook ([] : List (α × β)) k = none := rfl
theorem alook_cons [DecidableEq α] (e : α × β) (r : List (α × β)) (k : α) : alook (e :: r) k = if e.1 = k then some e.2 else alook r k := by
  unfold alook
  simp only [afind]
  by_cases h : e.1 = k
  · simp [h]
  · simp only [if_neg h]
    rw [afind_shift k r (0 + 1), Option.map_map]; rfl
theorem afind_eq [DecidableEq α] {es : List (α × β)} {k : α} {i : Nat} {v : β} (h : afind k es 0 = some (i, v)) : es[i]? = some (k, v) := by
  induction es generalizing i with
  | nil => simp [afind] at h
  | cons e r ih =>
    simp only [afind] at h
    by_cases h1 : e.1 = k
    rotate_left
    · simp only [if_neg h1] at h
      rw [afind_shift] at h
      cases h2 : afind k r 0 with
      | none => simp [h2] at h
      | some q =>
        obtain ⟨a, b⟩ := q
        simp [h2] at h
        obtain ⟨rfl, rfl⟩ := h
        simpa using ih h2
    · simp [h1] at h
      obtain ⟨rfl, rfl⟩ := h
      simp [← h1]
theorem alook_set [DecidableEq α] {es : List (α × β)} {i : Nat} {k k' : α} {v v0 : β} (h : afind k es 0 = some (i, v0)) : alook (es.set i (k, v)) k' = if k = k' then some v else alook es k' := by
  induction es generalizing i with
  | nil => simp [afind] at h
  | cons e r ih =>
    simp only [afind] at h
    by_cases h1 : e.1 = k
    rotate_left
    · simp only [if_neg h1] at h
      rw [afind_shift] at h
      cases h2 : afind k r 0 with
      | none => simp [h2] at h
      | some q =>
        obtain ⟨a, b⟩ := q
        simp [h2] at h
        obtain ⟨rfl, rfl⟩ := h
        rw [List.set_cons_succ, alook_cons, alook_cons, ih h2]
        by_cases h3 : k = k'
        · subst h3; simp [h1]
        · simp [h3]
    · simp [h1] at h
      obtain ⟨rfl, rfl⟩ := h
      rw [List.set_cons_zero, alook_cons, alook_cons, h1]
      by_cases h3 : k = k'
      · subst h3; simp
      · simp [h3]
theorem alook_append [DecidableEq α] {es : List (α × β)} {k k' : α} {v : β} (h : afind k es 0 = none) : alook (es ++ [(k, v)]) k' = if k = k' then some v else alook es k' := by
  induction es with
  | nil => simp [alook_cons, alook_nil]
  | cons e r ih =>
    simp only [afind] at h
    by_cases h1 : e.1 = k
    rotate_left
    · simp only [if_neg h1] at h
      rw [afind_shift] at h
      rw [List.cons_append, alook_cons, alook_cons, ih (by simpa using h)]
      by_cases h3 : k = k'
      · subst h3; simp [h1]
      · simp [h3]
    · simp [h1] at h
theorem alook_put [DecidableEq α] (es : List (α × β)) (k k' : α) (v : β) : alook (aput es k v) k' = if k = k' then some v else alook es k' := by
  unfold aput
  cases h : afind k es 0 with
  | none => exact alook_append h
  | some e => obtain ⟨i, v0⟩ := e; exact alook_set h
theorem aput_len_le [DecidableEq α] (es : List (α × β)) (k : α) (v : β) : (aput es k v).length ≤ es.length + 1 := by
  unfold aput
  cases afind k es 0 <;> simp
theorem mE_refs {m : Nat} {es : List (α × β)} (h1 : ∀ x, refs m (kc x) = true) (h2 : ∀ x, refs m (vc x) = true) : refsM m (mE kc vc es) = true := by
  simp only [refsM, mE, List.all_map, List.all_eq_true]
  intro e _
  simp [h1, h2]
end
end Go.Proofs.YthemglpccpjokaaGreat
