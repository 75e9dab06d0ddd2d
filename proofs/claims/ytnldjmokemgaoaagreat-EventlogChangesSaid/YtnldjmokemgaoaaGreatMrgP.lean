/- Two ascending lists, one list: what a stable sort makes of both, one behind the other. -/
import Derived.Test.YtnldjmokemgaoaaGreatStbP
namespace Go.Proofs.YtnldjmokemgaoaaGreat.Stab
set_option linter.unusedSimpArgs false
set_option linter.unusedVariables false
set_option linter.unnecessarySimpa false
set_option linter.unusedSectionVars false
set_option maxRecDepth 100000
universe u
variable {α : Type u} {lt : α → α → Bool}
/-- Of two heads, the second list's one comes first only if it is less. -/
def mrgG (lt : α → α → Bool) : List α → List α → List α
  | [], b => b
  | x :: a, [] => x :: a
  | x :: a, y :: b => if lt y x then y :: mrgG lt (x :: a) b else x :: mrgG lt a (y :: b)
termination_by a b => a.length + b.length
theorem mrgG_nil {a : List α} : mrgG lt a [] = a := by
  cases a <;> unfold mrgG <;> rfl
theorem mrgG_len : ∀ a b : List α, (mrgG lt a b).length = a.length + b.length := by
  intro a b
  fun_induction mrgG lt a b with
  | case1 b => simp
  | case2 x a => simp
  | case3 x a y b h ih => simp [ih]; omega
  | case4 x a y b h ih => simp [ih]; omega
theorem mrgG_mem {z : α} : ∀ a b : List α, z ∈ mrgG lt a b ↔ z ∈ a ∨ z ∈ b := by
  intro a b
  fun_induction mrgG lt a b with
  | case1 b => simp
  | case2 x a => simp
  | case3 x a y b h ih => simp only [List.mem_cons, ih]; grind
  | case4 x a y b h ih => simp only [List.mem_cons, ih]; grind
theorem mrgG_srtd (hs : Swo lt) : ∀ a b : List α, Srtd lt a → Srtd lt b → Srtd lt (mrgG lt a b) := by
  intro a b
  fun_induction mrgG lt a b with
  | case1 b => exact fun _ h => h
  | case2 x a => exact fun h _ => h
  | case3 x a y b h ih =>
    intro ha hb
    have hb' := List.pairwise_cons.1 hb
    refine List.pairwise_cons.2 ⟨fun z hz => ?_, ih ha hb'.2⟩
    rcases (mrgG_mem _ _).1 hz with hz | hz
    · rcases List.mem_cons.1 hz with rfl | hz
      · exact hs.asy h
      · have := (List.pairwise_cons.1 ha).1 z hz
        exact hs.asy (hs.lt_ge h this)
    · exact hb'.1 z hz
  | case4 x a y b h ih =>
    intro ha hb
    have h : lt y x = false := by simpa using h
    have ha' := List.pairwise_cons.1 ha
    refine List.pairwise_cons.2 ⟨fun z hz => ?_, ih ha'.2 hb⟩
    rcases (mrgG_mem _ _).1 hz with hz | hz
    · exact ha'.1 z hz
    · rcases List.mem_cons.1 hz with rfl | hz
      · exact h
      · exact hs.ge h ((List.pairwise_cons.1 hb).1 z hz)
theorem mrgG_stb (hs : Swo lt) : ∀ a b : List α, Srtd lt a → Srtd lt b → Stb lt (a ++ b) (mrgG lt a b) := by
  intro a b
  fun_induction mrgG lt a b with
  | case1 b => exact fun _ _ => Stb.refl _
  | case2 x a => intro _ _; rw [List.append_nil]; exact Stb.refl _
  | case3 x a y b h ih =>
    intro ha hb
    have ih := ih ha (List.pairwise_cons.1 hb).2
    have h1 : Stb lt ((x :: a) ++ [y]) ([y] ++ (x :: a)) := Stb.swap hs fun z hz w hw => by
      rw [List.mem_singleton] at hw
      subst hw
      rcases List.mem_cons.1 hz with rfl | hz
      · exact h
      · exact hs.lt_ge h ((List.pairwise_cons.1 ha).1 z hz)
    have h2 := h1.app (Stb.refl (lt := lt) b)
    rw [List.append_assoc, List.append_assoc] at h2
    exact h2.trans ((Stb.refl (lt := lt) [y]).app ih)
  | case4 x a y b h ih =>
    intro ha hb
    exact (Stb.refl (lt := lt) [x]).app (ih (List.pairwise_cons.1 ha).2 hb)
theorem mrgG_map {β : Type u} {f : α → β} {lt' : β → β → Bool} (h : ∀ x y, lt x y = lt' (f x) (f y)) : ∀ a b : List α, (mrgG lt a b).map f = mrgG lt' (a.map f) (b.map f) := by
  intro a b
  fun_induction mrgG lt a b with
  | case1 b => simp [mrgG]
  | case2 x a => simp [mrgG]
  | case3 x a y b hh ih => simp only [List.map_cons] at ih ⊢; rw [ih, mrgG, ← h, if_pos hh]
  | case4 x a y b hh ih => simp only [List.map_cons] at ih ⊢; rw [ih, mrgG, ← h, if_neg hh]
end Go.Proofs.YtnldjmokemgaoaaGreat.Stab
