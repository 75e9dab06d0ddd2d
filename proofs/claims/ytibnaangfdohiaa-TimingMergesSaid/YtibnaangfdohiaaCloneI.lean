/- slices.Clone over []int, for every slice. -/
import Derived.Test.YtibnaangfdohiaaShelf
import Derived.Test.YtibnaangfdohiaaOwn
namespace Go.Proofs.Ytibnaangfdohiaa
open Go.RowKit

def Cloned (w : World) (n : Nat) (l : List Int) (e : Ending) (w' : World) : Prop := ∃ v', e = .returned v' ∧ w'.ownsRow w.heap.size 3 1 v' n (l.map (Value.int .i64)) ∧ Below w.heap.size w w'
theorem clone_int (A : Option Addr) (n c : Nat) (l : List Int) (w : World) (h : Ints w A n l) (hbig : n * 8 ≤ 140737488355328) :
    Calls Try.prog 48 #[.slice A n c] w (Cloned w n l) := by
  rcases Nat.eq_zero_or_pos n with h0 | h0
  · subst h0
    have hl : l = [] := List.eq_nil_of_length_eq_zero h.1
    subst hl
    rcases A with _ | a
    · exact (Try.slices_Clone_int_nil 0 c w).mono fun e w' ⟨he, hw⟩ => ⟨_, he, by subst hw; exact World.ownsRow_nil _ _ _ _, by subst hw; exact Below.refl _ _⟩
    · exact (Try.slices_Clone_int_zero a c w).mono fun e w' ⟨v, he, ho, _, hb⟩ => ⟨v, he, ho, hb⟩
  · obtain ⟨b, off, rfl⟩ := h.open1 h0
    refine (Try.slices_Clone_int b off n c l w (by rw [h.1]; exact Nat.le_refl _) hbig (fun j hj => ?_)).mono fun e w' ⟨v, he, ho, _, hb⟩ => ⟨v, he, ?_, hb⟩
    · rw [h.at_ hj, List.getD_eq_getElem?_getD, List.getElem?_eq_getElem hj]; rfl
    · rw [List.take_of_length_le (by rw [h.1]; exact Nat.le_refl _)] at ho
      exact ho
end Go.Proofs.Ytibnaangfdohiaa
