/- From the form's readings to the abstract machine's. -/
import Derived.Test.YtibnaangfdohiaaFrame
import Derived.Test.YtibnaangfdohiaaBr
namespace Go.Proofs.Ytibnaangfdohiaa
open Go.ChangeShapes Go.WideShapes Go.ChangeAt Go.RowKit
def IntsR (w : World) (A : Option Addr) (n c : Nat) (l : List Int) : Prop := Ints w A n l ∧ n ≤ c
theorem IntsR.ro {w : World} {A : Option Addr} {n c : Nat} {l : List Int} (h : IntsR w A n c l) : RO w (fun _ => False) (ints l) (.slice A n c) := by
  obtain ⟨⟨h1, h2, h3⟩, hc⟩ := h
  refine .rs 1 (fun i _ => .int .i64 (l.getD i 0)) (by rw [rowsOf_length]; exact h1) hc (fun i row hi => ?_) (fun i j row x hi hj => ?_)
  · rw [rowsOf_get] at hi
    by_cases hil : i < l.length
    · simp [hil, intC] at hi
      subst hi
      obtain ⟨a, ha, hr⟩ := h3 i hil
      have hb := World.block_lt_of_cell? w _ hr.1
      rw [add_block] at hb
      refine ⟨rfl, a, ha, hb, fun h => h, fun j hj => ?_⟩
      have : j = 0 := by omega
      subst this
      refine ⟨?_, rfl⟩
      simpa [List.getD_eq_getElem?_getD, hil] using hr.1
    · simp [hil] at hi
  · rw [rowsOf_get] at hi
    by_cases hil : i < l.length
    · simp [hil, intC] at hi
      subst hi
      match j with
      | 0 =>
        simp at hj
        subst hj
        simp [List.getD_eq_getElem?_getD, hil]
        exact .int
      | j + 1 => simp at hj
    · simp [hil] at hi
theorem IntsR.wfs {w : World} {A : Option Addr} {n c : Nat} {l : List Int} (h : IntsR w A n c l) : ∀ x ∈ l, (Lit.int .i64 x).wf = true := by
  intro x hx
  obtain ⟨i, hi, rfl⟩ := List.getElem_of_mem hx
  obtain ⟨a, _, hr⟩ := h.1.2.2 i hi
  exact hr.2
section
variable {H : Type} {enc : TypeId × Value → H} {P : Program} {w : World} {spare : Nat → Bool} {held : Bool} {base : Nat}
theorem open_rints1 {t e : TypeId} (ht : P.underlying t = some (.slice e)) (he : P.underlying e = some (.int .i64)) (hc : P.cellsOf e = 1) {r : Reach} {b0 : Nat} {v : Value} {d : DataW H} {p : List MemPlace}
    (hv : Value.okWide P w r b0 t v) (h : DataW.Trod enc P w base spare held t v d p) : ∃ A n c l, v = .slice A n c ∧ IntsR w A n c l := by
  obtain ⟨A, n, c, l, rfl, hi⟩ := open_ints1 ht he hc hv h
  refine ⟨A, n, c, l, rfl, hi, ?_⟩
  obtain ⟨fuel, hf⟩ := h
  rcases open_ints ht he hc hf with ⟨hcs, _⟩ | ⟨a, len, cap, zs, hcs, _, hl, hm, hz, _, hcell, hwz⟩
  · injection hcs with hcs
    injection hcs with h1 h2 h3
    omega
  · injection hcs with hcs
    injection hcs with h1 h2 h3
    omega
end
theorem ro_true {w : World} {X : Nat → Prop} {v : Value} (h : RO w X (.bool true) v) : v = .bool true := by cases h; rfl
end Go.Proofs.Ytibnaangfdohiaa
