/- The walk through the reference's Valid: it answers as the plain function does. -/
import Derived.Test.YtibnaangfdohiaaTim1
namespace Go.Proofs.Ytibnaangfdohiaa
open Go.RowKit

set_option maxRecDepth 100000 in
set_option maxHeartbeats 2000000 in
theorem rvalid_any (A A' : Option Addr) (n k n' k' : Nat) (e c : List Int) (w : World) (h : Ints w A n e) (h' : Ints w A' n' c) :
    Calls Try.prog 17 #[.agg #[.slice A n k, .slice A' n' k']] w fun r w' => r = .returned (.bool (validH e c)) ∧ Below w.heap.size w w' := by
  have hn := h.len
  have hn' := h'.len
  have HL := Lib.hid h.1
  have HL' := Lib.hid h'.1
  by_cases h2 : 2 ≤ n ∧ n ≤ 20 ∧ n' + 1 = n
  · obtain ⟨h2, h3, h4⟩ := h2
    obtain ⟨w1, hw1⟩ : ∃ w1, w1 = w.alloc (.cells #[.slice A n k, .slice A' n' k'] 24) := ⟨_, rfl⟩
    have hB : Below w.heap.size w w1 := by rw [hw1]; exact (by repeat (first | exact Below.refl _ _ | assumption | refine Below.drew ?_ | refine bdrewN ?_ _ | refine Below.alloc ?_ (by first | omega | (simp; done) | (simp; omega) | exact Below.size (by assumption)) _ | refine Below.setCell ?_ (by first | omega | (simp; done) | (simp; omega)) _ | refine bstep ?_ (by assumption)))
    have hI := h.below mono_int hB
    have hI' := h'.below mono_int hB
    have q0 : w1.cell? ⟨w.heap.size, 0, none⟩ = some (.slice A n k) := by rw [hw1]; simp
    have q1 : w1.cell? ⟨w.heap.size, 1, none⟩ = some (.slice A' n' k') := by rw [hw1]; simp
    have h4' : ((n' : Int) != (n : Int) - 1) = false := by simp; omega
    have HW := Lib.hid hw1
    have H4 := Lib.hid h4
    clear hw1 h4
    go_enter Try.func17, Try.ntmps17
    go_wp2
    rw [← HW.out]
    go_loopw [3] (fun i wr => ∃ j : Nat, j ≤ n ∧ i = .int .i64 j ∧ (∃ d, Hid (wr = w1.drewN d)) ∧ Hid (∀ j' (hj : j' < e.length), j' < j → 0 ≤ e[j'] ∧ e[j'] ≤ 1073741824 ∧ ∀ (h0 : 0 < j'), e[j' - 1] < e[j'])) (fun i _ => n - (intOf i).toNat)
    case atStart => exact ⟨0, Nat.zero_le _, rfl, ⟨0, rfl⟩, fun j _ hj => absurd hj (by omega)⟩
    case round =>
      obtain ⟨j, hj, rfl, ⟨d, hwr⟩, hall⟩ := hrel
      obtain rfl := hwr
      have hBd := bdrewN hB d
      by_cases hlt : j < n
      · obtain ⟨ad, rfl, hk1, hc⟩ := hI.int hlt
        by_cases a1 : e[j] < 0
        · have HN := Lib.hid (validH_false (c := c) fun hv => properP_not hk1 (.inl (by omega)) hv.1)
          go_wp2; go_quiet (fail); go_wp2; go_ret
          exact ⟨ret_bool HN.out.symm, (by repeat (first | exact Below.refl _ _ | assumption | refine Below.drew ?_ | refine bdrewN ?_ _ | refine Below.alloc ?_ (by first | omega | (simp; done) | (simp; omega) | exact Below.size (by assumption)) _ | refine Below.setCell ?_ (by first | omega | (simp; done) | (simp; omega)) _ | refine bstep ?_ (by assumption)))⟩
        have d1 : decide (e[j] < 0) = false := by simpa using a1
        by_cases a2 : 1073741824 < e[j]
        · have HN := Lib.hid (validH_false (c := c) fun hv => properP_not hk1 (.inl (by omega)) hv.1)
          go_wp2; go_quiet (fail); go_wp2; go_ret
          exact ⟨ret_bool HN.out.symm, (by repeat (first | exact Below.refl _ _ | assumption | refine Below.drew ?_ | refine bdrewN ?_ _ | refine Below.alloc ?_ (by first | omega | (simp; done) | (simp; omega) | exact Below.size (by assumption)) _ | refine Below.setCell ?_ (by first | omega | (simp; done) | (simp; omega)) _ | refine bstep ?_ (by assumption)))⟩
        have d2 : decide (1073741824 < e[j]) = false := by simpa using a2
        by_cases h0 : 0 < j
        · obtain ⟨ad', he, hk2, hc'⟩ := hI.int (k := j - 1) (by omega)
          obtain rfl : ad = ad' := by injection he
          clear he
          by_cases a3 : e[j] ≤ e[j - 1]
          · have HN := Lib.hid (validH_false (c := c) fun hv => properP_not hk1 (.inr ⟨h0, a3⟩) hv.1)
            go_wp2; go_quiet (fail); go_wp2; go_ret
            exact ⟨ret_bool HN.out.symm, (by repeat (first | exact Below.refl _ _ | assumption | refine Below.drew ?_ | refine bdrewN ?_ _ | refine Below.alloc ?_ (by first | omega | (simp; done) | (simp; omega) | exact Below.size (by assumption)) _ | refine Below.setCell ?_ (by first | omega | (simp; done) | (simp; omega)) _ | refine bstep ?_ (by assumption)))⟩
          have d3 : decide (e[j] ≤ e[j - 1]) = false := by simpa using a3
          have HT := Lib.hid (properP_step hall hk1 (by omega) (by omega) (fun _ => by omega))
          go_wp2; go_quiet (fail); go_wp2
          go_roundw
          case rel => exact ⟨j + 1, by omega, by go_num, ⟨_, by first | rfl | (simp only [World.drewN_drewN]; rfl)⟩, HT⟩
          case measure => simp [intOf]; omega
        · have d0 : decide (0 < (j : Int)) = false := by simpa using h0
          have HT := Lib.hid (properP_step hall hk1 (by omega) (by omega) (fun _ => by omega))
          go_wp2; go_quiet (fail); go_wp2
          go_roundw
          case rel => exact ⟨j + 1, by omega, by go_num, ⟨_, by first | rfl | (simp only [World.drewN_drewN]; rfl)⟩, HT⟩
          case measure => simp [intOf]; omega
      · have hp : properP e := properP_of hall (by rw [HL.out]; omega) (by rw [HL.out]; omega) (by rw [HL.out]; omega)
        have HP := Lib.hid hp
        clear hp hall
        go_wp2
        go_loop [4] (fun i => ∃ j : Nat, j ≤ n' ∧ i = .int .i64 j ∧ Hid (∀ x ∈ c.take j, 0 ≤ x ∧ x ≤ 1048576)) (fun i => n' - (intOf i).toNat)
        case atStart => exact ⟨0, Nat.zero_le _, rfl, by simp [Hid]⟩
        case round =>
          obtain ⟨j, hj, rfl, hall⟩ := hrel
          by_cases hlt : j < n'
          · obtain ⟨ad, rfl, hk1, hc⟩ := hI'.int hlt
            by_cases a1 : c[j] < 0
            · have HN := Lib.hid (validH_false (e := e) fun hv => by have := hv.2.2 _ (List.getElem_mem hk1); omega)
              go_wp2; go_ret
              exact ⟨ret_bool HN.out.symm, (by repeat (first | exact Below.refl _ _ | assumption | refine Below.drew ?_ | refine bdrewN ?_ _ | refine Below.alloc ?_ (by first | omega | (simp; done) | (simp; omega) | exact Below.size (by assumption)) _ | refine Below.setCell ?_ (by first | omega | (simp; done) | (simp; omega)) _ | refine bstep ?_ (by assumption)))⟩
            by_cases a2 : 1048576 < c[j]
            · have HN := Lib.hid (validH_false (e := e) fun hv => by have := hv.2.2 _ (List.getElem_mem hk1); omega)
              go_wp2; go_ret
              exact ⟨ret_bool HN.out.symm, (by repeat (first | exact Below.refl _ _ | assumption | refine Below.drew ?_ | refine bdrewN ?_ _ | refine Below.alloc ?_ (by first | omega | (simp; done) | (simp; omega) | exact Below.size (by assumption)) _ | refine Below.setCell ?_ (by first | omega | (simp; done) | (simp; omega)) _ | refine bstep ?_ (by assumption)))⟩
            have HT := Lib.hid (take_ext (Q := fun x => 0 ≤ x ∧ x ≤ 1048576) hall.out hk1 ⟨by omega, by omega⟩)
            go_wp2
            go_round
            case rel => exact ⟨j + 1, by omega, by go_num, HT⟩
            case measure => simp [intOf]; omega
          · go_wp2
            go_ret
            have hl := HL'.out
            have ha := hall.out
            rw [List.take_of_length_le (by omega)] at ha
            exact ⟨ret_bool (validH_iff.2 ⟨HP.out, by rw [HL.out, hl]; exact H4.out, ha⟩).symm, (by repeat (first | exact Below.refl _ _ | assumption | refine Below.drew ?_ | refine bdrewN ?_ _ | refine Below.alloc ?_ (by first | omega | (simp; done) | (simp; omega) | exact Below.size (by assumption)) _ | refine Below.setCell ?_ (by first | omega | (simp; done) | (simp; omega)) _ | refine bstep ?_ (by assumption)))⟩
  · have HN := Lib.hid (validH_false (fun hv => h2 ⟨by have := hv.1.1; rw [HL.out] at this; exact this, by have := hv.1.2.1; rw [HL.out] at this; exact this, by have := hv.2.1; rw [HL.out, HL'.out] at this; exact this⟩ : ¬ validHP e c))
    rcases (show ¬ 2 ≤ n ∨ (2 ≤ n ∧ ¬ n ≤ 20) ∨ (2 ≤ n ∧ n ≤ 20 ∧ ¬ n' + 1 = n) by omega) with a | ⟨a, b⟩ | ⟨a, b, hne⟩
    · skip
      go_enter Try.func17, Try.ntmps17
      go_wp2
      go_ret
      exact ⟨ret_bool HN.out.symm, (by repeat (first | exact Below.refl _ _ | assumption | refine Below.drew ?_ | refine bdrewN ?_ _ | refine Below.alloc ?_ (by first | omega | (simp; done) | (simp; omega) | exact Below.size (by assumption)) _ | refine Below.setCell ?_ (by first | omega | (simp; done) | (simp; omega)) _ | refine bstep ?_ (by assumption)))⟩
    · skip
      go_enter Try.func17, Try.ntmps17
      go_wp2
      go_ret
      exact ⟨ret_bool HN.out.symm, (by repeat (first | exact Below.refl _ _ | assumption | refine Below.drew ?_ | refine bdrewN ?_ _ | refine Below.alloc ?_ (by first | omega | (simp; done) | (simp; omega) | exact Below.size (by assumption)) _ | refine Below.setCell ?_ (by first | omega | (simp; done) | (simp; omega)) _ | refine bstep ?_ (by assumption)))⟩
    · have h4' : ((n' : Int) != (n : Int) - 1) = true := by simp; omega
      clear hne
      go_enter Try.func17, Try.ntmps17
      go_wp2
      go_ret
      exact ⟨ret_bool HN.out.symm, (by repeat (first | exact Below.refl _ _ | assumption | refine Below.drew ?_ | refine bdrewN ?_ _ | refine Below.alloc ?_ (by first | omega | (simp; done) | (simp; omega) | exact Below.size (by assumption)) _ | refine Below.setCell ?_ (by first | omega | (simp; done) | (simp; omega)) _ | refine bstep ?_ (by assumption)))⟩
end Go.Proofs.Ytibnaangfdohiaa
