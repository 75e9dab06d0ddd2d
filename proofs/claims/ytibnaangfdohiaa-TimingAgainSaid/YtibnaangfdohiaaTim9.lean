/- The walks through the reference's SameEdges and Distance. -/
import Derived.Test.YtibnaangfdohiaaTim2
import Derived.Test.YtibnaangfdohiaaFracS
import Derived.Test.YtibnaangfdohiaaH40b
import Derived.Deep.RegionHeld3
namespace Go.Proofs.Ytibnaangfdohiaa
open Go.RowKit

set_option maxRecDepth 100000 in
set_option maxHeartbeats 2000000 in
theorem sameEdges_any (A B C D : Option Addr) (n k m l n' k' m' l' : Nat) (e e' : List Int) (w : World) (h : Ints w A n e) (h' : Ints w C n' e') :
    Calls Try.prog 52 #[.agg #[.slice A n k, .slice B m l], .agg #[.slice C n' k', .slice D m' l']] w fun r w' => r = .returned (.bool (decide (e = e'))) ∧ Below w.heap.size w w' := by
  have hn := h.len
  have hn' := h'.len
  have hl := Lib.hid h.1
  have hl' := Lib.hid h'.1
  by_cases hne : n = n'
  · subst hne
    obtain ⟨w1, hw1⟩ : ∃ w1, w1 = (w.alloc (.cells #[.slice A n k, .slice B m l] 24)).alloc (.cells #[.slice C n k', .slice D m' l'] 24) := ⟨_, rfl⟩
    have hB : Below w.heap.size w w1 := by rw [hw1]; exact (by repeat (first | exact Below.refl _ _ | assumption | refine Below.drew ?_ | refine bdrewN ?_ _ | refine Below.alloc ?_ (by first | omega | (simp; done) | (simp; omega) | exact Below.size (by assumption)) _ | refine Below.setCell ?_ (by first | omega | (simp; done) | (simp; omega)) _ | refine bstep ?_ (by assumption)))
    have hI := h.below mono_int hB
    have hI' := h'.below mono_int hB
    have q0 : w1.cell? ⟨w.heap.size, 0, none⟩ = some (.slice A n k) := by rw [hw1]; simp
    have q1 : w1.cell? ⟨w.heap.size + 1, 0, none⟩ = some (.slice C n k') := by rw [hw1]; simp
    have HW := Lib.hid hw1
    clear hw1
    go_enter Try.func52, Try.ntmps52
    go_wp2
    rw [← HW.out]
    go_loopw [5] (fun i wr => ∃ j : Nat, j ≤ n ∧ i = .int .i64 j ∧ (∃ d, Hid (wr = w1.drewN d)) ∧ Hid (∀ x (h : x < e.length) (h' : x < e'.length), x < j → e[x] = e'[x])) (fun i _ => n - (intOf i).toNat)
    case atStart => exact ⟨0, Nat.zero_le _, rfl, ⟨0, rfl⟩, fun j _ _ hj => absurd hj (by omega)⟩
    case round =>
      obtain ⟨j, hj, rfl, ⟨d, hwr⟩, hall⟩ := hrel
      obtain rfl := hwr
      have hBd := bdrewN hB d
      by_cases hlt : j < n
      · obtain ⟨b, off, rfl⟩ := hI.open1 (by omega)
        obtain ⟨b', off', rfl⟩ := hI'.open1 (by omega)
        have hk1 : j < e.length := by rw [hl.out]; exact hlt
        have hk1' : j < e'.length := by rw [hl'.out]; exact hlt
        have hc := hI.at_ hk1
        have hc' := hI'.at_ hk1'
        by_cases he : e[j] = e'[j]
        · have HT : Hid (∀ x (h : x < e.length) (h' : x < e'.length), x < j + 1 → e[x] = e'[x]) := fun x h1 h2 hx => by
            rcases (show x < j ∨ x = j by omega) with h3 | rfl
            · exact hall.out x h1 h2 h3
            · exact he
          have he' : (e[j] != e'[j]) = false := by simp [he]
          clear he
          go_wp2
          go_quiet (fail)
          go_wp2
          go_roundw
          case rel => exact ⟨j + 1, by omega, by go_num, ⟨_, by first | rfl | (simp only [World.drewN_drewN]; rfl)⟩, HT⟩
          case measure => simp [intOf]; omega
        · have he' : (e[j] != e'[j]) = true := by simp [he]
          have hne : (decide (e = e')) = false := by
            simp; rintro rfl; exact he rfl
          have HN := Lib.hid hne
          clear he hne
          go_wp2
          go_quiet (fail)
          go_wp2
          go_ret
          exact ⟨ret_bool HN.out.symm, (by repeat (first | exact Below.refl _ _ | assumption | refine Below.drew ?_ | refine bdrewN ?_ _ | refine Below.alloc ?_ (by first | omega | (simp; done) | (simp; omega) | exact Below.size (by assumption)) _ | refine Below.setCell ?_ (by first | omega | (simp; done) | (simp; omega)) _ | refine bstep ?_ (by assumption)))⟩
      · go_wp2
        go_ret
        have : e = e' := eq_prefix_none hall.out (by rw [hl.out, hl'.out]) (by rw [hl.out]; omega)
        exact ⟨ret_bool (by simp [this]), (by repeat (first | exact Below.refl _ _ | assumption | refine Below.drew ?_ | refine bdrewN ?_ _ | refine Below.alloc ?_ (by first | omega | (simp; done) | (simp; omega) | exact Below.size (by assumption)) _ | refine Below.setCell ?_ (by first | omega | (simp; done) | (simp; omega)) _ | refine bstep ?_ (by assumption)))⟩
  · have h1 : ((n : Int) != (n' : Int)) = true := by simp; omega
    have hne : (decide (e = e')) = false := by
      simp; rintro rfl; exact hne (hl.out.symm.trans hl'.out)
    have HN := Lib.hid hne
    clear hne
    skip
    go_enter Try.func52, Try.ntmps52
    go_wp2_with fail
    go_ret
    exact ⟨ret_bool HN.out.symm, (by repeat (first | exact Below.refl _ _ | assumption | refine Below.drew ?_ | refine bdrewN ?_ _ | refine Below.alloc ?_ (by first | omega | (simp; done) | (simp; omega) | exact Below.size (by assumption)) _ | refine Below.setCell ?_ (by first | omega | (simp; done) | (simp; omega)) _ | refine bstep ?_ (by assumption)))⟩
end Go.Proofs.Ytibnaangfdohiaa
