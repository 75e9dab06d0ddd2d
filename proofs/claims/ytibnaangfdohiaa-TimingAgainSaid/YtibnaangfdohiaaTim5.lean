/- The walks through timing.Sample and the reference's Sample. -/
import Derived.Test.YtibnaangfdohiaaTim2
namespace Go.Proofs.Ytibnaangfdohiaa
open Go.RowKit

theorem samp_bd {e c : List Int} {N : Int} (V : validHP e c) (h2 : N < tot c) {j : Nat} (hj : j < c.length) (hk3 : j + 1 < e.length) (hall : ∀ x, x < j → pre c (x + 1) ≤ N) (h0 : 0 ≤ N) :
    0 ≤ N - pre c j ∧ N - pre c j ≤ 26214400 := by
  have ht := tot_bd V.small
  have hp := pre_bd V.small j (by omega)
  refine ⟨?_, by omega⟩
  rcases (show j = 0 ∨ 0 < j by omega) with rfl | h
  · rw [pre_zero]; omega
  · have := hall (j - 1) (by omega)
    rw [show j - 1 + 1 = j by omega] at this
    omega
theorem edge_step {e c : List Int} (V : validHP e c) {j : Nat} (h : j + 1 < e.length) : 0 ≤ e[j] ∧ e[j] < e[j + 1] ∧ e[j + 1] ≤ 1073741824 :=
  ⟨(V.1.2.2.1 j (by omega)).1, V.1.2.2.2 j h, (V.1.2.2.1 (j + 1) h).2⟩

set_option maxRecDepth 100000 in
set_option maxHeartbeats 2000000 in
theorem rsample_any (A A' : Option Addr) (n k n' k' : Nat) (e c : List Int) (N : Int) (w : World) (h : Ints w A n e) (h' : Ints w A' n' c) (V : validHP e c) (h0 : 0 ≤ N) (hN : N < tot c) :
    Calls Try.prog 19 #[.agg #[.slice A n k, .slice A' n' k'], .int .i64 N] w fun r w' => r = .returned (.int .i64 (sampV e c N)) ∧ Below w.heap.size w w' := by
  have hn := h.len
  have hn' := h'.len
  have HL := Lib.hid h.1
  have HL' := Lib.hid h'.1
  have hsm := V.small
  have hnn : n' + 1 = n := by have := V.2.1; rw [HL.out, HL'.out] at this; exact this
  have hn20 : n ≤ 20 := by have := V.1.2.1; rw [HL.out] at this; exact this
  have hn2 : 2 ≤ n := by have := V.1.1; rw [HL.out] at this; exact this
  obtain ⟨b, off, rfl⟩ := h.open1 (by omega)
  obtain ⟨b', off', rfl⟩ := h'.open1 (by omega)
  have HV := Lib.hid V
  clear V hsm
  obtain ⟨w1, hw1⟩ : ∃ w1, w1 = w.alloc (.cells #[.slice (some ⟨b, off, none⟩) n k, .slice (some ⟨b', off', none⟩) n' k'] 24) := ⟨_, rfl⟩
  have hB : Below w.heap.size w w1 := by rw [hw1]; exact (by repeat (first | exact Below.refl _ _ | assumption | refine Below.drew ?_ | refine bdrewN ?_ _ | refine Below.alloc ?_ (by first | omega | (simp; done) | (simp; omega) | exact Below.size (by assumption)) _ | refine Below.setCell ?_ (by first | omega | (simp; done) | (simp; omega)) _ | refine bstep ?_ (by assumption)))
  have hI := h.below mono_int hB
  have hI' := h'.below mono_int hB
  have q0 : w1.cell? ⟨w.heap.size, 0, none⟩ = some (.slice (some ⟨b, off, none⟩) n k) := by rw [hw1]; simp
  have q1 : w1.cell? ⟨w.heap.size, 1, none⟩ = some (.slice (some ⟨b', off', none⟩) n' k') := by rw [hw1]; simp
  have HW := Lib.hid hw1
  clear hw1
  go_enter Try.func19, Try.ntmps19
  go_wp2
  rw [← HW.out]
  go_loop [1, 5] (fun s i => ∃ j : Nat, j < n' ∧ i = .int .i64 j ∧ s = .int .i64 (N - pre c j) ∧ Hid (∀ x, x < j → pre c (x + 1) ≤ N)) (fun _ i => n' - (intOf i).toNat)
  case atStart => exact ⟨0, by omega, rfl, by rw [pre_zero]; simp, fun x hx => absurd hx (by omega)⟩
  case round =>
    obtain ⟨j, hj, rfl, rfl, hall⟩ := hrel
    have hk1 : j < c.length := by rw [HL'.out]; exact hj
    have hk2 : j < e.length := by rw [HL.out]; omega
    have hk3 : j + 1 < e.length := by rw [HL.out]; omega
    have hc := hI'.at_ hk1
    have hc2 := hI.at_ hk2
    have hc3 := hI.at_ hk3
    have hbd := samp_bd HV.out hN hk1 hk3 hall.out h0
    have hcj := HV.out.small.at_ hk1
    have HP := Lib.hid (pre_succ hk1)
    by_cases hlt : c[j] ≤ N - pre c j
    · have HT : Hid (∀ x, x < j + 1 → pre c (x + 1) ≤ N) := fun x hx => by
        rcases (show x < j ∨ x = j by omega) with h3 | rfl
        · exact hall.out x h3
        · rw [HP.out]; omega
      have hlast : j + 1 < c.length := by
        rcases (show j + 1 < c.length ∨ c.length ≤ j + 1 by omega) with h1 | h1
        · exact h1
        · exfalso
          have := HT.out j (by omega)
          rw [pre_all h1] at this
          omega
      have hlast' : j + 1 < n' := by rw [← HL'.out]; exact hlast
      go_wp2
      go_round
      case rel => exact ⟨j + 1, hlast', by go_num, by rw [HP.out]; congr 1; omega, HT⟩
      case measure => simp [intOf]; omega
    · have HR := Lib.hid (sampV_eq (n := N) HV.out.2.1 hk1 hall.out (by rw [HP.out]; omega))
      have hed := edge_step HV.out hk3
      have hmm := mul_bd hbd.1 hbd.2 (show 0 ≤ e[j + 1] - e[j] by omega) (show e[j + 1] - e[j] ≤ 1073741824 by omega)
      have hcp : 1 ≤ c[j] := by omega
      have hq1 : 0 ≤ (N - pre c j) * (e[j + 1] - e[j]) / c[j] := Int.ediv_nonneg hmm.1 (by omega)
      have hq2 : (N - pre c j) * (e[j + 1] - e[j]) / c[j] ≤ (N - pre c j) * (e[j + 1] - e[j]) := Int.ediv_le_self _ hmm.1
      go_wp2
      go_region
      go_wp2
      go_ret
      exact ⟨ret_int HR.out.symm, (by repeat (first | exact Below.refl _ _ | assumption | refine Below.drew ?_ | refine bdrewN ?_ _ | refine Below.alloc ?_ (by first | omega | (simp; done) | (simp; omega) | exact Below.size (by assumption)) _ | refine Below.setCell ?_ (by first | omega | (simp; done) | (simp; omega)) _ | refine bstep ?_ (by assumption)))⟩

end Go.Proofs.Ytibnaangfdohiaa
