/- The walk through timing.Sample. -/
import Derived.Test.YtibnaangfdohiaaTim5
namespace Go.Proofs.Ytibnaangfdohiaa
open Go.RowKit

/-- Two results, two numbers. -/
def RetTwo (r : Int × Int) (w : World) (e : Ending) (w' : World) : Prop := e = .returned (.tuple #[.int .i64 r.1, .int .i64 r.2]) ∧ Below w.heap.size w w'

set_option maxRecDepth 100000 in
set_option maxHeartbeats 2000000 in
theorem sample_any (A A' : Option Addr) (n k n' k' : Nat) (e c : List Int) (N : Int) (w : World) (h : Ints w A n e) (h' : Ints w A' n' c) :
    Calls Try.prog 16 #[.agg #[.slice A n k, .slice A' n' k'], .int .i64 N] w (RetTwo (sampR e c N) w) := by
  have hn := h.len
  have hn' := h'.len
  have HL := Lib.hid h.1
  have HL' := Lib.hid h'.1
  have hv := Lib.hid fun (w1 : World) (hb : Below w.heap.size w w1) => tvalid_any A A' n k n' k' e c w1 (h.below mono_int hb) (h'.below mono_int hb)
  by_cases v1 : validH e c = true
  · have V := validH_iff.1 v1
    have hsm := V.small
    have ht := Lib.hid fun (w1 : World) (hb : Below w.heap.size w w1) => total_any A A' n k n' k' c w1 (h'.below mono_int hb) hsm
    have hnn : n' + 1 = n := by have := V.2.1; rw [HL.out, HL'.out] at this; exact this
    have hn20 : n ≤ 20 := by have := V.1.2.1; rw [HL.out] at this; exact this
    have hn2 : 2 ≤ n := by have := V.1.1; rw [HL.out] at this; exact this
    obtain ⟨b, off, rfl⟩ := h.open1 (by omega)
    obtain ⟨b', off', rfl⟩ := h'.open1 (by omega)
    have HV := Lib.hid V
    clear V hsm
    by_cases h0 : N < 0
    · have HR := Lib.hid (sampR_range v1 (.inl h0))
      go_enter Try.func16, Try.ntmps16
      go_wp2_with fail
      refine (hv.out _ (by repeat (first | exact Below.refl _ _ | assumption | refine Below.drew ?_ | refine bdrewN ?_ _ | refine Below.alloc ?_ (by first | omega | (simp; done) | (simp; omega) | exact Below.size (by assumption)) _ | refine Below.setCell ?_ (by first | omega | (simp; done) | (simp; omega)) _ | refine bstep ?_ (by assumption)))).mono ?_
      rintro e w1 ⟨rfl, hb1⟩
      have hz1 := hb1.size
      try simp at hz1
      obtain ⟨hc1_w, hf1_w⟩ := bcellm (M := w.heap.size + 1) hb1 (by first | omega | (simp; done) | (simp; omega))
      have hl1_w0 : w.heap.size < w1.heap.size := by omega
      rw [v1]
      go_wp2_with fail
      go_ret2
      exact ⟨by rw [HR.out]; rfl, (by repeat (first | exact Below.refl _ _ | assumption | refine Below.drew ?_ | refine bdrewN ?_ _ | refine Below.alloc ?_ (by first | omega | (simp; done) | (simp; omega) | exact Below.size (by assumption)) _ | refine Below.setCell ?_ (by first | omega | (simp; done) | (simp; omega)) _ | refine bstep ?_ (by assumption)))⟩
    by_cases hN : tot c ≤ N
    · have HR := Lib.hid (sampR_range v1 (.inr hN))
      go_enter Try.func16, Try.ntmps16
      go_wp2_with fail
      refine (hv.out _ (by repeat (first | exact Below.refl _ _ | assumption | refine Below.drew ?_ | refine bdrewN ?_ _ | refine Below.alloc ?_ (by first | omega | (simp; done) | (simp; omega) | exact Below.size (by assumption)) _ | refine Below.setCell ?_ (by first | omega | (simp; done) | (simp; omega)) _ | refine bstep ?_ (by assumption)))).mono ?_
      rintro e w1 ⟨rfl, hb1⟩
      have hz1 := hb1.size
      try simp at hz1
      obtain ⟨hc1_w, hf1_w⟩ := bcellm (M := w.heap.size + 1) hb1 (by first | omega | (simp; done) | (simp; omega))
      have hl1_w0 : w.heap.size < w1.heap.size := by omega
      rw [v1]
      go_wp2_with fail
      refine (ht.out _ (by repeat (first | exact Below.refl _ _ | assumption | refine Below.drew ?_ | refine bdrewN ?_ _ | refine Below.alloc ?_ (by first | omega | (simp; done) | (simp; omega) | exact Below.size (by assumption)) _ | refine Below.setCell ?_ (by first | omega | (simp; done) | (simp; omega)) _ | refine bstep ?_ (by assumption)))).mono ?_
      rintro e w2 ⟨rfl, hb2⟩
      have hz2 := hb2.size
      try simp at hz2
      obtain ⟨hc2_w, hf2_w⟩ := bcellm (M := w.heap.size + 1) hb2 (by first | omega | (simp; done) | (simp; omega))
      have hl2_w0 : w.heap.size < w2.heap.size := by omega
      go_wp2_with fail
      go_ret2
      exact ⟨by rw [HR.out]; rfl, (by repeat (first | exact Below.refl _ _ | assumption | refine Below.drew ?_ | refine bdrewN ?_ _ | refine Below.alloc ?_ (by first | omega | (simp; done) | (simp; omega) | exact Below.size (by assumption)) _ | refine Below.setCell ?_ (by first | omega | (simp; done) | (simp; omega)) _ | refine bstep ?_ (by assumption)))⟩
    have h0 : 0 ≤ N := by omega
    have hN : N < tot c := by omega
    have HS := Lib.hid (sampR_ok v1 h0 hN)
    go_enter Try.func16, Try.ntmps16
    go_wp2_with fail
    refine (hv.out _ (by repeat (first | exact Below.refl _ _ | assumption | refine Below.drew ?_ | refine bdrewN ?_ _ | refine Below.alloc ?_ (by first | omega | (simp; done) | (simp; omega) | exact Below.size (by assumption)) _ | refine Below.setCell ?_ (by first | omega | (simp; done) | (simp; omega)) _ | refine bstep ?_ (by assumption)))).mono ?_
    rintro e w1 ⟨rfl, hb1⟩
    have hz1 := hb1.size
    try simp at hz1
    obtain ⟨hc1_w, hf1_w⟩ := bcellm (M := w.heap.size + 1) hb1 (by first | omega | (simp; done) | (simp; omega))
    have hl1_w0 : w.heap.size < w1.heap.size := by omega
    rw [v1]
    go_wp2_with fail
    refine (ht.out _ (by repeat (first | exact Below.refl _ _ | assumption | refine Below.drew ?_ | refine bdrewN ?_ _ | refine Below.alloc ?_ (by first | omega | (simp; done) | (simp; omega) | exact Below.size (by assumption)) _ | refine Below.setCell ?_ (by first | omega | (simp; done) | (simp; omega)) _ | refine bstep ?_ (by assumption)))).mono ?_
    rintro e w2 ⟨rfl, hb2⟩
    have hz2 := hb2.size
    try simp at hz2
    obtain ⟨hc2_w, hf2_w⟩ := bcellm (M := w.heap.size + 1) hb2 (by first | omega | (simp; done) | (simp; omega))
    have hl2_w0 : w.heap.size < w2.heap.size := by omega
    have hI := h.below mono_int (w' := w2) (by repeat (first | exact Below.refl _ _ | assumption | refine Below.drew ?_ | refine bdrewN ?_ _ | refine Below.alloc ?_ (by first | omega | (simp; done) | (simp; omega) | exact Below.size (by assumption)) _ | refine Below.setCell ?_ (by first | omega | (simp; done) | (simp; omega)) _ | refine bstep ?_ (by assumption)))
    have hI' := h'.below mono_int (w' := w2) (by repeat (first | exact Below.refl _ _ | assumption | refine Below.drew ?_ | refine bdrewN ?_ _ | refine Below.alloc ?_ (by first | omega | (simp; done) | (simp; omega) | exact Below.size (by assumption)) _ | refine Below.setCell ?_ (by first | omega | (simp; done) | (simp; omega)) _ | refine bstep ?_ (by assumption)))
    clear hv ht
    go_wp2_with fail
    go_loop [1, 6] (fun s i => ∃ j : Nat, j < n' ∧ i = .int .i64 j ∧ s = .int .i64 (N - pre c j) ∧ Hid (∀ x, x < j → pre c (x + 1) ≤ N)) (fun _ i => n' - (intOf i).toNat)
    case atStart => exact ⟨0, by omega, rfl, by rw [pre_zero]; simp, fun x hx => absurd hx (by omega)⟩
    case round =>
      obtain ⟨j, hj, rfl, rfl, hall⟩ := hrel
      have hk1 : j < c.length := by rw [HL'.out]; exact hj
      have hk2 : j < e.length := by rw [HL.out]; omega
      have hk3 : j + 1 < e.length := by rw [HL.out]; omega
      have hc := hI'.at_ hk1
      have hc2 := hI.at_ hk2
      have hc3 := hI.at_ hk3
      have hbd := samp_bd HV.out hN hk1 hk3 hall.out h0
      have hcj := HV.out.small.at_ hk1
      have HP := Lib.hid (pre_succ hk1)
      by_cases hlt : c[j] ≤ N - pre c j
      · have HT : Hid (∀ x, x < j + 1 → pre c (x + 1) ≤ N) := fun x hx => by
          rcases (show x < j ∨ x = j by omega) with h3 | rfl
          · exact hall.out x h3
          · rw [HP.out]; omega
        have hlast : j + 1 < c.length := by
          rcases (show j + 1 < c.length ∨ c.length ≤ j + 1 by omega) with h1 | h1
          · exact h1
          · exfalso
            have := HT.out j (by omega)
            rw [pre_all h1] at this
            omega
        have hlast' : j + 1 < n' := by rw [← HL'.out]; exact hlast
        go_wp2
        go_round
        case rel => exact ⟨j + 1, hlast', by go_num, by rw [HP.out]; congr 1; omega, HT⟩
        case measure => simp [intOf]; omega
      · have HR := Lib.hid (sampV_eq (n := N) HV.out.2.1 hk1 hall.out (by rw [HP.out]; omega))
        have hed := edge_step HV.out hk3
        have hmm := mul_bd hbd.1 hbd.2 (show 0 ≤ e[j + 1] - e[j] by omega) (show e[j + 1] - e[j] ≤ 1073741824 by omega)
        have hcp : 1 ≤ c[j] := by omega
        have hq1 : 0 ≤ (N - pre c j) * (e[j + 1] - e[j]) / c[j] := Int.ediv_nonneg hmm.1 (by omega)
        have hq2 : (N - pre c j) * (e[j + 1] - e[j]) / c[j] ≤ (N - pre c j) * (e[j + 1] - e[j]) := Int.ediv_le_self _ hmm.1
        go_wp2
        go_region
        go_wp2
        go_ret2
        exact ⟨by rw [HS.out, HR.out]; rfl, (by repeat (first | exact Below.refl _ _ | assumption | refine Below.drew ?_ | refine bdrewN ?_ _ | refine Below.alloc ?_ (by first | omega | (simp; done) | (simp; omega) | exact Below.size (by assumption)) _ | refine Below.setCell ?_ (by first | omega | (simp; done) | (simp; omega)) _ | refine bstep ?_ (by assumption)))⟩
  · have v1 : validH e c = false := by simpa using v1
    have HR := Lib.hid (sampR_arg (n := N) v1)
    go_enter Try.func16, Try.ntmps16
    go_wp2_with fail
    refine (hv.out _ (by repeat (first | exact Below.refl _ _ | assumption | refine Below.drew ?_ | refine bdrewN ?_ _ | refine Below.alloc ?_ (by first | omega | (simp; done) | (simp; omega) | exact Below.size (by assumption)) _ | refine Below.setCell ?_ (by first | omega | (simp; done) | (simp; omega)) _ | refine bstep ?_ (by assumption)))).mono ?_
    rintro e w1 ⟨rfl, hb1⟩
    have hz1 := hb1.size
    try simp at hz1
    obtain ⟨hc1_w, hf1_w⟩ := bcellm (M := w.heap.size + 1) hb1 (by first | omega | (simp; done) | (simp; omega))
    have hl1_w0 : w.heap.size < w1.heap.size := by omega
    rw [v1]
    go_wp2_with fail
    go_ret2
    exact ⟨by rw [HR.out]; rfl, (by repeat (first | exact Below.refl _ _ | assumption | refine Below.drew ?_ | refine bdrewN ?_ _ | refine Below.alloc ?_ (by first | omega | (simp; done) | (simp; omega) | exact Below.size (by assumption)) _ | refine Below.setCell ?_ (by first | omega | (simp; done) | (simp; omega)) _ | refine bstep ?_ (by assumption)))⟩
end Go.Proofs.Ytibnaangfdohiaa
