/- The walk through the reference's Quantile. -/
import Derived.Test.YtibnaangfdohiaaTim2
import Derived.Test.YtibnaangfdohiaaFracS
import Derived.Deep.RegionHeld3
namespace Go.Proofs.Ytibnaangfdohiaa
open Go.RowKit

set_option maxRecDepth 100000 in
set_option maxHeartbeats 2000000 in
theorem rquantile_any (A A' : Option Addr) (n k n' k' : Nat) (e c : List Int) (num den : Int) (w : World) (h : Ints w A n e) (h' : Ints w A' n' c) :
    Calls Try.prog 15 #[.agg #[.slice A n k, .slice A' n' k'], .agg #[.int .i64 num, .int .i64 den]] w (RetFrac (quantR e c num den) w) := by
  have hn := h.len
  have hn' := h'.len
  have HL := Lib.hid h.1
  have HL' := Lib.hid h'.1
  have hv := Lib.hid fun (w1 : World) (hb : Below w.heap.size w w1) => rvalid_any A A' n k n' k' e c w1 (h.below mono_int hb) (h'.below mono_int hb)
  by_cases v1 : validH e c = true
  · by_cases v2 : validF num den = true
    · have V := validH_iff.1 v1
      have F := validF_iff.1 v2
      have hsm := V.small
      have ht := Lib.hid fun (w1 : World) (hb : Below w.heap.size w w1) => rtotal_any A A' n k n' k' c w1 (h'.below mono_int hb) hsm
      have hnn : n' + 1 = n := by have := V.2.1; rw [HL.out, HL'.out] at this; exact this
      have hn20 : n ≤ 20 := by have := V.1.2.1; rw [HL.out] at this; exact this
      have hn2 : 2 ≤ n := by have := V.1.1; rw [HL.out] at this; exact this
      obtain ⟨b, off, rfl⟩ := h.open1 (by omega)
      obtain ⟨b', off', rfl⟩ := h'.open1 (by omega)
      by_cases hr : num < 1
      · have HR := Lib.hid (quantR_range v1 v2 (.inl hr))
        go_enter Try.func15, Try.ntmps15
        go_wp2_with fail
        refine (hv.out _ (by repeat (first | exact Below.refl _ _ | assumption | refine Below.drew ?_ | refine bdrewN ?_ _ | refine Below.alloc ?_ (by first | omega | (simp; done) | (simp; omega)) _ | refine Below.setCell ?_ (by first | omega | (simp; done) | (simp; omega)) _ | refine bstep ?_ (by assumption)))).mono ?_
        rintro e w1 ⟨rfl, hb1⟩
        have hz1 := hb1.size
        try simp at hz1
        obtain ⟨hc1_w, hf1_w⟩ := bcellm (M := w.heap.size + 3) hb1 (by first | omega | (simp; done) | (simp; omega))
        have hl1_w0 : w.heap.size < w1.heap.size := by omega
        have hl1_w1 : w.heap.size + 1 < w1.heap.size := by omega
        have hl1_w2 : w.heap.size + 2 < w1.heap.size := by omega
        rw [v1]
        go_wp2_with fail
        refine (rvalid01_any num den _).mono ?_
        rintro e w2 ⟨rfl, hb2⟩
        have hz2 := hb2.size
        try simp at hz2
        obtain ⟨hc2_w, hf2_w⟩ := bcellm (M := w.heap.size + 3) hb2 (by first | omega | (simp; done) | (simp; omega))
        have hl2_w0 : w.heap.size < w2.heap.size := by omega
        have hl2_w1 : w.heap.size + 1 < w2.heap.size := by omega
        have hl2_w2 : w.heap.size + 2 < w2.heap.size := by omega
        rw [v2]
        go_wp2_with fail
        refine bodyPost_ret (v := .tuple #[.agg #[.int .i64 0, .int .i64 0], .int .i64 2]) (by simp [results, Try.results15, go_sem, *]) rfl ?_
        exact ⟨by rw [HR.out], (by repeat (first | exact Below.refl _ _ | assumption | refine Below.drew ?_ | refine bdrewN ?_ _ | refine Below.alloc ?_ (by first | omega | (simp; done) | (simp; omega)) _ | refine Below.setCell ?_ (by first | omega | (simp; done) | (simp; omega)) _ | refine bstep ?_ (by assumption)))⟩
      by_cases hr2 : den < num
      · have HR := Lib.hid (quantR_range v1 v2 (.inr hr2))
        go_enter Try.func15, Try.ntmps15
        go_wp2_with fail
        refine (hv.out _ (by repeat (first | exact Below.refl _ _ | assumption | refine Below.drew ?_ | refine bdrewN ?_ _ | refine Below.alloc ?_ (by first | omega | (simp; done) | (simp; omega)) _ | refine Below.setCell ?_ (by first | omega | (simp; done) | (simp; omega)) _ | refine bstep ?_ (by assumption)))).mono ?_
        rintro e w1 ⟨rfl, hb1⟩
        have hz1 := hb1.size
        try simp at hz1
        obtain ⟨hc1_w, hf1_w⟩ := bcellm (M := w.heap.size + 3) hb1 (by first | omega | (simp; done) | (simp; omega))
        have hl1_w0 : w.heap.size < w1.heap.size := by omega
        have hl1_w1 : w.heap.size + 1 < w1.heap.size := by omega
        have hl1_w2 : w.heap.size + 2 < w1.heap.size := by omega
        rw [v1]
        go_wp2_with fail
        refine (rvalid01_any num den _).mono ?_
        rintro e w2 ⟨rfl, hb2⟩
        have hz2 := hb2.size
        try simp at hz2
        obtain ⟨hc2_w, hf2_w⟩ := bcellm (M := w.heap.size + 3) hb2 (by first | omega | (simp; done) | (simp; omega))
        have hl2_w0 : w.heap.size < w2.heap.size := by omega
        have hl2_w1 : w.heap.size + 1 < w2.heap.size := by omega
        have hl2_w2 : w.heap.size + 2 < w2.heap.size := by omega
        rw [v2]
        go_wp2_with fail
        refine bodyPost_ret (v := .tuple #[.agg #[.int .i64 0, .int .i64 0], .int .i64 2]) (by simp [results, Try.results15, go_sem, *]) rfl ?_
        exact ⟨by rw [HR.out], (by repeat (first | exact Below.refl _ _ | assumption | refine Below.drew ?_ | refine bdrewN ?_ _ | refine Below.alloc ?_ (by first | omega | (simp; done) | (simp; omega)) _ | refine Below.setCell ?_ (by first | omega | (simp; done) | (simp; omega)) _ | refine bstep ?_ (by assumption)))⟩
      by_cases hz : tot c = 0
      · have HR := Lib.hid (quantR_none v1 v2 (by omega) (by omega) hz)
        have hz' : (tot c == 0) = true := by simp [hz]
        clear hz
        go_enter Try.func15, Try.ntmps15
        go_wp2_with fail
        refine (hv.out _ (by repeat (first | exact Below.refl _ _ | assumption | refine Below.drew ?_ | refine bdrewN ?_ _ | refine Below.alloc ?_ (by first | omega | (simp; done) | (simp; omega)) _ | refine Below.setCell ?_ (by first | omega | (simp; done) | (simp; omega)) _ | refine bstep ?_ (by assumption)))).mono ?_
        rintro e w1 ⟨rfl, hb1⟩
        have hz1 := hb1.size
        try simp at hz1
        obtain ⟨hc1_w, hf1_w⟩ := bcellm (M := w.heap.size + 3) hb1 (by first | omega | (simp; done) | (simp; omega))
        have hl1_w0 : w.heap.size < w1.heap.size := by omega
        have hl1_w1 : w.heap.size + 1 < w1.heap.size := by omega
        have hl1_w2 : w.heap.size + 2 < w1.heap.size := by omega
        rw [v1]
        go_wp2_with fail
        refine (rvalid01_any num den _).mono ?_
        rintro e w2 ⟨rfl, hb2⟩
        have hz2 := hb2.size
        try simp at hz2
        obtain ⟨hc2_w, hf2_w⟩ := bcellm (M := w.heap.size + 3) hb2 (by first | omega | (simp; done) | (simp; omega))
        have hl2_w0 : w.heap.size < w2.heap.size := by omega
        have hl2_w1 : w.heap.size + 1 < w2.heap.size := by omega
        have hl2_w2 : w.heap.size + 2 < w2.heap.size := by omega
        rw [v2]
        go_wp2_with fail
        refine (ht.out _ (by repeat (first | exact Below.refl _ _ | assumption | refine Below.drew ?_ | refine bdrewN ?_ _ | refine Below.alloc ?_ (by first | omega | (simp; done) | (simp; omega)) _ | refine Below.setCell ?_ (by first | omega | (simp; done) | (simp; omega)) _ | refine bstep ?_ (by assumption)))).mono ?_
        rintro e w3 ⟨rfl, hb3⟩
        have hz3 := hb3.size
        try simp at hz3
        obtain ⟨hc3_w, hf3_w⟩ := bcellm (M := w.heap.size + 3) hb3 (by first | omega | (simp; done) | (simp; omega))
        have hl3_w0 : w.heap.size < w3.heap.size := by omega
        have hl3_w1 : w.heap.size + 1 < w3.heap.size := by omega
        have hl3_w2 : w.heap.size + 2 < w3.heap.size := by omega
        go_wp2_with fail
        refine bodyPost_ret (v := .tuple #[.agg #[.int .i64 0, .int .i64 0], .int .i64 10]) (by simp [results, Try.results15, go_sem, *]) rfl ?_
        exact ⟨by rw [HR.out], (by repeat (first | exact Below.refl _ _ | assumption | refine Below.drew ?_ | refine bdrewN ?_ _ | refine Below.alloc ?_ (by first | omega | (simp; done) | (simp; omega)) _ | refine Below.setCell ?_ (by first | omega | (simp; done) | (simp; omega)) _ | refine bstep ?_ (by assumption)))⟩
      have hok := Lib.hid fun (j : Nat) (hj : j + 1 < e.length) hp hq => quantR_ok v1 v2 (by omega) (by omega) hz (j := j) hj hp hq
      have hz' : (tot c == 0) = false := by simp [hz]
      have hb := tot_bd hsm
      have hm := mul_bd (a := num) (A := 1073741824) (by omega) F.2.1 hb.1 hb.2
      have HS := Lib.hid hsm
      have hd1 : 1 ≤ den := by omega
      have hd2 : den ≤ 1073741824 := F.2.2.2.1
      have w2' : IntKind.i64.wrap (num * tot c) = num * tot c := IntWalk.i64_in _ ⟨by omega, by omega⟩
      clear hz hb V F hsm
      have hc0 : 0 < c.length := by rw [HL'.out]; omega
      go_enter Try.func15, Try.ntmps15
      go_wp2_with fail
      refine (hv.out _ (by repeat (first | exact Below.refl _ _ | assumption | refine Below.drew ?_ | refine bdrewN ?_ _ | refine Below.alloc ?_ (by first | omega | (simp; done) | (simp; omega)) _ | refine Below.setCell ?_ (by first | omega | (simp; done) | (simp; omega)) _ | refine bstep ?_ (by assumption)))).mono ?_
      rintro e w1 ⟨rfl, hb1⟩
      have hz1 := hb1.size
      try simp at hz1
      obtain ⟨hc1_w, hf1_w⟩ := bcellm (M := w.heap.size + 3) hb1 (by first | omega | (simp; done) | (simp; omega))
      have hl1_w0 : w.heap.size < w1.heap.size := by omega
      have hl1_w1 : w.heap.size + 1 < w1.heap.size := by omega
      have hl1_w2 : w.heap.size + 2 < w1.heap.size := by omega
      rw [v1]
      go_wp2_with fail
      refine (rvalid01_any num den _).mono ?_
      rintro e w2 ⟨rfl, hb2⟩
      have hz2 := hb2.size
      try simp at hz2
      obtain ⟨hc2_w, hf2_w⟩ := bcellm (M := w.heap.size + 3) hb2 (by first | omega | (simp; done) | (simp; omega))
      have hl2_w0 : w.heap.size < w2.heap.size := by omega
      have hl2_w1 : w.heap.size + 1 < w2.heap.size := by omega
      have hl2_w2 : w.heap.size + 2 < w2.heap.size := by omega
      rw [v2]
      go_wp2_with fail
      refine (ht.out _ (by repeat (first | exact Below.refl _ _ | assumption | refine Below.drew ?_ | refine bdrewN ?_ _ | refine Below.alloc ?_ (by first | omega | (simp; done) | (simp; omega)) _ | refine Below.setCell ?_ (by first | omega | (simp; done) | (simp; omega)) _ | refine bstep ?_ (by assumption)))).mono ?_
      rintro e w3 ⟨rfl, hb3⟩
      have hz3 := hb3.size
      try simp at hz3
      obtain ⟨hc3_w, hf3_w⟩ := bcellm (M := w.heap.size + 3) hb3 (by first | omega | (simp; done) | (simp; omega))
      have hl3_w0 : w.heap.size < w3.heap.size := by omega
      have hl3_w1 : w.heap.size + 1 < w3.heap.size := by omega
      have hl3_w2 : w.heap.size + 2 < w3.heap.size := by omega
      clear hv
      have hI := h.below mono_int (w' := w3) (by repeat (first | exact Below.refl _ _ | assumption | refine Below.drew ?_ | refine bdrewN ?_ _ | refine Below.alloc ?_ (by first | omega | (simp; done) | (simp; omega)) _ | refine Below.setCell ?_ (by first | omega | (simp; done) | (simp; omega)) _ | refine bstep ?_ (by assumption)))
      have hI' := h'.below mono_int (w' := w3) (by repeat (first | exact Below.refl _ _ | assumption | refine Below.drew ?_ | refine bdrewN ?_ _ | refine Below.alloc ?_ (by first | omega | (simp; done) | (simp; omega)) _ | refine Below.setCell ?_ (by first | omega | (simp; done) | (simp; omega)) _ | refine bstep ?_ (by assumption)))
      have hB3 : Below w.heap.size w w3 := (by repeat (first | exact Below.refl _ _ | assumption | refine Below.drew ?_ | refine bdrewN ?_ _ | refine Below.alloc ?_ (by first | omega | (simp; done) | (simp; omega)) _ | refine Below.setCell ?_ (by first | omega | (simp; done) | (simp; omega)) _ | refine bstep ?_ (by assumption)))
      have hcc : w3.cell? ⟨b', off', none⟩ = some (.int .i64 c[0]) := by simpa using hI'.at_ hc0
      have hlen0 : (0 : Int) < (n' : Int) := by omega
      have q0 : w3.cell? ⟨w.heap.size, 0, none⟩ = some (.slice (some ⟨b, off, none⟩) n k) := by simp [go_sem, *]
      have q1 : w3.cell? ⟨w.heap.size, 1, none⟩ = some (.slice (some ⟨b', off', none⟩) n' k') := by simp [go_sem, *]
      have q2 : w3.cell? ⟨w.heap.size + 1, 0, none⟩ = some (.int .i64 num) := by simp [go_sem, *]
      have q3 : w3.cell? ⟨w.heap.size + 1, 1, none⟩ = some (.int .i64 den) := by simp [go_sem, *]
      have q4 : w3.cell? ⟨w.heap.size + 2, 0, none⟩ = some (.int .i64 0) := by simp [go_sem, *]
      have q5 : w3.cell? ⟨w.heap.size + 2, 1, none⟩ = some (.int .i64 0) := by simp [go_sem, *]
      have q6 : w3.frozen? ⟨w.heap.size + 2, 0, none⟩ = false := by simp [go_sem, *]
      have q7 : w3.frozen? ⟨w.heap.size + 2, 1, none⟩ = false := by simp [go_sem, *]
      have z3 : w.heap.size + 3 ≤ w3.heap.size := by omega
      clear hb1 hz1 hc1_w hf1_w hl1_w0 hl1_w1 hl1_w2 hb2 hz2 hc2_w hf2_w hl2_w0 hl2_w1 hl2_w2 hb3 hz3 hc3_w hf3_w
      go_wp2_with fail
      go_loopw [6, 7] (fun s i wr => ∃ j : Nat, j < n' ∧ i = .int .i64 j ∧ s = .int .i64 (pre c (j + 1)) ∧ Hid (∀ x, x < j → pre c (x + 1) * den < num * tot c) ∧ Below w3.heap.size w3 wr) (fun _ i _ => n' - (intOf i).toNat)
      case atStart => exact ⟨0, by omega, rfl, by rw [pre_succ hc0, pre_zero]; simp, fun x hx => absurd hx (by omega), Below.refl _ _⟩
      case round =>
        obtain ⟨j, hj, rfl, rfl, hall, hbr⟩ := hrel
        have hk1 : j < c.length := by rw [HL'.out]; exact hj
        have hk2 : j < e.length := by rw [HL.out]; omega
        have hk3 : j + 1 < e.length := by rw [HL.out]; omega
        have hp := pre_bd HS.out (j + 1) (by omega)
        have hmm := mul_bd (a := pre c (j + 1)) (A := 26214400) (by omega) (by omega) (show 0 ≤ den by omega) hd2
        have w1' : IntKind.i64.wrap (pre c (j + 1) * den) = pre c (j + 1) * den := IntWalk.i64_in _ ⟨by omega, by omega⟩
        have r0 := Below.cell_some hbr q0
        have r1 := Below.cell_some hbr q1
        have r2 := Below.cell_some hbr q2
        have r3 := Below.cell_some hbr q3
        by_cases hlt : pre c (j + 1) * den < num * tot c
        · have hd : decide (pre c (j + 1) * den < num * tot c) = true := by simpa using hlt
          have hlast : j + 1 < c.length := by
            rcases (show j + 1 < c.length ∨ j + 1 = c.length by omega) with h1 | h1
            · exact h1
            · exfalso
              rw [pre_all (by omega), Int.mul_comm (tot c)] at hlt
              have := Int.mul_le_mul_of_nonneg_right hr2 (tot_bd HS.out).1
              omega
          have hl1 : (j : Int) + 1 < (n' : Int) := by have := HL'.out; omega
          have HP := Lib.hid (pre_succ hlast)
          have hp2 := pre_bd HS.out (j + 2) (by omega)
          have hp3 : 0 ≤ pre c (j + 1) + c[j + 1] ∧ pre c (j + 1) + c[j + 1] ≤ 9223372036854775807 := by rw [HP.out] at hp2; omega
          have HT : Hid (∀ x, x < j + 1 → pre c (x + 1) * den < num * tot c) := fun x hx => by
            rcases (show x < j ∨ x = j by omega) with h3 | rfl
            · exact hall.out x h3
            · exact hlt
          clear hp2
          go_wp2_with fail
          go_region_held3 (fun w' => Below w3.heap.size w3 w' ∧ w'.cell? ⟨w.heap.size, 0, none⟩ = some (.slice (some ⟨b, off, none⟩) n k) ∧ w'.cell? ⟨w.heap.size, 1, none⟩ = some (.slice (some ⟨b', off', none⟩) n' k') ∧ w'.cell? ⟨w.heap.size + 1, 0, none⟩ = some (.int .i64 num) ∧ w'.cell? ⟨w.heap.size + 1, 1, none⟩ = some (.int .i64 den))
            (first | assumption | (refine ⟨?_, ?_, ?_, ?_, ?_⟩ <;> first | assumption | exact Below.drew hbr | exact Below.cell_some (by assumption) (by assumption)))
            ((go_at_call 18; refine (ht.out _ ?_).mono ?_; (exact bstep hB3 (by first | assumption | exact Below.drew (by assumption))); rintro e w' ⟨rfl, hbx⟩; have hby : Below w3.heap.size w3 w' := bstep (by first | exact Below.drew hbr | exact hbr) hbx; clear hbx))
          obtain ⟨_, s0, s1, s2, s3⟩ := ‹Below w3.heap.size w3 w' ∧ _›
          clear r0 r1 r2 r3 hbr
          have hIw := hI.below mono_int hby
          have hIw' := hI'.below mono_int hby
          have hcj := hIw'.at_ hlast
          go_wp2_with fail
          go_roundw
          case rel => exact ⟨j + 1, by omega, by go_num, by rw [HP.out], HT, hby⟩
          case measure => simp [intOf]; omega
        · have hd : decide (pre c (j + 1) * den < num * tot c) = false := by simpa using hlt
          have HR := Lib.hid (hok.out j hk3 hall.out (.inr (by omega)))
          go_wp2_with fail
          go_region_held3 (fun w' => Below w3.heap.size w3 w' ∧ w'.cell? ⟨w.heap.size, 0, none⟩ = some (.slice (some ⟨b, off, none⟩) n k) ∧ w'.cell? ⟨w.heap.size, 1, none⟩ = some (.slice (some ⟨b', off', none⟩) n' k') ∧ w'.cell? ⟨w.heap.size + 1, 0, none⟩ = some (.int .i64 num) ∧ w'.cell? ⟨w.heap.size + 1, 1, none⟩ = some (.int .i64 den))
            (first | assumption | (refine ⟨?_, ?_, ?_, ?_, ?_⟩ <;> first | assumption | exact Below.drew hbr | exact Below.cell_some (by assumption) (by assumption)))
            ((go_at_call 18; refine (ht.out _ ?_).mono ?_; (exact bstep hB3 (by first | assumption | exact Below.drew (by assumption))); rintro e w' ⟨rfl, hbx⟩; have hby : Below w3.heap.size w3 w' := bstep (by first | exact Below.drew hbr | exact hbr) hbx; clear hbx))
          obtain ⟨_, s0, s1, s2, s3⟩ := ‹Below w3.heap.size w3 w' ∧ _›
          clear r0 r1 r2 r3 hbr
          have hIw := hI.below mono_int hby
          have hIw' := hI'.below mono_int hby
          have hc2 := hIw.at_ hk2
          have hc3 := hIw.at_ hk3
          have s4 := Below.cell_some hby q4
          have s5 := Below.cell_some hby q5
          have s6 := (hby.frozen (p := ⟨w.heap.size + 2, 0, none⟩) (by simp; omega)).trans q6
          have s7 := (hby.frozen (p := ⟨w.heap.size + 2, 1, none⟩) (by simp; omega)).trans q7
          have hj1 : (j : Int) + 1 < (n : Int) := by omega
          clear q0 q1 q2 q3 q4 q5 q6 q7
          go_wp2_with fail
          go_region
          go_wp2_with fail
          refine bodyPost_ret (v := .tuple #[.agg #[.int .i64 e[j], .int .i64 e[j + 1]], .int .i64 0]) (by simp [results, Try.results15, go_sem, *]) rfl ?_
          exact ⟨by rw [HR.out], (by repeat (first | exact Below.refl _ _ | assumption | refine Below.drew ?_ | refine bdrewN ?_ _ | refine Below.alloc ?_ (by first | omega | (simp; done) | (simp; omega)) _ | refine Below.setCell ?_ (by first | omega | (simp; done) | (simp; omega)) _ | refine bstep ?_ (by assumption)))⟩
    · have v2 : validF num den = false := by simpa using v2
      have HR := Lib.hid (quantR_arg (e := e) (c := c) (.inr v2))
      go_enter Try.func15, Try.ntmps15
      go_wp2_with fail
      refine (hv.out _ (by repeat (first | exact Below.refl _ _ | assumption | refine Below.drew ?_ | refine bdrewN ?_ _ | refine Below.alloc ?_ (by first | omega | (simp; done) | (simp; omega)) _ | refine Below.setCell ?_ (by first | omega | (simp; done) | (simp; omega)) _ | refine bstep ?_ (by assumption)))).mono ?_
      rintro e w1 ⟨rfl, hb1⟩
      have hz1 := hb1.size
      try simp at hz1
      obtain ⟨hc1_w, hf1_w⟩ := bcellm (M := w.heap.size + 3) hb1 (by first | omega | (simp; done) | (simp; omega))
      have hl1_w0 : w.heap.size < w1.heap.size := by omega
      have hl1_w1 : w.heap.size + 1 < w1.heap.size := by omega
      have hl1_w2 : w.heap.size + 2 < w1.heap.size := by omega
      rw [v1]
      go_wp2_with fail
      refine (rvalid01_any num den _).mono ?_
      rintro e w2 ⟨rfl, hb2⟩
      have hz2 := hb2.size
      try simp at hz2
      obtain ⟨hc2_w, hf2_w⟩ := bcellm (M := w.heap.size + 3) hb2 (by first | omega | (simp; done) | (simp; omega))
      have hl2_w0 : w.heap.size < w2.heap.size := by omega
      have hl2_w1 : w.heap.size + 1 < w2.heap.size := by omega
      have hl2_w2 : w.heap.size + 2 < w2.heap.size := by omega
      rw [v2]
      go_wp2_with fail
      refine bodyPost_ret (v := .tuple #[.agg #[.int .i64 0, .int .i64 0], .int .i64 1]) (by simp [results, Try.results15, go_sem, *]) rfl ?_
      exact ⟨by rw [HR.out], (by repeat (first | exact Below.refl _ _ | assumption | refine Below.drew ?_ | refine bdrewN ?_ _ | refine Below.alloc ?_ (by first | omega | (simp; done) | (simp; omega)) _ | refine Below.setCell ?_ (by first | omega | (simp; done) | (simp; omega)) _ | refine bstep ?_ (by assumption)))⟩
  · have v1 : validH e c = false := by simpa using v1
    have HR := Lib.hid (quantR_arg (num := num) (den := den) (.inl v1))
    go_enter Try.func15, Try.ntmps15
    go_wp2_with fail
    refine (hv.out _ (by repeat (first | exact Below.refl _ _ | assumption | refine Below.drew ?_ | refine bdrewN ?_ _ | refine Below.alloc ?_ (by first | omega | (simp; done) | (simp; omega)) _ | refine Below.setCell ?_ (by first | omega | (simp; done) | (simp; omega)) _ | refine bstep ?_ (by assumption)))).mono ?_
    rintro e w1 ⟨rfl, hb1⟩
    have hz1 := hb1.size
    try simp at hz1
    obtain ⟨hc1_w, hf1_w⟩ := bcellm (M := w.heap.size + 3) hb1 (by first | omega | (simp; done) | (simp; omega))
    have hl1_w0 : w.heap.size < w1.heap.size := by omega
    have hl1_w1 : w.heap.size + 1 < w1.heap.size := by omega
    have hl1_w2 : w.heap.size + 2 < w1.heap.size := by omega
    rw [v1]
    go_wp2_with fail
    refine bodyPost_ret (v := .tuple #[.agg #[.int .i64 0, .int .i64 0], .int .i64 1]) (by simp [results, Try.results15, go_sem, *]) rfl ?_
    exact ⟨by rw [HR.out], (by repeat (first | exact Below.refl _ _ | assumption | refine Below.drew ?_ | refine bdrewN ?_ _ | refine Below.alloc ?_ (by first | omega | (simp; done) | (simp; omega)) _ | refine Below.setCell ?_ (by first | omega | (simp; done) | (simp; omega)) _ | refine bstep ?_ (by assumption)))⟩
end Go.Proofs.Ytibnaangfdohiaa
