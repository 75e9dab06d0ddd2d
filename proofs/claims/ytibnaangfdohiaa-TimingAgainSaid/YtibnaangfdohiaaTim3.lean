/- The walk through timing.Quantile. -/
import Derived.Test.YtibnaangfdohiaaTim2
import Derived.Test.YtibnaangfdohiaaFracS
namespace Go.Proofs.Ytibnaangfdohiaa
open Go.RowKit

set_option maxRecDepth 100000 in
set_option maxHeartbeats 2000000 in
theorem quantile_any (A A' : Option Addr) (n k n' k' : Nat) (e c : List Int) (num den : Int) (w : World) (h : Ints w A n e) (h' : Ints w A' n' c) :
    Calls Try.prog 14 #[.agg #[.slice A n k, .slice A' n' k'], .agg #[.int .i64 num, .int .i64 den]] w (RetFrac (quantR e c num den) w) := by
  have hn := h.len
  have hn' := h'.len
  have HL := Lib.hid h.1
  have HL' := Lib.hid h'.1
  have hv := Lib.hid fun (w1 : World) (hb : Below w.heap.size w w1) => tvalid_any A A' n k n' k' e c w1 (h.below mono_int hb) (h'.below mono_int hb)
  by_cases v1 : validH e c = true
  · by_cases v2 : validF num den = true
    · have V := validH_iff.1 v1
      have F := validF_iff.1 v2
      have hsm := V.small
      have ht := Lib.hid fun (w1 : World) (hb : Below w.heap.size w w1) => total_any A A' n k n' k' c w1 (h'.below mono_int hb) hsm
      have hnn : n' + 1 = n := by have := V.2.1; rw [HL.out, HL'.out] at this; exact this
      have hn20 : n ≤ 20 := by have := V.1.2.1; rw [HL.out] at this; exact this
      have hn2 : 2 ≤ n := by have := V.1.1; rw [HL.out] at this; exact this
      obtain ⟨b, off, rfl⟩ := h.open1 (by omega)
      obtain ⟨b', off', rfl⟩ := h'.open1 (by omega)
      by_cases hr : num < 1
      · have HR := Lib.hid (quantR_range v1 v2 (.inl hr))
        go_enter Try.func14, Try.ntmps14
        go_wp2_with fail
        refine (hv.out _ (by repeat (first | exact Below.refl _ _ | assumption | refine Below.drew ?_ | refine bdrewN ?_ _ | refine Below.alloc ?_ (by first | omega | (simp; done) | (simp; omega) | exact Below.size (by assumption)) _ | refine Below.setCell ?_ (by first | omega | (simp; done) | (simp; omega)) _ | refine bstep ?_ (by assumption)))).mono ?_
        rintro e w1 ⟨rfl, hb1⟩
        have hz1 := hb1.size
        try simp at hz1
        obtain ⟨hc1_w, hf1_w⟩ := bcellm (M := w.heap.size + 3) hb1 (by first | omega | (simp; done) | (simp; omega))
        have hl1_w0 : w.heap.size < w1.heap.size := by omega
        have hl1_w1 : w.heap.size + 1 < w1.heap.size := by omega
        have hl1_w2 : w.heap.size + 2 < w1.heap.size := by omega
        rw [v1]
        go_wp2_with fail
        refine (fvalid_any num den _).mono ?_
        rintro e w2 ⟨rfl, hb2⟩
        have hz2 := hb2.size
        try simp at hz2
        obtain ⟨hc2_w, hf2_w⟩ := bcellm (M := w.heap.size + 3) hb2 (by first | omega | (simp; done) | (simp; omega))
        have hl2_w0 : w.heap.size < w2.heap.size := by omega
        have hl2_w1 : w.heap.size + 1 < w2.heap.size := by omega
        have hl2_w2 : w.heap.size + 2 < w2.heap.size := by omega
        rw [v2]
        go_wp2_with fail
        refine bodyPost_ret (v := .tuple #[.agg #[.int .i64 0, .int .i64 0], .int .i64 2]) (by simp [results, Try.results14, go_sem, *]) rfl ?_
        exact ⟨by rw [HR.out], (by repeat (first | exact Below.refl _ _ | assumption | refine Below.drew ?_ | refine bdrewN ?_ _ | refine Below.alloc ?_ (by first | omega | (simp; done) | (simp; omega) | exact Below.size (by assumption)) _ | refine Below.setCell ?_ (by first | omega | (simp; done) | (simp; omega)) _ | refine bstep ?_ (by assumption)))⟩
      by_cases hr2 : den < num
      · have HR := Lib.hid (quantR_range v1 v2 (.inr hr2))
        go_enter Try.func14, Try.ntmps14
        go_wp2_with fail
        refine (hv.out _ (by repeat (first | exact Below.refl _ _ | assumption | refine Below.drew ?_ | refine bdrewN ?_ _ | refine Below.alloc ?_ (by first | omega | (simp; done) | (simp; omega) | exact Below.size (by assumption)) _ | refine Below.setCell ?_ (by first | omega | (simp; done) | (simp; omega)) _ | refine bstep ?_ (by assumption)))).mono ?_
        rintro e w1 ⟨rfl, hb1⟩
        have hz1 := hb1.size
        try simp at hz1
        obtain ⟨hc1_w, hf1_w⟩ := bcellm (M := w.heap.size + 3) hb1 (by first | omega | (simp; done) | (simp; omega))
        have hl1_w0 : w.heap.size < w1.heap.size := by omega
        have hl1_w1 : w.heap.size + 1 < w1.heap.size := by omega
        have hl1_w2 : w.heap.size + 2 < w1.heap.size := by omega
        rw [v1]
        go_wp2_with fail
        refine (fvalid_any num den _).mono ?_
        rintro e w2 ⟨rfl, hb2⟩
        have hz2 := hb2.size
        try simp at hz2
        obtain ⟨hc2_w, hf2_w⟩ := bcellm (M := w.heap.size + 3) hb2 (by first | omega | (simp; done) | (simp; omega))
        have hl2_w0 : w.heap.size < w2.heap.size := by omega
        have hl2_w1 : w.heap.size + 1 < w2.heap.size := by omega
        have hl2_w2 : w.heap.size + 2 < w2.heap.size := by omega
        rw [v2]
        go_wp2_with fail
        refine bodyPost_ret (v := .tuple #[.agg #[.int .i64 0, .int .i64 0], .int .i64 2]) (by simp [results, Try.results14, go_sem, *]) rfl ?_
        exact ⟨by rw [HR.out], (by repeat (first | exact Below.refl _ _ | assumption | refine Below.drew ?_ | refine bdrewN ?_ _ | refine Below.alloc ?_ (by first | omega | (simp; done) | (simp; omega) | exact Below.size (by assumption)) _ | refine Below.setCell ?_ (by first | omega | (simp; done) | (simp; omega)) _ | refine bstep ?_ (by assumption)))⟩
      by_cases hz : tot c = 0
      · have HR := Lib.hid (quantR_none v1 v2 (by omega) (by omega) hz)
        have hz' : (tot c == 0) = true := by simp [hz]
        clear hz
        go_enter Try.func14, Try.ntmps14
        go_wp2_with fail
        refine (hv.out _ (by repeat (first | exact Below.refl _ _ | assumption | refine Below.drew ?_ | refine bdrewN ?_ _ | refine Below.alloc ?_ (by first | omega | (simp; done) | (simp; omega) | exact Below.size (by assumption)) _ | refine Below.setCell ?_ (by first | omega | (simp; done) | (simp; omega)) _ | refine bstep ?_ (by assumption)))).mono ?_
        rintro e w1 ⟨rfl, hb1⟩
        have hz1 := hb1.size
        try simp at hz1
        obtain ⟨hc1_w, hf1_w⟩ := bcellm (M := w.heap.size + 3) hb1 (by first | omega | (simp; done) | (simp; omega))
        have hl1_w0 : w.heap.size < w1.heap.size := by omega
        have hl1_w1 : w.heap.size + 1 < w1.heap.size := by omega
        have hl1_w2 : w.heap.size + 2 < w1.heap.size := by omega
        rw [v1]
        go_wp2_with fail
        refine (fvalid_any num den _).mono ?_
        rintro e w2 ⟨rfl, hb2⟩
        have hz2 := hb2.size
        try simp at hz2
        obtain ⟨hc2_w, hf2_w⟩ := bcellm (M := w.heap.size + 3) hb2 (by first | omega | (simp; done) | (simp; omega))
        have hl2_w0 : w.heap.size < w2.heap.size := by omega
        have hl2_w1 : w.heap.size + 1 < w2.heap.size := by omega
        have hl2_w2 : w.heap.size + 2 < w2.heap.size := by omega
        rw [v2]
        go_wp2_with fail
        refine (ht.out _ (by repeat (first | exact Below.refl _ _ | assumption | refine Below.drew ?_ | refine bdrewN ?_ _ | refine Below.alloc ?_ (by first | omega | (simp; done) | (simp; omega) | exact Below.size (by assumption)) _ | refine Below.setCell ?_ (by first | omega | (simp; done) | (simp; omega)) _ | refine bstep ?_ (by assumption)))).mono ?_
        rintro e w3 ⟨rfl, hb3⟩
        have hz3 := hb3.size
        try simp at hz3
        obtain ⟨hc3_w, hf3_w⟩ := bcellm (M := w.heap.size + 3) hb3 (by first | omega | (simp; done) | (simp; omega))
        have hl3_w0 : w.heap.size < w3.heap.size := by omega
        have hl3_w1 : w.heap.size + 1 < w3.heap.size := by omega
        have hl3_w2 : w.heap.size + 2 < w3.heap.size := by omega
        go_wp2_with fail
        refine bodyPost_ret (v := .tuple #[.agg #[.int .i64 0, .int .i64 0], .int .i64 10]) (by simp [results, Try.results14, go_sem, *]) rfl ?_
        exact ⟨by rw [HR.out], (by repeat (first | exact Below.refl _ _ | assumption | refine Below.drew ?_ | refine bdrewN ?_ _ | refine Below.alloc ?_ (by first | omega | (simp; done) | (simp; omega) | exact Below.size (by assumption)) _ | refine Below.setCell ?_ (by first | omega | (simp; done) | (simp; omega)) _ | refine bstep ?_ (by assumption)))⟩
      have hok := Lib.hid fun (j : Nat) (hj : j + 1 < e.length) hp hq => quantR_ok v1 v2 (by omega) (by omega) hz (j := j) hj hp hq
      have hz' : (tot c == 0) = false := by simp [hz]
      have hb := tot_bd hsm
      have hm := mul_bd (a := num) (A := 1073741824) (by omega) F.2.1 hb.1 hb.2
      have HS := Lib.hid hsm
      have hd1 : 1 ≤ den := by omega
      have hd2 : den ≤ 1073741824 := F.2.2.2.1
      clear hz hb V F hsm
      go_enter Try.func14, Try.ntmps14
      go_wp2_with fail
      refine (hv.out _ (by repeat (first | exact Below.refl _ _ | assumption | refine Below.drew ?_ | refine bdrewN ?_ _ | refine Below.alloc ?_ (by first | omega | (simp; done) | (simp; omega) | exact Below.size (by assumption)) _ | refine Below.setCell ?_ (by first | omega | (simp; done) | (simp; omega)) _ | refine bstep ?_ (by assumption)))).mono ?_
      rintro e w1 ⟨rfl, hb1⟩
      have hz1 := hb1.size
      try simp at hz1
      obtain ⟨hc1_w, hf1_w⟩ := bcellm (M := w.heap.size + 3) hb1 (by first | omega | (simp; done) | (simp; omega))
      have hl1_w0 : w.heap.size < w1.heap.size := by omega
      have hl1_w1 : w.heap.size + 1 < w1.heap.size := by omega
      have hl1_w2 : w.heap.size + 2 < w1.heap.size := by omega
      rw [v1]
      go_wp2_with fail
      refine (fvalid_any num den _).mono ?_
      rintro e w2 ⟨rfl, hb2⟩
      have hz2 := hb2.size
      try simp at hz2
      obtain ⟨hc2_w, hf2_w⟩ := bcellm (M := w.heap.size + 3) hb2 (by first | omega | (simp; done) | (simp; omega))
      have hl2_w0 : w.heap.size < w2.heap.size := by omega
      have hl2_w1 : w.heap.size + 1 < w2.heap.size := by omega
      have hl2_w2 : w.heap.size + 2 < w2.heap.size := by omega
      rw [v2]
      go_wp2_with fail
      refine (ht.out _ (by repeat (first | exact Below.refl _ _ | assumption | refine Below.drew ?_ | refine bdrewN ?_ _ | refine Below.alloc ?_ (by first | omega | (simp; done) | (simp; omega) | exact Below.size (by assumption)) _ | refine Below.setCell ?_ (by first | omega | (simp; done) | (simp; omega)) _ | refine bstep ?_ (by assumption)))).mono ?_
      rintro e w3 ⟨rfl, hb3⟩
      have hz3 := hb3.size
      try simp at hz3
      obtain ⟨hc3_w, hf3_w⟩ := bcellm (M := w.heap.size + 3) hb3 (by first | omega | (simp; done) | (simp; omega))
      have hl3_w0 : w.heap.size < w3.heap.size := by omega
      have hl3_w1 : w.heap.size + 1 < w3.heap.size := by omega
      have hl3_w2 : w.heap.size + 2 < w3.heap.size := by omega
      clear ht hv
      have hI := h.below mono_int (w' := w3) (by repeat (first | exact Below.refl _ _ | assumption | refine Below.drew ?_ | refine bdrewN ?_ _ | refine Below.alloc ?_ (by first | omega | (simp; done) | (simp; omega) | exact Below.size (by assumption)) _ | refine Below.setCell ?_ (by first | omega | (simp; done) | (simp; omega)) _ | refine bstep ?_ (by assumption)))
      have hI' := h'.below mono_int (w' := w3) (by repeat (first | exact Below.refl _ _ | assumption | refine Below.drew ?_ | refine bdrewN ?_ _ | refine Below.alloc ?_ (by first | omega | (simp; done) | (simp; omega) | exact Below.size (by assumption)) _ | refine Below.setCell ?_ (by first | omega | (simp; done) | (simp; omega)) _ | refine bstep ?_ (by assumption)))
      go_wp2_with fail
      go_loop [7, 8] (fun s i => ∃ j : Nat, j < n' ∧ i = .int .i64 j ∧ s = .int .i64 (pre c j) ∧ Hid (∀ x, x < j → pre c (x + 1) * den < num * tot c)) (fun _ i => n' - (intOf i).toNat)
      case atStart => exact ⟨0, by omega, rfl, by rw [pre_zero], fun x hx => absurd hx (by omega)⟩
      case round =>
        obtain ⟨j, hj, rfl, rfl, hall⟩ := hrel
        have hk1 : j < c.length := by rw [HL'.out]; exact hj
        have hk2 : j < e.length := by rw [HL.out]; omega
        have hk3 : j + 1 < e.length := by rw [HL.out]; omega
        have hc := hI'.at_ hk1
        have hc2 := hI.at_ hk2
        have hc3 := hI.at_ hk3
        have hp := pre_bd HS.out j (by omega)
        have h1 := HS.out.at_ hk1
        have HP := Lib.hid (pre_succ hk1)
        have hmm := mul_bd (a := pre c j + c[j]) (A := 26214400) (by omega) (by omega) (show 0 ≤ den by omega) hd2
        by_cases hlt : (j : Int) < (n' : Int) - 1
        · by_cases ht : num * tot c ≤ (pre c j + c[j]) * den
          · have HR := Lib.hid (hok.out j (by omega) hall.out (.inr (by rw [HP.out]; exact ht)))
            go_wp2
            go_region
            go_wp2
            refine bodyPost_ret (v := .tuple #[.agg #[.int .i64 e[j], .int .i64 e[j + 1]], .int .i64 0]) (by simp [results, Try.results14, go_sem, *]) rfl ?_
            exact ⟨by rw [HR.out], (by repeat (first | exact Below.refl _ _ | assumption | refine Below.drew ?_ | refine bdrewN ?_ _ | refine Below.alloc ?_ (by first | omega | (simp; done) | (simp; omega) | exact Below.size (by assumption)) _ | refine Below.setCell ?_ (by first | omega | (simp; done) | (simp; omega)) _ | refine bstep ?_ (by assumption)))⟩
          · have HT : Hid (∀ x, x < j + 1 → pre c (x + 1) * den < num * tot c) := fun x hx => by
              rcases (show x < j ∨ x = j by omega) with h3 | rfl
              · exact hall.out x h3
              · rw [HP.out]; omega
            go_wp2
            go_round
            case rel => exact ⟨j + 1, by omega, by go_num, by rw [HP.out], HT⟩
            case measure => simp [intOf]; omega
        · have HR := Lib.hid (hok.out j (by omega) hall.out (.inl (by have := HL'.out; omega)))
          go_wp2
          go_region
          go_wp2
          refine bodyPost_ret (v := .tuple #[.agg #[.int .i64 e[j], .int .i64 e[j + 1]], .int .i64 0]) (by simp [results, Try.results14, go_sem, *]) rfl ?_
          exact ⟨by rw [HR.out], (by repeat (first | exact Below.refl _ _ | assumption | refine Below.drew ?_ | refine bdrewN ?_ _ | refine Below.alloc ?_ (by first | omega | (simp; done) | (simp; omega) | exact Below.size (by assumption)) _ | refine Below.setCell ?_ (by first | omega | (simp; done) | (simp; omega)) _ | refine bstep ?_ (by assumption)))⟩
    · have v2 : validF num den = false := by simpa using v2
      have HR := Lib.hid (quantR_arg (e := e) (c := c) (.inr v2))
      go_enter Try.func14, Try.ntmps14
      go_wp2_with fail
      refine (hv.out _ (by repeat (first | exact Below.refl _ _ | assumption | refine Below.drew ?_ | refine bdrewN ?_ _ | refine Below.alloc ?_ (by first | omega | (simp; done) | (simp; omega) | exact Below.size (by assumption)) _ | refine Below.setCell ?_ (by first | omega | (simp; done) | (simp; omega)) _ | refine bstep ?_ (by assumption)))).mono ?_
      rintro e w1 ⟨rfl, hb1⟩
      have hz1 := hb1.size
      try simp at hz1
      obtain ⟨hc1_w, hf1_w⟩ := bcellm (M := w.heap.size + 3) hb1 (by first | omega | (simp; done) | (simp; omega))
      have hl1_w0 : w.heap.size < w1.heap.size := by omega
      have hl1_w1 : w.heap.size + 1 < w1.heap.size := by omega
      have hl1_w2 : w.heap.size + 2 < w1.heap.size := by omega
      rw [v1]
      go_wp2_with fail
      refine (fvalid_any num den _).mono ?_
      rintro e w2 ⟨rfl, hb2⟩
      have hz2 := hb2.size
      try simp at hz2
      obtain ⟨hc2_w, hf2_w⟩ := bcellm (M := w.heap.size + 3) hb2 (by first | omega | (simp; done) | (simp; omega))
      have hl2_w0 : w.heap.size < w2.heap.size := by omega
      have hl2_w1 : w.heap.size + 1 < w2.heap.size := by omega
      have hl2_w2 : w.heap.size + 2 < w2.heap.size := by omega
      rw [v2]
      go_wp2_with fail
      refine bodyPost_ret (v := .tuple #[.agg #[.int .i64 0, .int .i64 0], .int .i64 1]) (by simp [results, Try.results14, go_sem, *]) rfl ?_
      exact ⟨by rw [HR.out], (by repeat (first | exact Below.refl _ _ | assumption | refine Below.drew ?_ | refine bdrewN ?_ _ | refine Below.alloc ?_ (by first | omega | (simp; done) | (simp; omega) | exact Below.size (by assumption)) _ | refine Below.setCell ?_ (by first | omega | (simp; done) | (simp; omega)) _ | refine bstep ?_ (by assumption)))⟩
  · have v1 : validH e c = false := by simpa using v1
    have HR := Lib.hid (quantR_arg (num := num) (den := den) (.inl v1))
    go_enter Try.func14, Try.ntmps14
    go_wp2_with fail
    refine (hv.out _ (by repeat (first | exact Below.refl _ _ | assumption | refine Below.drew ?_ | refine bdrewN ?_ _ | refine Below.alloc ?_ (by first | omega | (simp; done) | (simp; omega) | exact Below.size (by assumption)) _ | refine Below.setCell ?_ (by first | omega | (simp; done) | (simp; omega)) _ | refine bstep ?_ (by assumption)))).mono ?_
    rintro e w1 ⟨rfl, hb1⟩
    have hz1 := hb1.size
    try simp at hz1
    obtain ⟨hc1_w, hf1_w⟩ := bcellm (M := w.heap.size + 3) hb1 (by first | omega | (simp; done) | (simp; omega))
    have hl1_w0 : w.heap.size < w1.heap.size := by omega
    have hl1_w1 : w.heap.size + 1 < w1.heap.size := by omega
    have hl1_w2 : w.heap.size + 2 < w1.heap.size := by omega
    rw [v1]
    go_wp2_with fail
    refine bodyPost_ret (v := .tuple #[.agg #[.int .i64 0, .int .i64 0], .int .i64 1]) (by simp [results, Try.results14, go_sem, *]) rfl ?_
    exact ⟨by rw [HR.out], (by repeat (first | exact Below.refl _ _ | assumption | refine Below.drew ?_ | refine bdrewN ?_ _ | refine Below.alloc ?_ (by first | omega | (simp; done) | (simp; omega) | exact Below.size (by assumption)) _ | refine Below.setCell ?_ (by first | omega | (simp; done) | (simp; omega)) _ | refine bstep ?_ (by assumption)))⟩
end Go.Proofs.Ytibnaangfdohiaa
