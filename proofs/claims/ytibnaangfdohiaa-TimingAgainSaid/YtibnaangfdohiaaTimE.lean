/- The walk through the reference's Same. -/
import Derived.Test.YtibnaangfdohiaaTim9
namespace Go.Proofs.Ytibnaangfdohiaa
open Go.RowKit

set_option maxRecDepth 100000 in
set_option maxHeartbeats 2000000 in
theorem same_any (A B C D : Option Addr) (n k m l n' k' m' l' : Nat) (e c e' c' : List Int) (w : World) (hA : Ints w A n e) (h : Ints w B m c) (hC : Ints w C n' e') (h' : Ints w D m' c') :
    Calls Try.prog 26 #[.agg #[.slice A n k, .slice B m l], .agg #[.slice C n' k', .slice D m' l']] w fun r w' => r = .returned (.bool (decide (e = e' ∧ c = c'))) ∧ Below w.heap.size w w' := by
  have hn := h.len
  have hn' := h'.len
  have hl := Lib.hid h.1
  have hl' := Lib.hid h'.1
  have hse := Lib.hid fun (w1 : World) (hb : Below w.heap.size w w1) => sameEdges_any A B C D n k m l n' k' m' l' e e' w1 (hA.below mono_int hb) (hC.below mono_int hb)
  by_cases hee : e = e'
  rotate_left
  · have hd : decide (e = e') = false := by simpa using hee
    have hd2 : decide (e = e' ∧ c = c') = false := by simp [hee]
    have HN := Lib.hid hd2
    clear hee hd2
    skip
    go_enter Try.func26, Try.ntmps26
    go_wp2_with fail
    refine (hse.out _ (by repeat (first | exact Below.refl _ _ | assumption | refine Below.drew ?_ | refine bdrewN ?_ _ | refine Below.alloc ?_ (by first | omega | (simp; done) | (simp; omega) | exact Below.size (by assumption)) _ | refine Below.setCell ?_ (by first | omega | (simp; done) | (simp; omega)) _ | refine bstep ?_ (by assumption)))).mono ?_
    rintro e w1 ⟨rfl, hb1⟩
    have hz1 := hb1.size
    try simp at hz1
    obtain ⟨hc1_w, hf1_w⟩ := bcellm (M := w.heap.size + 2) hb1 (by first | omega | (simp; done) | (simp; omega))
    have hl1_w0 : w.heap.size < w1.heap.size := by omega
    have hl1_w1 : w.heap.size + 1 < w1.heap.size := by omega
    rw [hd]
    go_wp2_with fail
    go_ret
    exact ⟨ret_bool HN.out.symm, (by repeat (first | exact Below.refl _ _ | assumption | refine Below.drew ?_ | refine bdrewN ?_ _ | refine Below.alloc ?_ (by first | omega | (simp; done) | (simp; omega) | exact Below.size (by assumption)) _ | refine Below.setCell ?_ (by first | omega | (simp; done) | (simp; omega)) _ | refine bstep ?_ (by assumption)))⟩
  have hd : decide (e = e') = true := by simpa using hee
  have HE := Lib.hid hee
  clear hee
  by_cases hne : m = m'
  · subst hne
    skip
    go_enter Try.func26, Try.ntmps26
    go_wp2_with fail
    refine (hse.out _ (by repeat (first | exact Below.refl _ _ | assumption | refine Below.drew ?_ | refine bdrewN ?_ _ | refine Below.alloc ?_ (by first | omega | (simp; done) | (simp; omega) | exact Below.size (by assumption)) _ | refine Below.setCell ?_ (by first | omega | (simp; done) | (simp; omega)) _ | refine bstep ?_ (by assumption)))).mono ?_
    rintro e w1 ⟨rfl, hb1⟩
    have hz1 := hb1.size
    try simp at hz1
    obtain ⟨hc1_w, hf1_w⟩ := bcellm (M := w.heap.size + 2) hb1 (by first | omega | (simp; done) | (simp; omega))
    have hl1_w0 : w.heap.size < w1.heap.size := by omega
    have hl1_w1 : w.heap.size + 1 < w1.heap.size := by omega
    rw [hd]
    have hB : Below w.heap.size w w1 := (by repeat (first | exact Below.refl _ _ | assumption | refine Below.drew ?_ | refine bdrewN ?_ _ | refine Below.alloc ?_ (by first | omega | (simp; done) | (simp; omega) | exact Below.size (by assumption)) _ | refine Below.setCell ?_ (by first | omega | (simp; done) | (simp; omega)) _ | refine bstep ?_ (by assumption)))
    have hI := h.below mono_int hB
    have hI' := h'.below mono_int hB
    have q0 : w1.cell? ⟨w.heap.size, 1, none⟩ = some (.slice B m l) := by simp [go_sem, *]
    have q1 : w1.cell? ⟨w.heap.size + 1, 1, none⟩ = some (.slice D m l') := by simp [go_sem, *]
    clear hb1 hc1_w hf1_w
    go_wp2_with fail
    go_loopw [5] (fun i wr => ∃ j : Nat, j ≤ m ∧ i = .int .i64 j ∧ (∃ d, Hid (wr = w1.drewN d)) ∧ Hid (∀ x (h : x < c.length) (h' : x < c'.length), x < j → c[x] = c'[x])) (fun i _ => m - (intOf i).toNat)
    case atStart => exact ⟨0, Nat.zero_le _, rfl, ⟨0, rfl⟩, fun j _ _ hj => absurd hj (by omega)⟩
    case round =>
      obtain ⟨j, hj, rfl, ⟨d, hwr⟩, hall⟩ := hrel
      obtain rfl := hwr
      have hBd := bdrewN hB d
      by_cases hlt : j < m
      · obtain ⟨b, off, rfl⟩ := hI.open1 (by omega)
        obtain ⟨b', off', rfl⟩ := hI'.open1 (by omega)
        have hk1 : j < c.length := by rw [hl.out]; exact hlt
        have hk1' : j < c'.length := by rw [hl'.out]; exact hlt
        have hc := hI.at_ hk1
        have hc' := hI'.at_ hk1'
        by_cases he : c[j] = c'[j]
        · have HT : Hid (∀ x (h : x < c.length) (h' : x < c'.length), x < j + 1 → c[x] = c'[x]) := fun x h1 h2 hx => by
            rcases (show x < j ∨ x = j by omega) with h3 | rfl
            · exact hall.out x h1 h2 h3
            · exact he
          have he' : (c[j] != c'[j]) = false := by simp [he]
          clear he
          go_wp2
          go_quiet (fail)
          go_wp2
          go_roundw
          case rel => exact ⟨j + 1, by omega, by go_num, ⟨_, by first | rfl | (simp only [World.drewN_drewN]; rfl)⟩, HT⟩
          case measure => simp [intOf]; omega
        · have he' : (c[j] != c'[j]) = true := by simp [he]
          have hne : (decide (e = e' ∧ c = c')) = false := by
            simp; rintro _ rfl; exact he rfl
          have HN := Lib.hid hne
          clear he hne
          go_wp2
          go_quiet (fail)
          go_wp2
          go_ret
          exact ⟨ret_bool HN.out.symm, (by repeat (first | exact Below.refl _ _ | assumption | refine Below.drew ?_ | refine bdrewN ?_ _ | refine Below.alloc ?_ (by first | omega | (simp; done) | (simp; omega) | exact Below.size (by assumption)) _ | refine Below.setCell ?_ (by first | omega | (simp; done) | (simp; omega)) _ | refine bstep ?_ (by assumption)))⟩
      · go_wp2
        go_ret
        have : c = c' := eq_prefix_none hall.out (by rw [hl.out, hl'.out]) (by rw [hl.out]; omega)
        exact ⟨ret_bool (by simp [this, HE.out]), (by repeat (first | exact Below.refl _ _ | assumption | refine Below.drew ?_ | refine bdrewN ?_ _ | refine Below.alloc ?_ (by first | omega | (simp; done) | (simp; omega) | exact Below.size (by assumption)) _ | refine Below.setCell ?_ (by first | omega | (simp; done) | (simp; omega)) _ | refine bstep ?_ (by assumption)))⟩
  · have h1 : ((m : Int) != (m' : Int)) = true := by simp; omega
    have hne : (decide (e = e' ∧ c = c')) = false := by
      simp; rintro _ rfl; exact hne (hl.out.symm.trans hl'.out)
    have HN := Lib.hid hne
    clear hne
    skip
    go_enter Try.func26, Try.ntmps26
    go_wp2_with fail
    refine (hse.out _ (by repeat (first | exact Below.refl _ _ | assumption | refine Below.drew ?_ | refine bdrewN ?_ _ | refine Below.alloc ?_ (by first | omega | (simp; done) | (simp; omega) | exact Below.size (by assumption)) _ | refine Below.setCell ?_ (by first | omega | (simp; done) | (simp; omega)) _ | refine bstep ?_ (by assumption)))).mono ?_
    rintro e w1 ⟨rfl, hb1⟩
    have hz1 := hb1.size
    try simp at hz1
    obtain ⟨hc1_w, hf1_w⟩ := bcellm (M := w.heap.size + 2) hb1 (by first | omega | (simp; done) | (simp; omega))
    have hl1_w0 : w.heap.size < w1.heap.size := by omega
    have hl1_w1 : w.heap.size + 1 < w1.heap.size := by omega
    rw [hd]
    go_wp2_with fail
    go_ret
    exact ⟨ret_bool HN.out.symm, (by repeat (first | exact Below.refl _ _ | assumption | refine Below.drew ?_ | refine bdrewN ?_ _ | refine Below.alloc ?_ (by first | omega | (simp; done) | (simp; omega) | exact Below.size (by assumption)) _ | refine Below.setCell ?_ (by first | omega | (simp; done) | (simp; omega)) _ | refine bstep ?_ (by assumption)))⟩
end Go.Proofs.Ytibnaangfdohiaa
