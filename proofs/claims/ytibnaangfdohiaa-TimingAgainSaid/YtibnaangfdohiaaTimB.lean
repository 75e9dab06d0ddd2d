/- The walks through timing.Mean and the reference's Mean. -/
import Derived.Test.YtibnaangfdohiaaTim2
import Derived.Test.YtibnaangfdohiaaFracS
import Derived.Test.YtibnaangfdohiaaH40b
namespace Go.Proofs.Ytibnaangfdohiaa
open Go.RowKit

/-- Two results: two fractions in an array, a number. -/
def RetMean (r : (Int × Int) × (Int × Int) × Int) (w : World) (e : Ending) (w' : World) : Prop :=
  e = .returned (.tuple #[.agg #[.int .i64 r.1.1, .int .i64 r.1.2, .int .i64 r.2.1.1, .int .i64 r.2.1.2], .int .i64 r.2.2]) ∧ Below w.heap.size w w'

set_option maxRecDepth 100000 in
set_option maxHeartbeats 4000000 in
theorem mean_any (A B : Option Addr) (n k m l : Nat) (e c : List Int) (w : World) (hA : Ints w A n e) (hB : Ints w B m c) :
    Calls Try.prog 22 #[.agg #[.slice A n k, .slice B m l]] w (RetMean (meanR e c) w) := by
  have hv := Lib.hid fun (w1 : World) (hb : Below w.heap.size w w1) => tvalid_any A B n k m l e c w1 (hA.below mono_int hb) (hB.below mono_int hb)
  by_cases v1 : validH e c = true
  rotate_left
  · have v1 : validH e c = false := by simpa using v1
    have HR := Lib.hid (meanR_arg v1)
    go_enter Try.func22, Try.ntmps22
    go_wp2_with fail
    refine (hv.out _ (by repeat (first | exact Below.refl _ _ | assumption | refine Below.drew ?_ | refine bdrewN ?_ _ | refine Below.alloc ?_ (by first | omega | (simp; done) | (simp; omega) | exact Below.size (by assumption)) _ | refine Below.setCell ?_ (by first | omega | (simp; done) | (simp; omega)) _ | refine bstep ?_ (by assumption)))).mono ?_
    rintro e w1 ⟨rfl, hb1⟩
    have hz1 := hb1.size
    try simp at hz1
    obtain ⟨hc1_w, hf1_w⟩ := bcellm (M := w.heap.size + 2) hb1 (by first | omega | (simp; done) | (simp; omega))
    have hl1_w0 : w.heap.size < w1.heap.size := by omega
    have hl1_w1 : w.heap.size + 1 < w1.heap.size := by omega
    rw [v1]
    go_wp2_with fail
    refine bodyPost_ret (v := .tuple #[.agg #[.int .i64 0, .int .i64 0, .int .i64 0, .int .i64 0], .int .i64 1]) (by simp [results, Try.results22, go_sem, *]) rfl ?_
    exact ⟨by rw [HR.out], (by repeat (first | exact Below.refl _ _ | assumption | refine Below.drew ?_ | refine bdrewN ?_ _ | refine Below.alloc ?_ (by first | omega | (simp; done) | (simp; omega) | exact Below.size (by assumption)) _ | refine Below.setCell ?_ (by first | omega | (simp; done) | (simp; omega)) _ | refine bstep ?_ (by assumption)))⟩
  have V := validH_iff.1 v1
  have sm := V.small
  have ht := Lib.hid fun (w1 : World) (hb : Below w.heap.size w w1) => total_any A B n k m l c w1 (hB.below mono_int hb) sm
  have t1 := tot_bd sm
  have hm1 : m + 1 = n := by have := V.2.1; rw [hB.1, hA.1] at this; exact this
  have hn20 : n ≤ 20 := by have := V.1.2.1; rw [hA.1] at this; exact this
  have hn2 : 2 ≤ n := by have := V.1.1; rw [hA.1] at this; exact this
  have Ha := Lib.hid hA.1
  have Hb := Lib.hid hB.1
  by_cases hz : tot c = 0
  · have HR := Lib.hid (meanR_none v1 hz)
    have hz1 : (tot c == 0) = true := by simp [hz]
    clear hz V sm t1
    go_enter Try.func22, Try.ntmps22
    go_wp2_with fail
    refine (hv.out _ (by repeat (first | exact Below.refl _ _ | assumption | refine Below.drew ?_ | refine bdrewN ?_ _ | refine Below.alloc ?_ (by first | omega | (simp; done) | (simp; omega) | exact Below.size (by assumption)) _ | refine Below.setCell ?_ (by first | omega | (simp; done) | (simp; omega)) _ | refine bstep ?_ (by assumption)))).mono ?_
    rintro e w1 ⟨rfl, hb1⟩
    have hz1 := hb1.size
    try simp at hz1
    obtain ⟨hc1_w, hf1_w⟩ := bcellm (M := w.heap.size + 2) hb1 (by first | omega | (simp; done) | (simp; omega))
    have hl1_w0 : w.heap.size < w1.heap.size := by omega
    have hl1_w1 : w.heap.size + 1 < w1.heap.size := by omega
    rw [v1]
    go_wp2_with fail
    refine (ht.out _ (by repeat (first | exact Below.refl _ _ | assumption | refine Below.drew ?_ | refine bdrewN ?_ _ | refine Below.alloc ?_ (by first | omega | (simp; done) | (simp; omega) | exact Below.size (by assumption)) _ | refine Below.setCell ?_ (by first | omega | (simp; done) | (simp; omega)) _ | refine bstep ?_ (by assumption)))).mono ?_
    rintro e w2 ⟨rfl, hb2⟩
    have hz2 := hb2.size
    try simp at hz2
    obtain ⟨hc2_w, hf2_w⟩ := bcellm (M := w.heap.size + 2) hb2 (by first | omega | (simp; done) | (simp; omega))
    have hl2_w0 : w.heap.size < w2.heap.size := by omega
    have hl2_w1 : w.heap.size + 1 < w2.heap.size := by omega
    go_wp2_with fail
    refine bodyPost_ret (v := .tuple #[.agg #[.int .i64 0, .int .i64 0, .int .i64 0, .int .i64 0], .int .i64 10]) (by simp [results, Try.results22, go_sem, *]) rfl ?_
    exact ⟨by rw [HR.out], (by repeat (first | exact Below.refl _ _ | assumption | refine Below.drew ?_ | refine bdrewN ?_ _ | refine Below.alloc ?_ (by first | omega | (simp; done) | (simp; omega) | exact Below.size (by assumption)) _ | refine Below.setCell ?_ (by first | omega | (simp; done) | (simp; omega)) _ | refine bstep ?_ (by assumption)))⟩
  have HB := Lib.hid (meanR_big v1 hz)
  have HO := Lib.hid (meanR_ok v1 hz)
  have hz1 : (tot c == 0) = false := by simp [hz]
  obtain ⟨b, off, rfl⟩ := hA.open1 (by omega)
  obtain ⟨b', off', rfl⟩ := hB.open1 (by omega)
  have HV := Lib.hid V
  have hmk := Lib.hid fun (w1 : World) (S : Int) (h1 : 0 ≤ S) (h2 : S ≤ 28147497671065600) => fmake_any S (tot c) w1 (by omega) (by omega) (by omega) (by omega)
  clear hz V sm
  skip
  go_enter Try.func22, Try.ntmps22
  go_wp2_with fail
  refine (hv.out _ (by repeat (first | exact Below.refl _ _ | assumption | refine Below.drew ?_ | refine bdrewN ?_ _ | refine Below.alloc ?_ (by first | omega | (simp; done) | (simp; omega) | exact Below.size (by assumption)) _ | refine Below.setCell ?_ (by first | omega | (simp; done) | (simp; omega)) _ | refine bstep ?_ (by assumption)))).mono ?_
  rintro e w1 ⟨rfl, hb1⟩
  have hz1 := hb1.size
  try simp at hz1
  obtain ⟨hc1_w, hf1_w⟩ := bcellm (M := w.heap.size + 2) hb1 (by first | omega | (simp; done) | (simp; omega))
  have hl1_w0 : w.heap.size < w1.heap.size := by omega
  have hl1_w1 : w.heap.size + 1 < w1.heap.size := by omega
  rw [v1]
  go_wp2_with fail
  refine (ht.out _ (by repeat (first | exact Below.refl _ _ | assumption | refine Below.drew ?_ | refine bdrewN ?_ _ | refine Below.alloc ?_ (by first | omega | (simp; done) | (simp; omega) | exact Below.size (by assumption)) _ | refine Below.setCell ?_ (by first | omega | (simp; done) | (simp; omega)) _ | refine bstep ?_ (by assumption)))).mono ?_
  rintro e w2 ⟨rfl, hb2⟩
  have hz2 := hb2.size
  try simp at hz2
  obtain ⟨hc2_w, hf2_w⟩ := bcellm (M := w.heap.size + 2) hb2 (by first | omega | (simp; done) | (simp; omega))
  have hl2_w0 : w.heap.size < w2.heap.size := by omega
  have hl2_w1 : w.heap.size + 1 < w2.heap.size := by omega
  have hI := hA.below mono_int (w' := w2) (by repeat (first | exact Below.refl _ _ | assumption | refine Below.drew ?_ | refine bdrewN ?_ _ | refine Below.alloc ?_ (by first | omega | (simp; done) | (simp; omega) | exact Below.size (by assumption)) _ | refine Below.setCell ?_ (by first | omega | (simp; done) | (simp; omega)) _ | refine bstep ?_ (by assumption)))
  have hI' := hB.below mono_int (w' := w2) (by repeat (first | exact Below.refl _ _ | assumption | refine Below.drew ?_ | refine bdrewN ?_ _ | refine Below.alloc ?_ (by first | omega | (simp; done) | (simp; omega) | exact Below.size (by assumption)) _ | refine Below.setCell ?_ (by first | omega | (simp; done) | (simp; omega)) _ | refine bstep ?_ (by assumption)))
  clear hv ht
  go_wp2_with fail
  go_loop [5, 6, 25] (fun x y i => ∃ j : Nat, j ≤ m ∧ i = .int .i64 j ∧ x = .int .i64 (lowS e c j) ∧ y = .int .i64 (highS e c j)) (fun _ _ i => m - (intOf i).toNat)
  case atStart => exact ⟨0, Nat.zero_le _, rfl, rfl, rfl⟩
  case round =>
    obtain ⟨j, hj, rfl, rfl, rfl⟩ := hrel
    by_cases hlt : j < m
    · have hk1 : j < c.length := by rw [Hb.out]; exact hlt
      have hk2 : j < e.length := by rw [Ha.out]; omega
      have hk3 : j + 1 < e.length := by rw [Ha.out]; omega
      have hc := hI'.at_ hk1
      have hc2 := hI.at_ hk2
      have hc3 := hI.at_ hk3
      have bd := mean_bd HV.out j (by omega)
      have pb := prod_bd HV.out hk1 hk3
      have he' := HV.out.1.2.2.1 (j + 1) hk3
      have L := Lib.hid (lowS_succ hk1 hk2)
      have Hh := Lib.hid (highS_succ hk1 hk3)
      have hj1 : (j : Int) + 1 < (n : Int) := by omega
      go_wp2_with fail
      go_round
      case rel => exact ⟨j + 1, by omega, by go_num, by rw [L.out], by rw [Hh.out]⟩
      case measure => simp [intOf]; omega
    · have hjm : j = c.length := by rw [Hb.out]; omega
      subst hjm
      have bd := mean_bd HV.out c.length (Nat.le_refl _)
      have hc25 : c.length ≤ 25 := HV.out.small.1
      have b1 : lowS e c c.length ≤ 28147497671065600 := by omega
      have b2 : highS e c c.length ≤ 28147497671065600 := by omega
      obtain ⟨⟨bl, _⟩, bh, _⟩ := bd
      go_wp2_with fail
      refine (hmk.out _ _ bl b1).mono ?_
      rintro e w3 ⟨rfl, hb3⟩
      have hz3 := hb3.size
      try simp at hz3
      obtain ⟨hc3_w, hf3_w⟩ := bcellm (M := w.heap.size + 2) hb3 (by first | omega | (simp; done) | (simp; omega))
      have hl3_w0 : w.heap.size < w3.heap.size := by omega
      have hl3_w1 : w.heap.size + 1 < w3.heap.size := by omega
      go_wp2_with fail
      refine (hmk.out _ _ bh b2).mono ?_
      rintro e w4 ⟨rfl, hb4⟩
      have hz4 := hb4.size
      try simp at hz4
      obtain ⟨hc4_w, hf4_w⟩ := bcellm (M := w.heap.size + 2) hb4 (by first | omega | (simp; done) | (simp; omega))
      have hl4_w0 : w.heap.size < w4.heap.size := by omega
      have hl4_w1 : w.heap.size + 1 < w4.heap.size := by omega
      obtain ⟨hc4_w3, hf4_w3⟩ := bcellm (M := w3.heap.size + 1) hb4 (by first | omega | (simp; done) | (simp; omega))
      have hl4_w30 : w3.heap.size < w4.heap.size := by omega
      by_cases h1 : (makeF (lowS e c c.length) (tot c)).2.2 = 0
      · have d1 : ((makeF (lowS e c c.length) (tot c)).2.2 != 0) = false := by simp [h1]
        by_cases h2 : (makeF (highS e c c.length) (tot c)).2.2 = 0
        · have d2 : ((makeF (highS e c c.length) (tot c)).2.2 != 0) = false := by simp [h2]
          have HR := Lib.hid (HO.out h1 h2)
          clear h1 h2
          go_wp2_with fail
          refine bodyPost_ret (v := .tuple #[.agg #[.int .i64 (makeF (lowS e c c.length) (tot c)).1, .int .i64 (makeF (lowS e c c.length) (tot c)).2.1, .int .i64 (makeF (highS e c c.length) (tot c)).1, .int .i64 (makeF (highS e c c.length) (tot c)).2.1], .int .i64 0]) (by simp [results, Try.results22, go_sem, *]) rfl ?_
          exact ⟨by rw [HR.out], (by repeat (first | exact Below.refl _ _ | assumption | refine Below.drew ?_ | refine bdrewN ?_ _ | refine Below.alloc ?_ (by first | omega | (simp; done) | (simp; omega) | exact Below.size (by assumption)) _ | refine Below.setCell ?_ (by first | omega | (simp; done) | (simp; omega)) _ | refine bstep ?_ (by assumption)))⟩
        · have d2 : ((makeF (highS e c c.length) (tot c)).2.2 != 0) = true := by simp [h2]
          have HR := Lib.hid (HB.out (.inr h2))
          clear h1 h2
          go_wp2_with fail
          refine bodyPost_ret (v := .tuple #[.agg #[.int .i64 0, .int .i64 0, .int .i64 0, .int .i64 0], .int .i64 6]) (by simp [results, Try.results22, go_sem, *]) rfl ?_
          exact ⟨by rw [HR.out], (by repeat (first | exact Below.refl _ _ | assumption | refine Below.drew ?_ | refine bdrewN ?_ _ | refine Below.alloc ?_ (by first | omega | (simp; done) | (simp; omega) | exact Below.size (by assumption)) _ | refine Below.setCell ?_ (by first | omega | (simp; done) | (simp; omega)) _ | refine bstep ?_ (by assumption)))⟩
      · have d1 : ((makeF (lowS e c c.length) (tot c)).2.2 != 0) = true := by simp [h1]
        have HR := Lib.hid (HB.out (.inl h1))
        clear h1
        go_wp2_with fail
        refine bodyPost_ret (v := .tuple #[.agg #[.int .i64 0, .int .i64 0, .int .i64 0, .int .i64 0], .int .i64 6]) (by simp [results, Try.results22, go_sem, *]) rfl ?_
        exact ⟨by rw [HR.out], (by repeat (first | exact Below.refl _ _ | assumption | refine Below.drew ?_ | refine bdrewN ?_ _ | refine Below.alloc ?_ (by first | omega | (simp; done) | (simp; omega) | exact Below.size (by assumption)) _ | refine Below.setCell ?_ (by first | omega | (simp; done) | (simp; omega)) _ | refine bstep ?_ (by assumption)))⟩
end Go.Proofs.Ytibnaangfdohiaa
