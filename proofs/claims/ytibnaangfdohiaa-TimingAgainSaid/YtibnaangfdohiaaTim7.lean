/- The walk through timing.Distance. -/
import Derived.Test.YtibnaangfdohiaaTim1
import Derived.Test.YtibnaangfdohiaaFracW
import Derived.Deep.RegionHeld3
namespace Go.Proofs.Ytibnaangfdohiaa
open Go.RowKit

set_option maxRecDepth 100000 in
set_option maxHeartbeats 4000000 in
theorem distance_any (A B C D : Option Addr) (n k m l n' k' m' l' : Nat) (e c e' c' : List Int) (w : World) (hA : Ints w A n e) (hB : Ints w B m c) (hC : Ints w C n' e') (hD : Ints w D m' c') :
    Calls Try.prog 20 #[.agg #[.slice A n k, .slice B m l], .agg #[.slice C n' k', .slice D m' l']] w (RetFrac (distR e c e' c') w) := by
  have hv := Lib.hid fun (w1 : World) (hb : Below w.heap.size w w1) => tvalid_any A B n k m l e c w1 (hA.below mono_int hb) (hB.below mono_int hb)
  have hv' := Lib.hid fun (w1 : World) (hb : Below w.heap.size w w1) => tvalid_any C D n' k' m' l' e' c' w1 (hC.below mono_int hb) (hD.below mono_int hb)
  have he := Lib.hid fun (w1 : World) (hb : Below w.heap.size w w1) => equal_int A C n k n' k' e e' w1 (hA.below mono_int hb) (hC.below mono_int hb)
  by_cases v1 : validH e c = true
  rotate_left
  · have v1 : validH e c = false := by simpa using v1
    have HR := Lib.hid (distR_arg (e' := e') (c' := c') (.inl v1))
    go_enter Try.func20, Try.ntmps20
    go_wp2_with fail
    refine (hv.out _ (by repeat (first | exact Below.refl _ _ | assumption | refine Below.drew ?_ | refine bdrewN ?_ _ | refine Below.alloc ?_ (by first | omega | (simp; done) | (simp; omega) | exact Below.size (by assumption)) _ | refine Below.setCell ?_ (by first | omega | (simp; done) | (simp; omega)) _ | refine bstep ?_ (by assumption)))).mono ?_
    rintro e w1 ⟨rfl, hb1⟩
    have hz1 := hb1.size
    try simp at hz1
    obtain ⟨hc1_w, hf1_w⟩ := bcellm (M := w.heap.size + 3) hb1 (by first | omega | (simp; done) | (simp; omega))
    have hl1_w0 : w.heap.size < w1.heap.size := by omega
    have hl1_w1 : w.heap.size + 1 < w1.heap.size := by omega
    have hl1_w2 : w.heap.size + 2 < w1.heap.size := by omega
    rw [v1]
    go_wp2_with fail
    refine bodyPost_ret (v := .tuple #[.agg #[.int .i64 0, .int .i64 0], .int .i64 1]) (by simp [results, Try.results20, go_sem, *]) rfl ?_
    exact ⟨by rw [HR.out], (by repeat (first | exact Below.refl _ _ | assumption | refine Below.drew ?_ | refine bdrewN ?_ _ | refine Below.alloc ?_ (by first | omega | (simp; done) | (simp; omega) | exact Below.size (by assumption)) _ | refine Below.setCell ?_ (by first | omega | (simp; done) | (simp; omega)) _ | refine bstep ?_ (by assumption)))⟩
  by_cases v2 : validH e' c' = true
  rotate_left
  · have v2 : validH e' c' = false := by simpa using v2
    have HR := Lib.hid (distR_arg (e := e) (c := c) (.inr v2))
    go_enter Try.func20, Try.ntmps20
    go_wp2_with fail
    refine (hv.out _ (by repeat (first | exact Below.refl _ _ | assumption | refine Below.drew ?_ | refine bdrewN ?_ _ | refine Below.alloc ?_ (by first | omega | (simp; done) | (simp; omega) | exact Below.size (by assumption)) _ | refine Below.setCell ?_ (by first | omega | (simp; done) | (simp; omega)) _ | refine bstep ?_ (by assumption)))).mono ?_
    rintro e w1 ⟨rfl, hb1⟩
    have hz1 := hb1.size
    try simp at hz1
    obtain ⟨hc1_w, hf1_w⟩ := bcellm (M := w.heap.size + 3) hb1 (by first | omega | (simp; done) | (simp; omega))
    have hl1_w0 : w.heap.size < w1.heap.size := by omega
    have hl1_w1 : w.heap.size + 1 < w1.heap.size := by omega
    have hl1_w2 : w.heap.size + 2 < w1.heap.size := by omega
    rw [v1]
    go_wp2_with fail
    refine (hv'.out _ (by repeat (first | exact Below.refl _ _ | assumption | refine Below.drew ?_ | refine bdrewN ?_ _ | refine Below.alloc ?_ (by first | omega | (simp; done) | (simp; omega) | exact Below.size (by assumption)) _ | refine Below.setCell ?_ (by first | omega | (simp; done) | (simp; omega)) _ | refine bstep ?_ (by assumption)))).mono ?_
    rintro e w2 ⟨rfl, hb2⟩
    have hz2 := hb2.size
    try simp at hz2
    obtain ⟨hc2_w, hf2_w⟩ := bcellm (M := w.heap.size + 3) hb2 (by first | omega | (simp; done) | (simp; omega))
    have hl2_w0 : w.heap.size < w2.heap.size := by omega
    have hl2_w1 : w.heap.size + 1 < w2.heap.size := by omega
    have hl2_w2 : w.heap.size + 2 < w2.heap.size := by omega
    rw [v2]
    go_wp2_with fail
    refine bodyPost_ret (v := .tuple #[.agg #[.int .i64 0, .int .i64 0], .int .i64 1]) (by simp [results, Try.results20, go_sem, *]) rfl ?_
    exact ⟨by rw [HR.out], (by repeat (first | exact Below.refl _ _ | assumption | refine Below.drew ?_ | refine bdrewN ?_ _ | refine Below.alloc ?_ (by first | omega | (simp; done) | (simp; omega) | exact Below.size (by assumption)) _ | refine Below.setCell ?_ (by first | omega | (simp; done) | (simp; omega)) _ | refine bstep ?_ (by assumption)))⟩
  by_cases hee : e = e'
  rotate_left
  · have HR := Lib.hid (distR_size v1 v2 hee)
    have hd : decide (e = e') = false := by simpa using hee
    clear hee
    go_enter Try.func20, Try.ntmps20
    go_wp2_with fail
    refine (hv.out _ (by repeat (first | exact Below.refl _ _ | assumption | refine Below.drew ?_ | refine bdrewN ?_ _ | refine Below.alloc ?_ (by first | omega | (simp; done) | (simp; omega) | exact Below.size (by assumption)) _ | refine Below.setCell ?_ (by first | omega | (simp; done) | (simp; omega)) _ | refine bstep ?_ (by assumption)))).mono ?_
    rintro e w1 ⟨rfl, hb1⟩
    have hz1 := hb1.size
    try simp at hz1
    obtain ⟨hc1_w, hf1_w⟩ := bcellm (M := w.heap.size + 3) hb1 (by first | omega | (simp; done) | (simp; omega))
    have hl1_w0 : w.heap.size < w1.heap.size := by omega
    have hl1_w1 : w.heap.size + 1 < w1.heap.size := by omega
    have hl1_w2 : w.heap.size + 2 < w1.heap.size := by omega
    rw [v1]
    go_wp2_with fail
    refine (hv'.out _ (by repeat (first | exact Below.refl _ _ | assumption | refine Below.drew ?_ | refine bdrewN ?_ _ | refine Below.alloc ?_ (by first | omega | (simp; done) | (simp; omega) | exact Below.size (by assumption)) _ | refine Below.setCell ?_ (by first | omega | (simp; done) | (simp; omega)) _ | refine bstep ?_ (by assumption)))).mono ?_
    rintro e w2 ⟨rfl, hb2⟩
    have hz2 := hb2.size
    try simp at hz2
    obtain ⟨hc2_w, hf2_w⟩ := bcellm (M := w.heap.size + 3) hb2 (by first | omega | (simp; done) | (simp; omega))
    have hl2_w0 : w.heap.size < w2.heap.size := by omega
    have hl2_w1 : w.heap.size + 1 < w2.heap.size := by omega
    have hl2_w2 : w.heap.size + 2 < w2.heap.size := by omega
    rw [v2]
    go_wp2_with fail
    refine (he.out _ (by repeat (first | exact Below.refl _ _ | assumption | refine Below.drew ?_ | refine bdrewN ?_ _ | refine Below.alloc ?_ (by first | omega | (simp; done) | (simp; omega) | exact Below.size (by assumption)) _ | refine Below.setCell ?_ (by first | omega | (simp; done) | (simp; omega)) _ | refine bstep ?_ (by assumption)))).mono ?_
    rintro e w3 ⟨rfl, hb3⟩
    have hz3 := hb3.size
    try simp at hz3
    obtain ⟨hc3_w, hf3_w⟩ := bcellm (M := w.heap.size + 3) hb3 (by first | omega | (simp; done) | (simp; omega))
    have hl3_w0 : w.heap.size < w3.heap.size := by omega
    have hl3_w1 : w.heap.size + 1 < w3.heap.size := by omega
    have hl3_w2 : w.heap.size + 2 < w3.heap.size := by omega
    rw [hd]
    go_wp2_with fail
    refine bodyPost_ret (v := .tuple #[.agg #[.int .i64 0, .int .i64 0], .int .i64 29]) (by simp [results, Try.results20, go_sem, *]) rfl ?_
    exact ⟨by rw [HR.out], (by repeat (first | exact Below.refl _ _ | assumption | refine Below.drew ?_ | refine bdrewN ?_ _ | refine Below.alloc ?_ (by first | omega | (simp; done) | (simp; omega) | exact Below.size (by assumption)) _ | refine Below.setCell ?_ (by first | omega | (simp; done) | (simp; omega)) _ | refine bstep ?_ (by assumption)))⟩
  subst hee
  have hd : decide (e = e) = true := by simp
  have V := validH_iff.1 v1
  have V' := validH_iff.1 v2
  have sm := V.small
  have sm' := V'.small
  have htc := Lib.hid fun (w1 : World) (hb : Below w.heap.size w w1) => total_any A B n k m l c w1 (hB.below mono_int hb) sm
  have htd := Lib.hid fun (w1 : World) (hb : Below w.heap.size w w1) => total_any C D n' k' m' l' c' w1 (hD.below mono_int hb) sm'
  have t1 := tot_bd sm
  have t2 := tot_bd sm'
  have hm1 : m + 1 = n := by have := V.2.1; rw [hB.1, hA.1] at this; exact this
  have hm2 : m' + 1 = n := by have := V'.2.1; rw [hD.1, hA.1] at this; exact this
  have hn20 : n ≤ 20 := by have := V.1.2.1; rw [hA.1] at this; exact this
  have hn2 : 2 ≤ n := by have := V.1.1; rw [hA.1] at this; exact this
  have Hb := Lib.hid hB.1
  have Hd := Lib.hid hD.1
  obtain ⟨b, off, rfl⟩ := hB.open1 (by omega)
  obtain ⟨b', off', rfl⟩ := hD.open1 (by omega)
  have SM := Lib.hid sm
  have SM' := Lib.hid sm'
  clear V V' sm sm'
  by_cases hz : tot c = 0
  · have HR := Lib.hid (distR_none v1 v2 (.inl hz))
    have hz1 : (tot c == 0) = true := by simp [hz]
    clear hz
    go_enter Try.func20, Try.ntmps20
    go_wp2_with fail
    refine (hv.out _ (by repeat (first | exact Below.refl _ _ | assumption | refine Below.drew ?_ | refine bdrewN ?_ _ | refine Below.alloc ?_ (by first | omega | (simp; done) | (simp; omega) | exact Below.size (by assumption)) _ | refine Below.setCell ?_ (by first | omega | (simp; done) | (simp; omega)) _ | refine bstep ?_ (by assumption)))).mono ?_
    rintro e w1 ⟨rfl, hb1⟩
    have hz1 := hb1.size
    try simp at hz1
    obtain ⟨hc1_w, hf1_w⟩ := bcellm (M := w.heap.size + 3) hb1 (by first | omega | (simp; done) | (simp; omega))
    have hl1_w0 : w.heap.size < w1.heap.size := by omega
    have hl1_w1 : w.heap.size + 1 < w1.heap.size := by omega
    have hl1_w2 : w.heap.size + 2 < w1.heap.size := by omega
    rw [v1]
    go_wp2_with fail
    refine (hv'.out _ (by repeat (first | exact Below.refl _ _ | assumption | refine Below.drew ?_ | refine bdrewN ?_ _ | refine Below.alloc ?_ (by first | omega | (simp; done) | (simp; omega) | exact Below.size (by assumption)) _ | refine Below.setCell ?_ (by first | omega | (simp; done) | (simp; omega)) _ | refine bstep ?_ (by assumption)))).mono ?_
    rintro e w2 ⟨rfl, hb2⟩
    have hz2 := hb2.size
    try simp at hz2
    obtain ⟨hc2_w, hf2_w⟩ := bcellm (M := w.heap.size + 3) hb2 (by first | omega | (simp; done) | (simp; omega))
    have hl2_w0 : w.heap.size < w2.heap.size := by omega
    have hl2_w1 : w.heap.size + 1 < w2.heap.size := by omega
    have hl2_w2 : w.heap.size + 2 < w2.heap.size := by omega
    rw [v2]
    go_wp2_with fail
    refine (he.out _ (by repeat (first | exact Below.refl _ _ | assumption | refine Below.drew ?_ | refine bdrewN ?_ _ | refine Below.alloc ?_ (by first | omega | (simp; done) | (simp; omega) | exact Below.size (by assumption)) _ | refine Below.setCell ?_ (by first | omega | (simp; done) | (simp; omega)) _ | refine bstep ?_ (by assumption)))).mono ?_
    rintro e w3 ⟨rfl, hb3⟩
    have hz3 := hb3.size
    try simp at hz3
    obtain ⟨hc3_w, hf3_w⟩ := bcellm (M := w.heap.size + 3) hb3 (by first | omega | (simp; done) | (simp; omega))
    have hl3_w0 : w.heap.size < w3.heap.size := by omega
    have hl3_w1 : w.heap.size + 1 < w3.heap.size := by omega
    have hl3_w2 : w.heap.size + 2 < w3.heap.size := by omega
    rw [hd]
    have B3 : Below w.heap.size w w3 := (by repeat (first | exact Below.refl _ _ | assumption | refine Below.drew ?_ | refine bdrewN ?_ _ | refine Below.alloc ?_ (by first | omega | (simp; done) | (simp; omega) | exact Below.size (by assumption)) _ | refine Below.setCell ?_ (by first | omega | (simp; done) | (simp; omega)) _ | refine bstep ?_ (by assumption)))
    have q0 : w3.cell? ⟨w.heap.size, 0, none⟩ = some (.slice A n k) := by simp [go_sem, *]
    have q1 : w3.cell? ⟨w.heap.size, 1, none⟩ = some (.slice (some ⟨b, off, none⟩) m l) := by simp [go_sem, *]
    have q2 : w3.cell? ⟨w.heap.size + 1, 0, none⟩ = some (.slice C n' k') := by simp [go_sem, *]
    have q3 : w3.cell? ⟨w.heap.size + 1, 1, none⟩ = some (.slice (some ⟨b', off', none⟩) m' l') := by simp [go_sem, *]
    have q4 : w3.cell? ⟨w.heap.size + 2, 0, none⟩ = some (.int .i64 0) := by simp [go_sem, *]
    have q5 : w3.cell? ⟨w.heap.size + 2, 1, none⟩ = some (.int .i64 0) := by simp [go_sem, *]
    have q6 : w3.frozen? ⟨w.heap.size + 2, 0, none⟩ = false := by simp [go_sem, *]
    have q7 : w3.frozen? ⟨w.heap.size + 2, 1, none⟩ = false := by simp [go_sem, *]
    have z3 : w.heap.size + 3 ≤ w3.heap.size := by omega
    clear hb1 hz1 hc1_w hf1_w hl1_w0 hl1_w1 hl1_w2 hb2 hz2 hc2_w hf2_w hl2_w0 hl2_w1 hl2_w2 hb3 hz3 hc3_w hf3_w hv hv' he
    go_wp2_with fail
    go_region_held3 (fun w' => Below w3.heap.size w3 w' ∧ w'.cell? ⟨w.heap.size, 0, none⟩ = some (.slice A n k) ∧ w'.cell? ⟨w.heap.size, 1, none⟩ = some (.slice (some ⟨b, off, none⟩) m l) ∧ w'.cell? ⟨w.heap.size + 1, 0, none⟩ = some (.slice C n' k') ∧ w'.cell? ⟨w.heap.size + 1, 1, none⟩ = some (.slice (some ⟨b', off', none⟩) m' l'))
      (first | assumption | (refine ⟨?_, ?_, ?_, ?_, ?_⟩ <;> first | assumption | exact (Below.refl _ _).drew | exact Below.cell_some (by assumption) (by assumption)))
      (first | (go_at_call 50; with_reducible refine (htc.out _ ?_).mono ?_; (exact bstep B3 (by first | assumption | exact (Below.refl _ _).drew)); rintro e w' ⟨rfl, hbx⟩; have hby : Below w3.heap.size w3 w' := bstep (by first | assumption | exact (Below.refl _ _).drew) hbx; clear hbx) | (go_at_call 50; with_reducible refine (htd.out _ ?_).mono ?_; (exact bstep B3 (by first | assumption | exact (Below.refl _ _).drew)); rintro e w' ⟨rfl, hbx⟩; have hby : Below w3.heap.size w3 w' := bstep (by first | assumption | exact (Below.refl _ _).drew) hbx; clear hbx))
    obtain ⟨_, s0, s1, s2, s3⟩ := ‹Below w3.heap.size w3 w' ∧ _›
    have s4 := Below.cell_some hby q4
    have s5 := Below.cell_some hby q5
    have s6 := (hby.frozen (p := ⟨w.heap.size + 2, 0, none⟩) (by simp; omega)).trans q6
    have s7 := (hby.frozen (p := ⟨w.heap.size + 2, 1, none⟩) (by simp; omega)).trans q7
    have hBw := hB.below mono_int (bstep B3 hby)
    have hDw := hD.below mono_int (bstep B3 hby)
    have z4 : w.heap.size + 3 ≤ w'.heap.size := Nat.le_trans z3 hby.size
    clear q0 q1 q2 q3 q4 q5 q6 q7
    go_wp2_with fail
    refine bodyPost_ret (v := .tuple #[.agg #[.int .i64 0, .int .i64 0], .int .i64 10]) (by simp [results, Try.results20, go_sem, *]) rfl ?_
    exact ⟨by rw [HR.out], (by repeat (first | exact Below.refl _ _ | assumption | refine Below.drew ?_ | refine bdrewN ?_ _ | refine Below.alloc ?_ (by first | omega | (simp; done) | (simp; omega) | exact Below.size (by assumption)) _ | refine Below.setCell ?_ (by first | omega | (simp; done) | (simp; omega)) _ | refine bstep ?_ (by assumption)))⟩
  by_cases hz' : tot c' = 0
  · have HR := Lib.hid (distR_none v1 v2 (.inr hz'))
    have hz1 : (tot c == 0) = false := by simp [hz]
    have hz2 : (tot c' == 0) = true := by simp [hz']
    clear hz hz'
    go_enter Try.func20, Try.ntmps20
    go_wp2_with fail
    refine (hv.out _ (by repeat (first | exact Below.refl _ _ | assumption | refine Below.drew ?_ | refine bdrewN ?_ _ | refine Below.alloc ?_ (by first | omega | (simp; done) | (simp; omega) | exact Below.size (by assumption)) _ | refine Below.setCell ?_ (by first | omega | (simp; done) | (simp; omega)) _ | refine bstep ?_ (by assumption)))).mono ?_
    rintro e w1 ⟨rfl, hb1⟩
    have hz1 := hb1.size
    try simp at hz1
    obtain ⟨hc1_w, hf1_w⟩ := bcellm (M := w.heap.size + 3) hb1 (by first | omega | (simp; done) | (simp; omega))
    have hl1_w0 : w.heap.size < w1.heap.size := by omega
    have hl1_w1 : w.heap.size + 1 < w1.heap.size := by omega
    have hl1_w2 : w.heap.size + 2 < w1.heap.size := by omega
    rw [v1]
    go_wp2_with fail
    refine (hv'.out _ (by repeat (first | exact Below.refl _ _ | assumption | refine Below.drew ?_ | refine bdrewN ?_ _ | refine Below.alloc ?_ (by first | omega | (simp; done) | (simp; omega) | exact Below.size (by assumption)) _ | refine Below.setCell ?_ (by first | omega | (simp; done) | (simp; omega)) _ | refine bstep ?_ (by assumption)))).mono ?_
    rintro e w2 ⟨rfl, hb2⟩
    have hz2 := hb2.size
    try simp at hz2
    obtain ⟨hc2_w, hf2_w⟩ := bcellm (M := w.heap.size + 3) hb2 (by first | omega | (simp; done) | (simp; omega))
    have hl2_w0 : w.heap.size < w2.heap.size := by omega
    have hl2_w1 : w.heap.size + 1 < w2.heap.size := by omega
    have hl2_w2 : w.heap.size + 2 < w2.heap.size := by omega
    rw [v2]
    go_wp2_with fail
    refine (he.out _ (by repeat (first | exact Below.refl _ _ | assumption | refine Below.drew ?_ | refine bdrewN ?_ _ | refine Below.alloc ?_ (by first | omega | (simp; done) | (simp; omega) | exact Below.size (by assumption)) _ | refine Below.setCell ?_ (by first | omega | (simp; done) | (simp; omega)) _ | refine bstep ?_ (by assumption)))).mono ?_
    rintro e w3 ⟨rfl, hb3⟩
    have hz3 := hb3.size
    try simp at hz3
    obtain ⟨hc3_w, hf3_w⟩ := bcellm (M := w.heap.size + 3) hb3 (by first | omega | (simp; done) | (simp; omega))
    have hl3_w0 : w.heap.size < w3.heap.size := by omega
    have hl3_w1 : w.heap.size + 1 < w3.heap.size := by omega
    have hl3_w2 : w.heap.size + 2 < w3.heap.size := by omega
    rw [hd]
    have B3 : Below w.heap.size w w3 := (by repeat (first | exact Below.refl _ _ | assumption | refine Below.drew ?_ | refine bdrewN ?_ _ | refine Below.alloc ?_ (by first | omega | (simp; done) | (simp; omega) | exact Below.size (by assumption)) _ | refine Below.setCell ?_ (by first | omega | (simp; done) | (simp; omega)) _ | refine bstep ?_ (by assumption)))
    have q0 : w3.cell? ⟨w.heap.size, 0, none⟩ = some (.slice A n k) := by simp [go_sem, *]
    have q1 : w3.cell? ⟨w.heap.size, 1, none⟩ = some (.slice (some ⟨b, off, none⟩) m l) := by simp [go_sem, *]
    have q2 : w3.cell? ⟨w.heap.size + 1, 0, none⟩ = some (.slice C n' k') := by simp [go_sem, *]
    have q3 : w3.cell? ⟨w.heap.size + 1, 1, none⟩ = some (.slice (some ⟨b', off', none⟩) m' l') := by simp [go_sem, *]
    have q4 : w3.cell? ⟨w.heap.size + 2, 0, none⟩ = some (.int .i64 0) := by simp [go_sem, *]
    have q5 : w3.cell? ⟨w.heap.size + 2, 1, none⟩ = some (.int .i64 0) := by simp [go_sem, *]
    have q6 : w3.frozen? ⟨w.heap.size + 2, 0, none⟩ = false := by simp [go_sem, *]
    have q7 : w3.frozen? ⟨w.heap.size + 2, 1, none⟩ = false := by simp [go_sem, *]
    have z3 : w.heap.size + 3 ≤ w3.heap.size := by omega
    clear hb1 hz1 hc1_w hf1_w hl1_w0 hl1_w1 hl1_w2 hb2 hz2 hc2_w hf2_w hl2_w0 hl2_w1 hl2_w2 hb3 hz3 hc3_w hf3_w hv hv' he
    go_wp2_with fail
    go_region_held3 (fun w' => Below w3.heap.size w3 w' ∧ w'.cell? ⟨w.heap.size, 0, none⟩ = some (.slice A n k) ∧ w'.cell? ⟨w.heap.size, 1, none⟩ = some (.slice (some ⟨b, off, none⟩) m l) ∧ w'.cell? ⟨w.heap.size + 1, 0, none⟩ = some (.slice C n' k') ∧ w'.cell? ⟨w.heap.size + 1, 1, none⟩ = some (.slice (some ⟨b', off', none⟩) m' l'))
      (first | assumption | (refine ⟨?_, ?_, ?_, ?_, ?_⟩ <;> first | assumption | exact (Below.refl _ _).drew | exact Below.cell_some (by assumption) (by assumption)))
      (first | (go_at_call 50; with_reducible refine (htc.out _ ?_).mono ?_; (exact bstep B3 (by first | assumption | exact (Below.refl _ _).drew)); rintro e w' ⟨rfl, hbx⟩; have hby : Below w3.heap.size w3 w' := bstep (by first | assumption | exact (Below.refl _ _).drew) hbx; clear hbx) | (go_at_call 50; with_reducible refine (htd.out _ ?_).mono ?_; (exact bstep B3 (by first | assumption | exact (Below.refl _ _).drew)); rintro e w' ⟨rfl, hbx⟩; have hby : Below w3.heap.size w3 w' := bstep (by first | assumption | exact (Below.refl _ _).drew) hbx; clear hbx))
    obtain ⟨_, s0, s1, s2, s3⟩ := ‹Below w3.heap.size w3 w' ∧ _›
    have s4 := Below.cell_some hby q4
    have s5 := Below.cell_some hby q5
    have s6 := (hby.frozen (p := ⟨w.heap.size + 2, 0, none⟩) (by simp; omega)).trans q6
    have s7 := (hby.frozen (p := ⟨w.heap.size + 2, 1, none⟩) (by simp; omega)).trans q7
    have hBw := hB.below mono_int (bstep B3 hby)
    have hDw := hD.below mono_int (bstep B3 hby)
    have z4 : w.heap.size + 3 ≤ w'.heap.size := Nat.le_trans z3 hby.size
    clear q0 q1 q2 q3 q4 q5 q6 q7
    go_wp2_with fail
    refine bodyPost_ret (v := .tuple #[.agg #[.int .i64 0, .int .i64 0], .int .i64 10]) (by simp [results, Try.results20, go_sem, *]) rfl ?_
    exact ⟨by rw [HR.out], (by repeat (first | exact Below.refl _ _ | assumption | refine Below.drew ?_ | refine bdrewN ?_ _ | refine Below.alloc ?_ (by first | omega | (simp; done) | (simp; omega) | exact Below.size (by assumption)) _ | refine Below.setCell ?_ (by first | omega | (simp; done) | (simp; omega)) _ | refine bstep ?_ (by assumption)))⟩
  · have HR := Lib.hid (distR_ok v1 v2 (by omega : ¬ (tot c = 0 ∨ tot c' = 0)))
    have hz1 : (tot c == 0) = false := by simp [hz]
    have hz2 : (tot c' == 0) = false := by simp [hz']
    have hpr := mul_bd t1.1 t1.2 t2.1 t2.2
    have hmk := Lib.hid fun (w1 : World) (S : Int) (h1 : 0 ≤ S) (h2 : S ≤ 17179869184000000) => fmake_any S (tot c * tot c') w1 (by omega) (by omega) (by omega) (by omega)
    clear hz hz'
    go_enter Try.func20, Try.ntmps20
    go_wp2_with fail
    refine (hv.out _ (by repeat (first | exact Below.refl _ _ | assumption | refine Below.drew ?_ | refine bdrewN ?_ _ | refine Below.alloc ?_ (by first | omega | (simp; done) | (simp; omega) | exact Below.size (by assumption)) _ | refine Below.setCell ?_ (by first | omega | (simp; done) | (simp; omega)) _ | refine bstep ?_ (by assumption)))).mono ?_
    rintro e w1 ⟨rfl, hb1⟩
    have hz1 := hb1.size
    try simp at hz1
    obtain ⟨hc1_w, hf1_w⟩ := bcellm (M := w.heap.size + 3) hb1 (by first | omega | (simp; done) | (simp; omega))
    have hl1_w0 : w.heap.size < w1.heap.size := by omega
    have hl1_w1 : w.heap.size + 1 < w1.heap.size := by omega
    have hl1_w2 : w.heap.size + 2 < w1.heap.size := by omega
    rw [v1]
    go_wp2_with fail
    refine (hv'.out _ (by repeat (first | exact Below.refl _ _ | assumption | refine Below.drew ?_ | refine bdrewN ?_ _ | refine Below.alloc ?_ (by first | omega | (simp; done) | (simp; omega) | exact Below.size (by assumption)) _ | refine Below.setCell ?_ (by first | omega | (simp; done) | (simp; omega)) _ | refine bstep ?_ (by assumption)))).mono ?_
    rintro e w2 ⟨rfl, hb2⟩
    have hz2 := hb2.size
    try simp at hz2
    obtain ⟨hc2_w, hf2_w⟩ := bcellm (M := w.heap.size + 3) hb2 (by first | omega | (simp; done) | (simp; omega))
    have hl2_w0 : w.heap.size < w2.heap.size := by omega
    have hl2_w1 : w.heap.size + 1 < w2.heap.size := by omega
    have hl2_w2 : w.heap.size + 2 < w2.heap.size := by omega
    rw [v2]
    go_wp2_with fail
    refine (he.out _ (by repeat (first | exact Below.refl _ _ | assumption | refine Below.drew ?_ | refine bdrewN ?_ _ | refine Below.alloc ?_ (by first | omega | (simp; done) | (simp; omega) | exact Below.size (by assumption)) _ | refine Below.setCell ?_ (by first | omega | (simp; done) | (simp; omega)) _ | refine bstep ?_ (by assumption)))).mono ?_
    rintro e w3 ⟨rfl, hb3⟩
    have hz3 := hb3.size
    try simp at hz3
    obtain ⟨hc3_w, hf3_w⟩ := bcellm (M := w.heap.size + 3) hb3 (by first | omega | (simp; done) | (simp; omega))
    have hl3_w0 : w.heap.size < w3.heap.size := by omega
    have hl3_w1 : w.heap.size + 1 < w3.heap.size := by omega
    have hl3_w2 : w.heap.size + 2 < w3.heap.size := by omega
    rw [hd]
    have B3 : Below w.heap.size w w3 := (by repeat (first | exact Below.refl _ _ | assumption | refine Below.drew ?_ | refine bdrewN ?_ _ | refine Below.alloc ?_ (by first | omega | (simp; done) | (simp; omega) | exact Below.size (by assumption)) _ | refine Below.setCell ?_ (by first | omega | (simp; done) | (simp; omega)) _ | refine bstep ?_ (by assumption)))
    have q0 : w3.cell? ⟨w.heap.size, 0, none⟩ = some (.slice A n k) := by simp [go_sem, *]
    have q1 : w3.cell? ⟨w.heap.size, 1, none⟩ = some (.slice (some ⟨b, off, none⟩) m l) := by simp [go_sem, *]
    have q2 : w3.cell? ⟨w.heap.size + 1, 0, none⟩ = some (.slice C n' k') := by simp [go_sem, *]
    have q3 : w3.cell? ⟨w.heap.size + 1, 1, none⟩ = some (.slice (some ⟨b', off', none⟩) m' l') := by simp [go_sem, *]
    have q4 : w3.cell? ⟨w.heap.size + 2, 0, none⟩ = some (.int .i64 0) := by simp [go_sem, *]
    have q5 : w3.cell? ⟨w.heap.size + 2, 1, none⟩ = some (.int .i64 0) := by simp [go_sem, *]
    have q6 : w3.frozen? ⟨w.heap.size + 2, 0, none⟩ = false := by simp [go_sem, *]
    have q7 : w3.frozen? ⟨w.heap.size + 2, 1, none⟩ = false := by simp [go_sem, *]
    have z3 : w.heap.size + 3 ≤ w3.heap.size := by omega
    clear hb1 hz1 hc1_w hf1_w hl1_w0 hl1_w1 hl1_w2 hb2 hz2 hc2_w hf2_w hl2_w0 hl2_w1 hl2_w2 hb3 hz3 hc3_w hf3_w hv hv' he
    go_wp2_with fail
    go_region_held3 (fun w' => Below w3.heap.size w3 w' ∧ w'.cell? ⟨w.heap.size, 0, none⟩ = some (.slice A n k) ∧ w'.cell? ⟨w.heap.size, 1, none⟩ = some (.slice (some ⟨b, off, none⟩) m l) ∧ w'.cell? ⟨w.heap.size + 1, 0, none⟩ = some (.slice C n' k') ∧ w'.cell? ⟨w.heap.size + 1, 1, none⟩ = some (.slice (some ⟨b', off', none⟩) m' l'))
      (first | assumption | (refine ⟨?_, ?_, ?_, ?_, ?_⟩ <;> first | assumption | exact (Below.refl _ _).drew | exact Below.cell_some (by assumption) (by assumption)))
      (first | (go_at_call 50; with_reducible refine (htc.out _ ?_).mono ?_; (exact bstep B3 (by first | assumption | exact (Below.refl _ _).drew)); rintro e w' ⟨rfl, hbx⟩; have hby : Below w3.heap.size w3 w' := bstep (by first | assumption | exact (Below.refl _ _).drew) hbx; clear hbx) | (go_at_call 50; with_reducible refine (htd.out _ ?_).mono ?_; (exact bstep B3 (by first | assumption | exact (Below.refl _ _).drew)); rintro e w' ⟨rfl, hbx⟩; have hby : Below w3.heap.size w3 w' := bstep (by first | assumption | exact (Below.refl _ _).drew) hbx; clear hbx))
    obtain ⟨_, s0, s1, s2, s3⟩ := ‹Below w3.heap.size w3 w' ∧ _›
    have s4 := Below.cell_some hby q4
    have s5 := Below.cell_some hby q5
    have s6 := (hby.frozen (p := ⟨w.heap.size + 2, 0, none⟩) (by simp; omega)).trans q6
    have s7 := (hby.frozen (p := ⟨w.heap.size + 2, 1, none⟩) (by simp; omega)).trans q7
    have hBw := hB.below mono_int (bstep B3 hby)
    have hDw := hD.below mono_int (bstep B3 hby)
    have z4 : w.heap.size + 3 ≤ w'.heap.size := Nat.le_trans z3 hby.size
    clear q0 q1 q2 q3 q4 q5 q6 q7
    go_wp2_with fail
    go_loop [8, 9, 10, 45] (fun x y s i => ∃ j : Nat, j ≤ m ∧ i = .int .i64 j ∧ x = .int .i64 (pre c j) ∧ y = .int .i64 (pre c' j) ∧ s = .int .i64 (dsum c c' j)) (fun _ _ _ i => m - (intOf i).toNat)
    case atStart => exact ⟨0, Nat.zero_le _, rfl, by rw [pre_zero], by rw [pre_zero], rfl⟩
    case round =>
      obtain ⟨j, hj, rfl, rfl, rfl, rfl⟩ := hrel
      by_cases hlt : j < m
      · have hk1 : j < c.length := by rw [Hb.out]; exact hlt
        have hk2 : j < c'.length := by rw [Hd.out]; omega
        have hcj := hBw.at_ hk1
        have hcj' := hDw.at_ hk2
        have p1 := pre_bd SM.out j (by omega)
        have p2 := pre_bd SM'.out j (by omega)
        have p3 := SM.out.at_ hk1
        have p4 := SM'.out.at_ hk2
        have ds := dsum_bd SM.out SM'.out j (by omega) (by omega)
        have m1 := mul_bd (a := pre c j + c[j]) (A := 26214400) (by omega) (by omega) t2.1 t2.2
        have m2 := mul_bd (a := pre c' j + c'[j]) (A := 26214400) (by omega) (by omega) t1.1 t1.2
        have hm' : (j : Int) < (m' : Int) := by omega
        have HP := Lib.hid (pre_succ hk1)
        have HP' := Lib.hid (pre_succ hk2)
        have HD : Hid (dsum c c' (j + 1) = dsum c c' j + ((pre c (j + 1) * tot c' - pre c' (j + 1) * tot c).natAbs : Int)) := rfl
        by_cases hsg : (pre c j + c[j]) * tot c' - (pre c' j + c'[j]) * tot c < -((pre c j + c[j]) * tot c' - (pre c' j + c'[j]) * tot c)
        all_goals
          go_wp2_with fail
          go_round
          case rel => exact ⟨j + 1, by omega, by go_num, by rw [HP.out], by rw [HP'.out], by rw [HD.out, HP.out, HP'.out]; congr 1; omega⟩
          case measure => simp [intOf]; omega
      · have hjm : j = c.length := by rw [Hb.out]; omega
        have ds := dsum_bd SM.out SM'.out j (by omega) (by rw [Hd.out]; omega)
        have ds2 : dsum c c' j ≤ 17179869184000000 := by omega
        have HJ := Lib.hid hjm
        clear hjm
        go_wp2_with fail
        refine (hmk.out _ _ ds.1 ds2).mono ?_
        rintro e w4 ⟨rfl, hb4⟩
        have hz4 := hb4.size
        try simp at hz4
        obtain ⟨hc4_w, hf4_w⟩ := bcellm (M := w.heap.size + 3) hb4 (by first | omega | (simp; done) | (simp; omega))
        have hl4_w0 : w.heap.size < w4.heap.size := by omega
        have hl4_w1 : w.heap.size + 1 < w4.heap.size := by omega
        have hl4_w2 : w.heap.size + 2 < w4.heap.size := by omega
        have HF : Hid (RetFrac (distR e c e c') = RetFrac (makeF (dsum c c' j) (tot c * tot c'))) := by rw [HR.out, ← HJ.out]; rfl
        go_wp2_with fail
        refine bodyPost_ret (v := .tuple #[.agg #[.int .i64 (makeF (dsum c c' j) (tot c * tot c')).1, .int .i64 (makeF (dsum c c' j) (tot c * tot c')).2.1], .int .i64 (makeF (dsum c c' j) (tot c * tot c')).2.2]) (by simp [results, Try.results20, go_sem, *]) rfl ?_
        rw [HF.out]
        exact ⟨rfl, (by repeat (first | exact Below.refl _ _ | assumption | refine Below.drew ?_ | refine bdrewN ?_ _ | refine Below.alloc ?_ (by first | omega | (simp; done) | (simp; omega) | exact Below.size (by assumption)) _ | refine Below.setCell ?_ (by first | omega | (simp; done) | (simp; omega)) _ | refine bstep ?_ (by assumption)))⟩
end Go.Proofs.Ytibnaangfdohiaa
