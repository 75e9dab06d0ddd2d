/- The walk through timing.Merge. -/
import Derived.Test.YtibnaangfdohiaaTim1
import Derived.Test.YtibnaangfdohiaaH40c
import Derived.Test.YtibnaangfdohiaaCloneI
import Derived.Deep.RegionHeld3
import Derived.Deep.DeepCutAuto
namespace Go.Proofs.Ytibnaangfdohiaa
open Go.RowKit

/-- Two results: a histogram, a number. -/
def RetHist (r : List Int × List Int × Int) (w : World) (e : Ending) (w' : World) : Prop :=
  ∃ A n k B m l, e = .returned (.tuple #[.agg #[.slice A n k, .slice B m l], .int .i64 r.2.2]) ∧ Ints w' A n r.1 ∧ Ints w' B m r.2.1 ∧ Below w.heap.size w w'

set_option maxRecDepth 100000 in
set_option maxHeartbeats 4000000 in
theorem merge_any (A B C D : Option Addr) (n k m l n' k' m' l' : Nat) (e c e' c' : List Int) (w : World) (hA : Ints w A n e) (hB : Ints w B m c) (hC : Ints w C n' e') (hD : Ints w D m' c') :
    Calls Try.prog 24 #[.agg #[.slice A n k, .slice B m l], .agg #[.slice C n' k', .slice D m' l']] w (RetHist (mergeR e c e' c') w) := by
  have hv := Lib.hid fun (w1 : World) (hb : Below w.heap.size w w1) => tvalid_any A B n k m l e c w1 (hA.below mono_int hb) (hB.below mono_int hb)
  have hv' := Lib.hid fun (w1 : World) (hb : Below w.heap.size w w1) => tvalid_any C D n' k' m' l' e' c' w1 (hC.below mono_int hb) (hD.below mono_int hb)
  have he := Lib.hid fun (w1 : World) (hb : Below w.heap.size w w1) => equal_int A C n k n' k' e e' w1 (hA.below mono_int hb) (hC.below mono_int hb)
  by_cases v1 : validH e c = true
  rotate_left
  · have v1 : validH e c = false := by simpa using v1
    have HR := Lib.hid (mergeR_arg (e' := e') (c' := c') (.inl v1))
    go_enter Try.func24, Try.ntmps24
    go_wp2_with fail
    refine (hv.out _ (by repeat (first | exact Below.refl _ _ | assumption | refine Below.drew ?_ | refine bdrewN ?_ _ | refine Below.alloc ?_ (by first | omega | (simp; done) | (simp; omega) | exact Below.size (by assumption)) _ | refine Below.setCell ?_ (by first | omega | (simp; done) | (simp; omega)) _ | refine bstep ?_ (by assumption)))).mono ?_
    rintro e w1 ⟨rfl, hb1⟩
    have hz1 := hb1.size
    try simp at hz1
    obtain ⟨hc1_w, hf1_w⟩ := bcellm (M := w.heap.size + 3) hb1 (by first | omega | (simp; done) | (simp; omega))
    have hl1_w0 : w.heap.size < w1.heap.size := by omega
    have hl1_w1 : w.heap.size + 1 < w1.heap.size := by omega
    have hl1_w2 : w.heap.size + 2 < w1.heap.size := by omega
    rw [v1]
    go_wp2_with fail
    refine bodyPost_ret (v := .tuple #[.agg #[.slice none 0 0, .slice none 0 0], .int .i64 1]) (by simp [results, Try.results24, go_sem, *]) rfl ?_
    rw [HR.out]
    exact ⟨_, _, _, _, _, _, rfl, Sl.nil, Sl.nil, (by repeat (first | exact Below.refl _ _ | assumption | refine Below.drew ?_ | refine bdrewN ?_ _ | refine Below.alloc ?_ (by first | omega | (simp; done) | (simp; omega) | exact Below.size (by assumption)) _ | refine Below.setCell ?_ (by first | omega | (simp; done) | (simp; omega)) _ | refine bstep ?_ (by assumption)))⟩
  by_cases v2 : validH e' c' = true
  rotate_left
  · have v2 : validH e' c' = false := by simpa using v2
    have HR := Lib.hid (mergeR_arg (e := e) (c := c) (.inr v2))
    go_enter Try.func24, Try.ntmps24
    go_wp2_with fail
    refine (hv.out _ (by repeat (first | exact Below.refl _ _ | assumption | refine Below.drew ?_ | refine bdrewN ?_ _ | refine Below.alloc ?_ (by first | omega | (simp; done) | (simp; omega) | exact Below.size (by assumption)) _ | refine Below.setCell ?_ (by first | omega | (simp; done) | (simp; omega)) _ | refine bstep ?_ (by assumption)))).mono ?_
    rintro e w1 ⟨rfl, hb1⟩
    have hz1 := hb1.size
    try simp at hz1
    obtain ⟨hc1_w, hf1_w⟩ := bcellm (M := w.heap.size + 3) hb1 (by first | omega | (simp; done) | (simp; omega))
    have hl1_w0 : w.heap.size < w1.heap.size := by omega
    have hl1_w1 : w.heap.size + 1 < w1.heap.size := by omega
    have hl1_w2 : w.heap.size + 2 < w1.heap.size := by omega
    rw [v1]
    go_wp2_with fail
    refine (hv'.out _ (by repeat (first | exact Below.refl _ _ | assumption | refine Below.drew ?_ | refine bdrewN ?_ _ | refine Below.alloc ?_ (by first | omega | (simp; done) | (simp; omega) | exact Below.size (by assumption)) _ | refine Below.setCell ?_ (by first | omega | (simp; done) | (simp; omega)) _ | refine bstep ?_ (by assumption)))).mono ?_
    rintro e w2 ⟨rfl, hb2⟩
    have hz2 := hb2.size
    try simp at hz2
    obtain ⟨hc2_w, hf2_w⟩ := bcellm (M := w.heap.size + 3) hb2 (by first | omega | (simp; done) | (simp; omega))
    have hl2_w0 : w.heap.size < w2.heap.size := by omega
    have hl2_w1 : w.heap.size + 1 < w2.heap.size := by omega
    have hl2_w2 : w.heap.size + 2 < w2.heap.size := by omega
    rw [v2]
    go_wp2_with fail
    refine bodyPost_ret (v := .tuple #[.agg #[.slice none 0 0, .slice none 0 0], .int .i64 1]) (by simp [results, Try.results24, go_sem, *]) rfl ?_
    rw [HR.out]
    exact ⟨_, _, _, _, _, _, rfl, Sl.nil, Sl.nil, (by repeat (first | exact Below.refl _ _ | assumption | refine Below.drew ?_ | refine bdrewN ?_ _ | refine Below.alloc ?_ (by first | omega | (simp; done) | (simp; omega) | exact Below.size (by assumption)) _ | refine Below.setCell ?_ (by first | omega | (simp; done) | (simp; omega)) _ | refine bstep ?_ (by assumption)))⟩
  by_cases hee : e = e'
  rotate_left
  · have HR := Lib.hid (mergeR_size v1 v2 hee)
    have hd : decide (e = e') = false := by simpa using hee
    clear hee
    go_enter Try.func24, Try.ntmps24
    go_wp2_with fail
    refine (hv.out _ (by repeat (first | exact Below.refl _ _ | assumption | refine Below.drew ?_ | refine bdrewN ?_ _ | refine Below.alloc ?_ (by first | omega | (simp; done) | (simp; omega) | exact Below.size (by assumption)) _ | refine Below.setCell ?_ (by first | omega | (simp; done) | (simp; omega)) _ | refine bstep ?_ (by assumption)))).mono ?_
    rintro e w1 ⟨rfl, hb1⟩
    have hz1 := hb1.size
    try simp at hz1
    obtain ⟨hc1_w, hf1_w⟩ := bcellm (M := w.heap.size + 3) hb1 (by first | omega | (simp; done) | (simp; omega))
    have hl1_w0 : w.heap.size < w1.heap.size := by omega
    have hl1_w1 : w.heap.size + 1 < w1.heap.size := by omega
    have hl1_w2 : w.heap.size + 2 < w1.heap.size := by omega
    rw [v1]
    go_wp2_with fail
    refine (hv'.out _ (by repeat (first | exact Below.refl _ _ | assumption | refine Below.drew ?_ | refine bdrewN ?_ _ | refine Below.alloc ?_ (by first | omega | (simp; done) | (simp; omega) | exact Below.size (by assumption)) _ | refine Below.setCell ?_ (by first | omega | (simp; done) | (simp; omega)) _ | refine bstep ?_ (by assumption)))).mono ?_
    rintro e w2 ⟨rfl, hb2⟩
    have hz2 := hb2.size
    try simp at hz2
    obtain ⟨hc2_w, hf2_w⟩ := bcellm (M := w.heap.size + 3) hb2 (by first | omega | (simp; done) | (simp; omega))
    have hl2_w0 : w.heap.size < w2.heap.size := by omega
    have hl2_w1 : w.heap.size + 1 < w2.heap.size := by omega
    have hl2_w2 : w.heap.size + 2 < w2.heap.size := by omega
    rw [v2]
    go_wp2_with fail
    refine (he.out _ (by repeat (first | exact Below.refl _ _ | assumption | refine Below.drew ?_ | refine bdrewN ?_ _ | refine Below.alloc ?_ (by first | omega | (simp; done) | (simp; omega) | exact Below.size (by assumption)) _ | refine Below.setCell ?_ (by first | omega | (simp; done) | (simp; omega)) _ | refine bstep ?_ (by assumption)))).mono ?_
    rintro e w3 ⟨rfl, hb3⟩
    have hz3 := hb3.size
    try simp at hz3
    obtain ⟨hc3_w, hf3_w⟩ := bcellm (M := w.heap.size + 3) hb3 (by first | omega | (simp; done) | (simp; omega))
    have hl3_w0 : w.heap.size < w3.heap.size := by omega
    have hl3_w1 : w.heap.size + 1 < w3.heap.size := by omega
    have hl3_w2 : w.heap.size + 2 < w3.heap.size := by omega
    rw [hd]
    go_wp2_with fail
    refine bodyPost_ret (v := .tuple #[.agg #[.slice none 0 0, .slice none 0 0], .int .i64 29]) (by simp [results, Try.results24, go_sem, *]) rfl ?_
    rw [HR.out]
    exact ⟨_, _, _, _, _, _, rfl, Sl.nil, Sl.nil, (by repeat (first | exact Below.refl _ _ | assumption | refine Below.drew ?_ | refine bdrewN ?_ _ | refine Below.alloc ?_ (by first | omega | (simp; done) | (simp; omega) | exact Below.size (by assumption)) _ | refine Below.setCell ?_ (by first | omega | (simp; done) | (simp; omega)) _ | refine bstep ?_ (by assumption)))⟩
  subst hee
  have hd : decide (e = e) = true := by simp
  have V := validH_iff.1 v1
  have V' := validH_iff.1 v2
  have hm1 : m + 1 = n := by have := V.2.1; rw [hB.1, hA.1] at this; exact this
  have hm2 : m' + 1 = n := by have := V'.2.1; rw [hD.1, hA.1] at this; exact this
  have hn20 : n ≤ 20 := by have := V.1.2.1; rw [hA.1] at this; exact this
  have hn2 : 2 ≤ n := by have := V.1.1; rw [hA.1] at this; exact this
  have Ha := Lib.hid hA.1
  have Hb := Lib.hid hB.1
  have Hd := Lib.hid hD.1
  have wA := Lib.hid hA.wfs
  obtain ⟨b0, off0, rfl⟩ := hA.open1 (by omega)
  obtain ⟨b, off, rfl⟩ := hB.open1 (by omega)
  obtain ⟨b', off', rfl⟩ := hD.open1 (by omega)
  have SM := Lib.hid V.small
  have SM' := Lib.hid V'.small
  have hcA := Lib.hid fun (w1 : World) (hb : Below w.heap.size w w1) => clone_int (some ⟨b0, off0, none⟩) n k e w1 (hA.below mono_int hb) (by omega)
  have hcB := Lib.hid fun (w1 : World) (hb : Below w.heap.size w w1) => clone_int (some ⟨b, off, none⟩) m l c w1 (hB.below mono_int hb) (by omega)
  have HO := Lib.hid (mergeR_ok v1 v2)
  have HBig := Lib.hid fun i h1 h2 h3 => mergeR_big v1 v2 (i := i) h1 h2 h3
  clear V V'
  go_enter Try.func24, Try.ntmps24
  go_wp2_with fail
  refine (hv.out _ (by repeat (first | exact Below.refl _ _ | assumption | refine Below.drew ?_ | refine bdrewN ?_ _ | refine Below.alloc ?_ (by first | omega | (simp; done) | (simp; omega) | exact Below.size (by assumption)) _ | refine Below.setCell ?_ (by first | omega | (simp; done) | (simp; omega)) _ | refine bstep ?_ (by assumption)))).mono ?_
  rintro e w1 ⟨rfl, hb1⟩
  have hz1 := hb1.size
  try simp at hz1
  obtain ⟨hc1_w, hf1_w⟩ := bcellm (M := w.heap.size + 3) hb1 (by first | omega | (simp; done) | (simp; omega))
  have hl1_w0 : w.heap.size < w1.heap.size := by omega
  have hl1_w1 : w.heap.size + 1 < w1.heap.size := by omega
  have hl1_w2 : w.heap.size + 2 < w1.heap.size := by omega
  rw [v1]
  go_wp2_with fail
  refine (hv'.out _ (by repeat (first | exact Below.refl _ _ | assumption | refine Below.drew ?_ | refine bdrewN ?_ _ | refine Below.alloc ?_ (by first | omega | (simp; done) | (simp; omega) | exact Below.size (by assumption)) _ | refine Below.setCell ?_ (by first | omega | (simp; done) | (simp; omega)) _ | refine bstep ?_ (by assumption)))).mono ?_
  rintro e w2 ⟨rfl, hb2⟩
  have hz2 := hb2.size
  try simp at hz2
  obtain ⟨hc2_w, hf2_w⟩ := bcellm (M := w.heap.size + 3) hb2 (by first | omega | (simp; done) | (simp; omega))
  have hl2_w0 : w.heap.size < w2.heap.size := by omega
  have hl2_w1 : w.heap.size + 1 < w2.heap.size := by omega
  have hl2_w2 : w.heap.size + 2 < w2.heap.size := by omega
  rw [v2]
  go_wp2_with fail
  refine (he.out _ (by repeat (first | exact Below.refl _ _ | assumption | refine Below.drew ?_ | refine bdrewN ?_ _ | refine Below.alloc ?_ (by first | omega | (simp; done) | (simp; omega) | exact Below.size (by assumption)) _ | refine Below.setCell ?_ (by first | omega | (simp; done) | (simp; omega)) _ | refine bstep ?_ (by assumption)))).mono ?_
  rintro e w3 ⟨rfl, hb3⟩
  have hz3 := hb3.size
  try simp at hz3
  obtain ⟨hc3_w, hf3_w⟩ := bcellm (M := w.heap.size + 3) hb3 (by first | omega | (simp; done) | (simp; omega))
  have hl3_w0 : w.heap.size < w3.heap.size := by omega
  have hl3_w1 : w.heap.size + 1 < w3.heap.size := by omega
  have hl3_w2 : w.heap.size + 2 < w3.heap.size := by omega
  rw [hd]
  have B3 : Below w.heap.size w w3 := (by repeat (first | exact Below.refl _ _ | assumption | refine Below.drew ?_ | refine bdrewN ?_ _ | refine Below.alloc ?_ (by first | omega | (simp; done) | (simp; omega) | exact Below.size (by assumption)) _ | refine Below.setCell ?_ (by first | omega | (simp; done) | (simp; omega)) _ | refine bstep ?_ (by assumption)))
  have q0 : w3.cell? ⟨w.heap.size, 0, none⟩ = some (.slice (some ⟨b0, off0, none⟩) n k) := by simp [go_sem, *]
  have q1 : w3.cell? ⟨w.heap.size, 1, none⟩ = some (.slice (some ⟨b, off, none⟩) m l) := by simp [go_sem, *]
  have q3 : w3.cell? ⟨w.heap.size + 1, 1, none⟩ = some (.slice (some ⟨b', off', none⟩) m' l') := by simp [go_sem, *]
  have q4 : w3.cell? ⟨w.heap.size + 2, 0, none⟩ = some (.slice none 0 0) := by simp [go_sem, *]
  have q5 : w3.cell? ⟨w.heap.size + 2, 1, none⟩ = some (.slice none 0 0) := by simp [go_sem, *]
  have q6 : w3.frozen? ⟨w.heap.size + 2, 0, none⟩ = false := by simp [go_sem, *]
  have q7 : w3.frozen? ⟨w.heap.size + 2, 1, none⟩ = false := by simp [go_sem, *]
  have z3 : w.heap.size + 3 ≤ w3.heap.size := by omega
  clear hb1 hz1 hc1_w hf1_w hl1_w0 hl1_w1 hl1_w2 hb2 hz2 hc2_w hf2_w hl2_w0 hl2_w1 hl2_w2 hb3 hz3 hc3_w hf3_w hv hv' he
  go_upto_region 5 with fail
  go_cut [6] (fun s6 wx => ∃ g g1 g2 c1 c2 : Nat, ∃ cur1 cur2 : Array Value, s6 = .pointer (some ⟨g, 0, none⟩) ∧ Blk wx g 24 #[.slice (some ⟨g1, 0, none⟩) n c1, .slice (some ⟨g2, 0, none⟩) m c2] ∧ Blk wx g1 3 cur1 ∧ Blk wx g2 3 cur2 ∧ g1 ≠ g2 ∧ w3.heap.size ≤ g1 ∧ w3.heap.size ≤ g2 ∧ w3.heap.size ≤ g ∧ m ≤ cur2.size ∧ Hid (∀ j (hj : j < e.length), cur1[j]? = some (.int .i64 e[j])) ∧ Hid (∀ j (hj : j < c.length), cur2[j]? = some (.int .i64 c[j])) ∧ Below w3.heap.size w3 wx)
  case first =>
    go_region_held3 (fun w' => Below w3.heap.size w3 w' ∧ w'.cell? ⟨w.heap.size, 0, none⟩ = some (.slice (some ⟨b0, off0, none⟩) n k) ∧ w'.cell? ⟨w.heap.size, 1, none⟩ = some (.slice (some ⟨b, off, none⟩) m l))
      (first | assumption | ((try dsimp only); refine ⟨?_, ?_, ?_⟩ <;> first | assumption | (first | assumption | exact Below.refl _ _ | ((repeat (first | refine Below.drew ?_ | refine bdrewN ?_ _ | refine Below.alloc ?_ (by first | omega | (simp; done) | (simp; omega) | exact Below.size (by assumption)) _ | refine Below.setCell ?_ (by first | omega | (simp; done) | (simp; omega)) _)); (first | assumption | exact Below.refl _ _))) | (refine Below.cell_some (w := w3) ?_ (by assumption); (first | assumption | exact Below.refl _ _ | ((repeat (first | refine Below.drew ?_ | refine bdrewN ?_ _ | refine Below.alloc ?_ (by first | omega | (simp; done) | (simp; omega) | exact Below.size (by assumption)) _ | refine Below.setCell ?_ (by first | omega | (simp; done) | (simp; omega)) _)); (first | assumption | exact Below.refl _ _))))))
      (first | (go_at_call 48; (with_reducible refine (hcA.out _ ?_).mono ?_); (refine bstep B3 ?_; (first | assumption | exact Below.refl _ _ | ((repeat (first | refine Below.drew ?_ | refine bdrewN ?_ _ | refine Below.alloc ?_ (by first | omega | (simp; done) | (simp; omega) | exact Below.size (by assumption)) _ | refine Below.setCell ?_ (by first | omega | (simp; done) | (simp; omega)) _)); (first | assumption | exact Below.refl _ _)))); rintro e w' ⟨v', rfl, hown, hbx1⟩; have hby1 : Below w3.heap.size w3 w' := bstep (by (first | assumption | exact Below.refl _ _ | ((repeat (first | refine Below.drew ?_ | refine bdrewN ?_ _ | refine Below.alloc ?_ (by first | omega | (simp; done) | (simp; omega) | exact Below.size (by assumption)) _ | refine Below.setCell ?_ (by first | omega | (simp; done) | (simp; omega)) _)); (first | assumption | exact Below.refl _ _)))) hbx1; have hz1 := hbx1.size; have hz2 := hby1.size; (try simp [Nat.add_one_le_iff] at hz1); obtain ⟨hx1, hy1⟩ := bcellm hbx1 (Nat.le_refl _); obtain ⟨g1, c1, cur1, rfl, hg1, hlt1, hB1, _, _, hc1⟩ := own_open hown (by omega); (try simp at hg1); have HC1 := Lib.hid hc1; clear hc1 hown) | (go_at_call 48; (with_reducible refine (hcB.out _ ?_).mono ?_); (refine bstep B3 ?_; (first | assumption | exact Below.refl _ _ | ((repeat (first | refine Below.drew ?_ | refine bdrewN ?_ _ | refine Below.alloc ?_ (by first | omega | (simp; done) | (simp; omega) | exact Below.size (by assumption)) _ | refine Below.setCell ?_ (by first | omega | (simp; done) | (simp; omega)) _)); (first | assumption | exact Below.refl _ _)))); rintro e w' ⟨v', rfl, hown, hbx2⟩; have hby2 : Below w3.heap.size w3 w' := bstep (by (first | assumption | exact Below.refl _ _ | ((repeat (first | refine Below.drew ?_ | refine bdrewN ?_ _ | refine Below.alloc ?_ (by first | omega | (simp; done) | (simp; omega) | exact Below.size (by assumption)) _ | refine Below.setCell ?_ (by first | omega | (simp; done) | (simp; omega)) _)); (first | assumption | exact Below.refl _ _)))) hbx2; have hz3 := hbx2.size; have hz4 := hby2.size; (try simp [Nat.add_one_le_iff] at hz3); obtain ⟨hx2, hy2⟩ := bcellm hbx2 (Nat.le_refl _); obtain ⟨g2, c2, cur2, rfl, hg2, hlt2, hB2, hn2', hs2, hc2⟩ := own_open hown (by omega); (try simp at hg2); have HC2 := Lib.hid hc2; clear hc2 hown))
    all_goals
      go_wp2_with fail
      go_meet
    all_goals
      refine ⟨_, g1, g2, c1, c2, cur1, cur2, rfl, ?_, ?_, ?_, by omega, by omega, by omega, by first | omega | (simp; omega) | simp, by omega, HC1, HC2, ?_⟩
      · clear hby1 hby2
        first
          | (with_reducible exact Blk.new _ _ _)
          | (refine Blk.set_ (Blk.set_ (cs := #[.slice none 0 0, .slice none 0 0]) ?_ 0 _) 1 _; (repeat (first | (with_reducible assumption) | (with_reducible exact Blk.new _ _ _) | (with_reducible refine Blk.drew ?_) | (with_reducible refine Blk.drewN ?_ _) | (with_reducible refine Blk.alloc ?_ _) | ((with_reducible refine Blk.far ?_ ?_ _); rotate_left; (first | omega | (simp; done) | (simp; omega))) | (refine Blk.step ?_ (by assumption)))); done)
      · clear hby1 hby2
        (repeat (first | (with_reducible assumption) | (with_reducible exact Blk.new _ _ _) | (with_reducible refine Blk.drew ?_) | (with_reducible refine Blk.drewN ?_ _) | (with_reducible refine Blk.alloc ?_ _) | ((with_reducible refine Blk.far ?_ ?_ _); rotate_left; (first | omega | (simp; done) | (simp; omega))) | (refine Blk.step ?_ (by assumption)))); done
      · clear hby1 hby2
        (repeat (first | (with_reducible assumption) | (with_reducible exact Blk.new _ _ _) | (with_reducible refine Blk.drew ?_) | (with_reducible refine Blk.drewN ?_ _) | (with_reducible refine Blk.alloc ?_ _) | ((with_reducible refine Blk.far ?_ ?_ _); rotate_left; (first | omega | (simp; done) | (simp; omega))) | (refine Blk.step ?_ (by assumption)))); done
      · clear hby1 hbx1 hbx2
        (first | assumption | exact Below.refl _ _ | ((repeat (first | refine Below.drew ?_ | refine bdrewN ?_ _ | refine Below.alloc ?_ (by first | omega | (simp; done) | (simp; omega) | exact Below.size (by assumption)) _ | refine Below.setCell ?_ (by first | omega | (simp; done) | (simp; omega)) _)); (first | assumption | exact Below.refl _ _)))
  case rest =>
    obtain ⟨g, g1, g2, c1, c2, cur1, cur2, rfl, hG, hG1, hG2, hne, hz1, hz2, hz0, hsz, HC1, HC2, hBc⟩ := hcut
    have hng := hG.ne_ hG2 (by decide)
    have s3 := Below.cell_some hBc q3
    have s4 := Below.cell_some hBc q4
    have s5 := Below.cell_some hBc q5
    have s6 := (hBc.frozen (p := ⟨w.heap.size + 2, 0, none⟩) (by simp; omega)).trans q6
    have s7 := (hBc.frozen (p := ⟨w.heap.size + 2, 1, none⟩) (by simp; omega)).trans q7
    have hBw := hD.below mono_int (bstep B3 hBc)
    have g0 := hG.cell 0
    have g1' := hG.cell 1
    simp at g0 g1'
    have zc : w.heap.size + 3 ≤ wc.heap.size := by have := hBc.size; omega
    have hgl := hG.lt
    have hDB : b' < w3.heap.size := by
      have := World.block_lt_of_cell? w _ (hD.at_ (k := 0) (by rw [Hd.out]; omega))
      have := B3.size
      simp at *
      omega
    clear q0 q1 q3 q4 q5 q6 q7
    go_wp2_with fail
    go_loopw [37] (fun i wr => ∃ j : Nat, ∃ cur : Array Value, j ≤ m ∧ i = .int .i64 j ∧ Turn g2 wc wr ∧ Blk wr g2 3 cur ∧ cur.size = cur2.size ∧ Hid (∀ x (h1 : x < c.length) (h2 : x < c'.length), cur[x]? = some (.int .i64 (if x < j then c[x] + c'[x] else c[x]))) ∧ Hid (∀ x (h1 : x < c.length) (h2 : x < c'.length), x < j → c[x] + c'[x] ≤ 1048576)) (fun i _ => m - (intOf i).toNat)
    case atStart => exact ⟨0, cur2, Nat.zero_le _, rfl, Turn.refl _ _, hG2, rfl, fun x h1 h2 => by rw [if_neg (by omega)]; exact HC2.out x h1, fun x _ _ hx => absurd hx (by omega)⟩
    case round =>
      obtain ⟨j, cur, hj, rfl, hT, hBl, hcs, hcur, hok⟩ := hrel
      have t0 := hT.cell g0 (by simp; omega)
      have t1 := hT.cell g1' (by simp; omega)
      have t4 := hT.cell s4 (by simp; omega)
      have t5 := hT.cell s5 (by simp; omega)
      have t6 := hT.frozen s6 (by simp; omega) (by simp; omega)
      have t7 := hT.frozen s7 (by simp; omega) (by simp; omega)
      have tz := hT.size
      by_cases hlt : j < m
      · have hk1 : j < c.length := by rw [Hb.out]; exact hlt
        have hk2 : j < c'.length := by rw [Hd.out]; omega
        have hcj' := hT.cell (hBw.at_ hk2) (by simp; omega)
        have hcj : wr.cell? ⟨g2, j, none⟩ = some (.int .i64 c[j]) := by rw [hBl.cell, hcur.out j hk1 hk2, if_neg (by omega)]
        have hfr := hBl.frozen j
        have p3 := SM.out.at_ hk1
        have p4 := SM'.out.at_ hk2
        have hm' : (j : Int) < (m' : Int) := by omega
        have hu0 : ∀ u, (wr.setCell ⟨g2, j, none⟩ u).cell? ⟨g2, j, none⟩ = some u := fun u => by
          rw [(hBl.set_ j u).cell]
          have : j < cur.size := by omega
          simp [this]
        by_cases hov : 1048576 < c[j] + c'[j]
        · have HR := Lib.hid (HBig.out j hk1 hk2 hov)
          go_wp2_with fail
          refine bodyPost_ret (v := .tuple #[.agg #[.slice none 0 0, .slice none 0 0], .int .i64 6]) (by simp [results, Try.results24, go_sem, *]) rfl ?_
          rw [HR.out]
          refine ⟨_, _, _, _, _, _, rfl, Sl.nil, Sl.nil, ?_⟩
          have hBwr := hT.below (bstep B3 hBc) (by omega) (Nat.le_refl _)
          exact (by repeat (first | exact Below.refl _ _ | assumption | refine Below.drew ?_ | refine bdrewN ?_ _ | refine Below.alloc ?_ (by first | omega | (simp; done) | (simp; omega) | exact Below.size (by assumption)) _ | refine Below.setCell ?_ (by first | omega | (simp; done) | (simp; omega)) _ | refine bstep ?_ (by assumption)))
        · have HOK : Hid (∀ x (h1 : x < c.length) (h2 : x < c'.length), x < j + 1 → c[x] + c'[x] ≤ 1048576) := fun x h1 h2 hx => by
            rcases (show x < j ∨ x = j by omega) with h3 | rfl
            · exact hok.out x h1 h2 h3
            · omega
          have HCUR : Hid (∀ x (h1 : x < c.length) (h2 : x < c'.length), (cur.setIfInBounds j (.int .i64 (c[j] + c'[j])))[x]? = some (.int .i64 (if x < j + 1 then c[x] + c'[x] else c[x]))) := fun x h1 h2 => by
            rcases (show x = j ∨ x ≠ j by omega) with rfl | h3
            · have : x < cur.size := by omega
              simp [this]
            · rw [Array.getElem?_setIfInBounds_ne (by omega), hcur.out x h1 h2]
              by_cases h4 : x < j
              · rw [if_pos h4, if_pos (by omega)]
              · rw [if_neg h4, if_neg (by omega)]
          have HS : (cur.setIfInBounds j (.int .i64 (c[j] + c'[j]))).size = cur2.size := by simpa using hcs
          have HSS := Lib.hid HS
          clear HS
          go_wp2_with fail
          go_roundw
          case rel => exact ⟨j + 1, _, by omega, by go_num, hT.set j _, hBl.set_ j _, HSS.out, HCUR, HOK⟩
          case measure => simp [intOf]; omega
      · have hjm : j = m := by omega
        have hll : c.length = c'.length := by rw [Hb.out, Hd.out]; omega
        have HR := Lib.hid (HO.out (fun x h1 h2 => hok.out x h1 h2 (by have := Hb.out; omega)))
        have HC : Hid (∀ x (h : x < (addL c c').length), cur[x]? = some (.int .i64 (addL c c')[x])) := fun x h => by
          have h' := h
          rw [addL_len hll] at h'
          rw [hcur.out x h' (by omega), if_pos (by have := Hb.out; omega), addL_at h]
        have hb1 : g1 ≠ w.heap.size + 2 := by omega
        have hb2 : g2 ≠ w.heap.size + 2 := by omega
        have tG1 := hG1.grown hT (fun e => hne (by injection e))
        have hBwr := hT.below (bstep B3 hBc) (by omega) (Nat.le_refl _)
        have hwf : Hid (∀ x ∈ addL c c', (Lit.int .i64 x).wf = true) := fun x hx => by
          obtain ⟨y, hy, rfl⟩ := List.getElem_of_mem hx
          have h' := hy
          rw [addL_len hll] at h'
          rw [addL_at hy]
          have := SM.out.at_ h'
          have := SM'.out.at_ (show y < c'.length by omega)
          exact wf_of (by omega) (by omega)
        go_wp2_with fail
        refine bodyPost_ret (v := .tuple #[.agg #[.slice (some ⟨g1, 0, none⟩) n c1, .slice (some ⟨g2, 0, none⟩) m c2], .int .i64 0]) (by simp [results, Try.results24, go_sem, *]) rfl ?_
        rw [HR.out]
        refine ⟨_, _, _, _, _, _, rfl, ints_blk (t := 3) (cur := cur1) ?_ Ha.out (by omega) HC1.out wA.out, ints_blk (t := 3) (cur := cur) ?_ (by rw [addL_len hll]; exact Hb.out) (by omega) HC.out hwf.out, ?_⟩
        · (repeat (first | (with_reducible assumption) | (with_reducible exact Blk.new _ _ _) | (with_reducible refine Blk.drew ?_) | (with_reducible refine Blk.drewN ?_ _) | (with_reducible refine Blk.alloc ?_ _) | ((with_reducible refine Blk.far ?_ ?_ _); rotate_left; (first | omega | (simp; done) | (simp; omega))) | (refine Blk.step ?_ (by assumption)))); done
        · (repeat (first | (with_reducible assumption) | (with_reducible exact Blk.new _ _ _) | (with_reducible refine Blk.drew ?_) | (with_reducible refine Blk.drewN ?_ _) | (with_reducible refine Blk.alloc ?_ _) | ((with_reducible refine Blk.far ?_ ?_ _); rotate_left; (first | omega | (simp; done) | (simp; omega))) | (refine Blk.step ?_ (by assumption)))); done
        · exact (by repeat (first | exact Below.refl _ _ | assumption | refine Below.drew ?_ | refine bdrewN ?_ _ | refine Below.alloc ?_ (by first | omega | (simp; done) | (simp; omega) | exact Below.size (by assumption)) _ | refine Below.setCell ?_ (by first | omega | (simp; done) | (simp; omega)) _ | refine bstep ?_ (by assumption)))
end Go.Proofs.Ytibnaangfdohiaa
