/- The walk through the reference's Merge. -/
import Derived.Test.YtibnaangfdohiaaTimD
import Derived.Test.YtibnaangfdohiaaTimE
import Derived.Test.YtibnaangfdohiaaApp
namespace Go.Proofs.Ytibnaangfdohiaa
open Go.RowKit

theorem intInfo : (Try.prog.info? 3).map (fun i => (i.zero, i.size, i.bytes)) = some (some (.int .i64 0), 1, 8) := by kernel_rfl
theorem ints_news {w : World} {b off n : Nat} {l : List Int} (h : Ints w (some ⟨b, off, none⟩) n l) : ∀ j u, (l.map (Value.int .i64))[j]? = some u → w.cell? (Addr.add ⟨b, off, none⟩ j) = some u := by
  intro j u hu
  rw [List.getElem?_map] at hu
  rcases hj : l[j]? with _ | x
  · rw [hj] at hu; cases hu
  · rw [hj] at hu
    injection hu with hu
    obtain ⟨hlt, hx⟩ := List.getElem?_eq_some_iff.1 hj
    rw [add_none, h.at_ hlt, hx, hu]
theorem ints_one {l : List Int} : ∀ u ∈ l.map (Value.int .i64), u.oneCell' = true := by
  intro u hu
  obtain ⟨x, _, rfl⟩ := List.mem_map.1 hu
  rfl

set_option maxRecDepth 100000 in
set_option maxHeartbeats 4000000 in
theorem rmerge_any (A B C D : Option Addr) (n k m l n' k' m' l' : Nat) (e c e' c' : List Int) (w : World) (hA : Ints w A n e) (hB : Ints w B m c) (hC : Ints w C n' e') (hD : Ints w D m' c') :
    Calls Try.prog 25 #[.agg #[.slice A n k, .slice B m l], .agg #[.slice C n' k', .slice D m' l']] w (RetHist (mergeR e c e' c') w) := by
  have hv := Lib.hid fun (w1 : World) (hb : Below w.heap.size w w1) => rvalid_any A B n k m l e c w1 (hA.below mono_int hb) (hB.below mono_int hb)
  have hv' := Lib.hid fun (w1 : World) (hb : Below w.heap.size w w1) => rvalid_any C D n' k' m' l' e' c' w1 (hC.below mono_int hb) (hD.below mono_int hb)
  have he := Lib.hid fun (w1 : World) (hb : Below w.heap.size w w1) => sameEdges_any A B C D n k m l n' k' m' l' e e' w1 (hA.below mono_int hb) (hC.below mono_int hb)
  by_cases v1 : validH e c = true
  rotate_left
  · have v1 : validH e c = false := by simpa using v1
    have HR := Lib.hid (mergeR_arg (e' := e') (c' := c') (.inl v1))
    go_enter Try.func25, Try.ntmps25
    go_wp2_with fail
    refine (hv.out _ (by repeat (first | exact Below.refl _ _ | assumption | refine Below.drew ?_ | refine bdrewN ?_ _ | refine Below.alloc ?_ (by first | omega | (simp; done) | (simp; omega) | exact Below.size (by assumption)) _ | refine Below.setCell ?_ (by first | omega | (simp; done) | (simp; omega)) _ | refine bstep ?_ (by assumption)))).mono ?_
    rintro e w1 ⟨rfl, hb1⟩
    have hz1 := hb1.size
    try simp at hz1
    obtain ⟨hc1_w, hf1_w⟩ := bcellm (M := w.heap.size + 3) hb1 (by first | omega | (simp; done) | (simp; omega))
    have hl1_w0 : w.heap.size < w1.heap.size := by omega
    have hl1_w1 : w.heap.size + 1 < w1.heap.size := by omega
    have hl1_w2 : w.heap.size + 2 < w1.heap.size := by omega
    rw [v1]
    go_wp2_with fail
    refine bodyPost_ret (v := .tuple #[.agg #[.slice none 0 0, .slice none 0 0], .int .i64 1]) (by simp [results, Try.results25, go_sem, *]) rfl ?_
    rw [HR.out]
    exact ⟨_, _, _, _, _, _, rfl, Sl.nil, Sl.nil, (by repeat (first | exact Below.refl _ _ | assumption | refine Below.drew ?_ | refine bdrewN ?_ _ | refine Below.alloc ?_ (by first | omega | (simp; done) | (simp; omega) | exact Below.size (by assumption)) _ | refine Below.setCell ?_ (by first | omega | (simp; done) | (simp; omega)) _ | refine bstep ?_ (by assumption)))⟩
  by_cases v2 : validH e' c' = true
  rotate_left
  · have v2 : validH e' c' = false := by simpa using v2
    have HR := Lib.hid (mergeR_arg (e := e) (c := c) (.inr v2))
    go_enter Try.func25, Try.ntmps25
    go_wp2_with fail
    refine (hv.out _ (by repeat (first | exact Below.refl _ _ | assumption | refine Below.drew ?_ | refine bdrewN ?_ _ | refine Below.alloc ?_ (by first | omega | (simp; done) | (simp; omega) | exact Below.size (by assumption)) _ | refine Below.setCell ?_ (by first | omega | (simp; done) | (simp; omega)) _ | refine bstep ?_ (by assumption)))).mono ?_
    rintro e w1 ⟨rfl, hb1⟩
    have hz1 := hb1.size
    try simp at hz1
    obtain ⟨hc1_w, hf1_w⟩ := bcellm (M := w.heap.size + 3) hb1 (by first | omega | (simp; done) | (simp; omega))
    have hl1_w0 : w.heap.size < w1.heap.size := by omega
    have hl1_w1 : w.heap.size + 1 < w1.heap.size := by omega
    have hl1_w2 : w.heap.size + 2 < w1.heap.size := by omega
    rw [v1]
    go_wp2_with fail
    refine (hv'.out _ (by repeat (first | exact Below.refl _ _ | assumption | refine Below.drew ?_ | refine bdrewN ?_ _ | refine Below.alloc ?_ (by first | omega | (simp; done) | (simp; omega) | exact Below.size (by assumption)) _ | refine Below.setCell ?_ (by first | omega | (simp; done) | (simp; omega)) _ | refine bstep ?_ (by assumption)))).mono ?_
    rintro e w2 ⟨rfl, hb2⟩
    have hz2 := hb2.size
    try simp at hz2
    obtain ⟨hc2_w, hf2_w⟩ := bcellm (M := w.heap.size + 3) hb2 (by first | omega | (simp; done) | (simp; omega))
    have hl2_w0 : w.heap.size < w2.heap.size := by omega
    have hl2_w1 : w.heap.size + 1 < w2.heap.size := by omega
    have hl2_w2 : w.heap.size + 2 < w2.heap.size := by omega
    rw [v2]
    go_wp2_with fail
    refine bodyPost_ret (v := .tuple #[.agg #[.slice none 0 0, .slice none 0 0], .int .i64 1]) (by simp [results, Try.results25, go_sem, *]) rfl ?_
    rw [HR.out]
    exact ⟨_, _, _, _, _, _, rfl, Sl.nil, Sl.nil, (by repeat (first | exact Below.refl _ _ | assumption | refine Below.drew ?_ | refine bdrewN ?_ _ | refine Below.alloc ?_ (by first | omega | (simp; done) | (simp; omega) | exact Below.size (by assumption)) _ | refine Below.setCell ?_ (by first | omega | (simp; done) | (simp; omega)) _ | refine bstep ?_ (by assumption)))⟩
  by_cases hee : e = e'
  rotate_left
  · have HR := Lib.hid (mergeR_size v1 v2 hee)
    have hd : decide (e = e') = false := by simpa using hee
    clear hee
    go_enter Try.func25, Try.ntmps25
    go_wp2_with fail
    refine (hv.out _ (by repeat (first | exact Below.refl _ _ | assumption | refine Below.drew ?_ | refine bdrewN ?_ _ | refine Below.alloc ?_ (by first | omega | (simp; done) | (simp; omega) | exact Below.size (by assumption)) _ | refine Below.setCell ?_ (by first | omega | (simp; done) | (simp; omega)) _ | refine bstep ?_ (by assumption)))).mono ?_
    rintro e w1 ⟨rfl, hb1⟩
    have hz1 := hb1.size
    try simp at hz1
    obtain ⟨hc1_w, hf1_w⟩ := bcellm (M := w.heap.size + 3) hb1 (by first | omega | (simp; done) | (simp; omega))
    have hl1_w0 : w.heap.size < w1.heap.size := by omega
    have hl1_w1 : w.heap.size + 1 < w1.heap.size := by omega
    have hl1_w2 : w.heap.size + 2 < w1.heap.size := by omega
    rw [v1]
    go_wp2_with fail
    refine (hv'.out _ (by repeat (first | exact Below.refl _ _ | assumption | refine Below.drew ?_ | refine bdrewN ?_ _ | refine Below.alloc ?_ (by first | omega | (simp; done) | (simp; omega) | exact Below.size (by assumption)) _ | refine Below.setCell ?_ (by first | omega | (simp; done) | (simp; omega)) _ | refine bstep ?_ (by assumption)))).mono ?_
    rintro e w2 ⟨rfl, hb2⟩
    have hz2 := hb2.size
    try simp at hz2
    obtain ⟨hc2_w, hf2_w⟩ := bcellm (M := w.heap.size + 3) hb2 (by first | omega | (simp; done) | (simp; omega))
    have hl2_w0 : w.heap.size < w2.heap.size := by omega
    have hl2_w1 : w.heap.size + 1 < w2.heap.size := by omega
    have hl2_w2 : w.heap.size + 2 < w2.heap.size := by omega
    rw [v2]
    go_wp2_with fail
    refine (he.out _ (by repeat (first | exact Below.refl _ _ | assumption | refine Below.drew ?_ | refine bdrewN ?_ _ | refine Below.alloc ?_ (by first | omega | (simp; done) | (simp; omega) | exact Below.size (by assumption)) _ | refine Below.setCell ?_ (by first | omega | (simp; done) | (simp; omega)) _ | refine bstep ?_ (by assumption)))).mono ?_
    rintro e w3 ⟨rfl, hb3⟩
    have hz3 := hb3.size
    try simp at hz3
    obtain ⟨hc3_w, hf3_w⟩ := bcellm (M := w.heap.size + 3) hb3 (by first | omega | (simp; done) | (simp; omega))
    have hl3_w0 : w.heap.size < w3.heap.size := by omega
    have hl3_w1 : w.heap.size + 1 < w3.heap.size := by omega
    have hl3_w2 : w.heap.size + 2 < w3.heap.size := by omega
    rw [hd]
    go_wp2_with fail
    refine bodyPost_ret (v := .tuple #[.agg #[.slice none 0 0, .slice none 0 0], .int .i64 29]) (by simp [results, Try.results25, go_sem, *]) rfl ?_
    rw [HR.out]
    exact ⟨_, _, _, _, _, _, rfl, Sl.nil, Sl.nil, (by repeat (first | exact Below.refl _ _ | assumption | refine Below.drew ?_ | refine bdrewN ?_ _ | refine Below.alloc ?_ (by first | omega | (simp; done) | (simp; omega) | exact Below.size (by assumption)) _ | refine Below.setCell ?_ (by first | omega | (simp; done) | (simp; omega)) _ | refine bstep ?_ (by assumption)))⟩
  subst hee
  have hd : decide (e = e) = true := by simp
  have V := validH_iff.1 v1
  have V' := validH_iff.1 v2
  have hm1 : m + 1 = n := by have := V.2.1; rw [hB.1, hA.1] at this; exact this
  have hm2 : m' + 1 = n := by have := V'.2.1; rw [hD.1, hA.1] at this; exact this
  have hn20 : n ≤ 20 := by have := V.1.2.1; rw [hA.1] at this; exact this
  have hn2 : 2 ≤ n := by have := V.1.1; rw [hA.1] at this; exact this
  have Ha := Lib.hid hA.1
  have Hb := Lib.hid hB.1
  have Hd := Lib.hid hD.1
  have wA := Lib.hid hA.wfs
  obtain ⟨b0, off0, rfl⟩ := hA.open1 (by omega)
  obtain ⟨b, off, rfl⟩ := hB.open1 (by omega)
  obtain ⟨b', off', rfl⟩ := hD.open1 (by omega)
  have SM := Lib.hid V.small
  have SM' := Lib.hid V'.small
  have HO := Lib.hid (mergeR_ok v1 v2)
  have HBig := Lib.hid fun i h1 h2 h3 => mergeR_big v1 v2 (i := i) h1 h2 h3
  clear V V'
  go_enter Try.func25, Try.ntmps25
  go_wp2_with fail
  refine (hv.out _ (by repeat (first | exact Below.refl _ _ | assumption | refine Below.drew ?_ | refine bdrewN ?_ _ | refine Below.alloc ?_ (by first | omega | (simp; done) | (simp; omega) | exact Below.size (by assumption)) _ | refine Below.setCell ?_ (by first | omega | (simp; done) | (simp; omega)) _ | refine bstep ?_ (by assumption)))).mono ?_
  rintro e w1 ⟨rfl, hb1⟩
  have hz1 := hb1.size
  try simp at hz1
  obtain ⟨hc1_w, hf1_w⟩ := bcellm (M := w.heap.size + 3) hb1 (by first | omega | (simp; done) | (simp; omega))
  have hl1_w0 : w.heap.size < w1.heap.size := by omega
  have hl1_w1 : w.heap.size + 1 < w1.heap.size := by omega
  have hl1_w2 : w.heap.size + 2 < w1.heap.size := by omega
  rw [v1]
  go_wp2_with fail
  refine (hv'.out _ (by repeat (first | exact Below.refl _ _ | assumption | refine Below.drew ?_ | refine bdrewN ?_ _ | refine Below.alloc ?_ (by first | omega | (simp; done) | (simp; omega) | exact Below.size (by assumption)) _ | refine Below.setCell ?_ (by first | omega | (simp; done) | (simp; omega)) _ | refine bstep ?_ (by assumption)))).mono ?_
  rintro e w2 ⟨rfl, hb2⟩
  have hz2 := hb2.size
  try simp at hz2
  obtain ⟨hc2_w, hf2_w⟩ := bcellm (M := w.heap.size + 3) hb2 (by first | omega | (simp; done) | (simp; omega))
  have hl2_w0 : w.heap.size < w2.heap.size := by omega
  have hl2_w1 : w.heap.size + 1 < w2.heap.size := by omega
  have hl2_w2 : w.heap.size + 2 < w2.heap.size := by omega
  rw [v2]
  go_wp2_with fail
  refine (he.out _ (by repeat (first | exact Below.refl _ _ | assumption | refine Below.drew ?_ | refine bdrewN ?_ _ | refine Below.alloc ?_ (by first | omega | (simp; done) | (simp; omega) | exact Below.size (by assumption)) _ | refine Below.setCell ?_ (by first | omega | (simp; done) | (simp; omega)) _ | refine bstep ?_ (by assumption)))).mono ?_
  rintro e w3 ⟨rfl, hb3⟩
  have hz3 := hb3.size
  try simp at hz3
  obtain ⟨hc3_w, hf3_w⟩ := bcellm (M := w.heap.size + 3) hb3 (by first | omega | (simp; done) | (simp; omega))
  have hl3_w0 : w.heap.size < w3.heap.size := by omega
  have hl3_w1 : w.heap.size + 1 < w3.heap.size := by omega
  have hl3_w2 : w.heap.size + 2 < w3.heap.size := by omega
  rw [hd]
  have B3 : Below w.heap.size w w3 := (by repeat (first | exact Below.refl _ _ | assumption | refine Below.drew ?_ | refine bdrewN ?_ _ | refine Below.alloc ?_ (by first | omega | (simp; done) | (simp; omega) | exact Below.size (by assumption)) _ | refine Below.setCell ?_ (by first | omega | (simp; done) | (simp; omega)) _ | refine bstep ?_ (by assumption)))
  have q0 : w3.cell? ⟨w.heap.size, 0, none⟩ = some (.slice (some ⟨b0, off0, none⟩) n k) := by simp [go_sem, *]
  have q1 : w3.cell? ⟨w.heap.size, 1, none⟩ = some (.slice (some ⟨b, off, none⟩) m l) := by simp [go_sem, *]
  have q3 : w3.cell? ⟨w.heap.size + 1, 1, none⟩ = some (.slice (some ⟨b', off', none⟩) m' l') := by simp [go_sem, *]
  have q4 : w3.cell? ⟨w.heap.size + 2, 0, none⟩ = some (.slice none 0 0) := by simp [go_sem, *]
  have q5 : w3.cell? ⟨w.heap.size + 2, 1, none⟩ = some (.slice none 0 0) := by simp [go_sem, *]
  have q6 : w3.frozen? ⟨w.heap.size + 2, 0, none⟩ = false := by simp [go_sem, *]
  have q7 : w3.frozen? ⟨w.heap.size + 2, 1, none⟩ = false := by simp [go_sem, *]
  have z3 : w.heap.size + 3 ≤ w3.heap.size := by omega
  clear hb1 hz1 hc1_w hf1_w hl1_w0 hl1_w1 hl1_w2 hb2 hz2 hc2_w hf2_w hl2_w0 hl2_w1 hl2_w2 hb3 hz3 hc3_w hf3_w hv hv' he
  obtain ⟨i0, hi, hz0, hz1, hz2⟩ := info_parts intInfo
  have hI3 := hA.below mono_int B3
  have hown0 : (w3.alloc (.cells #[] 3)).ownsRow w3.heap.size 3 1 (.slice (some ⟨w3.heap.size, 0, none⟩) 0 0) 0 [] := World.ownsRow_made w3 #[] 0 (Nat.le_refl _) (by simp [maxLen]) rfl
  have hI4 := hI3.below mono_int ((Below.refl w3.heap.size w3).alloc (Nat.le_refl _) (.cells #[] 3))
  go_wp2_with (at_builtin; refine wpList_append_own _ rfl _ _ 22 rfl w3.heap.size 3 i0 (.int .i64 0) 1 8 Try.underlying22 hi hz0 hz1 hz2 rfl (by decide) _ _ _ rfl hown0 ⟨b0, off0, none⟩ n k (e.map (Value.int .i64)) rfl (by simp; exact Ha.out) (ints_news hI4) ints_one (by simp [maxLen]; omega) (by omega) (by simp) ?_)
  intro v' w4 hown hgrow _
  obtain ⟨g1, c1, cur1, rfl, hg1, hlt1, hG1, hn1, hs1, hc1⟩ := own_open hown (by omega)
  have HC1 := Lib.hid hc1
  have B4 : Below w3.heap.size w3 w4 := ((Below.refl w3.heap.size w3).alloc (Nat.le_refl _) (.cells #[] 3)).grown hgrow (by simp) (fun k hk => by simp [Value.ownBlock] at hk; omega)
  have hz4 := B4.size
  have p0 := Below.cell_some B4 q0
  have p1 := Below.cell_some B4 q1
  have p3 := Below.cell_some B4 q3
  have p4 := Below.cell_some B4 q4
  have p5 := Below.cell_some B4 q5
  have p6 := (B4.frozen (p := ⟨w.heap.size + 2, 0, none⟩) (by simp; omega)).trans q6
  have p7 := (B4.frozen (p := ⟨w.heap.size + 2, 1, none⟩) (by simp; omega)).trans q7
  have hBI := hB.below mono_int (bstep B3 B4)
  have hDI := hD.below mono_int (bstep B3 B4)
  clear hc1 hown hgrow hown0 hI3 hI4 q0 q1 q3 q4 q5 q6 q7
  go_wp2_with fail
  go_loopw [7] (fun i wr => ∃ j : Nat, ∃ v : Value, j ≤ m ∧ i = .int .i64 j ∧ Blk wr w4.heap.size 24 #[.slice (some ⟨g1, 0, none⟩) n c1, v] ∧ Blk wr g1 3 cur1 ∧ Hid (wr.ownsRow (w4.heap.size + 1) 3 1 v j (((addL c c').take j).map (Value.int .i64))) ∧ Below w4.heap.size w4 wr ∧ w4.heap.size + 1 ≤ wr.heap.size ∧ Hid (∀ x (h1 : x < c.length) (h2 : x < c'.length), x < j → c[x] + c'[x] ≤ 1048576)) (fun i _ => m - (intOf i).toNat)
  case atStart => exact ⟨0, .slice none 0 0, Nat.zero_le _, rfl, Blk.new _ _ _, hG1.alloc _, World.ownsRow_nil _ _ _ _, (Below.refl _ _).alloc (Nat.le_refl _) _, by simp, fun x _ _ hx => absurd hx (by omega)⟩
  case round =>
    obtain ⟨j, v, hj, rfl, hG, hGr, hown, hbr, hzr, hok⟩ := hrel
    have g0 := hG.cell 0
    have g1' := hG.cell 1
    have gf := hG.frozen 1
    simp at g0 g1'
    have r0 := Below.cell_some hbr p0
    have r1 := Below.cell_some hbr p1
    have r3 := Below.cell_some hbr p3
    have r4 := Below.cell_some hbr p4
    have r5 := Below.cell_some hbr p5
    have r6 := (hbr.frozen (p := ⟨w.heap.size + 2, 0, none⟩) (by simp; omega)).trans p6
    have r7 := (hbr.frozen (p := ⟨w.heap.size + 2, 1, none⟩) (by simp; omega)).trans p7
    have hBr := hBI.below mono_int hbr
    have hDr := hDI.below mono_int hbr
    by_cases hlt : j < m
    · have hk1 : j < c.length := by rw [Hb.out]; exact hlt
      have hk2 : j < c'.length := by rw [Hd.out]; omega
      have hcj := hBr.at_ hk1
      have hcj' := hDr.at_ hk2
      have b3 := SM.out.at_ hk1
      have b4 := SM'.out.at_ hk2
      have hm' : (j : Int) < (m' : Int) := by omega
      have wsum : IntKind.i64.wrap (c[j] + c'[j]) = c[j] + c'[j] := IntWalk.i64_in _ ⟨by omega, by omega⟩
      by_cases hov : 1048576 < c[j] + c'[j]
      · have HR := Lib.hid (HBig.out j hk1 hk2 hov)
        go_wp2_with fail
        go_quiet (fail)
        go_wp2_with fail
        refine bodyPost_ret (v := .tuple #[.agg #[.slice none 0 0, .slice none 0 0], .int .i64 6]) (by simp [results, Try.results25, go_sem, *]) rfl ?_
        rw [HR.out]
        have hBwr := bstep (bstep B3 B4) hbr
        exact ⟨_, _, _, _, _, _, rfl, Sl.nil, Sl.nil, (by repeat (first | exact Below.refl _ _ | assumption | refine Below.drew ?_ | refine bdrewN ?_ _ | refine Below.alloc ?_ (by first | omega | (simp; done) | (simp; omega) | exact Below.size (by assumption)) _ | refine Below.setCell ?_ (by first | omega | (simp; done) | (simp; omega)) _ | refine bstep ?_ (by assumption)))⟩
      · go_wp2_with fail
        go_quiet (fail)
        go_wp2_with fail
        have hvb : Hid (some w4.heap.size ≠ v.ownBlock) := fun e => by have := hown.out.lt _ e.symm; omega
        have hvb1 : Hid (some g1 ≠ v.ownBlock) := fun e => by have := hown.out.lt _ e.symm; have := hG1.lt; omega
        obtain ⟨wq, hwq⟩ : ∃ wq, wq = wr.drewN (nq + 1) := ⟨_, rfl⟩
        have hGq : Blk wq w4.heap.size 24 #[.slice (some ⟨g1, 0, none⟩) n c1, v] := by rw [hwq]; exact hG.drewN _
        have hzq : wq.heap.size = wr.heap.size := by rw [hwq]; rfl
        obtain ⟨gg, cap, w5, hrun, hown1, hgrow⟩ := append_one (P := Try.prog) wq (w4.heap.size + 1) 22 22 3 intInfo Try.underlying22 v j (((addL c c').take j).map (Value.int .i64)) (by rw [hwq]; exact hown.out) (c[j] + c'[j]) (by omega) (by omega)
        have hG5 : Blk w5 w4.heap.size 24 #[.slice (some ⟨g1, 0, none⟩) n c1, v] := Blk.grown (hGq.alloc _) hgrow hvb.out
        have u1 := hG5.cell 1
        have uf := hG5.frozen 1
        simp at u1
        have l0 : w4.heap.size < wr.heap.size := by omega
        have l1 := World.block_lt_of_cell? wr _ r1
        have l2 := World.block_lt_of_cell? wr _ r3
        have l3 := World.block_lt_of_cell? wr _ hcj
        have l4 := World.block_lt_of_cell? wr _ hcj'
        simp at l1 l2 l3 l4
        have a0 : ∀ k o, ((wr.drewN k).alloc o).cell? ⟨w4.heap.size, 1, none⟩ = some v := fun k o => (World.cell?_alloc_lt _ o _ (by exact l0)).trans g1'
        rw [hzq, hwq] at hrun
        have HRUN := Lib.hid hrun
        have HOWN := Lib.hid hown1
        have HGROW := Lib.hid hgrow
        have HWQ := Lib.hid hwq
        have HZQ := Lib.hid hzq
        clear hrun hown1 hgrow hwq hGq hzq
        have HOK : Hid (∀ x (h1 : x < c.length) (h2 : x < c'.length), x < j + 1 → c[x] + c'[x] ≤ 1048576) := fun x h1 h2 hx => by
          rcases (show x < j ∨ x = j by omega) with h3 | rfl
          · exact hok.out x h1 h2 h3
          · omega
        have hll : c.length = c'.length := by rw [Hb.out, Hd.out]; omega
        have HXS : Hid (((addL c c').take j).map (Value.int .i64) ++ [.int .i64 (c[j] + c'[j])] = ((addL c c').take (j + 1)).map (Value.int .i64)) := by
          show _ = _
          have hja : j < (addL c c').length := by rw [addL_len hll]; exact hk1
          rw [List.take_succ_eq_append_getElem hja, List.map_append, addL_at hja]
          rfl
        have hbw : Below w4.heap.size w4 wq := by rw [HWQ.out]; exact bdrewN hbr _
        have hb5 : Below w4.heap.size w4 w5 := Below.grown (hbw.alloc (by have := HZQ.out; omega) _) HGROW.out (by have := HZQ.out; simp; omega) (fun k hk => by have := hown.out.lt _ hk; omega)
        have hG15 : Blk w5 g1 3 cur1 := Blk.grown (Blk.alloc (by rw [HWQ.out]; exact hGr.drewN _) _) HGROW.out hvb1.out
        have hs5' : w4.heap.size + 1 ≤ (w5.setCell ⟨w4.heap.size, 1, none⟩ (.slice (some ⟨gg, 0, none⟩) (j + 1) cap)).heap.size := by have h6 := HGROW.out.size; have h7 := HZQ.out; simp [World.setCell] at h6 ⊢; omega
        have R1 := hG5.set_ 1 (.slice (some ⟨gg, 0, none⟩) (j + 1) cap)
        have R2 := hG15.far (p := ⟨w4.heap.size, 1, none⟩) (by simp; omega) (.slice (some ⟨gg, 0, none⟩) (j + 1) cap)
        have R3 : Hid ((w5.setCell ⟨w4.heap.size, 1, none⟩ (.slice (some ⟨gg, 0, none⟩) (j + 1) cap)).ownsRow (w4.heap.size + 1) 3 1 (.slice (some ⟨gg, 0, none⟩) (j + 1) cap) (j + 1) (((addL c c').take (j + 1)).map (Value.int .i64))) := by
          have h9 := HOWN.out
          rw [HXS.out] at h9
          exact ownsRow_setCell_below h9 (by simp) _
        have R4 := hb5.setCell (p := ⟨w4.heap.size, 1, none⟩) (Nat.le_refl _) (.slice (some ⟨gg, 0, none⟩) (j + 1) cap)
        clear hb5 hG15 hbw HXS hll HOWN HGROW hG5
        go_region_law (refine step_append_run (by rfl) _ _ _ 22 (by rfl) (by rfl) (by rfl) (by rfl) HRUN.out ?_)
        all_goals
          clear a0 u1 uf g0 g1' gf l0 l1 l2 l3 l4 HRUN
          go_wp2_with fail
          go_roundw
          case rel => exact ⟨j + 1, _, by omega, by go_num, R1, R2, R3, R4, hs5', HOK⟩
          case measure => simp [intOf]; omega
    · have hjm : j = m := by omega
      have hll : c.length = c'.length := by rw [Hb.out, Hd.out]; omega
      have HR := Lib.hid (HO.out (fun x h1 h2 => hok.out x h1 h2 (by have := Hb.out; omega)))
      have hwf : Hid (∀ x ∈ addL c c', (Lit.int .i64 x).wf = true) := fun x hx => by
        obtain ⟨y, hy, rfl⟩ := List.getElem_of_mem hx
        have h' := hy
        rw [addL_len hll] at h'
        rw [addL_at hy]
        have := SM.out.at_ h'
        have := SM'.out.at_ (show y < c'.length by omega)
        exact wf_of (by omega) (by omega)
      have hfull : (addL c c').take j = addL c c' := List.take_of_length_le (by rw [addL_len hll, Hb.out]; omega)
      have ho := hown.out
      rw [hfull] at ho
      obtain ⟨g2, c2, cur2, rfl, hg2, hlt2, hG2, hn2', hs2, hc2⟩ := own_open ho (by omega)
      have HC2 := Lib.hid hc2
      have hb1 : g1 ≠ w.heap.size + 2 := by omega
      have hb2 : g2 ≠ w.heap.size + 2 := by omega
      have hBwr := bstep (bstep B3 B4) hbr
      clear hc2 ho hfull hown
      go_wp2_with fail
      refine bodyPost_ret (v := .tuple #[.agg #[.slice (some ⟨g1, 0, none⟩) n c1, .slice (some ⟨g2, 0, none⟩) j c2], .int .i64 0]) (by simp [results, Try.results25, go_sem, *]) rfl ?_
      rw [HR.out]
      refine ⟨_, _, _, _, _, _, rfl, ints_blk (t := 3) (cur := cur1) ?_ Ha.out (by omega) HC1.out wA.out, ints_blk (t := 3) (cur := cur2) ?_ (by rw [addL_len hll, Hb.out]; exact hjm.symm) (by omega) HC2.out hwf.out, ?_⟩
      · (repeat (first | (with_reducible assumption) | (with_reducible exact Blk.new _ _ _) | (with_reducible refine Blk.drew ?_) | (with_reducible refine Blk.drewN ?_ _) | (with_reducible refine Blk.alloc ?_ _) | ((with_reducible refine Blk.far ?_ ?_ _); rotate_left; (first | omega | (simp; done) | (simp; omega))) | (refine Blk.step ?_ (by assumption)))); done
      · (repeat (first | (with_reducible assumption) | (with_reducible exact Blk.new _ _ _) | (with_reducible refine Blk.drew ?_) | (with_reducible refine Blk.drewN ?_ _) | (with_reducible refine Blk.alloc ?_ _) | ((with_reducible refine Blk.far ?_ ?_ _); rotate_left; (first | omega | (simp; done) | (simp; omega))) | (refine Blk.step ?_ (by assumption)))); done
      · exact (by repeat (first | exact Below.refl _ _ | assumption | refine Below.drew ?_ | refine bdrewN ?_ _ | refine Below.alloc ?_ (by first | omega | (simp; done) | (simp; omega) | exact Below.size (by assumption)) _ | refine Below.setCell ?_ (by first | omega | (simp; done) | (simp; omega)) _ | refine bstep ?_ (by assumption)))
end Go.Proofs.Ytibnaangfdohiaa
