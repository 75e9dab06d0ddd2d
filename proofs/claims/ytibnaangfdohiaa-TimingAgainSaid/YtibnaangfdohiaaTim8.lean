/- The example of the chapter holds: the walk through 'awake'; and the walk through 'few'. -/
import Derived.Test.YtibnaangfdohiaaTim3
import Derived.Test.YtibnaangfdohiaaTim6
import Derived.Test.YtibnaangfdohiaaTim7
namespace Go.Proofs.Ytibnaangfdohiaa
open Go.RowKit

theorem ints_lit {w : World} {g : Nat} {l : List Int} (h : ∀ k (hk : k < l.length), w.cell? ⟨g, k, none⟩ = some (.int .i64 l[k])) (hl : l.length ≤ 1000) (hw : ∀ x ∈ l, (Lit.int .i64 x).wf = true) : Ints w (some ⟨g, 0, none⟩) l.length l := by
  refine ⟨rfl, by omega, fun k hk => ⟨_, rfl, ?_, hw _ (List.getElem_mem hk)⟩⟩
  rw [Nat.mul_one, add_none, Nat.zero_add]
  exact h k hk
theorem ints_new (w : World) (l : List Int) (t : TypeId) (hl : l.length ≤ 1000) (hw : ∀ x ∈ l, (Lit.int .i64 x).wf = true) : Ints (w.alloc (.cells (l.map (Value.int .i64)).toArray t)) (some ⟨w.heap.size, 0, none⟩) l.length l :=
  ints_lit (fun k hk => by simp [hk]) hl hw
theorem ex_valid : validH [0, 10, 30] [2, 1] = true := validH_iff.2 ⟨⟨by decide, by decide, by decide, fun i hi => by
    have : i = 0 ∨ i = 1 := by simp at hi; omega
    rcases this with rfl | rfl <;> simp⟩, by decide, by decide⟩
theorem ex_valid' : validH [0, 10, 30] [0, 1] = true := validH_iff.2 ⟨⟨by decide, by decide, by decide, fun i hi => by
    have : i = 0 ∨ i = 1 := by simp at hi; omega
    rcases this with rfl | rfl <;> simp⟩, by decide, by decide⟩
theorem ex_samp : sampR [0, 10, 30] [2, 1] 1 = (5, 0) := by
  rw [sampR_ok ex_valid (by decide) (by decide +kernel)]
  have : sampV [0, 10, 30] [2, 1] 1 = 5 := by decide +kernel
  rw [this]
theorem ex_quant : quantR [0, 10, 30] [2, 1] 3 4 = (10, 30, 0) := by
  have h0 : ∀ x, x < 1 → pre [2, 1] (x + 1) * 4 < 3 * tot [2, 1] := fun x hx => by
    have h1 : x = 0 := by omega
    rw [h1]
    decide +kernel
  rw [quantR_ok ex_valid (by decide +kernel) (by decide) (by decide) (by decide +kernel) (j := 1) (by decide) h0 (.inl (by decide))]
  rfl
theorem ex_dist : distR [0, 10, 30] [2, 1] [0, 10, 30] [0, 1] = (2, 3, 0) := by
  rw [distR_ok ex_valid ex_valid' (by decide +kernel)]
  decide +kernel

set_option maxRecDepth 100000 in
set_option maxHeartbeats 2000000 in
theorem few_any (A B : Option Addr) (n k m l : Nat) (w : World) (hn : n ≤ 9223372036854775807) (hm : m ≤ 9223372036854775807) :
    Calls Try.prog 13 #[.agg #[.slice A n k, .slice B m l]] w fun e w' => e = .returned (.bool (decide (n ≤ 25) && decide (m ≤ 25))) ∧ Below w.heap.size w w' := by
  by_cases h : n ≤ 25
  all_goals
    go_enter Try.func13, Try.ntmps13
    go_wp2
    go_ret
    exact ⟨ret_bool (by first | rfl | (simp; done) | (rw [Bool.eq_iff_iff]; simp; omega)), (by repeat (first | exact Below.refl _ _ | assumption | refine Below.drew ?_ | refine bdrewN ?_ _ | refine Below.alloc ?_ (by first | omega | (simp; done) | (simp; omega) | exact Below.size (by assumption)) _ | refine Below.setCell ?_ (by first | omega | (simp; done) | (simp; omega)) _ | refine bstep ?_ (by assumption)))⟩

set_option maxRecDepth 100000 in
set_option maxHeartbeats 4000000 in
theorem awake_any (w : World) : Calls Try.prog 12 #[] w fun e w' => e = .returned (.bool true) ∧ Below w.heap.size w w' := by
  have hs := Lib.hid fun w1 A A' k k' h h' => ex_samp ▸ sample_any A A' 3 k 2 k' [0, 10, 30] [2, 1] 1 w1 h h'
  have hq := Lib.hid fun w1 A A' k k' h h' => ex_quant ▸ quantile_any A A' 3 k 2 k' [0, 10, 30] [2, 1] 3 4 w1 h h'
  have hd := Lib.hid fun w1 A B C D k l k' l' hA hB hC hD => ex_dist ▸ distance_any A B C D 3 k 2 l 3 k' 2 l' [0, 10, 30] [2, 1] [0, 10, 30] [0, 1] w1 hA hB hC hD
  have h1 := ints_new w [0, 10, 30] 3 (by decide) (by decide)
  have h2 := ints_new (w.alloc (.cells #[.int .i64 0, .int .i64 10, .int .i64 30] 3)) [2, 1] 3 (by decide) (by decide)
  simp only [World.size_alloc] at h1 h2
  have H1 := Lib.hid fun w1 hb => h1.below mono_int (w' := w1) hb
  have H2 := Lib.hid fun w1 hb => h2.below mono_int (w' := w1) hb
  clear h1 h2
  go_enter Try.func12, Try.ntmps12
  go_wp2_with fail
  refine (hs.out _ _ _ _ _ (H1.out _ (by exact (((Below.refl _ _).alloc (by simp) _).alloc (by simp) _))) (H2.out _ (by exact (((Below.refl _ _).alloc (by simp) _))))).mono ?_
  rintro e w1 ⟨rfl, hb1⟩
  have hz1 := hb1.size
  try simp at hz1
  obtain ⟨hc1_w, hf1_w⟩ := bcellm (M := w.heap.size + 3) hb1 (by first | omega | (simp; done) | (simp; omega))
  have hl1_w0 : w.heap.size < w1.heap.size := by omega
  have hl1_w1 : w.heap.size + 1 < w1.heap.size := by omega
  have hl1_w2 : w.heap.size + 2 < w1.heap.size := by omega
  have B1 : Below w.heap.size w w1 := (by repeat (first | exact Below.refl _ _ | assumption | refine Below.drew ?_ | refine bdrewN ?_ _ | refine Below.alloc ?_ (by first | omega | (simp; done) | (simp; omega) | exact Below.size (by assumption)) _ | refine Below.setCell ?_ (by first | omega | (simp; done) | (simp; omega)) _ | refine bstep ?_ (by assumption)))
  have b1 : Below (w.alloc (.cells #[.int .i64 0, .int .i64 10, .int .i64 30] 3)).heap.size (w.alloc (.cells #[.int .i64 0, .int .i64 10, .int .i64 30] 3)) w1 := bstep (((Below.refl _ _).alloc (by simp) _).alloc (by simp) _) hb1
  have b2 : Below ((w.alloc (.cells #[.int .i64 0, .int .i64 10, .int .i64 30] 3)).alloc (.cells #[.int .i64 2, .int .i64 1] 3)).heap.size ((w.alloc (.cells #[.int .i64 0, .int .i64 10, .int .i64 30] 3)).alloc (.cells #[.int .i64 2, .int .i64 1] 3)) w1 := bstep (((Below.refl _ _).alloc (by simp) _)) hb1
  go_wp2_with fail
  clear hb1 hs
  refine (hq.out _ _ _ _ _ (H1.out _ b1) (H2.out _ b2)).mono ?_
  rintro e w2 ⟨rfl, hb2⟩
  have hz2 := hb2.size
  try simp at hz2
  obtain ⟨hc2_w, hf2_w⟩ := bcellm (M := w.heap.size + 3) hb2 (by first | omega | (simp; done) | (simp; omega))
  have hl2_w0 : w.heap.size < w2.heap.size := by omega
  have hl2_w1 : w.heap.size + 1 < w2.heap.size := by omega
  have hl2_w2 : w.heap.size + 2 < w2.heap.size := by omega
  have b3 := bstep b1 hb2
  have b4 := bstep b2 hb2
  have B2 : Below w.heap.size w w2 := bstep B1 hb2
  clear b1 b2 hb2 hq
  go_wp2_with fail
  refine (hd.out _ _ _ _ _ _ _ _ _ (H1.out _ (bstep b3 ?_)) (H2.out _ (bstep b4 ?_)) ?_ ?_).mono ?_
  · exact (by repeat (first | exact Below.refl _ _ | assumption | refine Below.drew ?_ | refine bdrewN ?_ _ | refine Below.alloc ?_ (by first | omega | (simp; done) | (simp; omega) | exact Below.size (by assumption)) _ | refine Below.setCell ?_ (by first | omega | (simp; done) | (simp; omega)) _ | refine bstep ?_ (by assumption)))
  · exact (by repeat (first | exact Below.refl _ _ | assumption | refine Below.drew ?_ | refine bdrewN ?_ _ | refine Below.alloc ?_ (by first | omega | (simp; done) | (simp; omega) | exact Below.size (by assumption)) _ | refine Below.setCell ?_ (by first | omega | (simp; done) | (simp; omega)) _ | refine bstep ?_ (by assumption)))
  · exact ints_lit (fun k hk => by
      have : k = 0 ∨ k = 1 ∨ k = 2 := by simp at hk; omega
      rcases this with rfl | rfl | rfl <;> simp [go_sem, *]) (by decide) (by decide)
  · exact ints_lit (fun k hk => by
      have : k = 0 ∨ k = 1 := by simp at hk; omega
      rcases this with rfl | rfl <;> simp [go_sem, *]) (by decide) (by decide)
  rintro e w3 ⟨rfl, hb3⟩
  have hz3 := hb3.size
  simp at hz3
  obtain ⟨hc3, hf3⟩ := bcellm (M := w2.heap.size + 1) hb3 (by first | omega | (simp; done) | (simp; omega))
  obtain ⟨hc3w, hf3w⟩ := bcellm (M := w.heap.size + 3) hb3 (by first | omega | (simp; done) | (simp; omega))
  have B3 : Below w.heap.size w w3 := (by repeat (first | exact Below.refl _ _ | assumption | refine Below.drew ?_ | refine bdrewN ?_ _ | refine Below.alloc ?_ (by first | omega | (simp; done) | (simp; omega) | exact Below.size (by assumption)) _ | refine Below.setCell ?_ (by first | omega | (simp; done) | (simp; omega)) _ | refine bstep ?_ (by assumption)))
  clear hb3 H1 H2 hd b3 b4
  have l1 : w2.heap.size < w3.heap.size := by omega
  have l2 : w.heap.size + 2 < w3.heap.size := by omega
  go_wp2_with fail
  go_ret
  exact ⟨rfl, (by repeat (first | exact Below.refl _ _ | assumption | refine Below.drew ?_ | refine bdrewN ?_ _ | refine Below.alloc ?_ (by first | omega | (simp; done) | (simp; omega) | exact Below.size (by assumption)) _ | refine Below.setCell ?_ (by first | omega | (simp; done) | (simp; omega)) _ | refine bstep ?_ (by assumption)))⟩
end Go.Proofs.Ytibnaangfdohiaa
