/- The orders of spans and of changes that sorting asks for (old walks). -/
import Derived.Test.YtfbpjlabhckoeaaGreatOrI
import Derived.Deep.RegionHeld3
namespace Go.Proofs.YtfbpjlabhckoeaaGreat
set_option linter.unusedSimpArgs false
set_option linter.unusedVariables false
set_option linter.unnecessarySimpa false
set_option linter.unusedSectionVars false
open Go.RowKit Go.Sort Go.Shelf
variable [Glob]
set_option maxRecDepth 100000
theorem pair_ints (w : World) (b : Nat) (x y : Int) (t : TypeId) (h : w.heap[b]? = some (.cells #[.int .i64 x, .int .i64 y] t (0, 0))) : IntsS w (some ⟨b, 0, none⟩) 2 [x, y] := by
  refine ⟨rfl, by decide, fun k hk => ⟨⟨b, 0, none⟩, rfl, ?_⟩⟩
  match k, hk with
  | 0, _ => simp [rdI, World.cell?, Addr.add, h]
  | 1, _ => simp [rdI, World.cell?, Addr.add, h]
  | k + 2, hk => simp at hk; omega
theorem pair_cells (W : World) (x1 x2 y1 y2 : Value) (t : TypeId) : ((W.alloc (.cells #[x1, x2] t)).alloc (.cells #[y1, y2] t)).cell? ⟨W.heap.size, 0, none⟩ = some x1 ∧ ((W.alloc (.cells #[x1, x2] t)).alloc (.cells #[y1, y2] t)).cell? ⟨W.heap.size, 1, none⟩ = some x2 ∧
    ((W.alloc (.cells #[x1, x2] t)).alloc (.cells #[y1, y2] t)).cell? ⟨W.heap.size + 1, 0, none⟩ = some y1 ∧ ((W.alloc (.cells #[x1, x2] t)).alloc (.cells #[y1, y2] t)).cell? ⟨W.heap.size + 1, 1, none⟩ = some y2 := by
  have h1 : ((W.alloc (.cells #[x1, x2] t)).alloc (.cells #[y1, y2] t)).heap[W.heap.size]? = some (.cells #[x1, x2] t (0, 0)) := by
    rw [Below.heap_alloc _ _ _ (by simp)]; exact heap_alloc_new W _
  have h2 : ((W.alloc (.cells #[x1, x2] t)).alloc (.cells #[y1, y2] t)).heap[W.heap.size + 1]? = some (.cells #[y1, y2] t (0, 0)) := by
    have := heap_alloc_new (W.alloc (.cells #[x1, x2] t)) (.cells #[y1, y2] t)
    simpa using this
  refine ⟨?_, ?_, ?_, ?_⟩ <;> first | (simp only [World.cell?, h1]; rfl) | (simp only [World.cell?, h2]; rfl)
theorem keepS {w0 w' : World} {n : Nat} {x1 x2 y1 y2 : Value} (q0 : w0.cell? ⟨n, 0, none⟩ = some x1) (q1 : w0.cell? ⟨n, 1, none⟩ = some x2) (q2 : w0.cell? ⟨n + 1, 0, none⟩ = some y1) (q3 : w0.cell? ⟨n + 1, 1, none⟩ = some y2) (h : Grown w0 w') :
    Grown w0 w' ∧ w'.cell? ⟨n, 0, none⟩ = some x1 ∧ w'.cell? ⟨n, 1, none⟩ = some x2 ∧ w'.cell? ⟨n + 1, 0, none⟩ = some y1 ∧ w'.cell? ⟨n + 1, 1, none⟩ = some y2 :=
  ⟨h, Below.cell_some h.below q0, Below.cell_some h.below q1, Below.cell_some h.below q2, Below.cell_some h.below q3⟩
set_option maxHeartbeats 4000000 in
theorem mergedCmp_calls (x1 x2 y1 y2 : Int) (W : World) : Calls Tryz.prog 54 #[.agg #[.int .i64 x1, .int .i64 x2], .agg #[.int .i64 y1, .int .i64 y2]] W fun e w' => e = .returned (.int .i64 (orL [Lib.compareInt x1 y1, Lib.compareInt x2 y2])) ∧ Grown W w' := by
  have h1 := fun W' => AnyG.cmp_Compare_int Tryz.cmpIL x1 y1 W'
  have h2 := fun W' => AnyG.cmp_Compare_int Tryz.cmpIL x2 y2 W'
  change ∀ W', Calls Tryz.prog 38 _ _ _ at h1
  change ∀ W', Calls Tryz.prog 38 _ _ _ at h2
  generalize Lib.compareInt x1 y1 = r1 at h1 ⊢
  generalize Lib.compareInt x2 y2 = r2 at h2 ⊢
  go_enter Tryz.func54, Tryz.ntmps54
  go_wp2_with fail
  obtain ⟨q0, q1, q2, q3⟩ := pair_cells W (.int .i64 x1) (.int .i64 x2) (.int .i64 y1) (.int .i64 y2) 48
  have hG : Grown W ((W.alloc (.cells #[.int .i64 x1, .int .i64 x2] 48)).alloc (.cells #[.int .i64 y1, .int .i64 y2] 48)) := ((Grown.refl W).alloc _).alloc _
  have hz : W.heap.size + 2 = ((W.alloc (.cells #[.int .i64 x1, .int .i64 x2] 48)).alloc (.cells #[.int .i64 y1, .int .i64 y2] 48)).heap.size := by simp
  generalize (W.alloc (.cells #[.int .i64 x1, .int .i64 x2] 48)).alloc (.cells #[.int .i64 y1, .int .i64 y2] 48) = w0 at *
  go_region_held3 (fun w' => Grown w0 w' ∧ w'.cell? ⟨W.heap.size, 0, none⟩ = some (.int .i64 x1) ∧ w'.cell? ⟨W.heap.size, 1, none⟩ = some (.int .i64 x2) ∧ w'.cell? ⟨W.heap.size + 1, 0, none⟩ = some (.int .i64 y1) ∧ w'.cell? ⟨W.heap.size + 1, 1, none⟩ = some (.int .i64 y2))
    (first | assumption | exact keepS q0 q1 q2 q3 (by first | assumption | exact (Grown.refl _).drew | exact ((Grown.refl _).alloc _).drew | exact (Grown.refl _).drew.alloc _ | exact Grown.drew (by assumption) | exact Grown.alloc (by assumption) _ | exact Grown.trans ((Grown.refl _).alloc _).drew (by assumption) | exact Grown.trans ((Grown.refl _).drew.alloc _) (by assumption) | exact Grown.trans (by assumption) (by assumption)))
    (first | (go_at_call_of 38 x1; with_reducible refine (h1 _).mono ?_; rintro e w' ⟨rfl, rfl⟩) | (go_at_call_of 38 x2; with_reducible refine (h2 _).mono ?_; rintro e w' ⟨rfl, rfl⟩) | (go_at_call 37; refine (or_calls _ 2 2 [r1, r2] _ (pair_ints _ _ _ _ _ (by first | exact heap_alloc_new _ _ | exact heap_alloc_new _ _))).mono ?_; rintro e w' ⟨rfl, hg⟩))
  have hS := ‹Grown w0 w' ∧ _›
  go_wp2_with fail
  go_ret
  exact ⟨rfl, hG.trans hS.1⟩
set_option maxHeartbeats 4000000 in
theorem mostCmp_calls (x1 x2 y1 y2 : Int) (W : World) : Calls Tryz.prog 36 #[.agg #[.int .i64 x1, .int .i64 x2], .agg #[.int .i64 y1, .int .i64 y2]] W fun e w' => e = .returned (.int .i64 (orL [Lib.compareInt x1 y1, Lib.compareInt x2 y2])) ∧ Grown W w' := by
  have h1 := fun W' => AnyG.cmp_Compare_int Tryz.cmpIL x1 y1 W'
  have h2 := fun W' => AnyG.cmp_Compare_int Tryz.cmpIL x2 y2 W'
  change ∀ W', Calls Tryz.prog 38 _ _ _ at h1
  change ∀ W', Calls Tryz.prog 38 _ _ _ at h2
  generalize Lib.compareInt x1 y1 = r1 at h1 ⊢
  generalize Lib.compareInt x2 y2 = r2 at h2 ⊢
  go_enter Tryz.func36, Tryz.ntmps36
  go_wp2_with fail
  obtain ⟨q0, q1, q2, q3⟩ := pair_cells W (.int .i64 x1) (.int .i64 x2) (.int .i64 y1) (.int .i64 y2) 75
  have hG : Grown W ((W.alloc (.cells #[.int .i64 x1, .int .i64 x2] 75)).alloc (.cells #[.int .i64 y1, .int .i64 y2] 75)) := ((Grown.refl W).alloc _).alloc _
  have hz : W.heap.size + 2 = ((W.alloc (.cells #[.int .i64 x1, .int .i64 x2] 75)).alloc (.cells #[.int .i64 y1, .int .i64 y2] 75)).heap.size := by simp
  generalize (W.alloc (.cells #[.int .i64 x1, .int .i64 x2] 75)).alloc (.cells #[.int .i64 y1, .int .i64 y2] 75) = w0 at *
  go_region_held3 (fun w' => Grown w0 w' ∧ w'.cell? ⟨W.heap.size, 0, none⟩ = some (.int .i64 x1) ∧ w'.cell? ⟨W.heap.size, 1, none⟩ = some (.int .i64 x2) ∧ w'.cell? ⟨W.heap.size + 1, 0, none⟩ = some (.int .i64 y1) ∧ w'.cell? ⟨W.heap.size + 1, 1, none⟩ = some (.int .i64 y2))
    (first | assumption | exact keepS q0 q1 q2 q3 (by first | assumption | exact (Grown.refl _).drew | exact ((Grown.refl _).alloc _).drew | exact (Grown.refl _).drew.alloc _ | exact Grown.drew (by assumption) | exact Grown.alloc (by assumption) _ | exact Grown.trans ((Grown.refl _).alloc _).drew (by assumption) | exact Grown.trans ((Grown.refl _).drew.alloc _) (by assumption) | exact Grown.trans (by assumption) (by assumption)))
    (first | (go_at_call_of 38 x1; with_reducible refine (h1 _).mono ?_; rintro e w' ⟨rfl, rfl⟩) | (go_at_call_of 38 x2; with_reducible refine (h2 _).mono ?_; rintro e w' ⟨rfl, rfl⟩) | (go_at_call 37; refine (or_calls _ 2 2 [r1, r2] _ (pair_ints _ _ _ _ _ (by first | exact heap_alloc_new _ _ | exact heap_alloc_new _ _))).mono ?_; rintro e w' ⟨rfl, hg⟩))
  have hS := ‹Grown w0 w' ∧ _›
  go_wp2_with fail
  go_ret
  exact ⟨rfl, hG.trans hS.1⟩
end Go.Proofs.YtfbpjlabhckoeaaGreat
