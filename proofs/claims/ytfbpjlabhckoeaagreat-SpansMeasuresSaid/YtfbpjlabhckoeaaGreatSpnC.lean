/- Copies of instances. -/
import Derived.Test.YtfbpjlabhckoeaaGreatSpnB
import Derived.Test.YtfbpjlabhckoeaaGreatCl0
import Derived.Lib.SliceRun
import Derived.Lib.Walk
namespace Go.Proofs.YtfbpjlabhckoeaaGreat
set_option linter.unusedSimpArgs false
set_option linter.unusedVariables false
set_option linter.unnecessarySimpa false
set_option linter.unusedSectionVars false
open Go.RowKit
variable [Glob]
set_option maxRecDepth 100000
theorem cloneIn_fresh (l : List Ins) (h0 : l ≠ []) (hl : l.length ≤ 1073741824) : Fresh Tryz.prog 31 [.rs (rowsOf insC l)] 61 (rowsOf insC l) := by
  refine fresh_of mixed Tryz.func31 rfl (by kernel_rfl) (of_decide_eq_true rfl) (by kernel_rfl) (vc_run ?_)
  have h1 : l.isEmpty = false := by cases l <;> simp at h0 ⊢
  have h2 : allLen 6 (rowsOf insC l) = true := rowsOf_allLen fun x => rfl
  simp -implicitDefEqProofs [h1, hl, h2]
  exact rowsOf_owns' (f := insC) fun x c hc => by simp [insC] at hc; rcases hc with rfl | rfl | rfl | rfl | rfl | rfl <;> rfl
theorem in_info : ∃ i, Tryz.prog.info? 61 = some i ∧ i.zero = some (.agg #[.string ByteArray.empty, .string ByteArray.empty, .string ByteArray.empty, .int .i64 0, .int .i64 0, .int .i64 0]) ∧ i.size = 6 ∧ i.bytes = 72 := by
  obtain ⟨j, h1, h2⟩ := Option.map_eq_some_iff.1 (show (Tryz.prog.info? 61).map (fun i => (i.zero, i.size, i.bytes)) = some (some (.agg #[.string ByteArray.empty, .string ByteArray.empty, .string ByteArray.empty, .int .i64 0, .int .i64 0, .int .i64 0]), 6, 72) by kernel_rfl)
  simp only [Prod.mk.injEq] at h2
  exact ⟨j, h1, h2.1, h2.2.1, h2.2.2⟩
set_option maxHeartbeats 2000000 in
theorem cloneIn_nil (c : Nat) (w : World) : Calls Tryz.prog 31 #[.slice none 0 c] w fun en w' => en = .returned (.slice none 0 0) ∧ w' = w := by
  have q24 : ∀ (w : World) (a : Option Addr) (n c n' c' : Nat), (binOp .eql 22 (.slice a n c) (.slice none n' c')).run Tryz.prog w = .ok (.bool a.isNone) w := fun w a n c n' c' => Lib.run_eql_slice_nil w _ _ a n c n' c' Tryz.underlying22
  go_enter Tryz.func31, Tryz.ntmps31
  go_wp2
  go_ret
  exact ⟨rfl, rfl⟩
set_option maxHeartbeats 2000000 in
theorem cloneIn_zero (a : Addr) (c : Nat) (w : World) : Calls Tryz.prog 31 #[.slice (some a) 0 c] w fun en w' => ∃ v', en = .returned v' ∧ w'.ownsRow w.heap.size 61 6 v' 0 [] ∧ Below w.heap.size w w' := by
  obtain ⟨i0, hi, hz0, hz1, hz2⟩ := in_info
  have q24 : ∀ (w : World) (a : Option Addr) (n c n' c' : Nat), (binOp .eql 22 (.slice a n c) (.slice none n' c')).run Tryz.prog w = .ok (.bool a.isNone) w := fun w a n c n' c' => Lib.run_eql_slice_nil w _ _ a n c n' c' Tryz.underlying22
  go_enter Tryz.func31, Tryz.ntmps31
  go_wp2_with (at_builtin; refine wpList_append_own _ rfl _ _ 22 rfl w.heap.size 61 i0 (.agg #[.string ByteArray.empty, .string ByteArray.empty, .string ByteArray.empty, .int .i64 0, .int .i64 0, .int .i64 0]) 6 72 Tryz.underlying22 hi hz0 hz1 hz2 rfl (by decide) _ _ _ rfl (World.ownsRow_made w #[] 0 (Nat.le_refl _) (Nat.zero_le _) rfl) a 0 c [] rfl rfl (by intro j u hj; simp at hj) (by intro u hu; cases hu) (by unfold maxLen; omega) (by omega) (by simp) ?_)
  intro v' w1 hown hgrow hnil
  go_wp2
  go_ret
  refine ⟨v', rfl, by simpa using hown, ?_⟩
  exact ((Below.refl _ w).alloc (Nat.le_refl _) _).grown hgrow (by simp) (by intro k hk; simp [Value.ownBlock] at hk; omega)
theorem cloneIn0_G {H : List Blk} {K : AV → List Blk → Prop} (hK : ∀ nb, K (.os H.length 0) (H ++ [.row 61 nb []])) : CallG Tryz.prog 31 [.rs []] H K :=
  clone0_core (by kernel_rfl) (fun c w => cloneIn_nil c w) (fun a c w => (cloneIn_zero a c w).mono fun en w' ⟨v', h1, h2, h3⟩ => ⟨v', h1, by rw [show Tryz.prog.cellsOf 61 = 6 by kernel_rfl]; exact h2, h3⟩) hK
/-- A copy, of an empty slice or not. -/
theorem cloneIn_G (l : List Ins) (hl : l.length ≤ 1073741824) {H : List Blk} {K : AV → List Blk → Prop} (hK : ∀ nb, K (.os H.length l.length) (H ++ [.row 61 nb (rowsOf insC l)])) : CallG Tryz.prog 31 [.rs (rowsOf insC l)] H K := by
  by_cases h0 : l = []
  · subst h0; exact cloneIn0_G hK
  · have hlf : ((rowsOf insC l).all fun r => r.all flat) = true := rowsOf_flat fun x => by simp [insC, flat]
    have := fresh_callE («as» := [.rs (rowsOf insC l)]) (H := H) (cloneIn_fresh l h0 hl) (by simp) (.inl hlf)
    rw [rowsOf_length] at this
    exact callE_G this (hK false)
end Go.Proofs.YtfbpjlabhckoeaaGreat
