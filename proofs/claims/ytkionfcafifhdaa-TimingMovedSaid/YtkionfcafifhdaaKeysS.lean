/- slices.Sorted(maps.Keys(m)) of a map of the call's own with strings as keys. -/
import Derived.Test.YtkionfcafifhdaaKeysO
import Derived.Shelf.SlIter.Nil
import Derived.Shelf.SortM.Plain
import Derived.Shelf.SortM.SortNone
import Derived.Test.YtkionfcafifhdaaLayK
namespace Go.Proofs.Ytkionfcafifhdaa
set_option linter.unusedSimpArgs false
set_option linter.unusedVariables false
set_option linter.unnecessarySimpa false
set_option linter.unusedSectionVars false
open Go.RowKit Go.Maps Go.Sort Go.Shelf
variable [Glob]
set_option maxRecDepth 100000
theorem sortsA (m : Nat) : AnyZ.SortsIn Try.prog Try.sortedA_ren Fence.wide m :=
  ⟨fun blk off cap ss W hH hblk hsz => callsIn_wide.2 (AnyM.slices_Sort_string Try.sortA blk off cap ss W hH hblk hsz),
   fun p cap W => callsIn_wide.2 (AnyM.slices_Sort_string_none Try.sortA p cap W)⟩
theorem sorted_calls {H : Type} (Bm b nn : Nat) (D0 : DataW H) (R : Value → Option (DataW H × List MemPlace)) (w : World) (hBm : Bm < w.heap.size) (hm : w.cell? ⟨Bm, 0, none⟩ = some (.map (some b))) (hown : w.ownsMap Try.prog 9 R b nn D0) (hmax : Maps.size D0 ≤ maxLen) (hbytes : Maps.size D0 * 16 ≤ 140737488355328) :
    Calls Try.prog 41 #[.func (.func 64) #[] #[.pointer (some ⟨Bm, 0, none⟩)]] w fun e w' => ∃ (v : Value) (ss : List (List UInt8)), e = .returned v ∧ ss.Perm (strKeys D0) ∧
      w'.ownsRow w.heap.size 9 1 v ss.length ((ss.mergeSort (fun x y => decide (x ≤ y))).map encStr) ∧ (v = .slice none 0 0 ↔ ss = []) ∧ Below w.heap.size w w' := by
  refine (callsIn_wide (n := 5)).1 ?_
  have hseq : SeqGives Fence.wide 2 Try.prog 64 #[.pointer (some ⟨Bm, 0, none⟩)] encStr (fun ss => ss.Perm (strKeys D0)) (Maps.size D0) w :=
    AnyZ.keys_gives (ρ := Try.keysA_ren) { Try.keysA with } Fence.wide _ trivial rfl (by omega) Bm b nn D0 _ hBm hm hown
  exact AnyZ.sorted_in Try.sortedA Fence.wide 5 trivial trivial trivial trivial rfl (by omega) (sortsA _) (enters_of Try.func63 (by kernel_rfl) rfl) _ _ trivial (enters_of Try.func64 (by kernel_rfl) rfl) _ _ hmax hbytes w hseq
theorem keys_G {H : List Blk} {b m : Nat} {tc : TypeId} {es : List (AV × AV)} {ks : List ByteArray} {K : AV → List Blk → Prop} (hb : H[b]? = some (.box tc [.mp m])) (hm : H[m]? = some (.map es)) (hk : es.map (·.1) = ks.map .str) (hnd : ks.Nodup) (hsz : ∀ k ∈ ks, k.size ≤ maxLen) (hlen : ks.length ≤ 1000000)
    (hK : K (.rs (rowsOf strC (setB ks))) H) : CallG Try.prog 41 [.fn 64 [.op b 0]] H K := by
  refine ⟨by kernel_rfl, fun w0 w X φ vs hr hl hv => ?_⟩
  obtain ⟨v0, rfl⟩ := one_arg hl
  have hv0 := hv 0 _ v0 rfl rfl
  obtain ⟨u, rfl, hu⟩ : ∃ u, v0 = .func (.func 64) #[] #[u] ∧ RV Try.prog w X φ H (.op b 0) u := by
    cases hv0 with
    | ro h =>
      cases h with
      | fn h1 h2 => obtain ⟨u, rfl⟩ := one_arg h1; exact ⟨u, rfl, .ro (h2 0 _ u rfl rfl)⟩
    | fn h1 h2 => obtain ⟨u, rfl⟩ := one_arg h1; exact ⟨u, rfl, h2 0 _ u rfl rfl⟩
  obtain ⟨c, hc, rfl⟩ : ∃ c, φ b = some c ∧ u = .pointer (some ⟨c, 0, none⟩) := by
    cases hu with
    | ro h => cases h
    | op h0 hid h => exact h _ _ hb
  obtain ⟨cur, q1, q2, q3⟩ := hr.blk b _ c hb hc
  obtain ⟨mv, rfl⟩ : ∃ mv, cur = #[mv] := one_arg (x := .mp m) (by simpa using q2.symm)
  have hmv := (q3 0 (.mp m) mv rfl rfl).1
  obtain ⟨d, hd, rfl⟩ : ∃ d, φ m = some d ∧ mv = .map (some d) := by
    cases hmv with
    | ro h => cases h
    | mp h0 hid h => exact h _ hm
  obtain ⟨D0, o1, o2, o3⟩ := owns_strs Try.underlying9 (hr.blk m _ d hm hd) hk hnd hsz hlen
  refine (sorted_calls c d _ D0 anyR w (hr.own b c hc).2.1 (by simp [World.cell?, q1]) o1 (by rw [o2]; unfold maxLen; omega) (by rw [o2]; omega)).mono ?_
  rintro e w' ⟨v, ss, rfl, hp, hrow, _, hB⟩
  have hS := keys_set (hp.trans o3) hnd
  have hSl : ss.length = (setB ks).length := by have := congrArg List.length hS; simpa using this
  rw [hS, hSl, List.map_map] at hrow
  have he : (encStr ∘ fun x : ByteArray => x.data.toList) = Value.string := by funext x; simp [encStr]
  rw [he] at hrow
  exact ⟨v, _, φ, H, rfl, hr_below hr hB, turn_below hr hB, rv_strs hr hrow, hK⟩
end Go.Proofs.Ytkionfcafifhdaa
