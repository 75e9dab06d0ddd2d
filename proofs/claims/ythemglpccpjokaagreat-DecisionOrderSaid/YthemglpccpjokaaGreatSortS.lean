/- slices.Sort and slices.Compact of strings, at a slice of the call's own. -/
import Derived.Test.YthemglpccpjokaaGreatShelf
import Derived.Test.YthemglpccpjokaaGreatSortO
set_option linter.unusedSimpArgs false
set_option linter.unusedVariables false
set_option linter.unnecessarySimpa false
set_option linter.unusedSectionVars false
set_option maxRecDepth 100000
namespace Go.Proofs.YthemglpccpjokaaGreat
open Go.RowKit Go.Sort
variable [Glob]
theorem sort_nil : Pure Tryz.prog 112 [.rs []] (.tup []) := exF_pure (m := 64) (n := 20) mixed noHook (by kernel_rfl)
theorem sort_G {e : TypeId} {nb : Bool} {l : List ByteArray} {id n : Nat} {H : List Blk} {K : AV → List Blk → Prop} (hb : H[id]? = some (.row e nb (rowsOf strC l))) (hn : n = l.length) (he : Tryz.prog.cellsOf e = 1) (hlen : l.length ≤ 1073741824)
    (hK : K (.tup []) (H.set id (.row e nb (rowsOf strC (sortB l))))) : CallG Tryz.prog 112 [.os id n] H K := by
  refine ⟨by kernel_rfl, fun w0 w X φ vs hr hl hv => ?_⟩
  obtain ⟨v0, rfl⟩ := one_arg hl
  have hv0 := hv 0 (.os id n) v0 rfl rfl
  cases hv0 with
  | ro h => cases h
  | os h0 hid hv' =>
    rcases (hv' e nb _ hb).2 (by rw [hn, rowsOf_length]) with ⟨hnb, hφ, ⟨A, rfl⟩, hz⟩ | ⟨c, cap, cur, hφ, rfl, hheap, hsz, hcap, hncap⟩
    · have hl0 : l = [] := List.eq_nil_of_length_eq_zero (by omega)
      subst hl0
      refine (sort_nil.2 w X #[.slice A 0 0] (fun b hb => (hr.ext b hb).1) hr.now rfl fun j y u hj hu => ?_).mono ?_
      · cases j with
        | zero => simp at hj hu; subst hj hu; exact .rs 0 (fun _ _ => undef) rfl (Nat.le_refl _) (by simp) (by simp)
        | succ j => simp at hj
      · rintro en w' ⟨v, rfl, hvv, hbel⟩
        have hH : H.set id (.row e nb (rowsOf strC (sortB []))) = H := by
          have hs : sortB [] = [] := by simp [sortB]
          rw [hs]
          refine List.ext_getElem? fun j => ?_
          by_cases e1 : id = j
          · subst e1; rw [List.getElem?_set_self hid, hb]
          · rw [List.getElem?_set_ne e1]
        rw [hH] at hK
        exact ⟨v, .tup [], φ, H, rfl, hr_below hr hbel, turn_below hr hbel, .ro (hvv.of_flat rfl), hK⟩
    · obtain ⟨hle, htk⟩ := row_strs hr hb hφ hheap he
      have hH : Holds encStr w c 0 (l.map (·.data.toList)).toArray := holds_of_block hheap (by simpa using htk)
      have := Tryz.slices_Sort_string c 0 cap (l.map (·.data.toList)) w hH (Array.getElem?_eq_some_iff.1 hheap).1 (by simp; omega)
      rw [List.length_map, ← hn] at this
      refine this.mono ?_
      rintro en w' ⟨rfl, k, os, rfl⟩
      rw [← sortB_map]
      obtain ⟨h1, h2⟩ := put_row (k := k) (os := os) hr hb hφ hheap he (sortB_len l) hle
      exact ⟨_, .tup [], φ, _, rfl, h1, h2, .tup rfl (by simp), hK⟩
def compB (l : List ByteArray) : List ByteArray := (Lib.compact (l.map (·.data.toList))).map fun x => ⟨x.toArray⟩
theorem compact_le (zs : List (List UInt8)) : (Lib.compact zs).length ≤ zs.length := by
  simp only [Lib.compact, Lib.compactUpTo, List.length_map]
  exact Nat.le_trans (List.length_filter_le _ _) (by simp)
theorem comp_G {e : TypeId} {nb : Bool} {l : List ByteArray} {id n : Nat} {H : List Blk} {K : AV → List Blk → Prop} (hb : H[id]? = some (.row e nb (rowsOf strC l))) (hn : n = l.length) (he : Tryz.prog.cellsOf e = 1) (hlen : l.length ≤ 1073741824)
    (hK : K (.rs (rowsOf strC (compB l))) (H.set id .gone)) : CallG Tryz.prog 113 [.os id n] H K := by
  refine ⟨by kernel_rfl, fun w0 w X φ vs hr hl hv => ?_⟩
  obtain ⟨v0, rfl⟩ := one_arg hl
  have hv0 := hv 0 (.os id n) v0 rfl rfl
  cases hv0 with
  | ro h => cases h
  | os h0 hid hv' =>
    rcases (hv' e nb _ hb).2 (by rw [hn, rowsOf_length]) with ⟨hnb, hφ, ⟨A, rfl⟩, hz⟩ | ⟨c, cap, cur, hφ, rfl, hheap, hsz, hcap, hncap⟩
    · have hl0 : l = [] := List.eq_nil_of_length_eq_zero (by omega)
      subst hl0
      refine (Tryz.slices_Compact_string_empty A 0 w).mono ?_
      rintro en w' ⟨rfl, rfl⟩
      exact ⟨_, _, _, _, rfl, hr_clr hr id, turn_clr _ φ H id, .ro (.rs 0 (fun _ _ => undef) rfl (Nat.le_refl _) (by simp [compB, Lib.compact, Lib.compactUpTo, rowsOf]) (by simp [compB, Lib.compact, Lib.compactUpTo, rowsOf])), hK⟩
    · obtain ⟨hle, htk⟩ := row_strs hr hb hφ hheap he
      have hH : Holds encStr w c 0 (l.map (·.data.toList)).toArray := holds_of_block hheap (by simpa using htk)
      have := Tryz.slices_Compact_string c 0 cap (l.map (·.data.toList)) w hH (by simp; omega) (by simp; omega)
      rw [List.length_map, ← hn] at this
      refine this.mono ?_
      rintro en w' ⟨rfl, k, rfl⟩
      obtain ⟨L, hL⟩ : ∃ L : List ByteArray, L = compB l ++ List.replicate (l.length - (compB l).length) ⟨#[]⟩ := ⟨_, rfl⟩
      have hcl : (compB l).length = (Lib.compact (l.map (·.data.toList))).length := by simp [compB]
      have hcle := compact_le (l.map (·.data.toList))
      simp only [List.length_map] at hcle
      have hLl : L.length = l.length := by rw [hL]; simp; omega
      have hLm : L.map (·.data.toList) = Lib.compact (l.map (·.data.toList)) ++ List.replicate (n - (Lib.compact (l.map (·.data.toList))).length) [] := by
        rw [hL, List.map_append, List.map_replicate, hcl, hn]
        simp [compB, Function.comp_def]
      rw [← hLm]
      obtain ⟨h1, h2⟩ := put_row (k := k) (os := #[]) hr hb hφ hheap he hLl hle
      have hset : (H.set id (.row e nb (rowsOf strC L))).set id .gone = H.set id .gone := by simp
      have g1 := hr_clr h1 id
      have g2 := h2.trans (turn_clr _ φ _ id)
      rw [hset] at g1 g2
      rw [grow_empty] at g1 g2
      refine ⟨_, .rs (rowsOf strC (compB l)), _, _, rfl, g1, g2, .ro ?_, hK⟩
      have hblk : (putRow encStr (Sort.ahead w k) c 0 (L.map (·.data.toList)).toArray).heap[c]? = some (.cells (putCells encStr 0 (L.map (·.data.toList)).toArray cur) e (0, 0)) := by
        have := heap_sorted (n := k) (os := #[]) (L.map (·.data.toList)).toArray hheap
        rwa [grow_empty] at this
      have hcx : ¬ (X c ∨ ∃ i, clrφ φ id i = some c) := fun q => by
        rcases q with q | ⟨i, q⟩
        · exact (hr.ext c q).2 id hφ
        · unfold clrφ at q
          split at q
          · simp at q
          · rename_i hne
            exact hne (hr.inj _ _ c q hφ)
      refine .rs 1 (fun i _ => .string ((compB l).getD i ⟨#[]⟩)) (by rw [rowsOf_length, hcl]) (by omega) (fun i row hi => ?_) (fun i j row x hi hj => ?_)
      · simp only [rowsOf, List.getElem?_map, Option.map_eq_some_iff] at hi
        obtain ⟨s, hi, rfl⟩ := hi
        have hlt := (List.getElem?_eq_some_iff.1 hi).1
        have hsi : (compB l)[i] = s := by rw [List.getElem?_eq_getElem hlt] at hi; simpa using hi
        refine ⟨rfl, ⟨c, 0, none⟩, rfl, (Array.getElem?_eq_some_iff.1 hblk).1, hcx, fun j hj => ?_⟩
        have hj0 : j = 0 := by omega
        subst hj0
        have hLi : L[i]? = some s := by rw [hL, List.getElem?_append_left hlt, hi]
        have hlc : i < cur.size := by omega
        refine ⟨?_, rfl⟩
        have ha : (Addr.mk c 0 none).add (i * 1 + 0) = ⟨c, i, none⟩ := by rw [add_noneA]; simp
        rw [ha, cell_row hblk]
        have hLi2 : i < L.length := (List.getElem?_eq_some_iff.1 hLi).1
        have hLi3 : L[i] = s := by rw [List.getElem?_eq_getElem hLi2] at hLi; simpa using hLi
        simp [putCells, hlc, hLi2, hLi3, encStr, hlt, hsi, List.getD]
      · simp only [rowsOf, List.getElem?_map, Option.map_eq_some_iff] at hi
        obtain ⟨s, hi, rfl⟩ := hi
        have hlt := (List.getElem?_eq_some_iff.1 hi).1
        have hsi : (compB l)[i] = s := by rw [List.getElem?_eq_getElem hlt] at hi; simpa using hi
        have hj0 : j = 0 := by
          have := (List.getElem?_eq_some_iff.1 hj).1
          simp [strC] at this; omega
        subst hj0
        simp [strC] at hj
        subst hj
        simp [List.getD, hlt, hsi]
        exact .str
end Go.Proofs.YthemglpccpjokaaGreat
