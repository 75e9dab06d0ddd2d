/- What slices.SortFunc leaves behind, at a slice of the call's own whose elements have several cells. -/
import Derived.Test.YtkppfaennogcmaaM3
import Derived.Test.YtkppfaennogcmaaTy
import Derived.Shelf.SlSortCmp.WholeK
namespace Go.Proofs.Ytkppfaennogcmaa
set_option linter.unusedSimpArgs false
set_option linter.unusedVariables false
set_option linter.unnecessarySimpa false
set_option linter.unusedSectionVars false
open Go.RowKit Go.Sort Go.Shelf Go.Lib
set_option maxRecDepth 100000
variable [Glob]
section
variable {P : Program} {w0 w : World} {X : Nat → Prop} {φ : Nat → Option Nat} {G : List Blk}
theorem heap_putV {c k : Nat} {os : Array Obj} {cur : Array Value} {e : TypeId} (F : Array Value) (hc : w.heap[c]? = some (.cells cur e (0, 0))) :
    (grow (putRow id (Sort.ahead w k) c 0 F) os).heap[c]? = some (.cells (putCells id 0 F cur) e (0, 0)) := by
  have hg : c < w.heap.size := (Array.getElem?_eq_some_iff.1 hc).1
  rw [heap_grow_old _ _ (by simpa using hg)]
  simp [putRow, mapBlock, Sort.ahead, Array.getElem?_modify, hc, onCells]
theorem below_putV {c k : Nat} {os : Array Obj} {cur : Array Value} {e : TypeId} (F : Array Value) (hc : w.heap[c]? = some (.cells cur e (0, 0))) :
    Go.RowKit.Below (w.setRow c (putCells id 0 F cur)).heap.size (w.setRow c (putCells id 0 F cur)) (grow (putRow id (Sort.ahead w k) c 0 F) os) := by
  have hg : c < w.heap.size := (Array.getElem?_eq_some_iff.1 hc).1
  refine ⟨rfl, rfl, rfl, by simp, fun i hi => ?_⟩
  have hi' : i < w.heap.size := by simpa using hi
  by_cases e1 : i = c
  · subst e1
    rw [heap_putV F hc, setRow_heap w i _ _ _ _ hc]
  · rw [heap_grow_old _ _ (by simpa using hi'), heap_setRow w c _ i e1]
    have : c ≠ i := fun q => e1 q.symm
    simp [putRow, mapBlock, Sort.ahead, Array.getElem?_modify, this]
theorem flatK_get {α : Type} [Inhabited α] (enc : α → List Value) (k : Nat) (d : Array α) (hk : ∀ x, (enc x).length = k) {i j : Nat} (hi : i < d.size) (hj : j < k) : (flatK enc k d)[i * k + j]? = (enc d[i])[j]? := by
  have hlt : i * k + j < d.size * k := by
    calc i * k + j < i * k + k := by omega
      _ = (i + 1) * k := by rw [Nat.add_mul, Nat.one_mul]
      _ ≤ d.size * k := Nat.mul_le_mul_right _ hi
  have hsz : (flatK enc k d).size = d.size * k := by simp [flatK]
  have h1 := get_flatK enc k d (i * k + j) hlt
  rw [getElem!_pos _ _ (by rw [hsz]; exact hlt)] at h1
  rw [Array.getElem?_eq_getElem (by rw [hsz]; exact hlt), h1]
  have hdv : (i * k + j) / k = i := by
    rw [Nat.mul_comm, Nat.mul_add_div (by omega), Nat.div_eq_of_lt hj]; omega
  have hmd : (i * k + j) % k = j := by rw [Nat.mul_comm, Nat.mul_add_mod, Nat.mod_eq_of_lt hj]
  rw [hdv, hmd, getElem!_pos d i hi, getElem!_pos _ j (by rw [hk]; exact hj), List.getElem?_eq_getElem]
/-- The row is turned. -/
theorem putK_row {e : TypeId} {nb : Bool} {rows : List (List AV)} {bid c m k : Nat} {os : Array Obj} {cur : Array Value} {α : Type} [Inhabited α] (hr : HR P w0 X w φ G) (hb : G[bid]? = some (.row e nb rows)) (hφ : φ bid = some c) (hc : w.heap[c]? = some (.cells cur e (0, 0))) (hce : P.cellsOf e = k) (hk0 : 0 < k)
    (enc : α → List Value) (C : α → List AV) (hk : ∀ x, (enc x).length = k) (hC : ∀ x, (C x).length = k) (hread : ∀ x (j : Nat) a v, (C x)[j]? = some a → (enc x)[j]? = some v → RV P w X φ G a v ∧ v.oneCell' = true) (d : Array α) (hd : d.size = rows.length) (hle : rows.length * k ≤ cur.size) :
    HR P w0 X (sortWorldK enc k w c 0 m d os) φ (G.set bid (.row e nb (d.toList.map C))) ∧ Turn w φ G (sortWorldK enc k w c 0 m d os) φ (G.set bid (.row e nb (d.toList.map C))) := by
  have hsz : (putCells id 0 (flatK enc k d) cur).size = cur.size := by simp [putCells]
  have hF : (flatK enc k d).size = d.size * k := by simp [flatK]
  have hs : Shape (.row e nb rows) (.row e nb (d.toList.map C)) := ⟨fun _ _ h => by simp at h, fun e1 nb1 rows1 h => by simp at h; obtain ⟨rfl, rfl, rfl⟩ := h; exact ⟨_, rfl, by simp [hd]⟩, fun _ h => by simp at h⟩
  have hT := turn_setRow hr hb hφ hs hc hsz
  have h1 := hr_setRow hr hb hφ hs hc hsz (by
    refine ⟨_, setRow_heap w c _ _ _ _ hc, fun row hrow => ?_, by rw [hce, hsz]; simp [hd]; exact hle, fun i j row x v hi hj hv => ?_⟩
    · simp only [List.mem_map] at hrow
      obtain ⟨s, _, rfl⟩ := hrow
      rw [hC, hce]
    · rw [hce] at hv
      simp only [List.getElem?_map, Option.map_eq_some_iff] at hi
      obtain ⟨s, hi, rfl⟩ := hi
      have hlt : i < d.size := by have := (List.getElem?_eq_some_iff.1 hi).1; simpa using this
      have hds : d[i] = s := by
        rw [Array.getElem?_toList, Array.getElem?_eq_getElem hlt] at hi; simpa using hi
      have hjk : j < k := by have := (List.getElem?_eq_some_iff.1 hj).1; rwa [hC] at this
      have hij : i * k + j < d.size * k := by
        calc i * k + j < i * k + k := by omega
          _ = (i + 1) * k := by rw [Nat.add_mul, Nat.one_mul]
          _ ≤ d.size * k := Nat.mul_le_mul_right _ hlt
      have hcur : i * k + j < cur.size := by rw [hd] at hij; omega
      have hfl := flatK_get enc k d hk hlt hjk
      rw [hds] at hfl
      have hv2 : (enc s)[j]? = some v := by
        rw [← hfl, ← hv]
        simp only [putCells, Array.getElem?_mapIdx, Array.getElem?_eq_getElem hcur, Option.map_some]
        rw [if_pos (by rw [hF]; omega), Nat.sub_zero, getElem!_pos _ _ (by rw [hF]; exact hij), Array.getElem?_eq_getElem (by rw [hF]; exact hij)]
        rfl
      obtain ⟨q1, q2⟩ := hread s j x v hj hv2
      exact ⟨q1.turn hT, q2⟩)
  have hB := below_putV (k := m) (os := os) (flatK enc k d) hc
  exact ⟨hr_below h1 hB, hT.trans (turn_below h1 hB)⟩
/-- What the row holds. -/
theorem holdsK_row {e : TypeId} {nb : Bool} {bid c k : Nat} {cur : Array Value} {α : Type} [Inhabited α] {l : List α} {C : α → List AV} (hr : HR P w0 X w φ G) (hb : G[bid]? = some (.row e nb (l.map C))) (hφ : φ bid = some c) (hc : w.heap[c]? = some (.cells cur e (0, 0))) (hce : P.cellsOf e = k)
    (enc : α → List Value) (hk : ∀ x, (enc x).length = k) (hC : ∀ x, (C x).length = k) (hdet : ∀ (i j : Nat) x a v u, l[i]? = some x → (C x)[j]? = some a → (enc x)[j]? = some v → cur[i * k + j]? = some u → RV P w X φ G a u → u = v) : l.length * k ≤ cur.size ∧ HoldsK enc k w c 0 l.toArray := by
  obtain ⟨cur', h1, h2, h3, h4⟩ := hr.blk bid _ c hb hφ
  rw [hc] at h1
  simp at h1
  subst h1
  rw [hce] at h3 h4
  simp only [List.length_map] at h3
  refine ⟨h3, fun t ht => ?_⟩
  have hsz : (flatK enc k l.toArray).size = l.length * k := by simp [flatK]
  rw [hsz] at ht
  have hk0 : 0 < k := by
    rcases Nat.eq_zero_or_pos k with e0 | e0
    · rw [e0] at ht; omega
    · exact e0
  have hi : t / k < l.length := Nat.div_lt_of_lt_mul (by rw [Nat.mul_comm]; exact ht)
  have hj : t % k < k := Nat.mod_lt _ hk0
  have hfl := flatK_get enc k l.toArray hk (i := t / k) (j := t % k) (by simpa using hi) hj
  have htt : t / k * k + t % k = t := by rw [Nat.mul_comm]; exact Nat.div_add_mod t k
  rw [htt] at hfl
  have hlt : t < cur.size := by omega
  have hx : (l.toArray)[t / k]'(by simpa using hi) = l[t / k] := by simp
  rw [hx] at hfl
  have hlen := hk l[t / k]
  obtain ⟨v, hv⟩ : ∃ v, (enc l[t / k])[t % k]? = some v := ⟨_, List.getElem?_eq_getElem (l := enc l[t / k]) (i := t % k) (by omega)⟩
  obtain ⟨a, ha⟩ : ∃ a, (C l[t / k])[t % k]? = some a := ⟨_, List.getElem?_eq_getElem (l := C l[t / k]) (i := t % k) (by rw [hC]; exact hj)⟩
  have hu := h4 (t / k) (t % k) (C l[t / k]) a cur[t] (by simp [hi]) ha (by rw [htt]; simp [hlt])
  have huv := hdet (t / k) (t % k) l[t / k] a v cur[t] (by simp [hi]) ha hv (by rw [htt]; simp [hlt]) hu.1
  rw [hv] at hfl
  have hf2 : (flatK enc k l.toArray)[t]! = v := by
    rw [getElem!_pos _ _ (by rw [hsz]; exact ht)]
    rw [Array.getElem?_eq_getElem (by rw [hsz]; exact ht)] at hfl
    exact Option.some.inj hfl
  rw [hf2]
  refine ⟨?_, ?_⟩
  · rw [cell_row hc]
    simp [hlt, huv]
  · simp [World.frozen?, hc]
end
end Go.Proofs.Ytkppfaennogcmaa
