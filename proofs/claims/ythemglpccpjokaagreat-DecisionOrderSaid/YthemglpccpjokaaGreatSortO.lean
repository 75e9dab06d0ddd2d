/- slices.Sort and slices.Compact of strings, at a slice of the call's own. -/
import Derived.Test.YthemglpccpjokaaGreatM3
import Derived.Test.YthemglpccpjokaaGreatM4
import Derived.Test.YthemglpccpjokaaGreatBr
import Derived.Test.YthemglpccpjokaaGreatTy
import Derived.Sort.OwnSorted
set_option linter.unusedSimpArgs false
set_option linter.unusedVariables false
set_option linter.unnecessarySimpa false
set_option linter.unusedSectionVars false
set_option maxRecDepth 100000
namespace Go.Proofs.YthemglpccpjokaaGreat
open Go.RowKit Go.Sort
variable [Glob]
section
variable {P : Program} {w0 w : World} {X : Nat → Prop} {φ : Nat → Option Nat} {G : List Blk}
def clrφ (φ : Nat → Option Nat) (id : Nat) : Nat → Option Nat := fun i => if i = id then none else φ i
theorem turn_clr (w : World) (φ : Nat → Option Nat) (G : List Blk) (id : Nat) : Turn w φ G w (clrφ φ id) (G.set id .gone) where
  size := Nat.le_refl _
  len := by simp
  old := fun b h _ => ⟨rfl, fun i e => by unfold clrφ at e; split at e; simp at e; exact h i e⟩
  box := fun i t cs' _ h => by
    by_cases e : id = i
    · subst e; rw [List.getElem?_set] at h; simp at h
    · rw [List.getElem?_set_ne e] at h
      exact ⟨cs', h, fun c hc => by unfold clrφ; rw [if_neg (fun q => e q.symm)]; exact hc⟩
  row := fun i e' nb rows' _ h => by
    by_cases e : id = i
    · subst e; rw [List.getElem?_set] at h; simp at h
    · rw [List.getElem?_set_ne e] at h
      have hi : clrφ φ id i = φ i := by unfold clrφ; rw [if_neg (fun q => e q.symm)]
      exact ⟨rows', h, Nat.le_refl _, fun _ => ⟨fun _ h => by rw [hi]; exact h, fun c hc => ⟨by rw [hi]; exact hc, fun cur hcur => ⟨cur, hcur, rfl⟩⟩⟩⟩
  map := fun i es' _ h => by
    by_cases e : id = i
    · subst e; rw [List.getElem?_set] at h; simp at h
    · rw [List.getElem?_set_ne e] at h
      exact ⟨es', h, fun c hc => ⟨by unfold clrφ; rw [if_neg (fun q => e q.symm)]; exact hc, bornK_same rfl⟩⟩
  iter := fun i m n s' _ h => by
    by_cases e : id = i
    · subst e; rw [List.getElem?_set] at h; simp at h
    · rw [List.getElem?_set_ne e] at h
      exact ⟨m, n, s', h, fun c hc => by unfold clrφ; rw [if_neg (fun q => e q.symm)]; exact hc⟩
theorem hr_clr (hr : HR P w0 X w φ G) (id : Nat) : HR P w0 X w (clrφ φ id) (G.set id .gone) := by
  have hT := turn_clr w φ G id
  have hsub : ∀ i c, clrφ φ id i = some c → i ≠ id ∧ φ i = some c := fun i c h => by
    unfold clrφ at h
    split at h
    · simp at h
    · exact ⟨by assumption, h⟩
  refine ⟨hr.vo, hr.fr, ext_turn hr hT, fun i c hc => ?_, fun i j c hi hj => hr.inj i j c (hsub i c hi).2 (hsub j c hj).2, fun i b c hi hc => ?_⟩
  · have := hr.own i c (hsub i c hc).2
    simpa using this
  · obtain ⟨h1, h2⟩ := hsub i c hc
    rw [List.getElem?_set_ne (fun q => h1 q.symm)] at hi
    exact (hr.blk i b c hi h2).turn hT rfl
theorem below_put {c k : Nat} {os : Array Obj} {cur : Array Value} {e : TypeId} (d : Array (List UInt8)) (hc : w.heap[c]? = some (.cells cur e (0, 0))) :
    Go.RowKit.Below (w.setRow c (putCells encStr 0 d cur)).heap.size (w.setRow c (putCells encStr 0 d cur)) (grow (putRow encStr (Sort.ahead w k) c 0 d) os) := by
  have hg : c < w.heap.size := (Array.getElem?_eq_some_iff.1 hc).1
  refine ⟨rfl, rfl, rfl, by simp, fun i hi => ?_⟩
  have hi' : i < w.heap.size := by simpa using hi
  by_cases e1 : i = c
  · subst e1
    rw [heap_sorted d hc, setRow_heap w i _ _ _ _ hc]
  · rw [heap_grow_old _ _ (by simpa using hi'), heap_setRow w c _ i e1]
    have : c ≠ i := fun q => e1 q.symm
    simp [putRow, mapBlock, Sort.ahead, Array.getElem?_modify, this]
theorem row_strs {e : TypeId} {nb : Bool} {l : List ByteArray} {id c : Nat} {cur : Array Value} (hr : HR P w0 X w φ G) (hb : G[id]? = some (.row e nb (rowsOf strC l))) (hφ : φ id = some c) (hc : w.heap[c]? = some (.cells cur e (0, 0))) (he : P.cellsOf e = 1) :
    l.length ≤ cur.size ∧ cur.toList.take l.length = (l.map (·.data.toList)).map encStr := by
  obtain ⟨cur', h1, h2, h3, h4⟩ := hr.blk id _ c hb hφ
  rw [hc] at h1
  simp at h1
  subst h1
  rw [he] at h3 h4
  simp [rowsOf_length] at h3
  refine ⟨h3, List.ext_getElem? fun j => ?_⟩
  by_cases hj : j < l.length
  · rw [List.getElem?_take_of_lt hj]
    have hlt : j < cur.size := by omega
    have := (h4 j 0 (strC l[j]) (.str l[j]) cur[j] (by simp [rowsOf, hj]) (by simp [strC]) (by simp [hlt])).1
    have := this.str_inv
    rw [Array.getElem?_toList, Array.getElem?_eq_getElem hlt, this]
    simp [hj, encStr]
  · rw [List.getElem?_take_eq_none (by omega), List.getElem?_eq_none (by simp; omega)]
theorem put_row {e : TypeId} {nb : Bool} {l l' : List ByteArray} {id c k : Nat} {os : Array Obj} {cur : Array Value} (hr : HR P w0 X w φ G) (hb : G[id]? = some (.row e nb (rowsOf strC l))) (hφ : φ id = some c) (hc : w.heap[c]? = some (.cells cur e (0, 0))) (he : P.cellsOf e = 1) (hll : l'.length = l.length) (hle : l.length ≤ cur.size) :
    HR P w0 X (grow (putRow encStr (Sort.ahead w k) c 0 (l'.map (·.data.toList)).toArray) os) φ (G.set id (.row e nb (rowsOf strC l'))) ∧ Turn w φ G (grow (putRow encStr (Sort.ahead w k) c 0 (l'.map (·.data.toList)).toArray) os) φ (G.set id (.row e nb (rowsOf strC l'))) := by
  have hsz : (putCells encStr 0 (l'.map (·.data.toList)).toArray cur).size = cur.size := by simp [putCells]
  have hs : Shape (.row e nb (rowsOf strC l)) (.row e nb (rowsOf strC l')) := ⟨fun _ _ h => by simp at h, fun e1 nb1 rows1 h => by simp at h; obtain ⟨rfl, rfl, rfl⟩ := h; exact ⟨_, rfl, by simp [rowsOf, hll]⟩, fun _ h => by simp at h⟩
  have h1 := hr_setRow hr hb hφ hs hc hsz (by
    refine ⟨_, setRow_heap w c _ _ _ _ hc, fun row hrow => ?_, by rw [he]; simp [rowsOf_length]; rw [hsz]; omega, fun i j row x v hi hj hv => ?_⟩
    · simp only [rowsOf, List.mem_map] at hrow
      obtain ⟨s, _, rfl⟩ := hrow
      simp [strC, he]
    · rw [he] at hv
      simp only [rowsOf, List.getElem?_map, Option.map_eq_some_iff] at hi
      obtain ⟨s, hi, rfl⟩ := hi
      have hlt := (List.getElem?_eq_some_iff.1 hi).1
      have hj0 : j = 0 := by
        have := (List.getElem?_eq_some_iff.1 hj).1
        simp [strC] at this; omega
      subst hj0
      simp [strC] at hj
      subst hj
      have hps : (putCells encStr 0 (l'.map (·.data.toList)).toArray cur)[i]? = some (.string s) := by
        have hlc : i < cur.size := by omega
        have hsi : l'[i] = s := by rw [List.getElem?_eq_getElem hlt] at hi; simpa using hi
        simp [putCells, hlc, hlt, hsi, encStr]
      simp only [Nat.mul_one, Nat.add_zero] at hv
      rw [hps] at hv
      simp at hv
      subst hv
      exact ⟨.ro .str, rfl⟩)
  have hT := turn_setRow hr hb hφ hs hc hsz
  have hB := below_put (k := k) (os := os) (l'.map (·.data.toList)).toArray hc
  exact ⟨hr_below h1 hB, hT.trans (turn_below h1 hB)⟩
end
def sortB (l : List ByteArray) : List ByteArray := ((l.map (·.data.toList)).mergeSort fun x y => decide (x ≤ y)).map fun x => ⟨x.toArray⟩
theorem sortB_map (l : List ByteArray) : (sortB l).map (·.data.toList) = (l.map (·.data.toList)).mergeSort fun x y => decide (x ≤ y) := by simp [sortB, Function.comp_def]
theorem sortB_len (l : List ByteArray) : (sortB l).length = l.length := by simp [sortB]
theorem one_arg {vs : Array Value} {x : AV} (h : [x].length = vs.size) : ∃ v, vs = #[v] := by
  rcases vs with ⟨l⟩
  match l, h with
  | [a], _ => exact ⟨a, rfl⟩
end Go.Proofs.YthemglpccpjokaaGreat
