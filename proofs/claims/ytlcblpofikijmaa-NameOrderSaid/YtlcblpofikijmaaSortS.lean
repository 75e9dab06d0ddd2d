/- slices.Sort and slices.Compact of strings, at a slice of the call's own. -/
import Derived.Test.YtlcblpofikijmaaShelf
import Derived.Test.YtlcblpofikijmaaAbFoot
import Derived.Test.YtlcblpofikijmaaAbExec
import Derived.Test.YtlcblpofikijmaaBr
import Derived.Test.YtlcblpofikijmaaTy
import Derived.Sort.OwnSorted
namespace Go.Proofs.Ytlcblpofikijmaa
set_option linter.unusedSimpArgs false
set_option linter.unusedVariables false
set_option linter.unnecessarySimpa false
set_option linter.unusedSectionVars false
open Go.RowKit Go.Sort
variable [Glob]
set_option maxRecDepth 100000
section
variable {P : Program} {w0 w : World} {X : Nat → Prop} {φ : Nat → Option Nat} {G : List Blk}
def clrφ (φ : Nat → Option Nat) (id : Nat) : Nat → Option Nat := fun i => if i = id then none else φ i
/-- A block that the call gives up: memory that nobody writes from here on. -/
theorem turn_clr (w : World) (φ : Nat → Option Nat) (G : List Blk) (id : Nat) : Turn w φ G w (clrφ φ id) (G.set id .gone) where
  size := Nat.le_refl _
  len := by simp
  old := fun b h _ => ⟨rfl, fun i e => by unfold clrφ at e; split at e; simp at e; exact h i e⟩
  box := fun i t cs' _ h => by
    by_cases e : id = i
    · subst e; rw [List.getElem?_set] at h; simp at h
    · rw [List.getElem?_set_ne e] at h
      exact ⟨cs', h, fun c hc => by unfold clrφ; rw [if_neg (fun q => e q.symm)]; exact hc⟩
  row := fun i e' nb rows' _ h => by
    by_cases e : id = i
    · subst e; rw [List.getElem?_set] at h; simp at h
    · rw [List.getElem?_set_ne e] at h
      have hi : clrφ φ id i = φ i := by unfold clrφ; rw [if_neg (fun q => e q.symm)]
      exact ⟨rows', h, Nat.le_refl _, fun _ => ⟨fun _ h => by rw [hi]; exact h, fun c hc => ⟨by rw [hi]; exact hc, fun cur hcur => ⟨cur, hcur, rfl⟩⟩⟩⟩
  map := fun i es' _ h => by
    by_cases e : id = i
    · subst e; rw [List.getElem?_set] at h; simp at h
    · rw [List.getElem?_set_ne e] at h
      exact ⟨es', h, fun c hc => by unfold clrφ; rw [if_neg (fun q => e q.symm)]; exact hc⟩
theorem hr_clr (hr : HR P w0 X w φ G) (id : Nat) : HR P w0 X w (clrφ φ id) (G.set id .gone) := by
  have hT := turn_clr w φ G id
  have hsub : ∀ i c, clrφ φ id i = some c → i ≠ id ∧ φ i = some c := fun i c h => by
    unfold clrφ at h
    split at h
    · simp at h
    · exact ⟨by assumption, h⟩
  refine ⟨hr.vo, hr.fr, ext_turn hr hT, fun i c hc => ?_, fun i j c hi hj => hr.inj i j c (hsub i c hi).2 (hsub j c hj).2, fun i b c hi hc => ?_⟩
  · have := hr.own i c (hsub i c hc).2
    simpa using this
  · obtain ⟨h1, h2⟩ := hsub i c hc
    rw [List.getElem?_set_ne (fun q => h1 q.symm)] at hi
    exact (hr.blk i b c hi h2).turn hT rfl
theorem below_put {c k : Nat} {os : Array Obj} {cur : Array Value} {e : TypeId} (d : Array (List UInt8)) (hc : w.heap[c]? = some (.cells cur e (0, 0))) :
    Go.RowKit.Below (w.setRow c (putCells encStr 0 d cur)).heap.size (w.setRow c (putCells encStr 0 d cur)) (grow (putRow encStr (Sort.ahead w k) c 0 d) os) := by
  have hg : c < w.heap.size := (Array.getElem?_eq_some_iff.1 hc).1
  refine ⟨rfl, rfl, rfl, by simp, fun i hi => ?_⟩
  have hi' : i < w.heap.size := by simpa using hi
  by_cases e1 : i = c
  · subst e1
    rw [heap_sorted d hc, setRow_heap w i _ _ _ _ hc]
  · rw [heap_grow_old _ _ (by simpa using hi'), heap_setRow w c _ i e1]
    have : c ≠ i := fun q => e1 q.symm
    simp [putRow, mapBlock, Sort.ahead, Array.getElem?_modify, this]
/-- What stands in a row of strings. -/
theorem row_strs {e : TypeId} {nb : Bool} {l : List ByteArray} {id c : Nat} {cur : Array Value} (hr : HR P w0 X w φ G) (hb : G[id]? = some (.row e nb (rowsOf strC l))) (hφ : φ id = some c) (hc : w.heap[c]? = some (.cells cur e (0, 0))) (he : P.cellsOf e = 1) :
    l.length ≤ cur.size ∧ cur.toList.take l.length = (l.map (·.data.toList)).map encStr := by
  obtain ⟨cur', h1, h2, h3, h4⟩ := hr.blk id _ c hb hφ
  rw [hc] at h1
  simp at h1
  subst h1
  rw [he] at h3 h4
  simp [rowsOf_length] at h3
  refine ⟨h3, List.ext_getElem? fun j => ?_⟩
  by_cases hj : j < l.length
  · rw [List.getElem?_take_of_lt hj]
    have hlt : j < cur.size := by omega
    have := (h4 j 0 (strC l[j]) (.str l[j]) cur[j] (by simp [rowsOf, hj]) (by simp [strC]) (by simp [hlt])).1
    have := this.str_inv
    rw [Array.getElem?_toList, Array.getElem?_eq_getElem hlt, this]
    simp [hj, encStr]
  · rw [List.getElem?_take_eq_none (by omega), List.getElem?_eq_none (by simp; omega)]
theorem put_row {e : TypeId} {nb : Bool} {l l' : List ByteArray} {id c k : Nat} {os : Array Obj} {cur : Array Value} (hr : HR P w0 X w φ G) (hb : G[id]? = some (.row e nb (rowsOf strC l))) (hφ : φ id = some c) (hc : w.heap[c]? = some (.cells cur e (0, 0))) (he : P.cellsOf e = 1) (hll : l'.length = l.length) (hle : l.length ≤ cur.size) :
    HR P w0 X (grow (putRow encStr (Sort.ahead w k) c 0 (l'.map (·.data.toList)).toArray) os) φ (G.set id (.row e nb (rowsOf strC l'))) ∧ Turn w φ G (grow (putRow encStr (Sort.ahead w k) c 0 (l'.map (·.data.toList)).toArray) os) φ (G.set id (.row e nb (rowsOf strC l'))) := by
  have hsz : (putCells encStr 0 (l'.map (·.data.toList)).toArray cur).size = cur.size := by simp [putCells]
  have hs : Shape (.row e nb (rowsOf strC l)) (.row e nb (rowsOf strC l')) := ⟨fun _ _ h => by simp at h, fun e1 nb1 rows1 h => by simp at h; obtain ⟨rfl, rfl, rfl⟩ := h; exact ⟨_, rfl, by simp [rowsOf, hll]⟩, fun _ h => by simp at h⟩
  have h1 := hr_setRow hr hb hφ hs hc hsz (by
    refine ⟨_, setRow_heap w c _ _ _ _ hc, fun row hrow => ?_, by rw [he]; simp [rowsOf_length]; rw [hsz]; omega, fun i j row x v hi hj hv => ?_⟩
    · simp only [rowsOf, List.mem_map] at hrow
      obtain ⟨s, _, rfl⟩ := hrow
      simp [strC, he]
    · rw [he] at hv
      simp only [rowsOf, List.getElem?_map, Option.map_eq_some_iff] at hi
      obtain ⟨s, hi, rfl⟩ := hi
      have hlt := (List.getElem?_eq_some_iff.1 hi).1
      have hj0 : j = 0 := by
        have := (List.getElem?_eq_some_iff.1 hj).1
        simp [strC] at this; omega
      subst hj0
      simp [strC] at hj
      subst hj
      have hps : (putCells encStr 0 (l'.map (·.data.toList)).toArray cur)[i]? = some (.string s) := by
        have hlc : i < cur.size := by omega
        have hsi : l'[i] = s := by rw [List.getElem?_eq_getElem hlt] at hi; simpa using hi
        simp [putCells, hlc, hlt, hsi, encStr]
      simp only [Nat.mul_one, Nat.add_zero] at hv
      rw [hps] at hv
      simp at hv
      subst hv
      exact ⟨.ro .str, rfl⟩)
  have hT := turn_setRow hr hb hφ hs hc hsz
  have hB := below_put (k := k) (os := os) (l'.map (·.data.toList)).toArray hc
  exact ⟨hr_below h1 hB, hT.trans (turn_below h1 hB)⟩
end
def sortB (l : List ByteArray) : List ByteArray := ((l.map (·.data.toList)).mergeSort fun x y => decide (x ≤ y)).map fun x => ⟨x.toArray⟩
theorem sortB_map (l : List ByteArray) : (sortB l).map (·.data.toList) = (l.map (·.data.toList)).mergeSort fun x y => decide (x ≤ y) := by simp [sortB, Function.comp_def]
theorem sortB_len (l : List ByteArray) : (sortB l).length = l.length := by simp [sortB]
theorem sort_nil : Pure Try.prog 56 [.rs []] (.tup []) := exF_pure (m := 64) (n := 20) mixed noHook (by kernel_rfl)
theorem one_arg {vs : Array Value} {x : AV} (h : [x].length = vs.size) : ∃ v, vs = #[v] := by
  rcases vs with ⟨l⟩
  match l, h with
  | [a], _ => exact ⟨a, rfl⟩
theorem sort_G {e : TypeId} {nb : Bool} {l : List ByteArray} {id n : Nat} {H : List Blk} {K : AV → List Blk → Prop} (hb : H[id]? = some (.row e nb (rowsOf strC l))) (hn : n = l.length) (he : Try.prog.cellsOf e = 1) (hlen : l.length ≤ 1073741824)
    (hK : K (.tup []) (H.set id (.row e nb (rowsOf strC (sortB l))))) : CallG Try.prog 56 [.os id n] H K := by
  refine ⟨by kernel_rfl, fun w0 w X φ vs hr hl hv => ?_⟩
  obtain ⟨v0, rfl⟩ := one_arg hl
  have hv0 := hv 0 (.os id n) v0 rfl rfl
  cases hv0 with
  | ro h => cases h
  | os h0 hid hv' =>
    rcases (hv' e nb _ hb).2 (by rw [hn, rowsOf_length]) with ⟨hnb, hφ, ⟨A, rfl⟩, hz⟩ | ⟨c, cap, cur, hφ, rfl, hheap, hsz, hcap, hncap⟩
    · have hl0 : l = [] := List.eq_nil_of_length_eq_zero (by omega)
      subst hl0
      refine (sort_nil.2 w X #[.slice A 0 0] (fun b hb => (hr.ext b hb).1) hr.now rfl fun j y u hj hu => ?_).mono ?_
      · cases j with
        | zero => simp at hj hu; subst hj hu; exact .rs 0 (fun _ _ => undef) rfl (Nat.le_refl _) (by simp) (by simp)
        | succ j => simp at hj
      · rintro en w' ⟨v, rfl, hvv, hbel⟩
        have hH : H.set id (.row e nb (rowsOf strC (sortB []))) = H := by
          have hs : sortB [] = [] := by simp [sortB]
          rw [hs]
          refine List.ext_getElem? fun j => ?_
          by_cases e1 : id = j
          · subst e1; rw [List.getElem?_set_self hid, hb]
          · rw [List.getElem?_set_ne e1]
        rw [hH] at hK
        exact ⟨v, .tup [], φ, H, rfl, hr_below hr hbel, turn_below hr hbel, .ro (hvv.of_flat rfl), hK⟩
    · obtain ⟨hle, htk⟩ := row_strs hr hb hφ hheap he
      have hH : Holds encStr w c 0 (l.map (·.data.toList)).toArray := holds_of_block hheap (by simpa using htk)
      have := Try.slices_Sort_string c 0 cap (l.map (·.data.toList)) w hH (Array.getElem?_eq_some_iff.1 hheap).1 (by simp; omega)
      rw [List.length_map, ← hn] at this
      refine this.mono ?_
      rintro en w' ⟨rfl, k, os, rfl⟩
      rw [← sortB_map]
      obtain ⟨h1, h2⟩ := put_row (k := k) (os := os) hr hb hφ hheap he (sortB_len l) hle
      exact ⟨_, .tup [], φ, _, rfl, h1, h2, .tup rfl (by simp), hK⟩
def compB (l : List ByteArray) : List ByteArray := (Lib.compact (l.map (·.data.toList))).map fun x => ⟨x.toArray⟩
theorem compact_le (zs : List (List UInt8)) : (Lib.compact zs).length ≤ zs.length := by
  simp only [Lib.compact, Lib.compactUpTo, List.length_map]
  exact Nat.le_trans (List.length_filter_le _ _) (by simp)
theorem comp_G {e : TypeId} {nb : Bool} {l : List ByteArray} {id n : Nat} {H : List Blk} {K : AV → List Blk → Prop} (hb : H[id]? = some (.row e nb (rowsOf strC l))) (hn : n = l.length) (he : Try.prog.cellsOf e = 1) (hlen : l.length ≤ 1073741824)
    (hK : K (.rs (rowsOf strC (compB l))) (H.set id .gone)) : CallG Try.prog 57 [.os id n] H K := by
  refine ⟨by kernel_rfl, fun w0 w X φ vs hr hl hv => ?_⟩
  obtain ⟨v0, rfl⟩ := one_arg hl
  have hv0 := hv 0 (.os id n) v0 rfl rfl
  cases hv0 with
  | ro h => cases h
  | os h0 hid hv' =>
    rcases (hv' e nb _ hb).2 (by rw [hn, rowsOf_length]) with ⟨hnb, hφ, ⟨A, rfl⟩, hz⟩ | ⟨c, cap, cur, hφ, rfl, hheap, hsz, hcap, hncap⟩
    · have hl0 : l = [] := List.eq_nil_of_length_eq_zero (by omega)
      subst hl0
      refine (Try.slices_Compact_string_empty A 0 w).mono ?_
      rintro en w' ⟨rfl, rfl⟩
      exact ⟨_, _, _, _, rfl, hr_clr hr id, turn_clr _ φ H id, .ro (.rs 0 (fun _ _ => undef) rfl (Nat.le_refl _) (by simp [compB, Lib.compact, Lib.compactUpTo, rowsOf]) (by simp [compB, Lib.compact, Lib.compactUpTo, rowsOf])), hK⟩
    · obtain ⟨hle, htk⟩ := row_strs hr hb hφ hheap he
      have hH : Holds encStr w c 0 (l.map (·.data.toList)).toArray := holds_of_block hheap (by simpa using htk)
      have := Try.slices_Compact_string c 0 cap (l.map (·.data.toList)) w hH (by simp; omega) (by simp; omega)
      rw [List.length_map, ← hn] at this
      refine this.mono ?_
      rintro en w' ⟨rfl, k, rfl⟩
      obtain ⟨L, hL⟩ : ∃ L : List ByteArray, L = compB l ++ List.replicate (l.length - (compB l).length) ⟨#[]⟩ := ⟨_, rfl⟩
      have hcl : (compB l).length = (Lib.compact (l.map (·.data.toList))).length := by simp [compB]
      have hcle := compact_le (l.map (·.data.toList))
      simp only [List.length_map] at hcle
      have hLl : L.length = l.length := by rw [hL]; simp; omega
      have hLm : L.map (·.data.toList) = Lib.compact (l.map (·.data.toList)) ++ List.replicate (n - (Lib.compact (l.map (·.data.toList))).length) [] := by
        rw [hL, List.map_append, List.map_replicate, hcl, hn]
        simp [compB, Function.comp_def]
      rw [← hLm]
      obtain ⟨h1, h2⟩ := put_row (k := k) (os := #[]) hr hb hφ hheap he hLl hle
      have hset : (H.set id (.row e nb (rowsOf strC L))).set id .gone = H.set id .gone := by simp
      have g1 := hr_clr h1 id
      have g2 := h2.trans (turn_clr _ φ _ id)
      rw [hset] at g1 g2
      rw [grow_empty] at g1 g2
      refine ⟨_, .rs (rowsOf strC (compB l)), _, _, rfl, g1, g2, .ro ?_, hK⟩
      have hblk : (putRow encStr (Sort.ahead w k) c 0 (L.map (·.data.toList)).toArray).heap[c]? = some (.cells (putCells encStr 0 (L.map (·.data.toList)).toArray cur) e (0, 0)) := by
        have := heap_sorted (n := k) (os := #[]) (L.map (·.data.toList)).toArray hheap
        rwa [grow_empty] at this
      have hcx : ¬ (X c ∨ ∃ i, clrφ φ id i = some c) := fun q => by
        rcases q with q | ⟨i, q⟩
        · exact (hr.ext c q).2 id hφ
        · unfold clrφ at q
          split at q
          · simp at q
          · rename_i hne
            exact hne (hr.inj _ _ c q hφ)
      refine .rs 1 (fun i _ => .string ((compB l).getD i ⟨#[]⟩)) (by rw [rowsOf_length, hcl]) (by omega) (fun i row hi => ?_) (fun i j row x hi hj => ?_)
      · simp only [rowsOf, List.getElem?_map, Option.map_eq_some_iff] at hi
        obtain ⟨s, hi, rfl⟩ := hi
        have hlt := (List.getElem?_eq_some_iff.1 hi).1
        have hsi : (compB l)[i] = s := by rw [List.getElem?_eq_getElem hlt] at hi; simpa using hi
        refine ⟨rfl, ⟨c, 0, none⟩, rfl, (Array.getElem?_eq_some_iff.1 hblk).1, hcx, fun j hj => ?_⟩
        have hj0 : j = 0 := by omega
        subst hj0
        have hLi : L[i]? = some s := by rw [hL, List.getElem?_append_left hlt, hi]
        have hlc : i < cur.size := by omega
        refine ⟨?_, rfl⟩
        have ha : (Addr.mk c 0 none).add (i * 1 + 0) = ⟨c, i, none⟩ := by rw [add_noneA]; simp
        rw [ha, cell_row hblk]
        have hLi2 : i < L.length := (List.getElem?_eq_some_iff.1 hLi).1
        have hLi3 : L[i] = s := by rw [List.getElem?_eq_getElem hLi2] at hLi; simpa using hLi
        simp [putCells, hlc, hLi2, hLi3, encStr, hlt, hsi, List.getD]
      · simp only [rowsOf, List.getElem?_map, Option.map_eq_some_iff] at hi
        obtain ⟨s, hi, rfl⟩ := hi
        have hlt := (List.getElem?_eq_some_iff.1 hi).1
        have hsi : (compB l)[i] = s := by rw [List.getElem?_eq_getElem hlt] at hi; simpa using hi
        have hj0 : j = 0 := by
          have := (List.getElem?_eq_some_iff.1 hj).1
          simp [strC] at this; omega
        subst hj0
        simp [strC] at hj
        subst hj
        simp [List.getD, hlt, hsi]
        exact .str
end Go.Proofs.Ytlcblpofikijmaa
