/- slices.Sort and slices.Clone of numbers, at a slice of the call's own. -/
import Derived.Test.YtkionfcafifhdaaShelf
import Derived.Test.YtkionfcafifhdaaSortO
import Derived.Test.YtkionfcafifhdaaCl0
import Derived.Sort.OwnSortedInts
import Derived.Lib.SliceRun
import Derived.Lib.Walk
namespace Go.Proofs.Ytkionfcafifhdaa
set_option linter.unusedSimpArgs false
set_option linter.unusedVariables false
set_option linter.unnecessarySimpa false
set_option linter.unusedSectionVars false
open Go.RowKit Go.Sort
variable [Glob]
set_option maxRecDepth 100000
section
variable {P : Program} {w0 w : World} {X : Nat → Prop} {φ : Nat → Option Nat} {G : List Blk}
theorem below_putI {c k : Nat} {os : Array Obj} {cur : Array Value} {e : TypeId} (d : Array Int) (hc : w.heap[c]? = some (.cells cur e (0, 0))) :
    Go.RowKit.Below (w.setRow c (putCells (Value.int .i64) 0 d cur)).heap.size (w.setRow c (putCells (Value.int .i64) 0 d cur)) (grow (putRow (Value.int .i64) (Sort.ahead w k) c 0 d) os) := by
  have hg : c < w.heap.size := (Array.getElem?_eq_some_iff.1 hc).1
  refine ⟨rfl, rfl, rfl, by simp, fun i hi => ?_⟩
  have hi' : i < w.heap.size := by simpa using hi
  by_cases e1 : i = c
  · subst e1
    rw [heap_sortedI d hc, setRow_heap w i _ _ _ _ hc]
  · rw [heap_grow_old _ _ (by simpa using hi'), heap_setRow w c _ i e1]
    have : c ≠ i := fun q => e1 q.symm
    simp [putRow, mapBlock, Sort.ahead, Array.getElem?_modify, this]
/-- What stands in a row of strings. -/
theorem row_ints {e : TypeId} {nb : Bool} {l : List Int} {id c : Nat} {cur : Array Value} (hr : HR P w0 X w φ G) (hb : G[id]? = some (.row e nb (rowsOf intC l))) (hφ : φ id = some c) (hc : w.heap[c]? = some (.cells cur e (0, 0))) (he : P.cellsOf e = 1) :
    l.length ≤ cur.size ∧ cur.toList.take l.length = l.map (Value.int .i64) := by
  obtain ⟨cur', h1, h2, h3, h4⟩ := hr.blk id _ c hb hφ
  rw [hc] at h1
  simp at h1
  subst h1
  rw [he] at h3 h4
  simp [rowsOf_length] at h3
  refine ⟨h3, List.ext_getElem? fun j => ?_⟩
  by_cases hj : j < l.length
  · rw [List.getElem?_take_of_lt hj]
    have hlt : j < cur.size := by omega
    have := (h4 j 0 (intC l[j]) (.int .i64 l[j]) cur[j] (by simp [rowsOf, hj]) (by simp [intC]) (by simp [hlt])).1
    have := this.int_inv
    rw [Array.getElem?_toList, Array.getElem?_eq_getElem hlt, this]
    simp [hj]
  · rw [List.getElem?_take_eq_none (by omega), List.getElem?_eq_none (by simp; omega)]
theorem put_rowI {e : TypeId} {nb : Bool} {l l' : List Int} {id c k : Nat} {os : Array Obj} {cur : Array Value} (hr : HR P w0 X w φ G) (hb : G[id]? = some (.row e nb (rowsOf intC l))) (hφ : φ id = some c) (hc : w.heap[c]? = some (.cells cur e (0, 0))) (he : P.cellsOf e = 1) (hll : l'.length = l.length) (hle : l.length ≤ cur.size) :
    HR P w0 X (grow (putRow (Value.int .i64) (Sort.ahead w k) c 0 l'.toArray) os) φ (G.set id (.row e nb (rowsOf intC l'))) ∧ Turn w φ G (grow (putRow (Value.int .i64) (Sort.ahead w k) c 0 l'.toArray) os) φ (G.set id (.row e nb (rowsOf intC l'))) := by
  have hsz : (putCells (Value.int .i64) 0 l'.toArray cur).size = cur.size := by simp [putCells]
  have hs : Shape (.row e nb (rowsOf intC l)) (.row e nb (rowsOf intC l')) := ⟨fun _ _ h => by simp at h, fun e1 nb1 rows1 h => by simp at h; obtain ⟨rfl, rfl, rfl⟩ := h; exact ⟨_, rfl, by simp [rowsOf, hll]⟩, fun _ h => by simp at h⟩
  have h1 := hr_setRow hr hb hφ hs hc hsz (by
    refine ⟨_, setRow_heap w c _ _ _ _ hc, fun row hrow => ?_, by rw [he]; simp [rowsOf_length]; rw [hsz]; omega, fun i j row x v hi hj hv => ?_⟩
    · simp only [rowsOf, List.mem_map] at hrow
      obtain ⟨s, _, rfl⟩ := hrow
      simp [intC, he]
    · rw [he] at hv
      simp only [rowsOf, List.getElem?_map, Option.map_eq_some_iff] at hi
      obtain ⟨s, hi, rfl⟩ := hi
      have hlt := (List.getElem?_eq_some_iff.1 hi).1
      have hj0 : j = 0 := by
        have := (List.getElem?_eq_some_iff.1 hj).1
        simp [intC] at this; omega
      subst hj0
      simp [intC] at hj
      subst hj
      have hps : (putCells (Value.int .i64) 0 l'.toArray cur)[i]? = some (.int .i64 s) := by
        have hlc : i < cur.size := by omega
        have hsi : l'[i] = s := by rw [List.getElem?_eq_getElem hlt] at hi; simpa using hi
        simp [putCells, hlc, hlt, hsi]
      simp only [Nat.mul_one, Nat.add_zero] at hv
      rw [hps] at hv
      simp at hv
      subst hv
      exact ⟨.ro .int, rfl⟩)
  have hT := turn_setRow hr hb hφ hs hc hsz
  have hB := below_putI (k := k) (os := os) l'.toArray hc
  exact ⟨hr_below h1 hB, hT.trans (turn_below h1 hB)⟩
end
def sortI (l : List Int) : List Int := l.mergeSort fun x y => decide (x ≤ y)
theorem sortI_len (l : List Int) : (sortI l).length = l.length := by simp [sortI]
theorem sortI_perm (l : List Int) : (sortI l).Perm l := List.mergeSort_perm _ _
theorem sortI_asc (l : List Int) : (sortI l).Pairwise (· ≤ ·) := by
  have h := List.pairwise_mergeSort (le := fun x y : Int => decide (x ≤ y)) (fun a b c h1 h2 => by simp at *; omega) (fun a b => by simp; omega) l
  exact h.imp fun {a b} q => by simpa using q
theorem sortI_nil : Pure Try.prog 13 [.rs []] (.tup []) := exF_pure (m := 64) (n := 20) mixed noHook (by kernel_rfl)
theorem sortI_G {e : TypeId} {nb : Bool} {l : List Int} {id n : Nat} {H : List Blk} {K : AV → List Blk → Prop} (hb : H[id]? = some (.row e nb (rowsOf intC l))) (hn : n = l.length) (he : Try.prog.cellsOf e = 1) (hlen : l.length ≤ 1073741824)
    (hK : K (.tup []) (H.set id (.row e nb (rowsOf intC (sortI l))))) : CallG Try.prog 13 [.os id n] H K := by
  refine ⟨by kernel_rfl, fun w0 w X φ vs hr hl hv => ?_⟩
  obtain ⟨v0, rfl⟩ := one_arg hl
  have hv0 := hv 0 (.os id n) v0 rfl rfl
  cases hv0 with
  | ro h => cases h
  | os h0 hid hv' =>
    rcases (hv' e nb _ hb).2 (by rw [hn, rowsOf_length]) with ⟨hnb, hφ, ⟨A, rfl⟩, hz⟩ | ⟨c, cap, cur, hφ, rfl, hheap, hsz, hcap, hncap⟩
    · have hl0 : l = [] := List.eq_nil_of_length_eq_zero (by omega)
      subst hl0
      refine (sortI_nil.2 w X #[.slice A 0 0] (fun b hb => (hr.ext b hb).1) hr.now rfl fun j y u hj hu => ?_).mono ?_
      · cases j with
        | zero => simp at hj hu; subst hj hu; exact .rs 0 (fun _ _ => undef) rfl (Nat.le_refl _) (by simp) (by simp)
        | succ j => simp at hj
      · rintro en w' ⟨v, rfl, hvv, hbel⟩
        have hH : H.set id (.row e nb (rowsOf intC (sortI []))) = H := by
          have hs : sortI [] = [] := by simp [sortI]
          rw [hs]
          refine List.ext_getElem? fun j => ?_
          by_cases e1 : id = j
          · subst e1; rw [List.getElem?_set_self hid, hb]
          · rw [List.getElem?_set_ne e1]
        rw [hH] at hK
        exact ⟨v, .tup [], φ, H, rfl, hr_below hr hbel, turn_below hr hbel, .ro (hvv.of_flat rfl), hK⟩
    · obtain ⟨hle, htk⟩ := row_ints hr hb hφ hheap he
      have hH : Holds (Value.int .i64) w c 0 l.toArray := holds_of_blockI hheap (by simpa using htk)
      have := Try.slices_Sort_int c 0 cap l w hH (Array.getElem?_eq_some_iff.1 hheap).1 (by omega)
      rw [← hn] at this
      refine this.mono ?_
      rintro en w' ⟨rfl, k, os, rfl⟩
      obtain ⟨h1, h2⟩ := put_rowI (k := k) (os := os) hr hb hφ hheap he (sortI_len l) hle
      exact ⟨_, .tup [], φ, _, rfl, h1, h2, .tup rfl (by simp), hK⟩
theorem cloneN_fresh (l : List Int) (h0 : l ≠ []) (hl : l.length ≤ 1073741824) : Fresh Try.prog 14 [.rs (rowsOf intC l)] 3 (rowsOf intC l) := by
  refine fresh_of mixed Try.func14 rfl (by kernel_rfl) (of_decide_eq_true rfl) (by kernel_rfl) (vc_run ?_)
  have h1 : l.isEmpty = false := by cases l <;> simp at h0 ⊢
  have h2 : allLen 1 (rowsOf intC l) = true := rowsOf_allLen fun x => rfl
  simp -implicitDefEqProofs [h1, hl, h2]
  exact rowsOf_owns' (f := intC) fun x c hc => by simp [intC] at hc; subst hc; rfl
theorem int_info : ∃ i, Try.prog.info? 3 = some i ∧ i.zero = some (.int .i64 0) ∧ i.size = 1 ∧ i.bytes = 8 := by
  obtain ⟨j, h1, h2⟩ := Option.map_eq_some_iff.1 (show (Try.prog.info? 3).map (fun i => (i.zero, i.size, i.bytes)) = some (some (.int .i64 0), 1, 8) by kernel_rfl)
  simp only [Prod.mk.injEq] at h2
  exact ⟨j, h1, h2.1, h2.2.1, h2.2.2⟩
set_option maxHeartbeats 2000000 in
theorem cloneN_nil (c : Nat) (w : World) : Calls Try.prog 14 #[.slice none 0 c] w fun en w' => en = .returned (.slice none 0 0) ∧ w' = w := by
  have q24 : ∀ (w : World) (a : Option Addr) (n c n' c' : Nat), (binOp .eql 27 (.slice a n c) (.slice none n' c')).run Try.prog w = .ok (.bool a.isNone) w := fun w a n c n' c' => Lib.run_eql_slice_nil w _ _ a n c n' c' Try.underlying27
  go_enter Try.func14, Try.ntmps14
  go_wp2
  go_ret
  exact ⟨rfl, rfl⟩
set_option maxHeartbeats 2000000 in
theorem cloneN_zero (a : Addr) (c : Nat) (w : World) : Calls Try.prog 14 #[.slice (some a) 0 c] w fun en w' => ∃ v', en = .returned v' ∧ w'.ownsRow w.heap.size 3 1 v' 0 [] ∧ Below w.heap.size w w' := by
  obtain ⟨i0, hi, hz0, hz1, hz2⟩ := int_info
  have q24 : ∀ (w : World) (a : Option Addr) (n c n' c' : Nat), (binOp .eql 27 (.slice a n c) (.slice none n' c')).run Try.prog w = .ok (.bool a.isNone) w := fun w a n c n' c' => Lib.run_eql_slice_nil w _ _ a n c n' c' Try.underlying27
  go_enter Try.func14, Try.ntmps14
  go_wp2_with (at_builtin; refine wpList_append_own _ rfl _ _ 27 rfl w.heap.size 3 i0 (.int .i64 0) 1 8 Try.underlying27 hi hz0 hz1 hz2 rfl (by decide) _ _ _ rfl (World.ownsRow_made w #[] 0 (Nat.le_refl _) (Nat.zero_le _) rfl) a 0 c [] rfl rfl (by intro j u hj; simp at hj) (by intro u hu; cases hu) (by unfold maxLen; omega) (by omega) (by simp) ?_)
  intro v' w1 hown hgrow hnil
  go_wp2
  go_ret
  refine ⟨v', rfl, by simpa using hown, ?_⟩
  exact ((Below.refl _ w).alloc (Nat.le_refl _) _).grown hgrow (by simp) (by intro k hk; simp [Value.ownBlock] at hk; omega)
theorem cloneN0_G {H : List Blk} {K : AV → List Blk → Prop} (hK : ∀ nb, K (.os H.length 0) (H ++ [.row 3 nb []])) : CallG Try.prog 14 [.rs []] H K :=
  clone0_core (by kernel_rfl) (fun c w => cloneN_nil c w) (fun a c w => (cloneN_zero a c w).mono fun en w' ⟨v', h1, h2, h3⟩ => ⟨v', h1, by rw [show Try.prog.cellsOf 3 = 1 by kernel_rfl]; exact h2, h3⟩) hK
end Go.Proofs.Ytkionfcafifhdaa
