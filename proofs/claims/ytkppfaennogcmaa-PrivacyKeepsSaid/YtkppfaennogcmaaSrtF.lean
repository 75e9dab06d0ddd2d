/- slices.SortFunc at a slice of the call's own, whatever its cells are. -/
import Derived.Test.YtkppfaennogcmaaSrtK
import Derived.Test.YtkppfaennogcmaaCmpO
import Derived.Test.YtkppfaennogcmaaSortO
import Derived.ProofKit
namespace Go.Proofs.Ytkppfaennogcmaa
set_option linter.unusedSimpArgs false
set_option linter.unusedVariables false
set_option linter.unnecessarySimpa false
set_option linter.unusedSectionVars false
open Go.RowKit Go.Sort Go.Shelf Go.Lib
variable [Glob]
set_option maxRecDepth 100000
/-- The cells of element i as they stand in memory. -/
def encF (cur : Array Value) (k : Nat) {n : Nat} (i : Fin n) : List Value := (List.range k).map fun j => (cur[i.val * k + j]?).getD undef
theorem encF_len {cur : Array Value} {k n : Nat} (i : Fin n) : (encF cur k i).length = k := by simp [encF]
theorem encF_get {cur : Array Value} {k n j : Nat} {i : Fin n} {v : Value} (h : (encF cur k i)[j]? = some v) : j < k ∧ v = (cur[i.val * k + j]?).getD undef := by
  unfold encF at h
  have hj := (List.getElem?_eq_some_iff.1 h).1
  simp at hj
  simp [hj] at h
  exact ⟨hj, h.symm⟩
/-- Memory that the sort does not turn: all old blocks but the one that is sorted. -/
def Kept (w W : World) (c : Nat) : Prop := w.heap.size ≤ W.heap.size ∧ ∀ b, b < w.heap.size → b ≠ c → W.heap[b]? = w.heap[b]?
theorem kept_sort {α : Type} [Inhabited α] (enc : α → List Value) (k : Nat) (w : World) (c m : Nat) (d : Array α) (os : Array Obj) : Kept w (sortWorldK enc k w c 0 m d os) c := by
  refine ⟨by simp [sortWorldK, putRowK, grow, putRow, mapBlock, Sort.ahead]; try omega, fun b hb hne => ?_⟩
  have hne' : c ≠ b := fun e => hne e.symm
  simp only [sortWorldK, grow]
  rw [Array.getElem?_append_left (by simp [putRowK, putRow, mapBlock, Sort.ahead]; omega)]
  simp [putRowK, putRow, mapBlock, Sort.ahead, Array.getElem?_modify, hne']
theorem sortF_G {ρ : Ren} (L : SlLaysF0.n6 Try.prog ρ) {e : TypeId} {k : Nat} (aE : ∀ w, (isAgg (ρ.t 24)).run Try.prog w = .ok true w) (zE : ∀ w, (Go.sizeOf (ρ.t 24)).run Try.prog w = .ok k w) (hS : entersB Try.prog (ρ.f 6) = true) (hce : Try.prog.cellsOf e = k) (hk0 : 0 < k)
    {g : Nat} (eg : ∀ args w, (callFunc g args).run Try.prog w = .ok (.enter g args) w)
    {nb : Bool} {rows : List (List AV)} {id n : Nat} {H : List Blk} {K : AV → List Blk → Prop} (hb : H[id]? = some (.row e nb rows)) (hn : n = rows.length) (h0 : 0 < n) (hlen : n ≤ 1073741824) (hlr : ∀ r ∈ rows, r.length = k)
    (cf : Fin n → Fin n → Int) (hO : SWO (ltOf cf))
    (hcmp : ∀ (w0 w : World) (X : Nat → Prop) (φ : Nat → Option Nat) (c : Nat) (cur : Array Value), HR Try.prog w0 X w φ H → φ id = some c → (∀ (i : Fin n) (j : Nat) (a : AV) (v : Value), (rows.getD i.val [])[j]? = some a → (encF cur k i)[j]? = some v → RV Try.prog w X φ H a v) →
      ∀ W, Kept w W c → ∀ x y : Fin n, Calls Try.prog g #[.agg (encF cur k x).toArray, .agg (encF cur k y).toArray] W fun e w' => e = .returned (.int .i64 (cf x y)) ∧ Grown W w')
    (hK : ∀ p : List (Fin n), p.Perm (List.finRange n) → p.Pairwise (fun a b => ltOf cf b a = false) → K (.tup []) (H.set id (.row e nb (p.map fun i => rows.getD i.val [])))) :
    CallG Try.prog (ρ.f 6) [.os id n, .fn g []] H K := by
  refine ⟨hS, fun w0 w X φ vs hr hl hv => ?_⟩
  obtain ⟨v0, v1, rfl⟩ := args2 hl
  have hv0 := hv 0 (.os id n) v0 rfl rfl
  have hv1 := hv 1 (.fn g []) v1 rfl rfl
  obtain rfl : v1 = .func (.func g) #[] #[] := by
    cases hv1 with
    | ro h => cases h with | fn h1 h2 => simp at h1; rw [Array.eq_empty_of_size_eq_zero h1.symm]
    | fn h1 h2 => simp at h1; rw [Array.eq_empty_of_size_eq_zero h1.symm]
  haveI : Inhabited (Fin n) := ⟨⟨0, h0⟩⟩
  cases hv0 with
  | ro h => cases h
  | os g0 hid hv' =>
    rcases (hv' _ nb _ hb).2 hn with ⟨_, _, _, hz⟩ | ⟨c, cap, cur, hφ, rfl, hheap, hsz, hcap, hncap⟩
    · omega
    · have hmap : rows = (List.finRange n).map fun i => rows.getD i.val [] := by
        refine List.ext_getElem (by simp [hn]) fun i h1 h2 => ?_
        simp [List.getD, h1]
      have hC : ∀ x : Fin n, (rows.getD x.val []).length = k := fun x => by
        have hx : x.val < rows.length := by rw [← hn]; exact x.2
        rw [List.getD_eq_getElem?_getD, List.getElem?_eq_getElem hx]
        exact hlr _ (List.getElem_mem hx)
      have hblk := hr.blk id _ c hb hφ
      obtain ⟨cur', h1, h2, h3, h4⟩ := hblk
      rw [hheap] at h1
      simp at h1
      subst h1
      rw [hce] at h3 h4
      have hrv : ∀ (i : Fin n) (j : Nat) (a : AV) (v : Value), (rows.getD i.val [])[j]? = some a → (encF cur k i)[j]? = some v → RV Try.prog w X φ H a v ∧ v.oneCell' = true := fun i j a v ha hv => by
        obtain ⟨hj, rfl⟩ := encF_get hv
        have hx : i.val < rows.length := by rw [← hn]; exact i.2
        have hlt : i.val * k + j < cur.size := by
          have : (i.val + 1) * k ≤ rows.length * k := Nat.mul_le_mul_right _ hx
          rw [Nat.add_mul, Nat.one_mul] at this
          omega
        rw [List.getD_eq_getElem?_getD, List.getElem?_eq_getElem hx] at ha
        exact h4 i.val j rows[i.val] a _ (List.getElem?_eq_getElem hx) ha (by rw [Array.getElem?_eq_getElem hlt]; rfl)
      have hb2 : H[id]? = some (.row e nb ((List.finRange n).map fun i => rows.getD i.val [])) := by rw [← hmap]; exact hb
      obtain ⟨hle, hH⟩ := holdsK_row (k := k) (l := List.finRange n) (C := fun i => rows.getD i.val []) hr hb2 hφ hheap hce (fun i => encF cur k i) (fun i => encF_len i) hC fun i j x a v u hx ha hv hu _ => by
        obtain ⟨hj, rfl⟩ := encF_get hv
        have hxi : x.val = i := by
          have hi := (List.getElem?_eq_some_iff.1 hx).1
          simp at hi
          simp [hi] at hx
          rw [← hx]
        rw [hxi, hu]; rfl
      have h1c : ∀ x : Fin n, ∀ v ∈ encF cur k x, v.oneCell' = true := fun x v hv => by
        obtain ⟨j, hj⟩ := List.getElem?_of_mem hv
        have hjk : j < k := (encF_get hj).1
        exact (hrv x j _ v (List.getElem?_eq_getElem (by rw [hC]; exact hjk)) hj).2
      have hcon := AnyQ.slices_SortFunc L k aE zE (fun i : Fin n => encF cur k i) (fun i => encF_len i) h1c cf hO g #[] c 0 cap (List.finRange n).toArray w eg
        (fun m os dk _ x y => (hcmp w0 w X φ c cur hr hφ (fun i j a v ha hv => (hrv i j a v ha hv).1) _ (kept_sort _ _ _ _ _ _ _) x y).mono fun e w' ⟨h1, q, os', h2⟩ => ⟨h1, q, os', h2⟩) hH (Array.getElem?_eq_some_iff.1 hheap).1 (by simp; omega)
      simp only [List.size_toArray, List.length_finRange] at hcon
      refine hcon.mono ?_
      rintro e' w' ⟨rfl, d', m, os, hp, hs, rfl⟩
      have hd' : d'.size = n := by have := hp.1; simpa using this
      obtain ⟨h1, h2⟩ := putK_row (k := k) (m := m) (os := os) hr hb hφ hheap hce hk0 (fun i : Fin n => encF cur k i) (fun i => rows.getD i.val []) (fun i => encF_len i) hC (fun x j a v ha hv => hrv x j a v ha hv) d' (by rw [hd', hn]) (by rw [← hn]; simpa using hle)
      refine ⟨_, .tup [], φ, _, rfl, h1, h2, .ro (.tup rfl (by simp)), hK d'.toList ?_ ?_⟩
      · have := hp.2.2
        have e1 : (d'.extract 0 n).toList = d'.toList := by rw [Array.extract_eq_self_of_le (Nat.le_of_eq hd')]
        have e2 : ((List.finRange n).toArray.extract 0 n).toList = List.finRange n := by
          simp
          exact List.take_of_length_le (by simp)
        rw [e1, e2] at this
        exact this
      · rw [List.pairwise_iff_getElem]
        intro i j hi hj hij
        have hi' : i < d'.size := by simpa using hi
        have hj' : j < d'.size := by simpa using hj
        have := hs i j (Nat.zero_le _) hij (by rw [← hd']; exact hj')
        rw [getElem!_pos d' i hi', getElem!_pos d' j hj'] at this
        simpa using this
end Go.Proofs.Ytkppfaennogcmaa
