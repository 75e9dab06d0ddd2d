/- Sorted lists of strings. -/
import Derived.Test.YthemglpccpjokaaGreatSrt0
import Derived.Test.YthemglpccpjokaaGreatSortS
import Derived.Test.YthemglpccpjokaaGreatM3
set_option linter.unusedSimpArgs false
set_option linter.unusedVariables false
set_option linter.unnecessarySimpa false
set_option linter.unusedSectionVars false
set_option maxRecDepth 100000
namespace Go.Proofs.YthemglpccpjokaaGreat
open Go.RowKit
variable [Glob]
theorem comp_sortB (l : List ByteArray) : compB (sortB l) = setB l := by
  have h1 : (sortB l).map (·.data.toList) = (l.map (·.data.toList)).mergeSort fun x y => decide (x ≤ y) := sortB_map l
  obtain ⟨a1, a2⟩ := compact_asc (sort_sorted (l.map (·.data.toList)))
  refine asc_uniq ?_ (setB_asc l) fun x => ?_
  · unfold compB ascB
    rw [h1, List.pairwise_map]
    exact a1.imp fun h => by simpa [ltB] using h
  · rw [setB_mem]
    unfold compB
    rw [h1]
    simp only [List.mem_map]
    constructor
    · rintro ⟨y, hy, rfl⟩
      rw [a2, List.mem_mergeSort, List.mem_map] at hy
      obtain ⟨z, hz, rfl⟩ := hy
      have : (⟨z.data.toList.toArray⟩ : ByteArray) = z := ba_eq (by simp)
      rw [this]; exact hz
    · intro hx
      refine ⟨x.data.toList, ?_, ba_eq (by simp)⟩
      rw [a2, List.mem_mergeSort, List.mem_map]
      exact ⟨x, hx, rfl⟩
theorem cloneS_fresh (l : List ByteArray) (h0 : l ≠ []) (hl : l.length ≤ 1073741824) : Fresh Tryz.prog 111 [.rs (rowsOf strC l)] 9 (rowsOf strC l) := by
  refine fresh_of mixed Tryz.func111 rfl (by kernel_rfl) (of_decide_eq_true rfl) (by kernel_rfl) (vc_run ?_)
  have h1 : l.isEmpty = false := by cases l <;> simp at h0 ⊢
  simp -implicitDefEqProofs [h1, hl]
  exact rowsOf_owns' fun x c hc => by simp [strC] at hc; subst hc; rfl
theorem e_strC : Tryz.prog.cellsOf 9 = 1 := by kernel_rfl
theorem cloneS0_G {H : List Blk} {K : AV → List Blk → Prop} (hK : ∀ nb, K (.os H.length 0) (H ++ [.row 9 nb []])) : CallG Tryz.prog 111 [.rs []] H K := by
  refine ⟨by kernel_rfl, fun w0 w X φ vs hr hl hv => ?_⟩
  obtain ⟨v0, rfl⟩ := one_arg hl
  have hv0 := hv 0 _ v0 rfl rfl
  obtain ⟨A, c, rfl⟩ : ∃ A c, v0 = .slice A 0 c := by
    cases hv0 with
    | ro h =>
      cases h with
      | @rs _ A n cap sz f hn hcap hA hx =>
        have : n = 0 := by simpa using hn.symm
        subst this
        exact ⟨A, cap, rfl⟩
  have hφ : φ H.length = none := by
    cases h : φ H.length with
    | none => rfl
    | some g => have := (hr.own _ g h).2.2; omega
  have hbk : ∀ nb, (H ++ [Blk.row 9 nb []])[H.length]? = some (.row 9 nb []) := fun nb => by simp
  have knil : ∀ w', Below w.heap.size w w' → ∃ v r φ' H', Ending.returned (.slice none 0 0) = .returned v ∧ HR Tryz.prog w0 X w' φ' H' ∧ Turn w φ H w' φ' H' ∧ RV Tryz.prog w' X φ' H' r v ∧ K r H' := fun w' hb => by
    refine ⟨_, .os H.length 0, φ, _, rfl, hr_push (hr_below hr hb) _, (turn_below hr hb).trans (turn_push w' φ H _), .os rfl (by simp) (fun e nb rows h => ?_), hK true⟩
    rw [hbk] at h
    simp at h
    obtain ⟨rfl, rfl, rfl⟩ := h
    exact ⟨Nat.le_refl _, fun _ => .inl ⟨rfl, hφ, ⟨none, rfl⟩, rfl⟩⟩
  cases A with
  | none =>
    refine (Tryz.slices_Clone_string_nil 0 c w).mono ?_
    rintro e w' ⟨rfl, rfl⟩
    exact knil _ (Below.refl _ _)
  | some a =>
    refine (Tryz.slices_Clone_string_zero a c w).mono ?_
    rintro e w' ⟨v', rfl, hown, _, hb⟩
    rcases hown.2 with ⟨rfl, _⟩ | ⟨g, cap, cur, rfl, hg, hheap, hncap, hcapm, hcs, _⟩
    · exact knil _ hb
    · have hr1 := hr_push hr (.row 9 false [])
      have hT0 := turn_push w φ H (.row 9 false [])
      have hT := turn_new hr1 hb (hbk false) hφ (fun _ _ h => by simp at h) hg
      have hglt : g < w'.heap.size := (Array.getElem?_eq_some_iff.1 hheap).1
      refine ⟨_, .os H.length 0, setφ φ H.length g, _, rfl, ⟨hr.vo, hr.fr.trans (hb.mono hr.fr.size), ext_turn hr1 hT, fun i k hk => ?_, fun i j k hi hj => ?_, fun i b k hi hk => ?_⟩, hT0.trans hT, .os rfl (by simp) (fun e nb rows h => ?_), hK false⟩
      · unfold setφ at hk
        split at hk
        · rename_i e1; simp at hk; subst hk e1
          exact ⟨Nat.le_trans hr.fr.size hg, hglt, by simp⟩
        · have := hr1.own i k hk; have := hb.size; omega
      · unfold setφ at hi hj
        split at hi <;> split at hj
        · subst_vars; rfl
        · simp at hi; subst hi; have := (hr1.own j _ hj).2.1; omega
        · simp at hj; subst hj; have := (hr1.own i _ hi).2.1; omega
        · exact hr.inj i j k hi hj
      · by_cases e1 : i = H.length
        · subst e1
          rw [hbk] at hi
          simp at hi
          subst hi
          simp [setφ] at hk
          subst hk
          exact ⟨cur, hheap, by simp, by simp, fun i j row x v q1 q2 q3 => by simp at q1⟩
        · simp [setφ, e1] at hk
          exact (hr1.blk i b k hi hk).turn hT (hb.block k (hr1.own i k hk).2.1)
      · rw [hbk] at h
        simp at h
        obtain ⟨rfl, rfl, rfl⟩ := h
        exact ⟨Nat.le_refl _, fun _ => .inr ⟨g, cap, cur, by simp [setφ], rfl, hheap, by rw [e_strC]; exact hcs, hcapm, hncap⟩⟩
def sortedR (l : List ByteArray) : Except Int (List ByteArray) := if namesL l = true then (if 1000 < l.length then .error 5 else if 40 < (setB l).length then .error 5 else .ok (setB l)) else .error 1
def exN (r : Except Int (List ByteArray)) : AV := match r with | .ok l => .tup [.rs (rowsOf strC l), .int .i64 0] | .error e => .tup [.rs [], .int .i64 e]
end Go.Proofs.YthemglpccpjokaaGreat
