/- slices.Clone of an empty slice. -/
import Derived.Test.YthemglpccpjokaaGreatM3
import Derived.Laws.AppendOwn
set_option linter.unusedSimpArgs false
set_option linter.unusedVariables false
set_option linter.unnecessarySimpa false
set_option linter.unusedSectionVars false
set_option maxRecDepth 100000
namespace Go.Proofs.YthemglpccpjokaaGreat
open Go.RowKit
variable [Glob]
theorem one_argC {vs : Array Value} {x : AV} (h : [x].length = vs.size) : ∃ v, vs = #[v] := by
  rcases vs with ⟨l⟩
  match l, h with
  | [a], _ => exact ⟨a, rfl⟩
theorem clone0_core {P : Program} {f : FuncId} {e : TypeId} (hen : entersB P f = true) (hnil : ∀ c w, Calls P f #[.slice none 0 c] w fun en w' => en = .returned (.slice none 0 0) ∧ w' = w)
    (hzero : ∀ a c w, Calls P f #[.slice (some a) 0 c] w fun en w' => ∃ v', en = .returned v' ∧ w'.ownsRow w.heap.size e (P.cellsOf e) v' 0 [] ∧ Below w.heap.size w w')
    {H : List Blk} {K : AV → List Blk → Prop} (hK : ∀ nb, K (.os H.length 0) (H ++ [.row e nb []])) : CallG P f [.rs []] H K := by
  refine ⟨hen, fun w0 w X φ vs hr hl hv => ?_⟩
  obtain ⟨v0, rfl⟩ := one_argC hl
  have hv0 := hv 0 _ v0 rfl rfl
  obtain ⟨A, c, rfl⟩ : ∃ A c, v0 = .slice A 0 c := by
    cases hv0 with
    | ro h =>
      cases h with
      | @rs _ A n cap sz f hn hcap hA hx =>
        have : n = 0 := by simpa using hn.symm
        subst this
        exact ⟨A, cap, rfl⟩
  have hφ : φ H.length = none := by
    cases h : φ H.length with
    | none => rfl
    | some g => have := (hr.own _ g h).2.2; omega
  have hbk : ∀ nb, (H ++ [Blk.row e nb []])[H.length]? = some (.row e nb []) := fun nb => by simp
  have knil : ∀ w', Below w.heap.size w w' → ∃ v r φ' H', Ending.returned (.slice none 0 0) = .returned v ∧ HR P w0 X w' φ' H' ∧ Turn w φ H w' φ' H' ∧ RV P w' X φ' H' r v ∧ K r H' := fun w' hb => by
    refine ⟨_, .os H.length 0, φ, _, rfl, hr_push (hr_below hr hb) _, (turn_below hr hb).trans (turn_push w' φ H _), .os rfl (by simp) (fun e' nb rows h => ?_), hK true⟩
    rw [hbk] at h
    simp at h
    obtain ⟨rfl, rfl, rfl⟩ := h
    exact ⟨Nat.le_refl _, fun _ => .inl ⟨rfl, hφ, ⟨none, rfl⟩, rfl⟩⟩
  cases A with
  | none =>
    refine (hnil c w).mono ?_
    rintro en w' ⟨rfl, rfl⟩
    exact knil _ (Below.refl _ _)
  | some a =>
    refine (hzero a c w).mono ?_
    rintro en w' ⟨v', rfl, hown, hb⟩
    rcases hown.2 with ⟨rfl, _⟩ | ⟨g, cap, cur, rfl, hg, hheap, hncap, hcapm, hcs, _⟩
    · exact knil _ hb
    · have hr1 := hr_push hr (.row e false [])
      have hT0 := turn_push w φ H (.row e false [])
      have hT := turn_new hr1 hb (hbk false) hφ (fun _ _ h => by simp at h) hg
      have hglt : g < w'.heap.size := (Array.getElem?_eq_some_iff.1 hheap).1
      refine ⟨_, .os H.length 0, setφ φ H.length g, _, rfl, ⟨hr.vo, hr.fr.trans (hb.mono hr.fr.size), ext_turn hr1 hT, fun i k hk => ?_, fun i j k hi hj => ?_, fun i b k hi hk => ?_⟩, hT0.trans hT, .os rfl (by simp) (fun e' nb rows h => ?_), hK false⟩
      · unfold setφ at hk
        split at hk
        · rename_i e1; simp at hk; subst hk e1
          exact ⟨Nat.le_trans hr.fr.size hg, hglt, by simp⟩
        · have := hr1.own i k hk; have := hb.size; omega
      · unfold setφ at hi hj
        split at hi <;> split at hj
        · subst_vars; rfl
        · simp at hi; subst hi; have := (hr1.own j _ hj).2.1; omega
        · simp at hj; subst hj; have := (hr1.own i _ hi).2.1; omega
        · exact hr.inj i j k hi hj
      · by_cases e1 : i = H.length
        · subst e1
          rw [hbk] at hi
          simp at hi
          subst hi
          simp [setφ] at hk
          subst hk
          exact ⟨cur, hheap, by simp, by simp, fun i j row x v q1 q2 q3 => by simp at q1⟩
        · simp [setφ, e1] at hk
          exact (hr1.blk i b k hi hk).turn hT (hb.block k (hr1.own i k hk).2.1)
      · rw [hbk] at h
        simp at h
        obtain ⟨rfl, rfl, rfl⟩ := h
        exact ⟨Nat.le_refl _, fun _ => .inr ⟨g, cap, cur, by simp [setφ], rfl, hheap, hcs, hcapm, hncap⟩⟩
end Go.Proofs.YthemglpccpjokaaGreat
