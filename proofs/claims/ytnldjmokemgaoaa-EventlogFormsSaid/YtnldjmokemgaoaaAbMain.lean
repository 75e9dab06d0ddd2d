/- Every operation that calls no function: what the abstract machine says of it holds in the model. -/
import Derived.Test.YtnldjmokemgaoaaAbApp
namespace Go.Proofs.Ytnldjmokemgaoaa
set_option linter.unusedSimpArgs false
set_option linter.unusedVariables false
set_option linter.unnecessarySimpa false
set_option linter.unusedSectionVars false
open Go.RowKit
variable [Glob]

section
variable {P : Program} {w0 w : World} {X : Nat → Prop} {φ : Nat → Option Nat} {G H : List Blk} {T : List (Nat × AV)} {a : Act}
theorem same_spec {o : Option AV} {v : AV} {u : Upd} (h : same o = some (v, u)) : o = some v ∧ u = .no := by
  unfold same at h
  split at h
  · simp at h; rw [h.1]; exact ⟨rfl, h.2.symm⟩
  · simp at h
theorem fill_sound {t : TypeId} {i : Ty} (ht : ty P t = some i) (pl : Nat → Option (Nat × Nat)) : ∀ (parts : List (Nat × Operand)) (cs : List AV) (vs : Array Value) (c : List AV),
    fillA pl cs (parts.map fun p => (p.1, ev T p.2)) = some c → (∀ p ∈ parts, RV P w X φ G (ev T p.2) (a.eval p.2)) → cs.length = vs.size → (∀ u ∈ vs.toList, u.oneCell' = true) →
    (∀ (j : Nat) x u, cs[j]? = some x → vs[j]? = some u → RV P w X φ G x u) →
    ∃ us : Array Value, Instr.fill pl vs (parts.map fun p => (p.1, a.eval p.2)) = some us ∧ c.length = us.size ∧ (∀ u ∈ us.toList, u.oneCell' = true) ∧ ∀ (j : Nat) x u, c[j]? = some x → us[j]? = some u → RV P w X φ G x u := by
  intro parts
  induction parts with
  | nil =>
    intro cs vs c h _ h1 h2 h3
    simp [fillA] at h
    subst h
    exact ⟨vs, rfl, h1, h2, h3⟩
  | cons p parts ih =>
    intro cs vs c h hp h1 h2 h3
    simp only [List.map_cons, fillA] at h
    split at h
    · simp at h
    · rename_i off size hpl
      split at h
      · rename_i ns hns
        split at h
        · rename_i c' hc'
          obtain ⟨k1, k2⟩ := cellsN_spec hns
          obtain ⟨l1, l2, l3⟩ := RV.cells (hp p (by simp)) k1
          obtain ⟨o1, o2, o3⟩ := over_spec hc'
          -- the model's way of filling
          have hfold : ∀ (l : List Value) (k : Nat) (vs : Array Value), off + k + l.length ≤ vs.size → ∃ us : Array Value, (l.zipIdx k).foldl (fun cs (x : Value × Nat) => cs.setIfInBounds (off + x.2) x.1) vs = us ∧ us.size = vs.size ∧
              ∀ (j : Nat) u, us[j]? = some u → (j < off + k ∧ vs[j]? = some u) ∨ (off + k ≤ j ∧ j < off + k + l.length ∧ l[j - (off + k)]? = some u) ∨ (off + k + l.length ≤ j ∧ vs[j]? = some u) := by
            intro l
            induction l with
            | nil => intro k vs _; exact ⟨vs, rfl, rfl, fun j u hu => by rcases Nat.lt_or_ge j (off + k) with h | h; exact .inl ⟨h, hu⟩; exact .inr (.inr ⟨by simpa using h, hu⟩)⟩
            | cons y l ih2 =>
              intro k vs hl
              simp only [List.length_cons] at hl
              obtain ⟨us, e1, e2, e3⟩ := ih2 (k + 1) (vs.setIfInBounds (off + k) y) (by simp; omega)
              refine ⟨us, by simpa [List.zipIdx_cons] using e1, by simpa using e2, fun j u hu => ?_⟩
              rcases e3 j u hu with ⟨q1, q2⟩ | ⟨q1, q2, q3⟩ | ⟨q1, q2⟩
              · rw [Array.getElem?_setIfInBounds] at q2
                split at q2
                · rename_i e
                  split at q2
                  · simp at q2; exact .inr (.inl ⟨by omega, by simp; omega, by rw [← e]; simpa using q2⟩)
                  · simp at q2
                · exact .inl ⟨by omega, q2⟩
              · refine .inr (.inl ⟨by omega, by simp; omega, ?_⟩)
                rw [show j - (off + k) = (j - (off + (k + 1))) + 1 by omega]
                simpa using q3
              · rw [Array.getElem?_setIfInBounds, if_neg (by omega)] at q2
                exact .inr (.inr ⟨by simp; omega, q2⟩)
          have hlen : (a.eval p.2).cells.toList.length = ns.length := by simpa using l1
          obtain ⟨us, e1, e2, e3⟩ := hfold (a.eval p.2).cells.toList 0 vs (by simp; omega)
          obtain ⟨us2, f1, f2, f3, f4⟩ := ih c' us c h (fun q hq => hp q (by simp [hq])) (by omega) (fun u hu => by
              obtain ⟨j, hj, rfl⟩ := List.getElem_of_mem hu
              simp at hj
              rcases e3 j us[j] (by simp [hj]) with ⟨_, q⟩ | ⟨_, _, q⟩ | ⟨_, q⟩
              · exact h2 _ (List.mem_of_getElem? (by simpa using q))
              · exact l2 _ (List.mem_of_getElem? q)
              · exact h2 _ (List.mem_of_getElem? (by simpa using q))) (fun j x u hx hu => by
              rcases o3 j x hx with ⟨q1, q2⟩ | ⟨q1, q2, q3⟩ | ⟨q1, q2⟩ <;> rcases e3 j u hu with ⟨s1, s2⟩ | ⟨s1, s2, s3⟩ | ⟨s1, s2⟩ <;> simp at s1 <;> try omega
              · exact h3 j x u q2 s2
              · exact l3 (j - off) x u q3 (by simpa using s3)
              · exact h3 j x u q2 s2)
          refine ⟨us2, ?_, f2, f3, f4⟩
          simp only [List.map_cons, Instr.fill, hpl]
          have hcond : ((a.eval p.2).cells.size ≠ size || off + (a.eval p.2).cells.size > vs.size) = false := by simp; omega
          rw [hcond]
          simp only [Bool.false_eq_true, if_false]
          have : (a.eval p.2).cells.zipIdx.foldl (fun cs (x : Value × Nat) => cs.setIfInBounds (off + x.2) x.1) vs = us := by
            rw [← e1, ← Array.foldl_toList, Array.toList_zipIdx]
          rw [← f1]
          rw [this]
        · simp at h
      · simp at h
end
end Go.Proofs.Ytnldjmokemgaoaa
