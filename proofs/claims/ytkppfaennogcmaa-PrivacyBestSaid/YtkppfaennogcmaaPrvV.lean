/- No division is cheaper than the table's (plain words). -/
import Derived.Test.YtkppfaennogcmaaPrvT
namespace Go.Proofs.Ytkppfaennogcmaa
set_option linter.unusedSimpArgs false
set_option linter.unusedVariables false
set_option linter.unnecessarySimpa false
set_option linter.unusedSectionVars false
open Go.RowKit
variable [Glob]
set_option maxRecDepth 100000
def OptA (l : List Int) (b : Tb) (x e : Nat) : Prop := ¬ skipT l b e → 0 ≤ (tat b x).1 ∧ (tat b x).1 ≤ costAt l x b e
def PathA (l : List Int) (b : Tb) (x : Nat) : Prop := 0 ≤ (tat b x).1 → ((tat b x).2 < l.length → lat l ((tat b x).2 - 1) ≠ lat l (tat b x).2) ∧ (tat b x).1 = costAt l x b (tat b x).2
structure TabO (l : List Int) (k i : Nat) (b : Tb) : Prop where
  opt : ∀ x, i ≤ x → x < l.length → ∀ e, x + k ≤ e → e ≤ l.length → OptA l b x e
  path : ∀ x, i ≤ x → x < l.length → PathA l b x
structure RowO (l : List Int) (k i j : Nat) (b : Tb) : Prop where
  opt : ∀ x, i + 1 ≤ x → x < l.length → ∀ e, x + k ≤ e → e ≤ l.length → OptA l b x e
  path : ∀ x, i + 1 ≤ x → x < l.length → PathA l b x
  opti : ∀ e, i + k ≤ e → e < j → e ≤ l.length → OptA l b i e
  pathi : PathA l b i
theorem cost_set {l : List Int} {b : Tb} {x e i : Nat} {v : Int × Nat} (hi : i < b.length) (h2 : e ≠ i) : costAt l x (b.set i v) e = costAt l x b e := by
  unfold costAt; rw [tat_set hi, if_neg h2]
theorem optA_set {l : List Int} {b : Tb} {x e i : Nat} {v : Int × Nat} (hi : i < b.length) (h1 : x ≠ i) (h2 : e ≠ i) (h : OptA l b x e) : OptA l (b.set i v) x e := by
  unfold OptA skipT costAt at *
  rw [tat_set hi, tat_set hi, if_neg h1, if_neg h2]
  exact h
theorem pathA_set {l : List Int} {b : Tb} {x i : Nat} {v : Int × Nat} (hi : i < b.length) (h1 : x ≠ i) (h2 : 0 ≤ (tat b x).1 → (tat b x).2 ≠ i) (h : PathA l b x) : PathA l (b.set i v) x := by
  unfold PathA costAt at *
  rw [tat_set hi, if_neg h1]
  intro h0
  rw [tat_set hi, if_neg (h2 h0)]
  exact h h0
theorem TabO.row {l : List Int} {k i : Nat} {b : Tb} (hT : TabI l k (i + 1) b) (h : TabO l k (i + 1) b) (hi : i < l.length) (hk : 1 ≤ k) : RowO l k i (i + k) (gstart b i) := by
  have hib : i < b.length := by rw [hT.len]; omega
  refine ⟨fun x h1 h2 e h3 h4 => optA_set hib (by omega) (by omega) (h.opt x h1 h2 e h3 h4), fun x h1 h2 => pathA_set hib (by omega) (fun h0 => ?_) (h.path x h1 h2), fun e h1 h2 => by omega, ?_⟩
  · have := ((hT.done x h1 h2).2 h0).1; omega
  · unfold PathA gstart
    rw [tat_set hib, if_pos rfl]
    intro h0; simp at h0
theorem RowO.step {l : List Int} {k i j : Nat} {b : Tb} (hR : RowT l k i j b) (h : RowO l k i j b) (hv : timeV l = true) (hk : 1 ≤ k) (hij : i + k ≤ j) (hj : j ≤ l.length) : RowO l k i (j + 1) (gstep l i b j) := by
  have hib : i < b.length := by rw [hR.len]; omega
  unfold gstep
  by_cases hs : skipT l b j
  · rw [if_pos hs]
    refine ⟨h.opt, h.path, fun e h1 h2 h3 => ?_, h.pathi⟩
    by_cases ej : e = j
    · subst ej; exact fun hn => absurd hs hn
    · exact h.opti e h1 (by omega) h3
  · rw [if_neg hs]
    have h0 : 0 ≤ (tat b j).1 := by unfold skipT at hs; omega
    obtain ⟨c1, c2, _⟩ := hR.cost hv hk hij hj h0
    by_cases hb : betterT l i b j
    · rw [if_pos hb]
      have ti : tat (b.set i (costAt l i b j, j)) i = (costAt l i b j, j) := by rw [tat_set hib, if_pos rfl]
      have tn : ∀ e, e ≠ i → tat (b.set i (costAt l i b j, j)) e = tat b e := fun e he => by rw [tat_set hib, if_neg he]
      refine ⟨fun x h1 h2 e h3 h4 => optA_set hib (by omega) (by omega) (h.opt x h1 h2 e h3 h4), fun x h1 h2 => pathA_set hib (by omega) (fun h0 => ?_) (h.path x h1 h2), fun e h1 h2 h3 => ?_, ?_⟩
      · have := ((hR.done x h1 h2).2 h0).1; omega
      · unfold OptA skipT
        rw [ti, tn e (by omega)]
        intro hn
        refine ⟨c1, ?_⟩
        rw [cost_set hib (by omega)]
        by_cases ej : e = j
        · subst ej; exact Int.le_refl _
        · have := h.opti e h1 (by omega) h3 hn
          unfold betterT at hb
          simp only
          omega
      · unfold PathA
        rw [ti]
        intro _
        refine ⟨fun hjl he => hs (.inr ⟨hjl, he⟩), ?_⟩
        rw [cost_set hib (show (costAt l i b j, j).2 ≠ i by simp only; omega)]
    · rw [if_neg hb]
      refine ⟨h.opt, h.path, fun e h1 h2 h3 => ?_, h.pathi⟩
      by_cases ej : e = j
      · subst ej
        intro _
        unfold betterT at hb
        omega
      · exact h.opti e h1 (by omega) h3
theorem RowO.tab {l : List Int} {k i j : Nat} {b : Tb} (h : RowO l k i j b) (hj : l.length < j) : TabO l k i b := by
  refine ⟨fun x h1 h2 e h3 h4 => ?_, fun x h1 h2 => ?_⟩
  · by_cases ex : x = i
    · subst ex; exact h.opti e h3 (by omega) h4
    · exact h.opt x (by omega) h2 e h3 h4
  · by_cases ex : x = i
    · subst ex; exact h.pathi
    · exact h.path x (by omega) h2
theorem gtab_opt {l : List Int} {k : Nat} (hv : timeV l = true) (hk : 1 ≤ k) : ∀ (i : Nat) (b : Tb), i ≤ l.length → TabI l k i b → TabO l k i b → TabO l k 0 (gtab l k i b) := by
  have hin : ∀ (m i j : Nat) (b : Tb), m = l.length + 1 - j → i + k ≤ j → i < l.length → RowT l k i j b → RowO l k i j b → TabI l k i (ginner l i m j b) ∧ TabO l k i (ginner l i m j b) := by
    intro m
    induction m with
    | zero => intro i j b hm hij hi h ho; exact ⟨h.tab (by omega), ho.tab (by omega)⟩
    | succ m ih => intro i j b hm hij hi h ho; exact ih i (j + 1) _ (by omega) (by omega) hi (h.step hv hk hij (by omega)) (ho.step h hv hk hij (by omega))
  intro i
  induction i with
  | zero => intro b _ _ h; exact h
  | succ i ih =>
    intro b hi h ho
    obtain ⟨q1, q2⟩ := hin _ i (i + k) _ rfl (Nat.le_refl _) (by omega) (h.row (by omega) hk) (ho.row h (by omega) hk)
    exact ih _ (by omega) q1 q2
theorem tabT_ok {l : List Int} {k : Nat} (hv : timeV l = true) (hk : 1 ≤ k) : TabI l k 0 (tabT l k) ∧ TabO l k 0 (tabT l k) :=
  ⟨gtab_ok hv hk _ _ (Nat.le_refl _) TabI.start, gtab_opt hv hk _ _ (Nat.le_refl _) TabI.start ⟨fun x h1 h2 => by omega, fun x h1 h2 => by omega⟩⟩
/-- The cost of the division that a number tells. -/
def bitZ (E i : Nat) : Prop := E / 2 ^ i % 2 = 0
instance (E i : Nat) : Decidable (bitZ E i) := by unfold bitZ; infer_instance
def costG (l : List Int) (k : Int) (E : Nat) : Nat → Nat → Int → Nat → Int × Bool
  | 0, _, s, _ => (s, true)
  | m + 1, i, s, f =>
    if i + 1 < l.length ∧ bitZ E i then costG l k E m (i + 1) s f
    else if ((i + 1 - f : Nat) : Int) < k ∨ (i + 1 < l.length ∧ lat l i = lat l (i + 1)) then (0, false)
    else costG l k E m (i + 1) (s + ((i + 1 - f : Nat) : Int) * (lat l i - lat l f)) (i + 1)
theorem costG_ge {l : List Int} {k E : Nat} {b : Tb} (hT : TabI l k 0 b) (hO : TabO l k 0 b) (hk : 1 ≤ k) : ∀ (m i : Nat) (s : Int) (f : Nat) (c : Int), m = l.length - i → i ≤ l.length → f ≤ i → (i = l.length → f = i) → costG l k E m i s f = (c, true) → 0 ≤ (tat b f).1 ∧ s + (tat b f).1 ≤ c := by
  intro m
  induction m with
  | zero =>
    intro i s f c hm hi hf hfi h
    simp only [costG, Prod.mk.injEq, and_true] at h
    obtain rfl : i = l.length := by omega
    obtain rfl := hfi rfl
    have := hT.zero
    omega
  | succ m ih =>
    intro i s f c hm hi hf hfi h
    simp only [costG] at h
    split at h
    · rename_i h1
      exact ih (i + 1) s f c (by omega) (by omega) (by omega) (by omega) h
    · split at h
      · simp at h
      · rename_i h1 h2
        obtain ⟨q1, q2⟩ := ih (i + 1) _ (i + 1) c (by omega) (by omega) (Nat.le_refl _) (fun _ => rfl) h
        have hs : ¬ skipT l b (i + 1) := by
          unfold skipT
          simp only [Nat.add_sub_cancel]
          rintro (h3 | h3)
          · omega
          · exact h2 (.inr h3)
        obtain ⟨q3, q4⟩ := hO.opt f (Nat.zero_le _) (by omega) (i + 1) (by omega) (by omega) hs
        unfold costAt at q4
        rw [Nat.add_sub_cancel] at q4
        exact ⟨q3, by omega⟩
end Go.Proofs.Ytkppfaennogcmaa
