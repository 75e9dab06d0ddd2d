/- Variants with their numbers: words put into order (plain words). -/
import Derived.Test.YtnldjmokemgaoaaEl4
import Derived.Test.YtnldjmokemgaoaaOrdL
namespace Go.Proofs.Ytnldjmokemgaoaa
set_option linter.unusedSimpArgs false
set_option linter.unusedVariables false
set_option linter.unnecessarySimpa false
set_option linter.unusedSectionVars false
open Go.RowKit
variable [Glob]
/-- Add. -/
def addV (w : List ByteArray) (n : Int) : List Vr → List Vr
  | [] => [⟨w, n⟩]
  | v :: r => if cmpL v.acts w < 0 then v :: addV w n r else if cmpL v.acts w = 0 then ⟨w, v.count + n⟩ :: r else ⟨w, n⟩ :: v :: r
def ltV (a b : Vr) : Prop := cmpL a.acts b.acts < 0
theorem cmpL_lt_trans {a b c : List ByteArray} (h : cmpL a b < 0) (g : cmpL b c < 0) : cmpL a c < 0 := (cmpL_trans a b c (by omega) (by omega)).2 (.inl h)
theorem cmpL_lt_le {a b c : List ByteArray} (h : cmpL a b < 0) (g : cmpL b c ≤ 0) : cmpL a c < 0 := (cmpL_trans a b c (by omega) g).2 (.inl h)
theorem ltV_trans {a b c : Vr} (h : ltV a b) (g : ltV b c) : ltV a c := cmpL_lt_trans h g
theorem ltV_irr (a : Vr) : ¬ ltV a a := by unfold ltV; rw [cmpL_self]; omega
def ascV (l : List Vr) : Prop := l.Pairwise ltV
theorem ascV_uniq : ∀ {l l' : List Vr}, ascV l → ascV l' → (∀ x, x ∈ l ↔ x ∈ l') → l = l' := by
  intro l
  induction l with
  | nil =>
    intro l' _ _ h
    cases l' with
    | nil => rfl
    | cons y r => have := (h y).2 (by simp); simp at this
  | cons x r ih =>
    intro l' h1 h2 h
    cases l' with
    | nil => have := (h x).1 (by simp); simp at this
    | cons y s =>
      obtain ⟨a1, a2⟩ := List.pairwise_cons.1 h1
      obtain ⟨b1, b2⟩ := List.pairwise_cons.1 h2
      have hxy : x = y := by
        rcases List.mem_cons.1 ((h x).1 (by simp)) with e | e
        · exact e
        · rcases List.mem_cons.1 ((h y).2 (by simp)) with e' | e'
          · exact e'.symm
          · exact absurd (ltV_trans (a1 y e') (b1 x e)) (ltV_irr _)
      subst hxy
      congr 1
      refine ih a2 b2 fun z => ⟨fun hz => ?_, fun hz => ?_⟩
      · rcases List.mem_cons.1 ((h z).1 (by simp [hz])) with e | e
        · subst e; exact absurd (a1 z hz) (ltV_irr _)
        · exact e
      · rcases List.mem_cons.1 ((h z).2 (by simp [hz])) with e | e
        · subst e; exact absurd (b1 z hz) (ltV_irr _)
        · exact e
theorem add_mem {w : List ByteArray} {n : Int} {v : Vr} : ∀ {l : List Vr}, ascV l → (v ∈ addV w n l ↔ (v.acts ≠ w ∧ v ∈ l) ∨ (v.acts = w ∧ ((∃ u ∈ l, u.acts = w ∧ v.count = u.count + n) ∨ ((∀ u ∈ l, u.acts ≠ w) ∧ v.count = n)))) := by
  intro l
  induction l with
  | nil =>
    intro _
    simp only [addV, List.mem_singleton, List.not_mem_nil, and_false, false_or, false_and, exists_false, or_false]
    constructor
    · rintro rfl; exact ⟨rfl, by simp⟩
    · rintro ⟨h1, _, h2⟩; cases v; simp_all
  | cons u r ih =>
    intro h
    obtain ⟨a1, a2⟩ := List.pairwise_cons.1 h
    have ih := ih a2
    unfold addV
    by_cases c1 : cmpL u.acts w < 0
    · have hne : u.acts ≠ w := fun e => by rw [e, cmpL_self] at c1; omega
      rw [if_pos c1, List.mem_cons, ih]
      constructor
      · rintro (rfl | h | h)
        · exact .inl ⟨hne, by simp⟩
        · exact .inl ⟨h.1, by simp [h.2]⟩
        · refine .inr ⟨h.1, ?_⟩
          rcases h.2 with ⟨x, hx, h3⟩ | ⟨h3, h4⟩
          · exact .inl ⟨x, by simp [hx], h3⟩
          · exact .inr ⟨fun x hx => (List.mem_cons.1 hx).elim (fun e => e ▸ hne) (h3 x), h4⟩
      · rintro (⟨h3, h4⟩ | ⟨h3, h4⟩)
        · rcases List.mem_cons.1 h4 with rfl | h4
          · exact .inl rfl
          · exact .inr (.inl ⟨h3, h4⟩)
        · refine .inr (.inr ⟨h3, ?_⟩)
          rcases h4 with ⟨x, hx, h5, h6⟩ | ⟨h5, h6⟩
          · rcases List.mem_cons.1 hx with rfl | hx
            · exact absurd h5 hne
            · exact .inl ⟨x, hx, h5, h6⟩
          · exact .inr ⟨fun x hx => h5 x (by simp [hx]), h6⟩
    · rw [if_neg c1]
      by_cases c2 : cmpL u.acts w = 0
      · have hue : u.acts = w := cmpL_zero c2
        have hr : ∀ x ∈ r, x.acts ≠ w := fun x hx e => by have := a1 x hx; unfold ltV at this; rw [e, ← hue, cmpL_self] at this; omega
        rw [if_pos c2, List.mem_cons]
        constructor
        · rintro (rfl | h4)
          · exact .inr ⟨rfl, .inl ⟨u, by simp, hue, rfl⟩⟩
          · exact .inl ⟨hr v h4, by simp [h4]⟩
        · rintro (⟨h3, h4⟩ | ⟨h3, h4⟩)
          · rcases List.mem_cons.1 h4 with rfl | h4
            · exact absurd hue h3
            · exact .inr h4
          · rcases h4 with ⟨x, hx, h5, h6⟩ | ⟨h5, _⟩
            · rcases List.mem_cons.1 hx with rfl | hx
              · left; cases v; simp_all
              · exact absurd h5 (hr x hx)
            · exact absurd hue (h5 u (by simp))
      · have hgt : cmpL w u.acts < 0 := by rw [cmpL_anti]; omega
        have hr : ∀ x ∈ u :: r, x.acts ≠ w := fun x hx e => by
          rcases List.mem_cons.1 hx with rfl | hx
          · rw [e, cmpL_self] at hgt; omega
          · have := cmpL_lt_trans hgt (a1 x hx)
            rw [e, cmpL_self] at this; omega
        rw [if_neg c2, List.mem_cons]
        constructor
        · rintro (rfl | h4)
          · exact .inr ⟨rfl, .inr ⟨hr, rfl⟩⟩
          · exact .inl ⟨hr v h4, h4⟩
        · rintro (⟨h3, h4⟩ | ⟨h3, h4⟩)
          · exact .inr h4
          · rcases h4 with ⟨x, hx, h5, _⟩ | ⟨_, h6⟩
            · exact absurd h5 (hr x hx)
            · left; cases v; simp_all
theorem add_asc {w : List ByteArray} {n : Int} : ∀ {l : List Vr}, ascV l → ascV (addV w n l) := by
  intro l
  induction l with
  | nil => intro _; simp [addV, ascV]
  | cons u r ih =>
    intro h
    obtain ⟨a1, a2⟩ := List.pairwise_cons.1 h
    unfold addV
    by_cases c1 : cmpL u.acts w < 0
    · rw [if_pos c1]
      refine List.pairwise_cons.2 ⟨fun v hv => ?_, ih a2⟩
      rcases (add_mem a2).1 hv with ⟨_, h4⟩ | ⟨h4, _⟩
      · exact a1 v h4
      · unfold ltV; rw [h4]; exact c1
    · rw [if_neg c1]
      by_cases c2 : cmpL u.acts w = 0
      · rw [if_pos c2]
        have hue : u.acts = w := cmpL_zero c2
        exact List.pairwise_cons.2 ⟨fun v hv => by have := a1 v hv; unfold ltV at this ⊢; rw [hue] at this; exact this, a2⟩
      · rw [if_neg c2]
        have hgt : cmpL w u.acts < 0 := by rw [cmpL_anti]; omega
        refine List.pairwise_cons.2 ⟨fun v hv => ?_, h⟩
        rcases List.mem_cons.1 hv with rfl | hv
        · exact hgt
        · exact cmpL_lt_trans hgt (a1 v hv)
def occ (w : List ByteArray) (ws : List (List ByteArray)) : Nat := (ws.filter fun x => decide (x = w)).length
theorem occ_app (w : List ByteArray) (a b : List (List ByteArray)) : occ w (a ++ b) = occ w a + occ w b := by simp [occ]
theorem occ_perm {w : List ByteArray} {a b : List (List ByteArray)} (h : a.Perm b) : occ w a = occ w b := (h.filter _).length_eq
theorem occ_zero {w : List ByteArray} {a : List (List ByteArray)} (h : w ∉ a) : occ w a = 0 := by
  unfold occ
  rw [List.length_eq_zero_iff, List.filter_eq_nil_iff]
  intro x hx e
  simp at e
  exact h (e ▸ hx)
/-- In order, each word with its number. -/
def goodV (ws : List (List ByteArray)) (R : List Vr) : Prop := ascV R ∧ ∀ v, v ∈ R ↔ v.acts ∈ ws ∧ v.count = (occ v.acts ws : Nat)
theorem good_uniq {ws ws' : List (List ByteArray)} {R R' : List Vr} (h : goodV ws R) (h' : goodV ws' R') (hp : ws.Perm ws') : R = R' :=
  ascV_uniq h.1 h'.1 fun v => by rw [h.2, h'.2, hp.mem_iff, occ_perm hp]
theorem good_add {ws : List (List ByteArray)} {R : List Vr} (h : goodV ws R) (w : List ByteArray) : goodV (ws ++ [w]) (addV w 1 R) := by
  refine ⟨add_asc h.1, fun v => ?_⟩
  rw [add_mem h.1]
  have hc : occ v.acts (ws ++ [w]) = occ v.acts ws + (if v.acts = w then 1 else 0) := by
    rw [occ_app]
    by_cases e : v.acts = w
    · rw [if_pos e]; simp [occ, e]
    · rw [if_neg e]
      have e' : ¬ w = v.acts := fun q => e q.symm
      simp [occ, e']
  rw [hc]
  by_cases e : v.acts = w
  · simp only [e, ne_eq, not_true_eq_false, false_and, true_and, false_or, if_true, List.mem_append, List.mem_singleton, or_true]
    constructor
    · rintro (⟨u, hu, h1, h2⟩ | ⟨h1, h2⟩)
      · have := (h.2 u).1 hu
        rw [h1] at this
        rw [h2, this.2]; simp
      · have h0 : occ w ws = 0 := occ_zero fun hw => h1 ⟨w, (occ w ws : Nat)⟩ ((h.2 _).2 ⟨hw, rfl⟩) rfl
        rw [h0, h2]; rfl
    · intro h2
      by_cases hw : w ∈ ws
      · exact .inl ⟨⟨w, (occ w ws : Nat)⟩, (h.2 _).2 ⟨hw, rfl⟩, rfl, by rw [h2]; simp⟩
      · refine .inr ⟨fun u hu e2 => hw (e2 ▸ ((h.2 u).1 hu).1), ?_⟩
        rw [h2, occ_zero hw]; rfl
  · simp only [e, ne_eq, not_false_eq_true, true_and, false_and, or_false, if_false, Nat.add_zero, List.mem_append, List.mem_singleton]
    exact h.2 v
theorem good_nil : goodV [] [] := ⟨List.Pairwise.nil, fun v => by simp⟩
theorem good_fold : ∀ (ws pre : List (List ByteArray)) (R : List Vr), goodV pre R → goodV (pre ++ ws) (ws.foldl (fun acc w => addV w 1 acc) R) := by
  intro ws
  induction ws with
  | nil => intro pre R h; simpa using h
  | cons w ws ih =>
    intro pre R h
    have := ih (pre ++ [w]) _ (good_add h w)
    simpa using this
/-- The numbers of words in order: the last one grows, or a new one comes. -/
def grpV (acc : List Vr) (w : List ByteArray) : List Vr :=
  match acc[acc.length - 1]? with
  | some v => if v.acts = w then acc.set (acc.length - 1) ⟨v.acts, v.count + 1⟩ else acc ++ [⟨w, 1⟩]
  | none => acc ++ [⟨w, 1⟩]
theorem add_app {w : List ByteArray} {n : Int} : ∀ {l l' : List Vr}, (∀ u ∈ l, cmpL u.acts w < 0) → addV w n (l ++ l') = l ++ addV w n l' := by
  intro l
  induction l with
  | nil => intro l' _; rfl
  | cons u r ih =>
    intro l' h
    rw [List.cons_append, addV, if_pos (h u (by simp)), ih fun x hx => h x (by simp [hx]), List.cons_append]
theorem grp_add {acc : List Vr} {w : List ByteArray} (h : ascV acc) (hw : ∀ v ∈ acc, cmpL v.acts w ≤ 0) : grpV acc w = addV w 1 acc := by
  rcases List.eq_nil_or_concat acc with rfl | ⟨ini, v, rfl⟩
  · rfl
  · have hv := hw v (by simp)
    have hlt : ∀ u ∈ ini, cmpL u.acts w < 0 := fun u hu => by
      have := (List.pairwise_append.1 (show (ini ++ [v]).Pairwise ltV by simpa [ascV] using h)).2.2 u hu v (by simp)
      exact cmpL_lt_le this hv
    rw [List.concat_eq_append, add_app hlt, grpV]
    simp only [List.length_append, List.length_cons, List.length_nil, Nat.zero_add, Nat.add_sub_cancel, List.getElem?_append_right (Nat.le_refl _), Nat.sub_self, List.getElem?_cons_zero]
    by_cases e : v.acts = w
    · rw [if_pos e, List.set_append_right _ _ (Nat.le_refl _)]
      simp [addV, e, cmpL_self]
    · have hlt2 : cmpL v.acts w < 0 := by
        rcases Int.lt_or_eq_of_le hv with q | q
        · exact q
        · exact absurd (cmpL_zero q) e
      rw [if_neg e]
      simp [addV, hlt2]
theorem grp_fold : ∀ (ws pre : List (List ByteArray)) (R : List Vr), goodV pre R → (pre ++ ws).Pairwise (fun a b => cmpL a b ≤ 0) → ws.foldl grpV R = ws.foldl (fun acc w => addV w 1 acc) R := by
  intro ws
  induction ws with
  | nil => intro pre R _ _; rfl
  | cons w ws ih =>
    intro pre R h hs
    rw [List.foldl_cons, List.foldl_cons, grp_add h.1 fun v hv => ?_]
    · exact ih (pre ++ [w]) _ (good_add h w) (by simpa using hs)
    · exact (List.pairwise_append.1 hs).2.2 v.acts ((h.2 v).1 hv).1 w (by simp)
/-- Words in whatever order, and in order: the same numbers. -/
theorem grp_eq {ws ws' : List (List ByteArray)} (hp : ws'.Perm ws) (hs : ws'.Pairwise (fun a b => cmpL a b ≤ 0)) : ws'.foldl grpV [] = ws.foldl (fun acc w => addV w 1 acc) [] := by
  rw [grp_fold ws' [] [] good_nil (by simpa using hs)]
  exact good_uniq (by simpa using good_fold ws' [] [] good_nil) (by simpa using good_fold ws [] [] good_nil) hp
end Go.Proofs.Ytnldjmokemgaoaa
