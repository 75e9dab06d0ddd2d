/- What Suppress keeps (plain words). -/
import Derived.Test.YtkppfaennogcmaaM4
import Derived.Test.YtkppfaennogcmaaPrvR
namespace Go.Proofs.Ytkppfaennogcmaa
set_option linter.unusedSimpArgs false
set_option linter.unusedVariables false
set_option linter.unnecessarySimpa false
set_option linter.unusedSectionVars false
open Go.RowKit
variable [Glob]
set_option maxRecDepth 100000
theorem sumU_ins {w u : Wo} {c : Int} : ∀ l : List Wd, sumU u (insP w c l) = sumU u l + if pre u w then c else 0 := by
  intro l
  induction l with
  | nil => simp [insP, sumU]
  | cons v r ih =>
    simp only [insP]
    split
    · simp only [sumU, ih]; omega
    · split
      · rename_i h
        have e : v.acts = w := by first | exact h | (exact (cmpL_zero (by omega))) | (symm; exact h)
        simp only [sumU, e]
        split <;> omega
      · simp only [sumU]; omega
def skp (m : Nat) (k : Int) (v : Wd) : Prop := v.acts.length = m ∧ v.n < k
instance (m : Nat) (k : Int) (v : Wd) : Decidable (skp m k v) := inferInstanceAs (Decidable (_ ∧ _))
def sumK (u : Wo) (m : Nat) (k : Int) : List Wd → Int
  | [] => 0
  | v :: r => (if skp m k v ∧ pre u v.acts then v.n else 0) + sumK u m k r
theorem sumU_passA {m : Nat} {k : Int} {u : Wo} : ∀ (l : List Wd) (s : List Wd × List Wd),
    sumU u (passA m k l s).1 + sumU u (passA m k l s).2 + sumK u m k l = sumU u s.1 + sumU u s.2 + sumU u l := by
  intro l
  induction l with
  | nil => intro s; simp [passA, sumU, sumK]
  | cons v r ih =>
    intro s
    simp only [passA, sumU, sumK]
    rw [← Int.add_assoc (sumU u s.1 + sumU u s.2)]
    have := ih (supA m k s v)
    unfold supA at this ⊢
    by_cases a : v.acts.length = m ∧ k ≤ v.n
    · rw [if_pos a] at this ⊢
      simp only [sumU_ins] at this
      have n1 : ¬ (skp m k v ∧ pre u v.acts ) := fun h => by have := h.1.2; omega
      rw [if_neg n1]
      omega
    · rw [if_neg a] at this ⊢
      by_cases b : v.acts.length ≠ m
      · rw [if_pos b] at this ⊢
        simp only [sumU_ins] at this
        have n1 : ¬ (skp m k v ∧ pre u v.acts ) := fun h => b h.1.1
        rw [if_neg n1]
        omega
      · rw [if_neg b] at this ⊢
        have n1 : skp m k v := ⟨by omega, by omega⟩
        by_cases c : pre u v.acts
        · rw [if_pos ⟨n1, c⟩, if_pos c]; omega
        · rw [if_neg (fun h => c h.2), if_neg c]; omega
theorem pre_take {u w : Wo} {j : Nat} (h : pre u (w.take j)) : pre u w := by
  refine pre_trans h ?_
  unfold pre
  rw [List.length_take, ← List.take_take, List.take_length]
theorem sumU_passB {m : Nat} {k : Int} {u : Wo} : ∀ (l s : List Wd), lnW l → sumU u (passB m k l s) ≤ sumU u s + sumK u m k l := by
  intro l
  induction l with
  | nil => intro s _; simp [passB, sumK]
  | cons v r ih =>
    intro s hl
    have hv := (hl v (by simp)).1
    have := ih (supBw m k s v) fun x hx => hl x (by simp [hx])
    simp only [passB, sumK]
    unfold supBw at this ⊢
    split at this
    · rename_i a
      rw [if_pos a]
      rw [sumU_ins] at this
      by_cases c : pre u (v.acts.take (m - 1))
      · rw [if_pos c] at this
        rw [if_pos ⟨⟨a.1, a.2.1⟩, pre_take c⟩]
        omega
      · rw [if_neg c] at this
        split <;> omega
    · rename_i a
      rw [if_neg a]
      split <;> omega
theorem sumU_supL {m : Nat} {k : Int} {u : Wo} {ws out : List Wd} (h : lnW ws) : sumU u (supL m k ws out).1 + sumU u (supL m k ws out).2 ≤ sumU u ws + sumU u out := by
  unfold supL
  have h1 := sumU_passA (m := m) (k := k) (u := u) ws ([], out)
  have h2 := sumU_passB (m := m) (k := k) (u := u) ws (passA m k ws ([], out)).1 h
  simp only [sumU] at h1
  simp only
  omega
theorem sumU_supN {k : Int} {u : Wo} : ∀ (m : Nat) (ws out : List Wd), lnW ws → lnW out → sumU u (supN k m ws out) ≤ sumU u ws + sumU u out := by
  intro m
  induction m with
  | zero =>
    intro ws out h1 _
    have := sumU_nonneg (u := u) (l := ws) fun v hv => by have := (h1 v hv).1; omega
    simp only [supN]; omega
  | succ m ih =>
    intro ws out h1 h2
    have hs := supL_ok (m := m) (k := k) h1 h2
    have := ih _ _ hs.1 hs.2.1
    have := sumU_supL (m := m) (k := k) (u := u) (out := out) h1
    simp only [supN]
    omega
theorem sumU_nil : ∀ l : List Wd, sumU [] l = sumN l := by
  intro l
  induction l with
  | nil => rfl
  | cons v r ih => simp [sumU, sumN, pre, ih]
theorem sumB_all {m : Nat} {k : Int} (hm : 0 < m) : ∀ (l s : List Wd), sumU [] (passB m k l s) = sumU [] s + sumK [] m k l := by
  intro l
  induction l with
  | nil => intro s; simp [passB, sumK]
  | cons v r ih =>
    intro s
    have := ih (supBw m k s v)
    simp only [passB, sumK]
    rw [this]
    unfold supBw
    by_cases a : v.acts.length = m ∧ v.n < k
    · rw [if_pos ⟨a.1, a.2, hm⟩, if_pos ⟨a, by simp [pre]⟩, sumU_ins, if_pos (by simp [pre])]
      omega
    · rw [if_neg (fun h => a ⟨h.1, h.2.1⟩), if_neg (fun h => a h.1)]
      omega
theorem passB_zero {k : Int} : ∀ (l s : List Wd), passB 0 k l s = s := by
  intro l
  induction l with
  | nil => intro s; rfl
  | cons v r ih => intro s; simp only [passB]; rw [ih]; unfold supBw; rw [if_neg (by omega)]
theorem sumK_none {k : Int} : ∀ l : List Wd, [] ∉ l.map Wd.acts → sumK [] 0 k l = 0 := by
  intro l
  induction l with
  | nil => intro _; rfl
  | cons v r ih =>
    intro h
    simp only [List.map_cons, List.mem_cons, not_or] at h
    simp only [sumK]
    rw [if_neg (fun q => h.1 (List.eq_nil_of_length_eq_zero q.1.1).symm), ih h.2]
    rfl
theorem sumK_one {k : Int} (hk : 1 ≤ k) : ∀ l : List Wd, keyN l → sumK [] 0 k l < k := by
  intro l
  induction l with
  | nil => intro _; simp only [sumK]; omega
  | cons v r ih =>
    intro h
    unfold keyN at h
    simp only [List.map_cons, List.nodup_cons] at h
    simp only [sumK]
    by_cases a : skp 0 k v
    · have e : v.acts = [] := List.eq_nil_of_length_eq_zero a.1
      rw [e] at h
      rw [sumK_none r h.1]
      split
      · have := a.2; omega
      · omega
    · rw [if_neg (fun q => a q.1)]
      have := ih h.2
      omega
/-- Fewer than k cases are missing. -/
theorem supN_miss {k : Int} (hk : 1 ≤ k) : ∀ (m : Nat) (ws out : List Wd) (f : Lv) (o : List Wd), RelS (m + 1) ws out f o → sumN ws + sumN out < sumN (supN k (m + 1) ws out) + k := by
  intro m
  induction m with
  | zero =>
    intro ws out f o h
    have h3 := sumU_passA (m := 0) (k := k) (u := []) ws ([], out)
    have h4 := sumK_one hk ws h.asc
    have hst := h.step (k := k) (List.Perm.refl (f 0))
    have h5 : (supL 0 k ws out).1 = [] := by
      cases hq : (supL 0 k ws out).1 with
      | nil => rfl
      | cons v r => have := hst.top v (by rw [hq]; simp); omega
    have h6 : (passA 0 k ws ([], out)).1 = [] := by
      unfold supL at h5
      rwa [passB_zero] at h5
    rw [h6] at h3
    simp only [sumU, sumU_nil] at h3
    simp only [supN, supL]
    omega
  | succ m ih =>
    intro ws out f o h
    have h3 := sumU_passA (m := m + 1) (k := k) (u := []) ws ([], out)
    have h4 := sumB_all (m := m + 1) (k := k) (by omega) ws (passA (m + 1) k ws ([], out)).1
    have := ih _ _ _ _ (h.step (k := k) (List.Perm.refl (f (m + 1))))
    simp only [sumU, sumU_nil] at h3 h4
    have e : sumN (supL (m + 1) k ws out).1 + sumN (supL (m + 1) k ws out).2 = sumN ws + sumN out := by
      unfold supL
      simp only
      omega
    rw [supN]
    omega
/-! Each word has at least k cases. -/
theorem ge_ins {k c : Int} {w : Wo} (h0 : 0 ≤ c) (hc : k ≤ c) : ∀ l : List Wd, (∀ v ∈ l, k ≤ v.n) → ∀ v ∈ insP w c l, k ≤ v.n := by
  intro l
  induction l with
  | nil => intro _ v hv; simp [insP] at hv; subst hv; exact hc
  | cons x r ih =>
    intro h v hv
    have hr := ih fun y hy => h y (by simp [hy])
    simp only [insP] at hv
    split at hv
    · rcases List.mem_cons.1 hv with rfl | hv
      · exact h _ (by simp)
      · exact hr v hv
    · split at hv
      · rcases List.mem_cons.1 hv with rfl | hv
        · have := h x (by simp); simp only; omega
        · exact h v (by simp [hv])
      · rcases List.mem_cons.1 hv with rfl | hv
        · exact hc
        · exact h v hv
theorem ge_passA {m : Nat} {k : Int} : ∀ (l : List Wd) (s : List Wd × List Wd), lnW l → (∀ v ∈ s.2, k ≤ v.n) → ∀ v ∈ (passA m k l s).2, k ≤ v.n := by
  intro l
  induction l with
  | nil => intro s _ h; exact h
  | cons v r ih =>
    intro s hl h
    simp only [passA]
    refine ih _ (fun x hx => hl x (by simp [hx])) ?_
    unfold supA
    have := (hl v (by simp)).1
    split
    · rename_i a; exact ge_ins (by omega) a.2 _ h
    · split <;> exact h
theorem ge_supN {k : Int} : ∀ (m : Nat) (ws out : List Wd), lnW ws → lnW out → (∀ v ∈ out, k ≤ v.n) → ∀ v ∈ supN k m ws out, k ≤ v.n := by
  intro m
  induction m with
  | zero => intro ws out _ _ h; exact h
  | succ m ih =>
    intro ws out h1 h2 h
    have hs := supL_ok (m := m) (k := k) h1 h2
    exact ih _ _ hs.1 hs.2.1 (ge_passA ws ([], out) h1 h)
/-! What holds of all words and their beginnings. -/
def wI (Q : Wo → Prop) (l : List Wd) : Prop := ∀ v ∈ l, Q v.acts
theorem wI_ins {Q : Wo → Prop} {w : Wo} {c : Int} {l : List Wd} (h : wI Q l) (hw : Q w) : wI Q (insP w c l) := fun v hv => by
  rcases mem_insP_acts l v hv with e | ⟨x, hx, e⟩
  · rw [e]; exact hw
  · rw [← e]; exact h x hx
theorem wI_passA {Q : Wo → Prop} {m : Nat} {k : Int} : ∀ (l : List Wd) (s : List Wd × List Wd), wI Q l → wI Q s.1 → wI Q s.2 → wI Q (passA m k l s).1 ∧ wI Q (passA m k l s).2 := by
  intro l
  induction l with
  | nil => intro s _ h1 h2; exact ⟨h1, h2⟩
  | cons v r ih =>
    intro s hl h1 h2
    have hr : wI Q r := fun x hx => hl x (by simp [hx])
    have hv := hl v (by simp)
    simp only [passA]
    unfold supA
    split
    · exact ih _ hr h1 (wI_ins h2 hv)
    · split
      · exact ih _ hr (wI_ins h1 hv) h2
      · exact ih _ hr h1 h2
theorem wI_passB {Q : Wo → Prop} (ht : ∀ w j, Q w → Q (w.take j)) {m : Nat} {k : Int} : ∀ (l s : List Wd), wI Q l → wI Q s → wI Q (passB m k l s) := by
  intro l
  induction l with
  | nil => intro s _ h; exact h
  | cons v r ih =>
    intro s hl h
    have hr : wI Q r := fun x hx => hl x (by simp [hx])
    have hv := hl v (by simp)
    simp only [passB]
    unfold supBw
    split
    · exact ih _ hr (wI_ins h (ht _ _ hv))
    · exact ih _ hr h
theorem wI_supN {Q : Wo → Prop} (ht : ∀ w j, Q w → Q (w.take j)) {k : Int} : ∀ (m : Nat) (ws out : List Wd), wI Q ws → wI Q out → wI Q (supN k m ws out) := by
  intro m
  induction m with
  | zero => intro ws out _ h; exact h
  | succ m ih =>
    intro ws out h1 h2
    obtain ⟨q1, q2⟩ := wI_passA (m := m) (k := k) ws ([], out) h1 (by simp [wI]) h2
    exact ih _ _ (wI_passB ht ws _ h1 q1) q2
/-! Suppressing again changes nothing. -/
theorem cut_none {m : Nat} {k : Int} {u : Wo} : ∀ l : List Wd, (∀ v ∈ l, k ≤ v.n) → sumP (pCut m k u) l = 0 := by
  intro l
  induction l with
  | nil => intro _; rfl
  | cons v r ih =>
    intro h
    have := h v (by simp)
    have e : ¬ pCut m k u v = true := by unfold pCut; simp; omega
    simp only [sumP, if_neg e, ih fun x hx => h x (by simp [hx])]; omega
theorem keep_all {m : Nat} {k : Int} {u : Wo} : ∀ l : List Wd, (∀ v ∈ l, k ≤ v.n) → sumP (pKeep m k u) l = if u.length = m then cntW u l else 0 := by
  intro l
  induction l with
  | nil => intro _; simp [sumP, cntW]
  | cons v r ih =>
    intro h
    have h1 := h v (by simp)
    simp only [sumP, cntW, ih fun x hx => h x (by simp [hx])]
    by_cases e : v.acts = u
    · have : (pKeep m k u v = true) = (u.length = m) := by unfold pKeep; simp [e, h1]
      simp only [this, if_pos e]
      split <;> omega
    · have : ¬ pKeep m k u v = true := by unfold pKeep; simp [e]
      simp only [if_neg this, if_neg e]
      split <;> omega
theorem again_cnt {k : Int} : ∀ (m : Nat) (ws out : List Wd), lnW ws → lnW out → ascW ws → ascW out → (∀ v ∈ ws, k ≤ v.n ∧ v.acts.length < m) → ∀ u, cntW u (supN k m ws out) = cntW u out + cntW u ws := by
  intro m
  induction m with
  | zero =>
    intro ws out _ _ _ _ h u
    have : ws = [] := by cases ws with | nil => rfl | cons v r => have := (h v (by simp)).2; omega
    subst this
    simp [supN, cntW]
  | succ m ih =>
    intro ws out h1 h2 a1 a2 h u
    have hs := supL_ok (m := m) (k := k) h1 h2
    have ha := asc_supL (m := m) (k := k) (ws := ws) a2
    have hc := fun u => cnt_supL (m := m) (k := k) (u := u) (ws := ws) (out := out)
    have hk : ∀ v ∈ ws, k ≤ v.n := fun v hv => (h v hv).1
    have e1 : ∀ u, cntW u (supL m k ws out).1 = if u.length ≠ m then cntW u ws else 0 := fun u => by rw [(hc u).1, cut_none ws hk, sumP_other]; omega
    have hw : ∀ v ∈ (supL m k ws out).1, k ≤ v.n ∧ v.acts.length < m := fun v hv => by
      have q1 := cnt_some _ (asc_key ha.1) v hv
      have q2 := (hs.1 v hv).1
      rw [e1] at q1
      split at q1
      · rename_i e
        have q3 : v.acts ∈ ws.map Wd.acts := Classical.byContradiction fun q => by rw [cnt_none ws q] at q1; omega
        obtain ⟨x, hx, hxe⟩ := List.mem_map.1 q3
        have q4 := cnt_some _ (asc_key a1) x hx
        rw [hxe, q1] at q4
        have := h x hx
        rw [hxe] at this
        exact ⟨by omega, by omega⟩
      · omega
    rw [supN, ih _ _ hs.1 hs.2.1 ha.1 ha.2 hw u, e1, (hc u).2, keep_all ws hk]
    by_cases e : u.length = m
    · simp [e]
    · simp [e]
theorem supN_again {k : Int} {O : List Wd} (h1 : lnW O) (a1 : ascW O) (hk : ∀ v ∈ O, k ≤ v.n) : supN k 201 O [] = O := by
  have h0 : lnW [] := by simp [lnW]
  have hc := again_cnt (k := k) 201 O [] h1 h0 a1 (by simp [ascW]) fun v hv => ⟨hk v hv, by have := (h1 v hv).2; omega⟩
  have h2 := (supN_ok (k := k) 201 O [] h1 h0).1
  have h3 := asc_supN (k := k) 201 O [] (by simp [ascW])
  generalize supN k 201 O [] = Q at hc h2 h3
  exact asc_counts h3 a1 (fun v hv => (h2 v hv).1) (fun v hv => (h1 v hv).1) fun u => by rw [hc u]; simp [cntW]
end Go.Proofs.Ytkppfaennogcmaa
