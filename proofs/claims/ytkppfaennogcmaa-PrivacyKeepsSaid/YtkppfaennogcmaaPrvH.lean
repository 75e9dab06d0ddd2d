/- A publication that can be made case by case (plain words). -/
import Derived.Test.YtkppfaennogcmaaPrvD
namespace Go.Proofs.Ytkppfaennogcmaa
set_option linter.unusedSimpArgs false
set_option linter.unusedVariables false
set_option linter.unnecessarySimpa false
set_option linter.unusedSectionVars false
open Go.RowKit
variable [Glob]
set_option maxRecDepth 100000
abbrev Wo := List ByteArray
/-- The word u is a beginning of w. -/
def pre (u w : Wo) : Prop := w.take u.length = u
instance (u w : Wo) : Decidable (pre u w) := by unfold pre; infer_instance
theorem pre_len {u w : Wo} (h : pre u w) : u.length ≤ w.length := by
  have := congrArg List.length h
  rw [List.length_take] at this; omega
theorem pre_trans {u w v : Wo} (h1 : pre u w) (h2 : pre w v) : pre u v := by
  have hl := pre_len h1
  unfold pre at *
  rw [← h1, ← h2, List.take_take, Nat.min_eq_left hl, List.length_take]
  congr 1
  have := congrArg List.length h1
  rw [List.length_take] at this
  have h3 := congrArg List.length h2
  rw [List.length_take] at h3
  omega
theorem pre_both {u w v : Wo} (h1 : pre u v) (h2 : pre w v) (hl : u.length ≤ w.length) : pre u w := by
  unfold pre at *
  have : w.take u.length = (v.take w.length).take u.length := by rw [h2]
  rw [this, List.take_take, Nat.min_eq_left hl, h1]
def sumU (u : Wo) : List Wd → Int
  | [] => 0
  | v :: r => (if pre u v.acts then v.n else 0) + sumU u r
theorem sumU_nonneg {u : Wo} {l : List Wd} (h : ∀ v ∈ l, 0 ≤ v.n) : 0 ≤ sumU u l := by
  induction l with
  | nil => simp [sumU]
  | cons v r ih =>
    have h1 := ih fun x hx => h x (by simp [hx])
    have h2 := h v (by simp)
    simp only [sumU]
    split <;> omega
def takeL (w : Wo) : Int → List Wd → Int × List Wd
  | need, [] => (need, [])
  | need, v :: r => if pre w v.acts then ((takeL w (need - min need v.n) r).1, ⟨v.acts, v.n - min need v.n⟩ :: (takeL w (need - min need v.n) r).2) else ((takeL w need r).1, v :: (takeL w need r).2)
structure TakeR (w : Wo) (need : Int) (C : List Wd) (R : Int × List Wd) : Prop where
  nn : 0 ≤ R.1
  pos : ∀ v ∈ R.2, 0 ≤ v.n
  acts : R.2.map Wd.acts = C.map Wd.acts
  enough : need ≤ sumU w C → R.1 = 0
  few : sumU w C < need → 0 < R.1
  below : ∀ u, pre u w → sumU u R.2 = sumU u C - (need - R.1)
  aside : ∀ u : Wo, u.length ≤ w.length → ¬ pre u w → sumU u R.2 = sumU u C
theorem takeL_ok (w : Wo) : ∀ (C : List Wd) (need : Int), 0 ≤ need → (∀ v ∈ C, 0 ≤ v.n) → TakeR w need C (takeL w need C) := by
  intro C
  induction C with
  | nil =>
    intro need h0 _
    refine ⟨h0, by simp [takeL], rfl, fun h => ?_, fun h => ?_, fun u _ => ?_, fun u _ _ => rfl⟩
    · simp only [takeL, sumU] at h ⊢; omega
    · simp only [takeL, sumU] at h ⊢; exact h
    · simp only [takeL, sumU]; omega
  | cons v r ih =>
    intro need h0 hC
    have hv := hC v (by simp)
    have hr : ∀ x ∈ r, 0 ≤ x.n := fun x hx => hC x (by simp [hx])
    by_cases hp : pre w v.acts
    · obtain ⟨t, ht, ht1, ht2⟩ : ∃ t, min need v.n = t ∧ (need ≤ v.n → t = need) ∧ (v.n ≤ need → t = v.n) := ⟨_, rfl, Int.min_eq_left, Int.min_eq_right⟩
      have h := ih (need - t) (by omega) hr
      simp only [takeL, if_pos hp, ht]
      generalize takeL w (need - t) r = R at *
      obtain ⟨k1, k2, k3, k4, k5, k6, k7⟩ := h
      refine ⟨k1, fun x hx => ?_, by simp [k3], fun hn => ?_, fun hn => ?_, fun u hu => ?_, fun u hl hu => ?_⟩
      · simp only [List.mem_cons] at hx
        rcases hx with rfl | hx
        · simp only; omega
        · exact k2 x hx
      · have h5 := sumU_nonneg (u := w) hr
        simp only [sumU, if_pos hp] at hn
        exact k4 (by omega)
      · have h5 := sumU_nonneg (u := w) hr
        simp only [sumU, if_pos hp] at hn
        exact k5 (by omega)
      · simp only [sumU, if_pos (pre_trans hu hp), k6 u hu]; omega
      · have : ¬ pre u v.acts := fun h => hu (pre_both h hp hl)
        simp only [sumU, if_neg this, k7 u hl hu]
    · have h := ih need h0 hr
      simp only [takeL, if_neg hp]
      generalize takeL w need r = R at *
      obtain ⟨k1, k2, k3, k4, k5, k6, k7⟩ := h
      refine ⟨k1, fun x hx => ?_, by simp [k3], fun hn => ?_, fun hn => ?_, fun u hu => ?_, fun u hl hu => ?_⟩
      · simp only [List.mem_cons] at hx
        rcases hx with rfl | hx
        · exact hv
        · exact k2 x hx
      · simp only [sumU, if_neg hp] at hn
        exact k4 (by omega)
      · simp only [sumU, if_neg hp] at hn
        exact k5 (by omega)
      · simp only [sumU, k6 u hu]; omega
      · simp only [sumU, k7 u hl hu]
def lvl (m : Nat) : List Wd → List Wd → Option (List Wd)
  | [], C => some C
  | w :: P, C => if w.acts.length = m then (if 0 < (takeL w.acts w.n C).1 then none else lvl m P (takeL w.acts w.n C).2) else lvl m P C
def lvls (P : List Wd) : Nat → List Wd → Bool
  | 0, C => (lvl 0 P C).isSome
  | m + 1, C => match lvl (m + 1) P C with
    | none => false
    | some C' => lvls P m C'
/-- The sum over the words of some lengths. -/
def sumQ (q : Nat → Bool) (u : Wo) : List Wd → Int
  | [] => 0
  | v :: r => (if pre u v.acts ∧ q v.acts.length = true then v.n else 0) + sumQ q u r
def lvInv (L : List Wd) (m : Nat) (S : Wo → Int) (C : List Wd) : Prop := (∀ v ∈ C, 0 ≤ v.n) ∧ ∀ u : Wo, u.length ≤ m → sumU u C = sumU u L - S u
theorem lvl_ok {L : List Wd} {m : Nat} : ∀ (P C : List Wd) (S : Wo → Int), (∀ v ∈ P, 0 ≤ v.n) → lvInv L m S C →
    match lvl m P C with
    | some C' => lvInv L m (fun u => S u + sumQ (fun k => decide (k = m)) u P) C'
    | none => ∃ u, sumU u L < S u + sumQ (fun k => decide (k = m)) u P := by
  intro P
  induction P with
  | nil => intro C S _ h; simp only [lvl, sumQ]; exact ⟨h.1, fun u hu => by rw [h.2 u hu]; simp only [sumQ]; omega⟩
  | cons w P ih =>
    intro C S hP hI
    have hw := hP w (by simp)
    have hP' : ∀ v ∈ P, 0 ≤ v.n := fun x hx => hP x (by simp [hx])
    have hnn : ∀ u, 0 ≤ sumQ (fun k => decide (k = m)) u P := fun u => by
      clear ih hP
      induction P with
      | nil => simp [sumQ]
      | cons v P ih2 =>
        have h1 := ih2 fun x hx => hP' x (by simp [hx])
        have h2 := hP' v (by simp)
        simp only [sumQ]
        split <;> omega
    by_cases hm : w.acts.length = m
    · have h := takeL_ok w.acts C w.n hw hI.1
      simp only [lvl, if_pos hm]
      have hself : pre w.acts w.acts := by simp [pre]
      by_cases hc : 0 < (takeL w.acts w.n C).1
      · simp only [if_pos hc]
        refine ⟨w.acts, ?_⟩
        have h1 : sumU w.acts C < w.n := by
          by_cases q : w.n ≤ sumU w.acts C
          · rw [h.enough q] at hc; omega
          · omega
        rw [hI.2 _ (by omega)] at h1
        have := hnn w.acts
        simp only [sumQ, hself, hm, decide_true, and_self, if_true]
        omega
      · simp only [if_neg hc]
        have h0 : (takeL w.acts w.n C).1 = 0 := by have := h.nn; omega
        have hI2 : lvInv L m (fun u => S u + if pre u w.acts ∧ decide (w.acts.length = m) = true then w.n else 0) (takeL w.acts w.n C).2 := by
          refine ⟨h.pos, fun u hu => ?_⟩
          by_cases hp : pre u w.acts
          · rw [h.below u hp, hI.2 u hu, h0]
            simp only [hp, hm, decide_true, and_self, if_true]; omega
          · rw [h.aside u (by omega) hp, hI.2 u hu]
            simp only [hp, false_and, if_false]; omega
        have := ih _ _ hP' hI2
        split at this
        · rename_i C' hC'
          refine ⟨this.1, fun u hu => ?_⟩
          rw [this.2 u hu]
          simp only [sumQ]; omega
        · rename_i hC'
          obtain ⟨u, hu⟩ := this
          exact ⟨u, by simp only [sumQ]; try simp only at hu
                       omega⟩
    · simp only [lvl, if_neg hm]
      have := ih C S hP' hI
      have he : ∀ u, sumQ (fun k => decide (k = m)) u (w :: P) = sumQ (fun k => decide (k = m)) u P := fun u => by
        simp only [sumQ, hm, decide_false]; simp
      split at this
      · rename_i C' hC'
        refine ⟨this.1, fun u hu => ?_⟩
        rw [this.2 u hu]
        dsimp only
        rw [he]
      · rename_i hC'
        obtain ⟨u, hu⟩ := this
        exact ⟨u, by rw [he]; exact hu⟩
theorem sumQ_add {m : Nat} {u : Wo} : ∀ P : List Wd, sumQ (fun k => decide (m < k)) u P + sumQ (fun k => decide (k = m)) u P = sumQ (fun k => decide (m ≤ k)) u P := by
  intro P
  induction P with
  | nil => simp [sumQ]
  | cons v P ih =>
    simp only [sumQ, decide_eq_true_eq]
    rw [← ih]
    by_cases hp : pre u v.acts
    · simp only [hp, true_and]
      rcases Nat.lt_trichotomy m v.acts.length with q | q | q
      · rw [if_pos q, if_neg (show ¬ v.acts.length = m by omega), if_pos (show m ≤ v.acts.length by omega)]; omega
      · rw [if_neg (show ¬ m < v.acts.length by omega), if_pos q.symm, if_pos (show m ≤ v.acts.length by omega)]; omega
      · rw [if_neg (show ¬ m < v.acts.length by omega), if_neg (show ¬ v.acts.length = m by omega), if_neg (show ¬ m ≤ v.acts.length by omega)]; omega
    · simp only [hp, false_and, if_false]; omega
theorem sumQ_all {m : Nat} {u : Wo} (hm : m ≤ u.length) : ∀ P : List Wd, sumQ (fun k => decide (m ≤ k)) u P = sumU u P := by
  intro P
  induction P with
  | nil => rfl
  | cons v P ih =>
    simp only [sumQ, sumU, ih, decide_eq_true_eq]
    by_cases hp : pre u v.acts
    · have := pre_len hp
      rw [if_pos ⟨hp, by omega⟩, if_pos hp]
    · rw [if_neg fun h => hp h.1, if_neg hp]
theorem sumQ_le {q : Nat → Bool} {u : Wo} : ∀ P : List Wd, (∀ v ∈ P, 0 ≤ v.n) → sumQ q u P ≤ sumU u P := by
  intro P
  induction P with
  | nil => intro _; exact Int.le_refl _
  | cons v P ih =>
    intro h
    have h1 := ih fun x hx => h x (by simp [hx])
    have h2 := h v (by simp)
    simp only [sumQ, sumU]
    by_cases hp : pre u v.acts
    · rw [if_pos hp]; split <;> omega
    · rw [if_neg fun h => hp h.1, if_neg hp]; omega
theorem sumQ_mono {m : Nat} {u : Wo} : ∀ P : List Wd, sumQ (fun k => decide (m + 1 ≤ k)) u P = sumQ (fun k => decide (m < k)) u P := fun P => rfl
theorem lvls_ok {L P : List Wd} (hP : ∀ v ∈ P, 0 ≤ v.n) : ∀ (m : Nat) (C : List Wd), lvInv L m (fun u => sumQ (fun k => decide (m < k)) u P) C →
    (lvls P m C = true → ∀ u : Wo, u.length ≤ m → sumU u P ≤ sumU u L) ∧ (lvls P m C = false → ∃ u, sumU u L < sumU u P) := by
  intro m
  have hlev : ∀ (m : Nat) (C : List Wd), lvInv L m (fun u => sumQ (fun k => decide (m < k)) u P) C →
      match lvl m P C with
      | some C' => lvInv L m (fun u => sumQ (fun k => decide (m ≤ k)) u P) C' ∧ ∀ u : Wo, u.length = m → sumU u P ≤ sumU u L
      | none => ∃ u, sumU u L < sumU u P := fun m C h => by
    have := lvl_ok P C _ hP h
    split at this
    · rename_i C' hC'
      have h2 : lvInv L m (fun u => sumQ (fun k => decide (m ≤ k)) u P) C' := ⟨this.1, fun u hu => by rw [this.2 u hu]; dsimp only; rw [sumQ_add]⟩
      refine ⟨h2, fun u hu => ?_⟩
      have h3 := h2.2 u (by omega)
      have h4 := sumU_nonneg (u := u) h2.1
      dsimp only at h3
      rw [sumQ_all (by omega)] at h3
      omega
    · rename_i hC'
      obtain ⟨u, hu⟩ := this
      rw [sumQ_add] at hu
      exact ⟨u, by have := sumQ_le (q := fun k => decide (m ≤ k)) (u := u) P hP; omega⟩
  induction m with
  | zero =>
    intro C h
    have := hlev 0 C h
    cases hC' : lvl 0 P C with
    | none =>
      rw [hC'] at this
      exact ⟨fun h => by simp [lvls, hC'] at h, fun _ => this⟩
    | some C' =>
      rw [hC'] at this
      exact ⟨fun _ u hu => this.2 u (by omega), fun h => by simp [lvls, hC'] at h⟩
  | succ m ih =>
    intro C h
    have := hlev (m + 1) C h
    cases hC' : lvl (m + 1) P C with
    | none =>
      rw [hC'] at this
      exact ⟨fun h => by simp [lvls, hC'] at h, fun _ => this⟩
    | some C' =>
      rw [hC'] at this
      have he : lvls P (m + 1) C = lvls P m C' := by simp only [lvls, hC']
      rw [he]
      have h2 := ih C' ⟨this.1.1, fun u hu => by rw [this.1.2 u (by omega)]; rfl⟩
      refine ⟨fun h3 u hu => ?_, h2.2⟩
      by_cases e : u.length = m + 1
      · exact this.2 u e
      · exact h2.1 h3 u (by omega)
theorem sumU_long {u : Wo} : ∀ P : List Wd, (∀ v ∈ P, v.acts.length < u.length) → sumU u P = 0 := by
  intro P
  induction P with
  | nil => intro _; rfl
  | cons v P ih =>
    intro h
    have : ¬ pre u v.acts := fun hp => by have := pre_len hp; have := h v (by simp); omega
    simp only [sumU, if_neg this, ih fun x hx => h x (by simp [hx])]
    omega
theorem sumQ_none {u : Wo} {m : Nat} : ∀ P : List Wd, (∀ v ∈ P, v.acts.length ≤ m) → sumQ (fun k => decide (m < k)) u P = 0 := by
  intro P
  induction P with
  | nil => intro _; rfl
  | cons v P ih =>
    intro h
    have h1 := h v (by simp)
    simp only [sumQ, decide_eq_true_eq, ih fun x hx => h x (by simp [hx])]
    rw [if_neg (by omega)]; omega
theorem made_iff {L P : List Wd} (hL : ∀ v ∈ L, 0 ≤ v.n) (hP : ∀ v ∈ P, 0 ≤ v.n) (h12 : ∀ v ∈ P, v.acts.length ≤ 12) : lvls P 12 L = true ↔ ∀ u, sumU u P ≤ sumU u L := by
  have h := lvls_ok (L := L) hP 12 L ⟨hL, fun u _ => by dsimp only; rw [sumQ_none P h12]; omega⟩
  constructor
  · intro h1 u
    by_cases hu : u.length ≤ 12
    · exact h.1 h1 u hu
    · rw [sumU_long P fun v hv => by have := h12 v hv; omega]
      exact sumU_nonneg hL
  · intro h1
    cases hb : lvls P 12 L with
    | true => rfl
    | false =>
      obtain ⟨u, hu⟩ := h.2 hb
      have := h1 u
      omega
end Go.Proofs.Ytkppfaennogcmaa
