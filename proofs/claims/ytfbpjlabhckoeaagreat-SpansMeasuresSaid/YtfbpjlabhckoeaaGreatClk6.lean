/- Calendars as sets of minutes: made of marks, merged, both, closed (plain words; no program). -/
import Derived.Test.YtfbpjlabhckoeaaGreatClk1
namespace Go.Proofs.YtfbpjlabhckoeaaGreat
set_option linter.unusedSimpArgs false
set_option linter.unusedVariables false
set_option linter.unnecessarySimpa false
set_option linter.unusedSectionVars false
open Go.RowKit
/-- Where the spans end. -/
def endT : Int → List Sp → Int
  | p, [] => p
  | _, s :: r => endT s.t r
theorem endT_snoc (p : Int) (l : List Sp) (s : Sp) : endT p (l ++ [s]) = s.t := by
  induction l generalizing p with
  | nil => rfl
  | cons a r ih => exact ih _
theorem endT_le {p : Int} {l : List Sp} (h : calV p l = true) : p ≤ endT p l ∧ ∀ s ∈ l, s.t ≤ endT p l := by
  induction l generalizing p with
  | nil => simp [endT]
  | cons a r ih =>
    rw [calV_cons] at h
    obtain ⟨h1, h2⟩ := ih h.2.2.2.2
    simp only [endT]
    refine ⟨by omega, fun s hs => ?_⟩
    rcases List.mem_cons.1 hs with rfl | hs
    · exact h1
    · exact h2 s hs
theorem calV_append {p : Int} {l l' : List Sp} : calV p (l ++ l') = true ↔ calV p l = true ∧ calV (endT p l) l' = true := by
  induction l generalizing p with
  | nil => simp [calV, endT]
  | cons a r ih =>
    rw [List.cons_append, calV_cons, calV_cons, ih, endT]
    constructor
    · rintro ⟨h1, h2, h3, h4, h5, h6⟩; exact ⟨⟨h1, h2, h3, h4, h5⟩, h6⟩
    · rintro ⟨⟨h1, h2, h3, h4, h5⟩, h6⟩; exact ⟨h1, h2, h3, h4, h5, h6⟩
theorem calV_one {p : Int} {s : Sp} : calV p [s] = true ↔ 0 ≤ s.f ∧ s.f < s.t ∧ s.t ≤ 10080 ∧ p < s.f := by rw [calV_cons]; simp [calV]
theorem openW_append {w : Int} {l l' : List Sp} : openW w (l ++ l') = (openW w l || openW w l') := by simp [openW]
theorem openW_one {w : Int} {s : Sp} : openW w [s] = inS w s := by simp [openW]
theorem openW_cons {w : Int} {s : Sp} {l : List Sp} : openW w (s :: l) = (inS w s || openW w l) := by simp [openW]
theorem openW_late {p : Int} {l : List Sp} {w : Int} (h : calV p l = true) (hw : endT p l ≤ w) : openW w l = false := by
  rw [openW, List.any_eq_false]
  intro s hs
  have := (endT_le h).2 s hs
  simp [inS]; omega
/-- Two such lists with the same minutes are the same. -/
theorem cal_uniq : ∀ {p q : Int} {l l' : List Sp}, calV p l = true → calV q l' = true → (∀ w, openW w l = openW w l') → l = l' := by
  intro p q l
  induction l generalizing p q with
  | nil =>
    intro l' _ h2 h
    cases l' with
    | nil => rfl
    | cons s r =>
      rw [calV_cons] at h2
      have := h s.f
      rw [openW_cons] at this
      have hin : inS s.f s = true := by simp [inS]; omega
      rw [hin] at this
      simp [openW] at this
  | cons s r ih =>
    intro l' h1 h2 h
    cases l' with
    | nil =>
      rw [calV_cons] at h1
      have := h s.f
      rw [openW_cons] at this
      have hin : inS s.f s = true := by simp [inS]; omega
      rw [hin] at this
      simp [openW] at this
    | cons s' r' =>
      rw [calV_cons] at h1 h2
      obtain ⟨a1, a2, a3, a4, a5⟩ := h1
      obtain ⟨b1, b2, b3, b4, b5⟩ := h2
      have n1 : ∀ w, w ≤ s.t → openW w r = false := fun w hw => openW_none a5 hw
      have n2 : ∀ w, w ≤ s'.t → openW w r' = false := fun w hw => openW_none b5 hw
      have e1 : s.f = s'.f := by
        have q1 := h s.f
        have q2 := h s'.f
        rw [openW_cons, openW_cons] at q1 q2
        have i1 : inS s.f s = true := by simp [inS]; omega
        have i2 : inS s'.f s' = true := by simp [inS]; omega
        rw [i1, Bool.true_or] at q1
        rw [i2, Bool.true_or] at q2
        by_cases c1 : s.f < s'.f
        · rw [n2 s.f (by omega)] at q1
          have : inS s.f s' = false := by simp [inS]; omega
          rw [this] at q1; simp at q1
        · by_cases c2 : s'.f < s.f
          · rw [n1 s'.f (by omega)] at q2
            have : inS s'.f s = false := by simp [inS]; omega
            rw [this] at q2; simp at q2
          · omega
      have e2 : s.t = s'.t := by
        have q1 := h s.t
        have q2 := h s'.t
        rw [openW_cons, openW_cons] at q1 q2
        by_cases c1 : s.t < s'.t
        · rw [n1 s.t (by omega)] at q1
          have i1 : inS s.t s = false := by simp [inS]
          have i2 : inS s.t s' = true := by simp [inS]; omega
          rw [i1, i2] at q1; simp at q1
        · by_cases c2 : s'.t < s.t
          · rw [n2 s'.t (by omega)] at q2
            have i1 : inS s'.t s' = false := by simp [inS]
            have i2 : inS s'.t s = true := by simp [inS]; omega
            rw [i1, i2] at q2; simp at q2
          · omega
      have e3 : s = s' := by cases s; cases s'; simp at e1 e2; simp [e1, e2]
      subst e3
      congr 1
      refine ih a5 b5 fun w => ?_
      by_cases hw : w ≤ s.t
      · rw [n1 w hw, n2 w hw]
      · have := h w
        rw [openW_cons, openW_cons] at this
        have hi : inS w s = false := by simp [inS]; omega
        rw [hi] at this
        simpa using this
/-- One minute more. -/
def addM (l : List Sp) (m : Int) : List Sp :=
  match l[l.length - 1]? with
  | some s => if s.t = m then l.set (l.length - 1) ⟨s.f, m + 1⟩ else l ++ [⟨m, m + 1⟩]
  | none => [⟨m, m + 1⟩]
theorem last_snoc {α : Type} (l : List α) (s : α) : (l ++ [s])[(l ++ [s]).length - 1]? = some s := by simp
theorem set_snoc {α : Type} (l : List α) (s x : α) : (l ++ [s]).set ((l ++ [s]).length - 1) x = l ++ [x] := by
  rw [show (l ++ [s]).length - 1 = l.length by simp, List.set_append_right _ _ (Nat.le_refl _)]; simp
/-- The spans of the first minutes that are marked. -/
def runsL (p : Int → Bool) : Nat → List Sp
  | 0 => []
  | m + 1 => if p (m : Int) = true then addM (runsL p m) m else runsL p m
theorem runs_spec (p : Int → Bool) : ∀ n : Nat, n ≤ 10080 → calV (-1) (runsL p n) = true ∧ endT (-1) (runsL p n) ≤ n ∧ ∀ w : Int, openW w (runsL p n) = (decide (0 ≤ w) && decide (w < n) && p w) := by
  intro n
  induction n with
  | zero => intro _; exact ⟨rfl, by simp [runsL, endT], fun w => by simp [runsL, openW]; intro h1 h2; omega⟩
  | succ n ih =>
    intro hn
    obtain ⟨h1, h2, h3⟩ := ih (by omega)
    by_cases hp : p (n : Int) = true
    · simp only [runsL, hp, if_true]
      rcases List.eq_nil_or_concat (runsL p n) with e | ⟨l0, s, e⟩
      · have hr : addM (runsL p n) n = [⟨n, (n : Int) + 1⟩] := by rw [e]; rfl
        rw [hr]
        refine ⟨by rw [calV_one]; simp only; omega, by simp [endT], fun w => ?_⟩
        have := h3 w
        rw [e] at this
        rw [openW_one]
        simp only [openW, List.any_nil] at this
        by_cases hw : w = n
        · subst hw; simp [inS, hp] <;> omega
        · have i1 : inS w ⟨n, (n : Int) + 1⟩ = false := by simp [inS]; omega
          rw [i1]
          by_cases hw2 : w < n
          · rw [decide_eq_true hw2] at this
            have hw3 : w < ((n + 1 : Nat) : Int) := by omega
            rw [decide_eq_true hw3]; exact this
          · have hw3 : ¬ w < ((n + 1 : Nat) : Int) := by omega
            rw [decide_eq_false hw3]; simp
      · rw [List.concat_eq_append] at e
        rw [e] at h1 h2 h3
        rw [endT_snoc] at h2
        have hl := last_snoc l0 s
        have h1' := h1
        rw [calV_append, calV_one] at h1'
        by_cases ht : s.t = n
        · have hr : addM (runsL p n) n = l0 ++ [⟨s.f, (n : Int) + 1⟩] := by
            rw [e, addM, hl]
            simp only
            rw [if_pos ht, set_snoc]
          rw [hr]
          refine ⟨by rw [calV_append, calV_one]; exact ⟨h1'.1, by simp only; omega⟩, by rw [endT_snoc]; simp, fun w => ?_⟩
          have := h3 w
          rw [openW_append, openW_one] at this ⊢
          by_cases hw : w = n
          · subst hw
            have i1 : inS (n : Int) ⟨s.f, (n : Int) + 1⟩ = true := by simp [inS]; omega
            rw [i1, hp]; simp; omega
          · have i1 : inS w ⟨s.f, (n : Int) + 1⟩ = inS w s := by
              simp only [inS]
              congr 1
              rw [decide_eq_decide]; omega
            rw [i1, this]
            congr 2
            rw [decide_eq_decide]; omega
        · have hr : addM (runsL p n) n = l0 ++ [s] ++ [⟨n, (n : Int) + 1⟩] := by
            rw [e, addM, hl]
            simp only
            rw [if_neg ht]
          rw [hr]
          refine ⟨by rw [calV_append, calV_one, endT_snoc]; exact ⟨h1, by simp only; omega⟩, by rw [endT_snoc]; simp, fun w => ?_⟩
          have := h3 w
          rw [openW_append, openW_one, this]
          by_cases hw : w = n
          · subst hw; simp [inS, hp] <;> omega
          · have i1 : inS w ⟨n, (n : Int) + 1⟩ = false := by simp [inS]; omega
            rw [i1, Bool.or_false]
            congr 2
            rw [decide_eq_decide]; omega
    · have hp : p (n : Int) = false := by simpa using hp
      simp only [runsL, hp, Bool.false_eq_true, if_false]
      refine ⟨h1, by omega, fun w => ?_⟩
      rw [h3 w]
      by_cases hw : w = n
      · subst hw; simp [hp]
      · congr 2
        rw [decide_eq_decide]; omega
/-- A list with these minutes is what is made of them. -/
theorem runs_eq {p : Int → Bool} {l : List Sp} {q : Int} (h : calV q l = true) (ho : ∀ w, 0 ≤ w → w < 10080 → openW w l = p w) : l = runsL p 10080 := by
  obtain ⟨h1, _, h3⟩ := runs_spec p 10080 (Nat.le_refl _)
  refine cal_uniq h h1 fun w => ?_
  rw [h3 w]
  by_cases hw : 0 ≤ w ∧ w < 10080
  · rw [ho w hw.1 hw.2, decide_eq_true hw.1, decide_eq_true (show w < ((10080 : Nat) : Int) by omega)]; simp
  · have : openW w l = false := by
      rw [openW, List.any_eq_false]
      intro s hs
      have := calV_mem h hs
      simp [inS]; omega
    rw [this]
    by_cases h0 : 0 ≤ w
    · rw [decide_eq_false (show ¬ w < ((10080 : Nat) : Int) by omega)]; simp
    · rw [decide_eq_false h0]; simp
/-! Merging. -/
def mrg (acc : List Sp) (s : Sp) : List Sp :=
  match acc[acc.length - 1]? with
  | some q => if s.f ≤ q.t then acc.set (acc.length - 1) ⟨q.f, if q.t < s.t then s.t else q.t⟩ else acc ++ [s]
  | none => [s]
theorem mrg_spec : ∀ (l acc : List Sp), l.Pairwise (fun a b => a.f ≤ b.f) → (∀ s ∈ l, wkV s = true) → calV (-1) acc = true → (∀ a ∈ acc, ∀ s ∈ l, a.f ≤ s.f) →
    calV (-1) (l.foldl mrg acc) = true ∧ ∀ w, openW w (l.foldl mrg acc) = (openW w acc || l.any (inS w)) := by
  intro l
  induction l with
  | nil => intro acc _ _ h _; exact ⟨h, fun w => by simp⟩
  | cons s r ih =>
    intro acc hp hv hc hf
    obtain ⟨p1, p2⟩ := List.pairwise_cons.1 hp
    have hs := hv s (by simp)
    simp only [wkV, spV, Bool.and_eq_true, decide_eq_true_eq] at hs
    have key : calV (-1) (mrg acc s) = true ∧ (∀ w, openW w (mrg acc s) = (openW w acc || inS w s)) ∧ ∀ a ∈ mrg acc s, a.f ≤ s.f := by
      rcases List.eq_nil_or_concat acc with rfl | ⟨a0, q, rfl⟩
      · refine ⟨by show calV (-1) [s] = true; rw [calV_one]; omega, fun w => by show openW w [s] = _; rw [openW_one]; simp [openW], fun a ha => ?_⟩
        have ha : a ∈ [s] := ha
        simp at ha; subst ha; exact Int.le_refl _
      · rw [List.concat_eq_append] at *
        rw [calV_append, calV_one] at hc
        have hq := hf q (by simp) s (by simp)
        by_cases ht : s.f ≤ q.t
        · have hr : mrg (a0 ++ [q]) s = a0 ++ [⟨q.f, if q.t < s.t then s.t else q.t⟩] := by
            rw [mrg, last_snoc]
            simp only
            rw [if_pos ht, set_snoc]
          rw [hr]
          refine ⟨?_, fun w => ?_, fun a ha => ?_⟩
          · rw [calV_append, calV_one]
            exact ⟨hc.1, by simp only; split <;> omega⟩
          · rw [openW_append, openW_append, openW_one, openW_one, Bool.or_assoc]
            congr 1
            rw [Bool.eq_iff_iff]
            simp only [inS, Bool.and_eq_true, Bool.or_eq_true, decide_eq_true_eq]
            split <;> omega
          · simp only [List.mem_append, List.mem_singleton] at ha
            rcases ha with ha | rfl
            · exact hf a (by simp [ha]) s (by simp)
            · exact hq
        · have hr : mrg (a0 ++ [q]) s = a0 ++ [q] ++ [s] := by
            rw [mrg, last_snoc]
            simp only
            rw [if_neg ht]
          rw [hr]
          refine ⟨?_, fun w => ?_, fun a ha => ?_⟩
          · rw [calV_append, calV_one, endT_snoc, calV_append, calV_one]
            exact ⟨hc, by omega⟩
          · rw [openW_append, openW_one]
          · simp only [List.mem_append, List.mem_singleton] at ha
            rcases ha with ha | rfl
            · exact hf a (by simpa using ha) s (by simp)
            · exact Int.le_refl _
    obtain ⟨k1, k2, k3⟩ := key
    obtain ⟨i1, i2⟩ := ih (mrg acc s) p2 (fun x hx => hv x (by simp [hx])) k1 fun a ha x hx => Int.le_trans (k3 a ha) (p1 x hx)
    exact ⟨i1, fun w => by rw [List.foldl_cons, i2 w, k2 w, List.any_cons, Bool.or_assoc]⟩
/-! What is open in both. -/
def bothS (x y : Sp) : Sp := ⟨if x.f < y.f then y.f else x.f, if y.t < x.t then y.t else x.t⟩
def both1 (x : Sp) (b : List Sp) : List Sp := (b.map (bothS x)).filter fun s => decide (s.f < s.t)
def bothL (a b : List Sp) : List Sp := a.flatMap fun x => both1 x b
theorem both1_cons {x y : Sp} {r : List Sp} : both1 x (y :: r) = (if (bothS x y).f < (bothS x y).t then [bothS x y] else []) ++ both1 x r := by
  unfold both1
  rw [List.map_cons, List.filter_cons]
  by_cases h : (bothS x y).f < (bothS x y).t
  · simp [h]
  · simp [h]
theorem both1_spec (x : Sp) : ∀ {p : Int} {b : List Sp}, calV p b = true → calV p (both1 x b) = true ∧ (∀ s ∈ both1 x b, x.f ≤ s.f ∧ s.t ≤ x.t) ∧ ∀ w, openW w (both1 x b) = (inS w x && openW w b) := by
  intro p b
  induction b generalizing p with
  | nil => intro _; exact ⟨rfl, by simp [both1], fun w => by simp [both1, openW]⟩
  | cons y r ih =>
    intro h
    rw [calV_cons] at h
    obtain ⟨i1, i2, i3⟩ := ih h.2.2.2.2
    rw [both1_cons]
    have hb : (bothS x y).f = (if x.f < y.f then y.f else x.f) ∧ (bothS x y).t = (if y.t < x.t then y.t else x.t) := ⟨rfl, rfl⟩
    obtain ⟨hb1, hb2⟩ := hb
    have hw : ∀ w, inS w (bothS x y) = (inS w x && inS w y) := fun w => by
      rw [Bool.eq_iff_iff]
      simp only [inS, Bool.and_eq_true, decide_eq_true_eq, hb1, hb2]
      split <;> split <;> omega
    by_cases hlt : (bothS x y).f < (bothS x y).t
    · rw [if_pos hlt]
      refine ⟨?_, fun s hs => ?_, fun w => ?_⟩
      · rw [List.singleton_append, calV_cons]
        have : (bothS x y).t ≤ y.t := by rw [hb2]; split <;> omega
        have : y.f ≤ (bothS x y).f := by rw [hb1]; split <;> omega
        exact ⟨by omega, hlt, by omega, by omega, calV_mono (by omega) i1⟩
      · simp only [List.singleton_append, List.mem_cons] at hs
        rcases hs with rfl | hs
        · rw [hb1, hb2]
          constructor
          · split <;> omega
          · split <;> omega
        · exact i2 s hs
      · rw [openW_append, openW_one, hw, i3, openW_cons, Bool.and_or_distrib_left]
    · rw [if_neg hlt, List.nil_append]
      refine ⟨calV_mono (by omega) i1, i2, fun w => ?_⟩
      rw [i3, openW_cons, Bool.and_or_distrib_left, ← hw]
      have : inS w (bothS x y) = false := by simp [inS]; omega
      rw [this, Bool.false_or]
theorem calV_ge {p q : Int} {l : List Sp} (h : calV p l = true) (hq : ∀ s ∈ l, q < s.f) : calV q l = true := by
  cases l with
  | nil => rfl
  | cons s r => rw [calV_cons] at *; exact ⟨h.1, h.2.1, h.2.2.1, hq s (by simp), h.2.2.2.2⟩
theorem bothL_spec : ∀ {p q : Int} {a b : List Sp}, calV p a = true → calV q b = true → calV p (bothL a b) = true ∧ ∀ w, openW w (bothL a b) = (openW w a && openW w b) := by
  intro p q a
  induction a generalizing p with
  | nil => intro b _ _; exact ⟨rfl, fun w => by simp [bothL, openW]⟩
  | cons x r ih =>
    intro b ha hb
    rw [calV_cons] at ha
    obtain ⟨i1, i2⟩ := ih ha.2.2.2.2 hb
    obtain ⟨k1, k2, k3⟩ := both1_spec x hb
    have hc : bothL (x :: r) b = both1 x b ++ bothL r b := by simp [bothL]
    rw [hc]
    have k4 : calV p (both1 x b) = true := calV_ge k1 fun s hs => by have := (k2 s hs).1; omega
    have k5 : endT p (both1 x b) ≤ x.t := by
      rcases List.eq_nil_or_concat (both1 x b) with e | ⟨l0, s, e⟩
      · rw [e]; simp only [endT]; omega
      · rw [List.concat_eq_append] at e
        rw [e, endT_snoc]
        exact (k2 s (by rw [e]; simp)).2
    exact ⟨by rw [calV_append]; exact ⟨k4, calV_mono k5 i1⟩, fun w => by rw [openW_append, k3, i2, openW_cons, Bool.and_or_distrib_right]⟩
/-! What is closed. -/
def closL : Int → List Sp → List Sp
  | f, [] => if f < 10080 then [⟨f, 10080⟩] else []
  | f, s :: r => (if f < s.f then [⟨f, s.f⟩] else []) ++ closL s.t r
theorem closL_spec : ∀ {p : Int} {l : List Sp} (f : Int), calV p l = true → p ≤ f → f ≤ p + 1 → 0 ≤ f → f ≤ 10080 → calV (f - 1) (closL f l) = true ∧ ∀ w, openW w (closL f l) = (decide (f ≤ w) && decide (w < 10080) && !openW w l) := by
  intro p l
  induction l generalizing p with
  | nil =>
    intro f _ _ _ h0 h1
    simp only [closL]
    by_cases h : f < 10080
    · rw [if_pos h]
      exact ⟨by rw [calV_one]; simp only; omega, fun w => by rw [openW_one]; simp [inS, openW]⟩
    · rw [if_neg h]
      refine ⟨rfl, fun w => ?_⟩
      simp only [openW, List.any_nil, Bool.not_false, Bool.and_true]
      symm
      simp only [Bool.and_eq_false_iff, decide_eq_false_iff_not]
      omega
  | cons s r ih =>
    intro f hc hp hp2 h0 h1
    rw [calV_cons] at hc
    obtain ⟨i1, i2⟩ := ih s.t hc.2.2.2.2 (Int.le_refl _) (by omega) (by omega) hc.2.2.1
    have hno : ∀ w, w ≤ s.t → openW w r = false := fun w hw => openW_none hc.2.2.2.2 hw
    simp only [closL]
    have hopen : ∀ w, openW w (closL s.t r) = (decide (s.t ≤ w) && decide (w < 10080) && !openW w r) := i2
    by_cases h : f < s.f
    · rw [if_pos h]
      refine ⟨?_, fun w => ?_⟩
      · rw [List.singleton_append, calV_cons]
        exact ⟨h0, h, by simp only; omega, by simp only; omega, calV_mono (by simp only; omega) i1⟩
      · rw [openW_append, openW_one, hopen, openW_cons]
        by_cases hw : w ≤ s.t
        · rw [hno w hw, Bool.eq_iff_iff]
          simp only [inS, Bool.and_eq_true, Bool.or_eq_true, decide_eq_true_eq, Bool.not_eq_true', Bool.not_false, Bool.or_false, Bool.and_eq_false_iff, decide_eq_false_iff_not, Bool.and_true]
          omega
        · have : inS w s = false := by simp [inS]; omega
          rw [this, Bool.false_or]
          have : inS w ⟨f, s.f⟩ = false := by simp [inS]; omega
          rw [this, Bool.false_or]
          congr 2
          rw [decide_eq_decide]; omega
    · rw [if_neg h, List.nil_append]
      refine ⟨calV_mono (by omega) i1, fun w => ?_⟩
      rw [hopen, openW_cons]
      by_cases hw : w ≤ s.t
      · rw [hno w hw, Bool.eq_iff_iff]
        simp only [inS, Bool.and_eq_true, Bool.or_eq_true, decide_eq_true_eq, Bool.not_eq_true', Bool.not_false, Bool.or_false, Bool.and_eq_false_iff, decide_eq_false_iff_not, Bool.and_true]
        omega
      · have : inS w s = false := by simp [inS]; omega
        rw [this, Bool.false_or]
        congr 2
        rw [decide_eq_decide]; omega
/-- The minutes that are open and those that are closed. -/
theorem bef_comp {a c : List Sp} (ha : calV (-1) a = true) (hc : calV (-1) c = true) (ho : ∀ w, 0 ≤ w → w < 10080 → openW w c = !openW w a) : ∀ n : Nat, n ≤ 10080 → befL n c + befL n a = n := by
  intro n
  induction n with
  | zero => intro _; rw [befL_zero ha (by omega), befL_zero hc (by omega)]; rfl
  | succ n ih =>
    intro hn
    have e := ih (by omega)
    have s1 := befL_step (n : Int) ha
    have s2 := befL_step (n : Int) hc
    rw [ho n (by omega) (by omega)] at s2
    rw [show ((n + 1 : Nat) : Int) = (n : Int) + 1 by omega, s1, s2]
    cases h : openW (n : Int) a <;> simp <;> omega
end Go.Proofs.YtfbpjlabhckoeaaGreat
