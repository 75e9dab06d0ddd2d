/- The greatest number of active spans, and when it is reached first (plain words; no program). -/
import Derived.Test.YtfbpjlabhckoeaaGreatSpnP
namespace Go.Proofs.YtfbpjlabhckoeaaGreat
set_option linter.unusedSimpArgs false
set_option linter.unusedVariables false
set_option linter.unnecessarySimpa false
set_option linter.unusedSectionVars false
open Go.RowKit
/-- How many spans are active in a minute. -/
def actN (A : List Sp) (t : Int) : Nat := A.countP (inS t)
def MostS (A : List Sp) (n at_ : Int) : Prop :=
  (n = 0 ∧ at_ = 0 ∧ ∀ t, actN A t = 0) ∨ (0 < n ∧ (actN A at_ : Int) = n ∧ (∀ t, (actN A t : Int) ≤ n) ∧ ∀ t, t < at_ → (actN A t : Int) < n)
theorem most_uniq {A : List Sp} {n a n' a' : Int} (h : MostS A n a) (h' : MostS A n' a') : n = n' ∧ a = a' := by
  rcases h with ⟨h1, h2, h3⟩ | ⟨h1, h2, h3, h4⟩ <;> rcases h' with ⟨g1, g2, g3⟩ | ⟨g1, g2, g3, g4⟩
  · omega
  · have := h3 a'; omega
  · have := g3 a; omega
  · have e1 := h3 a'
    have e2 := g3 a
    have e : n = n' := by omega
    refine ⟨e, ?_⟩
    by_cases c1 : a < a'
    · have := g4 a c1; omega
    · by_cases c2 : a' < a
      · have := h4 a' c2; omega
      · omega
/-- A change of the number. -/
structure Chg where
  time : Int
  by_ : Int
def sumB : List Chg → Int
  | [] => 0
  | c :: r => c.by_ + sumB r
theorem sumB_append (a b : List Chg) : sumB (a ++ b) = sumB a + sumB b := by
  induction a with
  | nil => simp [sumB]
  | cons c r ih => simp only [List.cons_append, sumB, ih]; omega
theorem sumB_perm {a b : List Chg} (h : a.Perm b) : sumB a = sumB b := by
  induction h with
  | nil => rfl
  | cons x _ ih => simp only [sumB, ih]
  | swap x y l => simp only [sumB]; omega
  | trans _ _ h1 h2 => exact h1.trans h2
def sweepL (A : List Sp) : List Chg := A.flatMap fun s => [⟨s.f, 1⟩, ⟨s.t, -1⟩]
theorem sweep_sum {t : Int} : ∀ {A : List Sp}, (∀ s ∈ A, s.f < s.t) → sumB ((sweepL A).filter fun c => decide (c.time ≤ t)) = actN A t := by
  intro A
  induction A with
  | nil => intro _; rfl
  | cons s r ih =>
    intro h
    have hs := h s (by simp)
    have hi := ih fun x hx => h x (by simp [hx])
    have e : sweepL (s :: r) = [⟨s.f, 1⟩, ⟨s.t, -1⟩] ++ sweepL r := rfl
    rw [e, List.filter_append, sumB_append, hi]
    unfold actN
    rw [List.countP_cons]
    by_cases c1 : s.f ≤ t
    · by_cases c2 : s.t ≤ t
      · have q : inS t s = false := by simp [inS]; omega
        simp [c1, c2, q, sumB]
      · have q : inS t s = true := by simp [inS]; omega
        simp [c1, c2, q, sumB]
        omega
    · have c2 : ¬ s.t ≤ t := by omega
      have q : inS t s = false := by simp [inS]; omega
      simp [c1, c2, q, sumB]
def leC (a b : Chg) : Prop := a.time < b.time ∨ (a.time = b.time ∧ a.by_ ≤ b.by_)
theorem filter_pre {t : Int} : ∀ {S : List Chg}, S.Pairwise leC → (S.filter fun c => decide (c.time ≤ t)) <+: S := by
  intro S
  induction S with
  | nil => intro _; exact List.prefix_rfl
  | cons c r ih =>
    intro h
    obtain ⟨h1, h2⟩ := List.pairwise_cons.1 h
    by_cases q : c.time ≤ t
    · rw [List.filter_cons_of_pos (by simpa using q)]
      obtain ⟨z, hz⟩ := ih h2
      exact ⟨z, by rw [List.cons_append, hz]⟩
    · have : ((c :: r).filter fun c => decide (c.time ≤ t)) = [] := by
        rw [List.filter_eq_nil_iff]
        intro x hx
        rcases List.mem_cons.1 hx with rfl | hx
        · simpa using q
        · have := h1 x hx
          unfold leC at this
          simp; omega
      rw [this]; exact List.nil_prefix
/-- The sweep. -/
def scanM (s : Int × Int × Int) (c : Chg) : Int × Int × Int := if s.2.1 < s.1 + c.by_ then (s.1 + c.by_, s.1 + c.by_, c.time) else (s.1 + c.by_, s.2)
theorem scan_inv : ∀ (P : List Chg), let s := P.foldl scanM (0, 0, 0)
    s.1 = sumB P ∧ (∀ Q, Q <+: P → sumB Q ≤ s.2.1) ∧ ((s.2.1 = 0 ∧ s.2.2 = 0) ∨ (0 < s.2.1 ∧ ∃ Q c, Q ++ [c] <+: P ∧ sumB (Q ++ [c]) = s.2.1 ∧ c.time = s.2.2 ∧ ∀ Q', Q' <+: Q → sumB Q' < s.2.1)) := by
  intro P
  generalize hn : P.length = n
  induction n generalizing P with
  | zero =>
    have : P = [] := List.eq_nil_of_length_eq_zero hn
    subst this
    refine ⟨rfl, fun Q hQ => ?_, .inl ⟨rfl, rfl⟩⟩
    rw [List.prefix_nil] at hQ
    subst hQ; exact Int.le_refl _
  | succ n ih =>
    rcases List.eq_nil_or_concat P with rfl | ⟨P0, c, rfl⟩
    · simp at hn
    rw [List.concat_eq_append] at *
    obtain ⟨h1, h2, h3⟩ := ih P0 (by simpa using hn)
    have hpre : ∀ Q, Q <+: P0 ++ [c] → Q <+: P0 ∨ Q = P0 ++ [c] := fun Q hQ => by
      rcases List.prefix_concat_iff.1 (by simpa using hQ) with h | h
      · exact .inr (by simpa using h)
      · exact .inl h
    simp only [List.foldl_append, List.foldl_cons, List.foldl_nil] at *
    generalize P0.foldl scanM (0, 0, 0) = s at *
    have hsum : sumB (P0 ++ [c]) = s.1 + c.by_ := by rw [sumB_append, h1]; simp [sumB]
    unfold scanM
    by_cases q : s.2.1 < s.1 + c.by_
    · rw [if_pos q]
      have h0 : 0 ≤ s.2.1 := h2 [] List.nil_prefix
      refine ⟨hsum.symm, fun Q hQ => ?_, .inr ⟨by simp only; omega, P0, c, List.prefix_rfl, hsum, rfl, fun Q' hQ' => ?_⟩⟩
      · rcases hpre Q hQ with h | rfl
        · have := h2 Q h; simp only; omega
        · rw [hsum]; exact Int.le_refl _
      · have := h2 Q' hQ'; simp only; omega
    · rw [if_neg q]
      refine ⟨hsum.symm, fun Q hQ => ?_, ?_⟩
      · rcases hpre Q hQ with h | rfl
        · exact h2 Q h
        · rw [hsum]; simp only; omega
      · rcases h3 with h3 | ⟨h3, Q, d, h4, h5, h6, h7⟩
        · exact .inl h3
        · exact .inr ⟨h3, Q, d, h4.trans (List.prefix_append _ _), h5, h6, h7⟩
theorem sweep_most {A : List Sp} (hA : ∀ s ∈ A, s.f < s.t) {S : List Chg} (hp : S.Perm (sweepL A)) (hs : S.Pairwise leC) : MostS A (S.foldl scanM (0, 0, 0)).2.1 (S.foldl scanM (0, 0, 0)).2.2 := by
  obtain ⟨_, h2, h3⟩ := scan_inv S
  have hact : ∀ t, (actN A t : Int) = sumB (S.filter fun c => decide (c.time ≤ t)) := fun t => by rw [← sweep_sum hA, sumB_perm (hp.filter _)]
  have hle : ∀ t, (actN A t : Int) ≤ (S.foldl scanM (0, 0, 0)).2.1 := fun t => by rw [hact]; exact h2 _ (filter_pre hs)
  generalize S.foldl scanM (0, 0, 0) = s at *
  rcases h3 with ⟨h3, h4⟩ | ⟨h3, Q, c, ⟨R, hR⟩, h5, h6, h7⟩
  · refine .inl ⟨h3, h4, fun t => ?_⟩
    have := hle t; omega
  · subst hR
    have hc : 0 < c.by_ := by
      have := h7 Q List.prefix_rfl
      rw [sumB_append] at h5
      simp [sumB] at h5
      omega
    obtain ⟨p1, p2, p3⟩ := List.pairwise_append.1 hs
    obtain ⟨p4, _, p5⟩ := List.pairwise_append.1 p1
    refine .inr ⟨h3, ?_, hle, fun t ht => ?_⟩
    · have e1 : ((Q ++ [c]).filter fun d => decide (d.time ≤ s.2.2)) = Q ++ [c] := by
        rw [List.filter_eq_self]
        intro d hd
        rcases List.mem_append.1 hd with hd | hd
        · have := p5 d hd c (by simp)
          unfold leC at this; simp; omega
        · simp at hd; subst hd; simp; omega
      have e2 : ∀ (l : List Chg), (∀ d ∈ l, leC c d) → 0 ≤ sumB (l.filter fun d => decide (d.time ≤ s.2.2)) := by
        intro l
        induction l with
        | nil => intro _; exact Int.le_refl _
        | cons d r ih =>
          intro hl
          have h0 := ih fun x hx => hl x (by simp [hx])
          by_cases q : d.time ≤ s.2.2
          · rw [List.filter_cons_of_pos (by simpa using q)]
            have := hl d (by simp)
            unfold leC at this
            simp only [sumB]; omega
          · rw [List.filter_cons_of_neg (by simpa using q)]; exact h0
      have e3 := e2 R fun d hd => p3 c (by simp) d hd
      have e4 := hact s.2.2
      rw [List.filter_append, e1, sumB_append, h5] at e4
      have := hle s.2.2
      omega
    · rw [hact, List.filter_append, List.filter_append]
      have z1 : ([c].filter fun d => decide (d.time ≤ t)) = [] := by simp; omega
      have z2 : (R.filter fun d => decide (d.time ≤ t)) = [] := by
        rw [List.filter_eq_nil_iff]
        intro d hd
        have := p3 c (by simp) d hd
        unfold leC at this; simp; omega
      rw [z1, z2, List.append_nil, List.append_nil]
      exact h7 _ (filter_pre p4)
/-! The reference looks at the minutes in which something begins. -/
def stepA (A : List Sp) (s : Int × Int) (t : Int) : Int × Int := if s.1 < (actN A t : Int) ∨ ((actN A t : Int) = s.1 ∧ 0 < s.1 ∧ t < s.2) then ((actN A t : Int), t) else s
theorem look_inv {A : List Sp} : ∀ (F G : List Int) (s : Int × Int), ((s.1 = 0 ∧ s.2 = 0 ∧ ∀ t ∈ G, actN A t = 0) ∨ (0 < s.1 ∧ (actN A s.2 : Int) = s.1 ∧ ∀ t ∈ G, (actN A t : Int) ≤ s.1 ∧ ((actN A t : Int) = s.1 → s.2 ≤ t))) →
    let r := F.foldl (stepA A) s
    (r.1 = 0 ∧ r.2 = 0 ∧ ∀ t ∈ G ++ F, actN A t = 0) ∨ (0 < r.1 ∧ (actN A r.2 : Int) = r.1 ∧ ∀ t ∈ G ++ F, (actN A t : Int) ≤ r.1 ∧ ((actN A t : Int) = r.1 → r.2 ≤ t)) := by
  intro F
  induction F with
  | nil => intro G s h; simpa using h
  | cons u F ih =>
    intro G s h
    have := ih (G ++ [u]) (stepA A s u) ?_
    · simpa using this
    unfold stepA
    by_cases q : s.1 < (actN A u : Int) ∨ ((actN A u : Int) = s.1 ∧ 0 < s.1 ∧ u < s.2)
    · rw [if_pos q]
      right
      rcases h with ⟨h1, h2, h3⟩ | ⟨h1, h2, h3⟩
      · refine ⟨by simp only; omega, rfl, fun t ht => ?_⟩
        simp only [List.mem_append, List.mem_singleton] at ht
        rcases ht with ht | rfl
        · have := h3 t ht; simp only; omega
        · exact ⟨Int.le_refl _, fun _ => Int.le_refl _⟩
      · refine ⟨by simp only; omega, rfl, fun t ht => ?_⟩
        simp only [List.mem_append, List.mem_singleton] at ht
        rcases ht with ht | rfl
        · have := h3 t ht; simp only
          refine ⟨by omega, fun e => ?_⟩
          rcases q with q | ⟨q1, q2, q3⟩
          · omega
          · have := this.2 (by omega); omega
        · exact ⟨Int.le_refl _, fun _ => Int.le_refl _⟩
    · rw [if_neg q]
      rcases h with ⟨h1, h2, h3⟩ | ⟨h1, h2, h3⟩
      · refine .inl ⟨h1, h2, fun t ht => ?_⟩
        simp only [List.mem_append, List.mem_singleton] at ht
        rcases ht with ht | rfl
        · exact h3 t ht
        · omega
      · refine .inr ⟨h1, h2, fun t ht => ?_⟩
        simp only [List.mem_append, List.mem_singleton] at ht
        rcases ht with ht | rfl
        · exact h3 t ht
        · refine ⟨by omega, fun e => ?_⟩
          by_cases c : s.2 ≤ t
          · exact c
          · exact absurd (.inr ⟨e, h1, by omega⟩) q
theorem act_last {t : Int} : ∀ (A : List Sp), actN A t = 0 ∨ ∃ s ∈ A, inS t s = true ∧ ∀ z ∈ A, inS t z = true → z.f ≤ s.f := by
  intro A
  induction A with
  | nil => exact .inl rfl
  | cons x r ih =>
    by_cases q : inS t x = true
    · right
      rcases ih with ih | ⟨s, s1, s2, s3⟩
      · refine ⟨x, by simp, q, fun z hz hi => ?_⟩
        rcases List.mem_cons.1 hz with rfl | hz
        · exact Int.le_refl _
        · unfold actN at ih
          rw [List.countP_eq_zero] at ih
          exact absurd hi (ih z hz)
      · by_cases c : x.f ≤ s.f
        · refine ⟨s, by simp [s1], s2, fun z hz hi => ?_⟩
          rcases List.mem_cons.1 hz with rfl | hz
          · exact c
          · exact s3 z hz hi
        · refine ⟨x, by simp, q, fun z hz hi => ?_⟩
          rcases List.mem_cons.1 hz with rfl | hz
          · exact Int.le_refl _
          · have := s3 z hz hi; omega
    · rcases ih with ih | ⟨s, s1, s2, s3⟩
      · left
        unfold actN at *
        rw [List.countP_cons, ih, if_neg q]
      · refine .inr ⟨s, by simp [s1], s2, fun z hz hi => ?_⟩
        rcases List.mem_cons.1 hz with rfl | hz
        · exact absurd hi q
        · exact s3 z hz hi
theorem act_from {A : List Sp} {t : Int} (h : actN A t ≠ 0) : ∃ s ∈ A, s.f ≤ t ∧ actN A t ≤ actN A s.f := by
  rcases act_last (t := t) A with h0 | ⟨s, s1, s2, s3⟩
  · exact absurd h0 h
  · have s2' := s2
    simp [inS] at s2'
    refine ⟨s, s1, s2'.1, List.countP_mono_left fun z hz hi => ?_⟩
    have := s3 z hz hi
    simp [inS] at hi ⊢
    omega
theorem look_most {A : List Sp} {F : List Int} (hF : ∀ s ∈ A, s.f ∈ F) : MostS A (F.foldl (stepA A) (0, 0)).1 (F.foldl (stepA A) (0, 0)).2 := by
  have := look_inv (A := A) F [] (0, 0) (.inl ⟨rfl, rfl, by simp⟩)
  simp only [List.nil_append] at this
  generalize F.foldl (stepA A) (0, 0) = r at *
  rcases this with ⟨h1, h2, h3⟩ | ⟨h1, h2, h3⟩
  · refine .inl ⟨h1, h2, fun t => ?_⟩
    by_cases q : actN A t = 0
    · exact q
    · obtain ⟨s, s1, s2, s3⟩ := act_from q
      have := h3 s.f (hF s s1); omega
  · have hle : ∀ t, (actN A t : Int) ≤ r.1 := fun t => by
      by_cases q : actN A t = 0
      · omega
      · obtain ⟨s, s1, s2, s3⟩ := act_from q
        have := (h3 s.f (hF s s1)).1; omega
    refine .inr ⟨h1, h2, hle, fun t ht => ?_⟩
    by_cases q : actN A t = 0
    · omega
    · obtain ⟨s, s1, s2, s3⟩ := act_from q
      have k := h3 s.f (hF s s1)
      have k1 := k.1
      by_cases e : (actN A s.f : Int) = r.1
      · have := k.2 e; omega
      · omega
end Go.Proofs.YtfbpjlabhckoeaaGreat
