/- Unions of spans (plain words; no program). -/
import Derived.Test.YtfbpjlabhckoeaaGreatClk6
namespace Go.Proofs.YtfbpjlabhckoeaaGreat
set_option linter.unusedSimpArgs false
set_option linter.unusedVariables false
set_option linter.unnecessarySimpa false
set_option linter.unusedSectionVars false
open Go.RowKit
/-- Spans one behind the other that do not touch. -/
def gapV : Int → List Sp → Bool
  | _, [] => true
  | p, s :: r => decide (p < s.f) && decide (s.f < s.t) && gapV s.t r
theorem gapV_cons {p : Int} {s : Sp} {r : List Sp} : gapV p (s :: r) = true ↔ p < s.f ∧ s.f < s.t ∧ gapV s.t r = true := by
  simp only [gapV, Bool.and_eq_true, decide_eq_true_eq, and_assoc]
theorem gapV_mono {p q : Int} (hpq : q ≤ p) {l : List Sp} (h : gapV p l = true) : gapV q l = true := by
  cases l with
  | nil => rfl
  | cons s r => rw [gapV_cons] at *; exact ⟨by omega, h.2⟩
theorem gapV_mem {s : Sp} : ∀ {p : Int} {l : List Sp}, gapV p l = true → s ∈ l → p < s.f ∧ s.f < s.t := by
  intro p l
  induction l generalizing p with
  | nil => intro _ h; simp at h
  | cons a r ih =>
    intro h hs
    rw [gapV_cons] at h
    rcases List.mem_cons.1 hs with rfl | hs
    · exact ⟨h.1, h.2.1⟩
    · have := ih h.2.2 hs
      exact ⟨by omega, this.2⟩
theorem gapV_none : ∀ {p : Int} {l : List Sp} {w : Int}, gapV p l = true → w ≤ p → openW w l = false := by
  intro p l w h hw
  rw [openW, List.any_eq_false]
  intro s hs
  have := gapV_mem h hs
  simp [inS]; omega
theorem gapV_append {p : Int} {l l' : List Sp} : gapV p (l ++ l') = true ↔ gapV p l = true ∧ gapV (endT p l) l' = true := by
  induction l generalizing p with
  | nil => simp [gapV, endT]
  | cons a r ih => rw [List.cons_append, gapV_cons, gapV_cons, ih, endT, and_assoc, and_assoc]
theorem gapV_one {p : Int} {s : Sp} : gapV p [s] = true ↔ p < s.f ∧ s.f < s.t := by rw [gapV_cons]; simp [gapV]
/-- Two such lists with the same minutes are the same. -/
theorem gap_uniq : ∀ {p q : Int} {l l' : List Sp}, gapV p l = true → gapV q l' = true → (∀ w, openW w l = openW w l') → l = l' := by
  intro p q l
  induction l generalizing p q with
  | nil =>
    intro l' _ h2 h
    cases l' with
    | nil => rfl
    | cons s r =>
      rw [gapV_cons] at h2
      have := h s.f
      rw [openW_cons] at this
      have hin : inS s.f s = true := by simp [inS]; omega
      rw [hin] at this
      simp [openW] at this
  | cons s r ih =>
    intro l' h1 h2 h
    cases l' with
    | nil =>
      rw [gapV_cons] at h1
      have := h s.f
      rw [openW_cons] at this
      have hin : inS s.f s = true := by simp [inS]; omega
      rw [hin] at this
      simp [openW] at this
    | cons s' r' =>
      rw [gapV_cons] at h1 h2
      obtain ⟨a4, a2, a5⟩ := h1
      obtain ⟨b4, b2, b5⟩ := h2
      have n1 : ∀ w, w ≤ s.t → openW w r = false := fun w hw => gapV_none a5 hw
      have n2 : ∀ w, w ≤ s'.t → openW w r' = false := fun w hw => gapV_none b5 hw
      have e1 : s.f = s'.f := by
        have q1 := h s.f
        have q2 := h s'.f
        rw [openW_cons, openW_cons] at q1 q2
        have i1 : inS s.f s = true := by simp [inS]; omega
        have i2 : inS s'.f s' = true := by simp [inS]; omega
        rw [i1, Bool.true_or] at q1
        rw [i2, Bool.true_or] at q2
        by_cases c1 : s.f < s'.f
        · rw [n2 s.f (by omega)] at q1
          have : inS s.f s' = false := by simp [inS]; omega
          rw [this] at q1; simp at q1
        · by_cases c2 : s'.f < s.f
          · rw [n1 s'.f (by omega)] at q2
            have : inS s'.f s = false := by simp [inS]; omega
            rw [this] at q2; simp at q2
          · omega
      have e2 : s.t = s'.t := by
        have q1 := h s.t
        have q2 := h s'.t
        rw [openW_cons, openW_cons] at q1 q2
        by_cases c1 : s.t < s'.t
        · rw [n1 s.t (by omega)] at q1
          have i1 : inS s.t s = false := by simp [inS]
          have i2 : inS s.t s' = true := by simp [inS]; omega
          rw [i1, i2] at q1; simp at q1
        · by_cases c2 : s'.t < s.t
          · rw [n2 s'.t (by omega)] at q2
            have i1 : inS s'.t s' = false := by simp [inS]
            have i2 : inS s'.t s = true := by simp [inS]; omega
            rw [i1, i2] at q2; simp at q2
          · omega
      have e3 : s = s' := by cases s; cases s'; simp at e1 e2; simp [e1, e2]
      subst e3
      congr 1
      refine ih a5 b5 fun w => ?_
      by_cases hw : w ≤ s.t
      · rw [n1 w hw, n2 w hw]
      · have := h w
        rw [openW_cons, openW_cons] at this
        have hi : inS w s = false := by simp [inS]; omega
        rw [hi] at this
        simpa using this
/-! Merging of sorted spans. -/
theorem mrg_gap : ∀ (l acc : List Sp), l.Pairwise (fun a b => a.f ≤ b.f) → (∀ s ∈ l, 0 ≤ s.f ∧ s.f < s.t) → gapV (-1) acc = true → (∀ a ∈ acc, ∀ s ∈ l, a.f ≤ s.f) →
    gapV (-1) (l.foldl mrg acc) = true ∧ ∀ w, openW w (l.foldl mrg acc) = (openW w acc || l.any (inS w)) := by
  intro l
  induction l with
  | nil => intro acc _ _ h _; exact ⟨h, fun w => by simp⟩
  | cons s r ih =>
    intro acc hp hv hc hf
    obtain ⟨p1, p2⟩ := List.pairwise_cons.1 hp
    have hs := hv s (by simp)
    have key : gapV (-1) (mrg acc s) = true ∧ (∀ w, openW w (mrg acc s) = (openW w acc || inS w s)) ∧ ∀ a ∈ mrg acc s, a.f ≤ s.f := by
      rcases List.eq_nil_or_concat acc with rfl | ⟨a0, q, rfl⟩
      · refine ⟨by show gapV (-1) [s] = true; rw [gapV_one]; omega, fun w => by show openW w [s] = _; rw [openW_one]; simp [openW], fun a ha => ?_⟩
        have ha : a ∈ [s] := ha
        simp at ha; subst ha; exact Int.le_refl _
      · rw [List.concat_eq_append] at *
        rw [gapV_append, gapV_one] at hc
        have hq := hf q (by simp) s (by simp)
        by_cases ht : s.f ≤ q.t
        · have hr : mrg (a0 ++ [q]) s = a0 ++ [⟨q.f, if q.t < s.t then s.t else q.t⟩] := by
            rw [mrg, last_snoc]
            simp only
            rw [if_pos ht, set_snoc]
          rw [hr]
          refine ⟨?_, fun w => ?_, fun a ha => ?_⟩
          · rw [gapV_append, gapV_one]
            exact ⟨hc.1, by simp only; split <;> omega⟩
          · rw [openW_append, openW_append, openW_one, openW_one, Bool.or_assoc]
            congr 1
            rw [Bool.eq_iff_iff]
            simp only [inS, Bool.and_eq_true, Bool.or_eq_true, decide_eq_true_eq]
            split <;> omega
          · simp only [List.mem_append, List.mem_singleton] at ha
            rcases ha with ha | rfl
            · exact hf a (by simp [ha]) s (by simp)
            · exact hq
        · have hr : mrg (a0 ++ [q]) s = a0 ++ [q] ++ [s] := by
            rw [mrg, last_snoc]
            simp only
            rw [if_neg ht]
          rw [hr]
          refine ⟨?_, fun w => ?_, fun a ha => ?_⟩
          · rw [gapV_append, gapV_one, endT_snoc, gapV_append, gapV_one]
            exact ⟨hc, by omega⟩
          · rw [openW_append, openW_one]
          · simp only [List.mem_append, List.mem_singleton] at ha
            rcases ha with ha | rfl
            · exact hf a (by simpa using ha) s (by simp)
            · exact Int.le_refl _
    obtain ⟨k1, k2, k3⟩ := key
    obtain ⟨i1, i2⟩ := ih (mrg acc s) p2 (fun x hx => hv x (by simp [hx])) k1 fun a ha x hx => Int.le_trans (k3 a ha) (p1 x hx)
    exact ⟨i1, fun w => by rw [List.foldl_cons, i2 w, k2 w, List.any_cons, Bool.or_assoc]⟩
/-! The reference's way: one span more. -/
def joinS (x y : Sp) : Sp := ⟨if x.f < y.f then x.f else y.f, if x.t < y.t then y.t else x.t⟩
def insU : Sp → List Sp → List Sp
  | x, [] => [x]
  | x, y :: r => if y.t < x.f then y :: insU x r else if x.t < y.f then x :: y :: r else insU (joinS x y) r
def unionL (l : List Sp) : List Sp := l.foldl (fun out x => insU x out) []
theorem insU_spec : ∀ {p : Int} {x : Sp} {out : List Sp}, gapV p out = true → p < x.f → x.f < x.t →
    gapV p (insU x out) = true ∧ ∀ w, openW w (insU x out) = (openW w out || inS w x) := by
  intro p x out
  induction out generalizing p x with
  | nil => intro _ h1 h2; exact ⟨by rw [insU, gapV_one]; exact ⟨h1, h2⟩, fun w => by rw [insU, openW_one]; simp [openW]⟩
  | cons y r ih =>
    intro h h1 h2
    rw [gapV_cons] at h
    obtain ⟨c1, c2, c3⟩ := h
    rw [insU]
    by_cases q1 : y.t < x.f
    · rw [if_pos q1]
      obtain ⟨i1, i2⟩ := ih c3 q1 h2
      refine ⟨by rw [gapV_cons]; exact ⟨c1, c2, i1⟩, fun w => ?_⟩
      rw [openW_cons, openW_cons, i2, Bool.or_assoc]
    · rw [if_neg q1]
      by_cases q2 : x.t < y.f
      · rw [if_pos q2]
        refine ⟨by rw [gapV_cons, gapV_cons]; exact ⟨h1, h2, q2, c2, c3⟩, fun w => ?_⟩
        rw [openW_cons, Bool.or_comm]
      · rw [if_neg q2]
        have hj1 : p < (joinS x y).f := by simp only [joinS]; split <;> omega
        have hj2 : (joinS x y).f < (joinS x y).t := by simp only [joinS]; (repeat' split) <;> omega
        obtain ⟨i1, i2⟩ := ih (gapV_mono (q := p) (by omega) c3) hj1 hj2
        refine ⟨i1, fun w => ?_⟩
        rw [i2, openW_cons]
        have : inS w (joinS x y) = (inS w y || inS w x) := by
          rw [Bool.eq_iff_iff]
          clear hj1 hj2 i1 i2 ih
          by_cases k1 : x.f < y.f <;> by_cases k2 : x.t < y.t <;> simp only [joinS, k1, k2, if_true, if_false, inS, Bool.and_eq_true, Bool.or_eq_true, decide_eq_true_eq] <;> omega
        rw [this]
        cases inS w y <;> cases inS w x <;> cases openW w r <;> rfl
theorem union_spec : ∀ (l out : List Sp), gapV (-1) out = true → (∀ s ∈ l, 0 ≤ s.f ∧ s.f < s.t) →
    gapV (-1) (l.foldl (fun out x => insU x out) out) = true ∧ ∀ w, openW w (l.foldl (fun out x => insU x out) out) = (openW w out || l.any (inS w)) := by
  intro l
  induction l with
  | nil => intro out h _; exact ⟨h, fun w => by simp⟩
  | cons s r ih =>
    intro out h hv
    have hs := hv s (by simp)
    obtain ⟨k1, k2⟩ := insU_spec (p := -1) (x := s) h (by omega) hs.2
    obtain ⟨i1, i2⟩ := ih (insU s out) k1 fun x hx => hv x (by simp [hx])
    exact ⟨i1, fun w => by rw [List.foldl_cons, i2 w, k2 w, List.any_cons, Bool.or_assoc]⟩
theorem unionL_spec {l : List Sp} (h : ∀ s ∈ l, 0 ≤ s.f ∧ s.f < s.t) : gapV (-1) (unionL l) = true ∧ ∀ w, openW w (unionL l) = openW w l := by
  obtain ⟨h1, h2⟩ := union_spec l [] rfl h
  exact ⟨h1, fun w => by rw [unionL, h2]; rfl⟩
theorem openW_perm {w : Int} {a b : List Sp} (h : a.Perm b) : openW w a = openW w b := by
  rw [openW, openW, Bool.eq_iff_iff, List.any_eq_true, List.any_eq_true]
  exact ⟨fun ⟨x, h1, h2⟩ => ⟨x, h.mem_iff.1 h1, h2⟩, fun ⟨x, h1, h2⟩ => ⟨x, h.mem_iff.2 h1, h2⟩⟩
/-- What merging leaves of the sorted spans is the union. -/
theorem mrg_union {l l' : List Sp} (hp : l'.Perm l) (hs : l'.Pairwise (fun a b => a.f ≤ b.f)) (h : ∀ s ∈ l, 0 ≤ s.f ∧ s.f < s.t) : l'.foldl mrg [] = unionL l := by
  obtain ⟨h1, h2⟩ := mrg_gap l' [] hs (fun s hm => h s (hp.mem_iff.1 hm)) rfl (by simp)
  obtain ⟨h3, h4⟩ := unionL_spec h
  refine gap_uniq h1 h3 fun w => ?_
  rw [h2, h4, ← openW_perm hp]
  rfl
theorem union_perm {l l' : List Sp} (hp : l'.Perm l) (h : ∀ s ∈ l, 0 ≤ s.f ∧ s.f < s.t) : unionL l' = unionL l := by
  obtain ⟨h1, h2⟩ := unionL_spec (l := l') fun s hm => h s (hp.mem_iff.1 hm)
  obtain ⟨h3, h4⟩ := unionL_spec h
  exact gap_uniq h1 h3 fun w => by rw [h2, h4, openW_perm hp]
theorem union_again {l : List Sp} (h : ∀ s ∈ l, 0 ≤ s.f ∧ s.f < s.t) : unionL (unionL l) = unionL l := by
  obtain ⟨h3, h4⟩ := unionL_spec h
  obtain ⟨h1, h2⟩ := unionL_spec (l := unionL l) fun s hm => by have := gapV_mem h3 hm; omega
  exact gap_uniq h1 h3 h2
/-! Ends, lengths, minutes of the union. -/
theorem insU_end {M : Int} : ∀ {x : Sp} {out : List Sp}, x.t ≤ M → (∀ s ∈ out, s.t ≤ M) → ∀ s ∈ insU x out, s.t ≤ M := by
  intro x out
  induction out generalizing x with
  | nil => intro hx _ s hs; simp [insU] at hs; subst hs; exact hx
  | cons y r ih =>
    intro hx h s hs
    have hy := h y (by simp)
    have hr : ∀ s ∈ r, s.t ≤ M := fun s hs => h s (by simp [hs])
    rw [insU] at hs
    split at hs
    · rcases List.mem_cons.1 hs with rfl | hs
      · exact hy
      · exact ih hx hr s hs
    · split at hs
      · rcases List.mem_cons.1 hs with rfl | hs
        · exact hx
        · exact h s hs
      · exact ih (by simp only [joinS]; split <;> omega) hr s hs
theorem union_end {M : Int} : ∀ (l out : List Sp), (∀ s ∈ l, s.t ≤ M) → (∀ s ∈ out, s.t ≤ M) → ∀ s ∈ l.foldl (fun out x => insU x out) out, s.t ≤ M := by
  intro l
  induction l with
  | nil => intro out _ h; exact h
  | cons x r ih => intro out h1 h2; exact ih (insU x out) (fun s hs => h1 s (by simp [hs])) (insU_end (h1 x (by simp)) h2)
theorem insU_len : ∀ {x : Sp} {out : List Sp}, (insU x out).length ≤ out.length + 1 := by
  intro x out
  induction out generalizing x with
  | nil => simp [insU]
  | cons y r ih =>
    rw [insU]
    split
    · have := ih (x := x); simp; omega
    · split
      · simp
      · have := ih (x := joinS x y); simp; omega
theorem union_len : ∀ (l out : List Sp), (l.foldl (fun out x => insU x out) out).length ≤ out.length + l.length := by
  intro l
  induction l with
  | nil => intro out; simp
  | cons x r ih => intro out; have h1 := ih (insU x out); have h2 := insU_len (x := x) (out := out); simp only [List.foldl_cons, List.length_cons]; omega
theorem unionL_len {l : List Sp} : (unionL l).length ≤ l.length := by have := union_len l []; simpa [unionL] using this
def totL : List Sp → Int
  | [] => 0
  | s :: r => s.t - s.f + totL r
theorem totL_bd {M : Int} : ∀ {p : Int} {l : List Sp}, gapV p l = true → (∀ s ∈ l, s.t ≤ M) → p ≤ M → 0 ≤ totL l ∧ totL l ≤ M - p := by
  intro p l
  induction l generalizing p with
  | nil => intro _ _ h; simp [totL]; omega
  | cons s r ih =>
    intro h hM hp
    rw [gapV_cons] at h
    have h1 := hM s (by simp)
    have := ih h.2.2 (fun s hs => hM s (by simp [hs])) h1
    simp only [totL]; omega
theorem totL_nn : ∀ {p : Int} {l : List Sp}, gapV p l = true → 0 ≤ totL l := by
  intro p l
  induction l generalizing p with
  | nil => intro _; simp [totL]
  | cons s r ih =>
    intro h
    rw [gapV_cons] at h
    have := ih h.2.2
    simp only [totL]; omega
theorem totL_mem {s : Sp} : ∀ {p : Int} {l : List Sp}, gapV p l = true → s ∈ l → s.t - s.f ≤ totL l := by
  intro p l
  induction l generalizing p with
  | nil => intro _ h; simp at h
  | cons a r ih =>
    intro h hs
    rw [gapV_cons] at h
    have h0 := totL_nn h.2.2
    simp only [totL]
    rcases List.mem_cons.1 hs with rfl | hs
    · omega
    · have := ih h.2.2 hs; omega
theorem insU_tot : ∀ {p : Int} {x : Sp} {out : List Sp}, gapV p out = true → x.f < x.t → totL (insU x out) ≤ totL out + (x.t - x.f) := by
  intro p x out
  induction out generalizing p x with
  | nil => intro _ _; simp [insU, totL]
  | cons y r ih =>
    intro h h2
    rw [gapV_cons] at h
    obtain ⟨c1, c2, c3⟩ := h
    rw [insU]
    split
    · have := ih (x := x) c3 h2; simp only [totL]; omega
    · split
      · simp only [totL]; omega
      · have hj2 : (joinS x y).f < (joinS x y).t := by simp only [joinS]; (repeat' split) <;> omega
        have := ih (x := joinS x y) c3 hj2
        have hj : (joinS x y).t - (joinS x y).f ≤ y.t - y.f + (x.t - x.f) := by simp only [joinS]; (repeat' split) <;> omega
        simp only [totL]; omega
theorem union_tot : ∀ (l out : List Sp), gapV (-1) out = true → (∀ s ∈ l, 0 ≤ s.f ∧ s.f < s.t) → totL (l.foldl (fun out x => insU x out) out) ≤ totL out + totL l := by
  intro l
  induction l with
  | nil => intro out _ _; simp [totL]
  | cons x r ih =>
    intro out h hv
    have hx := hv x (by simp)
    have h1 := insU_tot (x := x) h hx.2
    have h2 := ih (insU x out) (insU_spec (p := -1) h (by omega) hx.2).1 fun s hs => hv s (by simp [hs])
    simp only [List.foldl_cons, totL]; omega
/-- A span all of whose minutes are there lies in one of them. -/
theorem gap_in {f t : Int} (hft : f < t) : ∀ {p : Int} {l : List Sp}, gapV p l = true → (∀ w, f ≤ w → w < t → openW w l = true) → ∃ y ∈ l, y.f ≤ f ∧ t ≤ y.t := by
  intro p l
  induction l generalizing p with
  | nil => intro _ h; have := h f (Int.le_refl _) hft; simp [openW] at this
  | cons y r ih =>
    intro h ho
    rw [gapV_cons] at h
    obtain ⟨c1, c2, c3⟩ := h
    by_cases q : inS f y = true
    · simp [inS] at q
      by_cases q2 : t ≤ y.t
      · exact ⟨y, by simp, q.1, q2⟩
      · have := ho y.t (by omega) (by omega)
        rw [openW_cons, gapV_none c3 (Int.le_refl _)] at this
        simp [inS] at this
    · have h1 := ho f (Int.le_refl _) hft
      rw [openW_cons] at h1
      have q : inS f y = false := by simpa using q
      rw [q, Bool.false_or] at h1
      have h2 : y.t < f := by
        by_cases c : f ≤ y.t
        · rw [gapV_none c3 c] at h1; cases h1
        · omega
      obtain ⟨z, z1, z2⟩ := ih c3 fun w w1 w2 => by
        have := ho w w1 w2
        rw [openW_cons] at this
        have e : inS w y = false := by simp [inS]; omega
        rw [e, Bool.false_or] at this
        exact this
      exact ⟨z, by simp [z1], z2⟩
theorem union_long {l : List Sp} (h : ∀ s ∈ l, 0 ≤ s.f ∧ s.f < s.t) {s : Sp} (hs : s ∈ l) : s.t - s.f ≤ totL (unionL l) := by
  obtain ⟨h3, h4⟩ := unionL_spec h
  obtain ⟨y, y1, y2, y3⟩ := gap_in (h s hs).2 h3 fun w w1 w2 => by
    rw [h4, openW, List.any_eq_true]
    exact ⟨s, hs, by simp [inS]; omega⟩
  have := totL_mem h3 y1
  omega
end Go.Proofs.YtfbpjlabhckoeaaGreat
