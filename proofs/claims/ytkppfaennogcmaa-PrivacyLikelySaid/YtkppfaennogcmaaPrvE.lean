/- Noise depends on the bits that it takes, and needs all of them (plain words). -/
import Derived.Test.YtkppfaennogcmaaPrvM
namespace Go.Proofs.Ytkppfaennogcmaa
set_option linter.unusedSimpArgs false
set_option linter.unusedVariables false
set_option linter.unnecessarySimpa false
set_option linter.unusedSectionVars false
open Go.RowKit
variable [Glob]
set_option maxRecDepth 100000
theorem coin_spec (d : Int) : ∀ (bs : List Bool) (r : Int), ∃ p, bs = p ++ (coinL d r bs).2.1 ∧ ((coinL d r bs).2.2 = false →
    (∀ y, coinL d r (p ++ y) = ((coinL d r bs).1, y, false)) ∧ ∀ q z, p = q ++ z → z ≠ [] → coinL d r q = (false, [], true)) := by
  intro bs
  induction bs with
  | nil =>
    intro r
    refine ⟨[], rfl, fun h => ?_⟩
    have h0 : r = 0 := by simpa [coinL] using h
    subst h0
    refine ⟨fun y => ?_, fun q z hqz hz => ?_⟩
    · cases y <;> simp [coinL]
    · have := (List.append_eq_nil_iff.1 hqz.symm).2; exact absurd this hz
  | cons b bs ih =>
    intro r
    by_cases h0 : r = 0
    · subst h0
      refine ⟨[], by simp [coinL], fun _ => ⟨fun y => ?_, fun q z hqz hz => ?_⟩⟩
      · cases y <;> simp [coinL]
      · have := (List.append_eq_nil_iff.1 hqz.symm).2; exact absurd this hz
    · by_cases hb : b = decide (d ≤ r * 2)
      · obtain ⟨p, h1, h2⟩ := ih (if d ≤ r * 2 then r * 2 - d else r * 2)
        have e : ∀ x, coinL d r (b :: x) = coinL d (if d ≤ r * 2 then r * 2 - d else r * 2) x := fun x => by simp only [coinL]; rw [if_neg h0, if_pos hb]
        refine ⟨b :: p, by rw [e, List.cons_append, ← h1], fun h => ?_⟩
        rw [e] at h ⊢
        obtain ⟨k1, k2⟩ := h2 h
        refine ⟨fun y => by rw [List.cons_append, e]; exact k1 y, fun q z hqz hz => ?_⟩
        cases q with
        | nil => simp [coinL, h0]
        | cons c q =>
          simp only [List.cons_append, List.cons.injEq] at hqz
          obtain ⟨rfl, hqz⟩ := hqz
          rw [e]; exact k2 q z hqz hz
      · have e : ∀ x, coinL d r (b :: x) = (decide (d ≤ r * 2), x, false) := fun x => by simp only [coinL]; rw [if_neg h0, if_neg hb]
        refine ⟨[b], by rw [e]; rfl, fun _ => ⟨fun y => by rw [List.singleton_append, e, e], fun q z hqz hz => ?_⟩⟩
        cases q with
        | nil => simp [coinL, h0]
        | cons c q =>
          simp only [List.cons_append, List.cons.injEq] at hqz
          have := (List.append_eq_nil_iff.1 hqz.2.symm).2; exact absurd this hz
theorem heads_spec (d num : Int) : ∀ (f : Nat) (bs : List Bool), bs.length < f → ∃ p, bs = p ++ (headsL d num f bs).2.1 ∧ ((headsL d num f bs).2.2 = false →
    ∀ y g, (p ++ y).length < g → headsL d num g (p ++ y) = ((headsL d num f bs).1, y, false)) := by
  intro f
  induction f with
  | zero => intro bs h; omega
  | succ f ih =>
    intro bs hf
    obtain ⟨p, h1, h2⟩ := coin_spec d bs num
    obtain ⟨⟨c, bs1, e⟩, hc⟩ : ∃ x, coinL d num bs = x := ⟨_, rfl⟩
    rw [hc] at h1 h2
    simp only at h1 h2
    simp only [headsL, hc]
    cases c with
    | true =>
      obtain ⟨rfl, hlt⟩ := coinL_true _ _ _ _ hc
      obtain ⟨p2, k1, k2⟩ := ih bs1 (by omega)
      simp only [if_true]
      refine ⟨p ++ p2, by rw [List.append_assoc, ← k1]; exact h1, fun h y g hg => ?_⟩
      have k3 := k2 h
      have e1 := (h2 rfl).1 (p2 ++ y)
      cases g with
      | zero => simp at hg
      | succ g =>
        simp only [headsL]
        rw [List.append_assoc, e1]
        simp only [if_true]
        have hp : p ≠ [] := by
          rintro rfl
          simp only [List.nil_append] at h1
          rw [h1] at hlt; omega
        have hpl : 0 < p.length := List.length_pos_iff.2 hp
        rw [k3 y g (by simp only [List.length_append] at hg ⊢; omega)]
    | false =>
      simp only [Bool.false_eq_true, if_false]
      refine ⟨p, h1, fun h y g hg => ?_⟩
      subst h
      cases g with
      | zero => simp at hg
      | succ g =>
        simp only [headsL]
        rw [(h2 rfl).1 y]
        simp
theorem noise_len (d num : Int) : ∀ (f : Nat) (bs : List Bool), bs.length < f → (noiseL d num f bs).2.2 = false → (noiseL d num f bs).2.1.length < bs.length := by
  intro f
  induction f with
  | zero => intro bs h; omega
  | succ f ih =>
    intro bs hf h
    have hb := headsL_bd (d := d) (num := num) (bs.length + 1) bs
    obtain ⟨⟨N, bs1, e⟩, hh⟩ : ∃ x, headsL d num (bs.length + 1) bs = x := ⟨_, rfl⟩
    rw [hh] at hb
    simp only at hb
    simp only [noiseL, hh] at h ⊢
    cases e with
    | true => simp at h
    | false =>
      cases bs1 with
      | nil => simp at h
      | cons c bs2 =>
        simp only [List.length_cons] at hb
        simp only at h ⊢
        by_cases hc : c = true
        · rw [if_pos hc] at h ⊢
          by_cases hn : 0 < N
          · rw [if_pos hn]; simp only; omega
          · rw [if_neg hn] at h ⊢
            have := ih bs2 (by omega) h; omega
        · rw [if_neg hc]; simp only; omega
/-- What the bits say that were taken. -/
structure Took (d num n : Int) (p : List Bool) (b : Bool) : Prop where
  same : ∀ y g, (p ++ b :: y).length < g → noiseL d num g (p ++ b :: y) = (n, y, false)
  less : ∀ g, p.length < g → (noiseL d num g p).2.2 = true
  turn : n ≠ 0 → ∀ y g, (p ++ (!b) :: y).length < g → noiseL d num g (p ++ (!b) :: y) = (-n, y, false)
  anew : n = 0 → ∀ y g, (p ++ (!b) :: y).length < g → (noiseL d num g (p ++ (!b) :: y)).2.2 = true ∨ (noiseL d num g (p ++ (!b) :: y)).2.1.length < y.length
theorem noise_step {d num : Int} {g : Nat} {ph : List Bool} {N : Nat} {c : Bool} {y : List Bool} (h : ∀ y g, (ph ++ y).length < g → headsL d num g (ph ++ y) = (N, y, false)) :
    noiseL d num (g + 1) (ph ++ c :: y) = if c = true then (if 0 < N then (-(N : Int), y, false) else noiseL d num g y) else ((N : Int), y, false) := by
  simp only [noiseL, h (c :: y) _ (Nat.lt_succ_self _)]
theorem noise_nil {d num : Int} {g : Nat} {ph : List Bool} {N : Nat} (h : ∀ y g, (ph ++ y).length < g → headsL d num g (ph ++ y) = (N, y, false)) : noiseL d num (g + 1) ph = ((N : Int), [], true) := by
  have := h [] (ph.length + 1) (by simp)
  rw [List.append_nil] at this
  simp only [noiseL, this]
theorem noise_took (d num : Int) : ∀ (f : Nat) (bs : List Bool) (n : Int) (rest : List Bool), bs.length < f → noiseL d num f bs = (n, rest, false) → ∃ p b, bs = p ++ b :: rest ∧ Took d num n p b := by
  intro f
  induction f with
  | zero => intro bs n rest h; omega
  | succ f ih =>
    intro bs n rest hf hN
    obtain ⟨ph, h1, h2⟩ := heads_spec d num (bs.length + 1) bs (by omega)
    obtain ⟨⟨N, bs1, e⟩, hh⟩ : ∃ x, headsL d num (bs.length + 1) bs = x := ⟨_, rfl⟩
    rw [hh] at h1 h2
    simp only at h1 h2
    simp only [noiseL, hh] at hN
    cases e with
    | true => simp at hN
    | false =>
      have h3 := h2 rfl
      cases bs1 with
      | nil => simp at hN
      | cons c bs2 =>
        simp only at hN
        -- the round ends here
        have base : ∀ n', n' = (if c = true then -(N : Int) else N) → (c = true → 0 < N) → Took d num n' ph c := by
          intro n' hn' hc
          refine ⟨fun y g hg => ?_, fun g hg => ?_, fun hn0 y g hg => ?_, fun hn0 y g hg => ?_⟩
          · cases g with
            | zero => omega
            | succ g =>
              rw [noise_step h3, hn']
              cases c
              · simp
              · simp [hc rfl]
          · cases g with
            | zero => omega
            | succ g => rw [noise_nil h3]
          · cases g with
            | zero => omega
            | succ g =>
              rw [noise_step h3, hn']
              cases c
              · have : 0 < N := by
                  rcases Nat.eq_zero_or_pos N with h | h
                  · exfalso; apply hn0; rw [hn']; simp [h]
                  · exact h
                simp [this]
              · simp
          · cases g with
            | zero => omega
            | succ g =>
              rw [noise_step h3]
              cases c
              · have h0 : N = 0 := by simpa using hn'.symm.trans hn0
                subst h0
                simp only [Bool.not_false, if_true, Nat.lt_irrefl, if_false]
                cases he : (noiseL d num g y).2.2 with
                | true => exact .inl rfl
                | false => exact .inr (noise_len d num g y (by simp at hg; omega) he)
              · have := hc rfl
                rw [hn'] at hn0; simp at hn0; omega
        by_cases hc : c = true
        · rw [if_pos hc] at hN
          by_cases hn : 0 < N
          · rw [if_pos hn] at hN
            simp only [Prod.mk.injEq, and_true] at hN
            obtain ⟨rfl, rfl⟩ := hN
            exact ⟨ph, c, h1, base _ (by rw [if_pos hc]) fun _ => hn⟩
          · rw [if_neg hn] at hN
            obtain rfl : N = 0 := by omega
            have hl := congrArg List.length h1
            simp only [List.length_append, List.length_cons] at hl
            obtain ⟨p, b, k1, k2⟩ := ih bs2 n rest (by omega) hN
            subst hc
            refine ⟨ph ++ true :: p, b, by rw [h1, k1]; simp, ?_⟩
            have st : ∀ g z, noiseL d num (g + 1) ((ph ++ true :: p) ++ z) = noiseL d num g (p ++ z) := fun g z => by
              rw [List.append_assoc, List.cons_append, noise_step h3]; simp
            refine ⟨fun y g hg => ?_, fun g hg => ?_, fun hn0 y g hg => ?_, fun hn0 y g hg => ?_⟩
            · cases g with
              | zero => omega
              | succ g => rw [st]; exact k2.same y g (by simp at hg ⊢; omega)
            · cases g with
              | zero => omega
              | succ g =>
                have := st g []
                rw [List.append_nil, List.append_nil] at this
                rw [this]; exact k2.less g (by simp at hg ⊢; omega)
            · cases g with
              | zero => omega
              | succ g => rw [st]; exact k2.turn hn0 y g (by simp at hg ⊢; omega)
            · cases g with
              | zero => omega
              | succ g => rw [st]; exact k2.anew hn0 y g (by simp at hg ⊢; omega)
        · rw [if_neg hc] at hN
          simp only [Prod.mk.injEq, and_true] at hN
          obtain ⟨rfl, rfl⟩ := hN
          exact ⟨ph, c, h1, base _ (by rw [if_neg hc]) fun h => absurd h hc⟩
end Go.Proofs.Ytkppfaennogcmaa
