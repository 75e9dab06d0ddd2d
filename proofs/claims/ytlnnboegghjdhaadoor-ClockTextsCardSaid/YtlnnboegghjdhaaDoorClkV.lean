/- Texts of instants: digits, and what they stand for (plain words). -/
import Derived.WalkKit
import Derived.Test.YtlnnboegghjdhaaDoorClk1
import Derived.Lib.IndexMore
import Derived.Lib.ItoaNum
namespace Go.Proofs.YtlnnboegghjdhaaDoor
set_option linter.unusedSimpArgs false
set_option linter.unusedVariables false
set_option linter.unnecessarySimpa false
set_option linter.unusedSectionVars false
open Go.RowKit
abbrev Bt := List UInt8
def dg (c : UInt8) : Bool := decide ((48 : Int) ≤ c.toNat) && decide ((c.toNat : Int) ≤ 57)
def dv (c : UInt8) : Int := (c.toNat : Int) - 48
theorem dg_iff {c : UInt8} : dg c = true ↔ 48 ≤ c.toNat ∧ c.toNat ≤ 57 := by simp [dg]; omega
theorem dv_bd {c : UInt8} (h : dg c = true) : 0 ≤ dv c ∧ dv c ≤ 9 := by have := dg_iff.1 h; unfold dv; omega
def val : Int → Bt → Int
  | n, [] => n
  | n, c :: r => val (10 * n + dv c) r
theorem val_snoc {c : UInt8} : ∀ (l : Bt) (n : Int), val n (l ++ [c]) = 10 * val n l + dv c := by
  intro l
  induction l with
  | nil => intro n; rfl
  | cons x r ih => intro n; simp only [List.cons_append, val]; exact ih _
def p10 : Nat → Int
  | 0 => 1
  | n + 1 => 10 * p10 n
theorem p10_pos : ∀ n, 1 ≤ p10 n
  | 0 => by decide
  | n + 1 => by have := p10_pos n; simp only [p10]; omega
theorem p10_mono : ∀ n m, n ≤ m → p10 n ≤ p10 m := by
  intro n m h
  induction m with
  | zero => have : n = 0 := by omega
            subst this; exact Int.le_refl _
  | succ m ih =>
    by_cases e : n = m + 1
    · subst e; exact Int.le_refl _
    · have := ih (by omega)
      have := p10_pos m
      simp only [p10]; omega
theorem p10_nine {n : Nat} (h : n ≤ 9) : p10 n ≤ 1000000000 := p10_mono n 9 h
/-- A number read so far, of so many digits. -/
theorem val_bd : ∀ (l : Bt) (n : Int) (i : Nat), l.all dg = true → 0 ≤ n → n < p10 i → 0 ≤ val n l ∧ val n l < p10 (i + l.length) := by
  intro l
  induction l with
  | nil => intro n i _ h0 h1; exact ⟨h0, by simpa [val] using h1⟩
  | cons c r ih =>
    intro n i hl h0 h1
    simp only [List.all_cons, Bool.and_eq_true] at hl
    have := dv_bd hl.1
    have h2 := ih (10 * n + dv c) (i + 1) hl.2 (by omega) (by simp only [p10]; omega)
    simp only [val, List.length_cons]
    rw [show i + (r.length + 1) = i + 1 + r.length by omega]
    exact h2
theorem val0_bd {l : Bt} (h : l.all dg = true) (h9 : l.length ≤ 9) : 0 ≤ val 0 l ∧ val 0 l < 1000000000 := by
  have := val_bd l 0 0 h (by omega) (by simp [p10])
  have h2 := p10_nine h9
  rw [Nat.zero_add] at this
  omega
def digR (l : Bt) (most : Nat) : Int × Bool := if l = [] ∨ most < l.length then (0, false) else if l.all dg = true then (val 0 l, true) else (0, false)
/-- The form of a text. -/
structure Good (l D : Bt) (a b c d : UInt8) : Prop where
  eq : l = D ++ [100, 32, a, b, 58, c, d]
  dig : D.all dg = true
  pos : 1 ≤ D.length
  nine : D.length ≤ 9
  lead : ¬ (1 < D.length ∧ D.head? = some 48)
  a : dg a = true
  b : dg b = true
  c : dg c = true
  d : dg d = true
theorem all_get {l : Bt} (h : l.all dg = true) {i : Nat} (hi : i < l.length) : dg l[i] = true := List.all_eq_true.1 h _ (List.getElem_mem hi)
theorem dg_100 : dg 100 = false := by decide
theorem Good.uniq {l D D' : Bt} {a b c d a' b' c' d' : UInt8} (h : Good l D a b c d) (h' : Good l D' a' b' c' d') : D = D' ∧ a = a' ∧ b = b' ∧ c = c' ∧ d = d' := by
  have e := h.eq.symm.trans h'.eq
  have hl : D.length = D'.length := by have := congrArg List.length e; simp at this; exact this
  have := List.append_inj e hl
  simp at this
  exact ⟨this.1, this.2⟩
def finV (D : Bt) (a b c d : UInt8) : Int × Int :=
  if 23 < 10 * dv a + dv b ∨ 59 < 10 * dv c + dv d then (0, 3)
  else if inst (val 0 D * 1440 + (10 * dv a + dv b) * 60 + (10 * dv c + dv d)) = true then (val 0 D * 1440 + (10 * dv a + dv b) * 60 + (10 * dv c + dv d), 0) else (0, 2)
open Classical in
noncomputable def parseL (l : Bt) : Int × Int := if h : ∃ x : Bt × UInt8 × UInt8 × UInt8 × UInt8, Good l x.1 x.2.1 x.2.2.1 x.2.2.2.1 x.2.2.2.2 then finV h.choose.1 h.choose.2.1 h.choose.2.2.1 h.choose.2.2.2.1 h.choose.2.2.2.2 else (0, 3)
theorem parseL_good {l D : Bt} {a b c d : UInt8} (h : Good l D a b c d) : parseL l = finV D a b c d := by
  have hx : ∃ x : Bt × UInt8 × UInt8 × UInt8 × UInt8, Good l x.1 x.2.1 x.2.2.1 x.2.2.2.1 x.2.2.2.2 := ⟨(D, a, b, c, d), h⟩
  unfold parseL
  rw [dif_pos hx]
  obtain ⟨h1, h2, h3, h4, h5⟩ := hx.choose_spec.uniq h
  rw [h1, h2, h3, h4, h5]
theorem parseL_bad {l : Bt} (h : ∀ D a b c d, ¬ Good l D a b c d) : parseL l = (0, 3) := by
  unfold parseL
  rw [dif_neg]
  rintro ⟨x, hx⟩
  exact h _ _ _ _ _ hx
/-! Cutting at "d ". -/
theorem no_occ {D R : Bt} (hD : D.all dg = true) : ∀ i, i < D.length → Lib.occAt (D ++ R) [100, 32] i = false := fun i hi => by
  unfold Lib.occAt
  rw [List.drop_append_of_le_length (by omega), List.drop_eq_getElem_cons hi]
  have := all_get hD hi
  have hne : ¬ (100 : UInt8) = D[i] := fun e => by rw [← e, dg_100] at this; cases this
  show ((100 : UInt8) == D[i] && _) = false
  rw [beq_eq_false_iff_ne.2 hne]
  rfl
theorem cut_good {D R : Bt} (hD : D.all dg = true) : Lib.cut (D ++ 100 :: 32 :: R) [100, 32] = (D, R, true) := by
  have hocc : Lib.occAt (D ++ 100 :: 32 :: R) [100, 32] D.length = true := by unfold Lib.occAt; rw [List.drop_left]; simp
  have hi : Lib.index (D ++ 100 :: 32 :: R) [100, 32] = D.length := by
    rcases Lib.index_spec (D ++ 100 :: 32 :: R) [100, 32] with ⟨_, h2⟩ | ⟨i, h1, _, h3, h4⟩
    · have := h2 D.length (by simp)
      rw [hocc] at this; cases this
    · rw [h1]
      rcases Nat.lt_trichotomy i D.length with h | h | h
      · rw [no_occ hD i h] at h3; cases h3
      · rw [h]
      · have := h4 D.length h
        rw [hocc] at this; cases this
  unfold Lib.cut
  rw [hi, if_pos (by omega)]
  simp
theorem cut_some {l : Bt} (h : (Lib.cut l [100, 32]).2.2 = true) : l = (Lib.cut l [100, 32]).1 ++ 100 :: 32 :: (Lib.cut l [100, 32]).2.1 := by
  rcases Lib.index_spec l [100, 32] with ⟨h1, _⟩ | ⟨i, h1, h2, h3, _⟩
  · unfold Lib.cut at h
    rw [h1] at h
    simp at h
  · unfold Lib.cut
    rw [h1, if_pos (by omega)]
    simp only [Int.toNat_natCast, List.length_cons, List.length_nil]
    unfold Lib.occAt at h3
    obtain ⟨t, ht⟩ := List.isPrefixOf_iff_prefix.1 h3
    have : l.drop (i + (0 + 1 + 1)) = t := by
      rw [← List.drop_drop, ← ht]; rfl
    rw [this]
    have h5 := List.take_append_drop i l
    rw [← ht] at h5
    exact h5.symm
/-! Numerals. -/
theorem dec_lt {u : Nat} (h : u < 10) : Lib.decDigits u = [UInt8.ofNat (48 + u)] := by rw [Lib.decDigits, dif_pos h]
theorem dec_ge {u : Nat} (h : ¬ u < 10) : Lib.decDigits u = Lib.decDigits (u / 10) ++ [UInt8.ofNat (48 + u % 10)] := by rw [Lib.decDigits, dif_neg h]
def dch (u : Nat) : UInt8 := UInt8.ofNat (48 + u)
theorem dch_nat {u : Nat} (h : u < 10) : (dch u).toNat = 48 + u := by
  unfold dch
  rw [UInt8.toNat_ofNat']
  omega
theorem dch_dg {u : Nat} (h : u < 10) : dg (dch u) = true := by rw [dg_iff, dch_nat h]; omega
theorem dch_dv {u : Nat} (h : u < 10) : dv (dch u) = u := by unfold dv; rw [dch_nat h]; omega
theorem dch_eq {c : UInt8} (h : dg c = true) : dch (dv c).toNat = c := by
  have := dg_iff.1 h
  have h2 := dv_bd h
  apply UInt8.toNat_inj.1
  rw [dch_nat (by omega)]
  unfold dv
  omega
theorem dec_ok : ∀ (u : Nat), (Lib.decDigits u).all dg = true ∧ val 0 (Lib.decDigits u) = u ∧ 1 ≤ (Lib.decDigits u).length ∧ (1 < (Lib.decDigits u).length → (Lib.decDigits u).head? ≠ some 48) ∧ ((Lib.decDigits u).head? = some 48 → u = 0) ∧ ∀ k : Nat, (u : Int) < p10 (k + 1) → (Lib.decDigits u).length ≤ k + 1 := by
  intro u
  induction u using Nat.strongRecOn with
  | ind u ih =>
    by_cases h : u < 10
    · have e : Lib.decDigits u = [dch u] := dec_lt h
      rw [e]
      refine ⟨by simp [dch_dg h], by simp [val, dch_dv h], by simp, by simp, fun hh => ?_, fun k _ => by simp⟩
      simp at hh
      have := congrArg UInt8.toNat hh
      rw [dch_nat h] at this
      simp at this
      omega
    · have e : Lib.decDigits u = Lib.decDigits (u / 10) ++ [dch (u % 10)] := dec_ge h
      obtain ⟨h1, h2, h3, h4, h5, h6⟩ := ih (u / 10) (by omega)
      have hm : u % 10 < 10 := Nat.mod_lt _ (by omega)
      have hne : Lib.decDigits (u / 10) ≠ [] := fun q => by rw [q] at h3; simp at h3
      rw [e]
      have hh : (Lib.decDigits (u / 10) ++ [dch (u % 10)]).head? = (Lib.decDigits (u / 10)).head? := by
        cases hq : Lib.decDigits (u / 10) with
        | nil => exact absurd hq hne
        | cons x r => rfl
      refine ⟨by simp [h1, dch_dg hm], ?_, by simp, fun _ => ?_, fun q => ?_, fun k hk => ?_⟩
      · rw [val_snoc, h2, dch_dv hm]; omega
      · rw [hh]; intro q; have := h5 q; omega
      · rw [hh] at q; have := h5 q; omega
      · cases k with
        | zero => simp only [p10] at hk; omega
        | succ k =>
          have := h6 k (by simp only [p10] at hk ⊢; omega)
          simp; omega
/-- Digits without a zero ahead are the numeral of what they stand for. -/
theorem dec_val : ∀ (n : Nat) (D : Bt), D.length = n + 1 → D.all dg = true → ¬ (1 < D.length ∧ D.head? = some 48) → Lib.decDigits (val 0 D).toNat = D := by
  intro n
  induction n with
  | zero =>
    intro D hl hd _
    match D, hl with
    | [c], _ =>
      simp at hd
      have := dv_bd hd
      have e : val 0 [c] = dv c := by simp [val]
      rw [e, dec_lt (by omega)]
      exact congrArg (fun x => [x]) (dch_eq hd)
  | succ n ih =>
    intro D hl hd hh
    obtain ⟨E, c, rfl⟩ : ∃ E c, D = E ++ [c] := ⟨D.dropLast, D.getLast (fun q => by rw [q] at hl; simp at hl), (List.dropLast_concat_getLast _).symm⟩
    simp only [List.all_append, List.all_cons, List.all_nil, Bool.and_true, Bool.and_eq_true] at hd
    simp at hl
    have hE : E ≠ [] := fun q => by rw [q] at hl; simp at hl
    have hhd : (E ++ [c]).head? = E.head? := by cases E with | nil => exact absurd rfl hE | cons x r => rfl
    have hh2 : ¬ E.head? = some 48 := fun q => hh ⟨by simp; omega, by rw [hhd]; exact q⟩
    have h1 := ih E (by omega) hd.1 fun q => hh2 q.2
    have h2 := dv_bd hd.2
    have h3 := val_bd E 0 0 hd.1 (by omega) (by simp [p10])
    have h4 : 1 ≤ val 0 E := by
      apply Decidable.byContradiction
      intro q
      have : (val 0 E).toNat = 0 := by omega
      rw [this, dec_lt (by omega)] at h1
      rw [← h1] at hh2
      exact hh2 rfl
    have e : val 0 (E ++ [c]) = 10 * val 0 E + dv c := val_snoc _ _
    rw [e, dec_ge (by omega)]
    have e1 : (10 * val 0 E + dv c).toNat / 10 = (val 0 E).toNat := by omega
    have e2 : (10 * val 0 E + dv c).toNat % 10 = (dv c).toNat := by omega
    rw [e1, e2, h1]
    exact congrArg (fun x => E ++ [x]) (dch_eq hd.2)
/-- The text of an instant. -/
def twoL (n : Int) : Bt := [dch (n / 10).toNat, dch (n % 10).toNat]
def textL (t : Int) : Bt := Lib.decDigits (t / 1440).toNat ++ ([100, 32] ++ (twoL (t % 1440 / 60) ++ ([58] ++ twoL (t % 60))))
theorem text_good {t : Int} (h : inst t = true) : Good (textL t) (Lib.decDigits (t / 1440).toNat) (dch (t % 1440 / 60 / 10).toNat) (dch (t % 1440 / 60 % 10).toNat) (dch (t % 60 / 10).toNat) (dch (t % 60 % 10).toNat) := by
  simp only [inst, Bool.and_eq_true, decide_eq_true_eq] at h
  obtain ⟨h1, h2, h3, h4, h5, h6⟩ := dec_ok (t / 1440).toNat
  refine ⟨rfl, h1, h3, h6 8 ?_, fun q => h4 q.1 q.2, dch_dg (by omega), dch_dg (by omega), dch_dg (by omega), dch_dg (by omega)⟩
  have : p10 9 = 1000000000 := by decide
  rw [this]; omega
theorem parse_text {t : Int} (h : inst t = true) : parseL (textL t) = (t, 0) := by
  rw [parseL_good (text_good h)]
  have h' := h
  simp only [inst, Bool.and_eq_true, decide_eq_true_eq] at h'
  obtain ⟨_, h2, _⟩ := dec_ok (t / 1440).toNat
  unfold finV
  rw [h2, dch_dv (by omega), dch_dv (by omega), dch_dv (by omega), dch_dv (by omega), if_neg (by omega)]
  have e : ((t / 1440).toNat : Int) * 1440 + (10 * ((t % 1440 / 60 / 10).toNat : Int) + ((t % 1440 / 60 % 10).toNat : Int)) * 60 + (10 * ((t % 60 / 10).toNat : Int) + ((t % 60 % 10).toNat : Int)) = t := by omega
  rw [e, if_pos h]
theorem text_parse {l : Bt} {t : Int} (h : parseL l = (t, 0)) : inst t = true ∧ textL t = l := by
  by_cases hg : ∃ D a b c d, Good l D a b c d
  · obtain ⟨D, a, b, c, d, hg⟩ := hg
    rw [parseL_good hg] at h
    unfold finV at h
    split at h
    · simp at h
    · split at h
      · rename_i h1 h2
        simp only [Prod.mk.injEq, and_true] at h
        rw [h] at h2
        refine ⟨h2, ?_⟩
        have ba := dv_bd hg.a
        have bb := dv_bd hg.b
        have bc := dv_bd hg.c
        have bd := dv_bd hg.d
        have bv := val0_bd hg.dig hg.nine
        have e1 : t / 1440 = val 0 D := by omega
        have e2 : t % 1440 / 60 / 10 = dv a := by omega
        have e3 : t % 1440 / 60 % 10 = dv b := by omega
        have e4 : t % 60 / 10 = dv c := by omega
        have e5 : t % 60 % 10 = dv d := by omega
        unfold textL twoL
        rw [e1, e2, e3, e4, e5, dec_val (D.length - 1) D (by have := hg.pos; omega) hg.dig hg.lead, dch_eq hg.a, dch_eq hg.b, dch_eq hg.c, dch_eq hg.d]
        exact hg.eq.symm
      · simp at h
  · rw [parseL_bad fun D a b c d q => hg ⟨D, a, b, c, d, q⟩] at h
    simp at h
end Go.Proofs.YtlnnboegghjdhaaDoor
