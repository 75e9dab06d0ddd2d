/- Calendars: open minutes, counted (plain words; no program). -/
import Derived.WalkKit
namespace Go.Proofs.YtlnnboegghjdhaaDoor
set_option linter.unusedSimpArgs false
set_option linter.unusedVariables false
set_option linter.unnecessarySimpa false
set_option linter.unusedSectionVars false
structure Sp where
  f : Int
  t : Int
def spV (s : Sp) : Bool := decide (0 ≤ s.f) && decide (s.f < s.t) && decide (s.t ≤ 1099511627776)
def wkV (s : Sp) : Bool := spV s && decide (s.t ≤ 10080)
def calV : Int → List Sp → Bool
  | _, [] => true
  | p, s :: r => wkV s && decide (p < s.f) && calV s.t r
def calOk (l : List Sp) : Bool := decide ((l.length : Int) ≤ 100) && calV (-1) l
def inst (t : Int) : Bool := decide (0 ≤ t) && decide (t ≤ 1099511627776)
def spanB (w : Int) (s : Sp) : Int := if (if w < s.t then w else s.t) - s.f < 0 then 0 else (if w < s.t then w else s.t) - s.f
def befL (w : Int) : List Sp → Int
  | [] => 0
  | s :: r => spanB w s + befL w r
def inS (w : Int) (s : Sp) : Bool := decide (s.f ≤ w) && decide (w < s.t)
def openW (w : Int) (l : List Sp) : Bool := l.any (inS w)
def untL (l : List Sp) (t : Int) : Int := t / 10080 * befL 10080 l + befL (t % 10080) l
theorem calV_cons {p : Int} {s : Sp} {r : List Sp} : calV p (s :: r) = true ↔ 0 ≤ s.f ∧ s.f < s.t ∧ s.t ≤ 10080 ∧ p < s.f ∧ calV s.t r = true := by
  simp only [calV, wkV, spV, Bool.and_eq_true, decide_eq_true_eq]
  constructor
  · rintro ⟨⟨⟨⟨⟨h1, h2⟩, _⟩, h4⟩, h5⟩, h6⟩; exact ⟨h1, h2, h4, h5, h6⟩
  · rintro ⟨h1, h2, h4, h5, h6⟩; exact ⟨⟨⟨⟨⟨h1, h2⟩, by omega⟩, h4⟩, h5⟩, h6⟩
theorem calV_mono {p q : Int} (hpq : q ≤ p) {l : List Sp} (h : calV p l = true) : calV q l = true := by
  cases l with
  | nil => rfl
  | cons s r => rw [calV_cons] at *; exact ⟨h.1, h.2.1, h.2.2.1, by omega, h.2.2.2.2⟩
theorem calV_mem {s : Sp} : ∀ {p : Int} {l : List Sp}, calV p l = true → s ∈ l → 0 ≤ s.f ∧ s.f < s.t ∧ s.t ≤ 10080 ∧ p < s.f := by
  intro p l
  induction l generalizing p with
  | nil => intro _ h; simp at h
  | cons a r ih =>
    intro h hs
    rw [calV_cons] at h
    rcases List.mem_cons.1 hs with rfl | hs
    · exact ⟨h.1, h.2.1, h.2.2.1, h.2.2.2.1⟩
    · have := ih h.2.2.2.2 hs
      exact ⟨this.1, this.2.1, this.2.2.1, by omega⟩
theorem spanB_nn (w : Int) (s : Sp) : 0 ≤ spanB w s := by unfold spanB; (repeat' split) <;> omega
theorem befL_nn (w : Int) (l : List Sp) : 0 ≤ befL w l := by
  induction l with
  | nil => simp [befL]
  | cons s r ih => have := spanB_nn w s; simp only [befL]; omega
theorem befL_zero : ∀ {p : Int} {l : List Sp} {w : Int}, calV p l = true → w ≤ p + 1 → befL w l = 0 := by
  intro p l
  induction l generalizing p with
  | nil => intro w _ _; rfl
  | cons s r ih =>
    intro w h hw
    rw [calV_cons] at h
    have h1 := ih (w := w) h.2.2.2.2 (by omega)
    have h2 : spanB w s = 0 := by unfold spanB; (repeat' split) <;> omega
    simp only [befL]; omega
theorem befL_le : ∀ {p : Int} {l : List Sp} {w : Int}, calV p l = true → p + 1 ≤ w → befL w l ≤ w - (p + 1) := by
  intro p l
  induction l generalizing p with
  | nil => intro w _ _; simp only [befL]; omega
  | cons s r ih =>
    intro w h hw
    rw [calV_cons] at h
    simp only [befL]
    by_cases h1 : s.t + 1 ≤ w
    · have h2 := ih (w := w) h.2.2.2.2 h1
      have h3 : spanB w s ≤ s.t - s.f := by unfold spanB; (repeat' split) <;> omega
      omega
    · have h2 := befL_zero (w := w) h.2.2.2.2 (by omega)
      have h3 : spanB w s ≤ w - (p + 1) := by unfold spanB; (repeat' split) <;> omega
      omega
theorem befL_len (w : Int) (hw : 0 ≤ w) : ∀ (l : List Sp), (∀ s ∈ l, 0 ≤ s.f ∧ s.f < s.t) → befL w l ≤ w * l.length := by
  intro l
  induction l with
  | nil => intro _; simp [befL]
  | cons s r ih =>
    intro h
    have h1 := ih fun q hq => h q (by simp [hq])
    have h2 := h s (by simp)
    have h3 : spanB w s ≤ w := by unfold spanB; (repeat' split) <;> omega
    simp only [befL, List.length_cons]
    have h4 : w * ((r.length + 1 : Nat) : Int) = w * r.length + w := by rw [show ((r.length + 1 : Nat) : Int) = (r.length : Int) + 1 from by omega, Int.mul_add, Int.mul_one]
    omega
theorem openW_none : ∀ {p : Int} {l : List Sp} {w : Int}, calV p l = true → w ≤ p → openW w l = false := by
  intro p l w h hw
  rw [openW, List.any_eq_false]
  intro s hs
  have := calV_mem h hs
  simp [inS]; omega
theorem befL_step : ∀ {p : Int} {l : List Sp} (w : Int), calV p l = true → befL (w + 1) l = befL w l + if openW w l = true then 1 else 0 := by
  intro p l
  induction l generalizing p with
  | nil => intro w _; simp [befL, openW]
  | cons s r ih =>
    intro w h
    rw [calV_cons] at h
    have h1 := ih w h.2.2.2.2
    simp only [befL, openW, List.any_cons]
    by_cases h2 : s.f ≤ w ∧ w < s.t
    · have h3 : openW w r = false := openW_none h.2.2.2.2 (by omega)
      have h4 : spanB (w + 1) s = spanB w s + 1 := by unfold spanB; (repeat' split) <;> omega
      have h5 : inS w s = true := by simp [inS, h2]
      rw [h3] at h1
      simp only [h5, Bool.true_or, if_true]
      simp at h1
      omega
    · have h4 : spanB (w + 1) s = spanB w s := by unfold spanB; (repeat' split) <;> omega
      have h5 : inS w s = false := by simp [inS]; omega
      simp only [h5, Bool.false_or]
      have h6 : befL (w + 1) r = befL w r + if r.any (inS w) = true then 1 else 0 := h1
      rw [h4, h6, Int.add_assoc]
theorem untL_step {l : List Sp} (h : calV (-1) l = true) {t : Int} (_ : 0 ≤ t) : untL l (t + 1) = untL l t + if openW (t % 10080) l = true then 1 else 0 := by
  have hs := befL_step (t % 10080) h
  unfold untL
  by_cases h1 : t % 10080 = 10079
  · have h2 : (t + 1) / 10080 = t / 10080 + 1 := by omega
    have h3 : (t + 1) % 10080 = 0 := by omega
    have h4 : befL 0 l = 0 := befL_zero h (by omega)
    rw [h2, h3, h4, Int.add_mul, Int.one_mul]
    rw [h1] at hs ⊢
    simp only [show (10079 : Int) + 1 = 10080 from rfl] at hs
    omega
  · have h2 : (t + 1) / 10080 = t / 10080 := by omega
    have h3 : (t + 1) % 10080 = t % 10080 + 1 := by omega
    rw [h2, h3]
    omega
theorem untL_add {l : List Sp} (h : calV (-1) l = true) {t : Int} (ht : 0 ≤ t) (k : Nat) : untL l t ≤ untL l (t + k) ∧ untL l (t + k) ≤ untL l t + k := by
  induction k with
  | zero => simp
  | succ k ih =>
    have := untL_step h (t := t + k) (by omega)
    rw [show t + ((k + 1 : Nat) : Int) = t + k + 1 from by omega, this]
    split <;> omega
theorem untL_mono {l : List Sp} (h : calV (-1) l = true) {t u : Int} (ht : 0 ≤ t) (hu : t ≤ u) : untL l t ≤ untL l u ∧ untL l u ≤ untL l t + (u - t) := by
  have := untL_add h ht (u - t).toNat
  rw [show t + ((u - t).toNat : Int) = u from by omega] at this
  omega
theorem untL_zero {l : List Sp} (h : calV (-1) l = true) : untL l 0 = 0 := by
  have h4 : befL 0 l = 0 := befL_zero h (by omega)
  simp [untL, h4]
theorem untL_bd {l : List Sp} (h : calV (-1) l = true) {t : Int} (ht : 0 ≤ t) : 0 ≤ untL l t ∧ untL l t ≤ t := by
  have := untL_mono h (t := 0) (u := t) (by omega) ht
  rw [untL_zero h] at this
  omega
/-- At an open minute the number grows: so an instant behind one is told by its number. -/
theorem untL_uniq {l : List Sp} (h : calV (-1) l = true) {t u : Int} (ht : 0 ≤ t) (hu : 0 ≤ u) (h1 : openW (t % 10080) l = true) (h2 : openW (u % 10080) l = true) (he : untL l (t + 1) = untL l (u + 1)) : t = u := by
  have s1 := untL_step h ht
  have s2 := untL_step h hu
  rw [if_pos h1] at s1
  rw [if_pos h2] at s2
  by_cases c1 : t < u
  · have := untL_mono h (t := t + 1) (u := u) (by omega) (by omega); omega
  · by_cases c2 : u < t
    · have := untL_mono h (t := u + 1) (u := t) (by omega) (by omega); omega
    · omega
theorem untL_weeks {l : List Sp} {t : Int} (k : Int) : untL l (t + k * 10080) = untL l t + k * befL 10080 l := by
  unfold untL
  rw [show (t + k * 10080) / 10080 = t / 10080 + k from by omega, show (t + k * 10080) % 10080 = t % 10080 from by omega, Int.add_mul]
  omega
/-- The end of the open minute with a number, within the week. -/
def findR : List Sp → Int → Option Int
  | [], _ => none
  | s :: r, rest => if rest < s.t - s.f then some (s.f + rest + 1) else findR r (rest - (s.t - s.f))
theorem findR_spec : ∀ {p : Int} {l : List Sp} {rest : Int}, calV p l = true → 0 ≤ rest → rest < befL 10080 l → ∃ v, findR l rest = some v ∧ p + 1 < v ∧ v ≤ 10080 ∧ befL v l = rest + 1 ∧ openW (v - 1) l = true := by
  intro p l
  induction l generalizing p with
  | nil => intro rest _ h1 h2; simp only [befL] at h2; omega
  | cons s r ih =>
    intro rest h h1 h2
    rw [calV_cons] at h
    obtain ⟨c1, c2, c3, c4, c5⟩ := h
    have hs : spanB 10080 s = s.t - s.f := by unfold spanB; (repeat' split) <;> omega
    simp only [befL, hs] at h2
    unfold findR
    by_cases h3 : rest < s.t - s.f
    · rw [if_pos h3]
      refine ⟨_, rfl, by omega, by omega, ?_, ?_⟩
      · have z : befL (s.f + rest + 1) r = 0 := befL_zero c5 (by omega)
        have q : spanB (s.f + rest + 1) s = rest + 1 := by unfold spanB; (repeat' split) <;> omega
        simp only [befL, z, q]; omega
      · simp [openW, inS]; left; omega
    · rw [if_neg h3]
      obtain ⟨v, v1, v2, v3, v4, v5⟩ := ih (rest := rest - (s.t - s.f)) c5 (by omega) (by omega)
      refine ⟨v, v1, by omega, v3, ?_, ?_⟩
      · have q : spanB v s = s.t - s.f := by unfold spanB; (repeat' split) <;> omega
        simp only [befL, v4, q]; omega
      · simp only [openW, List.any_cons, Bool.or_eq_true] at v5 ⊢; exact .inr v5
/-- After: the instant and the number of the error. -/
def aftU (l : List Sp) (t n : Int) : Int := (untL l t + n - 1) / befL 10080 l * 10080 + (findR l ((untL l t + n - 1) % befL 10080 l)).getD 0
def aftOut (l : List Sp) (t n : Int) : Int × Int :=
  if calOk l = true then
    if inst t = true ∧ inst n = true then
      if n = 0 then (t, 0) else if l.length = 0 then (0, 10) else if aftU l t n > 1099511627776 then (0, 6) else (aftU l t n, 0)
    else (0, 2)
  else (0, 1)
theorem befL_pos {l : List Sp} (h : calV (-1) l = true) (hl : l ≠ []) : 0 < befL 10080 l := by
  cases l with
  | nil => exact absurd rfl hl
  | cons s r =>
    rw [calV_cons] at h
    have hs : spanB 10080 s = s.t - s.f := by unfold spanB; (repeat' split) <;> omega
    have := befL_nn 10080 r
    simp only [befL, hs]; omega
theorem aftU_spec {l : List Sp} (h : calV (-1) l = true) (hl : l ≠ []) {t n : Int} (ht : 0 ≤ t) (hn : 1 ≤ n) :
    0 < aftU l t n ∧ untL l (aftU l t n) = untL l t + n ∧ openW ((aftU l t n - 1) % 10080) l = true := by
  have hp := befL_pos h hl
  have h0 := untL_bd h ht
  have hm1 := Int.emod_nonneg (untL l t + n - 1) (show befL 10080 l ≠ 0 by omega)
  have hm2 := Int.emod_lt_of_pos (untL l t + n - 1) hp
  have hd : 0 ≤ (untL l t + n - 1) / befL 10080 l := Int.ediv_nonneg (by omega) (by omega)
  have he := Int.mul_ediv_add_emod (untL l t + n - 1) (befL 10080 l)
  obtain ⟨v, v1, v2, v3, v4, v5⟩ := findR_spec h hm1 hm2
  unfold aftU
  rw [v1]
  simp only [Option.getD_some]
  generalize (untL l t + n - 1) / befL 10080 l = k at *
  generalize (untL l t + n - 1) % befL 10080 l = m at *
  have hkm : befL 10080 l * k = k * befL 10080 l := Int.mul_comm _ _
  refine ⟨by omega, ?_, ?_⟩
  · rw [Int.add_comm, untL_weeks]
    by_cases hv : v = 10080
    · subst hv
      have z : befL 0 l = 0 := befL_zero h (by omega)
      have : untL l 10080 = befL 10080 l := by simp [untL, z]
      rw [this]; omega
    · have : untL l v = befL v l := by unfold untL; rw [show v / 10080 = 0 from by omega, show v % 10080 = v from by omega]; omega
      rw [this]; omega
  · rw [show (k * 10080 + v - 1) % 10080 = v - 1 from by omega]
    exact v5
def workOut (l : List Sp) (s : Sp) : Int × Int := if calOk l = true ∧ spV s = true then (untL l s.t - untL l s.f, 0) else (0, 1)
def openOut (l : List Sp) (t : Int) : Bool × Int := if calOk l = true then (if inst t = true then (openW (t % 10080) l, 0) else (false, 2)) else (false, 1)
theorem calOk_v {l : List Sp} (h : calOk l = true) : l.length ≤ 100 ∧ calV (-1) l = true := by
  simp only [calOk, Bool.and_eq_true, decide_eq_true_eq] at h
  exact ⟨by omega, h.2⟩
theorem inst_iff {t : Int} : inst t = true ↔ 0 ≤ t ∧ t ≤ 1099511627776 := by simp [inst]
theorem spV_iff {s : Sp} : spV s = true ↔ 0 ≤ s.f ∧ s.f < s.t ∧ s.t ≤ 1099511627776 := by simp [spV, and_assoc]
/-- After an instant, n open minutes on: the instant behind the open minute with this number. -/
theorem aftOut_at {l : List Sp} (h : calOk l = true) {a t n : Int} (ha : 0 ≤ a) (hat : a ≤ t) (ht : t + 1 ≤ 1099511627776) (hn : untL l (t + 1) = untL l a + n) (ho : openW (t % 10080) l = true) (h1 : 1 ≤ n) : aftOut l a n = (t + 1, 0) := by
  obtain ⟨hl, hv⟩ := calOk_v h
  have hne : l ≠ [] := fun e => by subst e; simp [openW] at ho
  have hm := untL_mono hv (t := a) (u := t + 1) ha (by omega)
  obtain ⟨p1, p2, p3⟩ := aftU_spec hv hne (t := a) (n := n) ha h1
  have hu : aftU l a n - 1 = t := untL_uniq hv (by omega) (by omega) p3 ho (by rw [Int.sub_add_cancel, p2, hn])
  have hu : aftU l a n = t + 1 := by omega
  have hl0 : ¬ l.length = 0 := by simpa using hne
  unfold aftOut
  rw [if_pos h, if_pos ⟨inst_iff.2 ⟨ha, by omega⟩, inst_iff.2 ⟨by omega, by omega⟩⟩, if_neg (by omega), if_neg hl0, hu, if_neg (by omega)]
/-- How the reference looks for it. -/
def findW (base : Int) : List Sp → Int → Int → Int
  | [], _, u => u
  | s :: r, rest, u => findW base r (rest - (s.t - s.f)) (if 0 < rest ∧ rest ≤ s.t - s.f then base + s.f + rest else u)
theorem findW_done (base : Int) : ∀ {p : Int} (l : List Sp) (rest u : Int), calV p l = true → rest ≤ 0 → findW base l rest u = u := by
  intro p l
  induction l generalizing p with
  | nil => intro rest u _ _; rfl
  | cons s r ih =>
    intro rest u h hr
    rw [calV_cons] at h
    rw [findW, if_neg (by omega)]
    exact ih _ _ h.2.2.2.2 (by omega)
theorem findW_eq (base : Int) : ∀ {p : Int} (l : List Sp) (rest u : Int), calV p l = true → 0 < rest → findW base l rest u = match findR l (rest - 1) with | some v => base + v | none => u := by
  intro p l
  induction l generalizing p with
  | nil => intro rest u _ _; rfl
  | cons s r ih =>
    intro rest u h hr
    rw [calV_cons] at h
    rw [findW, findR]
    by_cases q : rest ≤ s.t - s.f
    · rw [if_pos ⟨hr, q⟩, if_pos (by omega), findW_done base r _ _ h.2.2.2.2 (by omega)]
      simp only; omega
    · rw [if_neg (by omega), if_neg (by omega), ih _ _ h.2.2.2.2 (by omega), show rest - (s.t - s.f) - 1 = rest - 1 - (s.t - s.f) from by omega]
theorem aftU_bounds {l : List Sp} (h : calOk l = true) (hl : l ≠ []) {t n : Int} (ht : inst t = true) (hn : inst n = true) (h1 : ¬ n = 0) :
    0 < befL 10080 l ∧ befL 10080 l ≤ 10080 ∧ 0 ≤ untL l t ∧ untL l t ≤ 1099511627776 ∧ 0 ≤ (untL l t + n - 1) / befL 10080 l ∧ (untL l t + n - 1) / befL 10080 l ≤ 2199023255552 ∧ 0 ≤ (untL l t + n - 1) % befL 10080 l ∧ (untL l t + n - 1) % befL 10080 l < befL 10080 l ∧ (untL l t + n - 1) / befL 10080 l * befL 10080 l + (untL l t + n - 1) % befL 10080 l = untL l t + n - 1 := by
  obtain ⟨_, hv⟩ := calOk_v h
  rw [inst_iff] at ht hn
  have hp := befL_pos hv hl
  have hle := befL_le (w := 10080) hv (by omega)
  have h0 := untL_bd hv ht.1
  have he := Int.mul_ediv_add_emod (untL l t + n - 1) (befL 10080 l)
  have hm1 := Int.emod_nonneg (untL l t + n - 1) (show befL 10080 l ≠ 0 by omega)
  have hm2 := Int.emod_lt_of_pos (untL l t + n - 1) hp
  have hd : 0 ≤ (untL l t + n - 1) / befL 10080 l := Int.ediv_nonneg (by omega) (by omega)
  have hd2 : (untL l t + n - 1) / befL 10080 l ≤ untL l t + n - 1 := Int.ediv_le_self _ (by omega)
  rw [Int.mul_comm] at he
  exact ⟨hp, by omega, h0.1, by omega, hd, by omega, hm1, hm2, he⟩
end Go.Proofs.YtlnnboegghjdhaaDoor
