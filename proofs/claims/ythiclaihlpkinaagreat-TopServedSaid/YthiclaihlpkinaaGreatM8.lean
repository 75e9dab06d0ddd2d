/- Several texts of the abstract machine, one behind the other. -/
import Derived.WalkKit
set_option linter.unusedSimpArgs false
set_option linter.unusedVariables false
set_option linter.unnecessarySimpa false
set_option linter.unusedSectionVars false
set_option maxRecDepth 100000
namespace Go.Proofs.YthiclaihlpkinaaGreat
structure Sp where
  f : Int
  t : Int
def spV (s : Sp) : Bool := decide (0 ≤ s.f) && decide (s.f < s.t) && decide (s.t ≤ 1099511627776)
def wkV (s : Sp) : Bool := spV s && decide (s.t ≤ 10080)
def calV : Int → List Sp → Bool
  | _, [] => true
  | p, s :: r => wkV s && decide (p < s.f) && calV s.t r
def calOk (l : List Sp) : Bool := decide ((l.length : Int) ≤ 100) && calV (-1) l
def inst (t : Int) : Bool := decide (0 ≤ t) && decide (t ≤ 1099511627776)
def spanB (w : Int) (s : Sp) : Int := if (if w < s.t then w else s.t) - s.f < 0 then 0 else (if w < s.t then w else s.t) - s.f
def befL (w : Int) : List Sp → Int
  | [] => 0
  | s :: r => spanB w s + befL w r
def inS (w : Int) (s : Sp) : Bool := decide (s.f ≤ w) && decide (w < s.t)
def openW (w : Int) (l : List Sp) : Bool := l.any (inS w)
def untL (l : List Sp) (t : Int) : Int := t / 10080 * befL 10080 l + befL (t % 10080) l
theorem calV_cons {p : Int} {s : Sp} {r : List Sp} : calV p (s :: r) = true ↔ 0 ≤ s.f ∧ s.f < s.t ∧ s.t ≤ 10080 ∧ p < s.f ∧ calV s.t r = true := by
  simp only [calV, wkV, spV, Bool.and_eq_true, decide_eq_true_eq]
  constructor
  · rintro ⟨⟨⟨⟨⟨h1, h2⟩, _⟩, h4⟩, h5⟩, h6⟩; exact ⟨h1, h2, h4, h5, h6⟩
  · rintro ⟨h1, h2, h4, h5, h6⟩; exact ⟨⟨⟨⟨⟨h1, h2⟩, by omega⟩, h4⟩, h5⟩, h6⟩
theorem calV_mono {p q : Int} (hpq : q ≤ p) {l : List Sp} (h : calV p l = true) : calV q l = true := by
  cases l with
  | nil => rfl
  | cons s r => rw [calV_cons] at *; exact ⟨h.1, h.2.1, h.2.2.1, by omega, h.2.2.2.2⟩
theorem calV_mem {s : Sp} : ∀ {p : Int} {l : List Sp}, calV p l = true → s ∈ l → 0 ≤ s.f ∧ s.f < s.t ∧ s.t ≤ 10080 ∧ p < s.f := by
  intro p l
  induction l generalizing p with
  | nil => intro _ h; simp at h
  | cons a r ih =>
    intro h hs
    rw [calV_cons] at h
    rcases List.mem_cons.1 hs with rfl | hs
    · exact ⟨h.1, h.2.1, h.2.2.1, h.2.2.2.1⟩
    · have := ih h.2.2.2.2 hs
      exact ⟨this.1, this.2.1, this.2.2.1, by omega⟩
theorem spanB_nn (w : Int) (s : Sp) : 0 ≤ spanB w s := by unfold spanB; (repeat' split) <;> omega
theorem befL_nn (w : Int) (l : List Sp) : 0 ≤ befL w l := by
  induction l with
  | nil => simp [befL]
  | cons s r ih => have := spanB_nn w s; simp only [befL]; omega
theorem befL_zero : ∀ {p : Int} {l : List Sp} {w : Int}, calV p l = true → w ≤ p + 1 → befL w l = 0 := by
  intro p l
  induction l generalizing p with
  | nil => intro w _ _; rfl
  | cons s r ih =>
    intro w h hw
    rw [calV_cons] at h
    have h1 := ih (w := w) h.2.2.2.2 (by omega)
    have h2 : spanB w s = 0 := by unfold spanB; (repeat' split) <;> omega
    simp only [befL]; omega
theorem befL_le : ∀ {p : Int} {l : List Sp} {w : Int}, calV p l = true → p + 1 ≤ w → befL w l ≤ w - (p + 1) := by
  intro p l
  induction l generalizing p with
  | nil => intro w _ _; simp only [befL]; omega
  | cons s r ih =>
    intro w h hw
    rw [calV_cons] at h
    simp only [befL]
    by_cases h1 : s.t + 1 ≤ w
    · have h2 := ih (w := w) h.2.2.2.2 h1
      have h3 : spanB w s ≤ s.t - s.f := by unfold spanB; (repeat' split) <;> omega
      omega
    · have h2 := befL_zero (w := w) h.2.2.2.2 (by omega)
      have h3 : spanB w s ≤ w - (p + 1) := by unfold spanB; (repeat' split) <;> omega
      omega
theorem befL_len (w : Int) (hw : 0 ≤ w) : ∀ (l : List Sp), (∀ s ∈ l, 0 ≤ s.f ∧ s.f < s.t) → befL w l ≤ w * l.length := by
  intro l
  induction l with
  | nil => intro _; simp [befL]
  | cons s r ih =>
    intro h
    have h1 := ih fun q hq => h q (by simp [hq])
    have h2 := h s (by simp)
    have h3 : spanB w s ≤ w := by unfold spanB; (repeat' split) <;> omega
    simp only [befL, List.length_cons]
    have h4 : w * ((r.length + 1 : Nat) : Int) = w * r.length + w := by rw [show ((r.length + 1 : Nat) : Int) = (r.length : Int) + 1 from by omega, Int.mul_add, Int.mul_one]
    omega
theorem openW_none : ∀ {p : Int} {l : List Sp} {w : Int}, calV p l = true → w ≤ p → openW w l = false := by
  intro p l w h hw
  rw [openW, List.any_eq_false]
  intro s hs
  have := calV_mem h hs
  simp [inS]; omega
theorem befL_step : ∀ {p : Int} {l : List Sp} (w : Int), calV p l = true → befL (w + 1) l = befL w l + if openW w l = true then 1 else 0 := by
  intro p l
  induction l generalizing p with
  | nil => intro w _; simp [befL, openW]
  | cons s r ih =>
    intro w h
    rw [calV_cons] at h
    have h1 := ih w h.2.2.2.2
    simp only [befL, openW, List.any_cons]
    by_cases h2 : s.f ≤ w ∧ w < s.t
    · have h3 : openW w r = false := openW_none h.2.2.2.2 (by omega)
      have h4 : spanB (w + 1) s = spanB w s + 1 := by unfold spanB; (repeat' split) <;> omega
      have h5 : inS w s = true := by simp [inS, h2]
      rw [h3] at h1
      simp only [h5, Bool.true_or, if_true]
      simp at h1
      omega
    · have h4 : spanB (w + 1) s = spanB w s := by unfold spanB; (repeat' split) <;> omega
      have h5 : inS w s = false := by simp [inS]; omega
      simp only [h5, Bool.false_or]
      have h6 : befL (w + 1) r = befL w r + if r.any (inS w) = true then 1 else 0 := h1
      rw [h4, h6, Int.add_assoc]
theorem untL_step {l : List Sp} (h : calV (-1) l = true) {t : Int} (_ : 0 ≤ t) : untL l (t + 1) = untL l t + if openW (t % 10080) l = true then 1 else 0 := by
  have hs := befL_step (t % 10080) h
  unfold untL
  by_cases h1 : t % 10080 = 10079
  · have h2 : (t + 1) / 10080 = t / 10080 + 1 := by omega
    have h3 : (t + 1) % 10080 = 0 := by omega
    have h4 : befL 0 l = 0 := befL_zero h (by omega)
    rw [h2, h3, h4, Int.add_mul, Int.one_mul]
    rw [h1] at hs ⊢
    simp only [show (10079 : Int) + 1 = 10080 from rfl] at hs
    omega
  · have h2 : (t + 1) / 10080 = t / 10080 := by omega
    have h3 : (t + 1) % 10080 = t % 10080 + 1 := by omega
    rw [h2, h3]
    omega
theorem untL_add {l : List Sp} (h : calV (-1) l = true) {t : Int} (ht : 0 ≤ t) (k : Nat) : untL l t ≤ untL l (t + k) ∧ untL l (t + k) ≤ untL l t + k := by
  induction k with
  | zero => simp
  | succ k ih =>
    have := untL_step h (t := t + k) (by omega)
    rw [show t + ((k + 1 : Nat) : Int) = t + k + 1 from by omega, this]
    split <;> omega
theorem untL_mono {l : List Sp} (h : calV (-1) l = true) {t u : Int} (ht : 0 ≤ t) (hu : t ≤ u) : untL l t ≤ untL l u ∧ untL l u ≤ untL l t + (u - t) := by
  have := untL_add h ht (u - t).toNat
  rw [show t + ((u - t).toNat : Int) = u from by omega] at this
  omega
theorem untL_zero {l : List Sp} (h : calV (-1) l = true) : untL l 0 = 0 := by
  have h4 : befL 0 l = 0 := befL_zero h (by omega)
  simp [untL, h4]
theorem untL_bd {l : List Sp} (h : calV (-1) l = true) {t : Int} (ht : 0 ≤ t) : 0 ≤ untL l t ∧ untL l t ≤ t := by
  have := untL_mono h (t := 0) (u := t) (by omega) ht
  rw [untL_zero h] at this
  omega
/-- At an open minute the number grows: so an instant behind one is told by its number. -/
theorem untL_uniq {l : List Sp} (h : calV (-1) l = true) {t u : Int} (ht : 0 ≤ t) (hu : 0 ≤ u) (h1 : openW (t % 10080) l = true) (h2 : openW (u % 10080) l = true) (he : untL l (t + 1) = untL l (u + 1)) : t = u := by
  have s1 := untL_step h ht
  have s2 := untL_step h hu
  rw [if_pos h1] at s1
  rw [if_pos h2] at s2
  by_cases c1 : t < u
  · have := untL_mono h (t := t + 1) (u := u) (by omega) (by omega); omega
  · by_cases c2 : u < t
    · have := untL_mono h (t := u + 1) (u := t) (by omega) (by omega); omega
    · omega
theorem untL_weeks {l : List Sp} {t : Int} (k : Int) : untL l (t + k * 10080) = untL l t + k * befL 10080 l := by
  unfold untL
  rw [show (t + k * 10080) / 10080 = t / 10080 + k from by omega, show (t + k * 10080) % 10080 = t % 10080 from by omega, Int.add_mul]
  omega
/-- The end of the open minute with a number, within the week. -/
def findR : List Sp → Int → Option Int
  | [], _ => none
  | s :: r, rest => if rest < s.t - s.f then some (s.f + rest + 1) else findR r (rest - (s.t - s.f))
theorem findR_spec : ∀ {p : Int} {l : List Sp} {rest : Int}, calV p l = true → 0 ≤ rest → rest < befL 10080 l → ∃ v, findR l rest = some v ∧ p + 1 < v ∧ v ≤ 10080 ∧ befL v l = rest + 1 ∧ openW (v - 1) l = true := by
  intro p l
  induction l generalizing p with
  | nil => intro rest _ h1 h2; simp only [befL] at h2; omega
  | cons s r ih =>
    intro rest h h1 h2
    rw [calV_cons] at h
    obtain ⟨c1, c2, c3, c4, c5⟩ := h
    have hs : spanB 10080 s = s.t - s.f := by unfold spanB; (repeat' split) <;> omega
    simp only [befL, hs] at h2
    unfold findR
    by_cases h3 : rest < s.t - s.f
    · rw [if_pos h3]
      refine ⟨_, rfl, by omega, by omega, ?_, ?_⟩
      · have z : befL (s.f + rest + 1) r = 0 := befL_zero c5 (by omega)
        have q : spanB (s.f + rest + 1) s = rest + 1 := by unfold spanB; (repeat' split) <;> omega
        simp only [befL, z, q]; omega
      · simp [openW, inS]; left; omega
    · rw [if_neg h3]
      obtain ⟨v, v1, v2, v3, v4, v5⟩ := ih (rest := rest - (s.t - s.f)) c5 (by omega) (by omega)
      refine ⟨v, v1, by omega, v3, ?_, ?_⟩
      · have q : spanB v s = s.t - s.f := by unfold spanB; (repeat' split) <;> omega
        simp only [befL, v4, q]; omega
      · simp only [openW, List.any_cons, Bool.or_eq_true] at v5 ⊢; exact .inr v5
/-- After: the instant and the number of the error. -/
def aftU (l : List Sp) (t n : Int) : Int := (untL l t + n - 1) / befL 10080 l * 10080 + (findR l ((untL l t + n - 1) % befL 10080 l)).getD 0
def aftOut (l : List Sp) (t n : Int) : Int × Int :=
  if calOk l = true then
    if inst t = true ∧ inst n = true then
      if n = 0 then (t, 0) else if l.length = 0 then (0, 10) else if aftU l t n > 1099511627776 then (0, 6) else (aftU l t n, 0)
    else (0, 2)
  else (0, 1)
theorem befL_pos {l : List Sp} (h : calV (-1) l = true) (hl : l ≠ []) : 0 < befL 10080 l := by
  cases l with
  | nil => exact absurd rfl hl
  | cons s r =>
    rw [calV_cons] at h
    have hs : spanB 10080 s = s.t - s.f := by unfold spanB; (repeat' split) <;> omega
    have := befL_nn 10080 r
    simp only [befL, hs]; omega
theorem aftU_spec {l : List Sp} (h : calV (-1) l = true) (hl : l ≠ []) {t n : Int} (ht : 0 ≤ t) (hn : 1 ≤ n) :
    0 < aftU l t n ∧ untL l (aftU l t n) = untL l t + n ∧ openW ((aftU l t n - 1) % 10080) l = true := by
  have hp := befL_pos h hl
  have h0 := untL_bd h ht
  have hm1 := Int.emod_nonneg (untL l t + n - 1) (show befL 10080 l ≠ 0 by omega)
  have hm2 := Int.emod_lt_of_pos (untL l t + n - 1) hp
  have hd : 0 ≤ (untL l t + n - 1) / befL 10080 l := Int.ediv_nonneg (by omega) (by omega)
  have he := Int.mul_ediv_add_emod (untL l t + n - 1) (befL 10080 l)
  obtain ⟨v, v1, v2, v3, v4, v5⟩ := findR_spec h hm1 hm2
  unfold aftU
  rw [v1]
  simp only [Option.getD_some]
  generalize (untL l t + n - 1) / befL 10080 l = k at *
  generalize (untL l t + n - 1) % befL 10080 l = m at *
  have hkm : befL 10080 l * k = k * befL 10080 l := Int.mul_comm _ _
  refine ⟨by omega, ?_, ?_⟩
  · rw [Int.add_comm, untL_weeks]
    by_cases hv : v = 10080
    · subst hv
      have z : befL 0 l = 0 := befL_zero h (by omega)
      have : untL l 10080 = befL 10080 l := by simp [untL, z]
      rw [this]; omega
    · have : untL l v = befL v l := by unfold untL; rw [show v / 10080 = 0 from by omega, show v % 10080 = v from by omega]; omega
      rw [this]; omega
  · rw [show (k * 10080 + v - 1) % 10080 = v - 1 from by omega]
    exact v5
def workOut (l : List Sp) (s : Sp) : Int × Int := if calOk l = true ∧ spV s = true then (untL l s.t - untL l s.f, 0) else (0, 1)
def openOut (l : List Sp) (t : Int) : Bool × Int := if calOk l = true then (if inst t = true then (openW (t % 10080) l, 0) else (false, 2)) else (false, 1)
theorem calOk_v {l : List Sp} (h : calOk l = true) : l.length ≤ 100 ∧ calV (-1) l = true := by
  simp only [calOk, Bool.and_eq_true, decide_eq_true_eq] at h
  exact ⟨by omega, h.2⟩
theorem inst_iff {t : Int} : inst t = true ↔ 0 ≤ t ∧ t ≤ 1099511627776 := by simp [inst]
theorem spV_iff {s : Sp} : spV s = true ↔ 0 ≤ s.f ∧ s.f < s.t ∧ s.t ≤ 1099511627776 := by simp [spV, and_assoc]
/-- After an instant, n open minutes on: the instant behind the open minute with this number. -/
theorem aftOut_at {l : List Sp} (h : calOk l = true) {a t n : Int} (ha : 0 ≤ a) (hat : a ≤ t) (ht : t + 1 ≤ 1099511627776) (hn : untL l (t + 1) = untL l a + n) (ho : openW (t % 10080) l = true) (h1 : 1 ≤ n) : aftOut l a n = (t + 1, 0) := by
  obtain ⟨hl, hv⟩ := calOk_v h
  have hne : l ≠ [] := fun e => by subst e; simp [openW] at ho
  have hm := untL_mono hv (t := a) (u := t + 1) ha (by omega)
  obtain ⟨p1, p2, p3⟩ := aftU_spec hv hne (t := a) (n := n) ha h1
  have hu : aftU l a n - 1 = t := untL_uniq hv (by omega) (by omega) p3 ho (by rw [Int.sub_add_cancel, p2, hn])
  have hu : aftU l a n = t + 1 := by omega
  have hl0 : ¬ l.length = 0 := by simpa using hne
  unfold aftOut
  rw [if_pos h, if_pos ⟨inst_iff.2 ⟨ha, by omega⟩, inst_iff.2 ⟨by omega, by omega⟩⟩, if_neg (by omega), if_neg hl0, hu, if_neg (by omega)]
/-- How the reference looks for it. -/
def findW (base : Int) : List Sp → Int → Int → Int
  | [], _, u => u
  | s :: r, rest, u => findW base r (rest - (s.t - s.f)) (if 0 < rest ∧ rest ≤ s.t - s.f then base + s.f + rest else u)
theorem findW_done (base : Int) : ∀ {p : Int} (l : List Sp) (rest u : Int), calV p l = true → rest ≤ 0 → findW base l rest u = u := by
  intro p l
  induction l generalizing p with
  | nil => intro rest u _ _; rfl
  | cons s r ih =>
    intro rest u h hr
    rw [calV_cons] at h
    rw [findW, if_neg (by omega)]
    exact ih _ _ h.2.2.2.2 (by omega)
theorem findW_eq (base : Int) : ∀ {p : Int} (l : List Sp) (rest u : Int), calV p l = true → 0 < rest → findW base l rest u = match findR l (rest - 1) with | some v => base + v | none => u := by
  intro p l
  induction l generalizing p with
  | nil => intro rest u _ _; rfl
  | cons s r ih =>
    intro rest u h hr
    rw [calV_cons] at h
    rw [findW, findR]
    by_cases q : rest ≤ s.t - s.f
    · rw [if_pos ⟨hr, q⟩, if_pos (by omega), findW_done base r _ _ h.2.2.2.2 (by omega)]
      simp only; omega
    · rw [if_neg (by omega), if_neg (by omega), ih _ _ h.2.2.2.2 (by omega), show rest - (s.t - s.f) - 1 = rest - 1 - (s.t - s.f) from by omega]
theorem aftU_bounds {l : List Sp} (h : calOk l = true) (hl : l ≠ []) {t n : Int} (ht : inst t = true) (hn : inst n = true) (h1 : ¬ n = 0) :
    0 < befL 10080 l ∧ befL 10080 l ≤ 10080 ∧ 0 ≤ untL l t ∧ untL l t ≤ 1099511627776 ∧ 0 ≤ (untL l t + n - 1) / befL 10080 l ∧ (untL l t + n - 1) / befL 10080 l ≤ 2199023255552 ∧ 0 ≤ (untL l t + n - 1) % befL 10080 l ∧ (untL l t + n - 1) % befL 10080 l < befL 10080 l ∧ (untL l t + n - 1) / befL 10080 l * befL 10080 l + (untL l t + n - 1) % befL 10080 l = untL l t + n - 1 := by
  obtain ⟨_, hv⟩ := calOk_v h
  rw [inst_iff] at ht hn
  have hp := befL_pos hv hl
  have hle := befL_le (w := 10080) hv (by omega)
  have h0 := untL_bd hv ht.1
  have he := Int.mul_ediv_add_emod (untL l t + n - 1) (befL 10080 l)
  have hm1 := Int.emod_nonneg (untL l t + n - 1) (show befL 10080 l ≠ 0 by omega)
  have hm2 := Int.emod_lt_of_pos (untL l t + n - 1) hp
  have hd : 0 ≤ (untL l t + n - 1) / befL 10080 l := Int.ediv_nonneg (by omega) (by omega)
  have hd2 : (untL l t + n - 1) / befL 10080 l ≤ untL l t + n - 1 := Int.ediv_le_self _ (by omega)
  rw [Int.mul_comm] at he
  exact ⟨hp, by omega, h0.1, by omega, hd, by omega, hm1, hm2, he⟩
end Go.Proofs.YthiclaihlpkinaaGreat
namespace Go.Proofs.YthiclaihlpkinaaGreat
open Go.RowKit
/-- Where the spans end. -/
def endT : Int → List Sp → Int
  | p, [] => p
  | _, s :: r => endT s.t r
theorem endT_snoc (p : Int) (l : List Sp) (s : Sp) : endT p (l ++ [s]) = s.t := by
  induction l generalizing p with
  | nil => rfl
  | cons a r ih => exact ih _
theorem endT_le {p : Int} {l : List Sp} (h : calV p l = true) : p ≤ endT p l ∧ ∀ s ∈ l, s.t ≤ endT p l := by
  induction l generalizing p with
  | nil => simp [endT]
  | cons a r ih =>
    rw [calV_cons] at h
    obtain ⟨h1, h2⟩ := ih h.2.2.2.2
    simp only [endT]
    refine ⟨by omega, fun s hs => ?_⟩
    rcases List.mem_cons.1 hs with rfl | hs
    · exact h1
    · exact h2 s hs
theorem calV_append {p : Int} {l l' : List Sp} : calV p (l ++ l') = true ↔ calV p l = true ∧ calV (endT p l) l' = true := by
  induction l generalizing p with
  | nil => simp [calV, endT]
  | cons a r ih =>
    rw [List.cons_append, calV_cons, calV_cons, ih, endT]
    constructor
    · rintro ⟨h1, h2, h3, h4, h5, h6⟩; exact ⟨⟨h1, h2, h3, h4, h5⟩, h6⟩
    · rintro ⟨⟨h1, h2, h3, h4, h5⟩, h6⟩; exact ⟨h1, h2, h3, h4, h5, h6⟩
theorem calV_one {p : Int} {s : Sp} : calV p [s] = true ↔ 0 ≤ s.f ∧ s.f < s.t ∧ s.t ≤ 10080 ∧ p < s.f := by rw [calV_cons]; simp [calV]
theorem openW_append {w : Int} {l l' : List Sp} : openW w (l ++ l') = (openW w l || openW w l') := by simp [openW]
theorem openW_one {w : Int} {s : Sp} : openW w [s] = inS w s := by simp [openW]
theorem openW_cons {w : Int} {s : Sp} {l : List Sp} : openW w (s :: l) = (inS w s || openW w l) := by simp [openW]
theorem openW_late {p : Int} {l : List Sp} {w : Int} (h : calV p l = true) (hw : endT p l ≤ w) : openW w l = false := by
  rw [openW, List.any_eq_false]
  intro s hs
  have := (endT_le h).2 s hs
  simp [inS]; omega
/-- Two such lists with the same minutes are the same. -/
theorem cal_uniq : ∀ {p q : Int} {l l' : List Sp}, calV p l = true → calV q l' = true → (∀ w, openW w l = openW w l') → l = l' := by
  intro p q l
  induction l generalizing p q with
  | nil =>
    intro l' _ h2 h
    cases l' with
    | nil => rfl
    | cons s r =>
      rw [calV_cons] at h2
      have := h s.f
      rw [openW_cons] at this
      have hin : inS s.f s = true := by simp [inS]; omega
      rw [hin] at this
      simp [openW] at this
  | cons s r ih =>
    intro l' h1 h2 h
    cases l' with
    | nil =>
      rw [calV_cons] at h1
      have := h s.f
      rw [openW_cons] at this
      have hin : inS s.f s = true := by simp [inS]; omega
      rw [hin] at this
      simp [openW] at this
    | cons s' r' =>
      rw [calV_cons] at h1 h2
      obtain ⟨a1, a2, a3, a4, a5⟩ := h1
      obtain ⟨b1, b2, b3, b4, b5⟩ := h2
      have n1 : ∀ w, w ≤ s.t → openW w r = false := fun w hw => openW_none a5 hw
      have n2 : ∀ w, w ≤ s'.t → openW w r' = false := fun w hw => openW_none b5 hw
      have e1 : s.f = s'.f := by
        have q1 := h s.f
        have q2 := h s'.f
        rw [openW_cons, openW_cons] at q1 q2
        have i1 : inS s.f s = true := by simp [inS]; omega
        have i2 : inS s'.f s' = true := by simp [inS]; omega
        rw [i1, Bool.true_or] at q1
        rw [i2, Bool.true_or] at q2
        by_cases c1 : s.f < s'.f
        · rw [n2 s.f (by omega)] at q1
          have : inS s.f s' = false := by simp [inS]; omega
          rw [this] at q1; simp at q1
        · by_cases c2 : s'.f < s.f
          · rw [n1 s'.f (by omega)] at q2
            have : inS s'.f s = false := by simp [inS]; omega
            rw [this] at q2; simp at q2
          · omega
      have e2 : s.t = s'.t := by
        have q1 := h s.t
        have q2 := h s'.t
        rw [openW_cons, openW_cons] at q1 q2
        by_cases c1 : s.t < s'.t
        · rw [n1 s.t (by omega)] at q1
          have i1 : inS s.t s = false := by simp [inS]
          have i2 : inS s.t s' = true := by simp [inS]; omega
          rw [i1, i2] at q1; simp at q1
        · by_cases c2 : s'.t < s.t
          · rw [n2 s'.t (by omega)] at q2
            have i1 : inS s'.t s' = false := by simp [inS]
            have i2 : inS s'.t s = true := by simp [inS]; omega
            rw [i1, i2] at q2; simp at q2
          · omega
      have e3 : s = s' := by cases s; cases s'; simp at e1 e2; simp [e1, e2]
      subst e3
      congr 1
      refine ih a5 b5 fun w => ?_
      by_cases hw : w ≤ s.t
      · rw [n1 w hw, n2 w hw]
      · have := h w
        rw [openW_cons, openW_cons] at this
        have hi : inS w s = false := by simp [inS]; omega
        rw [hi] at this
        simpa using this
/-- One minute more. -/
def addM (l : List Sp) (m : Int) : List Sp :=
  match l[l.length - 1]? with
  | some s => if s.t = m then l.set (l.length - 1) ⟨s.f, m + 1⟩ else l ++ [⟨m, m + 1⟩]
  | none => [⟨m, m + 1⟩]
theorem last_snoc {α : Type} (l : List α) (s : α) : (l ++ [s])[(l ++ [s]).length - 1]? = some s := by simp
theorem set_snoc {α : Type} (l : List α) (s x : α) : (l ++ [s]).set ((l ++ [s]).length - 1) x = l ++ [x] := by
  rw [show (l ++ [s]).length - 1 = l.length by simp, List.set_append_right _ _ (Nat.le_refl _)]; simp
/-- The spans of the first minutes that are marked. -/
def runsL (p : Int → Bool) : Nat → List Sp
  | 0 => []
  | m + 1 => if p (m : Int) = true then addM (runsL p m) m else runsL p m
theorem runs_spec (p : Int → Bool) : ∀ n : Nat, n ≤ 10080 → calV (-1) (runsL p n) = true ∧ endT (-1) (runsL p n) ≤ n ∧ ∀ w : Int, openW w (runsL p n) = (decide (0 ≤ w) && decide (w < n) && p w) := by
  intro n
  induction n with
  | zero => intro _; exact ⟨rfl, by simp [runsL, endT], fun w => by simp [runsL, openW]; intro h1 h2; omega⟩
  | succ n ih =>
    intro hn
    obtain ⟨h1, h2, h3⟩ := ih (by omega)
    by_cases hp : p (n : Int) = true
    · simp only [runsL, hp, if_true]
      rcases List.eq_nil_or_concat (runsL p n) with e | ⟨l0, s, e⟩
      · have hr : addM (runsL p n) n = [⟨n, (n : Int) + 1⟩] := by rw [e]; rfl
        rw [hr]
        refine ⟨by rw [calV_one]; simp only; omega, by simp [endT], fun w => ?_⟩
        have := h3 w
        rw [e] at this
        rw [openW_one]
        simp only [openW, List.any_nil] at this
        by_cases hw : w = n
        · subst hw; simp [inS, hp] <;> omega
        · have i1 : inS w ⟨n, (n : Int) + 1⟩ = false := by simp [inS]; omega
          rw [i1]
          by_cases hw2 : w < n
          · rw [decide_eq_true hw2] at this
            have hw3 : w < ((n + 1 : Nat) : Int) := by omega
            rw [decide_eq_true hw3]; exact this
          · have hw3 : ¬ w < ((n + 1 : Nat) : Int) := by omega
            rw [decide_eq_false hw3]; simp
      · rw [List.concat_eq_append] at e
        rw [e] at h1 h2 h3
        rw [endT_snoc] at h2
        have hl := last_snoc l0 s
        have h1' := h1
        rw [calV_append, calV_one] at h1'
        by_cases ht : s.t = n
        · have hr : addM (runsL p n) n = l0 ++ [⟨s.f, (n : Int) + 1⟩] := by
            rw [e, addM, hl]
            simp only
            rw [if_pos ht, set_snoc]
          rw [hr]
          refine ⟨by rw [calV_append, calV_one]; exact ⟨h1'.1, by simp only; omega⟩, by rw [endT_snoc]; simp, fun w => ?_⟩
          have := h3 w
          rw [openW_append, openW_one] at this ⊢
          by_cases hw : w = n
          · subst hw
            have i1 : inS (n : Int) ⟨s.f, (n : Int) + 1⟩ = true := by simp [inS]; omega
            rw [i1, hp]; simp; omega
          · have i1 : inS w ⟨s.f, (n : Int) + 1⟩ = inS w s := by
              simp only [inS]
              congr 1
              rw [decide_eq_decide]; omega
            rw [i1, this]
            congr 2
            rw [decide_eq_decide]; omega
        · have hr : addM (runsL p n) n = l0 ++ [s] ++ [⟨n, (n : Int) + 1⟩] := by
            rw [e, addM, hl]
            simp only
            rw [if_neg ht]
          rw [hr]
          refine ⟨by rw [calV_append, calV_one, endT_snoc]; exact ⟨h1, by simp only; omega⟩, by rw [endT_snoc]; simp, fun w => ?_⟩
          have := h3 w
          rw [openW_append, openW_one, this]
          by_cases hw : w = n
          · subst hw; simp [inS, hp] <;> omega
          · have i1 : inS w ⟨n, (n : Int) + 1⟩ = false := by simp [inS]; omega
            rw [i1, Bool.or_false]
            congr 2
            rw [decide_eq_decide]; omega
    · have hp : p (n : Int) = false := by simpa using hp
      simp only [runsL, hp, Bool.false_eq_true, if_false]
      refine ⟨h1, by omega, fun w => ?_⟩
      rw [h3 w]
      by_cases hw : w = n
      · subst hw; simp [hp]
      · congr 2
        rw [decide_eq_decide]; omega
/-- A list with these minutes is what is made of them. -/
theorem runs_eq {p : Int → Bool} {l : List Sp} {q : Int} (h : calV q l = true) (ho : ∀ w, 0 ≤ w → w < 10080 → openW w l = p w) : l = runsL p 10080 := by
  obtain ⟨h1, _, h3⟩ := runs_spec p 10080 (Nat.le_refl _)
  refine cal_uniq h h1 fun w => ?_
  rw [h3 w]
  by_cases hw : 0 ≤ w ∧ w < 10080
  · rw [ho w hw.1 hw.2, decide_eq_true hw.1, decide_eq_true (show w < ((10080 : Nat) : Int) by omega)]; simp
  · have : openW w l = false := by
      rw [openW, List.any_eq_false]
      intro s hs
      have := calV_mem h hs
      simp [inS]; omega
    rw [this]
    by_cases h0 : 0 ≤ w
    · rw [decide_eq_false (show ¬ w < ((10080 : Nat) : Int) by omega)]; simp
    · rw [decide_eq_false h0]; simp
/-! Merging. -/
def mrg (acc : List Sp) (s : Sp) : List Sp :=
  match acc[acc.length - 1]? with
  | some q => if s.f ≤ q.t then acc.set (acc.length - 1) ⟨q.f, if q.t < s.t then s.t else q.t⟩ else acc ++ [s]
  | none => [s]
theorem mrg_spec : ∀ (l acc : List Sp), l.Pairwise (fun a b => a.f ≤ b.f) → (∀ s ∈ l, wkV s = true) → calV (-1) acc = true → (∀ a ∈ acc, ∀ s ∈ l, a.f ≤ s.f) →
    calV (-1) (l.foldl mrg acc) = true ∧ ∀ w, openW w (l.foldl mrg acc) = (openW w acc || l.any (inS w)) := by
  intro l
  induction l with
  | nil => intro acc _ _ h _; exact ⟨h, fun w => by simp⟩
  | cons s r ih =>
    intro acc hp hv hc hf
    obtain ⟨p1, p2⟩ := List.pairwise_cons.1 hp
    have hs := hv s (by simp)
    simp only [wkV, spV, Bool.and_eq_true, decide_eq_true_eq] at hs
    have key : calV (-1) (mrg acc s) = true ∧ (∀ w, openW w (mrg acc s) = (openW w acc || inS w s)) ∧ ∀ a ∈ mrg acc s, a.f ≤ s.f := by
      rcases List.eq_nil_or_concat acc with rfl | ⟨a0, q, rfl⟩
      · refine ⟨by show calV (-1) [s] = true; rw [calV_one]; omega, fun w => by show openW w [s] = _; rw [openW_one]; simp [openW], fun a ha => ?_⟩
        have ha : a ∈ [s] := ha
        simp at ha; subst ha; exact Int.le_refl _
      · rw [List.concat_eq_append] at *
        rw [calV_append, calV_one] at hc
        have hq := hf q (by simp) s (by simp)
        by_cases ht : s.f ≤ q.t
        · have hr : mrg (a0 ++ [q]) s = a0 ++ [⟨q.f, if q.t < s.t then s.t else q.t⟩] := by
            rw [mrg, last_snoc]
            simp only
            rw [if_pos ht, set_snoc]
          rw [hr]
          refine ⟨?_, fun w => ?_, fun a ha => ?_⟩
          · rw [calV_append, calV_one]
            exact ⟨hc.1, by simp only; split <;> omega⟩
          · rw [openW_append, openW_append, openW_one, openW_one, Bool.or_assoc]
            congr 1
            rw [Bool.eq_iff_iff]
            simp only [inS, Bool.and_eq_true, Bool.or_eq_true, decide_eq_true_eq]
            split <;> omega
          · simp only [List.mem_append, List.mem_singleton] at ha
            rcases ha with ha | rfl
            · exact hf a (by simp [ha]) s (by simp)
            · exact hq
        · have hr : mrg (a0 ++ [q]) s = a0 ++ [q] ++ [s] := by
            rw [mrg, last_snoc]
            simp only
            rw [if_neg ht]
          rw [hr]
          refine ⟨?_, fun w => ?_, fun a ha => ?_⟩
          · rw [calV_append, calV_one, endT_snoc, calV_append, calV_one]
            exact ⟨hc, by omega⟩
          · rw [openW_append, openW_one]
          · simp only [List.mem_append, List.mem_singleton] at ha
            rcases ha with ha | rfl
            · exact hf a (by simpa using ha) s (by simp)
            · exact Int.le_refl _
    obtain ⟨k1, k2, k3⟩ := key
    obtain ⟨i1, i2⟩ := ih (mrg acc s) p2 (fun x hx => hv x (by simp [hx])) k1 fun a ha x hx => Int.le_trans (k3 a ha) (p1 x hx)
    exact ⟨i1, fun w => by rw [List.foldl_cons, i2 w, k2 w, List.any_cons, Bool.or_assoc]⟩
/-! What is open in both. -/
def bothS (x y : Sp) : Sp := ⟨if x.f < y.f then y.f else x.f, if y.t < x.t then y.t else x.t⟩
def both1 (x : Sp) (b : List Sp) : List Sp := (b.map (bothS x)).filter fun s => decide (s.f < s.t)
def bothL (a b : List Sp) : List Sp := a.flatMap fun x => both1 x b
theorem both1_cons {x y : Sp} {r : List Sp} : both1 x (y :: r) = (if (bothS x y).f < (bothS x y).t then [bothS x y] else []) ++ both1 x r := by
  unfold both1
  rw [List.map_cons, List.filter_cons]
  by_cases h : (bothS x y).f < (bothS x y).t
  · simp [h]
  · simp [h]
theorem both1_spec (x : Sp) : ∀ {p : Int} {b : List Sp}, calV p b = true → calV p (both1 x b) = true ∧ (∀ s ∈ both1 x b, x.f ≤ s.f ∧ s.t ≤ x.t) ∧ ∀ w, openW w (both1 x b) = (inS w x && openW w b) := by
  intro p b
  induction b generalizing p with
  | nil => intro _; exact ⟨rfl, by simp [both1], fun w => by simp [both1, openW]⟩
  | cons y r ih =>
    intro h
    rw [calV_cons] at h
    obtain ⟨i1, i2, i3⟩ := ih h.2.2.2.2
    rw [both1_cons]
    have hb : (bothS x y).f = (if x.f < y.f then y.f else x.f) ∧ (bothS x y).t = (if y.t < x.t then y.t else x.t) := ⟨rfl, rfl⟩
    obtain ⟨hb1, hb2⟩ := hb
    have hw : ∀ w, inS w (bothS x y) = (inS w x && inS w y) := fun w => by
      rw [Bool.eq_iff_iff]
      simp only [inS, Bool.and_eq_true, decide_eq_true_eq, hb1, hb2]
      split <;> split <;> omega
    by_cases hlt : (bothS x y).f < (bothS x y).t
    · rw [if_pos hlt]
      refine ⟨?_, fun s hs => ?_, fun w => ?_⟩
      · rw [List.singleton_append, calV_cons]
        have : (bothS x y).t ≤ y.t := by rw [hb2]; split <;> omega
        have : y.f ≤ (bothS x y).f := by rw [hb1]; split <;> omega
        exact ⟨by omega, hlt, by omega, by omega, calV_mono (by omega) i1⟩
      · simp only [List.singleton_append, List.mem_cons] at hs
        rcases hs with rfl | hs
        · rw [hb1, hb2]
          constructor
          · split <;> omega
          · split <;> omega
        · exact i2 s hs
      · rw [openW_append, openW_one, hw, i3, openW_cons, Bool.and_or_distrib_left]
    · rw [if_neg hlt, List.nil_append]
      refine ⟨calV_mono (by omega) i1, i2, fun w => ?_⟩
      rw [i3, openW_cons, Bool.and_or_distrib_left, ← hw]
      have : inS w (bothS x y) = false := by simp [inS]; omega
      rw [this, Bool.false_or]
theorem calV_ge {p q : Int} {l : List Sp} (h : calV p l = true) (hq : ∀ s ∈ l, q < s.f) : calV q l = true := by
  cases l with
  | nil => rfl
  | cons s r => rw [calV_cons] at *; exact ⟨h.1, h.2.1, h.2.2.1, hq s (by simp), h.2.2.2.2⟩
theorem bothL_spec : ∀ {p q : Int} {a b : List Sp}, calV p a = true → calV q b = true → calV p (bothL a b) = true ∧ ∀ w, openW w (bothL a b) = (openW w a && openW w b) := by
  intro p q a
  induction a generalizing p with
  | nil => intro b _ _; exact ⟨rfl, fun w => by simp [bothL, openW]⟩
  | cons x r ih =>
    intro b ha hb
    rw [calV_cons] at ha
    obtain ⟨i1, i2⟩ := ih ha.2.2.2.2 hb
    obtain ⟨k1, k2, k3⟩ := both1_spec x hb
    have hc : bothL (x :: r) b = both1 x b ++ bothL r b := by simp [bothL]
    rw [hc]
    have k4 : calV p (both1 x b) = true := calV_ge k1 fun s hs => by have := (k2 s hs).1; omega
    have k5 : endT p (both1 x b) ≤ x.t := by
      rcases List.eq_nil_or_concat (both1 x b) with e | ⟨l0, s, e⟩
      · rw [e]; simp only [endT]; omega
      · rw [List.concat_eq_append] at e
        rw [e, endT_snoc]
        exact (k2 s (by rw [e]; simp)).2
    exact ⟨by rw [calV_append]; exact ⟨k4, calV_mono k5 i1⟩, fun w => by rw [openW_append, k3, i2, openW_cons, Bool.and_or_distrib_right]⟩
/-! What is closed. -/
def closL : Int → List Sp → List Sp
  | f, [] => if f < 10080 then [⟨f, 10080⟩] else []
  | f, s :: r => (if f < s.f then [⟨f, s.f⟩] else []) ++ closL s.t r
theorem closL_spec : ∀ {p : Int} {l : List Sp} (f : Int), calV p l = true → p ≤ f → f ≤ p + 1 → 0 ≤ f → f ≤ 10080 → calV (f - 1) (closL f l) = true ∧ ∀ w, openW w (closL f l) = (decide (f ≤ w) && decide (w < 10080) && !openW w l) := by
  intro p l
  induction l generalizing p with
  | nil =>
    intro f _ _ _ h0 h1
    simp only [closL]
    by_cases h : f < 10080
    · rw [if_pos h]
      exact ⟨by rw [calV_one]; simp only; omega, fun w => by rw [openW_one]; simp [inS, openW]⟩
    · rw [if_neg h]
      refine ⟨rfl, fun w => ?_⟩
      simp only [openW, List.any_nil, Bool.not_false, Bool.and_true]
      symm
      simp only [Bool.and_eq_false_iff, decide_eq_false_iff_not]
      omega
  | cons s r ih =>
    intro f hc hp hp2 h0 h1
    rw [calV_cons] at hc
    obtain ⟨i1, i2⟩ := ih s.t hc.2.2.2.2 (Int.le_refl _) (by omega) (by omega) hc.2.2.1
    have hno : ∀ w, w ≤ s.t → openW w r = false := fun w hw => openW_none hc.2.2.2.2 hw
    simp only [closL]
    have hopen : ∀ w, openW w (closL s.t r) = (decide (s.t ≤ w) && decide (w < 10080) && !openW w r) := i2
    by_cases h : f < s.f
    · rw [if_pos h]
      refine ⟨?_, fun w => ?_⟩
      · rw [List.singleton_append, calV_cons]
        exact ⟨h0, h, by simp only; omega, by simp only; omega, calV_mono (by simp only; omega) i1⟩
      · rw [openW_append, openW_one, hopen, openW_cons]
        by_cases hw : w ≤ s.t
        · rw [hno w hw, Bool.eq_iff_iff]
          simp only [inS, Bool.and_eq_true, Bool.or_eq_true, decide_eq_true_eq, Bool.not_eq_true', Bool.not_false, Bool.or_false, Bool.and_eq_false_iff, decide_eq_false_iff_not, Bool.and_true]
          omega
        · have : inS w s = false := by simp [inS]; omega
          rw [this, Bool.false_or]
          have : inS w ⟨f, s.f⟩ = false := by simp [inS]; omega
          rw [this, Bool.false_or]
          congr 2
          rw [decide_eq_decide]; omega
    · rw [if_neg h, List.nil_append]
      refine ⟨calV_mono (by omega) i1, fun w => ?_⟩
      rw [hopen, openW_cons]
      by_cases hw : w ≤ s.t
      · rw [hno w hw, Bool.eq_iff_iff]
        simp only [inS, Bool.and_eq_true, Bool.or_eq_true, decide_eq_true_eq, Bool.not_eq_true', Bool.not_false, Bool.or_false, Bool.and_eq_false_iff, decide_eq_false_iff_not, Bool.and_true]
        omega
      · have : inS w s = false := by simp [inS]; omega
        rw [this, Bool.false_or]
        congr 2
        rw [decide_eq_decide]; omega
/-- The minutes that are open and those that are closed. -/
theorem bef_comp {a c : List Sp} (ha : calV (-1) a = true) (hc : calV (-1) c = true) (ho : ∀ w, 0 ≤ w → w < 10080 → openW w c = !openW w a) : ∀ n : Nat, n ≤ 10080 → befL n c + befL n a = n := by
  intro n
  induction n with
  | zero => intro _; rw [befL_zero ha (by omega), befL_zero hc (by omega)]; rfl
  | succ n ih =>
    intro hn
    have e := ih (by omega)
    have s1 := befL_step (n : Int) ha
    have s2 := befL_step (n : Int) hc
    rw [ho n (by omega) (by omega)] at s2
    rw [show ((n + 1 : Nat) : Int) = (n : Int) + 1 by omega, s1, s2]
    cases h : openW (n : Int) a <;> simp <;> omega
end Go.Proofs.YthiclaihlpkinaaGreat
namespace Go.Proofs.YthiclaihlpkinaaGreat
open Go.RowKit
/-- Spans one behind the other that do not touch. -/
def gapV : Int → List Sp → Bool
  | _, [] => true
  | p, s :: r => decide (p < s.f) && decide (s.f < s.t) && gapV s.t r
theorem gapV_cons {p : Int} {s : Sp} {r : List Sp} : gapV p (s :: r) = true ↔ p < s.f ∧ s.f < s.t ∧ gapV s.t r = true := by
  simp only [gapV, Bool.and_eq_true, decide_eq_true_eq, and_assoc]
theorem gapV_mono {p q : Int} (hpq : q ≤ p) {l : List Sp} (h : gapV p l = true) : gapV q l = true := by
  cases l with
  | nil => rfl
  | cons s r => rw [gapV_cons] at *; exact ⟨by omega, h.2⟩
theorem gapV_mem {s : Sp} : ∀ {p : Int} {l : List Sp}, gapV p l = true → s ∈ l → p < s.f ∧ s.f < s.t := by
  intro p l
  induction l generalizing p with
  | nil => intro _ h; simp at h
  | cons a r ih =>
    intro h hs
    rw [gapV_cons] at h
    rcases List.mem_cons.1 hs with rfl | hs
    · exact ⟨h.1, h.2.1⟩
    · have := ih h.2.2 hs
      exact ⟨by omega, this.2⟩
theorem gapV_none : ∀ {p : Int} {l : List Sp} {w : Int}, gapV p l = true → w ≤ p → openW w l = false := by
  intro p l w h hw
  rw [openW, List.any_eq_false]
  intro s hs
  have := gapV_mem h hs
  simp [inS]; omega
theorem gapV_append {p : Int} {l l' : List Sp} : gapV p (l ++ l') = true ↔ gapV p l = true ∧ gapV (endT p l) l' = true := by
  induction l generalizing p with
  | nil => simp [gapV, endT]
  | cons a r ih => rw [List.cons_append, gapV_cons, gapV_cons, ih, endT, and_assoc, and_assoc]
theorem gapV_one {p : Int} {s : Sp} : gapV p [s] = true ↔ p < s.f ∧ s.f < s.t := by rw [gapV_cons]; simp [gapV]
/-- Two such lists with the same minutes are the same. -/
theorem gap_uniq : ∀ {p q : Int} {l l' : List Sp}, gapV p l = true → gapV q l' = true → (∀ w, openW w l = openW w l') → l = l' := by
  intro p q l
  induction l generalizing p q with
  | nil =>
    intro l' _ h2 h
    cases l' with
    | nil => rfl
    | cons s r =>
      rw [gapV_cons] at h2
      have := h s.f
      rw [openW_cons] at this
      have hin : inS s.f s = true := by simp [inS]; omega
      rw [hin] at this
      simp [openW] at this
  | cons s r ih =>
    intro l' h1 h2 h
    cases l' with
    | nil =>
      rw [gapV_cons] at h1
      have := h s.f
      rw [openW_cons] at this
      have hin : inS s.f s = true := by simp [inS]; omega
      rw [hin] at this
      simp [openW] at this
    | cons s' r' =>
      rw [gapV_cons] at h1 h2
      obtain ⟨a4, a2, a5⟩ := h1
      obtain ⟨b4, b2, b5⟩ := h2
      have n1 : ∀ w, w ≤ s.t → openW w r = false := fun w hw => gapV_none a5 hw
      have n2 : ∀ w, w ≤ s'.t → openW w r' = false := fun w hw => gapV_none b5 hw
      have e1 : s.f = s'.f := by
        have q1 := h s.f
        have q2 := h s'.f
        rw [openW_cons, openW_cons] at q1 q2
        have i1 : inS s.f s = true := by simp [inS]; omega
        have i2 : inS s'.f s' = true := by simp [inS]; omega
        rw [i1, Bool.true_or] at q1
        rw [i2, Bool.true_or] at q2
        by_cases c1 : s.f < s'.f
        · rw [n2 s.f (by omega)] at q1
          have : inS s.f s' = false := by simp [inS]; omega
          rw [this] at q1; simp at q1
        · by_cases c2 : s'.f < s.f
          · rw [n1 s'.f (by omega)] at q2
            have : inS s'.f s = false := by simp [inS]; omega
            rw [this] at q2; simp at q2
          · omega
      have e2 : s.t = s'.t := by
        have q1 := h s.t
        have q2 := h s'.t
        rw [openW_cons, openW_cons] at q1 q2
        by_cases c1 : s.t < s'.t
        · rw [n1 s.t (by omega)] at q1
          have i1 : inS s.t s = false := by simp [inS]
          have i2 : inS s.t s' = true := by simp [inS]; omega
          rw [i1, i2] at q1; simp at q1
        · by_cases c2 : s'.t < s.t
          · rw [n2 s'.t (by omega)] at q2
            have i1 : inS s'.t s' = false := by simp [inS]
            have i2 : inS s'.t s = true := by simp [inS]; omega
            rw [i1, i2] at q2; simp at q2
          · omega
      have e3 : s = s' := by cases s; cases s'; simp at e1 e2; simp [e1, e2]
      subst e3
      congr 1
      refine ih a5 b5 fun w => ?_
      by_cases hw : w ≤ s.t
      · rw [n1 w hw, n2 w hw]
      · have := h w
        rw [openW_cons, openW_cons] at this
        have hi : inS w s = false := by simp [inS]; omega
        rw [hi] at this
        simpa using this
/-! Merging of sorted spans. -/
theorem mrg_gap : ∀ (l acc : List Sp), l.Pairwise (fun a b => a.f ≤ b.f) → (∀ s ∈ l, 0 ≤ s.f ∧ s.f < s.t) → gapV (-1) acc = true → (∀ a ∈ acc, ∀ s ∈ l, a.f ≤ s.f) →
    gapV (-1) (l.foldl mrg acc) = true ∧ ∀ w, openW w (l.foldl mrg acc) = (openW w acc || l.any (inS w)) := by
  intro l
  induction l with
  | nil => intro acc _ _ h _; exact ⟨h, fun w => by simp⟩
  | cons s r ih =>
    intro acc hp hv hc hf
    obtain ⟨p1, p2⟩ := List.pairwise_cons.1 hp
    have hs := hv s (by simp)
    have key : gapV (-1) (mrg acc s) = true ∧ (∀ w, openW w (mrg acc s) = (openW w acc || inS w s)) ∧ ∀ a ∈ mrg acc s, a.f ≤ s.f := by
      rcases List.eq_nil_or_concat acc with rfl | ⟨a0, q, rfl⟩
      · refine ⟨by show gapV (-1) [s] = true; rw [gapV_one]; omega, fun w => by show openW w [s] = _; rw [openW_one]; simp [openW], fun a ha => ?_⟩
        have ha : a ∈ [s] := ha
        simp at ha; subst ha; exact Int.le_refl _
      · rw [List.concat_eq_append] at *
        rw [gapV_append, gapV_one] at hc
        have hq := hf q (by simp) s (by simp)
        by_cases ht : s.f ≤ q.t
        · have hr : mrg (a0 ++ [q]) s = a0 ++ [⟨q.f, if q.t < s.t then s.t else q.t⟩] := by
            rw [mrg, last_snoc]
            simp only
            rw [if_pos ht, set_snoc]
          rw [hr]
          refine ⟨?_, fun w => ?_, fun a ha => ?_⟩
          · rw [gapV_append, gapV_one]
            exact ⟨hc.1, by simp only; split <;> omega⟩
          · rw [openW_append, openW_append, openW_one, openW_one, Bool.or_assoc]
            congr 1
            rw [Bool.eq_iff_iff]
            simp only [inS, Bool.and_eq_true, Bool.or_eq_true, decide_eq_true_eq]
            split <;> omega
          · simp only [List.mem_append, List.mem_singleton] at ha
            rcases ha with ha | rfl
            · exact hf a (by simp [ha]) s (by simp)
            · exact hq
        · have hr : mrg (a0 ++ [q]) s = a0 ++ [q] ++ [s] := by
            rw [mrg, last_snoc]
            simp only
            rw [if_neg ht]
          rw [hr]
          refine ⟨?_, fun w => ?_, fun a ha => ?_⟩
          · rw [gapV_append, gapV_one, endT_snoc, gapV_append, gapV_one]
            exact ⟨hc, by omega⟩
          · rw [openW_append, openW_one]
          · simp only [List.mem_append, List.mem_singleton] at ha
            rcases ha with ha | rfl
            · exact hf a (by simpa using ha) s (by simp)
            · exact Int.le_refl _
    obtain ⟨k1, k2, k3⟩ := key
    obtain ⟨i1, i2⟩ := ih (mrg acc s) p2 (fun x hx => hv x (by simp [hx])) k1 fun a ha x hx => Int.le_trans (k3 a ha) (p1 x hx)
    exact ⟨i1, fun w => by rw [List.foldl_cons, i2 w, k2 w, List.any_cons, Bool.or_assoc]⟩
/-! The reference's way: one span more. -/
def joinS (x y : Sp) : Sp := ⟨if x.f < y.f then x.f else y.f, if x.t < y.t then y.t else x.t⟩
def insU : Sp → List Sp → List Sp
  | x, [] => [x]
  | x, y :: r => if y.t < x.f then y :: insU x r else if x.t < y.f then x :: y :: r else insU (joinS x y) r
def unionL (l : List Sp) : List Sp := l.foldl (fun out x => insU x out) []
theorem insU_spec : ∀ {p : Int} {x : Sp} {out : List Sp}, gapV p out = true → p < x.f → x.f < x.t →
    gapV p (insU x out) = true ∧ ∀ w, openW w (insU x out) = (openW w out || inS w x) := by
  intro p x out
  induction out generalizing p x with
  | nil => intro _ h1 h2; exact ⟨by rw [insU, gapV_one]; exact ⟨h1, h2⟩, fun w => by rw [insU, openW_one]; simp [openW]⟩
  | cons y r ih =>
    intro h h1 h2
    rw [gapV_cons] at h
    obtain ⟨c1, c2, c3⟩ := h
    rw [insU]
    by_cases q1 : y.t < x.f
    · rw [if_pos q1]
      obtain ⟨i1, i2⟩ := ih c3 q1 h2
      refine ⟨by rw [gapV_cons]; exact ⟨c1, c2, i1⟩, fun w => ?_⟩
      rw [openW_cons, openW_cons, i2, Bool.or_assoc]
    · rw [if_neg q1]
      by_cases q2 : x.t < y.f
      · rw [if_pos q2]
        refine ⟨by rw [gapV_cons, gapV_cons]; exact ⟨h1, h2, q2, c2, c3⟩, fun w => ?_⟩
        rw [openW_cons, Bool.or_comm]
      · rw [if_neg q2]
        have hj1 : p < (joinS x y).f := by simp only [joinS]; split <;> omega
        have hj2 : (joinS x y).f < (joinS x y).t := by simp only [joinS]; (repeat' split) <;> omega
        obtain ⟨i1, i2⟩ := ih (gapV_mono (q := p) (by omega) c3) hj1 hj2
        refine ⟨i1, fun w => ?_⟩
        rw [i2, openW_cons]
        have : inS w (joinS x y) = (inS w y || inS w x) := by
          rw [Bool.eq_iff_iff]
          clear hj1 hj2 i1 i2 ih
          by_cases k1 : x.f < y.f <;> by_cases k2 : x.t < y.t <;> simp only [joinS, k1, k2, if_true, if_false, inS, Bool.and_eq_true, Bool.or_eq_true, decide_eq_true_eq] <;> omega
        rw [this]
        cases inS w y <;> cases inS w x <;> cases openW w r <;> rfl
theorem union_spec : ∀ (l out : List Sp), gapV (-1) out = true → (∀ s ∈ l, 0 ≤ s.f ∧ s.f < s.t) →
    gapV (-1) (l.foldl (fun out x => insU x out) out) = true ∧ ∀ w, openW w (l.foldl (fun out x => insU x out) out) = (openW w out || l.any (inS w)) := by
  intro l
  induction l with
  | nil => intro out h _; exact ⟨h, fun w => by simp⟩
  | cons s r ih =>
    intro out h hv
    have hs := hv s (by simp)
    obtain ⟨k1, k2⟩ := insU_spec (p := -1) (x := s) h (by omega) hs.2
    obtain ⟨i1, i2⟩ := ih (insU s out) k1 fun x hx => hv x (by simp [hx])
    exact ⟨i1, fun w => by rw [List.foldl_cons, i2 w, k2 w, List.any_cons, Bool.or_assoc]⟩
theorem unionL_spec {l : List Sp} (h : ∀ s ∈ l, 0 ≤ s.f ∧ s.f < s.t) : gapV (-1) (unionL l) = true ∧ ∀ w, openW w (unionL l) = openW w l := by
  obtain ⟨h1, h2⟩ := union_spec l [] rfl h
  exact ⟨h1, fun w => by rw [unionL, h2]; rfl⟩
theorem openW_perm {w : Int} {a b : List Sp} (h : a.Perm b) : openW w a = openW w b := by
  rw [openW, openW, Bool.eq_iff_iff, List.any_eq_true, List.any_eq_true]
  exact ⟨fun ⟨x, h1, h2⟩ => ⟨x, h.mem_iff.1 h1, h2⟩, fun ⟨x, h1, h2⟩ => ⟨x, h.mem_iff.2 h1, h2⟩⟩
/-- What merging leaves of the sorted spans is the union. -/
theorem mrg_union {l l' : List Sp} (hp : l'.Perm l) (hs : l'.Pairwise (fun a b => a.f ≤ b.f)) (h : ∀ s ∈ l, 0 ≤ s.f ∧ s.f < s.t) : l'.foldl mrg [] = unionL l := by
  obtain ⟨h1, h2⟩ := mrg_gap l' [] hs (fun s hm => h s (hp.mem_iff.1 hm)) rfl (by simp)
  obtain ⟨h3, h4⟩ := unionL_spec h
  refine gap_uniq h1 h3 fun w => ?_
  rw [h2, h4, ← openW_perm hp]
  rfl
theorem union_perm {l l' : List Sp} (hp : l'.Perm l) (h : ∀ s ∈ l, 0 ≤ s.f ∧ s.f < s.t) : unionL l' = unionL l := by
  obtain ⟨h1, h2⟩ := unionL_spec (l := l') fun s hm => h s (hp.mem_iff.1 hm)
  obtain ⟨h3, h4⟩ := unionL_spec h
  exact gap_uniq h1 h3 fun w => by rw [h2, h4, openW_perm hp]
theorem union_again {l : List Sp} (h : ∀ s ∈ l, 0 ≤ s.f ∧ s.f < s.t) : unionL (unionL l) = unionL l := by
  obtain ⟨h3, h4⟩ := unionL_spec h
  obtain ⟨h1, h2⟩ := unionL_spec (l := unionL l) fun s hm => by have := gapV_mem h3 hm; omega
  exact gap_uniq h1 h3 h2
/-! Ends, lengths, minutes of the union. -/
theorem insU_end {M : Int} : ∀ {x : Sp} {out : List Sp}, x.t ≤ M → (∀ s ∈ out, s.t ≤ M) → ∀ s ∈ insU x out, s.t ≤ M := by
  intro x out
  induction out generalizing x with
  | nil => intro hx _ s hs; simp [insU] at hs; subst hs; exact hx
  | cons y r ih =>
    intro hx h s hs
    have hy := h y (by simp)
    have hr : ∀ s ∈ r, s.t ≤ M := fun s hs => h s (by simp [hs])
    rw [insU] at hs
    split at hs
    · rcases List.mem_cons.1 hs with rfl | hs
      · exact hy
      · exact ih hx hr s hs
    · split at hs
      · rcases List.mem_cons.1 hs with rfl | hs
        · exact hx
        · exact h s hs
      · exact ih (by simp only [joinS]; split <;> omega) hr s hs
theorem union_end {M : Int} : ∀ (l out : List Sp), (∀ s ∈ l, s.t ≤ M) → (∀ s ∈ out, s.t ≤ M) → ∀ s ∈ l.foldl (fun out x => insU x out) out, s.t ≤ M := by
  intro l
  induction l with
  | nil => intro out _ h; exact h
  | cons x r ih => intro out h1 h2; exact ih (insU x out) (fun s hs => h1 s (by simp [hs])) (insU_end (h1 x (by simp)) h2)
theorem insU_len : ∀ {x : Sp} {out : List Sp}, (insU x out).length ≤ out.length + 1 := by
  intro x out
  induction out generalizing x with
  | nil => simp [insU]
  | cons y r ih =>
    rw [insU]
    split
    · have := ih (x := x); simp; omega
    · split
      · simp
      · have := ih (x := joinS x y); simp; omega
theorem union_len : ∀ (l out : List Sp), (l.foldl (fun out x => insU x out) out).length ≤ out.length + l.length := by
  intro l
  induction l with
  | nil => intro out; simp
  | cons x r ih => intro out; have h1 := ih (insU x out); have h2 := insU_len (x := x) (out := out); simp only [List.foldl_cons, List.length_cons]; omega
theorem unionL_len {l : List Sp} : (unionL l).length ≤ l.length := by have := union_len l []; simpa [unionL] using this
def totL : List Sp → Int
  | [] => 0
  | s :: r => s.t - s.f + totL r
theorem totL_bd {M : Int} : ∀ {p : Int} {l : List Sp}, gapV p l = true → (∀ s ∈ l, s.t ≤ M) → p ≤ M → 0 ≤ totL l ∧ totL l ≤ M - p := by
  intro p l
  induction l generalizing p with
  | nil => intro _ _ h; simp [totL]; omega
  | cons s r ih =>
    intro h hM hp
    rw [gapV_cons] at h
    have h1 := hM s (by simp)
    have := ih h.2.2 (fun s hs => hM s (by simp [hs])) h1
    simp only [totL]; omega
theorem totL_nn : ∀ {p : Int} {l : List Sp}, gapV p l = true → 0 ≤ totL l := by
  intro p l
  induction l generalizing p with
  | nil => intro _; simp [totL]
  | cons s r ih =>
    intro h
    rw [gapV_cons] at h
    have := ih h.2.2
    simp only [totL]; omega
theorem totL_mem {s : Sp} : ∀ {p : Int} {l : List Sp}, gapV p l = true → s ∈ l → s.t - s.f ≤ totL l := by
  intro p l
  induction l generalizing p with
  | nil => intro _ h; simp at h
  | cons a r ih =>
    intro h hs
    rw [gapV_cons] at h
    have h0 := totL_nn h.2.2
    simp only [totL]
    rcases List.mem_cons.1 hs with rfl | hs
    · omega
    · have := ih h.2.2 hs; omega
theorem insU_tot : ∀ {p : Int} {x : Sp} {out : List Sp}, gapV p out = true → x.f < x.t → totL (insU x out) ≤ totL out + (x.t - x.f) := by
  intro p x out
  induction out generalizing p x with
  | nil => intro _ _; simp [insU, totL]
  | cons y r ih =>
    intro h h2
    rw [gapV_cons] at h
    obtain ⟨c1, c2, c3⟩ := h
    rw [insU]
    split
    · have := ih (x := x) c3 h2; simp only [totL]; omega
    · split
      · simp only [totL]; omega
      · have hj2 : (joinS x y).f < (joinS x y).t := by simp only [joinS]; (repeat' split) <;> omega
        have := ih (x := joinS x y) c3 hj2
        have hj : (joinS x y).t - (joinS x y).f ≤ y.t - y.f + (x.t - x.f) := by simp only [joinS]; (repeat' split) <;> omega
        simp only [totL]; omega
theorem union_tot : ∀ (l out : List Sp), gapV (-1) out = true → (∀ s ∈ l, 0 ≤ s.f ∧ s.f < s.t) → totL (l.foldl (fun out x => insU x out) out) ≤ totL out + totL l := by
  intro l
  induction l with
  | nil => intro out _ _; simp [totL]
  | cons x r ih =>
    intro out h hv
    have hx := hv x (by simp)
    have h1 := insU_tot (x := x) h hx.2
    have h2 := ih (insU x out) (insU_spec (p := -1) h (by omega) hx.2).1 fun s hs => hv s (by simp [hs])
    simp only [List.foldl_cons, totL]; omega
/-- A span all of whose minutes are there lies in one of them. -/
theorem gap_in {f t : Int} (hft : f < t) : ∀ {p : Int} {l : List Sp}, gapV p l = true → (∀ w, f ≤ w → w < t → openW w l = true) → ∃ y ∈ l, y.f ≤ f ∧ t ≤ y.t := by
  intro p l
  induction l generalizing p with
  | nil => intro _ h; have := h f (Int.le_refl _) hft; simp [openW] at this
  | cons y r ih =>
    intro h ho
    rw [gapV_cons] at h
    obtain ⟨c1, c2, c3⟩ := h
    by_cases q : inS f y = true
    · simp [inS] at q
      by_cases q2 : t ≤ y.t
      · exact ⟨y, by simp, q.1, q2⟩
      · have := ho y.t (by omega) (by omega)
        rw [openW_cons, gapV_none c3 (Int.le_refl _)] at this
        simp [inS] at this
    · have h1 := ho f (Int.le_refl _) hft
      rw [openW_cons] at h1
      have q : inS f y = false := by simpa using q
      rw [q, Bool.false_or] at h1
      have h2 : y.t < f := by
        by_cases c : f ≤ y.t
        · rw [gapV_none c3 c] at h1; cases h1
        · omega
      obtain ⟨z, z1, z2⟩ := ih c3 fun w w1 w2 => by
        have := ho w w1 w2
        rw [openW_cons] at this
        have e : inS w y = false := by simp [inS]; omega
        rw [e, Bool.false_or] at this
        exact this
      exact ⟨z, by simp [z1], z2⟩
theorem union_long {l : List Sp} (h : ∀ s ∈ l, 0 ≤ s.f ∧ s.f < s.t) {s : Sp} (hs : s ∈ l) : s.t - s.f ≤ totL (unionL l) := by
  obtain ⟨h3, h4⟩ := unionL_spec h
  obtain ⟨y, y1, y2, y3⟩ := gap_in (h s hs).2 h3 fun w w1 w2 => by
    rw [h4, openW, List.any_eq_true]
    exact ⟨s, hs, by simp [inS]; omega⟩
  have := totL_mem h3 y1
  omega
end Go.Proofs.YthiclaihlpkinaaGreat
namespace Go.Proofs.YthiclaihlpkinaaGreat
open Go.RowKit
/-- How many spans are active in a minute. -/
def actN (A : List Sp) (t : Int) : Nat := A.countP (inS t)
def MostS (A : List Sp) (n at_ : Int) : Prop :=
  (n = 0 ∧ at_ = 0 ∧ ∀ t, actN A t = 0) ∨ (0 < n ∧ (actN A at_ : Int) = n ∧ (∀ t, (actN A t : Int) ≤ n) ∧ ∀ t, t < at_ → (actN A t : Int) < n)
theorem most_uniq {A : List Sp} {n a n' a' : Int} (h : MostS A n a) (h' : MostS A n' a') : n = n' ∧ a = a' := by
  rcases h with ⟨h1, h2, h3⟩ | ⟨h1, h2, h3, h4⟩ <;> rcases h' with ⟨g1, g2, g3⟩ | ⟨g1, g2, g3, g4⟩
  · omega
  · have := h3 a'; omega
  · have := g3 a; omega
  · have e1 := h3 a'
    have e2 := g3 a
    have e : n = n' := by omega
    refine ⟨e, ?_⟩
    by_cases c1 : a < a'
    · have := g4 a c1; omega
    · by_cases c2 : a' < a
      · have := h4 a' c2; omega
      · omega
/-- A change of the number. -/
structure Chg where
  time : Int
  by_ : Int
def sumB : List Chg → Int
  | [] => 0
  | c :: r => c.by_ + sumB r
theorem sumB_append (a b : List Chg) : sumB (a ++ b) = sumB a + sumB b := by
  induction a with
  | nil => simp [sumB]
  | cons c r ih => simp only [List.cons_append, sumB, ih]; omega
theorem sumB_perm {a b : List Chg} (h : a.Perm b) : sumB a = sumB b := by
  induction h with
  | nil => rfl
  | cons x _ ih => simp only [sumB, ih]
  | swap x y l => simp only [sumB]; omega
  | trans _ _ h1 h2 => exact h1.trans h2
def sweepL (A : List Sp) : List Chg := A.flatMap fun s => [⟨s.f, 1⟩, ⟨s.t, -1⟩]
theorem sweep_sum {t : Int} : ∀ {A : List Sp}, (∀ s ∈ A, s.f < s.t) → sumB ((sweepL A).filter fun c => decide (c.time ≤ t)) = actN A t := by
  intro A
  induction A with
  | nil => intro _; rfl
  | cons s r ih =>
    intro h
    have hs := h s (by simp)
    have hi := ih fun x hx => h x (by simp [hx])
    have e : sweepL (s :: r) = [⟨s.f, 1⟩, ⟨s.t, -1⟩] ++ sweepL r := rfl
    rw [e, List.filter_append, sumB_append, hi]
    unfold actN
    rw [List.countP_cons]
    by_cases c1 : s.f ≤ t
    · by_cases c2 : s.t ≤ t
      · have q : inS t s = false := by simp [inS]; omega
        simp [c1, c2, q, sumB]
      · have q : inS t s = true := by simp [inS]; omega
        simp [c1, c2, q, sumB]
        omega
    · have c2 : ¬ s.t ≤ t := by omega
      have q : inS t s = false := by simp [inS]; omega
      simp [c1, c2, q, sumB]
def leC (a b : Chg) : Prop := a.time < b.time ∨ (a.time = b.time ∧ a.by_ ≤ b.by_)
theorem filter_pre {t : Int} : ∀ {S : List Chg}, S.Pairwise leC → (S.filter fun c => decide (c.time ≤ t)) <+: S := by
  intro S
  induction S with
  | nil => intro _; exact List.prefix_rfl
  | cons c r ih =>
    intro h
    obtain ⟨h1, h2⟩ := List.pairwise_cons.1 h
    by_cases q : c.time ≤ t
    · rw [List.filter_cons_of_pos (by simpa using q)]
      obtain ⟨z, hz⟩ := ih h2
      exact ⟨z, by rw [List.cons_append, hz]⟩
    · have : ((c :: r).filter fun c => decide (c.time ≤ t)) = [] := by
        rw [List.filter_eq_nil_iff]
        intro x hx
        rcases List.mem_cons.1 hx with rfl | hx
        · simpa using q
        · have := h1 x hx
          unfold leC at this
          simp; omega
      rw [this]; exact List.nil_prefix
/-- The sweep. -/
def scanM (s : Int × Int × Int) (c : Chg) : Int × Int × Int := if s.2.1 < s.1 + c.by_ then (s.1 + c.by_, s.1 + c.by_, c.time) else (s.1 + c.by_, s.2)
theorem scan_inv : ∀ (P : List Chg), let s := P.foldl scanM (0, 0, 0)
    s.1 = sumB P ∧ (∀ Q, Q <+: P → sumB Q ≤ s.2.1) ∧ ((s.2.1 = 0 ∧ s.2.2 = 0) ∨ (0 < s.2.1 ∧ ∃ Q c, Q ++ [c] <+: P ∧ sumB (Q ++ [c]) = s.2.1 ∧ c.time = s.2.2 ∧ ∀ Q', Q' <+: Q → sumB Q' < s.2.1)) := by
  intro P
  generalize hn : P.length = n
  induction n generalizing P with
  | zero =>
    have : P = [] := List.eq_nil_of_length_eq_zero hn
    subst this
    refine ⟨rfl, fun Q hQ => ?_, .inl ⟨rfl, rfl⟩⟩
    rw [List.prefix_nil] at hQ
    subst hQ; exact Int.le_refl _
  | succ n ih =>
    rcases List.eq_nil_or_concat P with rfl | ⟨P0, c, rfl⟩
    · simp at hn
    rw [List.concat_eq_append] at *
    obtain ⟨h1, h2, h3⟩ := ih P0 (by simpa using hn)
    have hpre : ∀ Q, Q <+: P0 ++ [c] → Q <+: P0 ∨ Q = P0 ++ [c] := fun Q hQ => by
      rcases List.prefix_concat_iff.1 (by simpa using hQ) with h | h
      · exact .inr (by simpa using h)
      · exact .inl h
    simp only [List.foldl_append, List.foldl_cons, List.foldl_nil] at *
    generalize P0.foldl scanM (0, 0, 0) = s at *
    have hsum : sumB (P0 ++ [c]) = s.1 + c.by_ := by rw [sumB_append, h1]; simp [sumB]
    unfold scanM
    by_cases q : s.2.1 < s.1 + c.by_
    · rw [if_pos q]
      have h0 : 0 ≤ s.2.1 := h2 [] List.nil_prefix
      refine ⟨hsum.symm, fun Q hQ => ?_, .inr ⟨by simp only; omega, P0, c, List.prefix_rfl, hsum, rfl, fun Q' hQ' => ?_⟩⟩
      · rcases hpre Q hQ with h | rfl
        · have := h2 Q h; simp only; omega
        · rw [hsum]; exact Int.le_refl _
      · have := h2 Q' hQ'; simp only; omega
    · rw [if_neg q]
      refine ⟨hsum.symm, fun Q hQ => ?_, ?_⟩
      · rcases hpre Q hQ with h | rfl
        · exact h2 Q h
        · rw [hsum]; simp only; omega
      · rcases h3 with h3 | ⟨h3, Q, d, h4, h5, h6, h7⟩
        · exact .inl h3
        · exact .inr ⟨h3, Q, d, h4.trans (List.prefix_append _ _), h5, h6, h7⟩
theorem sweep_most {A : List Sp} (hA : ∀ s ∈ A, s.f < s.t) {S : List Chg} (hp : S.Perm (sweepL A)) (hs : S.Pairwise leC) : MostS A (S.foldl scanM (0, 0, 0)).2.1 (S.foldl scanM (0, 0, 0)).2.2 := by
  obtain ⟨_, h2, h3⟩ := scan_inv S
  have hact : ∀ t, (actN A t : Int) = sumB (S.filter fun c => decide (c.time ≤ t)) := fun t => by rw [← sweep_sum hA, sumB_perm (hp.filter _)]
  have hle : ∀ t, (actN A t : Int) ≤ (S.foldl scanM (0, 0, 0)).2.1 := fun t => by rw [hact]; exact h2 _ (filter_pre hs)
  generalize S.foldl scanM (0, 0, 0) = s at *
  rcases h3 with ⟨h3, h4⟩ | ⟨h3, Q, c, ⟨R, hR⟩, h5, h6, h7⟩
  · refine .inl ⟨h3, h4, fun t => ?_⟩
    have := hle t; omega
  · subst hR
    have hc : 0 < c.by_ := by
      have := h7 Q List.prefix_rfl
      rw [sumB_append] at h5
      simp [sumB] at h5
      omega
    obtain ⟨p1, p2, p3⟩ := List.pairwise_append.1 hs
    obtain ⟨p4, _, p5⟩ := List.pairwise_append.1 p1
    refine .inr ⟨h3, ?_, hle, fun t ht => ?_⟩
    · have e1 : ((Q ++ [c]).filter fun d => decide (d.time ≤ s.2.2)) = Q ++ [c] := by
        rw [List.filter_eq_self]
        intro d hd
        rcases List.mem_append.1 hd with hd | hd
        · have := p5 d hd c (by simp)
          unfold leC at this; simp; omega
        · simp at hd; subst hd; simp; omega
      have e2 : ∀ (l : List Chg), (∀ d ∈ l, leC c d) → 0 ≤ sumB (l.filter fun d => decide (d.time ≤ s.2.2)) := by
        intro l
        induction l with
        | nil => intro _; exact Int.le_refl _
        | cons d r ih =>
          intro hl
          have h0 := ih fun x hx => hl x (by simp [hx])
          by_cases q : d.time ≤ s.2.2
          · rw [List.filter_cons_of_pos (by simpa using q)]
            have := hl d (by simp)
            unfold leC at this
            simp only [sumB]; omega
          · rw [List.filter_cons_of_neg (by simpa using q)]; exact h0
      have e3 := e2 R fun d hd => p3 c (by simp) d hd
      have e4 := hact s.2.2
      rw [List.filter_append, e1, sumB_append, h5] at e4
      have := hle s.2.2
      omega
    · rw [hact, List.filter_append, List.filter_append]
      have z1 : ([c].filter fun d => decide (d.time ≤ t)) = [] := by simp; omega
      have z2 : (R.filter fun d => decide (d.time ≤ t)) = [] := by
        rw [List.filter_eq_nil_iff]
        intro d hd
        have := p3 c (by simp) d hd
        unfold leC at this; simp; omega
      rw [z1, z2, List.append_nil, List.append_nil]
      exact h7 _ (filter_pre p4)
/-! The reference looks at the minutes in which something begins. -/
def stepA (A : List Sp) (s : Int × Int) (t : Int) : Int × Int := if s.1 < (actN A t : Int) ∨ ((actN A t : Int) = s.1 ∧ 0 < s.1 ∧ t < s.2) then ((actN A t : Int), t) else s
theorem look_inv {A : List Sp} : ∀ (F G : List Int) (s : Int × Int), ((s.1 = 0 ∧ s.2 = 0 ∧ ∀ t ∈ G, actN A t = 0) ∨ (0 < s.1 ∧ (actN A s.2 : Int) = s.1 ∧ ∀ t ∈ G, (actN A t : Int) ≤ s.1 ∧ ((actN A t : Int) = s.1 → s.2 ≤ t))) →
    let r := F.foldl (stepA A) s
    (r.1 = 0 ∧ r.2 = 0 ∧ ∀ t ∈ G ++ F, actN A t = 0) ∨ (0 < r.1 ∧ (actN A r.2 : Int) = r.1 ∧ ∀ t ∈ G ++ F, (actN A t : Int) ≤ r.1 ∧ ((actN A t : Int) = r.1 → r.2 ≤ t)) := by
  intro F
  induction F with
  | nil => intro G s h; simpa using h
  | cons u F ih =>
    intro G s h
    have := ih (G ++ [u]) (stepA A s u) ?_
    · simpa using this
    unfold stepA
    by_cases q : s.1 < (actN A u : Int) ∨ ((actN A u : Int) = s.1 ∧ 0 < s.1 ∧ u < s.2)
    · rw [if_pos q]
      right
      rcases h with ⟨h1, h2, h3⟩ | ⟨h1, h2, h3⟩
      · refine ⟨by simp only; omega, rfl, fun t ht => ?_⟩
        simp only [List.mem_append, List.mem_singleton] at ht
        rcases ht with ht | rfl
        · have := h3 t ht; simp only; omega
        · exact ⟨Int.le_refl _, fun _ => Int.le_refl _⟩
      · refine ⟨by simp only; omega, rfl, fun t ht => ?_⟩
        simp only [List.mem_append, List.mem_singleton] at ht
        rcases ht with ht | rfl
        · have := h3 t ht; simp only
          refine ⟨by omega, fun e => ?_⟩
          rcases q with q | ⟨q1, q2, q3⟩
          · omega
          · have := this.2 (by omega); omega
        · exact ⟨Int.le_refl _, fun _ => Int.le_refl _⟩
    · rw [if_neg q]
      rcases h with ⟨h1, h2, h3⟩ | ⟨h1, h2, h3⟩
      · refine .inl ⟨h1, h2, fun t ht => ?_⟩
        simp only [List.mem_append, List.mem_singleton] at ht
        rcases ht with ht | rfl
        · exact h3 t ht
        · omega
      · refine .inr ⟨h1, h2, fun t ht => ?_⟩
        simp only [List.mem_append, List.mem_singleton] at ht
        rcases ht with ht | rfl
        · exact h3 t ht
        · refine ⟨by omega, fun e => ?_⟩
          by_cases c : s.2 ≤ t
          · exact c
          · exact absurd (.inr ⟨e, h1, by omega⟩) q
theorem act_last {t : Int} : ∀ (A : List Sp), actN A t = 0 ∨ ∃ s ∈ A, inS t s = true ∧ ∀ z ∈ A, inS t z = true → z.f ≤ s.f := by
  intro A
  induction A with
  | nil => exact .inl rfl
  | cons x r ih =>
    by_cases q : inS t x = true
    · right
      rcases ih with ih | ⟨s, s1, s2, s3⟩
      · refine ⟨x, by simp, q, fun z hz hi => ?_⟩
        rcases List.mem_cons.1 hz with rfl | hz
        · exact Int.le_refl _
        · unfold actN at ih
          rw [List.countP_eq_zero] at ih
          exact absurd hi (ih z hz)
      · by_cases c : x.f ≤ s.f
        · refine ⟨s, by simp [s1], s2, fun z hz hi => ?_⟩
          rcases List.mem_cons.1 hz with rfl | hz
          · exact c
          · exact s3 z hz hi
        · refine ⟨x, by simp, q, fun z hz hi => ?_⟩
          rcases List.mem_cons.1 hz with rfl | hz
          · exact Int.le_refl _
          · have := s3 z hz hi; omega
    · rcases ih with ih | ⟨s, s1, s2, s3⟩
      · left
        unfold actN at *
        rw [List.countP_cons, ih, if_neg q]
      · refine .inr ⟨s, by simp [s1], s2, fun z hz hi => ?_⟩
        rcases List.mem_cons.1 hz with rfl | hz
        · exact absurd hi q
        · exact s3 z hz hi
theorem act_from {A : List Sp} {t : Int} (h : actN A t ≠ 0) : ∃ s ∈ A, s.f ≤ t ∧ actN A t ≤ actN A s.f := by
  rcases act_last (t := t) A with h0 | ⟨s, s1, s2, s3⟩
  · exact absurd h0 h
  · have s2' := s2
    simp [inS] at s2'
    refine ⟨s, s1, s2'.1, List.countP_mono_left fun z hz hi => ?_⟩
    have := s3 z hz hi
    simp [inS] at hi ⊢
    omega
theorem look_most {A : List Sp} {F : List Int} (hF : ∀ s ∈ A, s.f ∈ F) : MostS A (F.foldl (stepA A) (0, 0)).1 (F.foldl (stepA A) (0, 0)).2 := by
  have := look_inv (A := A) F [] (0, 0) (.inl ⟨rfl, rfl, by simp⟩)
  simp only [List.nil_append] at this
  generalize F.foldl (stepA A) (0, 0) = r at *
  rcases this with ⟨h1, h2, h3⟩ | ⟨h1, h2, h3⟩
  · refine .inl ⟨h1, h2, fun t => ?_⟩
    by_cases q : actN A t = 0
    · exact q
    · obtain ⟨s, s1, s2, s3⟩ := act_from q
      have := h3 s.f (hF s s1); omega
  · have hle : ∀ t, (actN A t : Int) ≤ r.1 := fun t => by
      by_cases q : actN A t = 0
      · omega
      · obtain ⟨s, s1, s2, s3⟩ := act_from q
        have := (h3 s.f (hF s s1)).1; omega
    refine .inr ⟨h1, h2, hle, fun t ht => ?_⟩
    by_cases q : actN A t = 0
    · omega
    · obtain ⟨s, s1, s2, s3⟩ := act_from q
      have k := h3 s.f (hF s s1)
      have k1 := k.1
      by_cases e : (actN A s.f : Int) = r.1
      · have := k.2 e; omega
      · omega
end Go.Proofs.YthiclaihlpkinaaGreat
namespace Go.Proofs.YthiclaihlpkinaaGreat.Stab
universe u
variable {α : Type u}
structure Swo (lt : α → α → Bool) : Prop where
  irr : ∀ x, lt x x = false
  tr : ∀ x y z, lt x y = true → lt y z = true → lt x z = true
  nt : ∀ x y z, lt x z = true → lt x y = true ∨ lt y z = true
def eqk (lt : α → α → Bool) (k x : α) : Bool := !lt x k && !lt k x
/-- The same elements, those that are alike in the same order. -/
def Stb (lt : α → α → Bool) (l l' : List α) : Prop := l.length = l'.length ∧ ∀ k, l.filter (eqk lt k) = l'.filter (eqk lt k)
def Srtd (lt : α → α → Bool) (l : List α) : Prop := l.Pairwise fun x y => lt y x = false
variable {lt : α → α → Bool}
theorem Swo.asy (h : Swo lt) {x y : α} (a : lt x y = true) : lt y x = false := by
  cases e : lt y x
  · rfl
  · have := h.tr x y x a e; rw [h.irr] at this; cases this
/-- Not less is transitive. -/
theorem Swo.ge (h : Swo lt) {x y z : α} (a : lt y x = false) (b : lt z y = false) : lt z x = false := by
  cases e : lt z x
  · rfl
  · rcases h.nt z y x e with q | q
    · rw [b] at q; cases q
    · rw [a] at q; cases q
/-- Less behind not less. -/
theorem Swo.lt_ge (h : Swo lt) {x y z : α} (a : lt x y = true) (b : lt z y = false) : lt x z = true := by
  rcases h.nt x z y a with q | q
  · exact q
  · rw [b] at q; cases q
theorem Swo.ge_lt (h : Swo lt) {x y z : α} (a : lt y x = false) (b : lt y z = true) : lt x z = true := by
  rcases h.nt y x z b with q | q
  · rw [a] at q; cases q
  · exact q
theorem Stb.refl (l : List α) : Stb lt l l := ⟨rfl, fun _ => rfl⟩
theorem Stb.symm {a b : List α} (h : Stb lt a b) : Stb lt b a := ⟨h.1.symm, fun k => (h.2 k).symm⟩
theorem Stb.trans {a b c : List α} (h : Stb lt a b) (g : Stb lt b c) : Stb lt a c := ⟨h.1.trans g.1, fun k => (h.2 k).trans (g.2 k)⟩
theorem Stb.app {a b c d : List α} (h : Stb lt a b) (g : Stb lt c d) : Stb lt (a ++ c) (b ++ d) := ⟨by simp [h.1, g.1], fun k => by rw [List.filter_append, List.filter_append, h.2, g.2]⟩
theorem Stb.mem (hs : Swo lt) {a b : List α} (h : Stb lt a b) {x : α} : x ∈ a ↔ x ∈ b := by
  have e : ∀ l : List α, x ∈ l ↔ x ∈ l.filter (eqk lt x) := fun l => by simp [List.mem_filter, eqk, hs.irr]
  rw [e a, e b, h.2]
theorem Stb.swap (hs : Swo lt) {X Y : List α} (h : ∀ x ∈ X, ∀ y ∈ Y, lt y x = true) : Stb lt (X ++ Y) (Y ++ X) := by
  refine ⟨by simp [Nat.add_comm], fun k => ?_⟩
  rw [List.filter_append, List.filter_append]
  by_cases hx : X.filter (eqk lt k) = []
  · rw [hx]; simp
  · have hy : Y.filter (eqk lt k) = [] := by
      rw [List.filter_eq_nil_iff]
      intro y hy ey
      obtain ⟨x, hx⟩ := List.exists_mem_of_ne_nil _ hx
      rw [List.mem_filter] at hx
      have hl := h x hx.1 y hy
      simp only [eqk, Bool.and_eq_true, Bool.not_eq_true'] at ey hx
      rcases hs.nt y k x hl with q | q
      · rw [ey.1] at q; cases q
      · rw [hx.2.2] at q; cases q
    rw [hy]; simp
/-- A stable sort leaves one list only. -/
theorem stab_uniq (hs : Swo lt) : ∀ a b : List α, Srtd lt a → Srtd lt b → Stb lt a b → a = b := by
  intro a
  induction a with
  | nil => intro b _ _ h; exact (List.eq_nil_of_length_eq_zero h.1.symm).symm
  | cons x a ih =>
    intro b ha hb h
    match b, h with
    | [], h => have := h.1; simp at this
    | y :: b, h =>
      unfold Srtd at ha hb
      rw [List.pairwise_cons] at ha hb
      have hx : x ∈ y :: b := (h.mem hs).1 (by simp)
      have hy : y ∈ x :: a := (h.mem hs).2 (by simp)
      have e1 : lt y x = false := by
        rcases List.mem_cons.1 hy with q | q
        · rw [q]; exact hs.irr x
        · exact ha.1 y q
      have e2 : lt x y = false := by
        rcases List.mem_cons.1 hx with q | q
        · rw [q]; exact hs.irr y
        · exact hb.1 x q
      have e := h.2 x
      have p1 : eqk lt x x = true := by simp [eqk, hs.irr]
      have p2 : eqk lt x y = true := by simp [eqk, e1, e2]
      rw [List.filter_cons_of_pos p1, List.filter_cons_of_pos p2] at e
      injection e with e _
      subst e
      congr 1
      refine ih b ha.2 hb.2 ⟨by have := h.1; simpa using this, fun k => ?_⟩
      have e := h.2 k
      by_cases p : eqk lt k x = true
      · rw [List.filter_cons_of_pos p, List.filter_cons_of_pos p] at e
        injection e
      · rwa [List.filter_cons_of_neg p, List.filter_cons_of_neg p] at e
theorem srtd_app {a b : List α} : Srtd lt (a ++ b) ↔ Srtd lt a ∧ Srtd lt b ∧ ∀ x ∈ a, ∀ y ∈ b, lt y x = false := List.pairwise_append
theorem srtd_nil : Srtd lt ([] : List α) := List.Pairwise.nil
theorem srtd_one (x : α) : Srtd lt [x] := List.pairwise_singleton _ _
/-- One element goes behind those that are less. -/
theorem put_right (hs : Swo lt) {x : α} {Q1 Q2 : List α} (hq : Srtd lt (Q1 ++ Q2)) (h1 : ∀ y ∈ Q1, lt y x = true) (h2 : ∀ y ∈ Q2, lt y x = false) :
    Srtd lt (Q1 ++ x :: Q2) ∧ Stb lt ([x] ++ (Q1 ++ Q2)) (Q1 ++ x :: Q2) := by
  rw [srtd_app] at hq
  refine ⟨?_, ?_⟩
  · rw [srtd_app]
    refine ⟨hq.1, List.pairwise_cons.2 ⟨h2, hq.2.1⟩, fun a ha b hb => ?_⟩
    rcases List.mem_cons.1 hb with rfl | hb
    · exact hs.asy (h1 a ha)
    · exact hq.2.2 a ha b hb
  · have := (Stb.swap hs (X := [x]) (Y := Q1) (fun a ha b hb => by rw [List.mem_singleton] at ha; subst ha; exact h1 b hb)).app (Stb.refl (lt := lt) Q2)
    simpa using this
theorem put_left (hs : Swo lt) {x : α} {P1 P2 : List α} (hp : Srtd lt (P1 ++ P2)) (h1 : ∀ y ∈ P1, lt x y = false) (h2 : ∀ y ∈ P2, lt x y = true) :
    Srtd lt (P1 ++ x :: P2) ∧ Stb lt ((P1 ++ P2) ++ [x]) (P1 ++ x :: P2) := by
  rw [srtd_app] at hp
  refine ⟨?_, ?_⟩
  · rw [srtd_app]
    refine ⟨hp.1, List.pairwise_cons.2 ⟨fun y hy => hs.asy (h2 y hy), hp.2.1⟩, fun a ha b hb => ?_⟩
    rcases List.mem_cons.1 hb with rfl | hb
    · exact h1 a ha
    · exact hp.2.2 a ha b hb
  · have := (Stb.refl (lt := lt) P1).app (Stb.swap hs (X := P2) (Y := [x]) (fun a ha b hb => by rw [List.mem_singleton] at hb; subst hb; exact h2 a ha))
    simpa using this
/-- The parts of a merge put together. -/
theorem merge_mid (hs : Swo lt) {P1 P2 Q1 Q2 L R : List α} (hp : Srtd lt (P1 ++ P2)) (hq : Srtd lt (Q1 ++ Q2)) (hx : ∀ x ∈ P2, ∀ y ∈ Q1, lt y x = true) (hy : ∀ x ∈ P1, ∀ y ∈ Q2, lt y x = false)
    (hL : Srtd lt L) (hR : Srtd lt R) (sL : Stb lt (P1 ++ Q1) L) (sR : Stb lt (P2 ++ Q2) R) : Srtd lt (L ++ R) ∧ Stb lt ((P1 ++ P2) ++ (Q1 ++ Q2)) (L ++ R) := by
  rw [srtd_app] at hp hq
  refine ⟨srtd_app.2 ⟨hL, hR, fun a ha b hb => ?_⟩, ?_⟩
  · rw [← sL.mem hs] at ha
    rw [← sR.mem hs] at hb
    rcases List.mem_append.1 ha with ha | ha <;> rcases List.mem_append.1 hb with hb | hb
    · exact hp.2.2 a ha b hb
    · exact hy a ha b hb
    · exact hs.asy (hx b hb a ha)
    · exact hq.2.2 a ha b hb
  · have h1 : Stb lt ((P1 ++ P2) ++ (Q1 ++ Q2)) ((P1 ++ Q1) ++ (P2 ++ Q2)) := by
      have := ((Stb.refl (lt := lt) P1).app (Stb.swap hs (X := P2) (Y := Q1) hx)).app (Stb.refl (lt := lt) Q2)
      simpa using this
    exact h1.trans (sL.app sR)
/-! Lists of sorted runs. -/
inductive Run (lt : α → α → Bool) (bs : Nat) : List α → Prop
  | last {P : List α} : P.length ≤ bs → Srtd lt P → Run lt bs P
  | cons {P r : List α} : P.length = bs → Srtd lt P → Run lt bs r → Run lt bs (P ++ r)
inductive RunE (lt : α → α → Bool) (bs : Nat) : List α → Prop
  | nil : RunE lt bs []
  | snoc {D P : List α} : RunE lt bs D → P.length = bs → Srtd lt P → RunE lt bs (D ++ P)
theorem RunE.app {bs : Nat} {D : List α} (h : RunE lt bs D) : ∀ {r : List α}, Run lt bs r → Run lt bs (D ++ r) := by
  induction h with
  | nil => intro r hr; exact hr
  | snoc hD hP hS ih => intro r hr; rw [List.append_assoc]; exact ih (.cons hP hS hr)
theorem Run.all {bs : Nat} {r : List α} (h : Run lt bs r) (hl : r.length ≤ bs) : Srtd lt r := by
  cases h with
  | last _ hs => exact hs
  | cons hP hS hr =>
    rename_i P q
    have : q = [] := by rw [List.length_append] at hl; exact List.length_eq_zero_iff.1 (by omega)
    subst this; simpa using hS
theorem Run.one {bs : Nat} {r : List α} (h : Run lt bs r) (hl : bs < r.length) : ∃ P q, r = P ++ q ∧ P.length = bs ∧ Srtd lt P ∧ Run lt bs q := by
  cases h with
  | last h1 hs => omega
  | cons hP hS hr => exact ⟨_, _, rfl, hP, hS, hr⟩
theorem Run.two {bs : Nat} (hb : 0 < bs) {r : List α} (h : Run lt bs r) (hl : 2 * bs ≤ r.length) : ∃ P Q q, r = P ++ (Q ++ q) ∧ P.length = bs ∧ Q.length = bs ∧ Srtd lt P ∧ Srtd lt Q ∧ Run lt bs q := by
  obtain ⟨P, q, rfl, hP, hS, hr⟩ := h.one (by omega)
  rw [List.length_append] at hl
  cases hr with
  | last h1 hs => exact ⟨P, q, [], by simp, hP, by omega, hS, hs, .last (by simp) srtd_nil⟩
  | cons h1 h2 h3 => exact ⟨P, _, _, rfl, hP, h1, hS, h2, h3⟩
/-! Moving elements. -/
theorem two_get {U V : List α} {x y : α} {k : Nat} (hk : U.length = k) : k + 1 < (U ++ (x :: (y :: V))).length ∧ (U ++ (x :: (y :: V)))[k]? = some x ∧ (U ++ (x :: (y :: V)))[k + 1]? = some y := by
  subst hk
  refine ⟨by simp, by simp, ?_⟩
  rw [List.getElem?_append_right (by omega)]; simp
theorem two_set {U V : List α} {x y : α} {k : Nat} (hk : U.length = k) : ((U ++ (x :: (y :: V))).set k y).set (k + 1) x = U ++ (y :: (x :: V)) := by
  subst hk; simp
theorem two_set' {U V : List α} {x y : α} {k : Nat} (hk : U.length = k) : ((U ++ (x :: (y :: V))).set (k + 1) x).set k y = U ++ (y :: (x :: V)) := by
  subst hk; simp
/-- Two ranges change places: the first so many elements of them. -/
def swF (v : List α) (a b n q : Nat) : Option α := if a ≤ q ∧ q < a + n then v[q - a + b]? else if b ≤ q ∧ q < b + n then v[q - b + a]? else v[q]?
theorem swF_zero (v : List α) (a b q : Nat) : swF v a b 0 q = v[q]? := by unfold swF; rw [if_neg (by omega), if_neg (by omega)]
theorem swF_a {v w : List α} {a b i n : Nat} (h : ∀ q, w[q]? = swF v a b i q) (hi : i < n) (hab : a + n ≤ b) : w[a + i]? = v[a + i]? := by
  rw [h]; unfold swF; rw [if_neg (by omega), if_neg (by omega)]
theorem swF_b {v w : List α} {a b i n : Nat} (h : ∀ q, w[q]? = swF v a b i q) (hi : i < n) (hab : a + n ≤ b) : w[b + i]? = v[b + i]? := by
  rw [h]; unfold swF; rw [if_neg (by omega), if_neg (by omega)]
theorem swF_step {v w : List α} {a b i n : Nat} {x y : α} (h : ∀ q, w[q]? = swF v a b i q) (hi : i < n) (hab : a + n ≤ b) (hx : w[a + i]? = some x) (hy : w[b + i]? = some y) :
    ∀ q, ((w.set (a + i) y).set (b + i) x)[q]? = swF v a b (i + 1) q := by
  intro q
  have ha : a + i < w.length := (List.getElem?_eq_some_iff.1 hx).1
  have hb : b + i < w.length := (List.getElem?_eq_some_iff.1 hy).1
  rw [List.getElem?_set, List.getElem?_set]
  rw [swF_a h hi hab] at hx
  rw [swF_b h hi hab] at hy
  by_cases e1 : b + i = q
  · subst e1
    rw [if_pos rfl, if_pos (by simpa using hb)]
    unfold swF
    rw [if_neg (by omega), if_pos (by omega), show b + i - b + a = a + i by omega, hx]
  · rw [if_neg e1]
    by_cases e2 : a + i = q
    · subst e2
      rw [if_pos rfl, if_pos ha]
      unfold swF
      rw [if_pos (by omega), show a + i - a + b = b + i by omega, hy]
    · rw [if_neg e2, h]
      unfold swF
      by_cases c1 : a ≤ q ∧ q < a + i
      · rw [if_pos c1, if_pos (by omega)]
      · rw [if_neg c1, if_neg (show ¬ (a ≤ q ∧ q < a + (i + 1)) by omega)]
        by_cases c2 : b ≤ q ∧ q < b + i
        · rw [if_pos c2, if_pos (by omega)]
        · rw [if_neg c2, if_neg (show ¬ (b ≤ q ∧ q < b + (i + 1)) by omega)]
theorem swF_all {w A X M Y B : List α} {a b n : Nat} (ha : A.length = a) (hX : X.length = n) (hY : Y.length = n) (hb : a + n + M.length = b)
    (h : ∀ q, w[q]? = swF (A ++ (X ++ (M ++ (Y ++ B)))) a b n q) : w = A ++ (Y ++ (M ++ (X ++ B))) := by
  apply List.ext_getElem?
  intro q
  rw [h]
  unfold swF
  simp only [List.getElem?_append, ha, hX, hY]
  repeat' split
  all_goals first | omega | rfl | (congr 1; omega)
/-! Halves of sorted lists. -/
theorem srtd_at (hs : Swo lt) {Q : List α} (h : Srtd lt Q) {s t : Nat} (hst : s ≤ t) (ht : t < Q.length) : lt Q[t] (Q[s]'(by omega)) = false := by
  rcases Nat.lt_or_eq_of_le hst with q | q
  · exact (List.pairwise_iff_getElem.1 h) s t (by omega) ht q
  · subst q; exact hs.irr _
theorem mem_take_at {Q : List α} {n : Nat} {y : α} (h : y ∈ Q.take n) : ∃ s, ∃ hs : s < Q.length, s < n ∧ Q[s] = y := by
  obtain ⟨s, hs, rfl⟩ := List.getElem_of_mem h
  rw [List.length_take] at hs
  exact ⟨s, by omega, by omega, by rw [List.getElem_take]⟩
theorem mem_drop_at {Q : List α} {n : Nat} {y : α} (h : y ∈ Q.drop n) : ∃ s, ∃ hs : s < Q.length, n ≤ s ∧ Q[s] = y := by
  obtain ⟨s, hs, rfl⟩ := List.getElem_of_mem h
  rw [List.length_drop] at hs
  exact ⟨n + s, by omega, by omega, by rw [List.getElem_drop]⟩
theorem get_of {Q : List α} {i : Nat} {x : α} (h : Q[i]? = some x) : ∃ hi : i < Q.length, Q[i] = x := List.getElem?_eq_some_iff.1 h
theorem cut_right (hs : Swo lt) {Q : List α} (hq : Srtd lt Q) {x : α} {k : Nat} (h1 : k = 0 ∨ ∃ y, Q[k - 1]? = some y ∧ lt y x = true) (h2 : k = Q.length ∨ ∃ y, Q[k]? = some y ∧ lt y x = false) :
    (∀ y ∈ Q.take k, lt y x = true) ∧ (∀ y ∈ Q.drop k, lt y x = false) := by
  refine ⟨fun z hz => ?_, fun z hz => ?_⟩
  · obtain ⟨s, hs1, hs2, rfl⟩ := mem_take_at hz
    rcases h1 with h1 | ⟨y, hy, hl⟩
    · omega
    · obtain ⟨hi, rfl⟩ := get_of hy
      exact hs.ge_lt (srtd_at hs hq (s := s) (t := k - 1) (by omega) hi) hl
  · obtain ⟨s, hs1, hs2, rfl⟩ := mem_drop_at hz
    rcases h2 with h2 | ⟨y, hy, hl⟩
    · omega
    · obtain ⟨hi, rfl⟩ := get_of hy
      exact hs.ge hl (srtd_at hs hq (s := k) (t := s) hs2 hs1)
theorem cut_left (hs : Swo lt) {P : List α} (hp : Srtd lt P) {x : α} {k : Nat} (h1 : k = 0 ∨ ∃ y, P[k - 1]? = some y ∧ lt x y = false) (h2 : k = P.length ∨ ∃ y, P[k]? = some y ∧ lt x y = true) :
    (∀ y ∈ P.take k, lt x y = false) ∧ (∀ y ∈ P.drop k, lt x y = true) := by
  refine ⟨fun z hz => ?_, fun z hz => ?_⟩
  · obtain ⟨s, hs1, hs2, rfl⟩ := mem_take_at hz
    rcases h1 with h1 | ⟨y, hy, hl⟩
    · omega
    · obtain ⟨hi, rfl⟩ := get_of hy
      exact hs.ge (srtd_at hs hp (s := s) (t := k - 1) (by omega) hi) hl
  · obtain ⟨s, hs1, hs2, rfl⟩ := mem_drop_at hz
    rcases h2 with h2 | ⟨y, hy, hl⟩
    · omega
    · obtain ⟨hi, rfl⟩ := get_of hy
      exact hs.lt_ge hl (srtd_at hs hp (s := k) (t := s) hs2 hs1)
theorem sym_cut (hs : Swo lt) {P Q : List α} (hp : Srtd lt P) (hq : Srtd lt Q) {h i : Nat} (hh : i ≤ h)
    (c1 : i = P.length ∨ h = i ∨ ∃ x y, P[i]? = some x ∧ Q[h - 1 - i]? = some y ∧ lt y x = true)
    (c2 : i = 0 ∨ h - i = Q.length ∨ ∃ x y, P[i - 1]? = some x ∧ Q[h - i]? = some y ∧ lt y x = false) :
    (∀ x ∈ P.drop i, ∀ y ∈ Q.take (h - i), lt y x = true) ∧ (∀ x ∈ P.take i, ∀ y ∈ Q.drop (h - i), lt y x = false) := by
  refine ⟨fun x hx y hy => ?_, fun x hx y hy => ?_⟩
  · obtain ⟨s, hs1, hs2, rfl⟩ := mem_drop_at hx
    obtain ⟨t, ht1, ht2, rfl⟩ := mem_take_at hy
    rcases c1 with c1 | c1 | ⟨x, y, hx', hy', hl⟩
    · omega
    · omega
    · obtain ⟨hi, rfl⟩ := get_of hx'
      obtain ⟨hj, rfl⟩ := get_of hy'
      exact hs.lt_ge (hs.ge_lt (srtd_at hs hq (s := t) (t := h - 1 - i) (by omega) hj) hl) (srtd_at hs hp (s := i) (t := s) hs2 hs1)
  · obtain ⟨s, hs1, hs2, rfl⟩ := mem_take_at hx
    obtain ⟨t, ht1, ht2, rfl⟩ := mem_drop_at hy
    rcases c2 with c2 | c2 | ⟨x, y, hx', hy', hl⟩
    · omega
    · omega
    · obtain ⟨hi, rfl⟩ := get_of hx'
      obtain ⟨hj, rfl⟩ := get_of hy'
      exact hs.ge (hs.ge (srtd_at hs hp (s := s) (t := i - 1) (by omega) hi) hl) (srtd_at hs hq (s := h - i) (t := t) ht2 ht1)
end Go.Proofs.YthiclaihlpkinaaGreat.Stab
namespace Go.Proofs.YthiclaihlpkinaaGreat
open Go.RowKit
open Stab
theorem nodup_filter {α : Type} {p : α → Bool} {l : List α} (h : l.Nodup) : (l.filter p).Nodup := List.Pairwise.sublist List.filter_sublist h
theorem nodup_sub_len {α : Type} [DecidableEq α] : ∀ {a b : List α}, a.Nodup → (∀ x ∈ a, x ∈ b) → a.length ≤ b.length := by
  intro a
  induction a with
  | nil => intro b _ _; simp
  | cons x r ih =>
    intro b h hs
    obtain ⟨h1, h2⟩ := List.nodup_cons.1 h
    have hx := hs x (by simp)
    have := ih (b := b.erase x) h2 fun y hy => (List.mem_erase_of_ne (fun e : y = x => h1 (by rw [← e]; exact hy))).2 (hs y (by simp [hy]))
    rw [List.length_erase_of_mem hx] at this
    have := List.length_pos_of_mem hx
    simp only [List.length_cons]; omega
/-! Spans by their numbers; those that are never active too. -/
def prp (l : List Sp) (i : Nat) : Bool := match l[i]? with | some s => decide (s.f < s.t) | none => false
def actI (l : List Sp) (t : Int) (i : Nat) : Bool := match l[i]? with | some s => inS t s | none => false
def frI (l : List Sp) (i : Nat) : Int := match l[i]? with | some s => s.f | none => 0
def toI (l : List Sp) (i : Nat) : Int := match l[i]? with | some s => s.t | none => 0
def ltI (l : List Sp) (i k : Nat) : Bool := decide (frI l i < frI l k) || (decide (frI l i = frI l k) && decide (toI l i < toI l k))
def propL (l : List Sp) : List Nat := (List.range l.length).filter (prp l)
theorem swoI (l : List Sp) : Swo (ltI l) where
  irr x := by simp [ltI]
  tr x y z h1 h2 := by simp only [ltI, Bool.or_eq_true, Bool.and_eq_true, decide_eq_true_eq] at *; omega
  nt x y z h := by
    simp only [ltI, Bool.or_eq_true, Bool.and_eq_true, decide_eq_true_eq] at *
    omega
/-- The order in which rows are given. -/
def OrdI (l : List Sp) (o : List Nat) : Prop := Srtd (ltI l) o ∧ Stb (ltI l) (propL l) o
theorem ordI_uniq {l : List Sp} {a b : List Nat} (ha : OrdI l a) (hb : OrdI l b) : a = b := stab_uniq (swoI l) a b ha.1 hb.1 (ha.2.symm.trans hb.2)
/-- The reference's insertion. -/
def befI (l : List Sp) (i k : Nat) : Bool := ltI l i k || (!ltI l k i && decide (i < k))
def insI' (l : List Sp) (o : List Nat) (i : Nat) : List Nat := o.takeWhile (fun k => befI l k i) ++ i :: o.dropWhile (fun k => befI l k i)
def stepO (l : List Sp) (o : List Nat) (i : Nat) : List Nat := if prp l i = true then insI' l o i else o
def ordL' (l : List Sp) : List Nat := (List.range l.length).foldl (stepO l) []
theorem propL_mem {l : List Sp} {i : Nat} : i ∈ propL l ↔ ∃ s, l[i]? = some s ∧ s.f < s.t := by
  simp only [propL, List.mem_filter, List.mem_range, prp]
  constructor
  · rintro ⟨h1, h2⟩
    rw [List.getElem?_eq_getElem h1] at h2
    exact ⟨_, List.getElem?_eq_getElem h1, by simpa using h2⟩
  · rintro ⟨s, h1, h2⟩
    refine ⟨(List.getElem?_eq_some_iff.1 h1).1, ?_⟩
    rw [h1]; simpa using h2
theorem tw_stb {l : List Sp} {i : Nat} : ∀ {o : List Nat}, Srtd (ltI l) o → (∀ k ∈ o, k < i) → Srtd (ltI l) (insI' l o i) ∧ Stb (ltI l) (o ++ [i]) (insI' l o i) := by
  intro o
  induction o with
  | nil => intro _ _; exact ⟨srtd_one i, Stb.refl _⟩
  | cons k r ih =>
    intro h hk
    obtain ⟨h1, h2⟩ := List.pairwise_cons.1 h
    have hki := hk k (by simp)
    by_cases q : befI l k i = true
    · have e : insI' l (k :: r) i = k :: insI' l r i := by unfold insI'; simp [List.takeWhile_cons, List.dropWhile_cons, q]
      obtain ⟨i1, i2⟩ := ih h2 fun x hx => hk x (by simp [hx])
      rw [e]
      refine ⟨List.pairwise_cons.2 ⟨fun x hx => ?_, i1⟩, ?_⟩
      · have hx : x ∈ r ++ [i] := ((Stb.mem (swoI l) i2).2 hx)
        rcases List.mem_append.1 hx with hx | hx
        · exact h1 x hx
        · simp at hx; subst hx
          unfold befI at q
          simp only [Bool.or_eq_true, Bool.and_eq_true, Bool.not_eq_true'] at q
          rcases q with q | q
          · exact (swoI l).asy q
          · exact q.1
      · have := Stb.app (lt := ltI l) (Stb.refl [k]) i2
        simpa using this
    · have e : insI' l (k :: r) i = i :: k :: r := by unfold insI'; simp [List.takeWhile_cons, List.dropWhile_cons, q]
      have q1 : ltI l i k = true := by
        unfold befI at q
        simp only [Bool.or_eq_true, Bool.and_eq_true, Bool.not_eq_true', decide_eq_true_eq] at q
        by_cases c : ltI l i k = true
        · exact c
        · exact absurd (.inr ⟨by simpa using c, hki⟩) q
      have hall : ∀ x ∈ k :: r, ltI l i x = true := fun x hx => by
        rcases List.mem_cons.1 hx with rfl | hx
        · exact q1
        · exact (swoI l).lt_ge q1 (h1 x hx)
      rw [e]
      refine ⟨List.pairwise_cons.2 ⟨fun x hx => (swoI l).asy (hall x hx), h⟩, ?_⟩
      have := Stb.swap (swoI l) (X := k :: r) (Y := [i]) fun x hx y hy => by simp at hy; subst hy; exact hall x hx
      simpa using this
theorem ordL_ok (l : List Sp) : OrdI l (ordL' l) := by
  suffices h : ∀ n, let o := (List.range n).foldl (stepO l) []; Srtd (ltI l) o ∧ Stb (ltI l) ((List.range n).filter (prp l)) o from h l.length
  intro n
  induction n with
  | zero => exact ⟨srtd_nil, Stb.refl _⟩
  | succ n ih =>
    obtain ⟨i1, i2⟩ := ih
    simp only [List.range_succ, List.foldl_append, List.foldl_cons, List.foldl_nil, List.filter_append]
    generalize (List.range n).foldl (stepO l) [] = o at *
    have hlt : ∀ k ∈ o, k < n := fun k hk => by
      have := (Stb.mem (swoI l) i2).2 hk
      simp at this; exact this.1
    unfold stepO
    by_cases q : prp l n = true
    · obtain ⟨t1, t2⟩ := tw_stb i1 hlt
      rw [if_pos q]
      refine ⟨t1, ?_⟩
      have e : [n].filter (prp l) = [n] := by simp [q]
      rw [e]
      exact (Stb.app i2 (Stb.refl [n])).trans t2
    · rw [if_neg q]
      have e : [n].filter (prp l) = [] := by simp [q]
      rw [e, List.append_nil]
      exact ⟨i1, i2⟩
/-! Rows: each takes the first row that is free. -/
def rowOf (u : List Int) (a : Int) : Nat := u.findIdx fun t => decide (t ≤ a)
def stepR (l : List Sp) (s : List Int × List Int) (i : Nat) : List Int × List Int :=
  (s.1.set i (rowOf s.2 (frI l i)), if rowOf s.2 (frI l i) < s.2.length then s.2.set (rowOf s.2 (frI l i)) (toI l i) else s.2 ++ [toI l i])
def rowsL (l : List Sp) : List Int × List Int := (ordL' l).foldl (stepR l) (List.replicate l.length 0, [])
/-- What holds when the instances of P have their rows, J being the last ones of each row. -/
structure RowI (l : List Sp) (N : Nat) (P : List Nat) (out u : List Int) (J : List Nat) : Prop where
  len : out.length = l.length
  other : ∀ i, i ∉ P → i < l.length → out[i]? = some 0
  inr : ∀ i ∈ P, ∃ k : Nat, ∃ t, out[i]? = some (k : Int) ∧ u[k]? = some t ∧ toI l i ≤ t
  dis : ∀ i ∈ P, ∀ j ∈ P, i ≠ j → out[i]? = out[j]? → toI l i ≤ frI l j ∨ toI l j ≤ frI l i
  last : J.length = u.length ∧ ∀ (k j : Nat), J[k]? = some j → j ∈ P ∧ out[j]? = some (k : Int) ∧ u[k]? = some (toI l j)
  few : u.length ≤ N
theorem stepR_ok {l : List Sp} {N : Nat} {P : List Nat} {out u : List Int} {J : List Nat} {i : Nat} (hp : RowI l N P out u J) (hi : i < l.length) (hiP : i ∉ P) (hf : ∀ j ∈ P, frI l j ≤ frI l i) (hpr : prp l i = true)
    (hprP : ∀ j ∈ P, prp l j = true) (hN : ∀ (Q : List Nat) t, Q.Nodup → (∀ j ∈ Q, actI l t j = true) → Q.length ≤ N) :
    ∃ J', RowI l N (i :: P) (stepR l (out, u) i).1 (stepR l (out, u) i).2 J' := by
  have hJl := hp.last.1
  have hset : ∀ (v : Int) (j : Nat), (out.set i v)[j]? = if j = i then some v else out[j]? := fun v j => by
    rw [List.getElem?_set]
    have := hp.len
    by_cases e : i = j
    · subst e; simp; omega
    · rw [if_neg e, if_neg (fun q => e q.symm)]
  have hpt : frI l i < toI l i := by
    unfold prp at hpr
    unfold frI toI
    rw [List.getElem?_eq_getElem hi] at *
    simpa using hpr
  unfold stepR
  simp only
  generalize hk : rowOf u (frI l i) = k
  by_cases q : k < u.length
  · rw [if_pos q]
    have hfree : u[k] ≤ frI l i := by
      have := List.findIdx_getElem (p := fun t => decide (t ≤ frI l i)) (xs := u) (w := by show rowOf u (frI l i) < u.length; omega)
      have e : u[rowOf u (frI l i)]'(by omega) ≤ frI l i := by simpa [rowOf] using this
      simpa only [hk] using e
    have hold : ∀ j ∈ P, out[j]? = some (k : Int) → toI l j ≤ frI l i := fun j hj he => by
      obtain ⟨k', t, e1, e2, e3⟩ := hp.inr j hj
      rw [he] at e1
      simp at e1
      have e1 : k = k' := by omega
      subst e1
      rw [List.getElem?_eq_getElem q] at e2
      simp at e2; omega
    refine ⟨J.set k i, ⟨by simpa using hp.len, fun j hj hjl => ?_, fun j hj => ?_, fun j hj j' hj' hne he => ?_, ⟨by simpa using hJl, fun k' j hj => ?_⟩, by simpa using hp.few⟩⟩
    · simp only [List.mem_cons, not_or] at hj
      rw [hset, if_neg hj.1]; exact hp.other j hj.2 hjl
    · by_cases e : j = i
      · subst e
        refine ⟨k, toI l j, by rw [hset, if_pos rfl], ?_, Int.le_refl _⟩
        rw [List.getElem?_set]; simp [q]
      · have hjP : j ∈ P := by simpa [e] using hj
        obtain ⟨k', t, e1, e2, e3⟩ := hp.inr j hjP
        rw [hset, if_neg e]
        by_cases c : k' = k
        · subst c
          refine ⟨k', toI l i, e1, by rw [List.getElem?_set]; simp [q], ?_⟩
          have := hold j hjP e1; omega
        · exact ⟨k', t, e1, by rw [List.getElem?_set, if_neg (fun e => c e.symm)]; exact e2, e3⟩
    · rw [hset, hset] at he
      by_cases e : j = i
      · subst e
        rw [if_pos rfl, if_neg (fun q => hne q.symm)] at he
        have hjP : j' ∈ P := by
          rcases List.mem_cons.1 hj' with h | h
          · exact absurd h.symm hne
          · exact h
        exact .inr (hold j' hjP he.symm)
      · have hjP : j ∈ P := by simpa [e] using hj
        by_cases e' : j' = i
        · subst e'
          rw [if_pos rfl, if_neg e] at he
          exact .inl (hold j hjP he)
        · have hjP' : j' ∈ P := by simpa [e'] using hj'
          rw [if_neg e, if_neg e'] at he
          exact hp.dis j hjP j' hjP' hne he
    · rw [List.getElem?_set] at hj
      by_cases c : k = k'
      · subst c
        simp only [if_true] at hj
        have hkJ : k < J.length := by omega
        simp [hkJ] at hj
        subst hj
        exact ⟨by simp, by rw [hset, if_pos rfl], by rw [List.getElem?_set]; simp [q]⟩
      · rw [if_neg c] at hj
        obtain ⟨l1, l2, l3⟩ := hp.last.2 k' j hj
        have e : j ≠ i := fun e => hiP (e ▸ l1)
        exact ⟨by simp [l1], by rw [hset, if_neg e]; exact l2, by rw [List.getElem?_set, if_neg c]; exact l3⟩
  · rw [if_neg q]
    have hk2 : k = u.length := by
      have := List.findIdx_le_length (p := fun t => decide (t ≤ frI l i)) (xs := u)
      unfold rowOf at hk; omega
    have hbusy : ∀ (r : Nat) t, u[r]? = some t → frI l i < t := fun r t ht => by
      obtain ⟨hr, e⟩ := List.getElem?_eq_some_iff.1 ht
      have := List.not_of_lt_findIdx (p := fun t => decide (t ≤ frI l i)) (xs := u) (i := r) (by unfold rowOf at hk; omega)
      rw [e] at this
      simp at this; omega
    have hget : ∀ (r : Nat), r < u.length → (u ++ [toI l i])[r]? = u[r]? := fun r hr => List.getElem?_append_left hr
    refine ⟨J ++ [i], ⟨by simpa using hp.len, fun j hj hjl => ?_, fun j hj => ?_, fun j hj j' hj' hne he => ?_, ⟨by simp [hJl], fun k' j hj => ?_⟩, ?_⟩⟩
    · simp only [List.mem_cons, not_or] at hj
      rw [hset, if_neg hj.1]; exact hp.other j hj.2 hjl
    · by_cases e : j = i
      · subst e
        exact ⟨k, toI l j, by rw [hset, if_pos rfl], by rw [hk2]; simp, Int.le_refl _⟩
      · have hjP : j ∈ P := by simpa [e] using hj
        obtain ⟨k', t, e1, e2, e3⟩ := hp.inr j hjP
        exact ⟨k', t, by rw [hset, if_neg e]; exact e1, by rw [hget _ (List.getElem?_eq_some_iff.1 e2).1]; exact e2, e3⟩
    · have hno : ∀ j ∈ P, out[j]? ≠ some (k : Int) := fun j hj e => by
        obtain ⟨k', t, e1, e2, e3⟩ := hp.inr j hj
        rw [e] at e1
        simp at e1
        have := (List.getElem?_eq_some_iff.1 e2).1
        omega
      rw [hset, hset] at he
      by_cases e : j = i
      · subst e
        rw [if_pos rfl, if_neg (fun q => hne q.symm)] at he
        have hjP : j' ∈ P := by
          rcases List.mem_cons.1 hj' with h | h
          · exact absurd h.symm hne
          · exact h
        exact absurd he.symm (hno j' hjP)
      · have hjP : j ∈ P := by simpa [e] using hj
        by_cases e' : j' = i
        · subst e'
          rw [if_pos rfl, if_neg e] at he
          exact absurd he (hno j hjP)
        · have hjP' : j' ∈ P := by simpa [e'] using hj'
          rw [if_neg e, if_neg e'] at he
          exact hp.dis j hjP j' hjP' hne he
    · by_cases c : k' < J.length
      · rw [List.getElem?_append_left c] at hj
        obtain ⟨l1, l2, l3⟩ := hp.last.2 k' j hj
        have e : j ≠ i := fun e => hiP (e ▸ l1)
        exact ⟨by simp [l1], by rw [hset, if_neg e]; exact l2, by rw [hget _ (by omega)]; exact l3⟩
      · have hk' : k' = J.length := by
          have := (List.getElem?_eq_some_iff.1 hj).1
          simp at this; omega
        subst hk'
        simp at hj
        subst hj
        exact ⟨by simp, by rw [hset, if_pos rfl, hk2, hJl], by rw [hJl]; simp⟩
    · have hJP : ∀ j ∈ J, j ∈ P ∧ frI l i < toI l j := fun j hj => by
        obtain ⟨r, hr, e⟩ := List.getElem_of_mem hj
        obtain ⟨l1, l2, l3⟩ := hp.last.2 r j (by rw [List.getElem?_eq_getElem hr, e])
        exact ⟨l1, hbusy r _ l3⟩
      have hnd : (i :: J).Nodup := by
        refine List.nodup_cons.2 ⟨fun h => hiP (hJP i h).1, ?_⟩
        rw [List.nodup_iff_pairwise_ne, List.pairwise_iff_getElem]
        intro a b ha hb hab e
        obtain ⟨_, l2, _⟩ := hp.last.2 a _ (List.getElem?_eq_getElem ha)
        obtain ⟨_, m2, _⟩ := hp.last.2 b _ (List.getElem?_eq_getElem hb)
        rw [e, m2] at l2
        simp at l2; omega
      have := hN (i :: J) (frI l i) hnd fun j hj => by
        unfold actI
        rcases List.mem_cons.1 hj with rfl | hj
        · rw [List.getElem?_eq_getElem hi]
          have e1 : frI l j = (l[j]).f := by unfold frI; rw [List.getElem?_eq_getElem hi]
          have e2 : toI l j = (l[j]).t := by unfold toI; rw [List.getElem?_eq_getElem hi]
          simp only [inS, Bool.and_eq_true, decide_eq_true_eq]
          rw [e1, e2] at hpt
          omega
        · obtain ⟨hjP, hjt⟩ := hJP j hj
          have hff := hf j hjP
          have hjr := hprP j hjP
          unfold prp at hjr
          cases hlj : l[j]? with
          | none => rw [hlj] at hjr; cases hjr
          | some s =>
            have e1 : frI l j = s.f := by unfold frI; rw [hlj]
            have e2 : toI l j = s.t := by unfold toI; rw [hlj]
            simp only [inS, Bool.and_eq_true, decide_eq_true_eq]
            omega
      simp only [List.length_append, List.length_cons, List.length_nil] at this ⊢
      omega
theorem rows_fold {l : List Sp} {N : Nat} (hN : ∀ (Q : List Nat) t, Q.Nodup → (∀ j ∈ Q, actI l t j = true) → Q.length ≤ N) :
    ∀ (o P : List Nat) (out u : List Int) (J : List Nat), RowI l N P out u J → (∀ i ∈ o, i < l.length ∧ prp l i = true) → (∀ i ∈ P, prp l i = true) → o.Nodup → (∀ i ∈ o, i ∉ P) → (∀ i ∈ o, ∀ j ∈ P, frI l j ≤ frI l i) → Srtd (ltI l) o →
      ∃ P' J', (∀ i, i ∈ P' ↔ i ∈ P ∨ i ∈ o) ∧ RowI l N P' (o.foldl (stepR l) (out, u)).1 (o.foldl (stepR l) (out, u)).2 J' := by
  intro o
  induction o with
  | nil => intro P out u J h _ _ _ _ _ _; exact ⟨P, J, fun i => by simp, h⟩
  | cons i r ih =>
    intro P out u J h h1 h2 h3 h4 h5 h6
    obtain ⟨n1, n2⟩ := List.nodup_cons.1 h3
    obtain ⟨s1, s2⟩ := List.pairwise_cons.1 h6
    obtain ⟨hi, hpi⟩ := h1 i (by simp)
    obtain ⟨J', hJ'⟩ := stepR_ok h hi (h4 i (by simp)) (h5 i (by simp)) hpi h2 hN
    obtain ⟨P', J'', g1, g2⟩ := ih (i :: P) _ _ J' hJ' (fun x hx => h1 x (by simp [hx])) (fun x hx => by
      rcases List.mem_cons.1 hx with rfl | hx
      · exact hpi
      · exact h2 x hx) n2 (fun x hx => by
        simp only [List.mem_cons, not_or]
        exact ⟨fun e => n1 (e ▸ hx), h4 x (by simp [hx])⟩) (fun x hx j hj => by
        rcases List.mem_cons.1 hj with rfl | hj
        · have := s1 x hx
          simp only [ltI, Bool.or_eq_false_iff, decide_eq_false_iff_not] at this
          omega
        · exact h5 x (by simp [hx]) j hj) s2
    refine ⟨P', J'', fun x => ?_, g2⟩
    rw [g1, List.mem_cons, List.mem_cons, or_assoc, or_left_comm]
theorem range_count (l : List Sp) (p : Sp → Bool) : ((List.range l.length).filter fun i => match l[i]? with | some s => p s | none => false).length = l.countP p := by
  suffices h : ∀ n, n ≤ l.length → ((List.range n).filter fun i => match l[i]? with | some s => p s | none => false).length = (l.take n).countP p by
    have := h l.length (Nat.le_refl _)
    rwa [List.take_length] at this
  intro n
  induction n with
  | zero => intro _; simp
  | succ n ih =>
    intro h
    rw [List.range_succ, List.filter_append, List.length_append, ih (by omega), List.take_add_one, List.countP_append, List.getElem?_eq_getElem (show n < l.length by omega)]
    simp only [List.filter_cons, List.getElem?_eq_getElem (show n < l.length by omega), Option.toList, List.countP_cons, List.countP_nil]
    cases p l[n] <;> simp
theorem act_count (l : List Sp) (t : Int) : ((List.range l.length).filter (actI l t)).length = actN l t := range_count l (inS t)
theorem act_few {l : List Sp} {n at_ : Int} (h : MostS l n at_) (Q : List Nat) (t : Int) (hq : Q.Nodup) (ha : ∀ j ∈ Q, actI l t j = true) : Q.length ≤ n.toNat := by
  have h1 : Q.length ≤ ((List.range l.length).filter (actI l t)).length := nodup_sub_len hq fun j hj => by
    rw [List.mem_filter, List.mem_range]
    have := ha j hj
    refine ⟨?_, this⟩
    unfold actI at this
    cases hl : l[j]? with
    | none => rw [hl] at this; cases this
    | some s => exact (List.getElem?_eq_some_iff.1 hl).1
  rw [act_count] at h1
  rcases h with ⟨h2, h3, h4⟩ | ⟨h2, h3, h4, h5⟩
  · have := h4 t; omega
  · have := h4 t; omega
/-- What is to be known of the rows. -/
theorem rows_know {l : List Sp} {n at_ : Int} (hm : MostS l n at_) : ∃ (u : List Int) (J : List Nat), RowI l n.toNat (propL l) (rowsL l).1 u J ∧ (u.length : Int) = n := by
  obtain ⟨o1, o2⟩ := ordL_ok l
  have hnd : (ordL' l).Nodup := by
    have h1 : (propL l).Nodup := nodup_filter List.nodup_range
    rw [List.nodup_iff_count] at h1 ⊢
    intro a
    have e := o2.2 a
    have h2 := h1 a
    have hc : ∀ (L : List Nat), (L.filter (eqk (ltI l) a)).count a = L.count a := fun L => List.count_filter (by simp [eqk, ltI])
    rw [← hc, ← e, hc]; exact h2
  have hmem : ∀ i, i ∈ ordL' l ↔ i ∈ propL l := fun i => (Stb.mem (swoI l) o2).symm
  have h0 : RowI l n.toNat [] (List.replicate l.length 0) [] [] := ⟨by simp, fun i _ hi => by simp [hi], by simp, by simp, ⟨rfl, by simp⟩, by simp⟩
  have hpi : ∀ i ∈ ordL' l, i < l.length ∧ prp l i = true := fun i hi => by
    have := (hmem i).1 hi
    simpa [propL] using this
  obtain ⟨P', J, g1, g2⟩ := rows_fold (act_few hm) (ordL' l) [] _ _ _ h0 hpi (by simp) hnd (by simp) (by simp) o1
  have gP : ∀ i, i ∈ P' ↔ i ∈ propL l := fun i => by rw [g1]; simp [hmem]
  have g3 : RowI l n.toNat (propL l) (rowsL l).1 (rowsL l).2 J := ⟨g2.len, fun i hi => g2.other i fun q => hi ((gP i).1 q), fun i hi => g2.inr i ((gP i).2 hi), fun i hi j hj => g2.dis i ((gP i).2 hi) j ((gP j).2 hj), ⟨g2.last.1, fun k j hk => by
    obtain ⟨a, b⟩ := g2.last.2 k j hk
    exact ⟨(gP j).1 a, b⟩⟩, g2.few⟩
  refine ⟨_, J, g3, ?_⟩
  have hfew := g3.few
  rcases hm with ⟨h2, h3, h4⟩ | ⟨h2, h3, h4, h5⟩
  · omega
  · have hle : ((List.range l.length).filter (actI l at_)).length ≤ (rowsL l).2.length := by
      have hk : ∀ i ∈ (List.range l.length).filter (actI l at_), ∃ k : Nat, k < (rowsL l).2.length ∧ (rowsL l).1[i]? = some (k : Int) ∧ i ∈ propL l ∧ frI l i ≤ at_ ∧ at_ < toI l i := fun i hi => by
        have ha := (List.mem_filter.1 hi).2
        unfold actI at ha
        cases hl : l[i]? with
        | none => rw [hl] at ha; cases ha
        | some s =>
          rw [hl] at ha
          simp [inS] at ha
          have hP : i ∈ propL l := propL_mem.2 ⟨s, hl, by omega⟩
          obtain ⟨k, t, e1, e2, e3⟩ := g3.inr i hP
          exact ⟨k, (List.getElem?_eq_some_iff.1 e2).1, e1, hP, by unfold frI; rw [hl]; exact ha.1, by unfold toI; rw [hl]; exact ha.2⟩
      have h6 := nodup_sub_len (a := ((List.range l.length).filter (actI l at_)).map fun i => (rowsL l).1[i]?) (b := (List.range (rowsL l).2.length).map fun k : Nat => some (k : Int)) ?_ ?_
      · simpa using h6
      · rw [List.nodup_iff_pairwise_ne, List.pairwise_map]
        have hnd2 : ((List.range l.length).filter (actI l at_)).Nodup := nodup_filter List.nodup_range
        rw [List.nodup_iff_pairwise_ne] at hnd2
        refine List.Pairwise.imp_of_mem (fun {a b} ha hb hne e => ?_) hnd2
        obtain ⟨_, _, _, a1, a2, a3⟩ := hk a ha
        obtain ⟨_, _, _, b1, b2, b3⟩ := hk b hb
        rcases g3.dis a a1 b b1 hne e with q | q <;> omega
      · intro x hx
        obtain ⟨i, hi, rfl⟩ := List.mem_map.1 hx
        obtain ⟨k, k1, k2, _⟩ := hk i hi
        rw [k2]
        exact List.mem_map.2 ⟨k, List.mem_range.2 k1, rfl⟩
    rw [act_count] at hle
    omega
end Go.Proofs.YthiclaihlpkinaaGreat
