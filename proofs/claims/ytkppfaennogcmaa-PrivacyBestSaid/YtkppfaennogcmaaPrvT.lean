/- Divisions of times into groups: the table of the best ones (plain words). -/
import Derived.Test.YtkppfaennogcmaaAbBase
namespace Go.Proofs.Ytkppfaennogcmaa
set_option linter.unusedSimpArgs false
set_option linter.unusedVariables false
set_option linter.unnecessarySimpa false
set_option linter.unusedSectionVars false
open Go.RowKit
variable [Glob]
set_option maxRecDepth 100000
abbrev Tb := List (Int × Nat)
def tat (b : Tb) (x : Nat) : Int × Nat := b.getD x (0, 0)
def lat (l : List Int) (x : Nat) : Int := l.getD x 0
theorem tat_set {b : Tb} {i x : Nat} {v : Int × Nat} (h : i < b.length) : tat (b.set i v) x = if x = i then v else tat b x := by
  unfold tat
  simp only [List.getD_eq_getElem?_getD, List.getElem?_set]
  by_cases e : i = x
  · subst e; simp [h]
  · rw [if_neg e, if_neg fun q => e q.symm]
theorem tat_get {b : Tb} {x : Nat} (h : x < b.length) : tat b x = b[x] := by simp [tat, h]
theorem lat_get {l : List Int} {x : Nat} (h : x < l.length) : lat l x = l[x] := by simp [lat, h]
/-- The times are right: from 0 on, not too great, ascending. -/
def badT (l : List Int) (i : Nat) : Bool := decide (lat l i < 0) || decide (1099511627776 < lat l i) || (decide (0 < i) && decide (lat l i < lat l (i - 1)))
def timeV (l : List Int) : Bool := (List.range l.length).all fun i => !badT l i
theorem timeV_at {l : List Int} (h : timeV l = true) {i : Nat} (hi : i < l.length) : 0 ≤ lat l i ∧ lat l i ≤ 1099511627776 ∧ (0 < i → lat l (i - 1) ≤ lat l i) := by
  have := (List.all_eq_true.1 h) i (by simpa using hi)
  simp only [badT, Bool.not_eq_true', Bool.or_eq_false_iff, Bool.and_eq_false_iff, decide_eq_false_iff_not] at this
  obtain ⟨⟨h1, h2⟩, h3⟩ := this
  refine ⟨by omega, by omega, fun h0 => ?_⟩
  rcases h3 with h3 | h3
  · omega
  · omega
theorem timeV_mono {l : List Int} (h : timeV l = true) {i : Nat} : ∀ {j : Nat}, i ≤ j → j < l.length → lat l i ≤ lat l j := by
  intro j
  induction j with
  | zero => intro h1 _; obtain rfl : i = 0 := by omega
            exact Int.le_refl _
  | succ j ih =>
    intro h1 h2
    by_cases e : i = j + 1
    · subst e; exact Int.le_refl _
    · have a := ih (by omega) (by omega)
      have b := (timeV_at h h2).2.2 (by omega)
      simp only [Nat.add_sub_cancel] at b
      omega
def costAt (l : List Int) (i : Nat) (b : Tb) (j : Nat) : Int := (tat b j).1 + ((j - i : Nat) : Int) * (lat l (j - 1) - lat l i)
def skipT (l : List Int) (b : Tb) (j : Nat) : Prop := (tat b j).1 < 0 ∨ (j < l.length ∧ lat l (j - 1) = lat l j)
instance (l : List Int) (b : Tb) (j : Nat) : Decidable (skipT l b j) := by unfold skipT; infer_instance
def betterT (l : List Int) (i : Nat) (b : Tb) (j : Nat) : Prop := (tat b i).1 < 0 ∨ costAt l i b j < (tat b i).1
instance (l : List Int) (i : Nat) (b : Tb) (j : Nat) : Decidable (betterT l i b j) := by unfold betterT; infer_instance
/-- One end of the first group is tried. -/
def gstep (l : List Int) (i : Nat) (b : Tb) (j : Nat) : Tb := if skipT l b j then b else if betterT l i b j then b.set i (costAt l i b j, j) else b
def ginner (l : List Int) (i : Nat) : Nat → Nat → Tb → Tb
  | 0, _, b => b
  | m + 1, j, b => ginner l i m (j + 1) (gstep l i b j)
def gstart (b : Tb) (i : Nat) : Tb := b.set i (-1, (tat b i).2)
def gtab (l : List Int) (k : Nat) : Nat → Tb → Tb
  | 0, b => b
  | i + 1, b => gtab l k i (ginner l i (l.length + 1 - (i + k)) (i + k) (gstart b i))
def gpath (l : List Int) (b : Tb) : Nat → Nat → List (Int × Int)
  | 0, _ => []
  | f + 1, i => if i < l.length then (lat l i, lat l ((tat b i).2 - 1) + 1) :: gpath l b f (tat b i).2 else []
def tabT (l : List Int) (k : Nat) : Tb := gtab l k l.length (List.replicate (l.length + 1) (0, 0))
def genR (l : List Int) (k : Int) : List (Int × Int) × Int :=
  if timeV l = false then ([], 1) else if k < 1 ∨ 1000 < k then ([], 2) else if 300 < l.length then ([], 5) else if l.length = 0 then ([], 0) else if (l.length : Int) < k then ([], 10) else
    (gpath l (tabT l k.toNat) (l.length + 1) 0, 0)
/-- What the table says from a place on. -/
structure TabI (l : List Int) (k i : Nat) (b : Tb) : Prop where
  len : b.length = l.length + 1
  bd : ∀ x, x ≤ l.length → -1 ≤ (tat b x).1 ∧ (tat b x).1 ≤ ((l.length - x : Nat) : Int) * 1099511627776
  zero : (tat b l.length).1 = 0
  done : ∀ x, i ≤ x → x < l.length → (x + k ≤ l.length → 0 ≤ (tat b x).1) ∧ (0 ≤ (tat b x).1 → x + k ≤ (tat b x).2 ∧ (tat b x).2 ≤ l.length ∧ 0 ≤ (tat b (tat b x).2).1)
structure RowT (l : List Int) (k i j : Nat) (b : Tb) : Prop where
  len : b.length = l.length + 1
  bd : ∀ x, x ≤ l.length → -1 ≤ (tat b x).1 ∧ (tat b x).1 ≤ ((l.length - x : Nat) : Int) * 1099511627776
  zero : (tat b l.length).1 = 0
  done : ∀ x, i + 1 ≤ x → x < l.length → (x + k ≤ l.length → 0 ≤ (tat b x).1) ∧ (0 ≤ (tat b x).1 → x + k ≤ (tat b x).2 ∧ (tat b x).2 ≤ l.length ∧ 0 ≤ (tat b (tat b x).2).1)
  cur : 0 ≤ (tat b i).1 → i + k ≤ (tat b i).2 ∧ (tat b i).2 ≤ l.length ∧ 0 ≤ (tat b (tat b i).2).1
  fin : l.length < j → i + k ≤ l.length → 0 ≤ (tat b i).1
theorem TabI.start {l : List Int} {k : Nat} : TabI l k l.length (List.replicate (l.length + 1) (0, 0)) := by
  have h0 : ∀ x, tat (List.replicate (l.length + 1) (0, 0)) x = (0, 0) := fun x => by
    unfold tat; rw [List.getD_eq_getElem?_getD, List.getElem?_replicate]; split <;> rfl
  refine ⟨by simp, fun x hx => ?_, by rw [h0], fun x h1 h2 => by omega⟩
  rw [h0]
  simp only
  omega
theorem TabI.row {l : List Int} {k i : Nat} {b : Tb} (h : TabI l k (i + 1) b) (hi : i < l.length) (hk : 1 ≤ k) : RowT l k i (i + k) (gstart b i) := by
  have hib : i < b.length := by rw [h.len]; omega
  have hs : ∀ x, tat (gstart b i) x = if x = i then (-1, (tat b i).2) else tat b x := fun x => tat_set hib
  refine ⟨by simp [gstart, h.len], fun x hx => ?_, ?_, fun x h1 h2 => ?_, fun h0 => ?_, fun h1 h2 => by omega⟩
  · rw [hs]
    split
    · simp only; omega
    · exact h.bd x hx
  · rw [hs, if_neg (by omega)]; exact h.zero
  · rw [hs x, if_neg (by omega)]
    obtain ⟨q1, q2⟩ := h.done x h1 h2
    refine ⟨q1, fun h0 => ?_⟩
    obtain ⟨q3, q4, q5⟩ := q2 h0
    exact ⟨q3, q4, by rw [hs, if_neg (by omega)]; exact q5⟩
  · rw [hs, if_pos rfl] at h0; simp at h0
theorem RowT.tab {l : List Int} {k i j : Nat} {b : Tb} (h : RowT l k i j b) (hj : l.length < j) : TabI l k i b := by
  refine ⟨h.len, h.bd, h.zero, fun x h1 h2 => ?_⟩
  by_cases e : x = i
  · subst e; exact ⟨h.fin hj, h.cur⟩
  · exact h.done x (by omega) h2
theorem prod_le {a : Nat} {x : Int} (h0 : 0 ≤ x) (h1 : x ≤ 1099511627776) : 0 ≤ (a : Int) * x ∧ (a : Int) * x ≤ (a : Int) * 1099511627776 :=
  ⟨Int.mul_nonneg (by omega) h0, Int.mul_le_mul_of_nonneg_left h1 (by omega)⟩
theorem RowT.cost {l : List Int} {k i j : Nat} {b : Tb} (h : RowT l k i j b) (hv : timeV l = true) (hk : 1 ≤ k) (hij : i + k ≤ j) (hj : j ≤ l.length) (h0 : 0 ≤ (tat b j).1) : 0 ≤ costAt l i b j ∧ costAt l i b j ≤ ((l.length - i : Nat) : Int) * 1099511627776 ∧
    0 ≤ lat l (j - 1) - lat l i ∧ lat l (j - 1) - lat l i ≤ 1099511627776 ∧ 0 ≤ ((j - i : Nat) : Int) * (lat l (j - 1) - lat l i) ∧ ((j - i : Nat) : Int) * (lat l (j - 1) - lat l i) ≤ ((j - i : Nat) : Int) * 1099511627776 := by
  have m1 := timeV_mono hv (i := i) (j := j - 1) (by omega) (by omega)
  have a1 := timeV_at hv (i := j - 1) (by omega)
  have a2 := timeV_at hv (i := i) (by omega)
  have p := prod_le (a := j - i) (x := lat l (j - 1) - lat l i) (by omega) (by omega)
  have b1 := (h.bd j hj).2
  unfold costAt
  refine ⟨by omega, ?_, by omega, by omega, p.1, p.2⟩
  have e : ((l.length - i : Nat) : Int) = ((l.length - j : Nat) : Int) + ((j - i : Nat) : Int) := by omega
  rw [e, Int.add_mul]
  omega
theorem RowT.step {l : List Int} {k i j : Nat} {b : Tb} (h : RowT l k i j b) (hv : timeV l = true) (hk : 1 ≤ k) (hij : i + k ≤ j) (hj : j ≤ l.length) : RowT l k i (j + 1) (gstep l i b j) := by
  have hib : i < b.length := by rw [h.len]; omega
  unfold gstep
  by_cases hs : skipT l b j
  · rw [if_pos hs]
    refine ⟨h.len, h.bd, h.zero, h.done, h.cur, fun h1 h2 => ?_⟩
    obtain rfl : j = l.length := by omega
    rcases hs with hs | ⟨hs, _⟩
    · have := h.zero; omega
    · omega
  · rw [if_neg hs]
    have h0 : 0 ≤ (tat b j).1 := by
      unfold skipT at hs; omega
    obtain ⟨c1, c2, _⟩ := h.cost hv hk hij hj h0
    by_cases hb : betterT l i b j
    · rw [if_pos hb]
      have hst : ∀ x, tat (b.set i (costAt l i b j, j)) x = if x = i then (costAt l i b j, j) else tat b x := fun x => tat_set hib
      refine ⟨by simpa using h.len, fun x hx => ?_, ?_, fun x h1 h2 => ?_, fun _ => ?_, fun _ _ => ?_⟩
      · rw [hst]
        split
        · rename_i e; subst e; exact ⟨by omega, c2⟩
        · exact h.bd x hx
      · rw [hst, if_neg (by omega)]; exact h.zero
      · rw [hst x, if_neg (by omega)]
        obtain ⟨q1, q2⟩ := h.done x h1 h2
        refine ⟨q1, fun h0 => ?_⟩
        obtain ⟨q3, q4, q5⟩ := q2 h0
        exact ⟨q3, q4, by rw [hst, if_neg (by omega)]; exact q5⟩
      · rw [hst i, if_pos rfl]
        refine ⟨hij, hj, ?_⟩
        rw [hst, if_neg (by omega)]; exact h0
      · rw [hst i, if_pos rfl]; exact c1
    · rw [if_neg hb]
      refine ⟨h.len, h.bd, h.zero, h.done, h.cur, fun h1 h2 => ?_⟩
      unfold betterT at hb; omega
/-- From a place on, as far as the path goes. -/
theorem gpath_fuel {l : List Int} {k : Nat} {b : Tb} (h : TabI l k 0 b) (hk : 1 ≤ k) : ∀ (f g i : Nat), l.length < f + i → l.length < g + i → i ≤ l.length → 0 ≤ (tat b i).1 → gpath l b f i = gpath l b g i := by
  intro f
  induction f with
  | zero => intro g i h1 h2 h3; omega
  | succ f ih =>
    intro g i h1 h2 h3 h0
    cases g with
    | zero => omega
    | succ g =>
      simp only [gpath]
      split
      · rename_i hi
        obtain ⟨q1, q2, q3⟩ := (h.done i (Nat.zero_le _) hi).2 h0
        rw [ih g _ (by omega) (by omega) q2 q3]
      · rfl
theorem gtab_ok {l : List Int} {k : Nat} (hv : timeV l = true) (hk : 1 ≤ k) : ∀ (i : Nat) (b : Tb), i ≤ l.length → TabI l k i b → TabI l k 0 (gtab l k i b) := by
  have hin : ∀ (m i j : Nat) (b : Tb), m = l.length + 1 - j → i + k ≤ j → i < l.length → RowT l k i j b → TabI l k i (ginner l i m j b) := by
    intro m
    induction m with
    | zero => intro i j b hm hij hi h; exact h.tab (by omega)
    | succ m ih => intro i j b hm hij hi h; exact ih i (j + 1) _ (by omega) (by omega) hi (h.step hv hk hij (by omega))
  intro i
  induction i with
  | zero => intro b _ h; exact h
  | succ i ih =>
    intro b hi h
    exact ih _ (by omega) (hin _ i (i + k) _ rfl (Nat.le_refl _) (by omega) (h.row (by omega) hk))
end Go.Proofs.Ytkppfaennogcmaa
