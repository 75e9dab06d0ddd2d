/- Groups of places, by the value that each has (plain words; no program). -/
import Derived.Test.YtdkcmfafganhhaaDoorGr
import Derived.Test.YtdkcmfafganhhaaDoorMapL
namespace Go.Proofs.YtdkcmfafganhhaaDoor
set_option linter.unusedSimpArgs false
set_option linter.unusedVariables false
set_option linter.unnecessarySimpa false
set_option linter.unusedSectionVars false
open Go.RowKit
variable [Glob]
set_option maxRecDepth 100000
/-- One more number, to the list that has its key. -/
def compStep (st : List (Int × Nat) × List (List Int)) (i : Nat) (k : Int) : List (Int × Nat) × List (List Int) :=
  match alook st.1 k with
  | some j => (st.1, st.2.set j (st.2[j]?.getD [] ++ [(i : Int)]))
  | none => (aput st.1 k st.2.length, st.2 ++ [[(i : Int)]])
def compR : Nat → List Int → List (Int × Nat) × List (List Int) → List (List Int)
  | _, [], st => st.2
  | i, k :: r, st => compR (i + 1) r (compStep st i k)
def idxP (q : List Int) (i : Nat) (v : Int) : List Int := ((List.range i).filter fun t => decide (q[t]? = some v)).map fun t : Nat => (t : Int)
theorem idxP_succ {q : List Int} {i : Nat} {v : Int} : idxP q (i + 1) v = if q[i]? = some v then idxP q i v ++ [(i : Int)] else idxP q i v := by
  unfold idxP
  rw [List.range_succ, List.filter_append, List.map_append]
  split <;> rename_i h <;> simp [h]
theorem idxP_mem {q : List Int} {i : Nat} {v x : Int} : x ∈ idxP q i v ↔ ∃ t, t < i ∧ q[t]? = some v ∧ x = (t : Int) := by
  simp only [idxP, List.mem_map, List.mem_filter, List.mem_range, decide_eq_true_eq]
  constructor
  · rintro ⟨t, ⟨h1, h2⟩, rfl⟩; exact ⟨t, h1, h2, rfl⟩
  · rintro ⟨t, h1, h2, rfl⟩; exact ⟨t, ⟨h1, h2⟩, rfl⟩
theorem idxP_asc {q : List Int} {i : Nat} {v : Int} : (idxP q i v).Pairwise (· < ·) := by
  unfold idxP
  rw [List.pairwise_map]
  exact (List.pairwise_lt_range.filter _).imp fun h => by omega
theorem sum_set : ∀ (l : List Nat) (j x : Nat), l[j]? = some x → (l.set j (x + 1)).sum = l.sum + 1 := by
  intro l
  induction l with
  | nil => intro j x h; simp at h
  | cons a r ih =>
    intro j x h
    cases j with
    | zero => simp at h; subst h; simp; omega
    | succ j => simp only [List.getElem?_cons_succ] at h; simp only [List.set_cons_succ, List.sum_cons, ih j x h]; omega
structure GInv (q : List Int) (i : Nat) (es : List (Int × Nat)) (ls : List (List Int)) : Prop where
  get : ∀ v j, alook es v = some j → ls[j]? = some (idxP q i v)
  val : ∀ j, j < ls.length → ∃ v, alook es v = some j
  all : ∀ t, t < i → ∀ v, q[t]? = some v → ∃ j, alook es v = some j
  has : ∀ v j, alook es v = some j → ∃ t, t < i ∧ q[t]? = some v
  hd : ∀ (j : Nat) (a b : Int), (ls.map List.head?)[j]? = some (some a) → (ls.map List.head?)[j + 1]? = some (some b) → a < b
  sum : (ls.map List.length).sum = i
theorem GInv.inj {q : List Int} {i : Nat} {es : List (Int × Nat)} {ls : List (List Int)} (h : GInv q i es ls) {v v' : Int} {j : Nat} (h1 : alook es v = some j) (h2 : alook es v' = some j) : v = v' := by
  have e1 := h.get v j h1
  have e2 := h.get v' j h2
  rw [e1] at e2
  have e3 := Option.some.inj e2
  obtain ⟨t, ht, hv⟩ := h.has v j h1
  have : ((t : Nat) : Int) ∈ idxP q i v' := by rw [← e3]; exact idxP_mem.2 ⟨t, ht, hv, rfl⟩
  obtain ⟨s, _, hs, e⟩ := idxP_mem.1 this
  have : t = s := by omega
  subst this
  rw [hv] at hs
  exact Option.some.inj hs
theorem GInv.start {q : List Int} : GInv q 0 [] [] := ⟨fun v j h => by simp [alook_nil] at h, fun j h => by simp at h, fun t h => by omega, fun v j h => by simp [alook_nil] at h, fun j a b h => by simp at h, rfl⟩
theorem GInv.step {q : List Int} {i : Nat} {es : List (Int × Nat)} {ls : List (List Int)} (h : GInv q i es ls) {k : Int} (hk : q[i]? = some k) : GInv q (i + 1) (compStep (es, ls) i k).1 (compStep (es, ls) i k).2 := by
  unfold compStep
  simp only
  cases hl : alook es k with
  | some j =>
    simp only
    have hj := h.get k j hl
    have hjl := (List.getElem?_eq_some_iff.1 hj).1
    obtain ⟨t0, ht0, hq0⟩ := h.has k j hl
    have hne : idxP q i k ≠ [] := fun e => by
      have : ((t0 : Nat) : Int) ∈ idxP q i k := idxP_mem.2 ⟨t0, ht0, hq0, rfl⟩
      rw [e] at this; cases this
    rw [hj]
    simp only [Option.getD_some]
    refine ⟨fun v j' hv => ?_, fun j' hj' => h.val j' (by simpa using hj'), fun t ht v hv => ?_, fun v j' hv => ?_, fun j' a b ha hb => ?_, ?_⟩
    · rw [List.getElem?_set]
      by_cases e : v = k
      · subst e
        rw [hl] at hv
        have := Option.some.inj hv
        subst this
        rw [if_pos rfl, if_pos hjl, idxP_succ, if_pos hk]
      · have hne2 : ¬ j = j' := fun q2 => e (by subst q2; exact h.inj hv hl)
        have : ¬ q[i]? = some v := fun q2 => e (by rw [hk] at q2; exact (Option.some.inj q2).symm)
        rw [if_neg hne2, idxP_succ, if_neg this]
        exact h.get v j' hv
    · by_cases e : t = i
      · subst e
        rw [hk] at hv
        have := Option.some.inj hv
        subst this
        exact ⟨j, hl⟩
      · exact h.all t (by omega) v hv
    · obtain ⟨t, h1, h2⟩ := h.has v j' hv
      exact ⟨t, by omega, h2⟩
    · have e : (ls.set j (idxP q i k ++ [(i : Int)])).map List.head? = ls.map List.head? := by
        rw [List.map_set]
        refine List.ext_getElem? fun m => ?_
        rw [List.getElem?_set]
        by_cases e : j = m
        · subst e
          rw [if_pos rfl, if_pos (by simpa using hjl), List.getElem?_map, hj]
          simp only [Option.map_some]
          cases hx : idxP q i k with
          | nil => exact absurd hx hne
          | cons a r => rfl
        · rw [if_neg e]
      rw [e] at ha hb
      exact h.hd j' a b ha hb
    · have e : (ls.set j (idxP q i k ++ [(i : Int)])).map List.length = (ls.map List.length).set j ((idxP q i k).length + 1) := by rw [List.map_set]; simp
      rw [e, sum_set _ _ _ (by rw [List.getElem?_map, hj]; rfl), h.sum]
  | none =>
    simp only
    have hno : idxP q i k = [] := by
      cases hx : idxP q i k with
      | nil => rfl
      | cons a r =>
        exfalso
        have : a ∈ idxP q i k := by rw [hx]; simp
        obtain ⟨t, h1, h2, _⟩ := idxP_mem.1 this
        obtain ⟨j, hj⟩ := h.all t h1 k h2
        rw [hl] at hj; cases hj
    have hlt : ∀ v j, alook es v = some j → j < ls.length := fun v j hv => (List.getElem?_eq_some_iff.1 (h.get v j hv)).1
    have hput := fun v => alook_put es k v ls.length
    refine ⟨fun v j hv => ?_, fun j hj => ?_, fun t ht v hv => ?_, fun v j hv => ?_, fun j a b ha hb => ?_, ?_⟩
    · rw [hput] at hv
      by_cases e : k = v
      · subst e
        rw [if_pos rfl] at hv
        have := Option.some.inj hv
        subst this
        rw [List.getElem?_append_right (by omega), idxP_succ, if_pos hk, hno]
        simp
      · rw [if_neg e] at hv
        have : ¬ q[i]? = some v := fun q2 => e (by rw [hk] at q2; exact Option.some.inj q2)
        rw [List.getElem?_append_left (hlt v j hv), idxP_succ, if_neg this]
        exact h.get v j hv
    · by_cases e : j < ls.length
      · obtain ⟨v, hv⟩ := h.val j e
        refine ⟨v, ?_⟩
        rw [hput, if_neg (fun q2 => by rw [← q2, hl] at hv; cases hv)]
        exact hv
      · refine ⟨k, ?_⟩
        rw [hput, if_pos rfl]
        simp at hj
        congr 1; omega
    · by_cases e : k = v
      · exact ⟨ls.length, by rw [hput, if_pos e]⟩
      · by_cases e2 : t = i
        · subst e2; rw [hk] at hv; exact absurd (Option.some.inj hv) e
        · obtain ⟨j, hj⟩ := h.all t (by omega) v hv
          exact ⟨j, by rw [hput, if_neg e]; exact hj⟩
    · rw [hput] at hv
      by_cases e : k = v
      · subst e; exact ⟨i, by omega, hk⟩
      · rw [if_neg e] at hv
        obtain ⟨t, h1, h2⟩ := h.has v j hv
        exact ⟨t, by omega, h2⟩
    · rw [List.map_append] at ha hb
      by_cases e : j + 1 < ls.length
      · rw [List.getElem?_append_left (by simp; omega)] at ha hb
        exact h.hd j a b ha hb
      · by_cases e2 : j + 1 = ls.length
        · rw [List.getElem?_append_left (by simp; omega)] at ha
          rw [List.getElem?_append_right (by simp; omega)] at hb
          simp [e2] at hb
          subst hb
          obtain ⟨v, hv⟩ := h.val j (by omega)
          have hg := h.get v j hv
          rw [List.getElem?_map, hg] at ha
          simp only [Option.map_some, Option.some.injEq] at ha
          have : a ∈ idxP q i v := List.mem_of_mem_head? ha
          obtain ⟨t, h1, _, rfl⟩ := idxP_mem.1 this
          omega
        · rw [List.getElem?_eq_none (by simp; omega)] at hb
          cases hb
    · simp [h.sum]
theorem groups_go {q : List Int} : ∀ (r : List Int) (i : Nat) (es : List (Int × Nat)) (ls : List (List Int)), GInv q i es ls → r = q.drop i → i ≤ q.length → ∃ es', GInv q q.length es' (compR i r (es, ls)) := by
  intro r
  induction r with
  | nil =>
    intro i es ls h hr hi
    have : q.length ≤ i := by have := congrArg List.length hr; simp at this; omega
    have : i = q.length := by omega
    subst this
    exact ⟨es, h⟩
  | cons k r ih =>
    intro i es ls h hr hi
    have hlt : i < q.length := by have := congrArg List.length hr; simp at this; omega
    rw [List.drop_eq_getElem_cons hlt] at hr
    obtain ⟨e1, e2⟩ := List.cons.inj hr
    rw [compR]
    exact ih (i + 1) _ _ (h.step (by rw [e1]; exact List.getElem?_eq_getElem hlt)) e2 hlt
theorem groups (q : List Int) : ∃ es, GInv q q.length es (compR 0 q ([], [])) := groups_go q 0 [] [] .start rfl (Nat.zero_le _)
/-- What is known of the groups. -/
structure Grp (q : List Int) (c : List (List Int)) : Prop where
  form : ∀ a ∈ c, ∃ (t : Nat) (v : Int), t < q.length ∧ q[t]? = some v ∧ a = idxP q q.length v
  idx : ∀ (t : Nat) (v : Int), q[t]? = some v → idxP q q.length v ∈ c
  one : ∀ (j j' : Nat) (a a' : List Int) (x : Int), c[j]? = some a → c[j']? = some a' → x ∈ a → x ∈ a' → j = j'
  hd : ∀ (j : Nat) (a b : Int), (c.map List.head?)[j]? = some (some a) → (c.map List.head?)[j + 1]? = some (some b) → a < b
  sum : (c.map List.length).sum = q.length
theorem grp (q : List Int) : Grp q (compR 0 q ([], [])) := by
  obtain ⟨es, h⟩ := groups q
  have hf : ∀ j a, (compR 0 q ([], []))[j]? = some a → ∃ v, alook es v = some j ∧ a = idxP q q.length v := fun j a hj => by
    obtain ⟨v, hv⟩ := h.val j (List.getElem?_eq_some_iff.1 hj).1
    have := h.get v j hv
    rw [hj] at this
    exact ⟨v, hv, Option.some.inj this⟩
  refine ⟨fun a ha => ?_, fun t v hv => ?_, fun j j' a a' x h1 h2 h3 h4 => ?_, h.hd, h.sum⟩
  · obtain ⟨j, hj⟩ := List.getElem?_of_mem ha
    obtain ⟨v, hv, rfl⟩ := hf j a hj
    obtain ⟨t, h1, h2⟩ := h.has v j hv
    exact ⟨t, v, h1, h2, rfl⟩
  · obtain ⟨j, hj⟩ := h.all t (List.getElem?_eq_some_iff.1 hv).1 v hv
    exact List.mem_of_getElem? (h.get v j hj)
  · obtain ⟨v, hv, rfl⟩ := hf j a h1
    obtain ⟨v', hv', rfl⟩ := hf j' a' h2
    obtain ⟨t, _, q1, rfl⟩ := idxP_mem.1 h3
    obtain ⟨s, _, q2, e⟩ := idxP_mem.1 h4
    have : t = s := by omega
    subst this
    rw [q1] at q2
    have := Option.some.inj q2
    subst this
    rw [hv] at hv'
    exact Option.some.inj hv'
end Go.Proofs.YtdkcmfafganhhaaDoor
