/- Rows of instances: the order, the first row that is free (plain words; no program). -/
import Derived.Test.YtfbpjlabhckoeaaSpnM
import Derived.Test.YtfbpjlabhckoeaaStbP
namespace Go.Proofs.Ytfbpjlabhckoeaa
set_option linter.unusedSimpArgs false
set_option linter.unusedVariables false
set_option linter.unnecessarySimpa false
set_option linter.unusedSectionVars false
open Go.RowKit
open Stab
theorem nodup_filter {α : Type} {p : α → Bool} {l : List α} (h : l.Nodup) : (l.filter p).Nodup := List.Pairwise.sublist List.filter_sublist h
theorem nodup_sub_len {α : Type} [DecidableEq α] : ∀ {a b : List α}, a.Nodup → (∀ x ∈ a, x ∈ b) → a.length ≤ b.length := by
  intro a
  induction a with
  | nil => intro b _ _; simp
  | cons x r ih =>
    intro b h hs
    obtain ⟨h1, h2⟩ := List.nodup_cons.1 h
    have hx := hs x (by simp)
    have := ih (b := b.erase x) h2 fun y hy => (List.mem_erase_of_ne (fun e : y = x => h1 (by rw [← e]; exact hy))).2 (hs y (by simp [hy]))
    rw [List.length_erase_of_mem hx] at this
    have := List.length_pos_of_mem hx
    simp only [List.length_cons]; omega
/-! Spans by their numbers; those that are never active too. -/
def prp (l : List Sp) (i : Nat) : Bool := match l[i]? with | some s => decide (s.f < s.t) | none => false
def actI (l : List Sp) (t : Int) (i : Nat) : Bool := match l[i]? with | some s => inS t s | none => false
def frI (l : List Sp) (i : Nat) : Int := match l[i]? with | some s => s.f | none => 0
def toI (l : List Sp) (i : Nat) : Int := match l[i]? with | some s => s.t | none => 0
def ltI (l : List Sp) (i k : Nat) : Bool := decide (frI l i < frI l k) || (decide (frI l i = frI l k) && decide (toI l i < toI l k))
def propL (l : List Sp) : List Nat := (List.range l.length).filter (prp l)
theorem swoI (l : List Sp) : Swo (ltI l) where
  irr x := by simp [ltI]
  tr x y z h1 h2 := by simp only [ltI, Bool.or_eq_true, Bool.and_eq_true, decide_eq_true_eq] at *; omega
  nt x y z h := by
    simp only [ltI, Bool.or_eq_true, Bool.and_eq_true, decide_eq_true_eq] at *
    omega
/-- The order in which rows are given. -/
def OrdI (l : List Sp) (o : List Nat) : Prop := Srtd (ltI l) o ∧ Stb (ltI l) (propL l) o
theorem ordI_uniq {l : List Sp} {a b : List Nat} (ha : OrdI l a) (hb : OrdI l b) : a = b := stab_uniq (swoI l) a b ha.1 hb.1 (ha.2.symm.trans hb.2)
/-- The reference's insertion. -/
def befI (l : List Sp) (i k : Nat) : Bool := ltI l i k || (!ltI l k i && decide (i < k))
def insI' (l : List Sp) (o : List Nat) (i : Nat) : List Nat := o.takeWhile (fun k => befI l k i) ++ i :: o.dropWhile (fun k => befI l k i)
def stepO (l : List Sp) (o : List Nat) (i : Nat) : List Nat := if prp l i = true then insI' l o i else o
def ordL' (l : List Sp) : List Nat := (List.range l.length).foldl (stepO l) []
theorem propL_mem {l : List Sp} {i : Nat} : i ∈ propL l ↔ ∃ s, l[i]? = some s ∧ s.f < s.t := by
  simp only [propL, List.mem_filter, List.mem_range, prp]
  constructor
  · rintro ⟨h1, h2⟩
    rw [List.getElem?_eq_getElem h1] at h2
    exact ⟨_, List.getElem?_eq_getElem h1, by simpa using h2⟩
  · rintro ⟨s, h1, h2⟩
    refine ⟨(List.getElem?_eq_some_iff.1 h1).1, ?_⟩
    rw [h1]; simpa using h2
theorem tw_stb {l : List Sp} {i : Nat} : ∀ {o : List Nat}, Srtd (ltI l) o → (∀ k ∈ o, k < i) → Srtd (ltI l) (insI' l o i) ∧ Stb (ltI l) (o ++ [i]) (insI' l o i) := by
  intro o
  induction o with
  | nil => intro _ _; exact ⟨srtd_one i, Stb.refl _⟩
  | cons k r ih =>
    intro h hk
    obtain ⟨h1, h2⟩ := List.pairwise_cons.1 h
    have hki := hk k (by simp)
    by_cases q : befI l k i = true
    · have e : insI' l (k :: r) i = k :: insI' l r i := by unfold insI'; simp [List.takeWhile_cons, List.dropWhile_cons, q]
      obtain ⟨i1, i2⟩ := ih h2 fun x hx => hk x (by simp [hx])
      rw [e]
      refine ⟨List.pairwise_cons.2 ⟨fun x hx => ?_, i1⟩, ?_⟩
      · have hx : x ∈ r ++ [i] := ((Stb.mem (swoI l) i2).2 hx)
        rcases List.mem_append.1 hx with hx | hx
        · exact h1 x hx
        · simp at hx; subst hx
          unfold befI at q
          simp only [Bool.or_eq_true, Bool.and_eq_true, Bool.not_eq_true'] at q
          rcases q with q | q
          · exact (swoI l).asy q
          · exact q.1
      · have := Stb.app (lt := ltI l) (Stb.refl [k]) i2
        simpa using this
    · have e : insI' l (k :: r) i = i :: k :: r := by unfold insI'; simp [List.takeWhile_cons, List.dropWhile_cons, q]
      have q1 : ltI l i k = true := by
        unfold befI at q
        simp only [Bool.or_eq_true, Bool.and_eq_true, Bool.not_eq_true', decide_eq_true_eq] at q
        by_cases c : ltI l i k = true
        · exact c
        · exact absurd (.inr ⟨by simpa using c, hki⟩) q
      have hall : ∀ x ∈ k :: r, ltI l i x = true := fun x hx => by
        rcases List.mem_cons.1 hx with rfl | hx
        · exact q1
        · exact (swoI l).lt_ge q1 (h1 x hx)
      rw [e]
      refine ⟨List.pairwise_cons.2 ⟨fun x hx => (swoI l).asy (hall x hx), h⟩, ?_⟩
      have := Stb.swap (swoI l) (X := k :: r) (Y := [i]) fun x hx y hy => by simp at hy; subst hy; exact hall x hx
      simpa using this
theorem ordL_ok (l : List Sp) : OrdI l (ordL' l) := by
  suffices h : ∀ n, let o := (List.range n).foldl (stepO l) []; Srtd (ltI l) o ∧ Stb (ltI l) ((List.range n).filter (prp l)) o from h l.length
  intro n
  induction n with
  | zero => exact ⟨srtd_nil, Stb.refl _⟩
  | succ n ih =>
    obtain ⟨i1, i2⟩ := ih
    simp only [List.range_succ, List.foldl_append, List.foldl_cons, List.foldl_nil, List.filter_append]
    generalize (List.range n).foldl (stepO l) [] = o at *
    have hlt : ∀ k ∈ o, k < n := fun k hk => by
      have := (Stb.mem (swoI l) i2).2 hk
      simp at this; exact this.1
    unfold stepO
    by_cases q : prp l n = true
    · obtain ⟨t1, t2⟩ := tw_stb i1 hlt
      rw [if_pos q]
      refine ⟨t1, ?_⟩
      have e : [n].filter (prp l) = [n] := by simp [q]
      rw [e]
      exact (Stb.app i2 (Stb.refl [n])).trans t2
    · rw [if_neg q]
      have e : [n].filter (prp l) = [] := by simp [q]
      rw [e, List.append_nil]
      exact ⟨i1, i2⟩
/-! Rows: each takes the first row that is free. -/
def rowOf (u : List Int) (a : Int) : Nat := u.findIdx fun t => decide (t ≤ a)
def stepR (l : List Sp) (s : List Int × List Int) (i : Nat) : List Int × List Int :=
  (s.1.set i (rowOf s.2 (frI l i)), if rowOf s.2 (frI l i) < s.2.length then s.2.set (rowOf s.2 (frI l i)) (toI l i) else s.2 ++ [toI l i])
def rowsL (l : List Sp) : List Int × List Int := (ordL' l).foldl (stepR l) (List.replicate l.length 0, [])
/-- What holds when the instances of P have their rows, J being the last ones of each row. -/
structure RowI (l : List Sp) (N : Nat) (P : List Nat) (out u : List Int) (J : List Nat) : Prop where
  len : out.length = l.length
  other : ∀ i, i ∉ P → i < l.length → out[i]? = some 0
  inr : ∀ i ∈ P, ∃ k : Nat, ∃ t, out[i]? = some (k : Int) ∧ u[k]? = some t ∧ toI l i ≤ t
  dis : ∀ i ∈ P, ∀ j ∈ P, i ≠ j → out[i]? = out[j]? → toI l i ≤ frI l j ∨ toI l j ≤ frI l i
  last : J.length = u.length ∧ ∀ (k j : Nat), J[k]? = some j → j ∈ P ∧ out[j]? = some (k : Int) ∧ u[k]? = some (toI l j)
  few : u.length ≤ N
theorem stepR_ok {l : List Sp} {N : Nat} {P : List Nat} {out u : List Int} {J : List Nat} {i : Nat} (hp : RowI l N P out u J) (hi : i < l.length) (hiP : i ∉ P) (hf : ∀ j ∈ P, frI l j ≤ frI l i) (hpr : prp l i = true)
    (hprP : ∀ j ∈ P, prp l j = true) (hN : ∀ (Q : List Nat) t, Q.Nodup → (∀ j ∈ Q, actI l t j = true) → Q.length ≤ N) :
    ∃ J', RowI l N (i :: P) (stepR l (out, u) i).1 (stepR l (out, u) i).2 J' := by
  have hJl := hp.last.1
  have hset : ∀ (v : Int) (j : Nat), (out.set i v)[j]? = if j = i then some v else out[j]? := fun v j => by
    rw [List.getElem?_set]
    have := hp.len
    by_cases e : i = j
    · subst e; simp; omega
    · rw [if_neg e, if_neg (fun q => e q.symm)]
  have hpt : frI l i < toI l i := by
    unfold prp at hpr
    unfold frI toI
    rw [List.getElem?_eq_getElem hi] at *
    simpa using hpr
  unfold stepR
  simp only
  generalize hk : rowOf u (frI l i) = k
  by_cases q : k < u.length
  · rw [if_pos q]
    have hfree : u[k] ≤ frI l i := by
      have := List.findIdx_getElem (p := fun t => decide (t ≤ frI l i)) (xs := u) (w := by show rowOf u (frI l i) < u.length; omega)
      have e : u[rowOf u (frI l i)]'(by omega) ≤ frI l i := by simpa [rowOf] using this
      simpa only [hk] using e
    have hold : ∀ j ∈ P, out[j]? = some (k : Int) → toI l j ≤ frI l i := fun j hj he => by
      obtain ⟨k', t, e1, e2, e3⟩ := hp.inr j hj
      rw [he] at e1
      simp at e1
      have e1 : k = k' := by omega
      subst e1
      rw [List.getElem?_eq_getElem q] at e2
      simp at e2; omega
    refine ⟨J.set k i, ⟨by simpa using hp.len, fun j hj hjl => ?_, fun j hj => ?_, fun j hj j' hj' hne he => ?_, ⟨by simpa using hJl, fun k' j hj => ?_⟩, by simpa using hp.few⟩⟩
    · simp only [List.mem_cons, not_or] at hj
      rw [hset, if_neg hj.1]; exact hp.other j hj.2 hjl
    · by_cases e : j = i
      · subst e
        refine ⟨k, toI l j, by rw [hset, if_pos rfl], ?_, Int.le_refl _⟩
        rw [List.getElem?_set]; simp [q]
      · have hjP : j ∈ P := by simpa [e] using hj
        obtain ⟨k', t, e1, e2, e3⟩ := hp.inr j hjP
        rw [hset, if_neg e]
        by_cases c : k' = k
        · subst c
          refine ⟨k', toI l i, e1, by rw [List.getElem?_set]; simp [q], ?_⟩
          have := hold j hjP e1; omega
        · exact ⟨k', t, e1, by rw [List.getElem?_set, if_neg (fun e => c e.symm)]; exact e2, e3⟩
    · rw [hset, hset] at he
      by_cases e : j = i
      · subst e
        rw [if_pos rfl, if_neg (fun q => hne q.symm)] at he
        have hjP : j' ∈ P := by
          rcases List.mem_cons.1 hj' with h | h
          · exact absurd h.symm hne
          · exact h
        exact .inr (hold j' hjP he.symm)
      · have hjP : j ∈ P := by simpa [e] using hj
        by_cases e' : j' = i
        · subst e'
          rw [if_pos rfl, if_neg e] at he
          exact .inl (hold j hjP he)
        · have hjP' : j' ∈ P := by simpa [e'] using hj'
          rw [if_neg e, if_neg e'] at he
          exact hp.dis j hjP j' hjP' hne he
    · rw [List.getElem?_set] at hj
      by_cases c : k = k'
      · subst c
        simp only [if_true] at hj
        have hkJ : k < J.length := by omega
        simp [hkJ] at hj
        subst hj
        exact ⟨by simp, by rw [hset, if_pos rfl], by rw [List.getElem?_set]; simp [q]⟩
      · rw [if_neg c] at hj
        obtain ⟨l1, l2, l3⟩ := hp.last.2 k' j hj
        have e : j ≠ i := fun e => hiP (e ▸ l1)
        exact ⟨by simp [l1], by rw [hset, if_neg e]; exact l2, by rw [List.getElem?_set, if_neg c]; exact l3⟩
  · rw [if_neg q]
    have hk2 : k = u.length := by
      have := List.findIdx_le_length (p := fun t => decide (t ≤ frI l i)) (xs := u)
      unfold rowOf at hk; omega
    have hbusy : ∀ (r : Nat) t, u[r]? = some t → frI l i < t := fun r t ht => by
      obtain ⟨hr, e⟩ := List.getElem?_eq_some_iff.1 ht
      have := List.not_of_lt_findIdx (p := fun t => decide (t ≤ frI l i)) (xs := u) (i := r) (by unfold rowOf at hk; omega)
      rw [e] at this
      simp at this; omega
    have hget : ∀ (r : Nat), r < u.length → (u ++ [toI l i])[r]? = u[r]? := fun r hr => List.getElem?_append_left hr
    refine ⟨J ++ [i], ⟨by simpa using hp.len, fun j hj hjl => ?_, fun j hj => ?_, fun j hj j' hj' hne he => ?_, ⟨by simp [hJl], fun k' j hj => ?_⟩, ?_⟩⟩
    · simp only [List.mem_cons, not_or] at hj
      rw [hset, if_neg hj.1]; exact hp.other j hj.2 hjl
    · by_cases e : j = i
      · subst e
        exact ⟨k, toI l j, by rw [hset, if_pos rfl], by rw [hk2]; simp, Int.le_refl _⟩
      · have hjP : j ∈ P := by simpa [e] using hj
        obtain ⟨k', t, e1, e2, e3⟩ := hp.inr j hjP
        exact ⟨k', t, by rw [hset, if_neg e]; exact e1, by rw [hget _ (List.getElem?_eq_some_iff.1 e2).1]; exact e2, e3⟩
    · have hno : ∀ j ∈ P, out[j]? ≠ some (k : Int) := fun j hj e => by
        obtain ⟨k', t, e1, e2, e3⟩ := hp.inr j hj
        rw [e] at e1
        simp at e1
        have := (List.getElem?_eq_some_iff.1 e2).1
        omega
      rw [hset, hset] at he
      by_cases e : j = i
      · subst e
        rw [if_pos rfl, if_neg (fun q => hne q.symm)] at he
        have hjP : j' ∈ P := by
          rcases List.mem_cons.1 hj' with h | h
          · exact absurd h.symm hne
          · exact h
        exact absurd he.symm (hno j' hjP)
      · have hjP : j ∈ P := by simpa [e] using hj
        by_cases e' : j' = i
        · subst e'
          rw [if_pos rfl, if_neg e] at he
          exact absurd he (hno j hjP)
        · have hjP' : j' ∈ P := by simpa [e'] using hj'
          rw [if_neg e, if_neg e'] at he
          exact hp.dis j hjP j' hjP' hne he
    · by_cases c : k' < J.length
      · rw [List.getElem?_append_left c] at hj
        obtain ⟨l1, l2, l3⟩ := hp.last.2 k' j hj
        have e : j ≠ i := fun e => hiP (e ▸ l1)
        exact ⟨by simp [l1], by rw [hset, if_neg e]; exact l2, by rw [hget _ (by omega)]; exact l3⟩
      · have hk' : k' = J.length := by
          have := (List.getElem?_eq_some_iff.1 hj).1
          simp at this; omega
        subst hk'
        simp at hj
        subst hj
        exact ⟨by simp, by rw [hset, if_pos rfl, hk2, hJl], by rw [hJl]; simp⟩
    · have hJP : ∀ j ∈ J, j ∈ P ∧ frI l i < toI l j := fun j hj => by
        obtain ⟨r, hr, e⟩ := List.getElem_of_mem hj
        obtain ⟨l1, l2, l3⟩ := hp.last.2 r j (by rw [List.getElem?_eq_getElem hr, e])
        exact ⟨l1, hbusy r _ l3⟩
      have hnd : (i :: J).Nodup := by
        refine List.nodup_cons.2 ⟨fun h => hiP (hJP i h).1, ?_⟩
        rw [List.nodup_iff_pairwise_ne, List.pairwise_iff_getElem]
        intro a b ha hb hab e
        obtain ⟨_, l2, _⟩ := hp.last.2 a _ (List.getElem?_eq_getElem ha)
        obtain ⟨_, m2, _⟩ := hp.last.2 b _ (List.getElem?_eq_getElem hb)
        rw [e, m2] at l2
        simp at l2; omega
      have := hN (i :: J) (frI l i) hnd fun j hj => by
        unfold actI
        rcases List.mem_cons.1 hj with rfl | hj
        · rw [List.getElem?_eq_getElem hi]
          have e1 : frI l j = (l[j]).f := by unfold frI; rw [List.getElem?_eq_getElem hi]
          have e2 : toI l j = (l[j]).t := by unfold toI; rw [List.getElem?_eq_getElem hi]
          simp only [inS, Bool.and_eq_true, decide_eq_true_eq]
          rw [e1, e2] at hpt
          omega
        · obtain ⟨hjP, hjt⟩ := hJP j hj
          have hff := hf j hjP
          have hjr := hprP j hjP
          unfold prp at hjr
          cases hlj : l[j]? with
          | none => rw [hlj] at hjr; cases hjr
          | some s =>
            have e1 : frI l j = s.f := by unfold frI; rw [hlj]
            have e2 : toI l j = s.t := by unfold toI; rw [hlj]
            simp only [inS, Bool.and_eq_true, decide_eq_true_eq]
            omega
      simp only [List.length_append, List.length_cons, List.length_nil] at this ⊢
      omega
theorem rows_fold {l : List Sp} {N : Nat} (hN : ∀ (Q : List Nat) t, Q.Nodup → (∀ j ∈ Q, actI l t j = true) → Q.length ≤ N) :
    ∀ (o P : List Nat) (out u : List Int) (J : List Nat), RowI l N P out u J → (∀ i ∈ o, i < l.length ∧ prp l i = true) → (∀ i ∈ P, prp l i = true) → o.Nodup → (∀ i ∈ o, i ∉ P) → (∀ i ∈ o, ∀ j ∈ P, frI l j ≤ frI l i) → Srtd (ltI l) o →
      ∃ P' J', (∀ i, i ∈ P' ↔ i ∈ P ∨ i ∈ o) ∧ RowI l N P' (o.foldl (stepR l) (out, u)).1 (o.foldl (stepR l) (out, u)).2 J' := by
  intro o
  induction o with
  | nil => intro P out u J h _ _ _ _ _ _; exact ⟨P, J, fun i => by simp, h⟩
  | cons i r ih =>
    intro P out u J h h1 h2 h3 h4 h5 h6
    obtain ⟨n1, n2⟩ := List.nodup_cons.1 h3
    obtain ⟨s1, s2⟩ := List.pairwise_cons.1 h6
    obtain ⟨hi, hpi⟩ := h1 i (by simp)
    obtain ⟨J', hJ'⟩ := stepR_ok h hi (h4 i (by simp)) (h5 i (by simp)) hpi h2 hN
    obtain ⟨P', J'', g1, g2⟩ := ih (i :: P) _ _ J' hJ' (fun x hx => h1 x (by simp [hx])) (fun x hx => by
      rcases List.mem_cons.1 hx with rfl | hx
      · exact hpi
      · exact h2 x hx) n2 (fun x hx => by
        simp only [List.mem_cons, not_or]
        exact ⟨fun e => n1 (e ▸ hx), h4 x (by simp [hx])⟩) (fun x hx j hj => by
        rcases List.mem_cons.1 hj with rfl | hj
        · have := s1 x hx
          simp only [ltI, Bool.or_eq_false_iff, decide_eq_false_iff_not] at this
          omega
        · exact h5 x (by simp [hx]) j hj) s2
    refine ⟨P', J'', fun x => ?_, g2⟩
    rw [g1, List.mem_cons, List.mem_cons, or_assoc, or_left_comm]
theorem range_count (l : List Sp) (p : Sp → Bool) : ((List.range l.length).filter fun i => match l[i]? with | some s => p s | none => false).length = l.countP p := by
  suffices h : ∀ n, n ≤ l.length → ((List.range n).filter fun i => match l[i]? with | some s => p s | none => false).length = (l.take n).countP p by
    have := h l.length (Nat.le_refl _)
    rwa [List.take_length] at this
  intro n
  induction n with
  | zero => intro _; simp
  | succ n ih =>
    intro h
    rw [List.range_succ, List.filter_append, List.length_append, ih (by omega), List.take_add_one, List.countP_append, List.getElem?_eq_getElem (show n < l.length by omega)]
    simp only [List.filter_cons, List.getElem?_eq_getElem (show n < l.length by omega), Option.toList, List.countP_cons, List.countP_nil]
    cases p l[n] <;> simp
theorem act_count (l : List Sp) (t : Int) : ((List.range l.length).filter (actI l t)).length = actN l t := range_count l (inS t)
theorem act_few {l : List Sp} {n at_ : Int} (h : MostS l n at_) (Q : List Nat) (t : Int) (hq : Q.Nodup) (ha : ∀ j ∈ Q, actI l t j = true) : Q.length ≤ n.toNat := by
  have h1 : Q.length ≤ ((List.range l.length).filter (actI l t)).length := nodup_sub_len hq fun j hj => by
    rw [List.mem_filter, List.mem_range]
    have := ha j hj
    refine ⟨?_, this⟩
    unfold actI at this
    cases hl : l[j]? with
    | none => rw [hl] at this; cases this
    | some s => exact (List.getElem?_eq_some_iff.1 hl).1
  rw [act_count] at h1
  rcases h with ⟨h2, h3, h4⟩ | ⟨h2, h3, h4, h5⟩
  · have := h4 t; omega
  · have := h4 t; omega
/-- What is to be known of the rows. -/
theorem rows_know {l : List Sp} {n at_ : Int} (hm : MostS l n at_) : ∃ (u : List Int) (J : List Nat), RowI l n.toNat (propL l) (rowsL l).1 u J ∧ (u.length : Int) = n := by
  obtain ⟨o1, o2⟩ := ordL_ok l
  have hnd : (ordL' l).Nodup := by
    have h1 : (propL l).Nodup := nodup_filter List.nodup_range
    rw [List.nodup_iff_count] at h1 ⊢
    intro a
    have e := o2.2 a
    have h2 := h1 a
    have hc : ∀ (L : List Nat), (L.filter (eqk (ltI l) a)).count a = L.count a := fun L => List.count_filter (by simp [eqk, ltI])
    rw [← hc, ← e, hc]; exact h2
  have hmem : ∀ i, i ∈ ordL' l ↔ i ∈ propL l := fun i => (Stb.mem (swoI l) o2).symm
  have h0 : RowI l n.toNat [] (List.replicate l.length 0) [] [] := ⟨by simp, fun i _ hi => by simp [hi], by simp, by simp, ⟨rfl, by simp⟩, by simp⟩
  have hpi : ∀ i ∈ ordL' l, i < l.length ∧ prp l i = true := fun i hi => by
    have := (hmem i).1 hi
    simpa [propL] using this
  obtain ⟨P', J, g1, g2⟩ := rows_fold (act_few hm) (ordL' l) [] _ _ _ h0 hpi (by simp) hnd (by simp) (by simp) o1
  have gP : ∀ i, i ∈ P' ↔ i ∈ propL l := fun i => by rw [g1]; simp [hmem]
  have g3 : RowI l n.toNat (propL l) (rowsL l).1 (rowsL l).2 J := ⟨g2.len, fun i hi => g2.other i fun q => hi ((gP i).1 q), fun i hi => g2.inr i ((gP i).2 hi), fun i hi j hj => g2.dis i ((gP i).2 hi) j ((gP j).2 hj), ⟨g2.last.1, fun k j hk => by
    obtain ⟨a, b⟩ := g2.last.2 k j hk
    exact ⟨(gP j).1 a, b⟩⟩, g2.few⟩
  refine ⟨_, J, g3, ?_⟩
  have hfew := g3.few
  rcases hm with ⟨h2, h3, h4⟩ | ⟨h2, h3, h4, h5⟩
  · omega
  · have hle : ((List.range l.length).filter (actI l at_)).length ≤ (rowsL l).2.length := by
      have hk : ∀ i ∈ (List.range l.length).filter (actI l at_), ∃ k : Nat, k < (rowsL l).2.length ∧ (rowsL l).1[i]? = some (k : Int) ∧ i ∈ propL l ∧ frI l i ≤ at_ ∧ at_ < toI l i := fun i hi => by
        have ha := (List.mem_filter.1 hi).2
        unfold actI at ha
        cases hl : l[i]? with
        | none => rw [hl] at ha; cases ha
        | some s =>
          rw [hl] at ha
          simp [inS] at ha
          have hP : i ∈ propL l := propL_mem.2 ⟨s, hl, by omega⟩
          obtain ⟨k, t, e1, e2, e3⟩ := g3.inr i hP
          exact ⟨k, (List.getElem?_eq_some_iff.1 e2).1, e1, hP, by unfold frI; rw [hl]; exact ha.1, by unfold toI; rw [hl]; exact ha.2⟩
      have h6 := nodup_sub_len (a := ((List.range l.length).filter (actI l at_)).map fun i => (rowsL l).1[i]?) (b := (List.range (rowsL l).2.length).map fun k : Nat => some (k : Int)) ?_ ?_
      · simpa using h6
      · rw [List.nodup_iff_pairwise_ne, List.pairwise_map]
        have hnd2 : ((List.range l.length).filter (actI l at_)).Nodup := nodup_filter List.nodup_range
        rw [List.nodup_iff_pairwise_ne] at hnd2
        refine List.Pairwise.imp_of_mem (fun {a b} ha hb hne e => ?_) hnd2
        obtain ⟨_, _, _, a1, a2, a3⟩ := hk a ha
        obtain ⟨_, _, _, b1, b2, b3⟩ := hk b hb
        rcases g3.dis a a1 b b1 hne e with q | q <;> omega
      · intro x hx
        obtain ⟨i, hi, rfl⟩ := List.mem_map.1 hx
        obtain ⟨k, k1, k2, _⟩ := hk i hi
        rw [k2]
        exact List.mem_map.2 ⟨k, List.mem_range.2 k1, rfl⟩
    rw [act_count] at hle
    omega
end Go.Proofs.Ytfbpjlabhckoeaa
