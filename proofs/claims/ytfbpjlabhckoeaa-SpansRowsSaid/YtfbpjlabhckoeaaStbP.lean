/- Stable sorting: what a stable sort leaves (plain words; any strict weak order). -/
import Derived.WalkKit
namespace Go.Proofs.Ytfbpjlabhckoeaa.Stab
set_option linter.unusedSimpArgs false
set_option linter.unusedVariables false
set_option linter.unnecessarySimpa false
set_option linter.unusedSectionVars false
set_option maxRecDepth 100000
universe u
variable {α : Type u}
structure Swo (lt : α → α → Bool) : Prop where
  irr : ∀ x, lt x x = false
  tr : ∀ x y z, lt x y = true → lt y z = true → lt x z = true
  nt : ∀ x y z, lt x z = true → lt x y = true ∨ lt y z = true
def eqk (lt : α → α → Bool) (k x : α) : Bool := !lt x k && !lt k x
/-- The same elements, those that are alike in the same order. -/
def Stb (lt : α → α → Bool) (l l' : List α) : Prop := l.length = l'.length ∧ ∀ k, l.filter (eqk lt k) = l'.filter (eqk lt k)
def Srtd (lt : α → α → Bool) (l : List α) : Prop := l.Pairwise fun x y => lt y x = false
variable {lt : α → α → Bool}
theorem Swo.asy (h : Swo lt) {x y : α} (a : lt x y = true) : lt y x = false := by
  cases e : lt y x
  · rfl
  · have := h.tr x y x a e; rw [h.irr] at this; cases this
/-- Not less is transitive. -/
theorem Swo.ge (h : Swo lt) {x y z : α} (a : lt y x = false) (b : lt z y = false) : lt z x = false := by
  cases e : lt z x
  · rfl
  · rcases h.nt z y x e with q | q
    · rw [b] at q; cases q
    · rw [a] at q; cases q
/-- Less behind not less. -/
theorem Swo.lt_ge (h : Swo lt) {x y z : α} (a : lt x y = true) (b : lt z y = false) : lt x z = true := by
  rcases h.nt x z y a with q | q
  · exact q
  · rw [b] at q; cases q
theorem Swo.ge_lt (h : Swo lt) {x y z : α} (a : lt y x = false) (b : lt y z = true) : lt x z = true := by
  rcases h.nt y x z b with q | q
  · rw [a] at q; cases q
  · exact q
theorem Stb.refl (l : List α) : Stb lt l l := ⟨rfl, fun _ => rfl⟩
theorem Stb.symm {a b : List α} (h : Stb lt a b) : Stb lt b a := ⟨h.1.symm, fun k => (h.2 k).symm⟩
theorem Stb.trans {a b c : List α} (h : Stb lt a b) (g : Stb lt b c) : Stb lt a c := ⟨h.1.trans g.1, fun k => (h.2 k).trans (g.2 k)⟩
theorem Stb.app {a b c d : List α} (h : Stb lt a b) (g : Stb lt c d) : Stb lt (a ++ c) (b ++ d) := ⟨by simp [h.1, g.1], fun k => by rw [List.filter_append, List.filter_append, h.2, g.2]⟩
theorem Stb.mem (hs : Swo lt) {a b : List α} (h : Stb lt a b) {x : α} : x ∈ a ↔ x ∈ b := by
  have e : ∀ l : List α, x ∈ l ↔ x ∈ l.filter (eqk lt x) := fun l => by simp [List.mem_filter, eqk, hs.irr]
  rw [e a, e b, h.2]
theorem Stb.swap (hs : Swo lt) {X Y : List α} (h : ∀ x ∈ X, ∀ y ∈ Y, lt y x = true) : Stb lt (X ++ Y) (Y ++ X) := by
  refine ⟨by simp [Nat.add_comm], fun k => ?_⟩
  rw [List.filter_append, List.filter_append]
  by_cases hx : X.filter (eqk lt k) = []
  · rw [hx]; simp
  · have hy : Y.filter (eqk lt k) = [] := by
      rw [List.filter_eq_nil_iff]
      intro y hy ey
      obtain ⟨x, hx⟩ := List.exists_mem_of_ne_nil _ hx
      rw [List.mem_filter] at hx
      have hl := h x hx.1 y hy
      simp only [eqk, Bool.and_eq_true, Bool.not_eq_true'] at ey hx
      rcases hs.nt y k x hl with q | q
      · rw [ey.1] at q; cases q
      · rw [hx.2.2] at q; cases q
    rw [hy]; simp
/-- A stable sort leaves one list only. -/
theorem stab_uniq (hs : Swo lt) : ∀ a b : List α, Srtd lt a → Srtd lt b → Stb lt a b → a = b := by
  intro a
  induction a with
  | nil => intro b _ _ h; exact (List.eq_nil_of_length_eq_zero h.1.symm).symm
  | cons x a ih =>
    intro b ha hb h
    match b, h with
    | [], h => have := h.1; simp at this
    | y :: b, h =>
      unfold Srtd at ha hb
      rw [List.pairwise_cons] at ha hb
      have hx : x ∈ y :: b := (h.mem hs).1 (by simp)
      have hy : y ∈ x :: a := (h.mem hs).2 (by simp)
      have e1 : lt y x = false := by
        rcases List.mem_cons.1 hy with q | q
        · rw [q]; exact hs.irr x
        · exact ha.1 y q
      have e2 : lt x y = false := by
        rcases List.mem_cons.1 hx with q | q
        · rw [q]; exact hs.irr y
        · exact hb.1 x q
      have e := h.2 x
      have p1 : eqk lt x x = true := by simp [eqk, hs.irr]
      have p2 : eqk lt x y = true := by simp [eqk, e1, e2]
      rw [List.filter_cons_of_pos p1, List.filter_cons_of_pos p2] at e
      injection e with e _
      subst e
      congr 1
      refine ih b ha.2 hb.2 ⟨by have := h.1; simpa using this, fun k => ?_⟩
      have e := h.2 k
      by_cases p : eqk lt k x = true
      · rw [List.filter_cons_of_pos p, List.filter_cons_of_pos p] at e
        injection e
      · rwa [List.filter_cons_of_neg p, List.filter_cons_of_neg p] at e
theorem srtd_app {a b : List α} : Srtd lt (a ++ b) ↔ Srtd lt a ∧ Srtd lt b ∧ ∀ x ∈ a, ∀ y ∈ b, lt y x = false := List.pairwise_append
theorem srtd_nil : Srtd lt ([] : List α) := List.Pairwise.nil
theorem srtd_one (x : α) : Srtd lt [x] := List.pairwise_singleton _ _
/-- One element goes behind those that are less. -/
theorem put_right (hs : Swo lt) {x : α} {Q1 Q2 : List α} (hq : Srtd lt (Q1 ++ Q2)) (h1 : ∀ y ∈ Q1, lt y x = true) (h2 : ∀ y ∈ Q2, lt y x = false) :
    Srtd lt (Q1 ++ x :: Q2) ∧ Stb lt ([x] ++ (Q1 ++ Q2)) (Q1 ++ x :: Q2) := by
  rw [srtd_app] at hq
  refine ⟨?_, ?_⟩
  · rw [srtd_app]
    refine ⟨hq.1, List.pairwise_cons.2 ⟨h2, hq.2.1⟩, fun a ha b hb => ?_⟩
    rcases List.mem_cons.1 hb with rfl | hb
    · exact hs.asy (h1 a ha)
    · exact hq.2.2 a ha b hb
  · have := (Stb.swap hs (X := [x]) (Y := Q1) (fun a ha b hb => by rw [List.mem_singleton] at ha; subst ha; exact h1 b hb)).app (Stb.refl (lt := lt) Q2)
    simpa using this
theorem put_left (hs : Swo lt) {x : α} {P1 P2 : List α} (hp : Srtd lt (P1 ++ P2)) (h1 : ∀ y ∈ P1, lt x y = false) (h2 : ∀ y ∈ P2, lt x y = true) :
    Srtd lt (P1 ++ x :: P2) ∧ Stb lt ((P1 ++ P2) ++ [x]) (P1 ++ x :: P2) := by
  rw [srtd_app] at hp
  refine ⟨?_, ?_⟩
  · rw [srtd_app]
    refine ⟨hp.1, List.pairwise_cons.2 ⟨fun y hy => hs.asy (h2 y hy), hp.2.1⟩, fun a ha b hb => ?_⟩
    rcases List.mem_cons.1 hb with rfl | hb
    · exact h1 a ha
    · exact hp.2.2 a ha b hb
  · have := (Stb.refl (lt := lt) P1).app (Stb.swap hs (X := P2) (Y := [x]) (fun a ha b hb => by rw [List.mem_singleton] at hb; subst hb; exact h2 a ha))
    simpa using this
/-- The parts of a merge put together. -/
theorem merge_mid (hs : Swo lt) {P1 P2 Q1 Q2 L R : List α} (hp : Srtd lt (P1 ++ P2)) (hq : Srtd lt (Q1 ++ Q2)) (hx : ∀ x ∈ P2, ∀ y ∈ Q1, lt y x = true) (hy : ∀ x ∈ P1, ∀ y ∈ Q2, lt y x = false)
    (hL : Srtd lt L) (hR : Srtd lt R) (sL : Stb lt (P1 ++ Q1) L) (sR : Stb lt (P2 ++ Q2) R) : Srtd lt (L ++ R) ∧ Stb lt ((P1 ++ P2) ++ (Q1 ++ Q2)) (L ++ R) := by
  rw [srtd_app] at hp hq
  refine ⟨srtd_app.2 ⟨hL, hR, fun a ha b hb => ?_⟩, ?_⟩
  · rw [← sL.mem hs] at ha
    rw [← sR.mem hs] at hb
    rcases List.mem_append.1 ha with ha | ha <;> rcases List.mem_append.1 hb with hb | hb
    · exact hp.2.2 a ha b hb
    · exact hy a ha b hb
    · exact hs.asy (hx b hb a ha)
    · exact hq.2.2 a ha b hb
  · have h1 : Stb lt ((P1 ++ P2) ++ (Q1 ++ Q2)) ((P1 ++ Q1) ++ (P2 ++ Q2)) := by
      have := ((Stb.refl (lt := lt) P1).app (Stb.swap hs (X := P2) (Y := Q1) hx)).app (Stb.refl (lt := lt) Q2)
      simpa using this
    exact h1.trans (sL.app sR)
/-! Lists of sorted runs. -/
inductive Run (lt : α → α → Bool) (bs : Nat) : List α → Prop
  | last {P : List α} : P.length ≤ bs → Srtd lt P → Run lt bs P
  | cons {P r : List α} : P.length = bs → Srtd lt P → Run lt bs r → Run lt bs (P ++ r)
inductive RunE (lt : α → α → Bool) (bs : Nat) : List α → Prop
  | nil : RunE lt bs []
  | snoc {D P : List α} : RunE lt bs D → P.length = bs → Srtd lt P → RunE lt bs (D ++ P)
theorem RunE.app {bs : Nat} {D : List α} (h : RunE lt bs D) : ∀ {r : List α}, Run lt bs r → Run lt bs (D ++ r) := by
  induction h with
  | nil => intro r hr; exact hr
  | snoc hD hP hS ih => intro r hr; rw [List.append_assoc]; exact ih (.cons hP hS hr)
theorem Run.all {bs : Nat} {r : List α} (h : Run lt bs r) (hl : r.length ≤ bs) : Srtd lt r := by
  cases h with
  | last _ hs => exact hs
  | cons hP hS hr =>
    rename_i P q
    have : q = [] := by rw [List.length_append] at hl; exact List.length_eq_zero_iff.1 (by omega)
    subst this; simpa using hS
theorem Run.one {bs : Nat} {r : List α} (h : Run lt bs r) (hl : bs < r.length) : ∃ P q, r = P ++ q ∧ P.length = bs ∧ Srtd lt P ∧ Run lt bs q := by
  cases h with
  | last h1 hs => omega
  | cons hP hS hr => exact ⟨_, _, rfl, hP, hS, hr⟩
theorem Run.two {bs : Nat} (hb : 0 < bs) {r : List α} (h : Run lt bs r) (hl : 2 * bs ≤ r.length) : ∃ P Q q, r = P ++ (Q ++ q) ∧ P.length = bs ∧ Q.length = bs ∧ Srtd lt P ∧ Srtd lt Q ∧ Run lt bs q := by
  obtain ⟨P, q, rfl, hP, hS, hr⟩ := h.one (by omega)
  rw [List.length_append] at hl
  cases hr with
  | last h1 hs => exact ⟨P, q, [], by simp, hP, by omega, hS, hs, .last (by simp) srtd_nil⟩
  | cons h1 h2 h3 => exact ⟨P, _, _, rfl, hP, h1, hS, h2, h3⟩
/-! Moving elements. -/
theorem two_get {U V : List α} {x y : α} {k : Nat} (hk : U.length = k) : k + 1 < (U ++ (x :: (y :: V))).length ∧ (U ++ (x :: (y :: V)))[k]? = some x ∧ (U ++ (x :: (y :: V)))[k + 1]? = some y := by
  subst hk
  refine ⟨by simp, by simp, ?_⟩
  rw [List.getElem?_append_right (by omega)]; simp
theorem two_set {U V : List α} {x y : α} {k : Nat} (hk : U.length = k) : ((U ++ (x :: (y :: V))).set k y).set (k + 1) x = U ++ (y :: (x :: V)) := by
  subst hk; simp
theorem two_set' {U V : List α} {x y : α} {k : Nat} (hk : U.length = k) : ((U ++ (x :: (y :: V))).set (k + 1) x).set k y = U ++ (y :: (x :: V)) := by
  subst hk; simp
/-- Two ranges change places: the first so many elements of them. -/
def swF (v : List α) (a b n q : Nat) : Option α := if a ≤ q ∧ q < a + n then v[q - a + b]? else if b ≤ q ∧ q < b + n then v[q - b + a]? else v[q]?
theorem swF_zero (v : List α) (a b q : Nat) : swF v a b 0 q = v[q]? := by unfold swF; rw [if_neg (by omega), if_neg (by omega)]
theorem swF_a {v w : List α} {a b i n : Nat} (h : ∀ q, w[q]? = swF v a b i q) (hi : i < n) (hab : a + n ≤ b) : w[a + i]? = v[a + i]? := by
  rw [h]; unfold swF; rw [if_neg (by omega), if_neg (by omega)]
theorem swF_b {v w : List α} {a b i n : Nat} (h : ∀ q, w[q]? = swF v a b i q) (hi : i < n) (hab : a + n ≤ b) : w[b + i]? = v[b + i]? := by
  rw [h]; unfold swF; rw [if_neg (by omega), if_neg (by omega)]
theorem swF_step {v w : List α} {a b i n : Nat} {x y : α} (h : ∀ q, w[q]? = swF v a b i q) (hi : i < n) (hab : a + n ≤ b) (hx : w[a + i]? = some x) (hy : w[b + i]? = some y) :
    ∀ q, ((w.set (a + i) y).set (b + i) x)[q]? = swF v a b (i + 1) q := by
  intro q
  have ha : a + i < w.length := (List.getElem?_eq_some_iff.1 hx).1
  have hb : b + i < w.length := (List.getElem?_eq_some_iff.1 hy).1
  rw [List.getElem?_set, List.getElem?_set]
  rw [swF_a h hi hab] at hx
  rw [swF_b h hi hab] at hy
  by_cases e1 : b + i = q
  · subst e1
    rw [if_pos rfl, if_pos (by simpa using hb)]
    unfold swF
    rw [if_neg (by omega), if_pos (by omega), show b + i - b + a = a + i by omega, hx]
  · rw [if_neg e1]
    by_cases e2 : a + i = q
    · subst e2
      rw [if_pos rfl, if_pos ha]
      unfold swF
      rw [if_pos (by omega), show a + i - a + b = b + i by omega, hy]
    · rw [if_neg e2, h]
      unfold swF
      by_cases c1 : a ≤ q ∧ q < a + i
      · rw [if_pos c1, if_pos (by omega)]
      · rw [if_neg c1, if_neg (show ¬ (a ≤ q ∧ q < a + (i + 1)) by omega)]
        by_cases c2 : b ≤ q ∧ q < b + i
        · rw [if_pos c2, if_pos (by omega)]
        · rw [if_neg c2, if_neg (show ¬ (b ≤ q ∧ q < b + (i + 1)) by omega)]
theorem swF_all {w A X M Y B : List α} {a b n : Nat} (ha : A.length = a) (hX : X.length = n) (hY : Y.length = n) (hb : a + n + M.length = b)
    (h : ∀ q, w[q]? = swF (A ++ (X ++ (M ++ (Y ++ B)))) a b n q) : w = A ++ (Y ++ (M ++ (X ++ B))) := by
  apply List.ext_getElem?
  intro q
  rw [h]
  unfold swF
  simp only [List.getElem?_append, ha, hX, hY]
  repeat' split
  all_goals first | omega | rfl | (congr 1; omega)
/-! Halves of sorted lists. -/
theorem srtd_at (hs : Swo lt) {Q : List α} (h : Srtd lt Q) {s t : Nat} (hst : s ≤ t) (ht : t < Q.length) : lt Q[t] (Q[s]'(by omega)) = false := by
  rcases Nat.lt_or_eq_of_le hst with q | q
  · exact (List.pairwise_iff_getElem.1 h) s t (by omega) ht q
  · subst q; exact hs.irr _
theorem mem_take_at {Q : List α} {n : Nat} {y : α} (h : y ∈ Q.take n) : ∃ s, ∃ hs : s < Q.length, s < n ∧ Q[s] = y := by
  obtain ⟨s, hs, rfl⟩ := List.getElem_of_mem h
  rw [List.length_take] at hs
  exact ⟨s, by omega, by omega, by rw [List.getElem_take]⟩
theorem mem_drop_at {Q : List α} {n : Nat} {y : α} (h : y ∈ Q.drop n) : ∃ s, ∃ hs : s < Q.length, n ≤ s ∧ Q[s] = y := by
  obtain ⟨s, hs, rfl⟩ := List.getElem_of_mem h
  rw [List.length_drop] at hs
  exact ⟨n + s, by omega, by omega, by rw [List.getElem_drop]⟩
theorem get_of {Q : List α} {i : Nat} {x : α} (h : Q[i]? = some x) : ∃ hi : i < Q.length, Q[i] = x := List.getElem?_eq_some_iff.1 h
theorem cut_right (hs : Swo lt) {Q : List α} (hq : Srtd lt Q) {x : α} {k : Nat} (h1 : k = 0 ∨ ∃ y, Q[k - 1]? = some y ∧ lt y x = true) (h2 : k = Q.length ∨ ∃ y, Q[k]? = some y ∧ lt y x = false) :
    (∀ y ∈ Q.take k, lt y x = true) ∧ (∀ y ∈ Q.drop k, lt y x = false) := by
  refine ⟨fun z hz => ?_, fun z hz => ?_⟩
  · obtain ⟨s, hs1, hs2, rfl⟩ := mem_take_at hz
    rcases h1 with h1 | ⟨y, hy, hl⟩
    · omega
    · obtain ⟨hi, rfl⟩ := get_of hy
      exact hs.ge_lt (srtd_at hs hq (s := s) (t := k - 1) (by omega) hi) hl
  · obtain ⟨s, hs1, hs2, rfl⟩ := mem_drop_at hz
    rcases h2 with h2 | ⟨y, hy, hl⟩
    · omega
    · obtain ⟨hi, rfl⟩ := get_of hy
      exact hs.ge hl (srtd_at hs hq (s := k) (t := s) hs2 hs1)
theorem cut_left (hs : Swo lt) {P : List α} (hp : Srtd lt P) {x : α} {k : Nat} (h1 : k = 0 ∨ ∃ y, P[k - 1]? = some y ∧ lt x y = false) (h2 : k = P.length ∨ ∃ y, P[k]? = some y ∧ lt x y = true) :
    (∀ y ∈ P.take k, lt x y = false) ∧ (∀ y ∈ P.drop k, lt x y = true) := by
  refine ⟨fun z hz => ?_, fun z hz => ?_⟩
  · obtain ⟨s, hs1, hs2, rfl⟩ := mem_take_at hz
    rcases h1 with h1 | ⟨y, hy, hl⟩
    · omega
    · obtain ⟨hi, rfl⟩ := get_of hy
      exact hs.ge (srtd_at hs hp (s := s) (t := k - 1) (by omega) hi) hl
  · obtain ⟨s, hs1, hs2, rfl⟩ := mem_drop_at hz
    rcases h2 with h2 | ⟨y, hy, hl⟩
    · omega
    · obtain ⟨hi, rfl⟩ := get_of hy
      exact hs.lt_ge hl (srtd_at hs hp (s := k) (t := s) hs2 hs1)
theorem sym_cut (hs : Swo lt) {P Q : List α} (hp : Srtd lt P) (hq : Srtd lt Q) {h i : Nat} (hh : i ≤ h)
    (c1 : i = P.length ∨ h = i ∨ ∃ x y, P[i]? = some x ∧ Q[h - 1 - i]? = some y ∧ lt y x = true)
    (c2 : i = 0 ∨ h - i = Q.length ∨ ∃ x y, P[i - 1]? = some x ∧ Q[h - i]? = some y ∧ lt y x = false) :
    (∀ x ∈ P.drop i, ∀ y ∈ Q.take (h - i), lt y x = true) ∧ (∀ x ∈ P.take i, ∀ y ∈ Q.drop (h - i), lt y x = false) := by
  refine ⟨fun x hx y hy => ?_, fun x hx y hy => ?_⟩
  · obtain ⟨s, hs1, hs2, rfl⟩ := mem_drop_at hx
    obtain ⟨t, ht1, ht2, rfl⟩ := mem_take_at hy
    rcases c1 with c1 | c1 | ⟨x, y, hx', hy', hl⟩
    · omega
    · omega
    · obtain ⟨hi, rfl⟩ := get_of hx'
      obtain ⟨hj, rfl⟩ := get_of hy'
      exact hs.lt_ge (hs.ge_lt (srtd_at hs hq (s := t) (t := h - 1 - i) (by omega) hj) hl) (srtd_at hs hp (s := i) (t := s) hs2 hs1)
  · obtain ⟨s, hs1, hs2, rfl⟩ := mem_take_at hx
    obtain ⟨t, ht1, ht2, rfl⟩ := mem_drop_at hy
    rcases c2 with c2 | c2 | ⟨x, y, hx', hy', hl⟩
    · omega
    · omega
    · obtain ⟨hi, rfl⟩ := get_of hx'
      obtain ⟨hj, rfl⟩ := get_of hy'
      exact hs.ge (hs.ge (srtd_at hs hp (s := s) (t := i - 1) (by omega) hi) hl) (srtd_at hs hq (s := h - i) (t := t) ht2 ht1)
end Go.Proofs.Ytfbpjlabhckoeaa.Stab
