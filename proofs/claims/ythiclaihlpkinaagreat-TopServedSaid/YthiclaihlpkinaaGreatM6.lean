/- Several texts of the abstract machine, one behind the other. -/
import Derived.Test.YthiclaihlpkinaaGreatTy
set_option linter.unusedSimpArgs false
set_option linter.unusedVariables false
set_option linter.unnecessarySimpa false
set_option linter.unusedSectionVars false
namespace Go.Proofs.YthiclaihlpkinaaGreat
structure Cu where
  a : Int
  s : Int
  st : Int
  en : Int
deriving DecidableEq
/-- The least number of a list; 0 of none. -/
def minL : List Int → Int
  | [] => 0
  | x :: l => l.foldl min x
theorem foldl_min (l : List Int) : ∀ x : Int, l.foldl min x ≤ x ∧ (∀ y ∈ l, l.foldl min x ≤ y) ∧ (l.foldl min x = x ∨ l.foldl min x ∈ l) := by
  induction l with
  | nil => intro x; simp
  | cons y l ih =>
    intro x
    obtain ⟨h1, h2, h3⟩ := ih (min x y)
    simp only [List.foldl_cons]
    refine ⟨by omega, fun z hz => ?_, ?_⟩
    · rcases List.mem_cons.1 hz with rfl | hz
      · omega
      · exact h2 z hz
    · rcases h3 with h3 | h3
      · by_cases hxy : x ≤ y
        · left; omega
        · right; rw [h3]; simp; left; omega
      · right; simp [h3]
theorem minL_le {l : List Int} : ∀ y ∈ l, minL l ≤ y := by
  intro y hy
  cases l with
  | nil => simp at hy
  | cons x l =>
    obtain ⟨h1, h2, _⟩ := foldl_min l x
    rcases List.mem_cons.1 hy with rfl | hy
    · exact h1
    · exact h2 y hy
theorem minL_mem {l : List Int} (h : l ≠ []) : minL l ∈ l := by
  cases l with
  | nil => exact absurd rfl h
  | cons x l =>
    obtain ⟨_, _, h3⟩ := foldl_min l x
    rcases h3 with h3 | h3
    · simp [minL, h3]
    · simp [minL, h3]
theorem le_minL {l : List Int} (h : l ≠ []) {b : Int} (hb : ∀ y ∈ l, b ≤ y) : b ≤ minL l := hb _ (minL_mem h)
/-- How many are greater than t. -/
def cnt (t : Int) (l : List Int) : Nat := l.countP fun x => decide (t < x)
def cle (t : Int) (l : List Int) : Nat := l.countP fun x => decide (x ≤ t)
theorem countP_set (p : Int → Bool) : ∀ (l : List Int) (k : Nat) (e m : Int), l[k]? = some m → (l.set k e).countP p + (if p m then 1 else 0) = l.countP p + (if p e then 1 else 0) := by
  intro l
  induction l with
  | nil => intro k e m h; simp at h
  | cons x l ih =>
    intro k e m h
    cases k with
    | zero =>
      simp at h
      subst h
      simp only [List.set_cons_zero, List.countP_cons]
      omega
    | succ k =>
      simp at h
      have := ih k e m h
      simp only [List.set_cons_succ, List.countP_cons]
      omega
theorem idx_get {l : List Int} {x : Int} (h : x ∈ l) : l[l.idxOf x]? = some x := by
  have h1 : l.idxOf x < l.length := List.idxOf_lt_length_of_mem h
  rw [List.getElem?_eq_getElem h1]
  simp
/-- One customer is served. -/
def stS (free : List Int) (c : Cu) : Int := max c.a (minL free)
def frS (free : List Int) (c : Cu) : List Int := free.set (free.idxOf (minL free)) (stS free c + c.s)
def cuS (free : List Int) (c : Cu) : Cu := ⟨c.a, c.s, stS free c, stS free c + c.s⟩
def serveL : List Int → List Cu → List Cu
  | _, [] => []
  | free, c :: l => cuS free c :: serveL (frS free c) l
theorem frS_len {free : List Int} {c : Cu} : (frS free c).length = free.length := by simp [frS]
theorem frS_ne {free : List Int} {c : Cu} (h : free ≠ []) : frS free c ≠ [] := by
  intro e; have := congrArg List.length e; rw [frS_len] at this; exact h (List.length_eq_zero_iff.1 this)
theorem frS_cnt {free : List Int} {c : Cu} (h : free ≠ []) (p : Int → Bool) : (frS free c).countP p + (if p (minL free) then 1 else 0) = free.countP p + (if p (stS free c + c.s) then 1 else 0) :=
  countP_set p free _ _ _ (idx_get (minL_mem h))
theorem frS_ge {free : List Int} {c : Cu} (h : free ≠ []) (hs : 0 ≤ c.s) : ∀ y ∈ frS free c, minL free ≤ y := by
  intro y hy
  rcases List.mem_or_eq_of_mem_set hy with hy | rfl
  · exact minL_le y hy
  · unfold stS; omega
theorem serveL_len : ∀ (l : List Cu) (free : List Int), (serveL free l).length = l.length := by
  intro l
  induction l with
  | nil => intro _; rfl
  | cons c l ih => intro free; simp [serveL, ih]
theorem serveL_append : ∀ (l r : List Cu) (free : List Int), serveL free (l ++ r) = serveL free l ++ serveL (l.foldl frS free) r := by
  intro l
  induction l with
  | nil => intro r free; rfl
  | cons c l ih => intro r free; simp [serveL, ih]
/-- What is known of each customer that is served. -/
theorem serveL_get : ∀ (l : List Cu) (free : List Int) (k : Nat) (x c : Cu), (serveL free l)[k]? = some x → l[k]? = some c → x.a = c.a ∧ x.s = c.s ∧ c.a ≤ x.st ∧ x.en = x.st + c.s := by
  intro l
  induction l with
  | nil => intro free k x c h; simp [serveL] at h
  | cons d l ih =>
    intro free k x c h1 h2
    cases k with
    | zero =>
      simp [serveL] at h1 h2
      subst h1; subst h2
      refine ⟨rfl, rfl, ?_, rfl⟩
      simp only [cuS, stS]; omega
    | succ k => exact ih _ k x c (by simpa [serveL] using h1) (by simpa using h2)
/-- They start in order. -/
theorem serveL_ge : ∀ (l : List Cu) (free : List Int) (b : Int), free ≠ [] → (∀ c ∈ l, 0 ≤ c.s) → (∀ c ∈ l, b ≤ c.a) ∨ b ≤ minL free → ∀ x ∈ serveL free l, b ≤ x.st := by
  intro l
  induction l with
  | nil => intro free b _ _ _ x hx; simp [serveL] at hx
  | cons c l ih =>
    intro free b hne hs hb x hx
    simp only [serveL, List.mem_cons] at hx
    rcases hx with rfl | hx
    · simp only [cuS, stS]
      rcases hb with hb | hb
      · have := hb c (by simp); omega
      · omega
    · refine ih (frS free c) b (frS_ne hne) (fun d hd => hs d (by simp [hd])) ?_ x hx
      rcases hb with hb | hb
      · exact .inl fun d hd => hb d (by simp [hd])
      · right
        have := le_minL (frS_ne (c := c) hne) (frS_ge hne (hs c (by simp)))
        omega
theorem serveL_order : ∀ (l : List Cu) (free : List Int), free ≠ [] → (∀ c ∈ l, 0 ≤ c.s) → l.Pairwise (fun c d => c.a ≤ d.a) → (serveL free l).Pairwise fun x y => x.st ≤ y.st := by
  intro l
  induction l with
  | nil => intro free _ _ _; exact .nil
  | cons c l ih =>
    intro free hne hs hp
    simp only [serveL]
    rw [List.pairwise_cons] at hp ⊢
    have hs' : ∀ d ∈ l, 0 ≤ d.s := fun d hd => hs d (by simp [hd])
    refine ⟨fun x hx => ?_, ih _ (frS_ne hne) hs' hp.2⟩
    have h1 := serveL_ge l (frS free c) c.a (frS_ne hne) hs' (.inl hp.1) x hx
    have h2 := serveL_ge l (frS free c) (minL free) (frS_ne hne) hs' (.inr (le_minL (frS_ne hne) (frS_ge hne (hs c (by simp))))) x hx
    simp only [cuS, stS]; omega
/-- With more servers nobody starts later. -/
theorem serveL_more : ∀ (l : List Cu) (f1 f2 : List Int), f1 ≠ [] → f2 ≠ [] → (∀ c ∈ l, 0 ≤ c.s) → (∀ t, cle t f1 ≤ cle t f2) → ∀ (k : Nat) (x y : Cu), (serveL f1 l)[k]? = some x → (serveL f2 l)[k]? = some y → y.st ≤ x.st ∧ y.en ≤ x.en := by
  intro l
  induction l with
  | nil => intro f1 f2 _ _ _ _ k x y h; simp [serveL] at h
  | cons c l ih =>
    intro f1 f2 n1 n2 hs hc k x y h1 h2
    have hm : minL f2 ≤ minL f1 := by
      have h := hc (minL f1)
      have h3 : 0 < cle (minL f1) f1 := List.countP_pos_iff.2 ⟨_, minL_mem n1, by simp⟩
      obtain ⟨z, hz, hz2⟩ := List.countP_pos_iff.1 (show 0 < cle (minL f1) f2 by omega)
      have := minL_le z hz
      simp at hz2
      omega
    have hst : stS f2 c ≤ stS f1 c := by unfold stS; omega
    cases k with
    | zero =>
      simp [serveL] at h1 h2
      subst h1; subst h2
      simp only [cuS]; omega
    | succ k =>
      refine ih (frS f1 c) (frS f2 c) (frS_ne n1) (frS_ne n2) (fun d hd => hs d (by simp [hd])) (fun t => ?_) k x y (by simpa [serveL] using h1) (by simpa [serveL] using h2)
      have g1 := frS_cnt (c := c) n1 fun x => decide (x ≤ t)
      have g2 := frS_cnt (c := c) n2 fun x => decide (x ≤ t)
      have g3 := hc t
      have hcs := hs c (by simp)
      simp only [cle] at g3 ⊢
      by_cases q : minL f1 ≤ t
      · have q2 : minL f2 ≤ t := by omega
        simp only [q, q2, decide_true, if_true] at g1 g2
        by_cases e1 : stS f1 c + c.s ≤ t
        · have e2 : stS f2 c + c.s ≤ t := by omega
          simp only [e1, e2, decide_true, if_true] at g1 g2
          omega
        · simp only [e1, decide_false] at g1
          simp at g1 g2
          split at g2 <;> omega
      · have z1 : f1.countP (fun x => decide (x ≤ t)) = 0 := by
          rw [List.countP_eq_zero]
          intro y hy
          have := minL_le y hy
          simp; omega
        have e1 : ¬ stS f1 c + c.s ≤ t := by unfold stS; omega
        simp only [q, e1, decide_false] at g1
        simp at g1
        omega
/-- Those that are served at a time. -/
def actC (τ : Int) (x : Cu) : Bool := decide (x.st ≤ τ) && decide (τ < x.en)
theorem serveL_act (τ : Int) : ∀ (l : List Cu) (free : List Int) (n : Nat), free ≠ [] → (∀ c ∈ l, 0 ≤ c.s) → n ≤ cnt τ free → n + (serveL free l).countP (actC τ) ≤ free.length := by
  intro l
  induction l with
  | nil =>
    intro free n _ _ h
    have : cnt τ free ≤ free.length := List.countP_le_length
    simp [serveL]; omega
  | cons c l ih =>
    intro free n hne hs h
    have hcs := hs c (by simp)
    have g := frS_cnt (c := c) hne fun x => decide (τ < x)
    simp only [serveL, List.countP_cons]
    have hm : minL free ≤ stS free c := by unfold stS; omega
    have := ih (frS free c) (n + if actC τ (cuS free c) = true then 1 else 0) (frS_ne hne) (fun d hd => hs d (by simp [hd])) (by
      simp only [cnt] at h ⊢
      by_cases q1 : τ < minL free <;> by_cases q2 : τ < stS free c + c.s <;> by_cases q3 : stS free c ≤ τ <;> simp [q1, q2, q3, actC, cuS] at g ⊢ <;> omega)
    rw [frS_len] at this
    omega
/-- While one waits, all are busy. -/
theorem serveL_busy (τ : Int) : ∀ (l : List Cu) (free : List Int) (n : Nat), free ≠ [] → (∀ c ∈ l, 0 ≤ c.s) → cnt τ free ≤ n ∨ free.length ≤ n → ∀ (k : Nat) (x : Cu), (serveL free l)[k]? = some x → (∀ (j : Nat) c, j ≤ k → l[j]? = some c → c.a ≤ τ) → τ < x.st → free.length ≤ n + ((serveL free l).take k).countP (actC τ) := by
  intro l
  induction l with
  | nil => intro free n _ _ _ k x h; simp [serveL] at h
  | cons c l ih =>
    intro free n hne hs h k x hx ha hst
    have hcs := hs c (by simp)
    have hca := ha 0 c (by omega) rfl
    have g := frS_cnt (c := c) hne fun x => decide (τ < x)
    have hall : τ < stS free c → free.length ≤ n := fun hq => by
      have hm : τ < minL free := by unfold stS at hq; omega
      have : cnt τ free = free.length := by
        unfold cnt
        rw [List.countP_eq_length]
        intro y hy
        have := minL_le y hy
        simp; omega
      omega
    cases k with
    | zero =>
      simp [serveL] at hx
      subst hx
      have := hall hst
      simp; exact this
    | succ k =>
      simp only [serveL, List.take_succ_cons, List.countP_cons]
      have := ih (frS free c) (n + if actC τ (cuS free c) = true then 1 else 0) (frS_ne hne) (fun d hd => hs d (by simp [hd])) (by
        rw [frS_len]
        by_cases hq : τ < stS free c
        · have := hall hq; right; omega
        · rcases h with h | h
          · left
            simp only [cnt] at h ⊢
            have hm : minL free ≤ stS free c := by unfold stS; omega
            by_cases q1 : τ < minL free <;> by_cases q2 : τ < stS free c + c.s <;> by_cases q3 : stS free c ≤ τ <;> simp [q1, q2, q3, actC, cuS] at g ⊢ <;> omega
          · right; omega) k x (by simpa [serveL] using hx) (fun j d hj hd => ha (j + 1) d (by omega) (by simpa using hd)) hst
      rw [frS_len] at this
      omega
end Go.Proofs.YthiclaihlpkinaaGreat
namespace Go.Proofs.YthiclaihlpkinaaGreat
def rnd0 (s n : Int) : Int := (48271 * (s + 1) + 69621 * (n + 1)).tmod 2147483647
def rndS (r : Int) : Int := (16807 * r + 12345).tmod 2147483647
def rndN : Nat → Int → Int
  | 0, r => r
  | k + 1, r => rndS (rndN k r)
def rndO (s n : Int) : Int := rndN 3 (rnd0 s n)
theorem tmod_rng {x m : Int} (hx : 0 ≤ x) (hm : 0 < m) : 0 ≤ x.tmod m ∧ x.tmod m < m := ⟨Int.tmod_nonneg m hx, Int.tmod_lt_of_pos x hm⟩
theorem rndN_rng {r : Int} (h : 0 ≤ r ∧ r < 2147483647) : ∀ k, 0 ≤ rndN k r ∧ rndN k r < 2147483647
  | 0 => h
  | k + 1 => tmod_rng (by have := (rndN_rng h k).1; omega) (by omega)
theorem rnd0_rng {s n : Int} (hs : 0 ≤ s) (hn : 0 ≤ n) : 0 ≤ rnd0 s n ∧ rnd0 s n < 2147483647 := tmod_rng (by omega) (by omega)
theorem rndO_rng {s n : Int} (hs : 0 ≤ s) (hn : 0 ≤ n) : 0 ≤ rndO s n ∧ rndO s n < 2147483647 := rndN_rng (rnd0_rng hs hn) 3
/-- The place of an item, and what is left of its number. -/
def locH : List Int → Int → Nat × Int
  | [], n => (0, n)
  | c :: l, n => if c ≤ n then ((locH l (n - c)).1 + 1, (locH l (n - c)).2) else (0, n)
theorem locH_ok : ∀ (l : List Int) (n : Int), (∀ c ∈ l, 0 ≤ c) → 0 ≤ n → n < l.sum → ∃ h : (locH l n).1 < l.length, 0 ≤ (locH l n).2 ∧ (locH l n).2 < l[(locH l n).1] := by
  intro l
  induction l with
  | nil => intro n _ h0 h1; simp at h1; omega
  | cons c l ih =>
    intro n hc h0 h1
    simp only [List.sum_cons] at h1
    by_cases h : c ≤ n
    · obtain ⟨k, k1, k2⟩ := ih (n - c) (fun d hd => hc d (by simp [hd])) (by omega) (by omega)
      have e : locH (c :: l) n = ((locH l (n - c)).1 + 1, (locH l (n - c)).2) := by simp [locH, h]
      rw [e]
      exact ⟨by simp; exact k, k1, by simpa using k2⟩
    · have e : locH (c :: l) n = (0, n) := by simp [locH, h]
      rw [e]
      exact ⟨by simp, h0, by simp; omega⟩
/-- The number that an item stands for. -/
def smpO (e c : List Int) (n : Int) : Int := e.getD (locH c n).1 0 + ((locH c n).2 * (e.getD ((locH c n).1 + 1) 0 - e.getD (locH c n).1 0)).tdiv (c.getD (locH c n).1 0)
theorem tdiv_between {x d c : Int} (hx : 0 ≤ x) (hxc : x < c) (hd : 0 ≤ d) : 0 ≤ (x * d).tdiv c ∧ (x * d).tdiv c ≤ d := by
  have h0 : 0 ≤ x * d := Int.mul_nonneg hx hd
  have hc : 0 < c := by omega
  rw [Int.tdiv_eq_ediv_of_nonneg h0]
  refine ⟨Int.ediv_nonneg h0 (by omega), Int.ediv_le_of_le_mul hc ?_⟩
  rw [Int.mul_comm]
  exact Int.mul_le_mul_of_nonneg_left (by omega) hd
theorem smpO_rng {e c : List Int} {n : Int} (hl : c.length + 1 = e.length) (hE : ∀ x ∈ e, 0 ≤ x ∧ x ≤ 1073741824) (hs : ∀ i, i + 1 < e.length → e.getD i 0 < e.getD (i + 1) 0) (hc : ∀ x ∈ c, 0 ≤ x) (h0 : 0 ≤ n) (h1 : n < c.sum) : 0 ≤ smpO e c n ∧ smpO e c n ≤ 1073741824 := by
  obtain ⟨h, h2, h3⟩ := locH_ok c n hc h0 h1
  unfold smpO
  generalize locH c n = q at *
  have hg : c.getD q.1 0 = c[q.1] := by simp [h]
  have hi1 : q.1 < e.length := by omega
  have hi2 : q.1 + 1 < e.length := by omega
  have b1 : 0 ≤ e.getD q.1 0 ∧ e.getD q.1 0 ≤ 1073741824 := by
    have : e.getD q.1 0 = e[q.1] := by simp [hi1]
    rw [this]; exact hE _ (List.getElem_mem hi1)
  have b2 : 0 ≤ e.getD (q.1 + 1) 0 ∧ e.getD (q.1 + 1) 0 ≤ 1073741824 := by
    have : e.getD (q.1 + 1) 0 = e[q.1 + 1] := by simp [hi2]
    rw [this]; exact hE _ (List.getElem_mem hi2)
  have b3 := hs q.1 hi2
  rw [hg]
  have := tdiv_between (x := q.2) (d := e.getD (q.1 + 1) 0 - e.getD q.1 0) (c := c[q.1]) h2 h3 (by omega)
  omega
/-- When customers arrive. -/
def arrO (fa : Nat → Int) : Nat → Int
  | 0 => 0
  | k + 1 => arrO fa k + fa k
def custL (fa fs : Nat → Int) (n : Nat) : List Cu := (List.range n).map fun k => ⟨arrO fa (k + 1), fs k, 0, 0⟩
theorem custL_len (fa fs : Nat → Int) (n : Nat) : (custL fa fs n).length = n := by simp [custL]
theorem custL_succ (fa fs : Nat → Int) (n : Nat) : custL fa fs (n + 1) = custL fa fs n ++ [⟨arrO fa (n + 1), fs n, 0, 0⟩] := by simp [custL, List.range_succ]
theorem custL_take (fa fs : Nat → Int) {m n : Nat} (h : m ≤ n) : (custL fa fs n).take m = custL fa fs m := by
  simp only [custL, ← List.map_take, List.take_range]
  rw [Nat.min_eq_left h]
theorem arrO_mono {fa : Nat → Int} (h : ∀ k, 0 ≤ fa k) {i j : Nat} (hij : i ≤ j) : arrO fa i ≤ arrO fa j := by
  induction hij with
  | refl => exact Int.le_refl _
  | step _ ih => simp only [arrO]; have := h ‹_›; omega
theorem arrO_bd {fa : Nat → Int} {M : Int} (h : ∀ k, 0 ≤ fa k ∧ fa k ≤ M) : ∀ k : Nat, 0 ≤ arrO fa k ∧ arrO fa k ≤ k * M
  | 0 => by simp [arrO]
  | k + 1 => by
    have h1 := arrO_bd h k
    have h2 := h k
    simp only [arrO]
    have : ((k + 1 : Nat) : Int) * M = k * M + M := by push_cast; rw [Int.add_mul, Int.one_mul]
    omega
theorem custL_sorted {fa fs : Nat → Int} (h : ∀ k, 0 ≤ fa k) (n : Nat) : (custL fa fs n).Pairwise fun c d => c.a ≤ d.a := by
  simp only [custL, List.pairwise_map]
  refine List.pairwise_lt_range.imp fun {a b} hab => ?_
  exact arrO_mono h (by omega)
theorem custL_mem {fa fs : Nat → Int} {n : Nat} {c : Cu} (h : c ∈ custL fa fs n) : ∃ k, k < n ∧ c = ⟨arrO fa (k + 1), fs k, 0, 0⟩ := by
  simp only [custL, List.mem_map, List.mem_range] at h
  obtain ⟨k, h1, h2⟩ := h
  exact ⟨k, h1, h2.symm⟩
end Go.Proofs.YthiclaihlpkinaaGreat
namespace Go.Proofs.YthiclaihlpkinaaGreat
theorem serveL_bd : ∀ (l : List Cu) (free : List Int) (A S B : Int), free ≠ [] → (∀ c ∈ l, c.a ≤ A ∧ 0 ≤ c.s ∧ c.s ≤ S) → A ≤ B → (∀ y ∈ free, y ≤ B) → ∀ x ∈ serveL free l, x.st ≤ B + l.length * S ∧ x.en ≤ B + l.length * S := by
  intro l
  induction l with
  | nil => intro free A S B _ _ _ _ x hx; simp [serveL] at hx
  | cons c l ih =>
    intro free A S B hne hl hAB hf x hx
    obtain ⟨h1, h2, h3⟩ := hl c (by simp)
    have hm := hf _ (minL_mem hne)
    have hst : stS free c ≤ B := by unfold stS; omega
    have hS : 0 ≤ S := by omega
    have hlen : (((c :: l).length : Nat) : Int) * S = l.length * S + S := by
      simp only [List.length_cons]; push_cast; rw [Int.add_mul, Int.one_mul]
    have hnn : 0 ≤ (l.length : Int) * S := Int.mul_nonneg (by omega) hS
    rw [hlen]
    simp only [serveL, List.mem_cons] at hx
    rcases hx with rfl | hx
    · simp only [cuS]; omega
    · have := ih (frS free c) A S (B + S) (frS_ne hne) (fun d hd => hl d (by simp [hd])) (by omega) (fun y hy => by
        rcases List.mem_or_eq_of_mem_set hy with hy | rfl
        · have := hf y hy; omega
        · omega) x hx
      omega
/-- Only arrivals and services matter. -/
def same2 (c d : Cu) : Prop := c.a = d.a ∧ c.s = d.s
theorem serveL_same : ∀ (l l' : List Cu) (free : List Int), l.length = l'.length → (∀ (k : Nat) c d, l[k]? = some c → l'[k]? = some d → same2 c d) → serveL free l = serveL free l' := by
  intro l
  induction l with
  | nil => intro l' free h _; cases l' with
    | nil => rfl
    | cons d l' => simp at h
  | cons c l ih =>
    intro l' free h hs
    cases l' with
    | nil => simp at h
    | cons d l' =>
      obtain ⟨h1, h2⟩ := hs 0 c d rfl rfl
      have e1 : cuS free c = cuS free d := by simp [cuS, stS, h1, h2]
      have e2 : frS free c = frS free d := by simp [frS, stS, h1, h2]
      simp only [serveL, e1, e2]
      rw [ih l' (frS free d) (by simpa using h) fun k x y hx hy => hs (k + 1) x y (by simpa using hx) (by simpa using hy)]
theorem serveL_idem (l : List Cu) (free : List Int) : serveL free (serveL free l) = serveL free l :=
  serveL_same _ _ _ (serveL_len l free) fun k c d h1 h2 => by
    obtain ⟨e1, e2, _⟩ := serveL_get l free k c d h1 h2
    exact ⟨e1, e2⟩
/-- The servers at the beginning. -/
def fr0 (m : Nat) : List Int := List.replicate m 0
theorem fr0_ne {m : Nat} (h : 1 ≤ m) : fr0 m ≠ [] := by
  intro e; have := congrArg List.length e; simp [fr0] at this; omega
theorem fr0_more (m : Nat) (t : Int) : cle t (fr0 m) ≤ cle t (fr0 (m + 1)) := by
  unfold cle fr0
  rw [List.replicate_succ, List.countP_cons]; omega
theorem fr0_cnt {m : Nat} {t : Int} (h : 0 ≤ t) : cnt t (fr0 m) = 0 := by
  unfold cnt fr0
  rw [List.countP_eq_zero]
  intro x hx
  rw [List.eq_of_mem_replicate hx]
  simp; omega
/-- What is known of customers before they are served. -/
structure CustOk (l : List Cu) : Prop where
  len : l.length ≤ 30
  bd : ∀ c ∈ l, 0 ≤ c.a ∧ c.a ≤ 32212254720 ∧ 0 ≤ c.s ∧ c.s ≤ 1073741824
  ord : l.Pairwise fun c d => c.a ≤ d.a
/-- What is known of customers that were served. -/
structure ServOk (l x : List Cu) (m : Nat) : Prop where
  len : x.length = l.length
  get : ∀ (k : Nat) (h1 : k < x.length) (h2 : k < l.length), x[k].a = l[k].a ∧ x[k].s = l[k].s ∧ l[k].a ≤ x[k].st ∧ x[k].en = x[k].st + l[k].s
  bd : ∀ c ∈ x, 0 ≤ c.a ∧ c.a ≤ 32212254720 ∧ 0 ≤ c.s ∧ c.s ≤ 1073741824 ∧ c.a ≤ c.st ∧ c.st ≤ 64424509440 ∧ c.en = c.st + c.s
  ordA : x.Pairwise fun c d => c.a ≤ d.a
  ord : x.Pairwise fun c d => c.st ≤ d.st
  act : ∀ t, x.countP (actC t) ≤ m
  busy : ∀ (k : Nat) (h : k < x.length), x[k].a < x[k].st → m ≤ (x.take k).countP (actC (x[k].st - 1))
theorem serv_ok {l : List Cu} {m : Nat} (hl : CustOk l) (hm : 1 ≤ m) : ServOk l (serveL (fr0 m) l) m := by
  have hne := fr0_ne hm
  have hlen := serveL_len l (fr0 m)
  have hget : ∀ (k : Nat) (h1 : k < (serveL (fr0 m) l).length) (h2 : k < l.length), (serveL (fr0 m) l)[k].a = l[k].a ∧ (serveL (fr0 m) l)[k].s = l[k].s ∧ l[k].a ≤ (serveL (fr0 m) l)[k].st ∧ (serveL (fr0 m) l)[k].en = (serveL (fr0 m) l)[k].st + l[k].s := fun k h1 h2 =>
    serveL_get l (fr0 m) k _ _ (List.getElem?_eq_getElem h1) (List.getElem?_eq_getElem h2)
  have hs : ∀ c ∈ l, 0 ≤ c.s := fun c hc => (hl.bd c hc).2.2.1
  have hb := serveL_bd l (fr0 m) 32212254720 1073741824 32212254720 hne (fun c hc => ⟨(hl.bd c hc).2.1, (hl.bd c hc).2.2⟩) (by omega) (fun y hy => by rw [List.eq_of_mem_replicate hy]; omega)
  have hll := hl.len
  refine ⟨hlen, hget, fun c hc => ?_, ?_, serveL_order l _ hne hs hl.ord, fun t => ?_, fun k h hw => ?_⟩
  · have hbc := hb c hc
    obtain ⟨k, hk, rfl⟩ := List.getElem_of_mem hc
    obtain ⟨g1, g2, g3, g4⟩ := hget k hk (by omega)
    obtain ⟨b1, b2, b3, b4⟩ := hl.bd l[k] (List.getElem_mem _)
    rw [g1, g2, g4]
    have : (l.length : Int) * 1073741824 ≤ 32212254720 := by omega
    omega
  · rw [List.pairwise_iff_getElem]
    intro i j hi hj hij
    rw [(hget i hi (by omega)).1, (hget j hj (by omega)).1]
    exact (List.pairwise_iff_getElem.1 hl.ord) i j (by omega) (by omega) hij
  · have := serveL_act t l (fr0 m) 0 hne hs (by omega)
    simpa [fr0] using this
  · have hk : k < l.length := by omega
    obtain ⟨g1, g2, g3, g4⟩ := hget k h hk
    obtain ⟨b1, b2, b3, b4⟩ := hl.bd l[k] (List.getElem_mem _)
    have := serveL_busy ((serveL (fr0 m) l)[k].st - 1) l (fr0 m) 0 hne hs (.inl (by rw [fr0_cnt (by omega)]; omega)) k _ (List.getElem?_eq_getElem h) (fun j c hj hc => by
      have hjl : j < l.length := by omega
      rw [List.getElem?_eq_getElem hjl] at hc
      simp at hc
      subst hc
      rcases Nat.lt_or_ge j k with q | q
      · have := (List.pairwise_iff_getElem.1 hl.ord) j k hjl hk q
        omega
      · have : j = k := by omega
        subst this
        omega) (by omega)
    simpa [fr0] using this
theorem serv_more {l : List Cu} {m : Nat} (hl : CustOk l) (hm : 1 ≤ m) (k : Nat) (h1 : k < (serveL (fr0 m) l).length) (h2 : k < (serveL (fr0 (m + 1)) l).length) : (serveL (fr0 (m + 1)) l)[k].st ≤ (serveL (fr0 m) l)[k].st ∧ (serveL (fr0 (m + 1)) l)[k].en ≤ (serveL (fr0 m) l)[k].en :=
  serveL_more l _ _ (fr0_ne hm) (fr0_ne (by omega)) (fun c hc => (hl.bd c hc).2.2.1) (fr0_more m) k _ _ (List.getElem?_eq_getElem h1) (List.getElem?_eq_getElem h2)
theorem cust_ok {fa fs : Nat → Int} {n : Nat} (hn : n ≤ 30) (ha : ∀ k, 0 ≤ fa k ∧ fa k ≤ 1073741824) (hs : ∀ k, 0 ≤ fs k ∧ fs k ≤ 1073741824) : CustOk (custL fa fs n) where
  len := by rw [custL_len]; exact hn
  bd := fun c hc => by
    obtain ⟨k, hk, rfl⟩ := custL_mem hc
    have h1 := arrO_bd ha (k + 1)
    have h2 := hs k
    have : (((k + 1 : Nat) : Int)) * 1073741824 ≤ 32212254720 := by omega
    simp only
    omega
  ord := custL_sorted (fun k => (ha k).1) n
end Go.Proofs.YthiclaihlpkinaaGreat
