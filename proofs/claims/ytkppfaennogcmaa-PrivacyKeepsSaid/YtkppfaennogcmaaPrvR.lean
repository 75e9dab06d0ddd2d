/- Keys tell words, and the map of beginnings tells how many cases begin with a word (plain words). -/
import Derived.Test.YtkppfaennogcmaaPrvQ
import Derived.Test.YtkppfaennogcmaaPrvH
namespace Go.Proofs.Ytkppfaennogcmaa
set_option linter.unusedSimpArgs false
set_option linter.unusedVariables false
set_option linter.unnecessarySimpa false
set_option linter.unusedSectionVars false
open Go.RowKit
variable [Glob]
set_option maxRecDepth 100000
def fl (r : List (List UInt8)) : List UInt8 := r.flatMap fun y => 32 :: y
theorem fl_cons {x : List UInt8} {r : List (List UInt8)} : fl (x :: r) = 32 :: (x ++ fl r) := by simp [fl]
theorem fl_head (r : List (List UInt8)) : fl r = [] ∨ ∃ q, fl r = 32 :: q := by
  cases r with
  | nil => exact .inl rfl
  | cons x r => exact .inr ⟨_, fl_cons⟩
theorem cut_eq : ∀ (x y t t' : List UInt8), 32 ∉ x → 32 ∉ y → (t = [] ∨ ∃ q, t = 32 :: q) → (t' = [] ∨ ∃ q, t' = 32 :: q) → x ++ t = y ++ t' → x = y ∧ t = t' := by
  intro x
  induction x with
  | nil =>
    intro y t t' _ hy ht ht' h
    cases y with
    | nil => exact ⟨rfl, h⟩
    | cons c y =>
      exfalso
      simp only [List.nil_append, List.cons_append] at h
      rcases ht with rfl | ⟨q, rfl⟩
      · cases h
      · simp only [List.cons.injEq] at h
        exact hy (by rw [h.1]; simp)
  | cons c x ih =>
    intro y t t' hx hy ht ht' h
    cases y with
    | nil =>
      exfalso
      simp only [List.nil_append, List.cons_append] at h
      rcases ht' with rfl | ⟨q, rfl⟩
      · cases h
      · simp only [List.cons.injEq] at h
        exact hx (by rw [← h.1]; simp)
    | cons d y =>
      simp only [List.cons_append, List.cons.injEq] at h
      obtain ⟨rfl, h⟩ := h
      obtain ⟨h1, h2⟩ := ih y t t' (fun q => hx (by simp [q])) (fun q => hy (by simp [q])) ht ht' h
      exact ⟨by rw [h1], h2⟩
theorem fl_inj : ∀ (a b : List (List UInt8)), (∀ x ∈ a, 32 ∉ x) → (∀ x ∈ b, 32 ∉ x) → fl a = fl b → a = b := by
  intro a
  induction a with
  | nil =>
    intro b _ _ h
    cases b with
    | nil => rfl
    | cons y b => rw [fl_cons] at h; cases h
  | cons x a ih =>
    intro b ha hb h
    cases b with
    | nil => rw [fl_cons] at h; cases h
    | cons y b =>
      rw [fl_cons, fl_cons] at h
      simp only [List.cons.injEq, true_and] at h
      obtain ⟨h1, h2⟩ := cut_eq x y _ _ (ha x (by simp)) (hb y (by simp)) (fl_head a) (fl_head b) h
      rw [h1, ih b (fun z hz => ha z (by simp [hz])) (fun z hz => hb z (by simp [hz])) h2]
theorem jn_cons (x : List UInt8) (r : List (List UInt8)) : jn (x :: r) = x ++ fl r := by rw [jn, jf_eq]; rfl
theorem jn_inj {a b : List (List UInt8)} (ha : ∀ x ∈ a, 32 ∉ x ∧ x ≠ []) (hb : ∀ x ∈ b, 32 ∉ x ∧ x ≠ []) (h : jn a = jn b) : a = b := by
  cases a with
  | nil =>
    cases b with
    | nil => rfl
    | cons y b =>
      rw [jn_cons] at h
      have := (List.append_eq_nil_iff.1 h.symm).1
      exact absurd this (hb y (by simp)).2
  | cons x a =>
    cases b with
    | nil =>
      rw [jn_cons] at h
      have := (List.append_eq_nil_iff.1 h).1
      exact absurd this (ha x (by simp)).2
    | cons y b =>
      rw [jn_cons, jn_cons] at h
      obtain ⟨h1, h2⟩ := cut_eq x y _ _ (ha x (by simp)).1 (hb y (by simp)).1 (fl_head a) (fl_head b) h
      rw [h1, fl_inj a b (fun z hz => (ha z (by simp [hz])).1) (fun z hz => (hb z (by simp [hz])).1) h2]
def nmW (u : Wo) : Prop := ∀ s ∈ u, isNameS s = true
theorem nm_bytes {s : ByteArray} (h : isNameS s = true) : 32 ∉ bl s ∧ bl s ≠ [] := by
  unfold isNameS at h
  simp only [Bool.and_eq_true, decide_eq_true_eq] at h
  obtain ⟨⟨h1, _⟩, h3⟩ := h
  refine ⟨fun q => ?_, fun q => ?_⟩
  · have := List.all_eq_true.1 h3 32 q
    revert this; decide
  · have := bl_len (s := s)
    rw [q] at this
    simp at this; omega
theorem jnS_inj {u w : Wo} (hu : nmW u) (hw : nmW w) (h : jnS u = jnS w) : u = w := by
  have h1 : jn (u.map bl) = jn (w.map bl) := by
    unfold jnS at h
    have := congrArg (fun x : ByteArray => x.data.toList) h
    simpa using this
  have h2 := jn_inj (fun x hx => by obtain ⟨s, hs, rfl⟩ := List.mem_map.1 hx; exact nm_bytes (hu s hs)) (fun x hx => by obtain ⟨s, hs, rfl⟩ := List.mem_map.1 hx; exact nm_bytes (hw s hs)) h1
  exact List.map_inj_right (fun a b hab => by rw [← ba_eta a, ← ba_eta b, hab]) |>.1 h2
theorem valM_put2 {es : Ms} {k q : ByteArray} {n : Int} : valM (putM es (k, n)) q = if k = q then valM es q + n else valM es q := valM_put
theorem valM_putW {A u : Wo} {n : Int} (hA : nmW A) (hu : nmW u) : ∀ (m j : Nat) (es : Ms), j + m = A.length + 1 → valM (putW ⟨A, n⟩ m j es) (jnS u) = valM es (jnS u) + (if pre u A ∧ j ≤ u.length then n else 0) := by
  intro m
  induction m with
  | zero =>
    intro j es hj
    simp only [putW]
    rw [if_neg fun h => by have := pre_len h.1; omega]
    omega
  | succ m ih =>
    intro j es hj
    simp only [putW]
    rw [ih (j + 1) _ (by omega), show pfxAt ⟨A, n⟩ j = (jnS (A.take j), n) from rfl, valM_put2]
    have hk : jnS (A.take j) = jnS u ↔ pre u A ∧ j = u.length := by
      constructor
      · intro h
        have := jnS_inj (fun s hs => hA s (List.mem_of_mem_take hs)) hu h
        have hl := congrArg List.length this
        rw [List.length_take] at hl
        have : j = u.length := by omega
        exact ⟨by unfold pre; rw [← this]; assumption, this⟩
      · rintro ⟨h, rfl⟩
        rw [h]
    by_cases hp : pre u A
    · by_cases hj2 : j = u.length
      · rw [if_pos (hk.2 ⟨hp, hj2⟩), if_neg (by omega), if_pos ⟨hp, by omega⟩]; omega
      · rw [if_neg fun h => hj2 (hk.1 h).2]
        by_cases hj3 : j ≤ u.length
        · rw [if_pos ⟨hp, by omega⟩, if_pos ⟨hp, hj3⟩]
        · rw [if_neg (by omega), if_neg (by omega)]
    · rw [if_neg fun h => hp (hk.1 h).1, if_neg fun h => hp h.1, if_neg fun h => hp h.1]
theorem valM_putL {u : Wo} (hu : nmW u) : ∀ (l : List Wd) (es : Ms), (∀ v ∈ l, nmW v.acts) → valM (putL l es) (jnS u) = valM es (jnS u) + sumU u l := by
  intro l
  induction l with
  | nil => intro es _; simp [putL, sumU]
  | cons v l ih =>
    intro es h
    obtain ⟨A, n⟩ := v
    simp only [putL]
    have hA : nmW A := h ⟨A, n⟩ (by simp)
    rw [ih _ fun x hx => h x (by simp [hx]), valM_putW hA hu (A.length + 1) 0 es (by omega)]
    simp only [sumU, Nat.zero_le, and_true]
    omega
theorem valM_begE {u : Wo} {l : List Wd} (hu : nmW u) (h : ∀ v ∈ l, nmW v.acts) : valM (begE l) (jnS u) = sumU u l := by
  unfold begE
  rw [valM_putL hu l [] h]
  simp [valM, alook, afind]
def kOk (es : Ms) : Prop := (es.map (·.1)).Nodup ∧ ∀ k ∈ es.map (·.1), ∃ u, nmW u ∧ k = jnS u
theorem kOk_put {es : Ms} {u : Wo} {n : Int} (h : kOk es) (hu : nmW u) : kOk (putM es (jnS u, n)) := by
  unfold putM kOk
  simp only
  rw [paput_keys]
  split
  · exact h
  · rename_i q
    refine ⟨List.nodup_append.2 ⟨h.1, by simp, fun a ha b hb => by simp at hb; subst hb; exact fun e => q (e ▸ ha)⟩, fun k hk => ?_⟩
    rcases List.mem_append.1 hk with hk | hk
    · exact h.2 k hk
    · simp at hk; exact ⟨u, hu, hk⟩
theorem kOk_putW {A : Wo} {n : Int} (hA : nmW A) : ∀ (m j : Nat) (es : Ms), kOk es → kOk (putW ⟨A, n⟩ m j es) := by
  intro m
  induction m with
  | zero => intro j es h; exact h
  | succ m ih => intro j es h; exact ih _ _ (kOk_put h fun s hs => hA s (List.mem_of_mem_take hs))
theorem kOk_putL : ∀ (l : List Wd) (es : Ms), (∀ v ∈ l, nmW v.acts) → kOk es → kOk (putL l es) := by
  intro l
  induction l with
  | nil => intro es _ h; exact h
  | cons v l ih =>
    intro es hn h
    obtain ⟨A, n⟩ := v
    have hA : nmW A := hn ⟨A, n⟩ (by simp)
    exact ih _ (fun x hx => hn x (by simp [hx])) (kOk_putW hA _ _ _ h)
theorem alook_mem {es : Ms} {e : ByteArray × Int} (hn : (es.map (·.1)).Nodup) (h : e ∈ es) : alook es e.1 = some e.2 := by
  induction es with
  | nil => cases h
  | cons x r ih =>
    rw [alook_cons]
    simp only [List.map_cons, List.nodup_cons] at hn
    rcases List.mem_cons.1 h with rfl | h
    · simp
    · have : ¬ x.1 = e.1 := fun q => hn.1 (by rw [q]; exact List.mem_map.2 ⟨e, h, rfl⟩)
      rw [if_neg this]; exact ih hn.2 h
theorem sumU_pos {u : Wo} : ∀ P : List Wd, 0 < sumU u P → ∃ v ∈ P, pre u v.acts := by
  intro P
  induction P with
  | nil => intro h; simp [sumU] at h
  | cons v P ih =>
    intro h
    by_cases hp : pre u v.acts
    · exact ⟨v, by simp, hp⟩
    · simp only [sumU, if_neg hp] at h
      obtain ⟨x, h1, h2⟩ := ih (by omega)
      exact ⟨x, by simp [h1], h2⟩
/-- Loss finds a word of which more is published than there is. -/
theorem over_iff {L P : List Wd} (hL : ∀ v ∈ L, wdG v) (hP : ∀ v ∈ P, wdG v) : (begE P).any (overE (begE L)) = true ↔ ∃ u, sumU u L < sumU u P := by
  have nL : ∀ v ∈ L, nmW v.acts := fun v hv => (hL v hv).2.2.2
  have nP : ∀ v ∈ P, nmW v.acts := fun v hv => (hP v hv).2.2.2
  have hk : kOk (begE P) := kOk_putL P [] nP ⟨by simp, by simp⟩
  rw [List.any_eq_true]
  constructor
  · rintro ⟨e, he, ho⟩
    have ho : valM (begE L) e.1 < e.2 := by simpa [overE] using ho
    obtain ⟨u, hu, hku⟩ := hk.2 e.1 (List.mem_map.2 ⟨e, he, rfl⟩)
    have h1 : valM (begE P) e.1 = e.2 := by unfold valM; rw [alook_mem hk.1 he]; rfl
    rw [hku, valM_begE hu nP] at h1
    rw [hku, valM_begE hu nL] at ho
    exact ⟨u, by omega⟩
  · rintro ⟨u, hu⟩
    have h0 : 0 ≤ sumU u L := sumU_nonneg fun v hv => by have := (hL v hv).2.1; omega
    obtain ⟨v, hv, hp⟩ := sumU_pos P (show 0 < sumU u P by omega)
    have hn : nmW u := fun s hs => by
      have h1 : s ∈ v.acts := by
        unfold pre at hp
        rw [← hp] at hs
        exact List.mem_of_mem_take hs
      exact nP v hv s h1
    have h1 := valM_begE hn nP
    have h2 := valM_begE hn nL
    cases hl : alook (begE P) (jnS u) with
    | none =>
      unfold valM at h1
      rw [hl] at h1
      simp at h1
      omega
    | some x =>
      have hx : x = sumU u P := by unfold valM at h1; rw [hl] at h1; simpa using h1
      unfold alook at hl
      simp only [Option.map_eq_some_iff] at hl
      obtain ⟨⟨i, x'⟩, h3, rfl⟩ := hl
      have h4 := List.mem_of_getElem? (afind_eq h3)
      exact ⟨_, h4, by simp only [overE, decide_eq_true_eq]; rw [h2]; simp only at hx; omega⟩
end Go.Proofs.Ytkppfaennogcmaa
