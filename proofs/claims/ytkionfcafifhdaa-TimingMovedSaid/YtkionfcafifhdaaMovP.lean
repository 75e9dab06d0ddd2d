/- Times between activities: of a shifted log, of a log's cases (plain words; no program). -/
import Derived.Test.YtkionfcafifhdaaBtw
import Derived.Test.YtkionfcafifhdaaEl7
namespace Go.Proofs.Ytkionfcafifhdaa
set_option linter.unusedSimpArgs false
set_option linter.unusedVariables false
set_option linter.unnecessarySimpa false
set_option linter.unusedSectionVars false
open Go.RowKit
variable [Glob]
noncomputable def stB (a b : ByteArray) (e : Evt) (r : List Evt) : List Int :=
  if eqS e.act a && e.life == 5 then (match r.find? (isB e b) with | some x => [x.time - e.time] | none => []) else []
noncomputable def goB (a b : ByteArray) : List Evt → List Int
  | [] => []
  | e :: r => stB a b e r ++ goB a b r
theorem betw_go (a b : ByteArray) (l : List Evt) : betw l a b l.length = goB a b l := by
  induction l with
  | nil => rfl
  | cons e r ih =>
    have h0 : stepB (e :: r) a b 0 = stB a b e r := by unfold stepB stB; rfl
    have hs : ∀ i, stepB (e :: r) a b (i + 1) = stepB r a b i := fun i => by simp [stepB]
    rw [betw, List.length_cons, List.range_succ_eq_map, List.flatMap_cons, List.flatMap_map, h0]
    simp only [hs]
    rw [goB, ← ih, betw]
theorem stB_shift (a b : ByteArray) (k : Int) (e : Evt) (r : List Evt) : stB a b (shE k e) (r.map (shE k)) = stB a b e r := by
  have e1 : (isB (shE k e) b ∘ shE k) = isB e b := rfl
  have e0 : (r.map (shE k)).find? (isB (shE k e) b) = (r.find? (isB e b)).map (shE k) := by rw [List.find?_map, e1]
  unfold stB
  rw [e0]
  cases r.find? (isB e b) with
  | none => rfl
  | some x =>
    have h : (shE k x).time - (shE k e).time = x.time - e.time := by simp only [shE]; omega
    simp only [Option.map_some, h]
    rfl
theorem goB_shift (a b : ByteArray) (k : Int) (l : List Evt) : goB a b (l.map (shE k)) = goB a b l := by
  induction l with
  | nil => rfl
  | cons e r ih => rw [List.map_cons, goB, goB, ih, stB_shift]
theorem shF_map (k : Int) : ∀ (l acc R : List Evt) (c : Int), shF k l acc = (R, c) → c = 0 → R = acc ++ l.map (shE k) := by
  intro l
  induction l with
  | nil => intro acc R c h _; simp only [shF, Prod.mk.injEq] at h; simp [h.1]
  | cons e r ih =>
    intro acc R c h hc
    rw [shF] at h
    split at h
    · simp only [Prod.mk.injEq] at h; omega
    · rw [ih _ _ _ h hc]; simp
theorem eqS_iff {x y : ByteArray} : eqS x y = true ↔ x = y := by
  unfold eqS
  rw [beq_iff_eq]
  exact Iff.of_eq tl_iff
theorem goB_nn (a b : ByteArray) : ∀ l : List Evt, l.Pairwise (fun x y => x.time ≤ y.time) → ∀ t ∈ goB a b l, 0 ≤ t := by
  intro l
  induction l with
  | nil => intro _ t h; simp [goB] at h
  | cons e r ih =>
    intro h t ht
    obtain ⟨h1, h2⟩ := List.pairwise_cons.1 h
    rw [goB, List.mem_append] at ht
    rcases ht with ht | ht
    · unfold stB at ht
      split at ht
      · cases hf : r.find? (isB e b) with
        | none => rw [hf] at ht; simp at ht
        | some x =>
          rw [hf] at ht
          simp at ht
          have := h1 x (List.mem_of_find?_eq_some hf)
          omega
      · simp at ht
    · exact ih h2 t ht
/-- One case. -/
def ofC (c : ByteArray) (l : List Evt) : List Evt := l.filter fun e => eqS e.case_ c
theorem stB_of (a b : ByteArray) (e : Evt) (r : List Evt) : stB a b e (ofC e.case_ r) = stB a b e r := by
  have h : (r.filter fun x => eqS x.case_ e.case_).find? (isB e b) = r.find? (isB e b) := by
    induction r with
    | nil => rfl
    | cons x r ih =>
      rw [List.filter_cons, List.find?_cons]
      by_cases q : eqS x.case_ e.case_ = true
      · rw [if_pos q, List.find?_cons, ih]
      · have hb : isB e b x = false := by
          unfold isB
          rw [show eqS x.case_ e.case_ = false by simpa using q]; rfl
        rw [if_neg q, ih, hb]
  unfold stB ofC
  rw [h]
theorem ofC_cons (c : ByteArray) (e : Evt) (r : List Evt) : ofC c (e :: r) = if eqS e.case_ c = true then e :: ofC c r else ofC c r := by
  unfold ofC
  rw [List.filter_cons]
theorem goB_ofC (a b : ByteArray) (c : ByteArray) (e : Evt) (r : List Evt) : goB a b (ofC c (e :: r)) = (if e.case_ = c then stB a b e r else []) ++ goB a b (ofC c r) := by
  rw [ofC_cons]
  by_cases h : e.case_ = c
  · subst h
    rw [if_pos (eqS_iff.2 rfl), if_pos rfl, goB, stB_of]
  · rw [if_neg (fun q => h (eqS_iff.1 q)), if_neg h]; rfl
theorem flat_perm {α : Type} {C : List α} (f g : α → List Int) : (C.flatMap fun c => f c ++ g c).Perm (C.flatMap f ++ C.flatMap g) := by
  induction C with
  | nil => exact .refl _
  | cons c r ih =>
    simp only [List.flatMap_cons, List.append_assoc]
    refine List.Perm.append_left _ ?_
    refine (List.Perm.append_left _ ih).trans ?_
    rw [← List.append_assoc, ← List.append_assoc]
    exact List.Perm.append_right _ List.perm_append_comm
theorem flat_one {C : List ByteArray} (hn : C.Nodup) {x : ByteArray} (hx : x ∈ C) (v : List Int) : (C.flatMap fun c => if x = c then v else []) = v := by
  induction C with
  | nil => simp at hx
  | cons c r ih =>
    obtain ⟨h1, h2⟩ := List.nodup_cons.1 hn
    rw [List.flatMap_cons]
    by_cases h : x = c
    · subst h
      have : (r.flatMap fun c => if x = c then v else []) = [] := by
        rw [List.flatMap_eq_nil_iff]
        intro y hy
        rw [if_neg (fun q : x = y => h1 (by rw [q]; exact hy))]
      rw [this, if_pos rfl, List.append_nil]
    · rw [if_neg h, List.nil_append]
      rcases List.mem_cons.1 hx with q | q
      · exact absurd q h
      · exact ih h2 q
/-- The times of a log are those of its cases. -/
theorem goB_cases (a b : ByteArray) {C : List ByteArray} (hn : C.Nodup) : ∀ l : List Evt, (∀ e ∈ l, e.case_ ∈ C) → (C.flatMap fun c => goB a b (ofC c l)).Perm (goB a b l) := by
  intro l
  induction l with
  | nil =>
    intro _
    have : (C.flatMap fun c => goB a b (ofC c [])) = [] := by rw [List.flatMap_eq_nil_iff]; intro c _; rfl
    rw [this]; exact .refl _
  | cons e r ih =>
    intro h
    simp only [goB_ofC]
    refine (flat_perm _ _).trans ?_
    rw [flat_one hn (h e (by simp)), goB]
    exact List.Perm.append_left _ (ih fun x hx => h x (by simp [hx]))
/-- Two sorted lists of the same numbers. -/
theorem sorted_perm : ∀ {a b : List Int}, a.Pairwise (· ≤ ·) → b.Pairwise (· ≤ ·) → a.Perm b → a = b := by
  intro a
  induction a with
  | nil => intro b _ _ h; exact (List.Perm.eq_nil h.symm).symm
  | cons x r ih =>
    intro b ha hb h
    cases b with
    | nil => exact absurd (List.Perm.eq_nil h) (by simp)
    | cons y s =>
      obtain ⟨a1, a2⟩ := List.pairwise_cons.1 ha
      obtain ⟨b1, b2⟩ := List.pairwise_cons.1 hb
      have hxy : x = y := by
        have hx : x ∈ y :: s := h.mem_iff.1 (by simp)
        have hy : y ∈ x :: r := h.mem_iff.2 (by simp)
        rcases List.mem_cons.1 hx with q | q
        · exact q
        · rcases List.mem_cons.1 hy with p | p
          · exact p.symm
          · have := b1 x q; have := a1 y p; omega
      subst hxy
      rw [ih a2 b2 (List.Perm.cons_inv h)]
/-! Which logs are valid. -/
theorem mv_iff {l : List Evt} : logV l = true ↔ l.length ≤ 2000 ∧ (∀ e ∈ l, eventV e = true) ∧ l.Pairwise (fun x y => x.time ≤ y.time) := by
  constructor
  · intro h
    refine ⟨log_lenE h, log_evt h, ?_⟩
    have hst : ∀ i, (hi : i + 1 < l.length) → l[i].time ≤ l[i + 1].time := fun i hi => by
      simp only [logV, Bool.and_eq_true, decide_eq_true_eq] at h
      have := h.2 (i + 1) hi hi
      simp only [evOk, Nat.add_sub_cancel, List.getElem?_eq_getElem (show i < l.length by omega), Bool.and_eq_true, Bool.not_eq_true', Bool.and_eq_false_iff, decide_eq_false_iff_not] at this
      rcases this.2 with h1 | h1 <;> omega
    rw [List.pairwise_iff_getElem]
    intro i j hi hj hij
    have key : ∀ k, (hk : i + k < l.length) → l[i].time ≤ l[i + k].time := by
      intro k
      induction k with
      | zero => intro _; exact Int.le_refl _
      | succ k ih =>
        intro hk
        have := ih (by omega)
        have := hst (i + k) (by omega)
        simp only [Nat.add_assoc] at *
        omega
    have := key (j - i) (by omega)
    have e : i + (j - i) = j := by omega
    simp only [e] at this
    exact this
  · rintro ⟨h1, h2, h3⟩
    simp only [logV, Bool.and_eq_true, decide_eq_true_eq]
    refine ⟨by omega, fun i hi _ => ?_⟩
    simp only [evOk, Bool.and_eq_true]
    refine ⟨h2 _ (List.getElem_mem hi), ?_⟩
    cases i with
    | zero => cases l[0 - 1]? <;> simp
    | succ i =>
      rw [List.pairwise_iff_getElem] at h3
      have := h3 i (i + 1) (by omega) hi (by omega)
      simp only [Nat.add_sub_cancel, List.getElem?_eq_getElem (show i < l.length by omega), Bool.not_eq_true', Bool.and_eq_false_iff, decide_eq_false_iff_not]
      right; omega
theorem mv_ofC {l : List Evt} (h : logV l = true) (c : ByteArray) : logV (ofC c l) = true := by
  obtain ⟨h1, h2, h3⟩ := mv_iff.1 h
  exact mv_iff.2 ⟨Nat.le_trans (List.length_filter_le _ _) h1, fun e he => h2 e (List.mem_filter.1 he).1, h3.filter _⟩
theorem mv_shE {e : Evt} {b : Int} (h : eventV e = true) (h1 : 0 ≤ e.time + b) (h2 : e.time + b ≤ 1099511627776) : eventV (shE b e) = true := by
  unfold eventV at h ⊢
  simp only [Bool.and_eq_true] at h ⊢
  exact ⟨⟨⟨⟨h.1.1.1.1, decide_eq_true h1⟩, decide_eq_true h2⟩, h.1.2⟩, h.2⟩
theorem shF_bd (k : Int) : ∀ (l acc R : List Evt) (c : Int), shF k l acc = (R, c) → c = 0 → ∀ e ∈ l, 0 ≤ e.time + k ∧ e.time + k ≤ 1099511627776 := by
  intro l
  induction l with
  | nil => intro acc R c _ _ e he; simp at he
  | cons x r ih =>
    intro acc R c h hc e he
    rw [shF] at h
    split at h
    · simp only [Prod.mk.injEq] at h; omega
    · rcases List.mem_cons.1 he with rfl | he
      · omega
      · exact ih _ _ _ h hc e he
/-- What a shift leaves. -/
theorem shift_knows {l : List Evt} {k : Int} {R : List Evt} (hV : logV l = true) (h : shiftR l k = (R, 0)) : R = l.map (shE k) ∧ logV R = true := by
  rw [shiftR, if_pos hV] at h
  split at h
  · simp at h
  · have e := shF_map k l [] R 0 h rfl
    rw [List.nil_append] at e
    obtain ⟨h1, h2, h3⟩ := mv_iff.1 hV
    have hb := shF_bd k l [] R 0 h rfl
    refine ⟨e, ?_⟩
    rw [e]
    refine mv_iff.2 ⟨by simpa using h1, fun x hx => ?_, ?_⟩
    · obtain ⟨y, hy, rfl⟩ := List.mem_map.1 hx
      exact mv_shE (h2 y hy) (hb y hy).1 (hb y hy).2
    · rw [List.pairwise_map]
      exact h3.imp fun {x y} q => by simp only [shE]; omega
theorem mv_asc {A : List ByteArray} (h : ascB A) : A.Nodup := h.imp fun {a b} q e => by subst e; exact ltB_irrefl _ q
open Classical in
theorem mv_len : ∀ {a b : List ByteArray}, a.Nodup → (∀ x ∈ a, x ∈ b) → a.length ≤ b.length := by
  intro a
  induction a with
  | nil => intro b _ _; simp
  | cons x r ih =>
    intro b h hs
    obtain ⟨h1, h2⟩ := List.nodup_cons.1 h
    have hx := hs x (by simp)
    obtain ⟨s, t, rfl⟩ := List.append_of_mem hx
    have := ih (b := s ++ t) h2 fun y hy => by
      have := hs y (by simp [hy])
      simp only [List.mem_append, List.mem_cons] at this ⊢
      rcases this with h | h | h
      · exact .inl h
      · exact absurd (h ▸ hy) h1
      · exact .inr h
    simp only [List.length_append, List.length_cons] at this ⊢
    omega
theorem hasB_one {c x : ByteArray} : hasB [c] x = eqS x c := by
  rw [Bool.eq_iff_iff, hasB_iff, eqS_iff]; simp
end Go.Proofs.Ytkionfcafifhdaa
