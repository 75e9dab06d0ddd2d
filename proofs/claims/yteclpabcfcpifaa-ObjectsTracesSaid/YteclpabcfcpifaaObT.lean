/- The flattened log is valid, and its traces are those of the objects (plain words). -/
import Derived.Test.YteclpabcfcpifaaObj7
import Derived.Test.YteclpabcfcpifaaObj8
import Derived.Test.YteclpabcfcpifaaObj11
import Derived.Test.YteclpabcfcpifaaEl2
namespace Go.Proofs.Yteclpabcfcpifaa
set_option linter.unusedSimpArgs false
set_option linter.unusedVariables false
set_option linter.unnecessarySimpa false
set_option linter.unusedSectionVars false
open Go.RowKit
variable [Glob]
set_option maxRecDepth 100000
/-! What a valid log of objects keeps. -/
theorem objV_at {l : List Obj} (h : objV l = true) (i : Nat) (hi : i < l.length) : objOk l i l[i] = true := by
  simp only [objV, objsB, Bool.and_eq_true, List.all_eq_true, List.mem_range] at h
  have := h.2 i hi
  rwa [List.getElem?_eq_getElem hi] at this
theorem objOk_act {l : List Obj} {i : Nat} {o : Obj} (h : objOk l i o = true) : isNameS o.act = true ∧ lastT l i ≤ o.time ∧ o.time ≤ 1099511627776 ∧ refsB o.refs = true := by
  simp only [objOk, Bool.and_eq_true, decide_eq_true_eq] at h
  exact ⟨h.1.1.1.1, h.1.1.1.2, h.1.1.2, h.2⟩
theorem objV_next {l : List Obj} (h : objV l = true) (i : Nat) (hi : i + 1 < l.length) : l[i].time ≤ l[i + 1].time := by
  have := (objOk_act (objV_at h (i + 1) hi)).2.1
  simpa [lastT, List.getElem?_eq_getElem (show i < l.length by omega)] using this
theorem objV_pos {l : List Obj} (h : objV l = true) : ∀ (i : Nat) (hi : i < l.length), 0 ≤ l[i].time := by
  intro i
  induction i with
  | zero => intro hi; exact (objOk_act (objV_at h 0 hi)).2.1
  | succ i ih => intro hi; have := ih (by omega); have := objV_next h i hi; omega
theorem refsB_name {l : List Rf} (h : refsB l = true) {r : Rf} (hr : r ∈ l) : isNameS r.a = true ∧ isNameS r.b = true := by
  obtain ⟨i, hi, rfl⟩ := List.getElem_of_mem hr
  simp only [refsB, List.all_eq_true, List.mem_range] at h
  have := h i hi
  rw [List.getElem?_eq_getElem hi] at this
  simp only [refOk, Bool.and_eq_true] at this
  exact this.1
/-- All that the rest needs. -/
def objG (o : Obj) : Prop := isNameS o.act = true ∧ 0 ≤ o.time ∧ o.time ≤ 1099511627776 ∧ refsB o.refs = true
theorem objV_mem {l : List Obj} (h : objV l = true) : ∀ o ∈ l, objG o := fun o ho => by
  obtain ⟨i, hi, rfl⟩ := List.getElem_of_mem ho
  have h1 := objOk_act (objV_at h i hi)
  exact ⟨h1.1, objV_pos h i hi, h1.2.2.1, h1.2.2.2⟩
theorem adj_pair {l : List Obj} (h : ∀ (i : Nat) (hi : i + 1 < l.length), l[i].time ≤ l[i + 1].time) : l.Pairwise fun a b => a.time ≤ b.time := by
  rw [List.pairwise_iff_getElem]
  intro i j hi hj hij
  obtain ⟨d, rfl⟩ : ∃ d, j = i + 1 + d := ⟨j - (i + 1), by omega⟩
  induction d with
  | zero => exact h i (by omega)
  | succ d ih => have := ih (by omega) (by omega); have := h (i + 1 + d) (by omega); exact Int.le_trans ‹_› this
/-! The flattened log. -/
theorem flat_cons (o : Obj) (l : List Obj) (t : ByteArray) : flatEv (o :: l) t = (ofL o.refs t).map (fun r => mkE o.act o.time r.b) ++ flatEv l t := by simp [flatEv]
theorem flat_mem {l : List Obj} {t : ByteArray} {e : Evt} (h : e ∈ flatEv l t) : ∃ o ∈ l, ∃ r ∈ o.refs, e = mkE o.act o.time r.b ∧ r.a = t := by
  simp only [flatEv, List.mem_flatMap, List.mem_map, ofL, List.mem_filter, beq_iff_eq] at h
  obtain ⟨o, ho, r, ⟨hr, ht⟩, rfl⟩ := h
  exact ⟨o, ho, r, hr, rfl, ba_eq (by rw [ba_toList, ba_toList] at ht; exact ht)⟩
theorem flat_pair (t : ByteArray) : ∀ l : List Obj, (l.Pairwise fun a b => a.time ≤ b.time) → (flatEv l t).Pairwise fun a b => a.time ≤ b.time := by
  intro l
  induction l with
  | nil => intro _; simp [flatEv]
  | cons o l ih =>
    intro h
    rw [List.pairwise_cons] at h
    rw [flat_cons, List.pairwise_append]
    refine ⟨?_, ih h.2, fun a ha b hb => ?_⟩
    · rw [List.pairwise_map]
      exact List.pairwise_of_forall fun _ _ => Int.le_refl _
    · obtain ⟨r, _, rfl⟩ := List.mem_map.1 ha
      obtain ⟨o', ho', r', _, rfl, _⟩ := flat_mem hb
      exact h.1 o' ho'
theorem mkE_ok {o : Obj} (h : objG o) {r : Rf} (hr : r ∈ o.refs) : eventV (mkE o.act o.time r.b) = true := by
  have h1 := (refsB_name h.2.2.2 hr).2
  have h2 : fldsOk [] 0 := fun j hj => by cases hj
  simp [eventV, mkE, h1, h.1, h.2.1, h.2.2.1, h2, emptyS]
theorem logV_of {l : List Evt} (h1 : l.length ≤ 2000) (h2 : ∀ e ∈ l, eventV e = true) (h3 : l.Pairwise fun a b => a.time ≤ b.time) : logV l = true := by
  rw [List.pairwise_iff_getElem] at h3
  simp only [logV, Bool.and_eq_true, decide_eq_true_eq]
  refine ⟨by omega, fun i hi _ => ?_⟩
  simp only [evOk, Bool.and_eq_true]
  refine ⟨h2 _ (List.getElem_mem hi), ?_⟩
  cases i with
  | zero => cases l[0 - 1]? <;> simp
  | succ i =>
    have := h3 i (i + 1) (by omega) hi (by omega)
    simp only [Nat.add_sub_cancel, List.getElem?_eq_getElem (show i < l.length by omega), Bool.not_eq_true', Bool.and_eq_false_iff, decide_eq_false_iff_not]
    right; omega
theorem flat_valid {l : List Obj} {t : ByteArray} (h : objV l = true) (hn : (flatEv l t).length ≤ 2000) : logV (flatEv l t) = true :=
  logV_of hn (fun e he => by
    obtain ⟨o, ho, r, hr, rfl, _⟩ := flat_mem he
    exact mkE_ok (objV_mem h o ho) hr) (flat_pair t l (adj_pair (objV_next h)))
/-! The words. -/
def wordFE (c : ByteArray) (e : Evt) : Bool := decide (e.case_ = c) && decide (e.life = 5)
def wordF (l : List Evt) (c : ByteArray) : List ByteArray := (l.filter (wordFE c)).map (·.act)
theorem trF_put (al : Al) (e : Evt) : trStep al e = if e.life = 5 then aput al e.case_ ((alook al e.case_).getD [] ++ [e.act]) else al := by
  unfold trStep aput alook
  split
  · cases afind e.case_ al 0 <;> rfl
  · rfl
theorem trF_alook (c : ByteArray) : ∀ (l : List Evt) (al : Al), (alook (l.foldl trStep al) c).getD [] = (alook al c).getD [] ++ wordF l c := by
  intro l
  induction l with
  | nil => intro al; simp [wordF]
  | cons e l ih =>
    intro al
    rw [List.foldl_cons, ih, trF_put]
    by_cases h5 : e.life = 5
    · rw [if_pos h5, alook_put]
      by_cases hc : e.case_ = c
      · subst hc
        simp [wordF, wordFE, h5]
      · have hw : wordF (e :: l) c = wordF l c := by simp [wordF, wordFE, hc]
        simp [hw, hc]
    · have hw : wordF (e :: l) c = wordF l c := by simp [wordF, wordFE, h5]
      rw [if_neg h5, hw]
theorem tr_wordF (l : List Evt) : (fun c => [.str c, .rs (rowsOf strC ((alook (trL l) c).getD []))]) = fun c => [AV.str c, .rs (rowsOf strC (wordF l c))] := by
  funext c
  unfold trL
  rw [trF_alook]
  simp [alook, afind]
theorem nodup_filter {β : Type} {p : β → Bool} {a : β} (hp : ∀ x, p x = true ↔ x = a) : ∀ l : List β, l.Nodup → l.filter p = if (l.any p) = true then [a] else [] := by
  intro l
  induction l with
  | nil => intro _; rfl
  | cons x l ih =>
    intro h
    rw [List.nodup_cons] at h
    have ih := ih h.2
    by_cases hx : p x = true
    · have ex := (hp x).1 hx
      subst ex
      have hno : l.any p = false := by
        rw [List.any_eq_false]
        intro y hy e
        rw [(hp y).1 e] at hy
        exact h.1 hy
      rw [hno] at ih
      rw [List.filter_cons_of_pos hx, ih]
      simp [hx]
    · rw [List.filter_cons_of_neg hx, ih]
      simp [hx]
/-- The activities of an object. -/
def hasQ (l : List Rf) (r : Rf) : Bool := l.any (eqR r)
def actsO (l : List Obj) (r : Rf) : List ByteArray := (l.filter fun o => hasQ o.refs r).map (·.act)
theorem actsO_cons (o : Obj) (l : List Obj) (r : Rf) : actsO (o :: l) r = (if hasQ o.refs r = true then [o.act] else []) ++ actsO l r := by
  unfold actsO
  by_cases h : hasQ o.refs r = true <;> simp [List.filter_cons, h]
theorem word_flat (t c : ByteArray) : ∀ l : List Obj, (∀ o ∈ l, objG o) → wordF (flatEv l t) c = actsO l ⟨t, c⟩ := by
  intro l
  induction l with
  | nil => intro _; rfl
  | cons o l ih =>
    intro h
    have h1 := refsB_nodup (h o (by simp)).2.2.2
    rw [flat_cons, actsO_cons, ← ih fun q hq => h q (by simp [hq])]
    unfold wordF
    rw [List.filter_append, List.map_append]
    congr 1
    rw [List.filter_map, List.map_map, ofL, List.filter_filter]
    have e : (fun r : Rf => (wordFE c ∘ fun r => mkE o.act o.time r.b) r && r.a.toList == t.toList) = fun r => eqR ⟨t, c⟩ r := by
      funext r
      rw [Bool.eq_iff_iff, eqR_iff]
      obtain ⟨a, b⟩ := r
      have e1 : a.toList = t.toList ↔ a = t := ⟨fun h => ba_eq (by rw [ba_toList, ba_toList] at h; exact h), fun h => by rw [h]⟩
      simp only [Function.comp, wordFE, mkE, Bool.and_eq_true, decide_eq_true_eq, beq_iff_eq, e1, Rf.mk.injEq]
      constructor
      · rintro ⟨⟨q1, _⟩, q2⟩; exact ⟨q2.symm, (of_decide_eq_true q1).symm⟩
      · rintro ⟨rfl, rfl⟩; simp
    rw [e, nodup_filter (a := ⟨t, c⟩) (fun x => eqR_iff.trans eq_comm) _ h1]
    unfold hasQ
    split <;> simp [mkE]
theorem word_some {l : List Evt} {c : ByteArray} (h5 : ∀ e ∈ l, e.life = 5) (h : c ∈ casesL l) : wordF l c ≠ [] := by
  unfold casesL at h
  rw [setB_mem] at h
  obtain ⟨e, he, rfl⟩ := List.mem_map.1 h
  intro q
  have : e.act ∈ wordF l e.case_ := List.mem_map.2 ⟨e, List.mem_filter.2 ⟨he, by simp [wordFE, h5 e he]⟩, rfl⟩
  rw [q] at this
  cases this
theorem acts_some {l : List Obj} {t c : ByteArray} (h : objV l = true) (hc : c ∈ casesL (flatEv l t)) : actsO l ⟨t, c⟩ ≠ [] := by
  rw [← word_flat t c l (objV_mem h)]
  refine word_some (fun e he => ?_) hc
  obtain ⟨o, _, r, _, rfl, _⟩ := flat_mem he
  rfl
/-! The number of events. -/
def hasT (t : ByteArray) (o : Obj) : Bool := o.refs.any fun r => r.a.toList == t.toList
def cntT (t : ByteArray) (l : List Obj) : Nat := (l.filter (hasT t)).length
theorem cntT_cons (t : ByteArray) (o : Obj) (l : List Obj) : cntT t (o :: l) = (if hasT t o = true then 1 else 0) + cntT t l := by
  unfold cntT
  by_cases h : hasT t o = true
  · rw [List.filter_cons_of_pos h, if_pos h, List.length_cons]; omega
  · rw [List.filter_cons_of_neg h, if_neg h]; omega
theorem cntT_le (t : ByteArray) (l : List Obj) : cntT t l ≤ l.length := List.length_filter_le _ _
theorem flat_count (t : ByteArray) : ∀ l : List Obj, (flatEv l t).length = cntT t l + conL t l := by
  intro l
  induction l with
  | nil => rfl
  | cons o l ih =>
    rw [flat_cons, cntT_cons, conL, List.length_append, List.length_map, ih]
    by_cases h : hasT t o = true
    · have : 0 < (ofL o.refs t).length := by
        obtain ⟨r, hr, e⟩ := List.any_eq_true.1 h
        exact List.length_pos_of_mem (List.mem_filter.2 ⟨hr, e⟩)
      rw [if_pos h]; omega
    · have : ofL o.refs t = [] := by
        unfold ofL
        rw [List.filter_eq_nil_iff]
        intro r hr e
        exact h (List.any_eq_true.2 ⟨r, hr, e⟩)
      rw [this, if_neg h]; simp
end Go.Proofs.Yteclpabcfcpifaa
