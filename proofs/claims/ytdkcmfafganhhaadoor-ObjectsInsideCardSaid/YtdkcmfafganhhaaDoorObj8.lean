/- Divergence: the program's answer and the reference's. -/
import Derived.Test.YtdkcmfafganhhaaDoorObj7
import Derived.Test.YtdkcmfafganhhaaDoorBL
namespace Go.Proofs.YtdkcmfafganhhaaDoor
set_option linter.unusedSimpArgs false
set_option linter.unusedVariables false
set_option linter.unnecessarySimpa false
set_option linter.unusedSectionVars false
open Go.RowKit
variable [Glob]
set_option maxRecDepth 100000
/-- The last event before a place that refers to an object. -/
def prevR (l : List Obj) (r : Rf) : Nat → Option Nat
  | 0 => none
  | i + 1 => match l[i]? with | some o => if r ∈ o.refs then some i else prevR l r i | none => none
theorem prevR_lt (l : List Obj) (r : Rf) : ∀ i j, prevR l r i = some j → j < i ∧ ∃ o, l[j]? = some o ∧ r ∈ o.refs := by
  intro i
  induction i with
  | zero => intro j h; simp [prevR] at h
  | succ i ih =>
    intro j h
    simp only [prevR] at h
    split at h
    · rename_i o ho
      split at h
      · rename_i hr; simp at h; subst h; exact ⟨by omega, o, ho, hr⟩
      · have := ih j h; exact ⟨by omega, this.2⟩
    · simp at h
def refsAt (l : List Obj) (j : Nat) : List Rf := match l[j]? with | some o => o.refs | none => []
/-- Does the event follow another one with nothing else in common? -/
def divN (l : List Obj) (i : Nat) (refs : List Rf) (r : Rf) : Nat := match prevR l r i with | some j => if (refsAt l j).any (othR refs r) = true then 0 else 1 | none => 0
def divE (l : List Obj) (i : Nat) (refs : List Rf) : List Rf → Nat
  | [] => 0
  | r :: q => divN l i refs r + divE l i refs q
def divS (l : List Obj) (t : ByteArray) : Nat → Nat
  | 0 => 0
  | i + 1 => divS l t i + divE l i (refsAt l i) (ofL (refsAt l i) t)
theorem divN_le (l : List Obj) (i : Nat) (refs : List Rf) (r : Rf) : divN l i refs r ≤ 1 := by
  unfold divN; split
  · split <;> omega
  · omega
theorem divE_le (l : List Obj) (i : Nat) (refs : List Rf) : ∀ q, divE l i refs q ≤ q.length := by
  intro q
  induction q with
  | nil => simp [divE]
  | cons r q ih => have := divN_le l i refs r; simp only [divE, List.length_cons]; omega
theorem refsAt_le {l : List Obj} (h : smallO l) (i : Nat) : (refsAt l i).length ≤ 20 := by
  unfold refsAt
  split
  · rename_i o ho; exact h.2 o (List.mem_of_getElem? ho)
  · simp
theorem divS_le {l : List Obj} (h : smallO l) (t : ByteArray) : ∀ i, divS l t i ≤ i * 20 := by
  intro i
  induction i with
  | zero => simp [divS]
  | succ i ih =>
    have h1 := divE_le l i (refsAt l i) (ofL (refsAt l i) t)
    have h2 : (ofL (refsAt l i) t).length ≤ (refsAt l i).length := List.length_filter_le _ _
    have h3 := refsAt_le h i
    simp only [divS]; omega
def divOut (l : List Obj) (t : ByteArray) : Int × Int := if objV l = true ∧ isNameS t = true then ((divS l t l.length : Nat), 0) else (0, 1)
/-- The references of a valid event are in order. -/
theorem lessR_iff {x y : Rf} : lessR x y = true ↔ Op.bytesLess x.a.data.toList y.a.data.toList = true ∨ (x.a.data.toList = y.a.data.toList ∧ Op.bytesLess x.b.data.toList y.b.data.toList = true) := by simp [lessR]
theorem lessR_irrefl (x : Rf) : ¬ lessR x x = true := by simp [lessR_iff, bl_irrefl]
theorem lessR_trans {x y z : Rf} (h1 : lessR x y = true) (h2 : lessR y z = true) : lessR x z = true := by
  rw [lessR_iff] at *
  rcases h1 with h1 | ⟨e1, h1⟩ <;> rcases h2 with h2 | ⟨e2, h2⟩
  · exact .inl (bl_trans _ _ _ h1 h2)
  · rw [← e2]; exact .inl h1
  · rw [e1]; exact .inl h2
  · rw [e1, e2]; exact .inr ⟨rfl, bl_trans _ _ _ h1 h2⟩
theorem refsB_lt {l : List Rf} (h : refsB l = true) : ∀ (i d : Nat) x y, l[i]? = some x → l[i + d + 1]? = some y → lessR x y = true := by
  have key : ∀ (i : Nat) x y, l[i]? = some x → l[i + 1]? = some y → lessR x y = true := fun i x y h1 h2 => by
    simp only [refsB, List.all_eq_true, List.mem_range] at h
    have h3 := h (i + 1) (List.getElem?_eq_some_iff.1 h2).1
    rw [h2] at h3
    simp only [refOk, Nat.add_sub_cancel, h1, Bool.and_eq_true, Bool.not_eq_true', Bool.and_eq_false_imp, decide_eq_true_eq, Bool.not_eq_false'] at h3
    exact h3.2 (by omega)
  intro i d
  induction d with
  | zero => intro x y h1 h2; exact key i x y h1 h2
  | succ d ih =>
    intro x y h1 h2
    have hlt := (List.getElem?_eq_some_iff.1 h2).1
    have h3 : l[i + d + 1]? = some l[i + d + 1] := List.getElem?_eq_getElem (by omega)
    exact lessR_trans (ih x _ h1 h3) (key (i + d + 1) _ _ h3 h2)
theorem refsB_nodup {l : List Rf} (h : refsB l = true) : l.Nodup := by
  refine List.pairwise_iff_getElem.2 fun i j hi hj hij he => ?_
  have h1 : l[i]? = some l[i] := List.getElem?_eq_getElem hi
  have h2 : l[j]? = some l[j] := List.getElem?_eq_getElem hj
  obtain ⟨d, rfl⟩ : ∃ d, j = i + d + 1 := ⟨j - i - 1, by omega⟩
  have := refsB_lt h i d _ _ h1 h2
  rw [he] at this
  exact lessR_irrefl _ this
theorem objV_refs {l : List Obj} (h : objV l = true) (i : Nat) : refsB (refsAt l i) = true := by
  unfold refsAt
  split
  · rename_i o ho
    simp only [objV, objsB, Bool.and_eq_true, decide_eq_true_eq, List.all_eq_true, List.mem_range] at h
    have := h.2 i (List.getElem?_eq_some_iff.1 ho).1
    rw [ho] at this
    simp only [objOk, Bool.and_eq_true] at this
    exact this.2
  · rfl
theorem hasR_iff {l : List Rf} {r : Rf} : hasR l r = true ↔ r ∈ l := by
  simp only [hasR, List.any_eq_true, eqR_iff]
  exact ⟨fun ⟨x, h1, h2⟩ => h2 ▸ h1, fun h => ⟨r, h, rfl⟩⟩
theorem comR_filter (b l : List Rf) : comR b l = (l.filter fun x => decide (x ∈ b)).length := by
  induction l with
  | nil => rfl
  | cons x l ih =>
    simp only [comR, hasR_iff, List.filter_cons, ih]
    by_cases h : x ∈ b <;> simp [h] <;> omega
/-- One reference in common: no other one. -/
theorem comR_one {a b : List Rf} {r : Rf} (hn : a.Nodup) (ha : r ∈ a) (hb : r ∈ b) : comR b a = 1 ↔ a.any (othR b r) = false := by
  have hr : r ∈ a.filter fun x => decide (x ∈ b) := by simp [ha, hb]
  have hnd : (a.filter fun x => decide (x ∈ b)).Nodup := hn.filter _
  rw [comR_filter]
  constructor
  · intro h
    obtain ⟨y, hy⟩ := List.length_eq_one_iff.1 h
    have hry : r = y := by rw [hy] at hr; simpa using hr
    rw [List.any_eq_false]
    intro x hx
    simp only [othR, Bool.and_eq_true, Bool.not_eq_true', List.any_eq_true, eqR_iff, not_and, not_exists]
    intro h1 z hz he
    have h2 : x ∈ a.filter fun x => decide (x ∈ b) := by simp only [List.mem_filter, decide_eq_true_eq]; exact ⟨hx, he ▸ hz⟩
    rw [hy] at h2
    simp at h2
    have h3 : eqR x r = true := eqR_iff.2 (by rw [h2, hry])
    rw [h1] at h3; cases h3
  · intro h
    rw [List.any_eq_false] at h
    have hall : ∀ x ∈ a.filter fun x => decide (x ∈ b), x = r := fun x hx => by
      simp at hx
      have := h x hx.1
      simp only [othR, Bool.and_eq_true, Bool.not_eq_true', List.any_eq_true, eqR_iff, not_and, not_exists] at this
      cases q : eqR x r
      · exact absurd rfl (this q x hx.2)
      · exact eqR_iff.1 q
    match hf : a.filter fun x => decide (x ∈ b) with
    | [] => rw [hf] at hr; simp at hr
    | [y] => rfl
    | y :: z :: q =>
      rw [hf] at hall hnd
      have h1 := hall y (by simp)
      have h2 := hall z (by simp)
      rw [h1, h2] at hnd
      simp at hnd
def rfK (r : Rf) : AV := .agg (refC r)
def iV (x : Int) : AV := .int .i64 x
theorem mf_rf (a b : ByteArray) (es : List (Rf × Int)) : mfind (true, [2, 2]) (.agg [.str a, .str b]) (mE rfK iV es) 0 = some ((afind ⟨a, b⟩ es 0).map fun e => (e.1, iV e.2)) := by
  refine mfind_E (kc := rfK) (vc := iV) (ks := (true, [2, 2])) (fun x y => ?_) ⟨a, b⟩ es 0
  obtain ⟨x1, x2⟩ := x
  obtain ⟨y1, y2⟩ := y
  simp only [rfK, refC, keq, eqCs, Option.some.injEq]
  rw [← eqR_dec, Bool.eq_iff_iff, eqR]
  simp only [Bool.and_eq_true, beq_iff_eq, and_true]
  exact ⟨fun h => ⟨h.1.symm, h.2.symm⟩, fun h => ⟨h.1.symm, h.2.symm⟩⟩
theorem mp_none {a b : ByteArray} {i : Int} {es : List (Rf × Int)} (h : afind ⟨a, b⟩ es 0 = none) : mE rfK iV es ++ [(.agg [.str a, .str b], .int .i64 i)] = mE rfK iV (aput es ⟨a, b⟩ i) := by
  simp [aput, h, mE, rfK, refC, iV]
theorem mp_some {a b : ByteArray} {i v : Int} {j : Nat} {es : List (Rf × Int)} (h : afind ⟨a, b⟩ es 0 = some (j, v)) : (mE rfK iV es).set j (.agg [.str a, .str b], .int .i64 i) = mE rfK iV (aput es ⟨a, b⟩ i) := by
  simp [aput, h, mE, rfK, refC, iV]
theorem rf_refs {m : Nat} {es : List (Rf × Int)} : refsM m (mE rfK iV es) = true := mE_refs (fun x => by simp [rfK, refC]) fun x => by simp [iV]
theorem ofL_mem {l : List Rf} {t : ByteArray} {r : Rf} : r ∈ ofL l t ↔ r ∈ l ∧ r.a.toList = t.toList := by simp [ofL]
end Go.Proofs.YtdkcmfafganhhaaDoor
