/- Instances of a log: open executions by case and activity (plain words; what the program does on lists by key, what the reference does on one list). -/
import Derived.Test.YtpgoefakhecdnaaEv0
import Derived.Test.YtpgoefakhecdnaaSpn0
namespace Go.Proofs.Ytpgoefakhecdnaa
set_option linter.unusedSimpArgs false
set_option linter.unusedVariables false
set_option linter.unnecessarySimpa false
set_option linter.unusedSectionVars false
open Go.RowKit
variable [Glob]
set_option maxRecDepth 100000
structure Xc where
  st : Int
  rd : Int
  fr : Int
deriving DecidableEq
abbrev Ky := ByteArray × ByteArray
def kyE (e : Evt) : Ky := (e.case_, e.act)
def fstX (s : Int) (l : List Xc) : Option Nat := l.findIdx? fun x => decide (x.st = s)
def exA (l : List Xc) (i : Nat) : Xc := l.getD i ⟨0, 0, 0⟩
/-- What an event does to the open executions of its key: those that are open then, and the one that has ended. -/
def takeL (e : Evt) (L : List Xc) : Option (List Xc × Option Xc) :=
  if e.life = 1 then some (L ++ [⟨1, e.time, e.time⟩], none)
  else if e.life = 2 then (match fstX 1 L with | some i => some (L.set i ⟨2, (exA L i).rd, e.time⟩, none) | none => some (L ++ [⟨2, e.time, e.time⟩], none))
  else if e.life = 3 then (match fstX 2 L with | some i => some (L.set i { exA L i with st := 3 }, none) | none => none)
  else if e.life = 4 then (match fstX 3 L with | some i => some (L.set i { exA L i with st := 2 }, none) | none => none)
  else if e.life = 5 then (match fstX 2 L with
    | some i => some (L.eraseIdx i, some (exA L i))
    | none => match fstX 1 L with
      | some i => some (L.eraseIdx i, some { exA L i with fr := e.time })
      | none => some (L, some ⟨2, e.time, e.time⟩))
  else if e.life = 6 then (match L with | [] => none | _ :: r => some (r, none))
  else some (L, none)
abbrev Of := Ky → List Xc
def updF (f : Of) (k : Ky) (L : List Xc) : Of := fun q => if q = k then L else f q
def insOf (e : Evt) (x : Xc) : Ins := ⟨e.case_, e.act, e.res, x.rd, x.fr, e.time⟩
def outE (e : Evt) (x : Option Xc) : List Ins := match x with | some x => [insOf e x] | none => []
def runI : Of → List Ins → List Evt → List Ins × Int
  | _, out, [] => (out, 0)
  | f, out, e :: r => match takeL e (f (kyE e)) with
    | none => ([], 20)
    | some (L, x) => runI (updF f (kyE e) L) (out ++ outE e x) r
theorem runI_congr : ∀ (l : List Evt) (f g : Of) (out : List Ins), (∀ k, f k = g k) → runI f out l = runI g out l := by
  intro l
  induction l with
  | nil => intro f g out _; rfl
  | cons e r ih =>
    intro f g out h
    simp only [runI, h (kyE e)]
    cases takeL e (g (kyE e)) with
    | none => rfl
    | some q =>
      obtain ⟨L, x⟩ := q
      simp only
      refine ih _ _ _ fun k => ?_
      unfold updF
      rw [h k]
/-! One list for all keys (the reference). -/
structure Op_ where
  k : Ky
  x : Xc
def flt (l : List Op_) (k : Ky) : List Xc := (l.filter fun o => decide (o.k = k)).map (·.x)
def fstR (k : Ky) (p : Xc → Bool) (l : List Op_) : Option Nat := l.findIdx? fun o => decide (o.k = k) && p o.x
theorem flt_app {l : List Op_} {o : Op_} {k : Ky} : flt (l ++ [o]) k = if o.k = k then flt l k ++ [o.x] else flt l k := by
  unfold flt
  rw [List.filter_append]
  by_cases h : o.k = k
  · rw [if_pos h]; simp [h]
  · rw [if_neg h]; simp [h]
/-- The first one in the list stands in its key's list where the first one stands there. -/
theorem fstR_flt {k : Ky} {p : Xc → Bool} : ∀ l : List Op_, match fstR k p l with
    | none => (flt l k).findIdx? p = none
    | some i => ∃ (j : Nat) (o : Op_), l[i]? = some o ∧ o.k = k ∧ (flt l k).findIdx? p = some j ∧ (flt l k)[j]? = some o.x ∧
        (∀ y : Xc, flt (l.set i ⟨k, y⟩) k = (flt l k).set j y ∧ ∀ q, q ≠ k → flt (l.set i ⟨k, y⟩) q = flt l q) ∧ flt (l.eraseIdx i) k = (flt l k).eraseIdx j ∧ ∀ q, q ≠ k → flt (l.eraseIdx i) q = flt l q := by
  intro l
  induction l with
  | nil => simp [fstR, flt]
  | cons o r ih =>
    unfold fstR at ih ⊢
    rw [List.findIdx?_cons]
    by_cases h : o.k = k
    · have e1 : flt (o :: r) k = o.x :: flt r k := by simp [flt, h]
      by_cases hp : p o.x = true
      · rw [if_pos (by simp [h, hp])]
        refine ⟨0, o, rfl, h, ?_, ?_, fun y => ⟨?_, fun q hq => ?_⟩, ?_, fun q hq => ?_⟩
        · rw [e1, List.findIdx?_cons, if_pos hp]
        · rw [e1]; rfl
        · rw [e1]; simp [flt]
        · have h1 : ¬ k = q := fun e => hq e.symm
          have h2 : ¬ o.k = q := fun e => hq (e ▸ h)
          simp [flt, h1, h2]
        · rw [e1]; rfl
        · have h2 : ¬ o.k = q := fun e => hq (e ▸ h)
          simp [flt, h2]
      · rw [if_neg (by simp [h, hp])]
        cases hq : List.findIdx? (fun o => decide (o.k = k) && p o.x) r with
        | none =>
          rw [hq] at ih
          simp only [Option.map_none] at ih ⊢
          rw [e1, List.findIdx?_cons, if_neg hp, ih]; rfl
        | some i =>
          rw [hq] at ih
          obtain ⟨j, o', h1, h2, h3, h4, h5, h6, h7⟩ := ih
          simp only [Option.map_some]
          refine ⟨j + 1, o', by simpa using h1, h2, ?_, ?_, fun y => ⟨?_, fun q hq => ?_⟩, ?_, fun q hq => ?_⟩
          · rw [e1, List.findIdx?_cons, if_neg hp, h3]; rfl
          · rw [e1]; simpa using h4
          · rw [e1, List.set_cons_succ, List.set_cons_succ, ← (h5 y).1]; simp [flt, h]
          · have h8 : ¬ o.k = q := fun e => hq (e ▸ h)
            have := (h5 y).2 q hq
            rw [List.set_cons_succ]
            simp only [flt, List.filter_cons, h8, decide_false, Bool.false_eq_true, if_false] at this ⊢
            exact this
          · rw [e1, List.eraseIdx_cons_succ, List.eraseIdx_cons_succ, ← h6]; simp [flt, h]
          · have h8 : ¬ o.k = q := fun e => hq (e ▸ h)
            have := h7 q hq
            rw [List.eraseIdx_cons_succ]
            simp only [flt, List.filter_cons, h8, decide_false, Bool.false_eq_true, if_false] at this ⊢
            exact this
    · have e1 : flt (o :: r) k = flt r k := by simp [flt, h]
      rw [if_neg (by simp [h])]
      cases hq : List.findIdx? (fun o => decide (o.k = k) && p o.x) r with
      | none =>
        rw [hq] at ih
        simp only [Option.map_none] at ih ⊢
        rw [e1, ih]
      | some i =>
        rw [hq] at ih
        obtain ⟨j, o', h1, h2, h3, h4, h5, h6, h7⟩ := ih
        simp only [Option.map_some]
        have e2 : ∀ (t : List Op_) q, flt (o :: t) q = if o.k = q then o.x :: flt t q else flt t q := fun t q => by
          by_cases hk : o.k = q
          · rw [if_pos hk]; simp [flt, hk]
          · rw [if_neg hk]; simp [flt, hk]
        refine ⟨j, o', by simpa using h1, h2, by rw [e1]; exact h3, by rw [e1]; exact h4, fun y => ⟨?_, fun q hq => ?_⟩, ?_, fun q hq => ?_⟩
        · rw [List.set_cons_succ, e2, if_neg h, (h5 y).1, e1]
        · rw [List.set_cons_succ, e2, e2, (h5 y).2 q hq]
        · rw [List.eraseIdx_cons_succ, e2, if_neg h, h6, e1]
        · rw [List.eraseIdx_cons_succ, e2, e2, h7 q hq]
/-- The reference's step. -/
def isS (s : Int) (x : Xc) : Bool := decide (x.st = s)
def opA (l : List Op_) (i : Nat) : Xc := match l[i]? with | some o => o.x | none => ⟨0, 0, 0⟩
def stepR (e : Evt) (l : List Op_) : Option (List Op_ × Option Xc) :=
  if e.life = 1 then some (l ++ [⟨kyE e, ⟨1, e.time, e.time⟩⟩], none)
  else if e.life = 2 then (match fstR (kyE e) (isS 1) l with | some i => some (l.set i ⟨kyE e, ⟨2, (opA l i).rd, e.time⟩⟩, none) | none => some (l ++ [⟨kyE e, ⟨2, e.time, e.time⟩⟩], none))
  else if e.life = 3 then (match fstR (kyE e) (isS 2) l with | some i => some (l.set i ⟨kyE e, { opA l i with st := 3 }⟩, none) | none => none)
  else if e.life = 4 then (match fstR (kyE e) (isS 3) l with | some i => some (l.set i ⟨kyE e, { opA l i with st := 2 }⟩, none) | none => none)
  else if e.life = 5 then (match fstR (kyE e) (isS 2) l with
    | some i => some (l.eraseIdx i, some (opA l i))
    | none => match fstR (kyE e) (isS 1) l with
      | some i => some (l.eraseIdx i, some { opA l i with fr := e.time })
      | none => some (l, some ⟨2, e.time, e.time⟩))
  else if e.life = 6 then (match fstR (kyE e) (fun x => decide (1 ≤ x.st ∧ x.st ≤ 3)) l with | none => none | some i => some (l.eraseIdx i, none))
  else some (l, none)
def stOk (l : List Xc) : Prop := ∀ x ∈ l, 1 ≤ x.st ∧ x.st ≤ 3
theorem takeL_ok {e : Evt} {L L' : List Xc} {x : Option Xc} (h : stOk L) (ht : takeL e L = some (L', x)) : stOk L' := by
  have hset : ∀ (i : Nat) (y : Xc), (1 ≤ y.st ∧ y.st ≤ 3) → stOk (L.set i y) := fun i y hy z hz => by
    rcases List.mem_or_eq_of_mem_set hz with hz | rfl
    · exact h z hz
    · exact hy
  have happ : ∀ y : Xc, (1 ≤ y.st ∧ y.st ≤ 3) → stOk (L ++ [y]) := fun y hy z hz => by
    rcases List.mem_append.1 hz with hz | hz
    · exact h z hz
    · simp at hz; rw [hz]; exact hy
  have hera : ∀ i, stOk (L.eraseIdx i) := fun i z hz => h z (List.mem_of_mem_eraseIdx hz)
  unfold takeL at ht
  (repeat' split at ht) <;> simp only [Option.some.injEq, Prod.mk.injEq, reduceCtorEq] at ht
  all_goals (obtain ⟨rfl, _⟩ := ht)
  · exact happ _ (by simp)
  · exact hset _ _ (by simp)
  · exact happ _ (by simp)
  · exact hset _ _ (by simp)
  · exact hset _ _ (by simp)
  · exact hera _
  · exact hera _
  · exact h
  · exact fun z hz => h z (by simp [hz])
  · exact h
theorem exA_get {L : List Xc} {j : Nat} {x : Xc} (h : L[j]? = some x) : exA L j = x := by simp [exA, List.getD, h]
/-- Both steps go together. -/
theorem step_rel {e : Evt} {l : List Op_} {f : Of} (hf : ∀ k, flt l k = f k) (ho : ∀ k, stOk (f k)) :
    match stepR e l with
    | none => takeL e (f (kyE e)) = none
    | some (l', x) => ∃ L, takeL e (f (kyE e)) = some (L, x) ∧ ∀ k, flt l' k = updF f (kyE e) L k := by
  have hk := hf (kyE e)
  have app : ∀ (y : Xc) k, flt (l ++ [⟨kyE e, y⟩]) k = updF f (kyE e) (f (kyE e) ++ [y]) k := fun y k => by
    rw [flt_app]; unfold updF
    by_cases h : kyE e = k
    · rw [if_pos h, if_pos h.symm, hf k, h]
    · rw [if_neg h, if_neg (Ne.symm h), hf k]
  have same : ∀ k, flt l k = updF f (kyE e) (f (kyE e)) k := fun k => by
    unfold updF
    split
    · rename_i h; rw [hf k, h]
    · exact hf k
  have set_ : ∀ {p : Xc → Bool} {i : Nat}, fstR (kyE e) p l = some i → ∃ j x, (f (kyE e)).findIdx? p = some j ∧ (f (kyE e))[j]? = some x ∧ opA l i = x ∧
      (∀ y k, flt (l.set i ⟨kyE e, y⟩) k = updF f (kyE e) ((f (kyE e)).set j y) k) ∧ ∀ k, flt (l.eraseIdx i) k = updF f (kyE e) ((f (kyE e)).eraseIdx j) k := fun {p i} hi => by
    have := fstR_flt (k := kyE e) (p := p) l
    rw [hi] at this
    obtain ⟨j, o, h1, _, h3, h4, h5, h6, h7⟩ := this
    rw [hk] at h3 h4 h6
    refine ⟨j, o.x, h3, h4, by unfold opA; rw [h1], fun y k => ?_, fun k => ?_⟩
    · unfold updF
      split
      · rename_i h; rw [h, (h5 y).1, hk]
      · rename_i h; rw [(h5 y).2 k h, hf k]
    · unfold updF
      split
      · rename_i h; rw [h, h6]
      · rename_i h; rw [h7 k h, hf k]
  have none_ : ∀ {p : Xc → Bool}, fstR (kyE e) p l = none → (f (kyE e)).findIdx? p = none := fun {p} hi => by
    have := fstR_flt (k := kyE e) (p := p) l
    rw [hi] at this
    rw [← hk]; exact this
  unfold stepR takeL
  by_cases c1 : e.life = 1
  · rw [if_pos c1, if_pos c1]; exact ⟨_, rfl, app _⟩
  rw [if_neg c1, if_neg c1]
  by_cases c2 : e.life = 2
  · rw [if_pos c2, if_pos c2]
    cases hq : fstR (kyE e) (isS 1) l with
    | none => simp only; rw [show fstX 1 (f (kyE e)) = none from none_ hq]; exact ⟨_, rfl, app _⟩
    | some i =>
      obtain ⟨j, x, h1, h2, h3, h4, _⟩ := set_ hq
      simp only
      rw [show fstX 1 (f (kyE e)) = some j from h1]
      exact ⟨_, rfl, fun k => by rw [h3, exA_get h2]; exact h4 _ k⟩
  rw [if_neg c2, if_neg c2]
  by_cases c3 : e.life = 3
  · rw [if_pos c3, if_pos c3]
    cases hq : fstR (kyE e) (isS 2) l with
    | none => simp only; rw [show fstX 2 (f (kyE e)) = none from none_ hq]
    | some i =>
      obtain ⟨j, x, h1, h2, h3, h4, _⟩ := set_ hq
      simp only
      rw [show fstX 2 (f (kyE e)) = some j from h1]
      exact ⟨_, rfl, fun k => by rw [h3, exA_get h2]; exact h4 _ k⟩
  rw [if_neg c3, if_neg c3]
  by_cases c4 : e.life = 4
  · rw [if_pos c4, if_pos c4]
    cases hq : fstR (kyE e) (isS 3) l with
    | none => simp only; rw [show fstX 3 (f (kyE e)) = none from none_ hq]
    | some i =>
      obtain ⟨j, x, h1, h2, h3, h4, _⟩ := set_ hq
      simp only
      rw [show fstX 3 (f (kyE e)) = some j from h1]
      exact ⟨_, rfl, fun k => by rw [h3, exA_get h2]; exact h4 _ k⟩
  rw [if_neg c4, if_neg c4]
  by_cases c5 : e.life = 5
  · rw [if_pos c5, if_pos c5]
    cases hq : fstR (kyE e) (isS 2) l with
    | some i =>
      obtain ⟨j, x, h1, h2, h3, _, h5⟩ := set_ hq
      simp only
      rw [show fstX 2 (f (kyE e)) = some j from h1]
      exact ⟨_, by simp only [Option.some.injEq, Prod.mk.injEq, true_and]; rw [exA_get h2, h3], h5⟩
    | none =>
      simp only
      rw [show fstX 2 (f (kyE e)) = none from none_ hq]
      simp only
      cases hq2 : fstR (kyE e) (isS 1) l with
      | some i =>
        obtain ⟨j, x, h1, h2, h3, _, h5⟩ := set_ hq2
        simp only
        rw [show fstX 1 (f (kyE e)) = some j from h1]
        exact ⟨_, by simp only [Option.some.injEq, Prod.mk.injEq, true_and]; rw [exA_get h2, h3], h5⟩
      | none =>
        simp only
        rw [show fstX 1 (f (kyE e)) = none from none_ hq2]
        exact ⟨_, rfl, same⟩
  rw [if_neg c5, if_neg c5]
  by_cases c6 : e.life = 6
  · rw [if_pos c6, if_pos c6]
    cases hq : fstR (kyE e) (fun x => decide (1 ≤ x.st ∧ x.st ≤ 3)) l with
    | none =>
      simp only
      have h1 := none_ hq
      cases hL : f (kyE e) with
      | nil => rfl
      | cons y r =>
        rw [hL, List.findIdx?_cons, if_pos] at h1
        · simp at h1
        · have := ho (kyE e) y (by rw [hL]; simp)
          simpa using this
    | some i =>
      obtain ⟨j, x, h1, h2, h3, _, h5⟩ := set_ hq
      simp only
      cases hL : f (kyE e) with
      | nil => rw [hL] at h1; simp at h1
      | cons y r =>
        have hj : j = 0 := by
          rw [hL, List.findIdx?_cons, if_pos] at h1
          · simpa using h1.symm
          · have := ho (kyE e) y (by rw [hL]; simp)
            simpa using this
        subst hj
        exact ⟨_, rfl, fun k => by rw [h5 k, hL]; rfl⟩
  rw [if_neg c6, if_neg c6]
  exact ⟨_, rfl, same⟩
def runR : List Op_ → List Ins → List Evt → List Ins × Int
  | _, out, [] => (out, 0)
  | l, out, e :: r => match stepR e l with
    | none => ([], 20)
    | some (l', x) => runR l' (out ++ outE e x) r
theorem run_rel : ∀ (es : List Evt) (l : List Op_) (f : Of) (out : List Ins), (∀ k, flt l k = f k) → (∀ k, stOk (f k)) → runR l out es = runI f out es := by
  intro es
  induction es with
  | nil => intro l f out _ _; rfl
  | cons e r ih =>
    intro l f out hf ho
    have := step_rel (e := e) hf ho
    simp only [runR, runI]
    cases hs : stepR e l with
    | none => rw [hs] at this; rw [this]
    | some q =>
      obtain ⟨l', x⟩ := q
      rw [hs] at this
      obtain ⟨L, h1, h2⟩ := this
      rw [h1]
      refine ih _ _ _ h2 fun k => ?_
      unfold updF
      split
      · exact takeL_ok (ho _) h1
      · exact ho k
end Go.Proofs.Ytpgoefakhecdnaa
