/- Forgetting: at the head of a loop less is said of the state. -/
import Derived.Test.YtnldjmokemgaoaaAbVc
namespace Go.Proofs.Ytnldjmokemgaoaa
set_option linter.unusedSimpArgs false
set_option linter.unusedVariables false
set_option linter.unnecessarySimpa false
set_option linter.unusedSectionVars false
open Go.RowKit
variable [Glob]

mutual
/-- All of the call's own memory that a value holds has a number below m. -/
def refs (m : Nat) : AV → Bool
  | .op id _ => decide (id < m)
  | .ep id _ _ _ => decide (id < m)
  | .os id _ => decide (id < m)
  | .mp id => decide (id < m)
  | .agg l => refsL m l
  | .tup l => refsL m l
  | .fn _ l => refsL m l
  | _ => true
def refsL (m : Nat) : List AV → Bool
  | [] => true
  | x :: r => refs m x && refsL m r
end
/-- x' says less than x: nothing; the same; or a nil slice that may be appended to. -/
def cv (m n : Nat) (x x' : AV) : Prop := x' = .any ∨ (x' = x ∧ refs m x = true) ∨ (x = .nils ∧ ∃ i, i < n ∧ x' = .os (m + i) 0) ∨ (x = .nils ∧ x' = .rs [])
def cvL (m n : Nat) : List AV → List AV → Prop
  | [], [] => True
  | x :: l, x' :: l' => cv m n x x' ∧ cvL m n l l'
  | _, _ => False
def cvT (m n : Nat) (T : List (Nat × AV)) : List (Nat × AV) → Prop
  | [] => True
  | (k, x') :: r => cv m n (tget T k) x' ∧ cvT m n T r
def refsR (m : Nat) (rows : List (List AV)) : Bool := rows.all fun r => r.all (refs m)
def refsM (m : Nat) (es : List (AV × AV)) : Bool := es.all fun e => refs m e.1 && refs m e.2
def cvB (m n : Nat) : Blk → Blk → Prop
  | .box t cs, .box t' cs' => t' = t ∧ cvL m n cs cs'
  | .row e nb rows, .row e' nb' rows' => e' = e ∧ nb' = nb ∧ rows' = rows ∧ refsR m rows = true
  | .map es, .map es' => es' = es ∧ refsM m es = true
  | _, .gone => True
  | _, _ => False
def isNb : Blk → Prop
  | .row _ nb rows => nb = true ∧ rows = []
  | _ => False
def cvH (m n : Nat) : List Blk → List Blk → Prop
  | _, [] => True
  | b :: H, b' :: H' => cvB m n b b' ∧ cvH m n H H'
  | [], b' :: H' => isNb b' ∧ cvH m n [] H'

section
variable {P : Program}
theorem refsL_get {m : Nat} {l : List AV} (h : refsL m l = true) : ∀ (j : Nat) x, l[j]? = some x → refs m x = true := by
  induction l with
  | nil => intro j x h; simp at h
  | cons y l ih =>
    intro j x hj
    simp only [refsL, Bool.and_eq_true] at h
    cases j with
    | zero => simp at hj; rw [← hj]; exact h.1
    | succ j => exact ih h.2 j x (by simpa using hj)
theorem cvL_get {m n : Nat} : ∀ {l l' : List AV}, cvL m n l l' → l.length = l'.length ∧ ∀ (j : Nat) x', l'[j]? = some x' → ∃ x, l[j]? = some x ∧ cv m n x x' := by
  intro l
  induction l with
  | nil => intro l' h; cases l' with | nil => exact ⟨rfl, by simp⟩ | cons => exact h.elim
  | cons y l ih =>
    intro l' h
    cases l' with
    | nil => exact h.elim
    | cons y' l' =>
      obtain ⟨h1, h2⟩ := h
      obtain ⟨k1, k2⟩ := ih h2
      refine ⟨by simp [k1], fun j x' hj => ?_⟩
      cases j with
      | zero => simp at hj; subst hj; exact ⟨y, by simp, h1⟩
      | succ j => simpa using k2 j x' (by simpa using hj)
theorem cvT_get {m n : Nat} {T : List (Nat × AV)} : ∀ {T' : List (Nat × AV)}, cvT m n T T' → ∀ k, cv m n (tget T k) (tget T' k) := by
  intro T'
  induction T' with
  | nil => intro _ k; exact .inl rfl
  | cons p T' ih =>
    intro h k
    obtain ⟨j, x'⟩ := p
    obtain ⟨h1, h2⟩ := h
    simp only [tget]
    split
    · rename_i e; subst e; exact h1
    · exact ih h2 k
theorem cvH_get {m n : Nat} : ∀ {H H' : List Blk}, cvH m n H H' → ∀ (i : Nat) b', H'[i]? = some b' → (∃ b, H[i]? = some b ∧ cvB m n b b') ∨ (H.length ≤ i ∧ isNb b') := by
  intro H
  induction H with
  | nil =>
    intro H'
    induction H' with
    | nil => intro _ i b' h; simp at h
    | cons c H' ih =>
      intro h i b' hi
      obtain ⟨h1, h2⟩ := h
      cases i with
      | zero => simp at hi; subst hi; exact .inr ⟨by simp, h1⟩
      | succ i => rcases ih h2 i b' (by simpa using hi) with ⟨b, h3, _⟩ | ⟨_, h3⟩
                  · simp at h3
                  · exact .inr ⟨by simp, h3⟩
  | cons c H ih =>
    intro H' h i b' hi
    cases H' with
    | nil => simp at hi
    | cons c' H' =>
      obtain ⟨h1, h2⟩ := h
      cases i with
      | zero => simp at hi; subst hi; exact .inl ⟨c, by simp, h1⟩
      | succ i =>
        rcases ih h2 i b' (by simpa using hi) with ⟨b, h3, h4⟩ | ⟨h3, h4⟩
        · exact .inl ⟨b, by simpa using h3, h4⟩
        · exact .inr ⟨by simp; omega, h4⟩
def cutφ (φ : Nat → Option Nat) (m : Nat) : Nat → Option Nat := fun i => if i < m then φ i else none
theorem RV.cut {w : World} {X : Nat → Prop} {φ : Nat → Option Nat} {H H' : List Blk} {m n : Nat} (hm : m = min H.length H'.length) (hH : cvH m n H H') {x : AV} {v : Value} (h : RV P w X φ H x v) (hr : refs m x = true) : RV P w X (cutφ φ m) H' x v := by
  have hsame : ∀ (i : Nat) b', i < m → H'[i]? = some b' → ∃ b, H[i]? = some b ∧ cvB m n b b' := fun i b' hi hb => by
    rcases cvH_get hH i b' hb with h | ⟨h, _⟩
    · exact h
    · omega
  have hφ : ∀ (i : Nat), i < m → cutφ φ m i = φ i := fun i hi => by simp [cutφ, hi]
  induction h with
  | ro h => exact .ro (h.weaken fun b hb => hb.imp id fun ⟨id, hid⟩ => ⟨id, by unfold cutφ at hid; split at hid <;> simp_all⟩)
  | @op id o v h0 hid h =>
    simp [refs] at hr
    refine .op h0 (by omega) fun t cs' hb' => ?_
    obtain ⟨b, h1, h2⟩ := hsame id _ hr hb'
    cases b with
    | box t' cs => obtain ⟨rfl, _⟩ := h2; rw [hφ id hr]; exact h _ cs h1
    | _ => exact h2.elim
  | @ep id n' i o v h0 hid h =>
    simp [refs] at hr
    refine .ep h0 (by omega) fun e nb rows hb' => ?_
    obtain ⟨b, h1, h2⟩ := hsame id _ hr hb'
    cases b with
    | row e' nb' rows' => obtain ⟨rfl, rfl, rfl, _⟩ := h2; rw [hφ id hr]; exact h _ _ _ h1
    | _ => exact h2.elim
  | @os id n' v h0 hid h =>
    simp [refs] at hr
    refine .os h0 (by omega) fun e nb rows hb' => ?_
    obtain ⟨b, h1, h2⟩ := hsame id _ hr hb'
    cases b with
    | row e' nb' rows' => obtain ⟨rfl, rfl, rfl, _⟩ := h2; rw [hφ id hr]; exact h _ _ _ h1
    | _ => exact h2.elim
  | @mp id v h0 hid h =>
    simp [refs] at hr
    refine .mp h0 (by omega) fun es hb' => ?_
    obtain ⟨b, h1, h2⟩ := hsame id _ hr hb'
    cases b with
    | map es' => obtain ⟨rfl, _⟩ := h2; rw [hφ id hr]; exact h _ h1
    | _ => exact h2.elim
  | agg hl h1 _ ih => simp only [refs] at hr; exact .agg hl h1 fun j x v h2 h3 => ih j x v h2 h3 (refsL_get hr j x h2)
  | tup hl _ ih => simp only [refs] at hr; exact .tup hl fun j x v h2 h3 => ih j x v h2 h3 (refsL_get hr j x h2)
  | fn hl _ ih => simp only [refs] at hr; exact .fn hl fun j x v h2 h3 => ih j x v h2 h3 (refsL_get hr j x h2)
theorem RV.cv {w : World} {X : Nat → Prop} {φ : Nat → Option Nat} {H H' : List Blk} {m n : Nat} (hm : m = min H.length H'.length) (hn : n = H'.length - m) (hH : cvH m n H H') {x x' : AV} {v : Value} (h : RV P w X φ H x v) (hc : cv m n x x') : RV P w X (cutφ φ m) H' x' v := by
  rcases hc with rfl | ⟨rfl, hr⟩ | ⟨rfl, i, hi, rfl⟩ | ⟨rfl, rfl⟩
  · exact .ro .any
  · exact h.cut hm hH hr
  · obtain ⟨A, rfl⟩ : ∃ A, v = .slice A 0 0 := ⟨none, h.nils_inv⟩
    refine .os rfl (by omega) fun e nb rows hb => ?_
    rcases cvH_get hH _ _ hb with ⟨b, h1, _⟩ | ⟨h1, h2⟩
    · have := (List.getElem?_eq_some_iff.1 h1).1; omega
    · obtain ⟨rfl, rfl⟩ := h2
      exact ⟨by simp, fun _ => .inl ⟨rfl, by unfold cutφ; rw [if_neg (by omega)], ⟨A, rfl⟩, rfl⟩⟩
  · obtain ⟨A, rfl⟩ : ∃ A, v = .slice A 0 0 := ⟨none, h.nils_inv⟩
    exact .ro (.rs 0 (fun _ _ => undef) rfl (Nat.le_refl _) (by simp) (by simp))
/-- What is to be shown so that a state says less than another one. -/
theorem weak_ofL {L : Nat} {s s' : St} (m n : Nat) (hm : m = min s.H.length s'.H.length) (hL : min L s.H.length ≤ m) (hn : n = s'.H.length - m) (hT : cvT m n s.T s'.T) (hH : cvH m n s.H s'.H) : Weak P L s s' := by
  intro B w0 X N φ a w hB hrel
  have hlt : ∀ i c, cutφ φ m i = some c → i < m ∧ φ i = some c := fun i c h => by
    unfold cutφ at h
    split at h
    · exact ⟨by assumption, h⟩
    · simp at h
  have hBm : B.H.length ≤ m := by have := hrel.tn.len; omega
  have hcut : ∀ i, i < B.H.length → cutφ φ m i = φ i := fun i hi => by simp [cutφ, show i < m by omega]
  refine ⟨cutφ φ m, ⟨hrel.hr.vo, hrel.hr.fr, fun b hb => ⟨(hrel.hr.ext b hb).1, fun i hi => (hrel.hr.ext b hb).2 i (hlt i b hi).2⟩, fun i c hc => ?_, fun i j c hi hj => hrel.hr.inj i j c (hlt i c hi).2 (hlt j c hj).2, fun i b' c hi hc => ?_⟩, ⟨hrel.tn.size, by omega, fun b hb hl => ?_, fun i t cs' hi hb' => ?_, fun i e nb rows' hi hb' => ?_, fun i es' hi hb' => ?_⟩, fun k => (hrel.t k).cv hm hn hH (cvT_get hT k), hrel.size, hrel.df⟩
  · obtain ⟨h1, h2⟩ := hlt i c hc
    exact ⟨(hrel.hr.own i c h2).1, (hrel.hr.own i c h2).2.1, by omega⟩
  · obtain ⟨h1, h2⟩ := hlt i c hc
    rcases cvH_get hH i b' hi with ⟨b, h3, h4⟩ | ⟨h3, _⟩
    · have hok := hrel.hr.blk i b c h3 h2
      cases b' with
      | gone => trivial
      | box t' cs' =>
        cases b with
        | box t cs =>
          obtain ⟨rfl, hcs⟩ := h4
          obtain ⟨k1, k2⟩ := cvL_get hcs
          obtain ⟨cur, q1, q2, q3⟩ := hok
          refine ⟨cur, q1, by omega, fun j x' v hx' hv => ?_⟩
          obtain ⟨x, r1, r2⟩ := k2 j x' hx'
          exact ⟨(q3 j x v r1 hv).1.cv hm hn hH r2, (q3 j x v r1 hv).2⟩
        | _ => exact h4.elim
      | row e' nb' rows' =>
        cases b with
        | row e nb rows =>
          obtain ⟨rfl, rfl, rfl, hr⟩ := h4
          obtain ⟨cur, q1, q2, q3, q4⟩ := hok
          refine ⟨cur, q1, q2, q3, fun i' j row x v h5 h6 h7 => ⟨(q4 i' j row x v h5 h6 h7).1.cut hm hH ?_, (q4 i' j row x v h5 h6 h7).2⟩⟩
          simp only [refsR, List.all_eq_true] at hr
          exact hr row (List.mem_of_getElem? h5) x (List.mem_of_getElem? h6)
        | _ => exact h4.elim
      | map es' =>
        cases b with
        | map es =>
          obtain ⟨rfl, hr⟩ := h4
          obtain ⟨ents, clock, q1, q2, q3, q4, q5⟩ := hok
          refine ⟨ents, clock, q1, q2, q3, q4, fun i' k x ent h5 h6 => ?_⟩
          simp only [refsM, List.all_eq_true, Bool.and_eq_true] at hr
          have := hr (k, x) (List.mem_of_getElem? h5)
          exact ⟨(q5 i' k x ent h5 h6).1.cut hm hH this.1, (q5 i' k x ent h5 h6).2.cut hm hH this.2⟩
        | _ => exact h4.elim
    · omega
  · obtain ⟨h1, h2⟩ := hrel.tn.old b hb hl
    exact ⟨h1, fun i hi => h2 i (hlt i b hi).2⟩
  · rcases cvH_get hH i _ hb' with ⟨b, h3, h4⟩ | ⟨h3, _⟩
    · cases b with
      | box t' cs =>
        obtain ⟨rfl, _⟩ := h4
        obtain ⟨cs0, k1, k2⟩ := hrel.tn.box i _ cs hi h3
        exact ⟨cs0, k1, fun c hc => by rw [hcut i hi]; exact k2 c hc⟩
      | _ => exact h4.elim
    · omega
  · rcases cvH_get hH i _ hb' with ⟨b, h3, h4⟩ | ⟨h3, _⟩
    · cases b with
      | row e' nb' rows =>
        obtain ⟨rfl, rfl, rfl, _⟩ := h4
        obtain ⟨r0, k1, k2, k3⟩ := hrel.tn.row i _ _ _ hi h3
        exact ⟨r0, k1, k2, fun hl => by rw [hcut i hi]; exact k3 hl⟩
      | _ => exact h4.elim
    · omega
  · rcases cvH_get hH i _ hb' with ⟨b, h3, h4⟩ | ⟨h3, _⟩
    · cases b with
      | map es =>
        obtain ⟨rfl, _⟩ := h4
        obtain ⟨e0, k1, k2⟩ := hrel.tn.map i _ hi h3
        exact ⟨e0, k1, fun c hc => by rw [hcut i hi]; exact k2 c hc⟩
      | _ => exact h4.elim
    · omega
theorem weak_of {s s' : St} (m n : Nat) (hm : m = min s.H.length s'.H.length) (hn : n = s'.H.length - m) (hT : cvT m n s.T s'.T) (hH : cvH m n s.H s'.H) : Weak P 0 s s' := weak_ofL m n hm (by simp) hn hT hH
end
end Go.Proofs.Ytnldjmokemgaoaa
