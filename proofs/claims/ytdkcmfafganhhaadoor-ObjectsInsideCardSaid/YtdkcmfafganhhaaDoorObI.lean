/- The log of the components: it is valid, its cases tell the components apart; what the types say of it (plain words). -/
import Derived.Test.YtdkcmfafganhhaaDoorObC
import Derived.Test.YtdkcmfafganhhaaDoorLog
namespace Go.Proofs.YtdkcmfafganhhaaDoor
set_option linter.unusedSimpArgs false
set_option linter.unusedVariables false
set_option linter.unnecessarySimpa false
set_option linter.unusedSectionVars false
open Go.RowKit
variable [Glob]
set_option maxRecDepth 100000
/-! Names of the cases. -/
theorem dec_short : ∀ (k n : Nat), 0 < k → n < 10 ^ k → (Lib.decDigits n).length ≤ k := by
  intro k
  induction k with
  | zero => intro n h; omega
  | succ k ih =>
    intro n _ hn
    by_cases h : n < 10
    · rw [dec_lt h]; simp
    · rw [dec_ge h, List.length_append]
      have hk : 0 < k := by
        cases k with
        | zero => simp at hn; omega
        | succ k => omega
      have := ih (n / 10) hk (by rw [Nat.pow_succ] at hn; omega)
      simp only [List.length_singleton]
      omega
theorem dec_part : ∀ (n : Nat), (Lib.decDigits n).all partC = true := by
  have hd : ∀ d, d < 10 → partC (UInt8.ofNat (48 + d)) = true := fun d h => by
    obtain rfl | rfl | rfl | rfl | rfl | rfl | rfl | rfl | rfl | rfl : d = 0 ∨ d = 1 ∨ d = 2 ∨ d = 3 ∨ d = 4 ∨ d = 5 ∨ d = 6 ∨ d = 7 ∨ d = 8 ∨ d = 9 := by omega
    all_goals decide
  intro n
  induction n using Nat.strongRecOn with
  | _ n ih =>
    by_cases h : n < 10
    · rw [dec_lt h]; simp only [List.all_cons, List.all_nil, Bool.and_true, hd n h]
    · rw [dec_ge h, List.all_append, ih (n / 10) (by omega)]
      simp only [List.all_cons, List.all_nil, Bool.and_true, hd (n % 10) (by omega)]
theorem cB_name {v : Nat} (h : v ≤ 2000) : isNameS (cB v) = true := by
  have hl := dec_short 4 (v + 1) (by omega) (by omega)
  unfold isNameS
  have hs : (cB v).size = (Lib.decDigits (v + 1)).length + 1 := by unfold cB; rw [sb_size]; rfl
  have hd : (cB v).data.toList = 99 :: Lib.decDigits (v + 1) := by unfold cB sb; rfl
  have h0 : (cB v).data[0]?.getD 0 = 99 := by unfold cB sb; simp
  rw [hd, h0, hs]
  simp only [List.all_cons, dec_part, Bool.and_eq_true, decide_eq_true_eq]
  exact ⟨⟨by omega, by decide⟩, by decide, trivial⟩
theorem dig_inj {a b : Nat} (ha : a < 10) (hb : b < 10) (h : UInt8.ofNat (48 + a) = UInt8.ofNat (48 + b)) : a = b := by
  have := congrArg UInt8.toNat h
  simp at this
  omega
theorem dec_pos (n : Nat) : 0 < (Lib.decDigits n).length := by
  by_cases h : n < 10
  · rw [dec_lt h]; simp
  · rw [dec_ge h]; simp
theorem dec_inj : ∀ (n m : Nat), Lib.decDigits n = Lib.decDigits m → n = m := by
  intro n
  induction n using Nat.strongRecOn with
  | _ n ih =>
    intro m h
    by_cases hn : n < 10
    · by_cases hm : m < 10
      · rw [dec_lt hn, dec_lt hm] at h
        exact dig_inj hn hm (by simpa using h)
      · rw [dec_lt hn, dec_ge hm] at h
        have h1 := congrArg List.length h
        have h2 := dec_pos (m / 10)
        simp only [List.length_append, List.length_singleton] at h1
        omega
    · by_cases hm : m < 10
      · rw [dec_ge hn, dec_lt hm] at h
        have h1 := congrArg List.length h
        have h2 := dec_pos (n / 10)
        simp only [List.length_append, List.length_singleton] at h1
        omega
      · rw [dec_ge hn, dec_ge hm] at h
        obtain ⟨h1, h2⟩ := List.append_inj' h rfl
        have e1 := ih (n / 10) (by omega) _ h1
        have e2 := dig_inj (a := n % 10) (b := m % 10) (by omega) (by omega) (by simpa using h2)
        omega
theorem cB_inj {v w : Nat} (h : cB v = cB w) : v = w := by
  unfold cB at h
  have := sb_inj.1 h
  have := dec_inj _ _ (List.cons.inj this).2
  omega
/-! The components' numbers tell them apart. -/
theorem cntF_mono {p : List Nat} {a : Nat} : ∀ d, cntF p a ≤ cntF p (a + d) := by
  intro d
  induction d with
  | zero => exact Nat.le_refl _
  | succ d ih =>
    rw [show a + (d + 1) = a + d + 1 by omega, cntF_succ]
    split <;> omega
theorem cntF_lt {p : List Nat} {a b : Nat} (ha : par p a = a) (h : a < b) : cntF p a < cntF p b := by
  have h1 := cntF_mono (p := p) (a := a + 1) (b - (a + 1))
  rw [cntF_succ, if_pos ha, show a + 1 + (b - (a + 1)) = b by omega] at h1
  omega
section
variable {R : Nat → Nat → Prop} {n : Nat} {p : List Nat}
theorem num_inj (hp : isParts R n p) {i j : Nat} (hi : i < n) (hj : j < n) : numP p i = numP p j ↔ par p i = par p j := by
  unfold numP
  constructor
  · intro h
    rcases Nat.lt_trichotomy (par p i) (par p j) with q | q | q
    · have := cntF_lt (p := p) (par_par hp hi) q; omega
    · exact q
    · have := cntF_lt (p := p) (par_par hp hj) q; omega
  · intro h; rw [h]
/-- The name of an event's case. -/
def KC (p : List Nat) (i : Nat) : ByteArray := cB (numP p i)
theorem kc_conn (hs : ∀ i j, R i j → R j i) (hp : isParts R n p) {i j : Nat} (hi : i < n) (hj : j < n) : KC p i = KC p j ↔ Conn R i j := by
  rw [← parts_conn hs hp hi hj, ← num_inj hp hi hj]
  exact ⟨fun h => cB_inj h, fun h => by unfold KC; rw [h]⟩
end
theorem casN_get {p : List Nat} : ∀ (l : List Obj) (i t : Nat), (casN p i l)[t]? = (l[t]?).map fun o => evN o (numP p (i + t)) := by
  intro l
  induction l with
  | nil => intro i t; rfl
  | cons o r ih =>
    intro i t
    cases t with
    | zero => rfl
    | succ t =>
      rw [casN, List.getElem?_cons_succ, List.getElem?_cons_succ, ih, show i + 1 + t = i + (t + 1) by omega]
theorem casN_at {p : List Nat} {l : List Obj} {i : Nat} (h : i < l.length) : (casN p 0 l)[i]'(by rw [casN_len]; exact h) = evN l[i] (numP p i) := by
  have := casN_get (p := p) l 0 i
  rw [List.getElem?_eq_getElem h, List.getElem?_eq_getElem (by rw [casN_len]; exact h), Nat.zero_add] at this
  exact Option.some.inj this
theorem objI_at {l : List Obj} (h : objV l = true) (i : Nat) (hi : i < l.length) : objOk l i l[i] = true := by
  simp only [objV, objsB, Bool.and_eq_true, List.all_eq_true, List.mem_range] at h
  have := h.2 i hi
  rwa [List.getElem?_eq_getElem hi] at this
theorem objI_ok {l : List Obj} {i : Nat} {o : Obj} (h : objOk l i o = true) : isNameS o.act = true ∧ lastT l i ≤ o.time ∧ o.time ≤ 1099511627776 ∧ refsB o.refs = true := by
  simp only [objOk, Bool.and_eq_true, decide_eq_true_eq] at h
  exact ⟨h.1.1.1.1, h.1.1.1.2, h.1.1.2, h.2⟩
theorem objI_next {l : List Obj} (h : objV l = true) (i : Nat) (hi : i + 1 < l.length) : l[i].time ≤ l[i + 1].time := by
  have := (objI_ok (objI_at h (i + 1) hi)).2.1
  simpa [lastT, List.getElem?_eq_getElem (show i < l.length by omega)] using this
theorem objI_pos {l : List Obj} (h : objV l = true) : ∀ (i : Nat) (hi : i < l.length), 0 ≤ l[i].time := by
  intro i
  induction i with
  | zero => intro hi; exact (objI_ok (objI_at h 0 hi)).2.1
  | succ i ih => intro hi; have := ih (by omega); have := objI_next h i hi; omega
/-- The log of the components is valid. -/
theorem casN_valid {l : List Obj} (h : objV l = true) {p : List Nat} (hp : isParts (shareR l) l.length p) : logV (casN p 0 l) = true := by
  have hln := (objV_small h).1
  unfold logV
  simp only [Bool.and_eq_true, decide_eq_true_eq]
  refine ⟨by rw [casN_len]; omega, fun i hi _ => ?_⟩
  have hi' : i < l.length := by rw [casN_len] at hi; exact hi
  have ho := objI_ok (objI_at h i hi')
  have hpos := objI_pos h i hi'
  have hv : numP p i ≤ 2000 := by have := num_le hp hi'; omega
  rw [casN_at hi']
  have hev : eventV (evN l[i] (numP p i)) = true := by
    have hf : fldsOk ([] : List Fld) 0 := fun i h => by simp at h
    simp [eventV, evN, mkE, cB_name hv, ho.1, hpos, ho.2.2.1, hf, emptyS, ba_toList]
  unfold evOk
  rw [hev, Bool.true_and]
  cases i with
  | zero => cases (casN p 0 l)[0 - 1]? <;> simp
  | succ i =>
    have hi2 : i < l.length := by omega
    rw [Nat.add_sub_cancel, casN_get, List.getElem?_eq_getElem hi2]
    have := objI_next h i hi'
    simp [evN, mkE]
    exact decide_eq_false (Int.not_lt.2 this)
/-! Counting the events of a case. -/
def cntK (p : List Nat) (i : Nat) (c : ByteArray) : Nat := ((List.range i).filter fun j => decide (KC p j = c)).length
theorem cntK_succ {p : List Nat} {i : Nat} {c : ByteArray} : cntK p (i + 1) c = cntK p i c + if KC p i = c then 1 else 0 := by
  unfold cntK
  rw [List.range_succ, List.filter_append, List.length_append]
  by_cases h : KC p i = c <;> simp [h]
theorem cntK_le {p : List Nat} {c : ByteArray} : ∀ i, cntK p i c ≤ i := by
  intro i
  induction i with
  | zero => exact Nat.le_refl _
  | succ i ih => rw [cntK_succ]; split <;> omega
theorem cntK_one {p : List Nat} {n t : Nat} (h : ∀ j, j < n → KC p j = KC p t → j = t) : ∀ i, i ≤ n → cntK p i (KC p t) = if t < i then 1 else 0 := by
  intro i
  induction i with
  | zero => intro _; rfl
  | succ i ih =>
    intro hi
    rw [cntK_succ, ih (by omega)]
    by_cases e : KC p i = KC p t
    · have := h i (by omega) e
      subst this
      rw [if_pos rfl, if_neg (by omega), if_pos (by omega)]
    · rw [if_neg e]
      have : i ≠ t := fun q => e (by rw [q])
      by_cases q : t < i
      · rw [if_pos q, if_pos (by omega)]
      · rw [if_neg q, if_neg (by omega)]
/-- An event without references is a component of its own. -/
theorem alone_one {l : List Obj} {p : List Nat} (hp : isParts (shareR l) l.length p) {t : Nat} (ht : t < l.length) (hr : l[t].refs = []) : cntK p l.length (KC p t) = 1 := by
  have key : ∀ j, j < l.length → KC p j = KC p t → j = t := fun j hj e => by
    have hc := (kc_conn (shareR_symm l) hp ht hj).1 e.symm
    cases hc with
    | refl => rfl
    | step h1 _ =>
      obtain ⟨a, b, q1, _, r, q3, _⟩ := h1
      rw [List.getElem?_eq_getElem ht] at q1
      rw [← Option.some.inj q1, hr] at q3
      cases q3
  rw [cntK_one key l.length (Nat.le_refl _), if_pos ht]
theorem share_same {l : List Obj} {p : List Nat} (hp : isParts (shareR l) l.length p) {i j : Nat} {r : Rf} (hi : i < l.length) (hj : j < l.length) (h1 : r ∈ l[i].refs) (h2 : r ∈ l[j].refs) : KC p i = KC p j :=
  (kc_conn (shareR_symm l) hp hi hj).2 (.one ⟨_, _, List.getElem?_eq_getElem hi, List.getElem?_eq_getElem hj, r, h1, h2⟩)
/-! Types, Relations, Flatten. -/
theorem types_mem {l : List Obj} {s : ByteArray} : s ∈ setB (allT l) ↔ ∃ o ∈ l, ∃ r ∈ o.refs, r.a = s := by
  unfold setB
  rw [(foldl_insB (allT l) [] (by simp [ascB])).2 s]
  simp only [List.not_mem_nil, false_or, allT, List.mem_flatMap, List.mem_map]
theorem flat_nil {l : List Obj} {t : ByteArray} : flatEv l t = [] ↔ ∀ o ∈ l, ∀ r ∈ o.refs, r.a.toList ≠ t.toList := by
  unfold flatEv
  rw [List.flatMap_eq_nil_iff]
  simp only [List.map_eq_nil_iff]
  constructor
  · intro h o ho r hr e
    have := h o ho
    have hm : r ∈ ofL o.refs t := ofL_mem.2 ⟨hr, e⟩
    rw [this] at hm; cases hm
  · intro h o ho
    cases hq : ofL o.refs t with
    | nil => rfl
    | cons r q =>
      have hm : r ∈ ofL o.refs t := by rw [hq]; simp
      obtain ⟨h1, h2⟩ := ofL_mem.1 hm
      exact absurd h2 (h o ho r h1)
theorem toL_iff {x y : ByteArray} : x.toList = y.toList ↔ x = y := ⟨fun h => ba_eq (by rw [ba_toList, ba_toList] at h; exact h), fun h => by rw [h]⟩
/-- No event refers to a type exactly if it is none of the types. -/
theorem types_flat {l : List Obj} {t : ByteArray} : flatEv l t = [] ↔ t ∉ setB (allT l) := by
  rw [flat_nil, types_mem]
  constructor
  · rintro h ⟨o, ho, r, hr, e⟩; exact h o ho r hr (by rw [e])
  · intro h o ho r hr e; exact h ⟨o, ho, r, hr, toL_iff.1 e⟩
def relI (l : List Obj) (act t : ByteArray) (s : Bool × Int × Int) : Prop := (s.1 = false → s.2 = (0, 0)) ∧ 0 ≤ s.2.1 ∧ s.2.1 ≤ s.2.2 ∧ (0 < s.2.2 → ∃ o ∈ l, ofL o.refs t ≠ [])
theorem rel_ok (l : List Obj) (act t : ByteArray) : relI l act t (relR l act t) := by
  have key : ∀ (r : List Obj) (s : Bool × Int × Int), (∀ o ∈ r, o ∈ l) → relI l act t s → relI l act t (r.foldl (relStep act t) s) := by
    intro r
    induction r with
    | nil => intro s _ h; exact h
    | cons o r ih =>
      intro s hr h
      refine ih _ (fun x hx => hr x (by simp [hx])) ?_
      obtain ⟨b, lo, hi⟩ := s
      obtain ⟨h1, h2, h3, h4⟩ := h
      simp only at h1 h2 h3 h4
      unfold relStep
      by_cases ha : o.act.toList = act.toList
      · rw [if_pos ha]
        have hn : (0 : Int) ≤ (ofL o.refs t).length := by omega
        have hpos : (0 : Int) < (ofL o.refs t).length → ofL o.refs t ≠ [] := fun q e => by rw [e] at q; simp at q
        refine ⟨fun q => by simp at q, ?_, ?_, ?_⟩
        · simp only; split <;> omega
        · simp only
          cases b with
          | false =>
            have := h1 rfl
            simp only [Prod.mk.injEq] at this
            simp only [true_or, if_true]
            split <;> omega
          | true =>
            simp only [Bool.true_eq_false, false_or]
            split <;> split <;> omega
        · simp only
          intro q
          split at q
          · exact ⟨o, hr o (by simp), hpos (by omega)⟩
          · exact h4 q
      · rw [if_neg ha]
        exact ⟨h1, h2, h3, h4⟩
  exact key l _ (fun o ho => ho) ⟨fun _ => rfl, by simp, by simp, fun h => by simp at h⟩
theorem rel_out {l : List Obj} {act t : ByteArray} (h : (relOut l act t).2 = 0) : 0 ≤ (relOut l act t).1.1 ∧ (relOut l act t).1.1 ≤ (relOut l act t).1.2 ∧ (0 < (relOut l act t).1.2 → flatEv l t ≠ []) := by
  have hk := rel_ok l act t
  unfold relOut at h ⊢
  split at h
  · rename_i c1
    rw [if_pos c1]
    split at h
    · rename_i c2
      rw [if_pos c2]
      refine ⟨hk.2.1, hk.2.2.1, fun q e => ?_⟩
      obtain ⟨o, ho, hne⟩ := hk.2.2.2 q
      unfold flatEv at e
      rw [List.flatMap_eq_nil_iff] at e
      exact hne (by simpa using e o ho)
    · simp at h
  · simp at h
end Go.Proofs.YtdkcmfafganhhaaDoor
