/- Lives of instances, in plain words: each Complete event ends one instance; events of another case change nothing. -/
import Derived.Test.YtpgoefakhecdnaaInsU
namespace Go.Proofs.Ytpgoefakhecdnaa
set_option linter.unusedSimpArgs false
set_option linter.unusedVariables false
set_option linter.unnecessarySimpa false
set_option linter.unusedSectionVars false
open Go.RowKit
variable [Glob]
set_option maxRecDepth 100000
/-! Each Complete event ends an instance. -/
def goodI (all : List Evt) (e : Evt) (y : Ins) : Prop := insV y = true ∧ y.case_ = e.case_ ∧ y.act = e.act ∧ y.res = e.res ∧ y.to_ = e.time ∧ ∃ w ∈ all, w.case_ = y.case_ ∧ w.act = y.act ∧ w.time = y.ready
def okRun (all : List Evt) : List Evt → List Ins → Prop
  | [], x => x = []
  | e :: r, x => if e.life = 5 then ∃ y x', x = y :: x' ∧ goodI all e y ∧ okRun all r x' else okRun all r x
def ascE : List Evt → Prop
  | [] => True
  | e :: r => (∀ w ∈ r, e.time ≤ w.time) ∧ ascE r
theorem logV_len {l : List Evt} (h : logV l = true) : l.length ≤ 2000 := log_len h
theorem logV_ok {l : List Evt} (h : logV l = true) : evsOk l l.length := by
  unfold logV at h
  simp only [Bool.and_eq_true, decide_eq_true_eq] at h
  exact h.2
theorem evOk_ev {l : List Evt} {i : Nat} {e : Evt} (h : evOk l i e = true) : eventV e = true := by
  unfold evOk at h
  simp only [Bool.and_eq_true] at h
  exact h.1
theorem logV_ev {l : List Evt} (h : logV l = true) : ∀ e ∈ l, eventV e = true := fun e he => by
  obtain ⟨i, hi, rfl⟩ := List.getElem_of_mem he
  exact evOk_ev (logV_ok h i hi hi)
theorem asc_adj : ∀ {l : List Evt}, (∀ (i : Nat) (h : i + 1 < l.length), l[i].time ≤ l[i + 1].time) → ascE l := by
  intro l
  induction l with
  | nil => intro _; trivial
  | cons e r ih =>
    intro h
    have hr := ih fun i hi => h (i + 1) (by simpa using hi)
    refine ⟨fun w hw => ?_, hr⟩
    cases r with
    | nil => cases hw
    | cons f s =>
      have h0 := h 0 (by simp)
      simp only [List.getElem_cons_zero, List.getElem_cons_succ] at h0
      rcases List.mem_cons.1 hw with rfl | hw
      · exact h0
      · exact Int.le_trans h0 (hr.1 w hw)
theorem adj_asc : ∀ {l : List Evt}, ascE l → ∀ (i : Nat) (h : i + 1 < l.length), l[i].time ≤ l[i + 1].time := by
  intro l
  induction l with
  | nil => intro _ i h; simp at h
  | cons e r ih =>
    intro h i hi
    cases i with
    | zero => simpa using h.1 _ (List.getElem_mem (by simpa using hi))
    | succ i => simpa using ih h.2 i (by simpa using hi)
theorem logV_asc {l : List Evt} (h : logV l = true) : ascE l := asc_adj fun i hi => by
  have := logV_ok h (i + 1) hi hi
  unfold evOk at this
  simp only [Nat.add_sub_cancel, Bool.and_eq_true] at this
  rw [List.getElem?_eq_getElem (by omega)] at this
  simp at this
  omega
theorem logV_of {l : List Evt} (h1 : l.length ≤ 2000) (h2 : ∀ e ∈ l, eventV e = true) (h3 : ascE l) : logV l = true := by
  unfold logV
  simp only [Bool.and_eq_true, decide_eq_true_eq]
  refine ⟨by omega, fun i hi _ => ?_⟩
  unfold evOk
  rw [h2 _ (List.getElem_mem hi), Bool.true_and]
  cases i with
  | zero => cases l[0 - 1]? <;> simp
  | succ i =>
    rw [Nat.add_sub_cancel, List.getElem?_eq_getElem (by omega)]
    have := adj_asc h3 i hi
    simp
    omega
theorem eventV_bd {e : Evt} (h : eventV e = true) : isNameS e.case_ = true ∧ isNameS e.act = true ∧ (emptyS e.res || isNameS e.res) = true ∧ 1 ≤ e.life ∧ e.life ≤ 6 ∧ 0 ≤ e.time ∧ e.time ≤ 1099511627776 := by
  unfold eventV at h
  simp only [Bool.and_eq_true, decide_eq_true_eq] at h
  obtain ⟨⟨⟨⟨⟨⟨⟨⟨a, b⟩, c⟩, d⟩, e⟩, f⟩, g⟩, _⟩, _⟩ := h
  exact ⟨a, b, c, d, e, f, g⟩
/-- What is open at a time. -/
def opOk (all : List Evt) (k : Ky) (T : Int) (L : List Xc) : Prop := ∀ x ∈ L, 0 ≤ x.rd ∧ x.rd ≤ x.fr ∧ x.fr ≤ T ∧ ∃ w ∈ all, kyE w = k ∧ w.time = x.rd
theorem opOk.mono {all : List Evt} {k : Ky} {T T' : Int} {L : List Xc} (h : opOk all k T L) (hT : T ≤ T') : opOk all k T' L := fun x hx => by
  obtain ⟨a, b, c, d⟩ := h x hx
  exact ⟨a, b, by omega, d⟩
theorem exA_mem {L : List Xc} {n : Nat} (h : n < L.length) : exA L n ∈ L := by
  unfold exA
  rw [List.getD_eq_getElem?_getD, List.getElem?_eq_getElem h]
  exact List.getElem_mem h
theorem takeL_open {all : List Evt} {e : Evt} {L L' : List Xc} {x : Option Xc} (he : e ∈ all) (hV : eventV e = true) (h : opOk all (kyE e) e.time L) (ht : takeL e L = some (L', x)) :
    opOk all (kyE e) e.time L' ∧ (e.life = 5 → ∃ y, x = some y ∧ goodI all e (insOf e y)) ∧ (e.life ≠ 5 → x = none) := by
  obtain ⟨v1, v2, v3, v4, v5, v6, v7⟩ := eventV_bd hV
  have new : ∀ s : Int, opOk all (kyE e) e.time [⟨s, e.time, e.time⟩] := fun s x hx => by
    simp at hx; subst hx
    exact ⟨v6, Int.le_refl _, Int.le_refl _, e, he, rfl, rfl⟩
  have app : ∀ y, opOk all (kyE e) e.time [y] → opOk all (kyE e) e.time (L ++ [y]) := fun y hy x hx => by
    rcases List.mem_append.1 hx with hx | hx
    · exact h x hx
    · exact hy x hx
  have set_ : ∀ n y, opOk all (kyE e) e.time [y] → opOk all (kyE e) e.time (L.set n y) := fun n y hy x hx => by
    rcases List.mem_or_eq_of_mem_set hx with hx | rfl
    · exact h x hx
    · exact hy _ (by simp)
  have era : ∀ n, opOk all (kyE e) e.time (L.eraseIdx n) := fun n x hx => h x (List.mem_of_mem_eraseIdx hx)
  have good : ∀ y : Xc, opOk all (kyE e) e.time [y] → goodI all e (insOf e y) := fun y hy => by
    obtain ⟨a, b, c, w, hw, hk, hwt⟩ := hy y (by simp)
    have hk2 : w.case_ = e.case_ ∧ w.act = e.act := by simpa [kyE] using hk
    refine ⟨?_, rfl, rfl, rfl, rfl, w, hw, hk2.1, hk2.2, hwt⟩
    simp [insV, insOf, v1, v2, v3, a, b, c, v7]
  unfold takeL at ht
  by_cases c1 : e.life = 1
  · rw [if_pos c1] at ht
    simp only [Option.some.injEq, Prod.mk.injEq] at ht
    obtain ⟨rfl, rfl⟩ := ht
    exact ⟨app _ (new 1), fun q => by omega, fun _ => rfl⟩
  rw [if_neg c1] at ht
  by_cases c2 : e.life = 2
  · rw [if_pos c2] at ht
    cases hn : fstX 1 L with
    | none =>
      rw [hn] at ht
      simp only [Option.some.injEq, Prod.mk.injEq] at ht
      obtain ⟨rfl, rfl⟩ := ht
      exact ⟨app _ (new 2), fun q => by omega, fun _ => rfl⟩
    | some n =>
      rw [hn] at ht
      simp only [Option.some.injEq, Prod.mk.injEq] at ht
      obtain ⟨rfl, rfl⟩ := ht
      refine ⟨set_ _ _ fun x hx => ?_, fun q => by omega, fun _ => rfl⟩
      simp at hx; subst hx
      obtain ⟨a, b, c, d⟩ := h _ (exA_mem (fst_lt hn))
      exact ⟨a, by simp only; omega, Int.le_refl _, d⟩
  rw [if_neg c2] at ht
  by_cases c3 : e.life = 3
  · rw [if_pos c3] at ht
    cases hn : fstX 2 L with
    | none => rw [hn] at ht; simp at ht
    | some n =>
      rw [hn] at ht
      simp only [Option.some.injEq, Prod.mk.injEq] at ht
      obtain ⟨rfl, rfl⟩ := ht
      refine ⟨set_ _ _ fun x hx => ?_, fun q => by omega, fun _ => rfl⟩
      simp at hx; subst hx
      have := h _ (exA_mem (fst_lt hn))
      exact this
  rw [if_neg c3] at ht
  by_cases c4 : e.life = 4
  · rw [if_pos c4] at ht
    cases hn : fstX 3 L with
    | none => rw [hn] at ht; simp at ht
    | some n =>
      rw [hn] at ht
      simp only [Option.some.injEq, Prod.mk.injEq] at ht
      obtain ⟨rfl, rfl⟩ := ht
      refine ⟨set_ _ _ fun x hx => ?_, fun q => by omega, fun _ => rfl⟩
      simp at hx; subst hx
      have := h _ (exA_mem (fst_lt hn))
      exact this
  rw [if_neg c4] at ht
  by_cases c5 : e.life = 5
  · rw [if_pos c5] at ht
    cases hn : fstX 2 L with
    | some n =>
      rw [hn] at ht
      simp only [Option.some.injEq, Prod.mk.injEq] at ht
      obtain ⟨rfl, rfl⟩ := ht
      refine ⟨era _, fun _ => ⟨_, rfl, good _ fun x hx => ?_⟩, fun q => absurd c5 q⟩
      simp at hx; subst hx
      exact h _ (exA_mem (fst_lt hn))
    | none =>
      rw [hn] at ht
      simp only at ht
      cases hm : fstX 1 L with
      | some n =>
        rw [hm] at ht
        simp only [Option.some.injEq, Prod.mk.injEq] at ht
        obtain ⟨rfl, rfl⟩ := ht
        refine ⟨era _, fun _ => ⟨_, rfl, good _ fun x hx => ?_⟩, fun q => absurd c5 q⟩
        simp at hx; subst hx
        obtain ⟨a, b, c, d⟩ := h _ (exA_mem (fst_lt hm))
        exact ⟨a, by simp only; omega, Int.le_refl _, d⟩
      | none =>
        rw [hm] at ht
        simp only [Option.some.injEq, Prod.mk.injEq] at ht
        obtain ⟨rfl, rfl⟩ := ht
        exact ⟨h, fun _ => ⟨_, rfl, good _ (new 2)⟩, fun q => absurd c5 q⟩
  rw [if_neg c5] at ht
  by_cases c6 : e.life = 6
  · rw [if_pos c6] at ht
    cases hL : L with
    | nil => rw [hL] at ht; simp at ht
    | cons y r =>
      rw [hL] at ht
      simp only [Option.some.injEq, Prod.mk.injEq] at ht
      obtain ⟨rfl, rfl⟩ := ht
      exact ⟨fun x hx => h x (by rw [hL]; simp [hx]), fun q => absurd q c5, fun _ => rfl⟩
  rw [if_neg c6] at ht
  simp only [Option.some.injEq, Prod.mk.injEq] at ht
  obtain ⟨rfl, rfl⟩ := ht
  exact ⟨h, fun q => absurd q c5, fun _ => rfl⟩
theorem run_ok {all : List Evt} : ∀ (r : List Evt) (f : Of) (out x : List Ins), (∀ e ∈ r, e ∈ all ∧ eventV e = true) → ascE r → (∀ e ∈ r, ∀ k, opOk all k e.time (f k)) → runI f out r = (x, 0) → ∃ x', x = out ++ x' ∧ okRun all r x' := by
  intro r
  induction r with
  | nil => intro f out x _ _ _ h; simp [runI] at h; exact ⟨[], by simp [h], rfl⟩
  | cons e r ih =>
    intro f out x hm ha hf h
    rw [runI] at h
    obtain ⟨he, hV⟩ := hm e (by simp)
    cases ht : takeL e (f (kyE e)) with
    | none => rw [ht] at h; simp at h
    | some q =>
      obtain ⟨L, y⟩ := q
      rw [ht] at h
      simp only at h
      obtain ⟨h1, h2, h3⟩ := takeL_open he hV (hf e (by simp) _) ht
      obtain ⟨x', rfl, hx'⟩ := ih _ _ _ (fun w hw => hm w (by simp [hw])) ha.2 (fun w hw k => by
        have hT := ha.1 w hw
        unfold updF
        split
        · rename_i hk; rw [hk]; exact h1.mono hT
        · exact (hf e (by simp) k).mono hT) h
      by_cases c5 : e.life = 5
      · obtain ⟨z, rfl, hz⟩ := h2 c5
        refine ⟨insOf e z :: x', by simp [outE], ?_⟩
        rw [okRun, if_pos c5]
        exact ⟨_, _, rfl, hz, hx'⟩
      · rw [h3 c5]
        refine ⟨x', by simp [outE], ?_⟩
        rw [okRun, if_neg c5]
        exact hx'
theorem inst_okRun {l : List Evt} {x : List Ins} (h : instL l = (x, 0)) : logV l = true ∧ okRun l l x := by
  unfold instL at h
  split at h
  · rename_i hV
    refine ⟨hV, ?_⟩
    obtain ⟨x', rfl, h2⟩ := run_ok (all := l) l (fun _ => []) [] x (fun e he => ⟨he, logV_ev hV e he⟩) (logV_asc hV) (fun _ _ _ _ hx => by cases hx) h
    simpa using h2
  · simp at h
theorem run_bad : ∀ (l : List Evt) (f : Of) (out : List Ins), (runI f out l).2 = 0 ∨ runI f out l = ([], 20) := by
  intro l
  induction l with
  | nil => intro f out; exact .inl rfl
  | cons e r ih =>
    intro f out
    rw [runI]
    split
    · exact .inr rfl
    · exact ih _ _
theorem inst_bad (l : List Evt) (h : (instL l).2 ≠ 0) : (instL l).1 = [] := by
  unfold instL at h ⊢
  split
  · rename_i hV
    rw [if_pos hV] at h
    rcases run_bad l (fun _ => []) [] with q | q
    · exact absurd q h
    · rw [q]
  · rfl
/-! Another case's events. -/
def apB : ByteArray := ⟨#[97, 112, 97, 114, 116]⟩
def apE (e : Evt) : Evt := { e with case_ := apB }
/-- Two logs, merged by time; those of the second are put into a case of their own. -/
def mgE : List Evt → List Evt → List Evt
  | [], o => o.map apE
  | v :: r, [] => v :: mgE r []
  | v :: r, w :: o => if w.time < v.time then apE w :: mgE (v :: r) o else v :: mgE r (w :: o)
termination_by l o => l.length + o.length
theorem mg_mem {P : Evt → Prop} : ∀ (n : Nat) (l o : List Evt), l.length + o.length = n → (∀ e ∈ l, P e) → (∀ e ∈ o, P (apE e)) → ∀ e ∈ mgE l o, P e := by
  intro n
  induction n with
  | zero => intro l o hn _ _ e he; rw [List.length_eq_zero_iff.1 (by omega : l.length = 0), List.length_eq_zero_iff.1 (by omega : o.length = 0)] at he; simp [mgE] at he
  | succ n ih =>
    intro l o hn h1 h2 e he
    cases l with
    | nil =>
      rw [mgE] at he
      obtain ⟨w, hw, rfl⟩ := List.mem_map.1 he
      exact h2 w hw
    | cons v r =>
      cases o with
      | nil =>
        rw [mgE] at he
        rcases List.mem_cons.1 he with rfl | he
        · exact h1 _ (by simp)
        · exact ih r [] (by simp at hn ⊢; omega) (fun x hx => h1 x (by simp [hx])) (fun x hx => by cases hx) e he
      | cons w o =>
        rw [mgE] at he
        split at he
        · rcases List.mem_cons.1 he with rfl | he
          · exact h2 _ (by simp)
          · exact ih (v :: r) o (by simp at hn ⊢; omega) h1 (fun x hx => h2 x (by simp [hx])) e he
        · rcases List.mem_cons.1 he with rfl | he
          · exact h1 _ (by simp)
          · exact ih r (w :: o) (by simp at hn ⊢; omega) (fun x hx => h1 x (by simp [hx])) h2 e he
theorem mg_len : ∀ (n : Nat) (l o : List Evt), l.length + o.length = n → (mgE l o).length = n := by
  intro n
  induction n with
  | zero => intro l o hn; rw [List.length_eq_zero_iff.1 (by omega : l.length = 0), List.length_eq_zero_iff.1 (by omega : o.length = 0)]; simp [mgE]
  | succ n ih =>
    intro l o hn
    cases l with
    | nil => rw [mgE, List.length_map]; simpa using hn
    | cons v r =>
      cases o with
      | nil => rw [mgE, List.length_cons, ih r [] (by simp at hn ⊢; omega)]
      | cons w o =>
        rw [mgE]
        split
        · rw [List.length_cons, ih (v :: r) o (by simp at hn ⊢; omega)]
        · rw [List.length_cons, ih r (w :: o) (by simp at hn ⊢; omega)]
theorem mg_asc : ∀ (n : Nat) (l o : List Evt), l.length + o.length = n → ascE l → ascE o → ascE (mgE l o) := by
  intro n
  induction n with
  | zero => intro l o hn _ _; rw [List.length_eq_zero_iff.1 (by omega : l.length = 0), List.length_eq_zero_iff.1 (by omega : o.length = 0)]; simp [mgE, ascE]
  | succ n ih =>
    intro l o hn h1 h2
    have hmap : ∀ o : List Evt, ascE o → ascE (o.map apE) := by
      intro o
      induction o with
      | nil => intro _; trivial
      | cons w o ih2 => intro h; exact ⟨fun x hx => by obtain ⟨y, hy, rfl⟩ := List.mem_map.1 hx; exact h.1 y hy, ih2 h.2⟩
    cases l with
    | nil => rw [mgE]; exact hmap o h2
    | cons v r =>
      cases o with
      | nil =>
        rw [mgE]
        refine ⟨fun x hx => ?_, ih r [] (by simp at hn ⊢; omega) h1.2 trivial⟩
        exact mg_mem (P := fun x => v.time ≤ x.time) _ r [] rfl h1.1 (fun y hy => by cases hy) x hx
      | cons w o =>
        rw [mgE]
        split
        · rename_i hlt
          refine ⟨fun x hx => ?_, ih (v :: r) o (by simp at hn ⊢; omega) h1 h2.2⟩
          refine mg_mem (P := fun x => w.time ≤ x.time) _ (v :: r) o rfl (fun y hy => ?_) (fun y hy => h2.1 y hy) x hx
          rcases List.mem_cons.1 hy with rfl | hy
          · omega
          · have := h1.1 y hy; omega
        · rename_i hlt
          refine ⟨fun x hx => ?_, ih r (w :: o) (by simp at hn ⊢; omega) h1.2 h2⟩
          refine mg_mem (P := fun x => v.time ≤ x.time) _ r (w :: o) rfl h1.1 (fun y hy => ?_) x hx
          rcases List.mem_cons.1 hy with rfl | hy
          · show v.time ≤ y.time; omega
          · have := h2.1 y hy; show v.time ≤ y.time; omega
def ownE (e : Evt) : Bool := decide (e.case_ ≠ apB)
def ownI (y : Ins) : Bool := decide (y.case_ ≠ apB)
theorem mg_own : ∀ (n : Nat) (l o : List Evt), l.length + o.length = n → (∀ e ∈ l, ownE e = true) → (mgE l o).filter ownE = l ∧ (mgE l o).filter (fun e => !ownE e) = o.map apE := by
  have ha : ∀ e, ownE (apE e) = false := fun e => by simp [ownE, apE]
  intro n
  induction n with
  | zero => intro l o hn _; rw [List.length_eq_zero_iff.1 (by omega : l.length = 0), List.length_eq_zero_iff.1 (by omega : o.length = 0)]; simp [mgE]
  | succ n ih =>
    intro l o hn h1
    cases l with
    | nil =>
      rw [mgE]
      exact ⟨List.filter_eq_nil_iff.2 fun x hx => by obtain ⟨y, _, rfl⟩ := List.mem_map.1 hx; simp [ha], List.filter_eq_self.2 fun x hx => by obtain ⟨y, _, rfl⟩ := List.mem_map.1 hx; simp [ha]⟩
    | cons v r =>
      have hv := h1 v (by simp)
      cases o with
      | nil =>
        obtain ⟨a, b⟩ := ih r [] (by simp at hn ⊢; omega) fun x hx => h1 x (by simp [hx])
        rw [mgE]
        simp only [List.filter_cons, hv, Bool.not_true, Bool.false_eq_true, if_true, if_false, a, b]
        exact ⟨trivial, trivial⟩
      | cons w o =>
        rw [mgE]
        split
        · obtain ⟨a, b⟩ := ih (v :: r) o (by simp at hn ⊢; omega) h1
          simp only [List.filter_cons, ha, Bool.not_false, Bool.false_eq_true, if_true, if_false, List.map_cons] at a b ⊢
          exact ⟨a, by rw [b]⟩
        · obtain ⟨a, b⟩ := ih r (w :: o) (by simp at hn ⊢; omega) fun x hx => h1 x (by simp [hx])
          simp only [List.filter_cons, hv, Bool.not_true, Bool.false_eq_true, if_true, if_false, a, b]
          exact ⟨trivial, trivial⟩
theorem outE_own {e : Evt} {x : Option Xc} : (outE e x).filter ownI = if ownE e = true then outE e x else [] := by
  unfold outE
  cases x with
  | none => simp
  | some x =>
    by_cases h : e.case_ = apB <;> simp [ownI, ownE, insOf, h]
/-- The events of two kinds of keys go their own ways. -/
theorem run_split : ∀ (M : List Evt) (f f1 f2 : Of) (out out1 out2 : List Ins) (x z : List Ins), (∀ k : Ky, k.1 ≠ apB → f k = f1 k) → (∀ k : Ky, k.1 = apB → f k = f2 k) →
    runI f1 out1 (M.filter ownE) = (out1 ++ x, 0) → runI f2 out2 (M.filter fun e => !ownE e) = (out2 ++ z, 0) → ∃ y, runI f out M = (out ++ y, 0) ∧ y.filter ownI = x ∧ y.length = x.length + z.length := by
  intro M
  induction M with
  | nil =>
    intro f f1 f2 out out1 out2 x z _ _ h1 h2
    simp [runI] at h1 h2
    subst h1 h2
    exact ⟨[], by simp [runI], by simp, by simp⟩
  | cons e r ih =>
    intro f f1 f2 out out1 out2 x z hf1 hf2 h1 h2
    by_cases he : ownE e = true
    · have hne : (kyE e).1 ≠ apB := by simpa [ownE, kyE] using he
      simp only [List.filter_cons, he, if_true, Bool.not_true, Bool.false_eq_true, if_false] at h1 h2
      rw [runI] at h1 ⊢
      rw [hf1 _ hne]
      cases ht : takeL e (f1 (kyE e)) with
      | none => rw [ht] at h1; simp at h1
      | some q =>
        obtain ⟨L, w⟩ := q
        rw [ht] at h1
        simp only at h1 ⊢
        obtain ⟨x2, hx2⟩ : ∃ x2, x = outE e w ++ x2 := by
          have key : ∀ (l : List Evt) (g : Of) (o : List Ins) (u : List Ins), runI g o l = (u, 0) → ∃ v, u = o ++ v := by
            intro l
            induction l with
            | nil => intro g o u h; simp [runI] at h; exact ⟨[], by simp [h]⟩
            | cons e2 l ihl =>
              intro g o u h
              rw [runI] at h
              split at h
              · simp at h
              · obtain ⟨v, hv⟩ := ihl _ _ _ h
                exact ⟨_, by rw [hv, List.append_assoc]⟩
          obtain ⟨v, hv⟩ := key _ _ _ _ h1
          rw [List.append_assoc] at hv
          exact ⟨v, List.append_cancel_left hv⟩
        subst hx2
        rw [← List.append_assoc] at h1
        obtain ⟨y, hy1, hy2, hy3⟩ := ih (updF f (kyE e) L) (updF f1 (kyE e) L) f2 (out ++ outE e w) (out1 ++ outE e w) out2 x2 z (fun k hk => by unfold updF; split; rfl; exact hf1 k hk) (fun k hk => by
          unfold updF
          split
          · rename_i q; exact absurd (q ▸ hk) hne
          · exact hf2 k hk) h1 h2
        refine ⟨outE e w ++ y, by rw [hy1, List.append_assoc], ?_, by simp only [List.length_append, hy3]; omega⟩
        rw [List.filter_append, hy2, outE_own, if_pos he]
    · have he : ownE e = false := by simpa using he
      have hne : (kyE e).1 = apB := by simpa [ownE, kyE] using he
      simp only [List.filter_cons, he, if_true, Bool.not_false, Bool.false_eq_true, if_false] at h1 h2
      rw [runI] at h2 ⊢
      rw [hf2 _ hne]
      cases ht : takeL e (f2 (kyE e)) with
      | none => rw [ht] at h2; simp at h2
      | some q =>
        obtain ⟨L, w⟩ := q
        rw [ht] at h2
        simp only at h2 ⊢
        obtain ⟨z2, hz2⟩ : ∃ z2, z = outE e w ++ z2 := by
          have key : ∀ (l : List Evt) (g : Of) (o : List Ins) (u : List Ins), runI g o l = (u, 0) → ∃ v, u = o ++ v := by
            intro l
            induction l with
            | nil => intro g o u h; simp [runI] at h; exact ⟨[], by simp [h]⟩
            | cons e2 l ihl =>
              intro g o u h
              rw [runI] at h
              split at h
              · simp at h
              · obtain ⟨v, hv⟩ := ihl _ _ _ h
                exact ⟨_, by rw [hv, List.append_assoc]⟩
          obtain ⟨v, hv⟩ := key _ _ _ _ h2
          rw [List.append_assoc] at hv
          exact ⟨v, List.append_cancel_left hv⟩
        subst hz2
        rw [← List.append_assoc] at h2
        obtain ⟨y, hy1, hy2, hy3⟩ := ih (updF f (kyE e) L) f1 (updF f2 (kyE e) L) (out ++ outE e w) out1 (out2 ++ outE e w) x z2 (fun k hk => by
          unfold updF
          split
          · rename_i q; exact absurd hne (q ▸ hk)
          · exact hf1 k hk) (fun k hk => by unfold updF; split; rfl; exact hf2 k hk) h1 h2
        refine ⟨outE e w ++ y, by rw [hy1, List.append_assoc], ?_, by simp only [List.length_append, hy3]; omega⟩
        rw [List.filter_append, hy2, outE_own, if_neg (by simp [he]), List.nil_append]
/-- One case's events, under another name. -/
theorem run_apart {c0 : ByteArray} : ∀ (o : List Evt) (f f' : Of) (out out' z : List Ins), (∀ a, f' (apB, a) = f (c0, a)) → (∀ e ∈ o, e.case_ = c0) → runI f out o = (out ++ z, 0) → ∃ z', runI f' out' (o.map apE) = (out' ++ z', 0) ∧ z'.length = z.length := by
  intro o
  induction o with
  | nil => intro f f' out out' z _ _ h; simp [runI] at h; exact ⟨[], by simp [runI], by simp [h]⟩
  | cons e r ih =>
    intro f f' out out' z hf hc h
    have hk : kyE e = (c0, e.act) := by rw [← hc e (by simp)]; rfl
    have hk' : kyE (apE e) = (apB, e.act) := rfl
    rw [List.map_cons, runI]
    rw [runI] at h
    rw [hk', hf, show takeL (apE e) = takeL e from rfl]
    rw [hk] at h
    cases ht : takeL e (f (c0, e.act)) with
    | none => rw [ht] at h; simp at h
    | some q =>
      obtain ⟨L, w⟩ := q
      rw [ht] at h
      simp only at h ⊢
      have hlen : (outE (apE e) w).length = (outE e w).length := by unfold outE; cases w <;> rfl
      obtain ⟨z2, hz2⟩ : ∃ z2, z = outE e w ++ z2 := by
        have key : ∀ (l : List Evt) (g : Of) (o : List Ins) (u : List Ins), runI g o l = (u, 0) → ∃ v, u = o ++ v := by
          intro l
          induction l with
          | nil => intro g o u h; simp [runI] at h; exact ⟨[], by simp [h]⟩
          | cons e2 l ihl =>
            intro g o u h
            rw [runI] at h
            split at h
            · simp at h
            · obtain ⟨v, hv⟩ := ihl _ _ _ h
              exact ⟨_, by rw [hv, List.append_assoc]⟩
        obtain ⟨v, hv⟩ := key _ _ _ _ h
        rw [List.append_assoc] at hv
        exact ⟨v, List.append_cancel_left hv⟩
      subst hz2
      rw [← List.append_assoc] at h
      obtain ⟨z', hz1, hz3⟩ := ih (updF f (c0, e.act) L) (updF f' (apB, e.act) L) (out ++ outE e w) (out' ++ outE (apE e) w) z2 (fun a => by
        unfold updF
        by_cases q : a = e.act
        · subst q; simp
        · have h1 : ¬ (apB, a) = (apB, e.act) := by simp [q]
          have h2 : ¬ (c0, a) = (c0, e.act) := by simp [q]
          rw [if_neg h1, if_neg h2]; exact hf a) (fun x hx => hc x (by simp [hx])) h
      exact ⟨outE (apE e) w ++ z', by rw [hz1, List.append_assoc], by simp only [List.length_append, hz3, hlen]⟩
theorem ap_name : isNameS apB = true := by decide +kernel
theorem apE_ok {e : Evt} (h : eventV e = true) : eventV (apE e) = true := by
  unfold eventV at h ⊢
  simp only [Bool.and_eq_true, decide_eq_true_eq] at h ⊢
  obtain ⟨⟨⟨⟨⟨⟨⟨⟨a, b⟩, c⟩, d⟩, e⟩, f⟩, g⟩, i⟩, j⟩ := h
  exact ⟨⟨⟨⟨⟨⟨⟨⟨ap_name, b⟩, c⟩, d⟩, e⟩, f⟩, g⟩, i⟩, j⟩
/-- The law: further cases change nothing. -/
theorem lives_law {l o : List Evt} {x z : List Ins} (hx : instL l = (x, 0)) (hz : instL o = (z, 0)) (hl : l.length ≤ 60) (ho : o.length ≤ 60) (hown : ∀ e ∈ l, ownE e = true) (hs : ∀ e ∈ o, ∀ e' ∈ o, e.case_ = e'.case_) :
    ∃ y, instL (mgE l o) = (y, 0) ∧ y.filter ownI = x ∧ y.length = x.length + z.length := by
  obtain ⟨hlV, _⟩ := inst_okRun hx
  obtain ⟨hoV, _⟩ := inst_okRun hz
  have hlen := mg_len _ l o rfl
  have hM : logV (mgE l o) = true := logV_of (by omega) (mg_mem (P := fun e => eventV e = true) _ l o rfl (logV_ev hlV) fun e he => apE_ok (logV_ev hoV e he)) (mg_asc _ l o rfl (logV_asc hlV) (logV_asc hoV))
  unfold instL at hx hz
  rw [if_pos hlV] at hx
  rw [if_pos hoV] at hz
  obtain ⟨a, b⟩ := mg_own _ l o rfl hown
  obtain ⟨z', hz1, hz2⟩ : ∃ z', runI (fun _ => []) [] (o.map apE) = ([] ++ z', 0) ∧ z'.length = z.length := by
    cases ho : o with
    | nil => rw [ho] at hz; simp [runI] at hz; exact ⟨[], by simp [runI], by rw [← hz]⟩
    | cons e r =>
      rw [← ho]
      exact run_apart (c0 := e.case_) o (fun _ => []) (fun _ => []) [] [] z (fun _ => rfl) (fun w hw => hs w hw e (by rw [ho]; simp)) (by simpa using hz)
  obtain ⟨y, hy1, hy2, hy3⟩ := run_split (mgE l o) (fun _ => []) (fun _ => []) (fun _ => []) [] [] [] x z' (fun _ _ => rfl) (fun _ _ => rfl) (by rw [a]; simpa using hx) (by rw [b]; exact hz1)
  refine ⟨y, ?_, hy2, by rw [hy3, hz2]⟩
  unfold instL
  rw [if_pos hM, hy1, List.nil_append]
end Go.Proofs.Ytpgoefakhecdnaa
