/- The numbers of the components, in the order in which they appear (plain words; no program). -/
import Derived.Test.YtdkcmfafganhhaaDoorGrD
namespace Go.Proofs.YtdkcmfafganhhaaDoor
set_option linter.unusedSimpArgs false
set_option linter.unusedVariables false
set_option linter.unnecessarySimpa false
set_option linter.unusedSectionVars false
open Go.RowKit
variable [Glob]
set_option maxRecDepth 100000
def cntF (p : List Nat) (i : Nat) : Nat := ((List.range i).filter fun j => decide (par p j = j)).length
theorem cntF_succ {p : List Nat} {i : Nat} : cntF p (i + 1) = if par p i = i then cntF p i + 1 else cntF p i := by
  unfold cntF
  rw [List.range_succ, List.filter_append, List.length_append]
  split <;> rename_i h <;> simp [h]
theorem cntF_le {p : List Nat} : ∀ i, cntF p i ≤ i := by
  intro i
  induction i with
  | zero => exact Nat.le_refl _
  | succ i ih => rw [cntF_succ]; split <;> omega
def numP (p : List Nat) (t : Nat) : Nat := cntF p (par p t)
section
variable {R : Nat → Nat → Prop} {n : Nat} {p : List Nat}
theorem par_lt (hp : isParts R n p) {i : Nat} (hi : i < n) : par p i ≤ i := (hp.2 i hi).1
theorem par_par (hp : isParts R n p) {i : Nat} (hi : i < n) : par p (par p i) = par p i :=
  ((hp.2 i hi).2.2 (par p i) (by have := par_lt hp hi; omega) (hp.2 i hi).2.1).symm
theorem num_le (hp : isParts R n p) {i : Nat} (hi : i < n) : numP p i ≤ i := by
  have := par_lt hp hi
  have := cntF_le (p := p) (par p i)
  unfold numP
  omega
/-- What holds of the groups' numbers on the way. -/
structure NInv (p : List Nat) (i : Nat) (es : List (Int × Nat)) (m : Nat) : Prop where
  len : m = cntF p i
  num : ∀ (v : Nat) (j : Nat), alook es (v : Int) = some j → j = cntF p v
theorem found (hp : isParts R n p) {i j : Nat} (hi : i < n) {es : List (Int × Nat)} {ls : List (List Int)} (g : GInv (nI p) i es ls) (h : NInv p i es ls.length) (hl : alook es (par p i : Int) = some j) :
    par p i ≠ i ∧ j = numP p i ∧ ∀ m, m = ls.length → NInv p (i + 1) es m := by
  have hne : par p i ≠ i := fun e => by
    obtain ⟨t, ht, hq⟩ := g.has _ j hl
    obtain ⟨h1, h2⟩ := nI_get.1 hq
    have := par_lt hp (show t < n by omega)
    omega
  refine ⟨hne, h.num _ _ hl, fun m hm => ⟨?_, h.num⟩⟩
  rw [cntF_succ, if_neg hne, hm]
  exact h.len
theorem fresh_ (hp : isParts R n p) {i : Nat} (hi : i < n) {es : List (Int × Nat)} {ls : List (List Int)} (g : GInv (nI p) i es ls) (h : NInv p i es ls.length) (hl : alook es (par p i : Int) = none) :
    par p i = i ∧ ls.length = numP p i ∧ NInv p (i + 1) (aput es (par p i : Int) ls.length) (ls.length + 1) := by
  have hle := par_lt hp hi
  have he : par p i = i := by
    by_cases e : par p i = i
    · exact e
    · exfalso
      have hlt : par p i < i := by omega
      obtain ⟨j, hj⟩ := g.all (par p i) hlt (par p i : Int) (nI_get.2 ⟨by rw [hp.1]; omega, by rw [par_par hp hi]⟩)
      rw [hl] at hj; cases hj
  refine ⟨he, by unfold numP; rw [he]; exact h.len, ⟨?_, fun v j hv => ?_⟩⟩
  · rw [cntF_succ, if_pos he, h.len]
  · rw [alook_put] at hv
    split at hv
    · rename_i e
      have : v = i := by omega
      subst this
      rw [← Option.some.inj hv]
      exact h.len
    · exact h.num v j hv
/-- The groups on the way, and what they become. -/
def CInv (p : List Nat) (i : Nat) (ls C : List (List Int)) : Prop := ∃ es, GInv (nI p) i es ls ∧ NInv p i es ls.length ∧ compR i ((nI p).drop i) (es, ls) = C
theorem CInv.start : CInv p 0 [] (compR 0 (nI p) ([], [])) := ⟨[], .start, ⟨rfl, fun v j h => by simp [alook_nil] at h⟩, by simp⟩
theorem CInv.step (hp : isParts R n p) {i : Nat} {ls C : List (List Int)} (hi : i < n) (h : CInv p i ls C) :
    (numP p i = ls.length ∧ CInv p (i + 1) (ls ++ [[(i : Int)]]) C) ∨ (numP p i < ls.length ∧ ∃ lj, ls[numP p i]? = some lj ∧ CInv p (i + 1) (ls.set (numP p i) (lj ++ [(i : Int)])) C) := by
  obtain ⟨es, g, hN, hC⟩ := h
  have hil : i < (nI p).length := by simp [nI, hp.1]; exact hi
  have hk : (nI p)[i]? = some (par p i : Int) := nI_get.2 ⟨by rw [hp.1]; exact hi, rfl⟩
  have hke : (nI p)[i] = (par p i : Int) := (List.getElem?_eq_some_iff.1 hk).2
  have hst := g.step hk
  rw [List.drop_eq_getElem_cons hil, hke, compR] at hC
  cases hl : alook es (par p i : Int) with
  | none =>
    obtain ⟨_, h2, h3⟩ := fresh_ hp hi g hN hl
    simp only [compStep, hl] at hst hC
    exact .inl ⟨h2.symm, _, hst, by rw [List.length_append]; exact h3, hC⟩
  | some j =>
    obtain ⟨_, h2, h3⟩ := found hp hi g hN hl
    have hj := g.get _ _ hl
    simp only [compStep, hl] at hst hC
    rw [hj] at hst hC
    simp only [Option.getD_some] at hst hC
    subst h2
    exact .inr ⟨(List.getElem?_eq_some_iff.1 hj).1, _, hj, _, hst, h3 _ (by simp), hC⟩
theorem CInv.fin (hp : isParts R n p) {ls C : List (List Int)} (h : CInv p n ls C) : ls = C := by
  obtain ⟨es, _, _, hC⟩ := h
  rw [List.drop_eq_nil_of_le (by simp [nI, hp.1])] at hC
  exact hC
/-! The numbers of the program's cases: a map from the components' first events. -/
structure MInv (p : List Nat) (i : Nat) (es : List (Int × Nat)) : Prop where
  len : es.length = cntF p i
  num : ∀ (v : Int) (j : Nat), alook es v = some j → ∃ u : Nat, v = (u : Int) ∧ u < i ∧ par p u = u ∧ j = cntF p u + 1
  all : ∀ t, t < i → ∃ j, alook es (par p t : Int) = some j
theorem MInv.start : MInv p 0 [] := ⟨rfl, fun v j h => by simp [alook_nil] at h, fun t h => by omega⟩
theorem MInv.found (hp : isParts R n p) {i j : Nat} (hi : i < n) {es : List (Int × Nat)} (h : MInv p i es) (hl : alook es (par p i : Int) = some j) : j = numP p i + 1 ∧ MInv p (i + 1) es := by
  obtain ⟨u, h1, h2, h3, h4⟩ := h.num _ _ hl
  have hu : u = par p i := by omega
  have hne : par p i ≠ i := by omega
  refine ⟨by rw [h4, hu]; rfl, ⟨by rw [cntF_succ, if_neg hne]; exact h.len, fun v j hv => ?_, fun t ht => ?_⟩⟩
  · obtain ⟨u, a, b, c⟩ := h.num v j hv
    exact ⟨u, a, by omega, c⟩
  · by_cases e : t = i
    · subst e; exact ⟨j, hl⟩
    · exact h.all t (by omega)
theorem MInv.fresh (hp : isParts R n p) {i : Nat} (hi : i < n) {es : List (Int × Nat)} (h : MInv p i es) (hl : alook es (par p i : Int) = none) : es.length = numP p i ∧ MInv p (i + 1) (aput es (par p i : Int) (es.length + 1)) := by
  have hle := par_lt hp hi
  have he : par p i = i := by
    by_cases e : par p i = i
    · exact e
    · exfalso
      obtain ⟨j, hj⟩ := h.all (par p i) (by omega)
      rw [par_par hp hi, hl] at hj; cases hj
  have hf : afind (par p i : Int) es 0 = none := by
    unfold alook at hl
    cases hq : afind (par p i : Int) es 0 with
    | none => rfl
    | some e => rw [hq] at hl; simp at hl
  refine ⟨by rw [h.len]; unfold numP; rw [he], ⟨?_, fun v j hv => ?_, fun t ht => ?_⟩⟩
  · unfold aput
    rw [hf]
    simp only [List.length_append, List.length_singleton]
    rw [cntF_succ, if_pos he, h.len]
  · rw [alook_put] at hv
    split at hv
    · rename_i e
      exact ⟨i, by rw [← e, he], by omega, he, by rw [← Option.some.inj hv, h.len]⟩
    · obtain ⟨u, a, b, c⟩ := h.num v j hv
      exact ⟨u, a, by omega, c⟩
  · rw [alook_put]
    split
    · exact ⟨_, rfl⟩
    · by_cases e : t = i
      · subst e; rename_i q; exact absurd rfl q
      · exact h.all t (by omega)
/-! The reference's numbers: a search from each first event. -/
structure OInv (p : List Nat) (n i next : Nat) (out : List Int) : Prop where
  len : out.length = n
  nxt : next = cntF p i
  at_ : ∀ t, t < n → out[t]? = some (if par p t < i then (numP p t : Int) else -1)
structure WInv (p : List Nat) (n i next : Nat) (out : List Int) (work : List Nat) : Prop where
  len : out.length = n
  nxt : next = cntF p i
  cls : ∀ w ∈ work, w < n ∧ par p w = i
  nd : work.Nodup
  mem : i ∈ work
  at_ : ∀ t, t < n → out[t]? = some (if par p t < i then (numP p t : Int) else if t ∈ work then (next : Int) else -1)
theorem nd_filter : ∀ {l : List Nat} {a : Nat}, l.Nodup → l.length ≤ (l.filter fun x => decide (x ≠ a)).length + 1 := by
  intro l a
  induction l with
  | nil => intro _; simp
  | cons x r ih =>
    intro h
    rw [List.nodup_cons] at h
    by_cases e : x = a
    · subst e
      have : r.filter (fun y => decide (y ≠ x)) = r := List.filter_eq_self.2 fun y hy => by
        have : y ≠ x := fun q => h.1 (q ▸ hy)
        simpa using this
      rw [List.filter_cons, if_neg (by simp), this]
      simp
    · have := ih h.2
      rw [List.filter_cons, if_pos (by simpa using e)]
      simp only [List.length_cons]
      omega
theorem nd_len : ∀ (n : Nat) {l : List Nat}, l.Nodup → (∀ w ∈ l, w < n) → l.length ≤ n := by
  intro n
  induction n with
  | zero =>
    intro l _ h
    cases l with
    | nil => simp
    | cons x r => have := h x (by simp); omega
  | succ n ih =>
    intro l hn h
    have h1 := nd_filter (a := n) hn
    have h2 := ih (hn.filter fun x => decide (x ≠ n)) fun w hw => by
      rw [List.mem_filter] at hw
      have := h w hw.1
      have : w ≠ n := by simpa using hw.2
      omega
    omega
theorem OInv.start : OInv p n 0 0 (List.replicate n (-1)) := ⟨by simp, rfl, fun t ht => by rw [if_neg (Nat.not_lt_zero _)]; simp [ht]⟩
theorem OInv.skip (hp : isParts R n p) {i next : Nat} {out : List Int} (hi : i < n) (h : OInv p n i next out) (hg : par p i < i) : OInv p n (i + 1) next out := by
  refine ⟨h.len, by rw [cntF_succ, if_neg (by omega)]; exact h.nxt, fun t ht => ?_⟩
  rw [h.at_ t ht]
  have : ¬ par p t = i := fun e => by
    have := par_par hp ht
    rw [e] at this
    omega
  by_cases q : par p t < i
  · rw [if_pos q, if_pos (by omega)]
  · rw [if_neg q, if_neg (by omega)]
theorem OInv.enter (hp : isParts R n p) {i next : Nat} {out : List Int} (hi : i < n) (h : OInv p n i next out) (hg : ¬ par p i < i) : WInv p n i next (out.set i (next : Int)) [i] := by
  have hpi : par p i = i := by have := par_lt hp hi; omega
  refine ⟨by simpa using h.len, h.nxt, fun w hw => by simp at hw; subst hw; exact ⟨hi, hpi⟩, by simp, by simp, fun t ht => ?_⟩
  rw [List.getElem?_set]
  by_cases e : i = t
  · subst e
    rw [if_pos rfl, if_pos (by rw [h.len]; exact hi), if_neg (by omega), if_pos (by simp)]
  · rw [if_neg e, h.at_ t ht]
    by_cases q : par p t < i
    · rw [if_pos q, if_pos q]
    · rw [if_neg q, if_neg q, if_neg (by simp; omega)]
theorem WInv.neg {i next : Nat} {out : List Int} {work : List Nat} (h : WInv p n i next out work) {j : Nat} {x : Int} (hj : j < n) (hx : out[j]? = some x) : x < 0 ↔ (¬ par p j < i ∧ j ∉ work) := by
  rw [h.at_ j hj] at hx
  have := (Option.some.inj hx).symm
  subst this
  by_cases q : par p j < i
  · rw [if_pos q]; simp [q] <;> omega
  · rw [if_neg q]
    by_cases q2 : j ∈ work
    · rw [if_pos q2]; simp [q2]
    · rw [if_neg q2]; simp [q, q2]
theorem WInv.add (hs : ∀ i j, R i j → R j i) (hp : isParts R n p) {i next : Nat} {out : List Int} {work : List Nat} (h : WInv p n i next out work) {j w : Nat} (hj : j < n) (hw : w ∈ work) (hR : R w j) (hn : j ∉ work) : WInv p n i next (out.set j (next : Int)) (work ++ [j]) := by
  have hpj : par p j = i := by
    rw [← (h.cls w hw).2]
    exact ((parts_conn hs hp (h.cls w hw).1 hj).2 (.one hR)).symm
  refine ⟨by simpa using h.len, h.nxt, fun v hv => ?_, ?_, by simp [h.mem], fun t ht => ?_⟩
  · rcases List.mem_append.1 hv with hv | hv
    · exact h.cls v hv
    · simp at hv; subst hv; exact ⟨hj, hpj⟩
  · exact List.nodup_append.2 ⟨h.nd, by simp, fun x hx y hy => by simp at hy; subst hy; exact fun e => hn (e ▸ hx)⟩
  · rw [List.getElem?_set]
    by_cases e : j = t
    · subst e
      rw [if_pos rfl, if_pos (by rw [h.len]; exact hj), if_neg (by omega), if_pos (by simp)]
    · rw [if_neg e, h.at_ t ht]
      have : t ∈ work ++ [j] ↔ t ∈ work := by simp; omega
      simp only [this]
theorem WInv.done (hs : ∀ i j, R i j → R j i) (hp : isParts R n p) {i next : Nat} {out : List Int} {work : List Nat} (hi : i < n) (h : WInv p n i next out work) (hRn : ∀ a b, R a b → b < n) (hc : ∀ w ∈ work, ∀ t, t < n → R w t → t ∈ work) : OInv p n (i + 1) (next + 1) out := by
  have hpi : par p i = i := (h.cls i h.mem).2
  refine ⟨h.len, by rw [cntF_succ, if_pos hpi, h.nxt], fun t ht => ?_⟩
  rw [h.at_ t ht]
  by_cases q : par p t < i
  · rw [if_pos q, if_pos (by omega)]
  · rw [if_neg q]
    by_cases q2 : t ∈ work
    · have := (h.cls t q2).2
      rw [if_pos q2, if_pos (by omega), h.nxt]
      unfold numP
      rw [this]
    · rw [if_neg q2, if_neg]
      intro q3
      have e : par p t = par p i := by omega
      have hcn := (parts_conn hs hp hi ht).1 e.symm
      exact q2 (hcn.keep (S := fun x => x ∈ work) (fun a b ha hab => hc a ha b (hRn a b hab) hab) h.mem)
theorem OInv.fin (hp : isParts R n p) {next : Nat} {out : List Int} (h : OInv p n n next out) : out = (List.range n).map fun t => (numP p t : Int) := by
  refine List.ext_getElem? fun t => ?_
  by_cases ht : t < n
  · rw [h.at_ t ht, if_pos (by have := par_lt hp ht; omega)]
    simp [ht]
  · rw [List.getElem?_eq_none (by rw [h.len]; omega), List.getElem?_eq_none (by simp; omega)]
end
end Go.Proofs.YtdkcmfafganhhaaDoor
