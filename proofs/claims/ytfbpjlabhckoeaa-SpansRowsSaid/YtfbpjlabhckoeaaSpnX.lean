/- Rows of instances (program): the order of two instances, the first row that is free. -/
import Derived.Test.YtfbpjlabhckoeaaSpnR
import Derived.Test.YtfbpjlabhckoeaaSpnW
import Derived.Test.YtfbpjlabhckoeaaStiU
namespace Go.Proofs.Ytfbpjlabhckoeaa
set_option linter.unusedSimpArgs false
set_option linter.unusedVariables false
set_option linter.unnecessarySimpa false
set_option linter.unusedSectionVars false
open Go.RowKit
variable [Glob]
open Stab
set_option maxRecDepth 100000
theorem eqk_tr {α : Type} {lt : α → α → Bool} (hs : Swo lt) {k m z : α} (h : eqk lt k m = true) : eqk lt k z = eqk lt m z := by
  simp only [eqk, Bool.and_eq_true, Bool.not_eq_true'] at h
  have a1 : lt z k = lt z m := by
    cases e : lt z k
    · cases e2 : lt z m
      · rfl
      · rcases hs.nt z k m e2 with q | q
        · rw [e] at q; cases q
        · rw [h.2] at q; cases q
    · rcases hs.nt z m k e with q | q
      · rw [q]
      · rw [h.1] at q; cases q
  have a2 : lt k z = lt m z := by
    cases e : lt k z
    · cases e2 : lt m z
      · rfl
      · rcases hs.nt m k z e2 with q | q
        · rw [h.1] at q; cases q
        · rw [e] at q; cases q
    · rcases hs.nt k m z e with q | q
      · rw [h.2] at q; cases q
      · rw [q]
  simp only [eqk, a1, a2]
theorem stb_map {α β : Type} {lt : α → α → Bool} {lt' : β → β → Bool} (f : α → β) (hs : Swo lt) (hs' : Swo lt') (hf : ∀ x y, lt x y = lt' (f x) (f y)) {a b : List α} (h : Stb lt a b) : Stb lt' (a.map f) (b.map f) := by
  refine ⟨by simpa using h.1, fun k => ?_⟩
  rw [List.filter_map, List.filter_map]
  congr 1
  by_cases hx : ∃ x ∈ a, eqk lt' k (f x) = true
  · obtain ⟨x, _, hx⟩ := hx
    have e : ∀ z, (eqk lt' k ∘ f) z = eqk lt x z := fun z => by
      show eqk lt' k (f z) = _
      rw [eqk_tr hs' hx]
      simp only [eqk, hf]
    rw [List.filter_congr fun z _ => e z, List.filter_congr fun z _ => e z]
    exact h.2 x
  · have ea : a.filter (eqk lt' k ∘ f) = [] := List.filter_eq_nil_iff.2 fun z hz q => hx ⟨z, hz, q⟩
    have eb : b.filter (eqk lt' k ∘ f) = [] := List.filter_eq_nil_iff.2 fun z hz q => hx ⟨z, (h.mem hs).2 hz, q⟩
    rw [ea, eb]
theorem srtd_map {α β : Type} {lt : α → α → Bool} {lt' : β → β → Bool} (f : α → β) (hf : ∀ x y, lt x y = lt' (f x) (f y)) {a : List α} (h : Srtd lt a) : Srtd lt' (a.map f) := by
  unfold Srtd at *
  rw [List.pairwise_map]
  exact h.imp fun {x y} q => by rw [← hf]; exact q
theorem ix_of {li : List Ins} : ∀ L : List Nat, (∀ i ∈ L, i < li.length) → ∃ X : List (Ix li), X.map Ix.i = L := by
  intro L
  induction L with
  | nil => intro _; exact ⟨[], rfl⟩
  | cons i r ih =>
    intro h
    obtain ⟨X, hX⟩ := ih fun j hj => h j (by simp [hj])
    exact ⟨⟨i, h i (by simp)⟩ :: X, by simp [hX]⟩
def spsI (l : List Ins) : List Sp := l.map fun x => ⟨x.from_, x.to_⟩
theorem spsI_len {l : List Ins} : (spsI l).length = l.length := List.length_map _
theorem spsI_at {l : List Ins} {i : Nat} (h : i < l.length) : (spsI l)[i]? = some ⟨l[i].from_, l[i].to_⟩ := by simp [spsI, List.getElem?_map, h]
theorem frI_at {l : List Ins} {i : Nat} (h : i < l.length) : frI (spsI l) i = l[i].from_ := by unfold frI; rw [spsI_at h]
theorem toI_at {l : List Ins} {i : Nat} (h : i < l.length) : toI (spsI l) i = l[i].to_ := by unfold toI; rw [spsI_at h]
theorem prp_at {l : List Ins} {i : Nat} (h : i < l.length) : prp (spsI l) i = decide (l[i].from_ < l[i].to_) := by unfold prp; rw [spsI_at h]
/-- Three ways two numbers may lie. -/
def cI (a b : Int) : Int := if a < b then -1 else if b < a then 1 else 0
def cX {l : List Ins} (x y : Ix l) : Int := if cI (frI (spsI l) x.i) (frI (spsI l) y.i) = 0 then cI (toI (spsI l) x.i) (toI (spsI l) y.i) else cI (frI (spsI l) x.i) (frI (spsI l) y.i)
theorem cX_lt {l : List Ins} (x y : Ix l) : ltCX cX x y = ltI (spsI l) x.i y.i := by
  unfold ltCX cX ltI cI
  by_cases a : frI (spsI l) x.i < frI (spsI l) y.i
  · simp [a]
  · by_cases b : frI (spsI l) y.i < frI (spsI l) x.i
    · have c : ¬ frI (spsI l) x.i = frI (spsI l) y.i := by omega
      simp [a, b, c]
    · have c : frI (spsI l) x.i = frI (spsI l) y.i := by omega
      by_cases d : toI (spsI l) x.i < toI (spsI l) y.i
      · simp [c, d]
      · by_cases e : toI (spsI l) y.i < toI (spsI l) x.i <;> simp [c, d, e]
theorem cX_swo {l : List Ins} : Swo (ltCX (cX (l := l))) where
  irr x := by rw [cX_lt]; exact (swoI _).irr _
  tr x y z := by rw [cX_lt, cX_lt, cX_lt]; exact (swoI _).tr _ _ _
  nt x y z := by rw [cX_lt, cX_lt, cX_lt]; exact (swoI _).nt _ _ _
theorem cmpI_pure (a b : Int) : Pure Try.prog 62 [.int .i64 a, .int .i64 b] (.int .i64 (cI a b)) := by
  have hn : ∀ x : Int, Pure Try.prog 94 [.int .i64 x] (.bool false) := fun x => by
    refine pure_of mixed Try.func94 rfl (by kernel_rfl) (of_decide_eq_true rfl) (by kernel_rfl) (vc_run ?_)
    ((try simp -implicitDefEqProofs [-loopQ_n]) <;> (repeat' (first | (refine condD_dec ?_ ?_ <;> (intro hc; (try simp -implicitDefEqProofs [-loopQ_n, hc]))) | (refine guardD_dec ?_ ?_ <;> (intro hc; (try simp -implicitDefEqProofs [-loopQ_n, hc]))) | (refine condD_intro ?_ ?_ <;> (intro hd; have hc := hd; (try simp at hc) <;> (try simp -implicitDefEqProofs [-loopQ_n, hd, hc]))) | (refine guardD_intro ?_ ?_ <;> (intro hd; have hc := hd; (try simp at hc) <;> (try simp -implicitDefEqProofs [-loopQ_n, hd, hc]))) | (refine ldD_ep ?_ ?_; (focus kernel_rfl); (try simp -implicitDefEqProofs [-loopQ_n])))))
  unfold cI
  refine pure_of mixed Try.func62 rfl (by kernel_rfl) (of_decide_eq_true rfl) (by kernel_rfl) (vc_run ?_)
  by_cases c1 : a < b
  · ((try simp -implicitDefEqProofs [-loopQ_n, c1]) <;> (repeat' (first | (refine condD_dec ?_ ?_ <;> (intro hc; (try simp -implicitDefEqProofs [-loopQ_n, hc, c1]))) | (refine guardD_dec ?_ ?_ <;> (intro hc; (try simp -implicitDefEqProofs [-loopQ_n, hc, c1]))) | (refine condD_intro ?_ ?_ <;> (intro hd; have hc := hd; (try simp at hc) <;> (try simp -implicitDefEqProofs [-loopQ_n, hd, hc, c1]))) | (refine guardD_intro ?_ ?_ <;> (intro hd; have hc := hd; (try simp at hc) <;> (try simp -implicitDefEqProofs [-loopQ_n, hd, hc, c1]))) | (refine ldD_ep ?_ ?_; (focus kernel_rfl); (try simp -implicitDefEqProofs [-loopQ_n, c1])) | (refine callS_mk ?_; (try simp -implicitDefEqProofs [-loopQ_n, c1]); (first | refine callS_intro (hn _) (.inl rfl) ?_); (try simp -implicitDefEqProofs [-loopQ_n, c1])))))
  · by_cases c2 : b < a
    · ((try simp -implicitDefEqProofs [-loopQ_n, c1, c2]) <;> (repeat' (first | (refine condD_dec ?_ ?_ <;> (intro hc; (try simp -implicitDefEqProofs [-loopQ_n, hc, c1, c2]))) | (refine guardD_dec ?_ ?_ <;> (intro hc; (try simp -implicitDefEqProofs [-loopQ_n, hc, c1, c2]))) | (refine condD_intro ?_ ?_ <;> (intro hd; have hc := hd; (try simp at hc) <;> (try simp -implicitDefEqProofs [-loopQ_n, hd, hc, c1, c2]))) | (refine guardD_intro ?_ ?_ <;> (intro hd; have hc := hd; (try simp at hc) <;> (try simp -implicitDefEqProofs [-loopQ_n, hd, hc, c1, c2]))) | (refine ldD_ep ?_ ?_; (focus kernel_rfl); (try simp -implicitDefEqProofs [-loopQ_n, c1, c2])) | (refine callS_mk ?_; (try simp -implicitDefEqProofs [-loopQ_n, c1, c2]); (first | refine callS_intro (hn _) (.inl rfl) ?_); (try simp -implicitDefEqProofs [-loopQ_n, c1, c2])))))
    · ((try simp -implicitDefEqProofs [-loopQ_n, c1, c2]) <;> (repeat' (first | (refine condD_dec ?_ ?_ <;> (intro hc; (try simp -implicitDefEqProofs [-loopQ_n, hc, c1, c2]))) | (refine guardD_dec ?_ ?_ <;> (intro hc; (try simp -implicitDefEqProofs [-loopQ_n, hc, c1, c2]))) | (refine condD_intro ?_ ?_ <;> (intro hd; have hc := hd; (try simp at hc) <;> (try simp -implicitDefEqProofs [-loopQ_n, hd, hc, c1, c2]))) | (refine guardD_intro ?_ ?_ <;> (intro hd; have hc := hd; (try simp at hc) <;> (try simp -implicitDefEqProofs [-loopQ_n, hd, hc, c1, c2]))) | (refine ldD_ep ?_ ?_; (focus kernel_rfl); (try simp -implicitDefEqProofs [-loopQ_n, c1, c2])) | (refine callS_mk ?_; (try simp -implicitDefEqProofs [-loopQ_n, c1, c2]); (first | refine callS_intro (hn _) (.inl rfl) ?_); (try simp -implicitDefEqProofs [-loopQ_n, c1, c2])))))
theorem or2_pure (a b : Int) : Pure Try.prog 61 [.rs (rowsOf intC [a, b])] (.int .i64 (if a = 0 then b else a)) := by
  refine pure_of mixed Try.func61 rfl (by kernel_rfl) (of_decide_eq_true rfl) (by kernel_rfl) (vc_run ?_)
  ((try simp -implicitDefEqProofs [-loopQ_n]) <;> (repeat' (first | (refine condD_dec ?_ ?_ <;> (intro hc; (try simp -implicitDefEqProofs [-loopQ_n, hc]))) | (refine guardD_dec ?_ ?_ <;> (intro hc; (try simp -implicitDefEqProofs [-loopQ_n, hc]))) | (refine condD_intro ?_ ?_ <;> (intro hd; have hc := hd; (try simp at hc) <;> (try simp -implicitDefEqProofs [-loopQ_n, hd, hc]))) | (refine guardD_intro ?_ ?_ <;> (intro hd; have hc := hd; (try simp at hc) <;> (try simp -implicitDefEqProofs [-loopQ_n, hd, hc]))) | (refine ldD_ep ?_ ?_; (focus kernel_rfl); (try simp -implicitDefEqProofs [-loopQ_n])))))
  refine loop_intro (σ := Nat) (fun i => ⟨[(3, .int .i64 0), (6, .rs (rowsOf intC [a, b])), (7, .int .i64 2), (8, .int .i64 i)], []⟩) (fun i => i ≤ 2 ∧ (1 ≤ i → a = 0) ∧ (2 ≤ i → b = 0)) (fun i => 2 - i) 0 (by simp) ?_ ?_
  · refine weak_of 0 0 rfl rfl ?_ ?_ <;> simp
  rintro i ⟨h1, h2, h3⟩
  by_cases h : i < 2
  · have w1 : wrapI .i64 ((i : Int) + 1) = ((i + 1 : Nat) : Int) := by rw [wrap_in (by omega) (by omega)]; omega
    have u1 : wrapI .i64 1 = 1 := wrap_in (by omega) (by omega)
    have u2 : wrapI .i64 2 = 2 := wrap_in (by omega) (by omega)
    match i, h with
    | 0, _ =>
      by_cases c : a = 0
      · subst c
        ((try simp -implicitDefEqProofs [-loopQ_n, w1, rowsOf, intC]) <;> (repeat' (first | (refine condD_dec ?_ ?_ <;> (intro hc; (try simp -implicitDefEqProofs [-loopQ_n, hc, w1, rowsOf, intC]))) | (refine guardD_dec ?_ ?_ <;> (intro hc; (try simp -implicitDefEqProofs [-loopQ_n, hc, w1, rowsOf, intC]))) | (refine condD_intro ?_ ?_ <;> (intro hd; have hc := hd; (try simp at hc) <;> (try simp -implicitDefEqProofs [-loopQ_n, hd, hc, w1, rowsOf, intC]))) | (refine guardD_intro ?_ ?_ <;> (intro hd; have hc := hd; (try simp at hc) <;> (try simp -implicitDefEqProofs [-loopQ_n, hd, hc, w1, rowsOf, intC]))) | (refine ldD_ep ?_ ?_; (focus kernel_rfl); (try simp -implicitDefEqProofs [-loopQ_n, w1, rowsOf, intC])))))
        refine loop_next 1 ⟨by omega, by simp⟩ (by omega) (weak_of 0 0 rfl rfl ?_ ?_) <;> simp [u1]
      · ((try simp -implicitDefEqProofs [-loopQ_n, w1, rowsOf, intC, c]) <;> (repeat' (first | (refine condD_dec ?_ ?_ <;> (intro hc; (try simp -implicitDefEqProofs [-loopQ_n, hc, w1, rowsOf, intC, c]))) | (refine guardD_dec ?_ ?_ <;> (intro hc; (try simp -implicitDefEqProofs [-loopQ_n, hc, w1, rowsOf, intC, c]))) | (refine condD_intro ?_ ?_ <;> (intro hd; have hc := hd; (try simp at hc) <;> (try simp -implicitDefEqProofs [-loopQ_n, hd, hc, w1, rowsOf, intC, c]))) | (refine guardD_intro ?_ ?_ <;> (intro hd; have hc := hd; (try simp at hc) <;> (try simp -implicitDefEqProofs [-loopQ_n, hd, hc, w1, rowsOf, intC, c]))) | (refine ldD_ep ?_ ?_; (focus kernel_rfl); (try simp -implicitDefEqProofs [-loopQ_n, w1, rowsOf, intC, c])))))
    | 1, _ =>
      have ha := h2 (by omega)
      subst ha
      by_cases c : b = 0
      · subst c
        ((try simp -implicitDefEqProofs [-loopQ_n, w1, rowsOf, intC]) <;> (repeat' (first | (refine condD_dec ?_ ?_ <;> (intro hc; (try simp -implicitDefEqProofs [-loopQ_n, hc, w1, rowsOf, intC]))) | (refine guardD_dec ?_ ?_ <;> (intro hc; (try simp -implicitDefEqProofs [-loopQ_n, hc, w1, rowsOf, intC]))) | (refine condD_intro ?_ ?_ <;> (intro hd; have hc := hd; (try simp at hc) <;> (try simp -implicitDefEqProofs [-loopQ_n, hd, hc, w1, rowsOf, intC]))) | (refine guardD_intro ?_ ?_ <;> (intro hd; have hc := hd; (try simp at hc) <;> (try simp -implicitDefEqProofs [-loopQ_n, hd, hc, w1, rowsOf, intC]))) | (refine ldD_ep ?_ ?_; (focus kernel_rfl); (try simp -implicitDefEqProofs [-loopQ_n, w1, rowsOf, intC])))))
        refine loop_next 2 (by omega) (by omega) (weak_of 0 0 rfl rfl ?_ ?_) <;> simp [u2]
      · ((try simp -implicitDefEqProofs [-loopQ_n, w1, rowsOf, intC, c]) <;> (repeat' (first | (refine condD_dec ?_ ?_ <;> (intro hc; (try simp -implicitDefEqProofs [-loopQ_n, hc, w1, rowsOf, intC, c]))) | (refine guardD_dec ?_ ?_ <;> (intro hc; (try simp -implicitDefEqProofs [-loopQ_n, hc, w1, rowsOf, intC, c]))) | (refine condD_intro ?_ ?_ <;> (intro hd; have hc := hd; (try simp at hc) <;> (try simp -implicitDefEqProofs [-loopQ_n, hd, hc, w1, rowsOf, intC, c]))) | (refine guardD_intro ?_ ?_ <;> (intro hd; have hc := hd; (try simp at hc) <;> (try simp -implicitDefEqProofs [-loopQ_n, hd, hc, w1, rowsOf, intC, c]))) | (refine ldD_ep ?_ ?_; (focus kernel_rfl); (try simp -implicitDefEqProofs [-loopQ_n, w1, rowsOf, intC, c])))))
  · have e : i = 2 := by omega
    subst e
    have ha := h2 (by omega)
    have hb := h3 (by omega)
    subst ha hb
    ((try simp -implicitDefEqProofs [-loopQ_n]) <;> (repeat' (first | (refine condD_dec ?_ ?_ <;> (intro hc; (try simp -implicitDefEqProofs [-loopQ_n, hc]))) | (refine guardD_dec ?_ ?_ <;> (intro hc; (try simp -implicitDefEqProofs [-loopQ_n, hc]))) | (refine condD_intro ?_ ?_ <;> (intro hd; have hc := hd; (try simp at hc) <;> (try simp -implicitDefEqProofs [-loopQ_n, hd, hc]))) | (refine guardD_intro ?_ ?_ <;> (intro hd; have hc := hd; (try simp at hc) <;> (try simp -implicitDefEqProofs [-loopQ_n, hd, hc]))) | (refine ldD_ep ?_ ?_; (focus kernel_rfl); (try simp -implicitDefEqProofs [-loopQ_n])))))
theorem rows1_pure {l : List Ins} (x y : Ix l) : Pure Try.prog 60 [.int .i64 (x.i : Int), .int .i64 (y.i : Int), .rp [.rs (rowsOf insC l)]] (.int .i64 (cX x y)) := by
  obtain ⟨i, hi⟩ := x
  obtain ⟨k, hk⟩ := y
  obtain ⟨a, ha⟩ : ∃ a, frI (spsI l) i = a := ⟨_, rfl⟩
  obtain ⟨b, hb⟩ : ∃ b, toI (spsI l) i = b := ⟨_, rfl⟩
  obtain ⟨c, hc⟩ : ∃ c, frI (spsI l) k = c := ⟨_, rfl⟩
  obtain ⟨d, hd⟩ : ∃ d, toI (spsI l) k = d := ⟨_, rfl⟩
  have e : cX (l := l) ⟨i, hi⟩ ⟨k, hk⟩ = if cI a c = 0 then cI b d else cI a c := by simp only [cX, ha, hb, hc, hd]
  rw [e]
  rw [frI_at hi] at ha
  rw [toI_at hi] at hb
  rw [frI_at hk] at hc
  rw [toI_at hk] at hd
  obtain ⟨⟨cs, ac, re, t1, t2, t3⟩, hf⟩ : ∃ e, l[i] = e := ⟨_, rfl⟩
  obtain ⟨⟨cs', ac', re', t1', t2', t3'⟩, hg⟩ : ∃ e, l[k] = e := ⟨_, rfl⟩
  rw [hf] at ha hb
  rw [hg] at hc hd
  simp only at ha hb hc hd
  subst ha hb hc hd
  have hO := or2_pure (cI t2 t2') (cI t3 t3')
  simp only [rowsOf, intC, List.map_cons, List.map_nil] at hO
  have hr2 : ([0, 1] : List Nat) = List.range 2 := rfl
  refine pure_of mixed Try.func60 rfl (by kernel_rfl) (of_decide_eq_true rfl) (by kernel_rfl) (vc_run ?_)
  ((try simp -implicitDefEqProofs [-loopQ_n, hi, hk, hf, hg, insC, hr2]) <;> (repeat' (first | (refine condD_dec ?_ ?_ <;> (intro hc; (try simp -implicitDefEqProofs [-loopQ_n, hc, hi, hk, hf, hg, insC, hr2]))) | (refine guardD_dec ?_ ?_ <;> (intro hc; (try simp -implicitDefEqProofs [-loopQ_n, hc, hi, hk, hf, hg, insC, hr2]))) | (refine condD_intro ?_ ?_ <;> (intro hd; have hc := hd; (try simp at hc) <;> (try simp -implicitDefEqProofs [-loopQ_n, hd, hc, hi, hk, hf, hg, insC, hr2]))) | (refine guardD_intro ?_ ?_ <;> (intro hd; have hc := hd; (try simp at hc) <;> (try simp -implicitDefEqProofs [-loopQ_n, hd, hc, hi, hk, hf, hg, insC, hr2]))) | (refine ldD_ep ?_ ?_; (focus kernel_rfl); (try simp -implicitDefEqProofs [-loopQ_n, hi, hk, hf, hg, insC, hr2])) | (refine callS_mk ?_; (try simp -implicitDefEqProofs [-loopQ_n, hi, hk, hf, hg, insC, hr2]); (first | refine callS_intro (cmpI_pure t2 t2') (.inl rfl) ?_ | refine callS_intro (cmpI_pure t3 t3') (.inl rfl) ?_ | refine callS_intro (hO) (.inl rfl) ?_); (try simp -implicitDefEqProofs [-loopQ_n, hi, hk, hf, hg, insC, hr2])))))
theorem rows2_pure {l : List Ins} (t : Int) (i : Nat) (hi : i < l.length) : Pure Try.prog 64 [.int .i64 t, .rp [.rs (rowsOf insC l)], .rp [.int .i64 (i : Int)]] (.bool (decide (t ≤ frI (spsI l) i))) := by
  rw [frI_at hi]
  obtain ⟨⟨cs, ac, re, t1, t2, t3⟩, hf⟩ : ∃ e, l[i] = e := ⟨_, rfl⟩
  rw [hf]
  refine pure_of mixed Try.func64 rfl (by kernel_rfl) (of_decide_eq_true rfl) (by kernel_rfl) (vc_run ?_)
  ((try simp -implicitDefEqProofs [-loopQ_n, hi, hf, insC]) <;> (repeat' (first | (refine condD_dec ?_ ?_ <;> (intro hc; (try simp -implicitDefEqProofs [-loopQ_n, hc, hi, hf, insC]))) | (refine guardD_dec ?_ ?_ <;> (intro hc; (try simp -implicitDefEqProofs [-loopQ_n, hc, hi, hf, insC]))) | (refine condD_intro ?_ ?_ <;> (intro hd; have hc := hd; (try simp at hc) <;> (try simp -implicitDefEqProofs [-loopQ_n, hd, hc, hi, hf, insC]))) | (refine guardD_intro ?_ ?_ <;> (intro hd; have hc := hd; (try simp at hc) <;> (try simp -implicitDefEqProofs [-loopQ_n, hd, hc, hi, hf, insC]))) | (refine ldD_ep ?_ ?_; (focus kernel_rfl); (try simp -implicitDefEqProofs [-loopQ_n, hi, hf, insC])))))
end Go.Proofs.Ytfbpjlabhckoeaa
