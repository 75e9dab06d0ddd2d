/- Several texts of the abstract machine, one behind the other. -/
import Derived.Test.YthiclaihlpkinaaGreatM5
import Derived.Test.YthiclaihlpkinaaGreatM8
import Derived.Test.YthiclaihlpkinaaGreatTy
import Derived.Test.YthiclaihlpkinaaGreatM3
import Derived.Test.YthiclaihlpkinaaGreatAbBase
import Derived.Test.YthiclaihlpkinaaGreatBr
import Derived.Test.YthiclaihlpkinaaGreatM9
set_option linter.unusedSimpArgs false
set_option linter.unusedVariables false
set_option linter.unnecessarySimpa false
set_option linter.unusedSectionVars false
set_option maxRecDepth 100000
namespace Go.Proofs.YthiclaihlpkinaaGreat
open Go.RowKit
variable [Glob]
def wtC (c : List Sp) (x : Ins) : Int := if x.ready < x.from_ then (workOut c ⟨x.ready, x.from_⟩).1 else 0
def waitR (l : List Ins) (c : List Sp) : List Int × Int := if insL l = true ∧ calOk c = true then (l.map (wtC c), 0) else ([], 1)
theorem spV_ins {x : Ins} (hx : insV x = true) (h : x.ready < x.from_) : spV ⟨x.ready, x.from_⟩ = true := by
  have := insV_bd hx
  rw [spV_iff]
  simp only
  omega
theorem wt_bd {c : List Sp} (hc : calOk c = true) {x : Ins} (hx : insV x = true) : 0 ≤ wtC c x ∧ wtC c x ≤ x.from_ - x.ready := by
  have hb := insV_bd hx
  unfold wtC
  by_cases h : x.ready < x.from_
  · rw [if_pos h, workOut, if_pos ⟨hc, spV_ins hx h⟩]
    have := untL_mono (calOk_v hc).2 (t := x.ready) (u := x.from_) (by omega) (by omega)
    simp only
    omega
  · rw [if_neg h]; omega
theorem allC_ok : calOk [⟨0, 10080⟩] = true := by decide
theorem noneC_ok : calOk [] = true := by decide
theorem bef_all {w : Int} (h : 0 ≤ w) (h2 : w ≤ 10080) : befL w [⟨0, 10080⟩] = w := by
  simp only [befL, spanB]
  (repeat' split) <;> omega
theorem unt_all {t : Int} (h : 0 ≤ t) : untL [⟨0, 10080⟩] t = t := by
  unfold untL
  rw [bef_all (by omega) (by omega), bef_all (by omega) (by omega)]
  omega
theorem wt_all {x : Ins} (hx : insV x = true) : wtC [⟨0, 10080⟩] x = x.from_ - x.ready := by
  have hb := insV_bd hx
  unfold wtC
  by_cases h : x.ready < x.from_
  · rw [if_pos h, workOut, if_pos ⟨allC_ok, spV_ins hx h⟩]
    simp only
    rw [unt_all (by omega), unt_all (by omega)]
  · rw [if_neg h]; omega
theorem wt_none {x : Ins} : wtC [] x = 0 := by
  unfold wtC
  by_cases h : x.ready < x.from_
  · rw [if_pos h, workOut]
    split <;> simp [untL, befL]
  · rw [if_neg h]
end Go.Proofs.YthiclaihlpkinaaGreat
namespace Go.Proofs.YthiclaihlpkinaaGreat
open Go.RowKit
variable [Glob]
def spC (s : Sp) : List AV := [.int .i64 s.f, .int .i64 s.t]
theorem w_succ {i n : Nat} (h : i < n) (hn : n ≤ 9223372036854775807) : wrapI .i64 ((i : Int) + 1) = ((i + 1 : Nat) : Int) := by rw [wrap_in (by omega) (by omega)]; omega
def prevT (l : List Sp) : Nat → Int
  | 0 => -1
  | i + 1 => match l[i]? with | some s => s.t | none => 0
theorem until_facts {l : List Sp} {t : Int} (hv : calOk l = true) (ht : inst t = true) : t.tdiv 10080 = t / 10080 ∧ t.tmod 10080 = t % 10080 ∧ wrapI .i64 (t / 10080) = t / 10080 ∧ wrapI .i64 (t / 10080 * befL 10080 l) = t / 10080 * befL 10080 l ∧ wrapI .i64 (t / 10080 * befL 10080 l + befL (t % 10080) l) = untL l t ∧ 0 ≤ t % 10080 ∧ t % 10080 ≤ 10080 := by
  obtain ⟨hln, hc⟩ := calOk_v hv
  rw [inst_iff] at ht
  have hb := untL_bd hc ht.1
  have h1 := befL_nn (t % 10080) l
  have h2 : 0 ≤ t / 10080 * befL 10080 l := Int.mul_nonneg (by omega) (befL_nn _ _)
  unfold untL at hb ⊢
  refine ⟨Int.tdiv_eq_ediv_of_nonneg ht.1, Int.tmod_eq_emod_of_nonneg ht.1, wrap_in (by omega) (by omega), wrap_in (by omega) (by omega), wrap_in (by omega) (by omega), by omega, by omega⟩
theorem work_facts {l : List Sp} {f t : Int} (hv : calOk l = true) (hs : spV ⟨f, t⟩ = true) : inst f = true ∧ inst t = true ∧ wrapI .i64 (untL l t - untL l f) = untL l t - untL l f := by
  obtain ⟨hln, hc⟩ := calOk_v hv
  rw [spV_iff] at hs
  simp only at hs
  have hb := untL_bd hc (t := t) (by omega)
  have hb2 := untL_bd hc (t := f) (by omega)
  exact ⟨inst_iff.2 ⟨by omega, by omega⟩, inst_iff.2 ⟨by omega, by omega⟩, wrap_in (by omega) (by omega)⟩
theorem spans_reify {H : List Blk} {n : Nat} {l : List Sp} : (rowsOf spC l).mapM (fun row => row.mapM (reify H (n + 1))) = some (rowsOf spC l) := rowsOf_reify fun x => by simp [spC, reify]
theorem after_facts {l : List Sp} {t n : Int} (hv : calOk l = true) (ht : inst t = true) (hn : inst n = true) (h0 : ¬ n = 0) (hl : l ≠ []) :
    wrapI .i64 (untL l t + n) = untL l t + n ∧ wrapI .i64 (untL l t + n - 1) = untL l t + n - 1 ∧ (untL l t + n - 1).tdiv (befL 10080 l) = (untL l t + n - 1) / befL 10080 l ∧ (untL l t + n - 1).tmod (befL 10080 l) = (untL l t + n - 1) % befL 10080 l ∧ wrapI .i64 ((untL l t + n - 1) / befL 10080 l) = (untL l t + n - 1) / befL 10080 l ∧ wrapI .i64 ((untL l t + n - 1) / befL 10080 l * 10080) = (untL l t + n - 1) / befL 10080 l * 10080 ∧ ¬ befL 10080 l = 0 := by
  obtain ⟨b1, b2, b3, b4, b5, b6, b7, b8, b9⟩ := aftU_bounds hv hl ht hn h0
  rw [inst_iff] at hn
  exact ⟨wrap_in (by omega) (by omega), wrap_in (by omega) (by omega), Int.tdiv_eq_ediv_of_nonneg (by omega), Int.tmod_eq_emod_of_nonneg (by omega), wrap_in (by omega) (by omega), wrap_in (by omega) (by omega), by omega⟩
end Go.Proofs.YthiclaihlpkinaaGreat
namespace Go.Proofs.YthiclaihlpkinaaGreat
open Go.RowKit
variable [Glob]
def intsO (r : List Int × Int) : AV := .tup [.rs (rowsOf intC r.1), .int .i64 r.2]
theorem int_reify {H : List Blk} {n : Nat} {l : List Int} : (rowsOf intC l).mapM (fun row => row.mapM (reify H (n + 1))) = some (rowsOf intC l) := rowsOf_reify fun x => by simp [intC, reify]
theorem int_refs {m : Nat} {l : List Int} : refsR m (rowsOf intC l) = true := rowsOf_refs fun x => by simp [intC, refs]
theorem sp_refs {m : Nat} {l : List Sp} : refsR m (rowsOf spC l) = true := rowsOf_refs fun x => by simp [spC, refs]
theorem int_snoc {l : List Int} {n : Int} : rowsOf intC l ++ [[.int .i64 n]] = rowsOf intC (l ++ [n]) := by simp [rowsOf, intC]
end Go.Proofs.YthiclaihlpkinaaGreat
namespace Go.Proofs.YthiclaihlpkinaaGreat
open Go.RowKit
variable [Glob]
open Stab
theorem eqk_tr {α : Type} {lt : α → α → Bool} (hs : Swo lt) {k m z : α} (h : eqk lt k m = true) : eqk lt k z = eqk lt m z := by
  simp only [eqk, Bool.and_eq_true, Bool.not_eq_true'] at h
  have a1 : lt z k = lt z m := by
    cases e : lt z k
    · cases e2 : lt z m
      · rfl
      · rcases hs.nt z k m e2 with q | q
        · rw [e] at q; cases q
        · rw [h.2] at q; cases q
    · rcases hs.nt z m k e with q | q
      · rw [q]
      · rw [h.1] at q; cases q
  have a2 : lt k z = lt m z := by
    cases e : lt k z
    · cases e2 : lt m z
      · rfl
      · rcases hs.nt m k z e2 with q | q
        · rw [h.1] at q; cases q
        · rw [e] at q; cases q
    · rcases hs.nt k m z e with q | q
      · rw [h.2] at q; cases q
      · rw [q]
  simp only [eqk, a1, a2]
theorem stb_map {α β : Type} {lt : α → α → Bool} {lt' : β → β → Bool} (f : α → β) (hs : Swo lt) (hs' : Swo lt') (hf : ∀ x y, lt x y = lt' (f x) (f y)) {a b : List α} (h : Stb lt a b) : Stb lt' (a.map f) (b.map f) := by
  refine ⟨by simpa using h.1, fun k => ?_⟩
  rw [List.filter_map, List.filter_map]
  congr 1
  by_cases hx : ∃ x ∈ a, eqk lt' k (f x) = true
  · obtain ⟨x, _, hx⟩ := hx
    have e : ∀ z, (eqk lt' k ∘ f) z = eqk lt x z := fun z => by
      show eqk lt' k (f z) = _
      rw [eqk_tr hs' hx]
      simp only [eqk, hf]
    rw [List.filter_congr fun z _ => e z, List.filter_congr fun z _ => e z]
    exact h.2 x
  · have ea : a.filter (eqk lt' k ∘ f) = [] := List.filter_eq_nil_iff.2 fun z hz q => hx ⟨z, hz, q⟩
    have eb : b.filter (eqk lt' k ∘ f) = [] := List.filter_eq_nil_iff.2 fun z hz q => hx ⟨z, (h.mem hs).2 hz, q⟩
    rw [ea, eb]
theorem srtd_map {α β : Type} {lt : α → α → Bool} {lt' : β → β → Bool} (f : α → β) (hf : ∀ x y, lt x y = lt' (f x) (f y)) {a : List α} (h : Srtd lt a) : Srtd lt' (a.map f) := by
  unfold Srtd at *
  rw [List.pairwise_map]
  exact h.imp fun {x y} q => by rw [← hf]; exact q
theorem ix_of {li : List Ins} : ∀ L : List Nat, (∀ i ∈ L, i < li.length) → ∃ X : List (Ix li), X.map Ix.i = L := by
  intro L
  induction L with
  | nil => intro _; exact ⟨[], rfl⟩
  | cons i r ih =>
    intro h
    obtain ⟨X, hX⟩ := ih fun j hj => h j (by simp [hj])
    exact ⟨⟨i, h i (by simp)⟩ :: X, by simp [hX]⟩
def spsI (l : List Ins) : List Sp := l.map fun x => ⟨x.from_, x.to_⟩
theorem spsI_len {l : List Ins} : (spsI l).length = l.length := List.length_map _
theorem spsI_at {l : List Ins} {i : Nat} (h : i < l.length) : (spsI l)[i]? = some ⟨l[i].from_, l[i].to_⟩ := by simp [spsI, List.getElem?_map, h]
theorem frI_at {l : List Ins} {i : Nat} (h : i < l.length) : frI (spsI l) i = l[i].from_ := by unfold frI; rw [spsI_at h]
theorem toI_at {l : List Ins} {i : Nat} (h : i < l.length) : toI (spsI l) i = l[i].to_ := by unfold toI; rw [spsI_at h]
theorem prp_at {l : List Ins} {i : Nat} (h : i < l.length) : prp (spsI l) i = decide (l[i].from_ < l[i].to_) := by unfold prp; rw [spsI_at h]
/-- Three ways two numbers may lie. -/
def cI (a b : Int) : Int := if a < b then -1 else if b < a then 1 else 0
def cX {l : List Ins} (x y : Ix l) : Int := if cI (frI (spsI l) x.i) (frI (spsI l) y.i) = 0 then cI (toI (spsI l) x.i) (toI (spsI l) y.i) else cI (frI (spsI l) x.i) (frI (spsI l) y.i)
theorem cX_lt {l : List Ins} (x y : Ix l) : ltCX cX x y = ltI (spsI l) x.i y.i := by
  unfold ltCX cX ltI cI
  by_cases a : frI (spsI l) x.i < frI (spsI l) y.i
  · simp [a]
  · by_cases b : frI (spsI l) y.i < frI (spsI l) x.i
    · have c : ¬ frI (spsI l) x.i = frI (spsI l) y.i := by omega
      simp [a, b, c]
    · have c : frI (spsI l) x.i = frI (spsI l) y.i := by omega
      by_cases d : toI (spsI l) x.i < toI (spsI l) y.i
      · simp [c, d]
      · by_cases e : toI (spsI l) y.i < toI (spsI l) x.i <;> simp [c, d, e]
theorem cX_swo {l : List Ins} : Swo (ltCX (cX (l := l))) where
  irr x := by rw [cX_lt]; exact (swoI _).irr _
  tr x y z := by rw [cX_lt, cX_lt, cX_lt]; exact (swoI _).tr _ _ _
  nt x y z := by rw [cX_lt, cX_lt, cX_lt]; exact (swoI _).nt _ _ _
theorem cmpI_pure (a b : Int) : Pure Tryz.prog 32 [.int .i64 a, .int .i64 b] (.int .i64 (cI a b)) := by
  have hn : ∀ x : Int, Pure Tryz.prog 58 [.int .i64 x] (.bool false) := fun x => by
    refine pure_of mixed Tryz.func58 rfl (by kernel_rfl) (of_decide_eq_true rfl) (by kernel_rfl) (vc_run ?_)
    ((try simp -implicitDefEqProofs [-loopQ_n]) <;> (repeat' (first | ((first | refine condD_dec ?_ ?_ | refine guardD_dec ?_ ?_) <;> (intro hc; (try simp -implicitDefEqProofs [-loopQ_n, hc]))) | ((first | refine condD_intro ?_ ?_ | refine guardD_intro ?_ ?_) <;> (intro hd; have hc := hd; (try simp at hc) <;> (try simp -implicitDefEqProofs [-loopQ_n, hd, hc]))) | (refine ldD_ep ?_ ?_; (focus kernel_rfl); (try simp -implicitDefEqProofs [-loopQ_n])))))
  unfold cI
  refine pure_of mixed Tryz.func32 rfl (by kernel_rfl) (of_decide_eq_true rfl) (by kernel_rfl) (vc_run ?_)
  by_cases c1 : a < b
  · ((try simp -implicitDefEqProofs [-loopQ_n, c1]) <;> (repeat' (first | ((first | refine condD_dec ?_ ?_ | refine guardD_dec ?_ ?_) <;> (intro hc; (try simp -implicitDefEqProofs [-loopQ_n, hc, c1]))) | ((first | refine condD_intro ?_ ?_ | refine guardD_intro ?_ ?_) <;> (intro hd; have hc := hd; (try simp at hc) <;> (try simp -implicitDefEqProofs [-loopQ_n, hd, hc, c1]))) | ((first | (refine ldD_ep ?_ ?_; (focus kernel_rfl)) | (refine callS_mk ?_; (try simp -implicitDefEqProofs [-loopQ_n, c1]); (first | refine callS_intro (hn _) (.inl rfl) ?_))); (try simp -implicitDefEqProofs [-loopQ_n, c1])))))
  · by_cases c2 : b < a
    · ((try simp -implicitDefEqProofs [-loopQ_n, c1, c2]) <;> (repeat' (first | ((first | refine condD_dec ?_ ?_ | refine guardD_dec ?_ ?_) <;> (intro hc; (try simp -implicitDefEqProofs [-loopQ_n, hc, c1, c2]))) | ((first | refine condD_intro ?_ ?_ | refine guardD_intro ?_ ?_) <;> (intro hd; have hc := hd; (try simp at hc) <;> (try simp -implicitDefEqProofs [-loopQ_n, hd, hc, c1, c2]))) | ((first | (refine ldD_ep ?_ ?_; (focus kernel_rfl)) | (refine callS_mk ?_; (try simp -implicitDefEqProofs [-loopQ_n, c1, c2]); (first | refine callS_intro (hn _) (.inl rfl) ?_))); (try simp -implicitDefEqProofs [-loopQ_n, c1, c2])))))
    · ((try simp -implicitDefEqProofs [-loopQ_n, c1, c2]) <;> (repeat' (first | ((first | refine condD_dec ?_ ?_ | refine guardD_dec ?_ ?_) <;> (intro hc; (try simp -implicitDefEqProofs [-loopQ_n, hc, c1, c2]))) | ((first | refine condD_intro ?_ ?_ | refine guardD_intro ?_ ?_) <;> (intro hd; have hc := hd; (try simp at hc) <;> (try simp -implicitDefEqProofs [-loopQ_n, hd, hc, c1, c2]))) | ((first | (refine ldD_ep ?_ ?_; (focus kernel_rfl)) | (refine callS_mk ?_; (try simp -implicitDefEqProofs [-loopQ_n, c1, c2]); (first | refine callS_intro (hn _) (.inl rfl) ?_))); (try simp -implicitDefEqProofs [-loopQ_n, c1, c2])))))
theorem or2_pure (a b : Int) : Pure Tryz.prog 31 [.rs (rowsOf intC [a, b])] (.int .i64 (if a = 0 then b else a)) := by
  refine pure_of mixed Tryz.func31 rfl (by kernel_rfl) (of_decide_eq_true rfl) (by kernel_rfl) (vc_run ?_)
  ((try simp -implicitDefEqProofs [-loopQ_n]) <;> (repeat' (first | ((first | refine condD_dec ?_ ?_ | refine guardD_dec ?_ ?_) <;> (intro hc; (try simp -implicitDefEqProofs [-loopQ_n, hc]))) | ((first | refine condD_intro ?_ ?_ | refine guardD_intro ?_ ?_) <;> (intro hd; have hc := hd; (try simp at hc) <;> (try simp -implicitDefEqProofs [-loopQ_n, hd, hc]))) | (refine ldD_ep ?_ ?_; (focus kernel_rfl); (try simp -implicitDefEqProofs [-loopQ_n])))))
  refine loop_intro (σ := Nat) (fun i => ⟨[(3, .int .i64 0), (6, .rs (rowsOf intC [a, b])), (7, .int .i64 2), (8, .int .i64 i)], []⟩) (fun i => i ≤ 2 ∧ (1 ≤ i → a = 0) ∧ (2 ≤ i → b = 0)) (fun i => 2 - i) 0 (by simp) ?_ ?_
  · refine weak_of 0 0 rfl rfl ?_ ?_ <;> simp
  rintro i ⟨h1, h2, h3⟩
  by_cases h : i < 2
  · have w1 : wrapI .i64 ((i : Int) + 1) = ((i + 1 : Nat) : Int) := by rw [wrap_in (by omega) (by omega)]; omega
    have u1 : wrapI .i64 1 = 1 := wrap_in (by omega) (by omega)
    have u2 : wrapI .i64 2 = 2 := wrap_in (by omega) (by omega)
    match i, h with
    | 0, _ =>
      by_cases c : a = 0
      · subst c
        ((try simp -implicitDefEqProofs [-loopQ_n, w1, rowsOf, intC]) <;> (repeat' (first | ((first | refine condD_dec ?_ ?_ | refine guardD_dec ?_ ?_) <;> (intro hc; (try simp -implicitDefEqProofs [-loopQ_n, hc, w1, rowsOf, intC]))) | ((first | refine condD_intro ?_ ?_ | refine guardD_intro ?_ ?_) <;> (intro hd; have hc := hd; (try simp at hc) <;> (try simp -implicitDefEqProofs [-loopQ_n, hd, hc, w1, rowsOf, intC]))) | (refine ldD_ep ?_ ?_; (focus kernel_rfl); (try simp -implicitDefEqProofs [-loopQ_n, w1, rowsOf, intC])))))
        refine loop_next 1 ⟨by omega, by simp⟩ (by omega) (weak_of 0 0 rfl rfl ?_ ?_) <;> simp [u1]
      · ((try simp -implicitDefEqProofs [-loopQ_n, w1, rowsOf, intC, c]) <;> (repeat' (first | ((first | refine condD_dec ?_ ?_ | refine guardD_dec ?_ ?_) <;> (intro hc; (try simp -implicitDefEqProofs [-loopQ_n, hc, w1, rowsOf, intC, c]))) | ((first | refine condD_intro ?_ ?_ | refine guardD_intro ?_ ?_) <;> (intro hd; have hc := hd; (try simp at hc) <;> (try simp -implicitDefEqProofs [-loopQ_n, hd, hc, w1, rowsOf, intC, c]))) | (refine ldD_ep ?_ ?_; (focus kernel_rfl); (try simp -implicitDefEqProofs [-loopQ_n, w1, rowsOf, intC, c])))))
    | 1, _ =>
      have ha := h2 (by omega)
      subst ha
      by_cases c : b = 0
      · subst c
        ((try simp -implicitDefEqProofs [-loopQ_n, w1, rowsOf, intC]) <;> (repeat' (first | ((first | refine condD_dec ?_ ?_ | refine guardD_dec ?_ ?_) <;> (intro hc; (try simp -implicitDefEqProofs [-loopQ_n, hc, w1, rowsOf, intC]))) | ((first | refine condD_intro ?_ ?_ | refine guardD_intro ?_ ?_) <;> (intro hd; have hc := hd; (try simp at hc) <;> (try simp -implicitDefEqProofs [-loopQ_n, hd, hc, w1, rowsOf, intC]))) | (refine ldD_ep ?_ ?_; (focus kernel_rfl); (try simp -implicitDefEqProofs [-loopQ_n, w1, rowsOf, intC])))))
        refine loop_next 2 (by omega) (by omega) (weak_of 0 0 rfl rfl ?_ ?_) <;> simp [u2]
      · ((try simp -implicitDefEqProofs [-loopQ_n, w1, rowsOf, intC, c]) <;> (repeat' (first | ((first | refine condD_dec ?_ ?_ | refine guardD_dec ?_ ?_) <;> (intro hc; (try simp -implicitDefEqProofs [-loopQ_n, hc, w1, rowsOf, intC, c]))) | ((first | refine condD_intro ?_ ?_ | refine guardD_intro ?_ ?_) <;> (intro hd; have hc := hd; (try simp at hc) <;> (try simp -implicitDefEqProofs [-loopQ_n, hd, hc, w1, rowsOf, intC, c]))) | (refine ldD_ep ?_ ?_; (focus kernel_rfl); (try simp -implicitDefEqProofs [-loopQ_n, w1, rowsOf, intC, c])))))
  · have e : i = 2 := by omega
    subst e
    have ha := h2 (by omega)
    have hb := h3 (by omega)
    subst ha hb
    ((try simp -implicitDefEqProofs [-loopQ_n]) <;> (repeat' (first | ((first | refine condD_dec ?_ ?_ | refine guardD_dec ?_ ?_) <;> (intro hc; (try simp -implicitDefEqProofs [-loopQ_n, hc]))) | ((first | refine condD_intro ?_ ?_ | refine guardD_intro ?_ ?_) <;> (intro hd; have hc := hd; (try simp at hc) <;> (try simp -implicitDefEqProofs [-loopQ_n, hd, hc]))) | (refine ldD_ep ?_ ?_; (focus kernel_rfl); (try simp -implicitDefEqProofs [-loopQ_n])))))
theorem rows1_pure {l : List Ins} (x y : Ix l) : Pure Tryz.prog 34 [.int .i64 (x.i : Int), .int .i64 (y.i : Int), .rp [.rs (rowsOf insC l)]] (.int .i64 (cX x y)) := by
  obtain ⟨i, hi⟩ := x
  obtain ⟨k, hk⟩ := y
  obtain ⟨a, ha⟩ : ∃ a, frI (spsI l) i = a := ⟨_, rfl⟩
  obtain ⟨b, hb⟩ : ∃ b, toI (spsI l) i = b := ⟨_, rfl⟩
  obtain ⟨c, hc⟩ : ∃ c, frI (spsI l) k = c := ⟨_, rfl⟩
  obtain ⟨d, hd⟩ : ∃ d, toI (spsI l) k = d := ⟨_, rfl⟩
  have e : cX (l := l) ⟨i, hi⟩ ⟨k, hk⟩ = if cI a c = 0 then cI b d else cI a c := by simp only [cX, ha, hb, hc, hd]
  rw [e]
  rw [frI_at hi] at ha
  rw [toI_at hi] at hb
  rw [frI_at hk] at hc
  rw [toI_at hk] at hd
  obtain ⟨⟨cs, ac, re, t1, t2, t3⟩, hf⟩ : ∃ e, l[i] = e := ⟨_, rfl⟩
  obtain ⟨⟨cs', ac', re', t1', t2', t3'⟩, hg⟩ : ∃ e, l[k] = e := ⟨_, rfl⟩
  rw [hf] at ha hb
  rw [hg] at hc hd
  simp only at ha hb hc hd
  subst ha hb hc hd
  have hO := or2_pure (cI t2 t2') (cI t3 t3')
  simp only [rowsOf, intC, List.map_cons, List.map_nil] at hO
  have hr2 : ([0, 1] : List Nat) = List.range 2 := rfl
  refine pure_of mixed Tryz.func34 rfl (by kernel_rfl) (of_decide_eq_true rfl) (by kernel_rfl) (vc_run ?_)
  ((try simp -implicitDefEqProofs [-loopQ_n, hi, hk, hf, hg, insC]) <;> (repeat' (first | ((first | refine condD_dec ?_ ?_ | refine guardD_dec ?_ ?_) <;> (intro hc; (try simp -implicitDefEqProofs [-loopQ_n, hc, hi, hk, hf, hg, insC]))) | ((first | refine condD_intro ?_ ?_ | refine guardD_intro ?_ ?_) <;> (intro hd; have hc := hd; (try simp at hc) <;> (try simp -implicitDefEqProofs [-loopQ_n, hd, hc, hi, hk, hf, hg, insC]))) | ((first | (refine ldD_ep ?_ ?_; (focus kernel_rfl)) | (refine callS_mk ?_; (try simp -implicitDefEqProofs [-loopQ_n, hi, hk, hf, hg, insC]); (first | refine callS_intro (cmpI_pure t2 t2') (.inl rfl) ?_ | refine callS_intro (cmpI_pure t3 t3') (.inl rfl) ?_ | refine callS_intro (hO) (.inl rfl) ?_))); (try simp -implicitDefEqProofs [-loopQ_n, hi, hk, hf, hg, insC])))))
theorem rows2_pure {l : List Ins} (t : Int) (i : Nat) (hi : i < l.length) : Pure Tryz.prog 36 [.int .i64 t, .rp [.rs (rowsOf insC l)], .rp [.int .i64 (i : Int)]] (.bool (decide (t ≤ frI (spsI l) i))) := by
  rw [frI_at hi]
  obtain ⟨⟨cs, ac, re, t1, t2, t3⟩, hf⟩ : ∃ e, l[i] = e := ⟨_, rfl⟩
  rw [hf]
  refine pure_of mixed Tryz.func36 rfl (by kernel_rfl) (of_decide_eq_true rfl) (by kernel_rfl) (vc_run ?_)
  ((try simp -implicitDefEqProofs [-loopQ_n, hi, hf, insC]) <;> (repeat' (first | ((first | refine condD_dec ?_ ?_ | refine guardD_dec ?_ ?_) <;> (intro hc; (try simp -implicitDefEqProofs [-loopQ_n, hc, hi, hf, insC]))) | ((first | refine condD_intro ?_ ?_ | refine guardD_intro ?_ ?_) <;> (intro hd; have hc := hd; (try simp at hc) <;> (try simp -implicitDefEqProofs [-loopQ_n, hd, hc, hi, hf, insC]))) | (refine ldD_ep ?_ ?_; (focus kernel_rfl); (try simp -implicitDefEqProofs [-loopQ_n, hi, hf, insC])))))
end Go.Proofs.YthiclaihlpkinaaGreat
namespace Go.Proofs.YthiclaihlpkinaaGreat
open Go.RowKit
variable [Glob]
open Stab
/-- Numbers, as a row holds them. -/
def nC (x : Nat) : List AV := [.int .i64 (x : Int)]
theorem nC_snoc {l : List Nat} {n : Nat} : rowsOf nC l ++ [[.int .i64 (n : Int)]] = rowsOf nC (l ++ [n]) := by simp [rowsOf, nC]
theorem nC_refs {m : Nat} {l : List Nat} : refsR m (rowsOf nC l) = true := rowsOf_refs fun x => by simp [nC, refs]
theorem rowX_nC {li : List Ins} {X : List (Ix li)} : rowsOf ixC X = rowsOf nC (X.map Ix.i) := by simp [rowsOf, ixC, nC]
theorem int_set {l : List Int} {i : Nat} {n : Int} : (rowsOf intC l).set i [.int .i64 n] = rowsOf intC (l.set i n) := by simp [rowsOf, intC, List.map_set]
theorem ints_idx {p : Int → Bool} {l : List Int} {g : Nat} {caps : List AV} (hp : ∀ x ∈ l, Pure Tryz.prog g (.int .i64 x :: caps) (.bool (p x))) (hc : ∀ H k, caps.mapM (reify H (k + 5)) = some caps) (hf : refsL 0 caps = true) (hl : l.length ≤ 9223372036854775807) :
    Pure Tryz.prog 35 [.rs (rowsOf intC l), .fn g caps] (.int .i64 (idxOf p l)) := by
  refine pure_of mixed Tryz.func35 rfl (by kernel_rfl) (of_decide_eq_true rfl) (by kernel_rfl) (vc_run ?_)
  simp -implicitDefEqProofs []
  refine loop_intro (σ := Nat) (fun i => ⟨[(0, .rs (rowsOf intC l)), (1, .fn g caps), (7, .int .i64 l.length), (8, .int .i64 i)], []⟩) (fun i => i ≤ l.length ∧ allF p (l.take i)) (fun i => l.length - i) 0 ⟨Nat.zero_le _, allF_nil⟩ ?_ ?_
  · refine weak_of 0 0 rfl rfl ?_ ?_ <;> simp [hf]
  · rintro i ⟨hi, hall⟩
    by_cases h : i < l.length
    · simp -implicitDefEqProofs [h, intC]
      have hc8 : ∀ H, caps.mapM (reify H 8) = some caps := fun H => hc H 3
      refine call_intro (hp l[i] (by simp)) (by simp -implicitDefEqProofs [hc8, intC]) (.inl rfl) ?_
      by_cases hpx : p l[i] = true
      · simp -implicitDefEqProofs [hpx]
        exact (idxOf_some p l i h hall hpx).symm
      · have hpx : p l[i] = false := by simpa using hpx
        simp -implicitDefEqProofs [hpx]
        refine ⟨i + 1, ⟨by omega, allF_succ hall h hpx⟩, by omega, weak_of 0 0 rfl rfl ?_ ?_⟩
        · simp [hf]
          exact (wrap_in (by omega) (by omega)).symm
        · simp
    · simp -implicitDefEqProofs [h]
      rw [idxOf_none p l (allF_all hall h)]
def rowsR (l : List Ins) : List Int × Int := if insL l = true then ((rowsL (spsI l)).1, 0) else ([], 1)
theorem prop_drop {sp : List Sp} {n i : Nat} (hi : i < n) : ((List.range n).drop i).filter (prp sp) = (if prp sp i = true then [i] else []) ++ ((List.range n).drop (i + 1)).filter (prp sp) := by
  rw [List.drop_eq_getElem_cons (by simpa using hi), List.filter_cons]
  simp only [List.getElem_range]
  split <;> simp
theorem row_idx {u : List Int} {a : Int} : (u.findIdx? (fun t => decide (t ≤ a)) = none ∧ rowOf u a = u.length) ∨ ∃ k, k < u.length ∧ u.findIdx? (fun t => decide (t ≤ a)) = some k ∧ rowOf u a = k := by
  cases h : u.findIdx? fun t => decide (t ≤ a) with
  | none =>
    refine .inl ⟨rfl, ?_⟩
    unfold rowOf
    rw [List.findIdx_eq_length]
    rwa [List.findIdx?_eq_none_iff] at h
  | some k =>
    refine .inr ⟨k, ?_⟩
    have h' := h
    rw [List.findIdx?_eq_some_iff_findIdx_eq] at h'
    exact ⟨h'.1, rfl, h'.2⟩
/-- The order that sorting gives. -/
theorem ord_sorted {l : List Ins} {X Y : List (Ix l)} (hX : X.map Ix.i = propL (spsI l)) (h1 : Srtd (ltCX cX) Y) (h2 : Stb (ltCX cX) X Y) : Y.map Ix.i = ordL' (spsI l) :=
  ordI_uniq ⟨srtd_map _ cX_lt h1, by rw [← hX]; exact stb_map _ cX_swo (swoI _) cX_lt h2⟩ (ordL_ok _)
set_option maxHeartbeats 8000000 in
theorem rows_pure (l : List Ins) (hl : l.length ≤ 9223372036854775807) : Pure Tryz.prog 12 [.rs (rowsOf insC l)] (intsO (rowsR l)) := by
  refine pure_of mixed Tryz.func12 rfl (by kernel_rfl) (of_decide_eq_true rfl) (by kernel_rfl) (vc_run ?_)
  by_cases hV : insL l = true
  rotate_left
  · rw [rowsR, if_neg hV]
    have hV : insL l = false := by simpa using hV
    ((try simp -implicitDefEqProofs [-loopQ_n, hV, intsO, rowsOf_nil]) <;> (repeat' (first | ((first | refine condD_dec ?_ ?_ | refine guardD_dec ?_ ?_) <;> (intro hc; (try simp -implicitDefEqProofs [-loopQ_n, hc, hV, intsO, rowsOf_nil]))) | ((first | refine condD_intro ?_ ?_ | refine guardD_intro ?_ ?_) <;> (intro hd; have hc := hd; (try simp at hc) <;> (try simp -implicitDefEqProofs [-loopQ_n, hd, hc, hV, intsO, rowsOf_nil]))) | ((first | (refine ldD_ep ?_ ?_; (focus kernel_rfl)) | (refine callS_mk ?_; (try simp -implicitDefEqProofs [-loopQ_n, hV, intsO, rowsOf_nil]); (first | refine callS_intro (svalid_pure l hl) (.inl rfl) ?_))); (try simp -implicitDefEqProofs [-loopQ_n, hV, intsO, rowsOf_nil])))))
  rw [rowsR, if_pos hV]
  obtain ⟨hl2, hm⟩ := insL_mem hV
  have hP : ((List.range l.length).drop 0).filter (prp (spsI l)) = propL (spsI l) := by rw [propL, spsI_len]; rfl
  have hpl : ∀ i ∈ propL (spsI l), i < l.length := fun i hi => by
    obtain ⟨s, h, _⟩ := propL_mem.1 hi
    have := (List.getElem?_eq_some_iff.1 h).1
    rwa [spsI_len] at this
  have hpN : (propL (spsI l)).length ≤ l.length := by
    rw [propL, spsI_len]
    refine Nat.le_trans (List.length_filter_le _ _) (by simp)
  obtain ⟨X, hX⟩ := ix_of _ hpl
  obtain ⟨P, hPP⟩ : ∃ P, propL (spsI l) = P := ⟨_, rfl⟩
  rw [hPP] at hP hpl hpN
  ((try simp -implicitDefEqProofs [-loopQ_n, hV]) <;> (repeat' (first | ((first | refine condD_dec ?_ ?_ | refine guardD_dec ?_ ?_) <;> (intro hc; (try simp -implicitDefEqProofs [-loopQ_n, hc, hV]))) | ((first | refine condD_intro ?_ ?_ | refine guardD_intro ?_ ?_) <;> (intro hd; have hc := hd; (try simp at hc) <;> (try simp -implicitDefEqProofs [-loopQ_n, hd, hc, hV]))) | ((first | (refine ldD_ep ?_ ?_; (focus kernel_rfl)) | (refine callS_mk ?_; (try simp -implicitDefEqProofs [-loopQ_n, hV]); (first | refine callS_intro (svalid_pure l hl) (.inl rfl) ?_))); (try simp -implicitDefEqProofs [-loopQ_n, hV])))))
  refine loop_intro (σ := Nat × List Nat) (fun x => ⟨[(1, .op 0 0), (4, .os 1 x.2.length), (15, .rs (rowsOf insC l)), (16, .int .i64 l.length), (17, .int .i64 x.1)], [.box 38 [.rs (rowsOf insC l)], .row 3 true (rowsOf nC x.2)]⟩) (fun x => x.1 ≤ l.length ∧ x.2.length ≤ x.1 ∧ x.2 ++ ((List.range l.length).drop x.1).filter (prp (spsI l)) = P) (fun x => l.length - x.1) (0, []) ⟨by simp, by simp, by simpa using hP⟩ ?_ ?_
  · refine weak_of 1 1 rfl rfl ?_ ?_ <;> simp [ins_refs, rowsOf_nil]
  rintro ⟨i, acc⟩ ⟨hi, hal, hR⟩
  simp only at hi hal hR
  by_cases h : i < l.length
  · have w1 := w_succ' h (by omega)
    have hpr := prp_at h
    rw [prop_drop h] at hR
    obtain ⟨⟨cs, a, r, t1, t2, t3⟩, hf⟩ : ∃ e, l[i] = e := ⟨_, rfl⟩
    rw [hf] at hpr
    simp only at hpr
    have hl1 : acc.length ≤ 1073741823 := by omega
    by_cases c1 : t2 < t3
    · rw [if_pos (by rw [hpr]; simpa using c1)] at hR
      ((try simp -implicitDefEqProofs [-loopQ_n, h, hf, insC, c1, w1, hl1, nC_snoc]) <;> (repeat' (first | ((first | refine condD_dec ?_ ?_ | refine guardD_dec ?_ ?_) <;> (intro hc; (try simp -implicitDefEqProofs [-loopQ_n, hc, h, hf, insC, c1, w1, hl1, nC_snoc]))) | ((first | refine condD_intro ?_ ?_ | refine guardD_intro ?_ ?_) <;> (intro hd; have hc := hd; (try simp at hc) <;> (try simp -implicitDefEqProofs [-loopQ_n, hd, hc, h, hf, insC, c1, w1, hl1, nC_snoc]))) | (refine ldD_ep ?_ ?_; (focus kernel_rfl); (try simp -implicitDefEqProofs [-loopQ_n, h, hf, insC, c1, w1, hl1, nC_snoc])))))
      refine loop_next (i + 1, acc ++ [i]) ⟨h, by simp; omega, by simpa using hR⟩ (by simp only; omega) (weak_of 2 0 rfl rfl ?_ ?_) <;> simp [ins_refs, nC_refs]
    · rw [if_neg (by rw [hpr]; simpa using c1)] at hR
      ((try simp -implicitDefEqProofs [-loopQ_n, h, hf, insC, c1, w1]) <;> (repeat' (first | ((first | refine condD_dec ?_ ?_ | refine guardD_dec ?_ ?_) <;> (intro hc; (try simp -implicitDefEqProofs [-loopQ_n, hc, h, hf, insC, c1, w1]))) | ((first | refine condD_intro ?_ ?_ | refine guardD_intro ?_ ?_) <;> (intro hd; have hc := hd; (try simp at hc) <;> (try simp -implicitDefEqProofs [-loopQ_n, hd, hc, h, hf, insC, c1, w1]))) | (refine ldD_ep ?_ ?_; (focus kernel_rfl); (try simp -implicitDefEqProofs [-loopQ_n, h, hf, insC, c1, w1])))))
      refine loop_next (i + 1, acc) ⟨h, by simp only; omega, by simpa using hR⟩ (by simp only; omega) (weak_of 2 0 rfl rfl ?_ ?_) <;> simp [ins_refs, nC_refs]
  have hi : i = l.length := by omega
  rw [List.drop_eq_nil_of_le (by simpa using hi ▸ Nat.le_refl _), List.filter_nil, List.append_nil] at hR
  subst hR
  have hXl : X.length = acc.length := by rw [← List.length_map (f := Ix.i), hX, hPP]
  have hXr : rowsOf nC acc = rowsOf ixC X := by rw [rowX_nC, hX, hPP]
  have hG := sstable_GX (li := l) 34 cX rows1_pure cX_swo (fun A P Q B h1 h2 h3 h4 h5 => sym_allX _ cX rows1_pure cX_swo _ A P Q B (Nat.le_refl _) h1 h2 h3 h4 h5) X acc.length hXl (by omega)
  rw [hXr]
  ((try simp -implicitDefEqProofs [-loopQ_n, h]) <;> (repeat' (first | ((first | refine condD_dec ?_ ?_ | refine guardD_dec ?_ ?_) <;> (intro hc; (try simp -implicitDefEqProofs [-loopQ_n, hc, h]))) | ((first | refine condD_intro ?_ ?_ | refine guardD_intro ?_ ?_) <;> (intro hd; have hc := hd; (try simp at hc) <;> (try simp -implicitDefEqProofs [-loopQ_n, hd, hc, h]))) | (refine ldD_ep ?_ ?_; (focus kernel_rfl); (try simp -implicitDefEqProofs [-loopQ_n, h])))))
  refine callG_intro (hG.weaken ?_)
  rintro _ _ ⟨rfl, Y, rfl, hY1, hY2⟩
  have hYo := ord_sorted hX hY1 hY2
  rw [show rowX Y = .row 3 true (rowsOf nC (ordL' (spsI l))) by rw [rowX, rowX_nC, hYo]]
  have hol : (ordL' (spsI l)).length = acc.length := by rw [← hYo, List.length_map, ← hY2.1, hXl]
  have hoi : ∀ i ∈ ordL' (spsI l), i < l.length := fun i hi => by
    rw [← hYo] at hi
    obtain ⟨y, _, rfl⟩ := List.mem_map.1 hi
    exact y.lt
  obtain ⟨R, hRR⟩ : ∃ R, rowsL (spsI l) = R := ⟨_, rfl⟩
  rw [hRR]
  rw [rowsL, spsI_len] at hRR
  generalize ordL' (spsI l) = o at *
  have hon : o.length ≤ 2000 := by omega
  rw [← hol]
  clear hol hXl hXr hG hY1 hY2 hYo hPP hP hX hal hpN hpl
  have hli : (l.length : Int) ≤ 1073741824 := by omega
  have hli2 : l.length ≤ 1073741824 := by omega
  have hrep : List.replicate l.length [AV.int .i64 0] = rowsOf intC (List.replicate l.length 0) := by simp [rowsOf, intC]
  ((try simp -implicitDefEqProofs [-loopQ_n, hli, hli2, hrep]) <;> (repeat' (first | ((first | refine condD_dec ?_ ?_ | refine guardD_dec ?_ ?_) <;> (intro hc; (try simp -implicitDefEqProofs [-loopQ_n, hc, hli, hli2, hrep]))) | ((first | refine condD_intro ?_ ?_ | refine guardD_intro ?_ ?_) <;> (intro hd; have hc := hd; (try simp at hc) <;> (try simp -implicitDefEqProofs [-loopQ_n, hd, hc, hli, hli2, hrep]))) | (refine ldD_ep ?_ ?_; (focus kernel_rfl); (try simp -implicitDefEqProofs [-loopQ_n, hli, hli2, hrep])))))
  refine loop_intro (σ := Nat × List Int × List Int) (fun x => ⟨[(1, .op 0 0), (7, .os 2 l.length), (8, .os 3 x.2.2.length), (38, .os 1 o.length), (39, .int .i64 o.length), (40, .int .i64 x.1)], [bxI l, .row 3 true (rowsOf nC o), .row 3 false (rowsOf intC x.2.1), .row 3 true (rowsOf intC x.2.2)]⟩)
    (fun x => x.1 ≤ o.length ∧ x.2.1.length = l.length ∧ x.2.2.length ≤ x.1 ∧ (o.drop x.1).foldl (stepR (spsI l)) x.2 = R) (fun x => o.length - x.1) (0, List.replicate l.length 0, []) ⟨by simp, by simp, by simp, by simpa using hRR⟩ ?_ ?_
  · refine weak_of 3 1 rfl rfl ?_ ?_ <;> simp [ins_refs, nC_refs, int_refs, rowsOf_nil]
  rintro ⟨k, out, u⟩ ⟨hk, hol, hul, hR⟩
  simp only at hk hol hul hR
  by_cases h : k < o.length
  · have w1 := w_succ' h (by omega)
    have hi := hoi _ (List.getElem_mem h)
    obtain ⟨j, hj⟩ : ∃ j, o[k] = j := ⟨_, rfl⟩
    rw [hj] at hi
    have hI := ints_idx (p := fun t => decide (t ≤ frI (spsI l) j)) (l := u) (g := 36) (caps := [.rp [.rs (rowsOf insC l)], .rp [.int .i64 (j : Int)]]) (fun x _ => rows2_pure x j hi) (fun H k => by simp [ins_reify]) (by simp [refs, ins_refs]) (by omega)
    rw [List.drop_eq_getElem_cons h, List.foldl_cons, hj] at hR
    have hto := toI_at hi
    obtain ⟨⟨cs, a, r, t1, t2, t3⟩, hf⟩ : ∃ e, l[j] = e := ⟨_, rfl⟩
    rw [hf] at hto
    simp only at hto
    rcases row_idx (u := u) (a := frI (spsI l) j) with ⟨f1, f2⟩ | ⟨q, hq, f1, f2⟩
    · have hx : idxOf (fun t => decide (t ≤ frI (spsI l) j)) u = -1 := by simp [idxOf, f1]
      rw [hx] at hI
      have hu1 : u.length ≤ 1073741823 := by omega
      have hR2 : (o.drop (k + 1)).foldl (stepR (spsI l)) (out.set j (u.length : Int), u ++ [t3]) = R := by
        rw [← hR]; simp [stepR, f2, hto]
      have hs : (u ++ [(0 : Int)]).set u.length t3 = u ++ [t3] := by simp
      ((try simp -implicitDefEqProofs [-loopQ_n, h, hj, hi, hf, hol, hs, insC, nC, w1, hu1, int_snoc, int_set, ins_reify, int_reify]) <;> (repeat' (first | ((first | refine condD_dec ?_ ?_ | refine guardD_dec ?_ ?_) <;> (intro hc; (try simp -implicitDefEqProofs [-loopQ_n, hc, h, hj, hi, hf, hol, hs, insC, nC, w1, hu1, int_snoc, int_set, ins_reify, int_reify]))) | ((first | refine condD_intro ?_ ?_ | refine guardD_intro ?_ ?_) <;> (intro hd; have hc := hd; (try simp at hc) <;> (try simp -implicitDefEqProofs [-loopQ_n, hd, hc, h, hj, hi, hf, hol, hs, insC, nC, w1, hu1, int_snoc, int_set, ins_reify, int_reify]))) | ((first | (refine ldD_ep ?_ ?_; (focus kernel_rfl)) | (refine callS_mk ?_; (try simp -implicitDefEqProofs [-loopQ_n, h, hj, hi, hf, hol, hs, insC, nC, w1, hu1, int_snoc, int_set, ins_reify, int_reify]); (first | refine callS_intro (hI) (.inl rfl) ?_))); (try simp -implicitDefEqProofs [-loopQ_n, h, hj, hi, hf, hol, hs, insC, nC, w1, hu1, int_snoc, int_set, ins_reify, int_reify])))))
      refine loop_next (k + 1, out.set j (u.length : Int), u ++ [t3]) ⟨h, by simpa using hol, by simp; omega, hR2⟩ (by simp only; omega) (weak_of 4 0 rfl rfl ?_ ?_) <;> simp [ins_refs, nC_refs, int_refs, w1]
    · have hx : idxOf (fun t => decide (t ≤ frI (spsI l) j)) u = q := by simp [idxOf, f1]
      rw [hx] at hI
      have n1 : ¬ (q : Int) < 0 := by omega
      have hR2 : (o.drop (k + 1)).foldl (stepR (spsI l)) (out.set j (q : Int), u.set q t3) = R := by
        rw [← hR]; simp [stepR, f2, hto, hq]
      ((try simp -implicitDefEqProofs [-loopQ_n, h, hj, hi, hf, hol, insC, nC, w1, hq, n1, int_set, ins_reify, int_reify]) <;> (repeat' (first | ((first | refine condD_dec ?_ ?_ | refine guardD_dec ?_ ?_) <;> (intro hc; (try simp -implicitDefEqProofs [-loopQ_n, hc, h, hj, hi, hf, hol, insC, nC, w1, hq, n1, int_set, ins_reify, int_reify]))) | ((first | refine condD_intro ?_ ?_ | refine guardD_intro ?_ ?_) <;> (intro hd; have hc := hd; (try simp at hc) <;> (try simp -implicitDefEqProofs [-loopQ_n, hd, hc, h, hj, hi, hf, hol, insC, nC, w1, hq, n1, int_set, ins_reify, int_reify]))) | ((first | (refine ldD_ep ?_ ?_; (focus kernel_rfl)) | (refine callS_mk ?_; (try simp -implicitDefEqProofs [-loopQ_n, h, hj, hi, hf, hol, insC, nC, w1, hq, n1, int_set, ins_reify, int_reify]); (first | refine callS_intro (hI) (.inl rfl) ?_))); (try simp -implicitDefEqProofs [-loopQ_n, h, hj, hi, hf, hol, insC, nC, w1, hq, n1, int_set, ins_reify, int_reify])))))
      refine loop_next (k + 1, out.set j (q : Int), u.set q t3) ⟨h, by simpa using hol, by simp; omega, hR2⟩ (by simp only; omega) (weak_of 4 0 rfl rfl ?_ ?_) <;> simp [ins_refs, nC_refs, int_refs, w1]
  · rw [List.drop_eq_nil_of_le (by omega), List.foldl_nil] at hR
    subst hR
    ((try simp -implicitDefEqProofs [-loopQ_n, h, hol, intsO, int_reify]) <;> (repeat' (first | ((first | refine condD_dec ?_ ?_ | refine guardD_dec ?_ ?_) <;> (intro hc; (try simp -implicitDefEqProofs [-loopQ_n, hc, h, hol, intsO, int_reify]))) | ((first | refine condD_intro ?_ ?_ | refine guardD_intro ?_ ?_) <;> (intro hd; have hc := hd; (try simp at hc) <;> (try simp -implicitDefEqProofs [-loopQ_n, hd, hc, h, hol, intsO, int_reify]))) | (refine ldD_ep ?_ ?_; (focus kernel_rfl); (try simp -implicitDefEqProofs [-loopQ_n, h, hol, intsO, int_reify])))))
end Go.Proofs.YthiclaihlpkinaaGreat
