/- A union has the minutes of its spans, and no others, in spans that do not touch; the order of the spans does not matter; busy times are at most the sum of the times of the instances (the law SpansUnions holds for every input; no condition). -/
import Derived.Test.YtfbpjlabhckoeaaRows
import Derived.Test.YtfbpjlabhckoeaaSpnA
import Derived.Test.YtfbpjlabhckoeaaSpnV
import Derived.Test.YtfbpjlabhckoeaaSpnK
import Derived.Test.YtfbpjlabhckoeaaSpnD
import Derived.Test.YtfbpjlabhckoeaaAbMv
namespace Go.Proofs.Ytfbpjlabhckoeaa.lawSUnions
set_option linter.unusedSimpArgs false
set_option linter.unusedVariables false
set_option linter.unnecessarySimpa false
set_option linter.unusedSectionVars false
open Go.ChangeShapes Go.WideShapes Go.ChangeAt Go.RowKit Go.Joins Go.Deep
section
variable [Glob]
set_option maxRecDepth 100000
/-! Plain facts. -/
theorem uni_ok {s : List Sp} (h1 : s.length ≤ 1000) (h2 : s.all spV = true) : uniR s = (unionL s, 0) := by rw [uniR, if_pos ⟨h1, h2⟩]
theorem all_v {s : List Sp} (h2 : s.all spV = true) : ∀ x ∈ s, 0 ≤ x.f ∧ x.f < x.t := fun x hx => by
  have := List.all_eq_true.1 h2 x hx
  rw [spV_iff] at this; omega
theorem uni_all {s : List Sp} (h2 : s.all spV = true) : (unionL s).all spV = true := by
  obtain ⟨hg, _⟩ := unionL_spec (all_v h2)
  have he : ∀ x ∈ unionL s, x.t ≤ 1099511627776 := union_end _ _ (fun x hx => by have := List.all_eq_true.1 h2 x hx; rw [spV_iff] at this; omega) (by simp)
  rw [List.all_eq_true]
  intro x hx
  have h3 := gapV_mem hg hx
  have h4 := he x hx
  rw [spV_iff]; omega
/-- The longest instance of a resource, and the sum of all. -/
def ownT (res : ByteArray) (x : Ins) : Int := if eqR x.res res = true then x.to_ - x.from_ else 0
def sumT (res : ByteArray) : List Ins → Int
  | [] => 0
  | x :: r => ownT res x + sumT res r
theorem tot_sum {res : ByteArray} : ∀ {l : List Ins}, (∀ x ∈ l, x.from_ ≤ x.to_) → totL (activeL (ofRes res l)) = sumT res l := by
  intro l
  induction l with
  | nil => intro _; rfl
  | cons x r ih =>
    intro h
    have hx := h x (by simp)
    have ih := ih fun y hy => h y (by simp [hy])
    unfold ofRes activeL at *
    rw [List.filter_cons]
    by_cases hr : eqR x.res res = true
    · rw [if_pos hr, List.filterMap_cons]
      by_cases hp : x.from_ < x.to_
      · have : actS x = some ⟨x.from_, x.to_⟩ := by simp [actS, hp]
        rw [this]
        simp only [totL, sumT, ownT, hr, if_true, ih]
      · have : actS x = none := by simp [actS, hp]
        rw [this]
        simp only [sumT, ownT, hr, if_true, ih]; omega
    · rw [if_neg hr]
      have hr : eqR x.res res = false := by simpa using hr
      simp only [sumT, ownT, hr, Bool.false_eq_true, if_false, ih]; omega
theorem busy_le {res : ByteArray} {l : List Ins} (h : ∀ x ∈ l, insV x = true) : totL (unionL (activeL (ofRes res l))) ≤ sumT res l := by
  have hok := active_ok (l := ofRes res l) fun x hx => h x (List.mem_filter.1 hx).1
  have := union_tot (activeL (ofRes res l)) [] rfl fun s hs => by have := hok s hs; omega
  rw [tot_sum fun x hx => by have := insV_bd (h x hx); omega] at this
  simpa [totL, unionL] using this
theorem busy_ge {res : ByteArray} {l : List Ins} (h : ∀ x ∈ l, insV x = true) {x : Ins} (hx : x ∈ l) : ownT res x ≤ totL (unionL (activeL (ofRes res l))) := by
  have hok := active_ok (l := ofRes res l) fun x hx => h x (List.mem_filter.1 hx).1
  have hv : ∀ s ∈ activeL (ofRes res l), 0 ≤ s.f ∧ s.f < s.t := fun s hs => by have := hok s hs; omega
  have hnn := totL_nn (unionL_spec hv).1
  unfold ownT
  split
  · rename_i hr
    by_cases hp : x.from_ < x.to_
    · have hm : (⟨x.from_, x.to_⟩ : Sp) ∈ activeL (ofRes res l) := List.mem_filterMap.2 ⟨x, List.mem_filter.2 ⟨hx, hr⟩, by simp [actS, hp]⟩
      exact union_long hv hm
    · omega
  · exact hnn
/-! The walk. -/
theorem gap_idx : ∀ {p : Int} {u : List Sp} {j : Nat}, gapV p u = true → (h : j + 1 < u.length) → u[j].t < u[j + 1].f := by
  intro p u
  induction u generalizing p with
  | nil => intro j _ h; simp at h
  | cons s r ih =>
    intro j h hj
    rw [gapV_cons] at h
    cases j with
    | zero =>
      cases r with
      | nil => simp at hj
      | cons y r => have := gapV_mem h.2.2 (List.mem_cons_self (a := y)); simpa using this.1
    | succ j => simpa using ih h.2.2 (by simpa using hj)
theorem sps_own {l : List Sp} : ∀ r ∈ rowsOf spC l, ∀ c ∈ r, owns c = false := rowsOf_owns' fun x c hc => by simp [spC] at hc; rcases hc with rfl | rfl <;> rfl
theorem pts (x : Sp) : rowsOf intC [x.f - 1, x.f, x.t - 1, x.t] = [[.int .i64 (x.f - 1)], [.int .i64 x.f], [.int .i64 (x.t - 1)], [.int .i64 x.t]] := rfl
theorem lst_own {ls : List (List Sp)} : ∀ r ∈ rowsOf (lstC spC) ls, ∀ c ∈ r, owns c = false := rowsOf_owns' fun x c hc => by simp [lstC] at hc; subst hc; rfl
set_option maxHeartbeats 16000000 in
theorem main (s : List Sp) (l : List Ins) (res : ByteArray) (ls : s.length ≤ 9223372036854775807) (ll : l.length ≤ 9223372036854775807) : Pure Try.prog 8 [.rs (rowsOf spC s), .rs (rowsOf insC l), .str res] (.bool true) := by
  by_cases h40 : (40 : Int) < s.length
  · skip
    refine pure_of mixed Try.func8 rfl (by kernel_rfl) (of_decide_eq_true rfl) (by kernel_rfl) (vc_run ?_)
    ((try simp -implicitDefEqProofs [-loopQ_n, h40]) <;> (repeat' (first | (refine condD_dec ?_ ?_ <;> (intro hc; (try simp -implicitDefEqProofs [-loopQ_n, hc, h40]))) | (refine guardD_dec ?_ ?_ <;> (intro hc; (try simp -implicitDefEqProofs [-loopQ_n, hc, h40]))) | (refine condD_intro ?_ ?_ <;> (intro hd; have hc := hd; (try simp at hc) <;> (try simp -implicitDefEqProofs [-loopQ_n, hd, hc, h40]))) | (refine guardD_intro ?_ ?_ <;> (intro hd; have hc := hd; (try simp at hc) <;> (try simp -implicitDefEqProofs [-loopQ_n, hd, hc, h40]))) | (refine ldD_ep ?_ ?_; (focus kernel_rfl); (try simp -implicitDefEqProofs [-loopQ_n, h40])) | (refine callS_mk ?_; (try simp -implicitDefEqProofs [-loopQ_n, h40]); (first | refine callS_intro (awake_pure) (.inl rfl) ?_ | refine callS_intro (sfew_pure l ll) (.inl rfl) ?_); (try simp -implicitDefEqProofs [-loopQ_n, h40])))))
  by_cases hF : fewI l = true
  rotate_left
  · have hF : fewI l = false := by simpa using hF
    refine pure_of mixed Try.func8 rfl (by kernel_rfl) (of_decide_eq_true rfl) (by kernel_rfl) (vc_run ?_)
    ((try simp -implicitDefEqProofs [-loopQ_n, h40, hF]) <;> (repeat' (first | (refine condD_dec ?_ ?_ <;> (intro hc; (try simp -implicitDefEqProofs [-loopQ_n, hc, h40, hF]))) | (refine guardD_dec ?_ ?_ <;> (intro hc; (try simp -implicitDefEqProofs [-loopQ_n, hc, h40, hF]))) | (refine condD_intro ?_ ?_ <;> (intro hd; have hc := hd; (try simp at hc) <;> (try simp -implicitDefEqProofs [-loopQ_n, hd, hc, h40, hF]))) | (refine guardD_intro ?_ ?_ <;> (intro hd; have hc := hd; (try simp at hc) <;> (try simp -implicitDefEqProofs [-loopQ_n, hd, hc, h40, hF]))) | (refine ldD_ep ?_ ?_; (focus kernel_rfl); (try simp -implicitDefEqProofs [-loopQ_n, h40, hF])) | (refine callS_mk ?_; (try simp -implicitDefEqProofs [-loopQ_n, h40, hF]); (first | refine callS_intro (awake_pure) (.inl rfl) ?_ | refine callS_intro (sfew_pure l ll) (.inl rfl) ?_); (try simp -implicitDefEqProofs [-loopQ_n, h40, hF])))))
  by_cases h41 : (40 : Int) < l.length
  · skip
    refine pure_of mixed Try.func8 rfl (by kernel_rfl) (of_decide_eq_true rfl) (by kernel_rfl) (vc_run ?_)
    ((try simp -implicitDefEqProofs [-loopQ_n, h40, hF, h41]) <;> (repeat' (first | (refine condD_dec ?_ ?_ <;> (intro hc; (try simp -implicitDefEqProofs [-loopQ_n, hc, h40, hF, h41]))) | (refine guardD_dec ?_ ?_ <;> (intro hc; (try simp -implicitDefEqProofs [-loopQ_n, hc, h40, hF, h41]))) | (refine condD_intro ?_ ?_ <;> (intro hd; have hc := hd; (try simp at hc) <;> (try simp -implicitDefEqProofs [-loopQ_n, hd, hc, h40, hF, h41]))) | (refine guardD_intro ?_ ?_ <;> (intro hd; have hc := hd; (try simp at hc) <;> (try simp -implicitDefEqProofs [-loopQ_n, hd, hc, h40, hF, h41]))) | (refine ldD_ep ?_ ?_; (focus kernel_rfl); (try simp -implicitDefEqProofs [-loopQ_n, h40, hF, h41])) | (refine callS_mk ?_; (try simp -implicitDefEqProofs [-loopQ_n, h40, hF, h41]); (first | refine callS_intro (awake_pure) (.inl rfl) ?_ | refine callS_intro (sfew_pure l ll) (.inl rfl) ?_); (try simp -implicitDefEqProofs [-loopQ_n, h40, hF, h41])))))
  by_cases h100 : (100 : Int) < res.size
  · skip
    refine pure_of mixed Try.func8 rfl (by kernel_rfl) (of_decide_eq_true rfl) (by kernel_rfl) (vc_run ?_)
    ((try simp -implicitDefEqProofs [-loopQ_n, h40, hF, h41, h100]) <;> (repeat' (first | (refine condD_dec ?_ ?_ <;> (intro hc; (try simp -implicitDefEqProofs [-loopQ_n, hc, h40, hF, h41, h100]))) | (refine guardD_dec ?_ ?_ <;> (intro hc; (try simp -implicitDefEqProofs [-loopQ_n, hc, h40, hF, h41, h100]))) | (refine condD_intro ?_ ?_ <;> (intro hd; have hc := hd; (try simp at hc) <;> (try simp -implicitDefEqProofs [-loopQ_n, hd, hc, h40, hF, h41, h100]))) | (refine guardD_intro ?_ ?_ <;> (intro hd; have hc := hd; (try simp at hc) <;> (try simp -implicitDefEqProofs [-loopQ_n, hd, hc, h40, hF, h41, h100]))) | (refine ldD_ep ?_ ?_; (focus kernel_rfl); (try simp -implicitDefEqProofs [-loopQ_n, h40, hF, h41, h100])) | (refine callS_mk ?_; (try simp -implicitDefEqProofs [-loopQ_n, h40, hF, h41, h100]); (first | refine callS_intro (awake_pure) (.inl rfl) ?_ | refine callS_intro (sfew_pure l ll) (.inl rfl) ?_); (try simp -implicitDefEqProofs [-loopQ_n, h40, hF, h41, h100])))))
  have hU := union_pure s ls
  by_cases hv : s.all spV = true
  rotate_left
  · rw [uniR, if_neg (fun q => hv q.2)] at hU
    simp only [spsO, rowsOf_nil] at hU
    refine pure_of mixed Try.func8 rfl (by kernel_rfl) (of_decide_eq_true rfl) (by kernel_rfl) (vc_run ?_)
    ((try simp -implicitDefEqProofs [-loopQ_n, h40, hF, h41, h100]) <;> (repeat' (first | (refine condD_dec ?_ ?_ <;> (intro hc; (try simp -implicitDefEqProofs [-loopQ_n, hc, h40, hF, h41, h100]))) | (refine guardD_dec ?_ ?_ <;> (intro hc; (try simp -implicitDefEqProofs [-loopQ_n, hc, h40, hF, h41, h100]))) | (refine condD_intro ?_ ?_ <;> (intro hd; have hc := hd; (try simp at hc) <;> (try simp -implicitDefEqProofs [-loopQ_n, hd, hc, h40, hF, h41, h100]))) | (refine guardD_intro ?_ ?_ <;> (intro hd; have hc := hd; (try simp at hc) <;> (try simp -implicitDefEqProofs [-loopQ_n, hd, hc, h40, hF, h41, h100]))) | (refine ldD_ep ?_ ?_; (focus kernel_rfl); (try simp -implicitDefEqProofs [-loopQ_n, h40, hF, h41, h100])) | (refine callS_mk ?_; (try simp -implicitDefEqProofs [-loopQ_n, h40, hF, h41, h100]); (first | refine callS_intro (awake_pure) (.inl rfl) ?_ | refine callS_intro (sfew_pure l ll) (.inl rfl) ?_ | refine callS_intro (hU) (.inl rfl) ?_); (try simp -implicitDefEqProofs [-loopQ_n, h40, hF, h41, h100])))))
  have hs40 : s.length ≤ 40 := by omega
  rw [uni_ok (by omega) hv] at hU
  have hrv : (s.reverse).all spV = true := by rw [List.all_reverse]; exact hv
  have hR := union_pure s.reverse (by simp; omega)
  rw [uni_ok (by simp; omega) hrv, union_perm (List.reverse_perm s) (all_v hv)] at hR
  have hul : (unionL s).length ≤ s.length := unionL_len
  have hA := union_pure (unionL s) (by omega)
  rw [uni_ok (by omega) (uni_all hv), union_again (all_v hv)] at hA
  have hE := eqSp_pure (unionL s) (unionL s) (by omega) (by omega)
  rw [decide_eq_true rfl] at hE
  obtain ⟨hg, hw⟩ := unionL_spec (all_v hv)
  have hua := uni_all hv
  have hcat := concatS_pure [s, unionL s] (by simp) (by simp; omega)
  have hfl : [s, unionL s].flatten = s ++ unionL s := by simp
  rw [hfl] at hcat
  have hcv : ∀ x ∈ s ++ unionL s, spV x = true := fun x hx => (List.mem_append.1 hx).elim (fun h => List.all_eq_true.1 hv x h) (fun h => List.all_eq_true.1 hua x h)
  have hcl : (s ++ unionL s).length ≤ 80 := by simp; omega
  have hB := busy_pure l res ll
  have hcase : (insL l = true ∧ (busyR l res).2 = 0 ∧ (busyR l res).1 ≤ sumT res l ∧ 0 ≤ (busyR l res).1 ∧ ∀ x ∈ l, ownT res x ≤ (busyR l res).1) ∨ ((busyR l res).2 = 1 ∧ (busyR l res).1 = 0) := by
    by_cases hI : insL l = true
    · have hm := (insL_mem hI).2
      have e : busyR l res = (totL (unionL (activeL (ofRes res l))), 0) := by rw [busyR, if_pos hI]
      rw [e]
      have hok := active_ok (l := ofRes res l) fun x hx => hm x (List.mem_filter.1 hx).1
      exact .inl ⟨hI, rfl, busy_le hm, totL_nn (unionL_spec (l := activeL (ofRes res l)) fun s hs => by have := hok s hs; omega).1, fun x hx => busy_ge hm hx⟩
    · have e : busyR l res = (0, 1) := by rw [busyR, if_neg hI]
      rw [e]
      exact .inr ⟨rfl, rfl⟩
  obtain ⟨N, hN⟩ : ∃ N, (busyR l res).1 = N := ⟨_, rfl⟩
  obtain ⟨e0, he0⟩ : ∃ e, (busyR l res).2 = e := ⟨_, rfl⟩
  rw [hN, he0] at hB hcase
  generalize unionL s = u at *
  generalize hcs : s ++ u = q at *
  have hin := fun t => inU_pure s t ls
  have hinu := fun t => inU_pure u t (by omega)
  simp only [spsO] at hU hR hA
  refine pure_of mixed Try.func8 rfl (by kernel_rfl) (of_decide_eq_true rfl) (by kernel_rfl) (vc_run ?_)
  ((try simp -implicitDefEqProofs [-loopQ_n, h40, hF, h41, h100]) <;> (repeat' (first | (refine condD_dec ?_ ?_ <;> (intro hc; (try simp -implicitDefEqProofs [-loopQ_n, hc, h40, hF, h41, h100]))) | (refine guardD_dec ?_ ?_ <;> (intro hc; (try simp -implicitDefEqProofs [-loopQ_n, hc, h40, hF, h41, h100]))) | (refine condD_intro ?_ ?_ <;> (intro hd; have hc := hd; (try simp at hc) <;> (try simp -implicitDefEqProofs [-loopQ_n, hd, hc, h40, hF, h41, h100]))) | (refine guardD_intro ?_ ?_ <;> (intro hd; have hc := hd; (try simp at hc) <;> (try simp -implicitDefEqProofs [-loopQ_n, hd, hc, h40, hF, h41, h100]))) | (refine ldD_ep ?_ ?_; (focus kernel_rfl); (try simp -implicitDefEqProofs [-loopQ_n, h40, hF, h41, h100])) | (refine callS_mk ?_; (try simp -implicitDefEqProofs [-loopQ_n, h40, hF, h41, h100]); (first | refine callS_intro (awake_pure) (.inl rfl) ?_ | refine callS_intro (sfew_pure l ll) (.inl rfl) ?_ | refine callS_intro (hU) (.inr ⟨rfl, rfl⟩) ?_); (try simp -implicitDefEqProofs [-loopQ_n, h40, hF, h41, h100])))))
  refine callG_intro (cloneSp_G s (by omega) fun nb => ?_)
  ((try simp -implicitDefEqProofs [-loopQ_n]) <;> (repeat' (first | (refine condD_dec ?_ ?_ <;> (intro hc; (try simp -implicitDefEqProofs [-loopQ_n, hc]))) | (refine guardD_dec ?_ ?_ <;> (intro hc; (try simp -implicitDefEqProofs [-loopQ_n, hc]))) | (refine condD_intro ?_ ?_ <;> (intro hd; have hc := hd; (try simp at hc) <;> (try simp -implicitDefEqProofs [-loopQ_n, hd, hc]))) | (refine guardD_intro ?_ ?_ <;> (intro hd; have hc := hd; (try simp at hc) <;> (try simp -implicitDefEqProofs [-loopQ_n, hd, hc]))) | (refine ldD_ep ?_ ?_; (focus kernel_rfl); (try simp -implicitDefEqProofs [-loopQ_n])))))
  refine callG_intro ((rev_G nb s (by omega)).weaken ?_)
  rintro _ _ ⟨rfl, rfl⟩
  ((try simp -implicitDefEqProofs [-loopQ_n]) <;> (repeat' (first | (refine condD_dec ?_ ?_ <;> (intro hc; (try simp -implicitDefEqProofs [-loopQ_n, hc]))) | (refine guardD_dec ?_ ?_ <;> (intro hc; (try simp -implicitDefEqProofs [-loopQ_n, hc]))) | (refine condD_intro ?_ ?_ <;> (intro hd; have hc := hd; (try simp at hc) <;> (try simp -implicitDefEqProofs [-loopQ_n, hd, hc]))) | (refine guardD_intro ?_ ?_ <;> (intro hd; have hc := hd; (try simp at hc) <;> (try simp -implicitDefEqProofs [-loopQ_n, hd, hc]))) | (refine ldD_ep ?_ ?_; (focus kernel_rfl); (try simp -implicitDefEqProofs [-loopQ_n])))))
  refine callG_intro (frz_G (id := 0) hR rfl sps_own ?_ rfl ?_)
  · simp [frL, frA]
  ((try simp -implicitDefEqProofs [-loopQ_n, frH, frB, frL, frA]) <;> (repeat' (first | (refine condD_dec ?_ ?_ <;> (intro hc; (try simp -implicitDefEqProofs [-loopQ_n, hc, frH, frB, frL, frA]))) | (refine guardD_dec ?_ ?_ <;> (intro hc; (try simp -implicitDefEqProofs [-loopQ_n, hc, frH, frB, frL, frA]))) | (refine condD_intro ?_ ?_ <;> (intro hd; have hc := hd; (try simp at hc) <;> (try simp -implicitDefEqProofs [-loopQ_n, hd, hc, frH, frB, frL, frA]))) | (refine guardD_intro ?_ ?_ <;> (intro hd; have hc := hd; (try simp at hc) <;> (try simp -implicitDefEqProofs [-loopQ_n, hd, hc, frH, frB, frL, frA]))) | (refine ldD_ep ?_ ?_; (focus kernel_rfl); (try simp -implicitDefEqProofs [-loopQ_n, frH, frB, frL, frA])) | (refine callS_mk ?_; (try simp -implicitDefEqProofs [-loopQ_n, frH, frB, frL, frA]); (first | refine callS_intro (hA) (.inr ⟨rfl, rfl⟩) ?_ | refine callS_intro (hE) (.inl rfl) ?_); (try simp -implicitDefEqProofs [-loopQ_n, frH, frB, frL, frA])))))
  refine loop_intro (σ := Nat) (fun i => ⟨[(0, .rs (rowsOf spC s)), (1, .rs (rowsOf insC l)), (2, .str res), (7, .rs (rowsOf spC u)), (14, .fn 38 []), (89, .rs (rowsOf spC u)), (90, .int .i64 u.length), (91, .int .i64 i)], []⟩) (fun i => i ≤ u.length) (fun i => u.length - i) 0 (by simp) ?_ ?_
  · refine weak_of 0 0 rfl rfl ?_ ?_ <;> simp [sp_refs, ins_refs]
  · intro i hi
    by_cases h : i < u.length
    · have w1 := w_succ' h (by omega)
      have hux := List.all_eq_true.1 hua u[i] (List.getElem_mem h)
      obtain ⟨⟨f, t⟩, hf⟩ : ∃ e, u[i] = e := ⟨_, rfl⟩
      rw [hf] at hux
      have hvs := validSpan_pure f t
      rw [hux] at hvs
      cases i with
      | zero =>
        have h' : (0 : Int) < u.length := by omega
        have w5 : wrapI .i64 1 = 1 := wrap_in (by omega) (by omega)
        ((try simp -implicitDefEqProofs [-loopQ_n, h, h', hf, spC, w5]) <;> (repeat' (first | (refine condD_dec ?_ ?_ <;> (intro hc; (try simp -implicitDefEqProofs [-loopQ_n, hc, h, h', hf, spC, w5]))) | (refine guardD_dec ?_ ?_ <;> (intro hc; (try simp -implicitDefEqProofs [-loopQ_n, hc, h, h', hf, spC, w5]))) | (refine condD_intro ?_ ?_ <;> (intro hd; have hc := hd; (try simp at hc) <;> (try simp -implicitDefEqProofs [-loopQ_n, hd, hc, h, h', hf, spC, w5]))) | (refine guardD_intro ?_ ?_ <;> (intro hd; have hc := hd; (try simp at hc) <;> (try simp -implicitDefEqProofs [-loopQ_n, hd, hc, h, h', hf, spC, w5]))) | (refine ldD_ep ?_ ?_; (focus kernel_rfl); (try simp -implicitDefEqProofs [-loopQ_n, h, h', hf, spC, w5])) | (refine callS_mk ?_; (try simp -implicitDefEqProofs [-loopQ_n, h, h', hf, spC, w5]); (first | refine callS_intro (hvs) (.inl rfl) ?_); (try simp -implicitDefEqProofs [-loopQ_n, h, h', hf, spC, w5])))))
        refine loop_next 1 (by omega) (by omega) (weak_of 0 0 rfl rfl ?_ ?_) <;> simp [sp_refs, ins_refs]
      | succ j =>
        have hj : j < u.length := by omega
        have hgp := gap_idx hg h
        obtain ⟨⟨f2, t2⟩, hf2⟩ : ∃ e, u[j] = e := ⟨_, rfl⟩
        rw [hf, hf2] at hgp
        have c1 : ¬ f ≤ t2 := by simp only at hgp; omega
        have w2 : wrapI .i64 ((j : Int) + 1 - 1) = (j : Int) := by rw [wrap_in (by omega) (by omega)]; omega
        have w3 : wrapI .i64 (j : Int) = (j : Int) := wrap_in (by omega) (by omega)
        have p0 : (0 : Int) < (j : Int) + 1 := by omega
        have h' : (j : Int) + 1 < u.length := by omega
        have p1 : (0 : Int) ≤ (j : Int) + 1 := by omega
        have w6 : wrapI .i64 ((j : Int) + 1 + 1) = (j : Int) + 1 + 1 := wrap_in (by omega) (by omega)
        ((try simp -implicitDefEqProofs [-loopQ_n, h, h', hf, hj, hf2, spC, c1, w1, w2, w3, p0, p1]) <;> (repeat' (first | (refine condD_dec ?_ ?_ <;> (intro hc; (try simp -implicitDefEqProofs [-loopQ_n, hc, h, h', hf, hj, hf2, spC, c1, w1, w2, w3, p0, p1]))) | (refine guardD_dec ?_ ?_ <;> (intro hc; (try simp -implicitDefEqProofs [-loopQ_n, hc, h, h', hf, hj, hf2, spC, c1, w1, w2, w3, p0, p1]))) | (refine condD_intro ?_ ?_ <;> (intro hd; have hc := hd; (try simp at hc) <;> (try simp -implicitDefEqProofs [-loopQ_n, hd, hc, h, h', hf, hj, hf2, spC, c1, w1, w2, w3, p0, p1]))) | (refine guardD_intro ?_ ?_ <;> (intro hd; have hc := hd; (try simp at hc) <;> (try simp -implicitDefEqProofs [-loopQ_n, hd, hc, h, h', hf, hj, hf2, spC, c1, w1, w2, w3, p0, p1]))) | (refine ldD_ep ?_ ?_; (focus kernel_rfl); (try simp -implicitDefEqProofs [-loopQ_n, h, h', hf, hj, hf2, spC, c1, w1, w2, w3, p0, p1])) | (refine callS_mk ?_; (try simp -implicitDefEqProofs [-loopQ_n, h, h', hf, hj, hf2, spC, c1, w1, w2, w3, p0, p1]); (first | refine callS_intro (hvs) (.inl rfl) ?_); (try simp -implicitDefEqProofs [-loopQ_n, h, h', hf, hj, hf2, spC, c1, w1, w2, w3, p0, p1])))))
        refine loop_next (j + 1 + 1) (by omega) (by omega) (weak_of 0 0 rfl rfl ?_ ?_) <;> simp [sp_refs, ins_refs, w6]
    have hr2 : ([0, 1] : List Nat) = List.range 2 := rfl
    ((try simp -implicitDefEqProofs [-loopQ_n, h, hr2]) <;> (repeat' (first | (refine condD_dec ?_ ?_ <;> (intro hc; (try simp -implicitDefEqProofs [-loopQ_n, hc, h, hr2]))) | (refine guardD_dec ?_ ?_ <;> (intro hc; (try simp -implicitDefEqProofs [-loopQ_n, hc, h, hr2]))) | (refine condD_intro ?_ ?_ <;> (intro hd; have hc := hd; (try simp at hc) <;> (try simp -implicitDefEqProofs [-loopQ_n, hd, hc, h, hr2]))) | (refine guardD_intro ?_ ?_ <;> (intro hd; have hc := hd; (try simp at hc) <;> (try simp -implicitDefEqProofs [-loopQ_n, hd, hc, h, hr2]))) | (refine ldD_ep ?_ ?_; (focus kernel_rfl); (try simp -implicitDefEqProofs [-loopQ_n, h, hr2])))))
    refine callG_intro (frz_G (id := 0) hcat rfl (lst_own (ls := [s, u])) ?_ rfl ?_)
    · simp [frL, frA, rowsOf, lstC]
    ((try simp -implicitDefEqProofs [-loopQ_n, frH, frB, frL, frA]) <;> (repeat' (first | (refine condD_dec ?_ ?_ <;> (intro hc; (try simp -implicitDefEqProofs [-loopQ_n, hc, frH, frB, frL, frA]))) | (refine guardD_dec ?_ ?_ <;> (intro hc; (try simp -implicitDefEqProofs [-loopQ_n, hc, frH, frB, frL, frA]))) | (refine condD_intro ?_ ?_ <;> (intro hd; have hc := hd; (try simp at hc) <;> (try simp -implicitDefEqProofs [-loopQ_n, hd, hc, frH, frB, frL, frA]))) | (refine guardD_intro ?_ ?_ <;> (intro hd; have hc := hd; (try simp at hc) <;> (try simp -implicitDefEqProofs [-loopQ_n, hd, hc, frH, frB, frL, frA]))) | (refine ldD_ep ?_ ?_; (focus kernel_rfl); (try simp -implicitDefEqProofs [-loopQ_n, frH, frB, frL, frA])))))
    refine loop_intro (σ := Nat) (fun i => ⟨[(0, .rs (rowsOf spC s)), (1, .rs (rowsOf insC l)), (2, .str res), (7, .rs (rowsOf spC u)), (14, .fn 38 []), (118, .rs (rowsOf spC q)), (119, .int .i64 q.length), (120, .int .i64 i)], []⟩) (fun i => i ≤ q.length) (fun i => q.length - i) 0 (by simp) ?_ ?_
    · refine weak_of 0 0 rfl rfl ?_ ?_ <;> simp [sp_refs, ins_refs]
    intro i hi
    by_cases h2 : i < q.length
    · have w1 := w_succ' h2 (by omega)
      have hqx := hcv q[i] (List.getElem_mem h2)
      obtain ⟨⟨f, t⟩, hf⟩ : ∃ e, q[i] = e := ⟨_, rfl⟩
      rw [hf, spV_iff] at hqx
      simp only at hqx
      have w2 : wrapI .i64 (f - 1) = f - 1 := wrap_in (by omega) (by omega)
      have w3 : wrapI .i64 (t - 1) = t - 1 := wrap_in (by omega) (by omega)
      have hr4 : ([0, 1, 2, 3] : List Nat) = List.range 4 := rfl
      ((try simp -implicitDefEqProofs [-loopQ_n, h2, hf, spC, w2, w3, hr4]) <;> (repeat' (first | (refine condD_dec ?_ ?_ <;> (intro hc; (try simp -implicitDefEqProofs [-loopQ_n, hc, h2, hf, spC, w2, w3, hr4]))) | (refine guardD_dec ?_ ?_ <;> (intro hc; (try simp -implicitDefEqProofs [-loopQ_n, hc, h2, hf, spC, w2, w3, hr4]))) | (refine condD_intro ?_ ?_ <;> (intro hd; have hc := hd; (try simp at hc) <;> (try simp -implicitDefEqProofs [-loopQ_n, hd, hc, h2, hf, spC, w2, w3, hr4]))) | (refine guardD_intro ?_ ?_ <;> (intro hd; have hc := hd; (try simp at hc) <;> (try simp -implicitDefEqProofs [-loopQ_n, hd, hc, h2, hf, spC, w2, w3, hr4]))) | (refine ldD_ep ?_ ?_; (focus kernel_rfl); (try simp -implicitDefEqProofs [-loopQ_n, h2, hf, spC, w2, w3, hr4])))))
      refine loop_intro (σ := Nat) (fun k => ⟨[(0, .rs (rowsOf spC s)), (1, .rs (rowsOf insC l)), (2, .str res), (7, .rs (rowsOf spC u)), (14, .fn 38 []), (118, .rs (rowsOf spC q)), (119, .int .i64 q.length), (120, .int .i64 i), (134, .os 1 4), (135, .int .i64 4), (136, .int .i64 k)], [.gone, .row 3 false (rowsOf intC [f - 1, f, t - 1, t])]⟩) (fun k => k ≤ 4) (fun k => 4 - k) 0 (by simp) ?_ ?_
      · refine weak_of 2 0 rfl rfl ?_ ?_ <;> simp [sp_refs, ins_refs, rowsOf, intC]
      intro k hk
      by_cases h3 : k < 4
      · have h3' : (k : Int) < 4 := by omega
        have w4 : wrapI .i64 ((k : Int) + 1) = (k : Int) + 1 := wrap_in (by omega) (by omega)
        obtain ⟨P, hP⟩ : ∃ P, [f - 1, f, t - 1, t] = P := ⟨_, rfl⟩
        have hPl : P.length = 4 := by rw [← hP]; rfl
        rw [hP]
        have hkP : k < P.length := by omega
        obtain ⟨z, hz⟩ : ∃ z, P[k] = z := ⟨_, rfl⟩
        have e1 := hin z
        have e2 := hinu z
        rw [hw z] at e2
        generalize openW z s = o at e1 e2
        ((try simp -implicitDefEqProofs [-loopQ_n, h3, h3', hPl, hkP, hz, w4]) <;> (repeat' (first | (refine condD_dec ?_ ?_ <;> (intro hc; (try simp -implicitDefEqProofs [-loopQ_n, hc, h3, h3', hPl, hkP, hz, w4]))) | (refine guardD_dec ?_ ?_ <;> (intro hc; (try simp -implicitDefEqProofs [-loopQ_n, hc, h3, h3', hPl, hkP, hz, w4]))) | (refine condD_intro ?_ ?_ <;> (intro hd; have hc := hd; (try simp at hc) <;> (try simp -implicitDefEqProofs [-loopQ_n, hd, hc, h3, h3', hPl, hkP, hz, w4]))) | (refine guardD_intro ?_ ?_ <;> (intro hd; have hc := hd; (try simp at hc) <;> (try simp -implicitDefEqProofs [-loopQ_n, hd, hc, h3, h3', hPl, hkP, hz, w4]))) | (refine ldD_ep ?_ ?_; (focus kernel_rfl); (try simp -implicitDefEqProofs [-loopQ_n, h3, h3', hPl, hkP, hz, w4])) | (refine callS_mk ?_; (try simp -implicitDefEqProofs [-loopQ_n, h3, h3', hPl, hkP, hz, w4]); (first | refine callS_intro (e1) (.inl rfl) ?_ | refine callS_intro (e2) (.inl rfl) ?_); (try simp -implicitDefEqProofs [-loopQ_n, h3, h3', hPl, hkP, hz, w4])))))
        refine loop_next (k + 1) (by omega) (by omega) (weak_of 2 0 rfl rfl ?_ ?_) <;> simp [sp_refs, ins_refs, int_refs]
      · have h3' : ¬ (k : Int) < 4 := by omega
        ((try simp -implicitDefEqProofs [-loopQ_n, h3']) <;> (repeat' (first | (refine condD_dec ?_ ?_ <;> (intro hc; (try simp -implicitDefEqProofs [-loopQ_n, hc, h3']))) | (refine guardD_dec ?_ ?_ <;> (intro hc; (try simp -implicitDefEqProofs [-loopQ_n, hc, h3']))) | (refine condD_intro ?_ ?_ <;> (intro hd; have hc := hd; (try simp at hc) <;> (try simp -implicitDefEqProofs [-loopQ_n, hd, hc, h3']))) | (refine guardD_intro ?_ ?_ <;> (intro hd; have hc := hd; (try simp at hc) <;> (try simp -implicitDefEqProofs [-loopQ_n, hd, hc, h3']))) | (refine ldD_ep ?_ ?_; (focus kernel_rfl); (try simp -implicitDefEqProofs [-loopQ_n, h3'])))))
        refine loop_next (i + 1) (by omega) (by omega) (weak_of 0 0 rfl rfl ?_ ?_) <;> simp [sp_refs, ins_refs, w1]
    · ((try simp -implicitDefEqProofs [-loopQ_n, h2]) <;> (repeat' (first | (refine condD_dec ?_ ?_ <;> (intro hc; (try simp -implicitDefEqProofs [-loopQ_n, hc, h2]))) | (refine guardD_dec ?_ ?_ <;> (intro hc; (try simp -implicitDefEqProofs [-loopQ_n, hc, h2]))) | (refine condD_intro ?_ ?_ <;> (intro hd; have hc := hd; (try simp at hc) <;> (try simp -implicitDefEqProofs [-loopQ_n, hd, hc, h2]))) | (refine guardD_intro ?_ ?_ <;> (intro hd; have hc := hd; (try simp at hc) <;> (try simp -implicitDefEqProofs [-loopQ_n, hd, hc, h2]))) | (refine ldD_ep ?_ ?_; (focus kernel_rfl); (try simp -implicitDefEqProofs [-loopQ_n, h2])) | (refine callS_mk ?_; (try simp -implicitDefEqProofs [-loopQ_n, h2]); (first | refine callS_intro (hB) (.inl rfl) ?_); (try simp -implicitDefEqProofs [-loopQ_n, h2])))))
      rcases hcase with ⟨hI, rfl, hle, h0N, hge⟩ | ⟨rfl, rfl⟩
      · have hm := (insL_mem hI).2
        refine loop_intro (σ := Nat × Int × Int) (fun x => ⟨[(2, .str res), (21, .int .i64 N), (22, .int .i64 0), (23, .int .i64 x.2.1), (24, .int .i64 x.2.2), (157, .rs (rowsOf insC l)), (158, .int .i64 l.length), (159, .int .i64 x.1)], []⟩) (fun x => x.1 ≤ l.length ∧ x.2.1 + sumT res (l.drop x.1) = sumT res l ∧ 0 ≤ x.2.1 ∧ x.2.1 ≤ x.1 * 1099511627776 ∧ x.2.2 ≤ N) (fun x => l.length - x.1) (0, 0, 0) ⟨by simp, by simp, by simp, by simp, h0N⟩ ?_ ?_
        · refine weak_of 0 0 rfl rfl ?_ ?_ <;> simp [sp_refs, ins_refs]
        rintro ⟨k, sm, lg⟩ ⟨hk, hR, h0s, hsb, hlg⟩
        simp only at hk hR h0s hsb hlg
        by_cases h3 : k < l.length
        · have w1 := w_succ' h3 (by omega)
          have hgx := hge l[k] (List.getElem_mem h3)
          have hvx := insV_bd (hm l[k] (List.getElem_mem h3))
          rw [List.drop_eq_getElem_cons h3, sumT] at hR
          obtain ⟨⟨c, a, r, t1, t2, t3⟩, hf⟩ : ∃ e, l[k] = e := ⟨_, rfl⟩
          rw [hf] at hgx hvx hR
          simp only at hvx
          by_cases hr : r.toList = res.toList
          · have ho : ownT res ⟨c, a, r, t1, t2, t3⟩ = t3 - t2 := by simp [ownT, eqR, hr]
            rw [ho] at hgx hR
            have w2 : wrapI .i64 (t3 - t2) = t3 - t2 := wrap_in (by omega) (by omega)
            have w3 : wrapI .i64 (sm + (t3 - t2)) = sm + (t3 - t2) := wrap_in (by omega) (by omega)
            ((try simp -implicitDefEqProofs [-loopQ_n, h3, hf, insC, hr, w1, w2, w3]) <;> (repeat' (first | (refine condD_dec ?_ ?_ <;> (intro hc; (try simp -implicitDefEqProofs [-loopQ_n, hc, h3, hf, insC, hr, w1, w2, w3]))) | (refine guardD_dec ?_ ?_ <;> (intro hc; (try simp -implicitDefEqProofs [-loopQ_n, hc, h3, hf, insC, hr, w1, w2, w3]))) | (refine condD_intro ?_ ?_ <;> (intro hd; have hc := hd; (try simp at hc) <;> (try simp -implicitDefEqProofs [-loopQ_n, hd, hc, h3, hf, insC, hr, w1, w2, w3]))) | (refine guardD_intro ?_ ?_ <;> (intro hd; have hc := hd; (try simp at hc) <;> (try simp -implicitDefEqProofs [-loopQ_n, hd, hc, h3, hf, insC, hr, w1, w2, w3]))) | (refine ldD_ep ?_ ?_; (focus kernel_rfl); (try simp -implicitDefEqProofs [-loopQ_n, h3, hf, insC, hr, w1, w2, w3])))))
            refine loop_next (k + 1, sm + (t3 - t2), if lg < t3 - t2 then t3 - t2 else lg) ⟨h3, by simp only; omega, by simp only; omega, by simp only; omega, by simp only; split <;> omega⟩ (by simp only; omega) (weak_of 0 0 rfl rfl ?_ ?_) <;> simp [sp_refs, ins_refs]
          · have ho : ownT res ⟨c, a, r, t1, t2, t3⟩ = 0 := by simp [ownT, eqR, hr]
            rw [ho] at hR
            ((try simp -implicitDefEqProofs [-loopQ_n, h3, hf, insC, hr, w1]) <;> (repeat' (first | (refine condD_dec ?_ ?_ <;> (intro hc; (try simp -implicitDefEqProofs [-loopQ_n, hc, h3, hf, insC, hr, w1]))) | (refine guardD_dec ?_ ?_ <;> (intro hc; (try simp -implicitDefEqProofs [-loopQ_n, hc, h3, hf, insC, hr, w1]))) | (refine condD_intro ?_ ?_ <;> (intro hd; have hc := hd; (try simp at hc) <;> (try simp -implicitDefEqProofs [-loopQ_n, hd, hc, h3, hf, insC, hr, w1]))) | (refine guardD_intro ?_ ?_ <;> (intro hd; have hc := hd; (try simp at hc) <;> (try simp -implicitDefEqProofs [-loopQ_n, hd, hc, h3, hf, insC, hr, w1]))) | (refine ldD_ep ?_ ?_; (focus kernel_rfl); (try simp -implicitDefEqProofs [-loopQ_n, h3, hf, insC, hr, w1])))))
            refine loop_next (k + 1, sm, lg) ⟨h3, by simp only; omega, h0s, by simp only; omega, hlg⟩ (by simp only; omega) (weak_of 0 0 rfl rfl ?_ ?_) <;> simp [sp_refs, ins_refs]
        · rw [List.drop_eq_nil_of_le (by omega), sumT] at hR
          have c1 : N ≤ sm := by omega
          ((try simp -implicitDefEqProofs [-loopQ_n, h3, hlg, c1]) <;> (repeat' (first | (refine condD_dec ?_ ?_ <;> (intro hc; (try simp -implicitDefEqProofs [-loopQ_n, hc, h3, hlg, c1]))) | (refine guardD_dec ?_ ?_ <;> (intro hc; (try simp -implicitDefEqProofs [-loopQ_n, hc, h3, hlg, c1]))) | (refine condD_intro ?_ ?_ <;> (intro hd; have hc := hd; (try simp at hc) <;> (try simp -implicitDefEqProofs [-loopQ_n, hd, hc, h3, hlg, c1]))) | (refine guardD_intro ?_ ?_ <;> (intro hd; have hc := hd; (try simp at hc) <;> (try simp -implicitDefEqProofs [-loopQ_n, hd, hc, h3, hlg, c1]))) | (refine ldD_ep ?_ ?_; (focus kernel_rfl); (try simp -implicitDefEqProofs [-loopQ_n, h3, hlg, c1])))))
      · refine loop_intro (σ := Nat) (fun x => ⟨[(2, .str res), (21, .int .i64 0), (22, .int .i64 1), (23, .int .i64 0), (24, .int .i64 0), (157, .rs (rowsOf insC l)), (158, .int .i64 l.length), (159, .int .i64 x)], []⟩) (fun x => x ≤ l.length) (fun x => l.length - x) 0 (by simp) ?_ ?_
        · refine weak_of 0 0 rfl rfl ?_ ?_ <;> simp [sp_refs, ins_refs]
        rintro k hk
        by_cases h3 : k < l.length
        · have w1 := w_succ' h3 (by omega)
          obtain ⟨⟨c, a, r, t1, t2, t3⟩, hf⟩ : ∃ e, l[k] = e := ⟨_, rfl⟩
          by_cases hr : r.toList = res.toList
          · ((try simp -implicitDefEqProofs [-loopQ_n, h3, hf, insC, hr, w1]) <;> (repeat' (first | (refine condD_dec ?_ ?_ <;> (intro hc; (try simp -implicitDefEqProofs [-loopQ_n, hc, h3, hf, insC, hr, w1]))) | (refine guardD_dec ?_ ?_ <;> (intro hc; (try simp -implicitDefEqProofs [-loopQ_n, hc, h3, hf, insC, hr, w1]))) | (refine condD_intro ?_ ?_ <;> (intro hd; have hc := hd; (try simp at hc) <;> (try simp -implicitDefEqProofs [-loopQ_n, hd, hc, h3, hf, insC, hr, w1]))) | (refine guardD_intro ?_ ?_ <;> (intro hd; have hc := hd; (try simp at hc) <;> (try simp -implicitDefEqProofs [-loopQ_n, hd, hc, h3, hf, insC, hr, w1]))) | (refine ldD_ep ?_ ?_; (focus kernel_rfl); (try simp -implicitDefEqProofs [-loopQ_n, h3, hf, insC, hr, w1])))))
            refine loop_next (k + 1) h3 (by omega) (weak_of 0 0 rfl rfl ?_ ?_) <;> simp [sp_refs, ins_refs]
          · ((try simp -implicitDefEqProofs [-loopQ_n, h3, hf, insC, hr, w1]) <;> (repeat' (first | (refine condD_dec ?_ ?_ <;> (intro hc; (try simp -implicitDefEqProofs [-loopQ_n, hc, h3, hf, insC, hr, w1]))) | (refine guardD_dec ?_ ?_ <;> (intro hc; (try simp -implicitDefEqProofs [-loopQ_n, hc, h3, hf, insC, hr, w1]))) | (refine condD_intro ?_ ?_ <;> (intro hd; have hc := hd; (try simp at hc) <;> (try simp -implicitDefEqProofs [-loopQ_n, hd, hc, h3, hf, insC, hr, w1]))) | (refine guardD_intro ?_ ?_ <;> (intro hd; have hc := hd; (try simp at hc) <;> (try simp -implicitDefEqProofs [-loopQ_n, hd, hc, h3, hf, insC, hr, w1]))) | (refine ldD_ep ?_ ?_; (focus kernel_rfl); (try simp -implicitDefEqProofs [-loopQ_n, h3, hf, insC, hr, w1])))))
            refine loop_next (k + 1) h3 (by omega) (weak_of 0 0 rfl rfl ?_ ?_) <;> simp [sp_refs, ins_refs]
        · ((try simp -implicitDefEqProofs [-loopQ_n, h3]) <;> (repeat' (first | (refine condD_dec ?_ ?_ <;> (intro hc; (try simp -implicitDefEqProofs [-loopQ_n, hc, h3]))) | (refine guardD_dec ?_ ?_ <;> (intro hc; (try simp -implicitDefEqProofs [-loopQ_n, hc, h3]))) | (refine condD_intro ?_ ?_ <;> (intro hd; have hc := hd; (try simp at hc) <;> (try simp -implicitDefEqProofs [-loopQ_n, hd, hc, h3]))) | (refine guardD_intro ?_ ?_ <;> (intro hd; have hc := hd; (try simp at hc) <;> (try simp -implicitDefEqProofs [-loopQ_n, hd, hc, h3]))) | (refine ldD_ep ?_ ?_; (focus kernel_rfl); (try simp -implicitDefEqProofs [-loopQ_n, h3])))))
theorem both (x0 : AV) (s0 : argS Try.prog 57 x0) (x1 : AV) (s1 : argS Try.prog 30 x1) (x2 : AV) (s2 : argS Try.prog 9 x2) : Pure Try.prog 8 [x0, x1, x2] (.bool true) := by
  obtain ⟨s, rfl, ls, _⟩ := darg_spans s0
  obtain ⟨l, rfl, ll, _⟩ := arg_insl s1
  obtain ⟨r, rfl, _⟩ := arg_str Try.underlying9 s2
  exact main s l r ls ll
theorem walk (W : World) (hvo : VarsOk W (fun _ => False)) (v0 : Value) (x0 : AV) (r0 : RO W (fun _ => False) x0 v0) (s0 : argS Try.prog 57 x0) (v1 : Value) (x1 : AV) (r1 : RO W (fun _ => False) x1 v1) (s1 : argS Try.prog 30 x1) (v2 : Value) (x2 : AV) (r2 : RO W (fun _ => False) x2 v2) (s2 : argS Try.prog 9 x2) :
    Calls Try.prog 8 #[v0, v1, v2] W fun e w' => e = .returned (.bool true) ∧ Below W.heap.size W w' := by
  refine ((both x0 s0 x1 s1 x2 s2).2 W (fun _ => False) _ (fun _ h => h.elim) hvo rfl ?_).mono ?_
  · intro j x v hj hv
    match j with
    | 0 => simp at hj hv; subst hj hv; exact r0
    | 1 => simp at hj hv; subst hj hv; exact r1
    | 2 => simp at hj hv; subst hj hv; exact r2
    | j + 3 => simp at hj
  · rintro e w' ⟨v, rfl, hv, hb⟩
    rw [ro_tt hv]
    exact ⟨rfl, hb⟩
end
set_option maxRecDepth 100000 in
theorem lifted (os : Os) (started : os.Started) (H : Type) (enc : TypeId × Value → H) :
    ReturnsInHanded {} Try.checked os 8 .any (Rows.spansUnionsSpec.pre6 enc Try.prog Try.f8 Rows.spansUnionsRow.domain false) (Rows.spansUnionsSpec.post enc Try.prog Try.f8 false true false false) := by
  refine returnsInHanded_of_change (C := Try.checked) (@ownK ⟨fun _ => none⟩) started (by kernel_rfl) Try.func8
    (ChangeSpec.witness6 (enc := enc) (C := Try.checked) false ⟨#[], #[.slice none 0 0, .slice none 0 0, .string ByteArray.empty], []⟩ 8 (by kernel_rfl) (by kernel_rfl) (by kernel_rfl) (by kernel_rfl)) ?_
  intro W base args ds gs before hval0 hW hcnd _
  have hval : ∀ (j : Nat) t v, Try.f8.params[j]? = some t → args[j]? = some v → Value.okWide Try.prog W .any base t v := hval0
  have hW' := hW
  obtain ⟨p, q, hA0, hV, rfl, hfz, hnd⟩ := hW
  have hA : DataW.TrodAll enc Try.prog W 0 (fun _ => true) true Try.f8.params.toList args.toList ds p := hA0
  rw [Try.params8] at hA hval
  obtain ⟨v0, vs0, d0, ds0, p0, q0, hargs, rfl, rfl, h0, r0⟩ := trodAll_cons hA
  obtain ⟨v1, vs1, d1, ds1, p1, q1, rfl, rfl, rfl, h1, r1⟩ := trodAll_cons r0
  obtain ⟨v2, vs2, d2, ds2, p2, q2, rfl, rfl, rfl, h2, r2⟩ := trodAll_cons r1
  obtain ⟨rfl, rfl, rfl⟩ := trodAll_nil r2
  obtain rfl : args = #[v0, v1, v2] := by cases args; simp_all
  obtain ⟨rfl, rfl⟩ := trodVars_none hV
  letI : Glob := ⟨fun _ => none⟩
  have k0 := h0
  have lt0 : ∀ x ∈ p0, x.block < W.heap.size := by obtain ⟨m, hm⟩ := k0; exact DataW.trod_lt m _ _ _ hm
  obtain ⟨x0, y0, s0⟩ := arg_open (P := Try.prog) (t := 57) (by kernel_rfl) (by kernel_rfl) (hval 0 57 v0 rfl rfl) h0
  have k1 := h1
  have lt1 : ∀ x ∈ p1, x.block < W.heap.size := by obtain ⟨m, hm⟩ := k1; exact DataW.trod_lt m _ _ _ hm
  obtain ⟨x1, y1, s1⟩ := arg_open (P := Try.prog) (t := 30) (by kernel_rfl) (by kernel_rfl) (hval 1 30 v1 rfl rfl) h1
  have k2 := h2
  have lt2 : ∀ x ∈ p2, x.block < W.heap.size := by obtain ⟨m, hm⟩ := k2; exact DataW.trod_lt m _ _ _ hm
  obtain ⟨x2, y2, s2⟩ := arg_open (P := Try.prog) (t := 9) (by kernel_rfl) (by kernel_rfl) (hval 2 9 v2 rfl rfl) h2
  clear hA0 hval0
  refine (walk W (fun g row h => by cases h) v0 x0 y0 s0 v1 x1 y1 s1 v2 x2 y2 s2).mono fun e W' ⟨he, bel⟩ => ?_
  subst he
  exact ⟨_, rfl, _, _, _, [], _, [], hW', trodAll_mk1 (shut_bool Try.underlying4 _), (trodAll_cons_mk (Below.trod laidK (by kernel_rfl) (of_decide_eq_true (by kernel_rfl)) k0 bel lt0) (trodAll_cons_mk (Below.trod laidK (by kernel_rfl) (of_decide_eq_true (by kernel_rfl)) k1 bel lt1) (trodAll_cons_mk (Below.trod laidK (by kernel_rfl) (of_decide_eq_true (by kernel_rfl)) k2 bel lt2) trodAll_mk0))), rfl, bel.frame _, fun h => by cases h⟩

theorem over : Rows.spansUnionsRow.holds Try.pinned (OpenSpec.ofChange Rows.spansUnionsSpec) :=
  OpenClaim.holds_of_wide 8 Try.f8 rfl rfl rfl rfl rfl rfl rfl ⟨rfl, rfl, rfl, rfl, rfl⟩ rfl rfl rfl rfl rfl (by kernel_rfl) Try.func8 (by kernel_rfl)
    (of_decide_eq_true (by kernel_rfl)) (by unfold Func.isWrapper; first | (rw [if_pos (by decide +kernel)]; kernel_rfl) | (rw [if_neg (by decide +kernel)]; exact ⟨rfl, rfl⟩))
    (fun os started H enc _ => lifted os started H enc)

theorem proved : Rows.SpansUnionsSaid := over
end Go.Proofs.Ytfbpjlabhckoeaa.lawSUnions
