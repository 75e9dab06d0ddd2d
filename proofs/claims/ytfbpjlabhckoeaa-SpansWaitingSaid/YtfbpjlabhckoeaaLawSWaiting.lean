/- Waiting times are at most the minutes from Ready to From; with all minutes open they are these minutes; more open minutes never make them less (the law SpansWaiting holds for every input; no condition). -/
import Derived.Test.YtfbpjlabhckoeaaRows
import Derived.Test.YtfbpjlabhckoeaaSpnA
import Derived.Test.YtfbpjlabhckoeaaSpnW
import Derived.Test.YtfbpjlabhckoeaaClk3
import Derived.Test.YtfbpjlabhckoeaaSpnD
import Derived.Test.YtfbpjlabhckoeaaAbMv
namespace Go.Proofs.Ytfbpjlabhckoeaa.lawSWaiting
set_option linter.unusedSimpArgs false
set_option linter.unusedVariables false
set_option linter.unnecessarySimpa false
set_option linter.unusedSectionVars false
open Go.ChangeShapes Go.WideShapes Go.ChangeAt Go.RowKit Go.Joins Go.Deep
section
variable [Glob]
set_option maxRecDepth 100000
theorem arg2 {P : Program} {f : FuncId} {x x' y y' r : AV} (h : Pure P f [x', y'] r) (hw : ∀ w X v, RO w X x v → RO w X x' v) (hw2 : ∀ w X v, RO w X y v → RO w X y' v) : Pure P f [x, y] r :=
  ⟨h.1, fun w X vs hX hvo hl hv => h.2 w X vs hX hvo (by simpa using hl) fun j z v hj hu => by
    match j with
    | 0 => simp at hj; subst hj; exact hw _ _ _ (hv 0 x v (by simp) hu)
    | 1 => simp at hj; subst hj; exact hw2 _ _ _ (hv 1 y v (by simp) hu)
    | j + 2 => simp at hj⟩
theorem nil_cal {w : World} {X : Nat → Prop} {v : Value} (h : RO w X (.agg [.nils]) v) : RO w X (.agg [.rs (rowsOf spC [])]) v := by
  cases h with
  | agg hl h1 h =>
    refine .agg hl h1 fun j x u hj hu => ?_
    match j with
    | 0 =>
      simp at hj
      subst hj
      have := h 0 .nils u rfl hu
      cases this
      exact .rs 0 (fun _ _ => undef) rfl (Nat.le_refl _) (fun i row hi => by simp [rowsOf] at hi) (fun i j row x hi _ => by simp [rowsOf] at hi)
    | j + 1 => simp at hj
def allS : List Sp := [⟨0, 10080⟩]
theorem allS_own : ∀ r ∈ rowsOf spC allS, ∀ c ∈ r, owns c = false := rowsOf_owns' fun s c hc => by simp [spC] at hc; rcases hc with rfl | rfl <;> rfl
set_option maxHeartbeats 16000000 in
theorem main (l : List Ins) (c : List Sp) (ll : l.length ≤ 9223372036854775807) : Pure Try.prog 7 [.rs (rowsOf insC l), .agg [.rs (rowsOf spC c)]] (.bool true) := by
  by_cases hF : fewI l = true
  rotate_left
  · have hF : fewI l = false := by simpa using hF
    refine pure_of mixed Try.func7 rfl (by kernel_rfl) (of_decide_eq_true rfl) (by kernel_rfl) (vc_run ?_)
    ((try simp -implicitDefEqProofs [-loopQ_n, hF]) <;> (repeat' (first | (refine condD_dec ?_ ?_ <;> (intro hc; (try simp -implicitDefEqProofs [-loopQ_n, hc, hF]))) | (refine guardD_dec ?_ ?_ <;> (intro hc; (try simp -implicitDefEqProofs [-loopQ_n, hc, hF]))) | (refine condD_intro ?_ ?_ <;> (intro hd; have hc := hd; (try simp at hc) <;> (try simp -implicitDefEqProofs [-loopQ_n, hd, hc, hF]))) | (refine guardD_intro ?_ ?_ <;> (intro hd; have hc := hd; (try simp at hc) <;> (try simp -implicitDefEqProofs [-loopQ_n, hd, hc, hF]))) | (refine ldD_ep ?_ ?_; (focus kernel_rfl); (try simp -implicitDefEqProofs [-loopQ_n, hF])) | (refine callS_mk ?_; (try simp -implicitDefEqProofs [-loopQ_n, hF]); (first | refine callS_intro (awake_pure) (.inl rfl) ?_ | refine callS_intro (sfew_pure l ll) (.inl rfl) ?_); (try simp -implicitDefEqProofs [-loopQ_n, hF])))))
  by_cases h40 : (40 : Int) < l.length
  · skip
    refine pure_of mixed Try.func7 rfl (by kernel_rfl) (of_decide_eq_true rfl) (by kernel_rfl) (vc_run ?_)
    ((try simp -implicitDefEqProofs [-loopQ_n, hF, h40]) <;> (repeat' (first | (refine condD_dec ?_ ?_ <;> (intro hc; (try simp -implicitDefEqProofs [-loopQ_n, hc, hF, h40]))) | (refine guardD_dec ?_ ?_ <;> (intro hc; (try simp -implicitDefEqProofs [-loopQ_n, hc, hF, h40]))) | (refine condD_intro ?_ ?_ <;> (intro hd; have hc := hd; (try simp at hc) <;> (try simp -implicitDefEqProofs [-loopQ_n, hd, hc, hF, h40]))) | (refine guardD_intro ?_ ?_ <;> (intro hd; have hc := hd; (try simp at hc) <;> (try simp -implicitDefEqProofs [-loopQ_n, hd, hc, hF, h40]))) | (refine ldD_ep ?_ ?_; (focus kernel_rfl); (try simp -implicitDefEqProofs [-loopQ_n, hF, h40])) | (refine callS_mk ?_; (try simp -implicitDefEqProofs [-loopQ_n, hF, h40]); (first | refine callS_intro (awake_pure) (.inl rfl) ?_ | refine callS_intro (sfew_pure l ll) (.inl rfl) ?_); (try simp -implicitDefEqProofs [-loopQ_n, hF, h40])))))
  by_cases h110 : (110 : Int) < c.length
  · skip
    refine pure_of mixed Try.func7 rfl (by kernel_rfl) (of_decide_eq_true rfl) (by kernel_rfl) (vc_run ?_)
    ((try simp -implicitDefEqProofs [-loopQ_n, hF, h40, h110]) <;> (repeat' (first | (refine condD_dec ?_ ?_ <;> (intro hc; (try simp -implicitDefEqProofs [-loopQ_n, hc, hF, h40, h110]))) | (refine guardD_dec ?_ ?_ <;> (intro hc; (try simp -implicitDefEqProofs [-loopQ_n, hc, hF, h40, h110]))) | (refine condD_intro ?_ ?_ <;> (intro hd; have hc := hd; (try simp at hc) <;> (try simp -implicitDefEqProofs [-loopQ_n, hd, hc, hF, h40, h110]))) | (refine guardD_intro ?_ ?_ <;> (intro hd; have hc := hd; (try simp at hc) <;> (try simp -implicitDefEqProofs [-loopQ_n, hd, hc, hF, h40, h110]))) | (refine ldD_ep ?_ ?_; (focus kernel_rfl); (try simp -implicitDefEqProofs [-loopQ_n, hF, h40, h110])) | (refine callS_mk ?_; (try simp -implicitDefEqProofs [-loopQ_n, hF, h40, h110]); (first | refine callS_intro (awake_pure) (.inl rfl) ?_ | refine callS_intro (sfew_pure l ll) (.inl rfl) ?_); (try simp -implicitDefEqProofs [-loopQ_n, hF, h40, h110])))))
  have hW1 := waiting_pure l c ll
  have hW2 := waiting_pure l allS ll
  have hW3 : Pure Try.prog 32 [.rs (rowsOf insC l), .agg [.nils]] (intsO (waitR l [])) := arg2 (waiting_pure l [] ll) (fun _ _ _ h => h) fun _ _ _ h => nil_cal h
  have hV := rvalid_pure c
  have hA : calOk allS = true := allC_ok
  by_cases hI : insL l = true
  rotate_left
  · have e1 : waitR l c = ([], 1) := by rw [waitR, if_neg (fun q => hI q.1)]
    have e2 : waitR l allS = ([], 1) := by rw [waitR, if_neg (fun q => hI q.1)]
    rw [e1] at hW1
    rw [e2] at hW2
    simp only [intsO, rowsOf_nil] at hW1 hW2
    refine pure_of mixed Try.func7 rfl (by kernel_rfl) (of_decide_eq_true rfl) (by kernel_rfl) (vc_run ?_)
    ((try simp -implicitDefEqProofs [-loopQ_n, hF, h40, h110]) <;> (repeat' (first | (refine condD_dec ?_ ?_ <;> (intro hc; (try simp -implicitDefEqProofs [-loopQ_n, hc, hF, h40, h110]))) | (refine guardD_dec ?_ ?_ <;> (intro hc; (try simp -implicitDefEqProofs [-loopQ_n, hc, hF, h40, h110]))) | (refine condD_intro ?_ ?_ <;> (intro hd; have hc := hd; (try simp at hc) <;> (try simp -implicitDefEqProofs [-loopQ_n, hd, hc, hF, h40, h110]))) | (refine guardD_intro ?_ ?_ <;> (intro hd; have hc := hd; (try simp at hc) <;> (try simp -implicitDefEqProofs [-loopQ_n, hd, hc, hF, h40, h110]))) | (refine ldD_ep ?_ ?_; (focus kernel_rfl); (try simp -implicitDefEqProofs [-loopQ_n, hF, h40, h110])) | (refine callS_mk ?_; (try simp -implicitDefEqProofs [-loopQ_n, hF, h40, h110]); (first | refine callS_intro (awake_pure) (.inl rfl) ?_ | refine callS_intro (sfew_pure l ll) (.inl rfl) ?_ | refine callS_intro (hW1) (.inr ⟨rfl, rfl⟩) ?_); (try simp -implicitDefEqProofs [-loopQ_n, hF, h40, h110])))))
    refine callG_intro (frz_G (id := 1) hW2 rfl allS_own ?_ rfl ?_)
    · simp [allS, spC, rowsOf, frL, frA]
    ((try simp -implicitDefEqProofs [-loopQ_n, frH, frB, frL, frA]) <;> (repeat' (first | (refine condD_dec ?_ ?_ <;> (intro hc; (try simp -implicitDefEqProofs [-loopQ_n, hc, frH, frB, frL, frA]))) | (refine guardD_dec ?_ ?_ <;> (intro hc; (try simp -implicitDefEqProofs [-loopQ_n, hc, frH, frB, frL, frA]))) | (refine condD_intro ?_ ?_ <;> (intro hd; have hc := hd; (try simp at hc) <;> (try simp -implicitDefEqProofs [-loopQ_n, hd, hc, frH, frB, frL, frA]))) | (refine guardD_intro ?_ ?_ <;> (intro hd; have hc := hd; (try simp at hc) <;> (try simp -implicitDefEqProofs [-loopQ_n, hd, hc, frH, frB, frL, frA]))) | (refine ldD_ep ?_ ?_; (focus kernel_rfl); (try simp -implicitDefEqProofs [-loopQ_n, frH, frB, frL, frA])))))
  obtain ⟨hl2, hm⟩ := insL_mem hI
  have e2 : waitR l allS = (l.map (wtC allS), 0) := by rw [waitR, if_pos ⟨hI, hA⟩]
  have e3 : waitR l [] = (l.map (wtC []), 0) := by rw [waitR, if_pos ⟨hI, noneC_ok⟩]
  rw [e2] at hW2
  rw [e3] at hW3
  by_cases hC : calOk c = true
  rotate_left
  · have e1 : waitR l c = ([], 1) := by rw [waitR, if_neg (fun q => hC q.2)]
    rw [e1] at hW1
    simp only [intsO, rowsOf_nil] at hW1 hW2
    refine pure_of mixed Try.func7 rfl (by kernel_rfl) (of_decide_eq_true rfl) (by kernel_rfl) (vc_run ?_)
    ((try simp -implicitDefEqProofs [-loopQ_n, hF, h40, h110]) <;> (repeat' (first | (refine condD_dec ?_ ?_ <;> (intro hc; (try simp -implicitDefEqProofs [-loopQ_n, hc, hF, h40, h110]))) | (refine guardD_dec ?_ ?_ <;> (intro hc; (try simp -implicitDefEqProofs [-loopQ_n, hc, hF, h40, h110]))) | (refine condD_intro ?_ ?_ <;> (intro hd; have hc := hd; (try simp at hc) <;> (try simp -implicitDefEqProofs [-loopQ_n, hd, hc, hF, h40, h110]))) | (refine guardD_intro ?_ ?_ <;> (intro hd; have hc := hd; (try simp at hc) <;> (try simp -implicitDefEqProofs [-loopQ_n, hd, hc, hF, h40, h110]))) | (refine ldD_ep ?_ ?_; (focus kernel_rfl); (try simp -implicitDefEqProofs [-loopQ_n, hF, h40, h110])) | (refine callS_mk ?_; (try simp -implicitDefEqProofs [-loopQ_n, hF, h40, h110]); (first | refine callS_intro (awake_pure) (.inl rfl) ?_ | refine callS_intro (sfew_pure l ll) (.inl rfl) ?_ | refine callS_intro (hW1) (.inr ⟨rfl, rfl⟩) ?_); (try simp -implicitDefEqProofs [-loopQ_n, hF, h40, h110])))))
    refine callG_intro (frz_G (id := 1) hW2 rfl allS_own ?_ rfl ?_)
    · simp [allS, spC, rowsOf, frL, frA]
    ((try simp -implicitDefEqProofs [-loopQ_n, frH, frB, frL, frA]) <;> (repeat' (first | (refine condD_dec ?_ ?_ <;> (intro hc; (try simp -implicitDefEqProofs [-loopQ_n, hc, frH, frB, frL, frA]))) | (refine guardD_dec ?_ ?_ <;> (intro hc; (try simp -implicitDefEqProofs [-loopQ_n, hc, frH, frB, frL, frA]))) | (refine condD_intro ?_ ?_ <;> (intro hd; have hc := hd; (try simp at hc) <;> (try simp -implicitDefEqProofs [-loopQ_n, hd, hc, frH, frB, frL, frA]))) | (refine guardD_intro ?_ ?_ <;> (intro hd; have hc := hd; (try simp at hc) <;> (try simp -implicitDefEqProofs [-loopQ_n, hd, hc, frH, frB, frL, frA]))) | (refine ldD_ep ?_ ?_; (focus kernel_rfl); (try simp -implicitDefEqProofs [-loopQ_n, frH, frB, frL, frA])))))
  have e1 : waitR l c = (l.map (wtC c), 0) := by rw [waitR, if_pos ⟨hI, hC⟩]
  rw [e1] at hW1
  simp only [intsO] at hW1 hW2 hW3
  have lw : (l.map (wtC c)).length = l.length := by simp
  have la : (l.map (wtC allS)).length = l.length := by simp
  have ln : (l.map (wtC [])).length = l.length := by simp
  have gw : ∀ (i : Nat) x, l[i]? = some x → (l.map (wtC c))[i]? = some (wtC c x) := fun i x h => by simp [h]
  have ga : ∀ (i : Nat) x, l[i]? = some x → (l.map (wtC allS))[i]? = some (wtC allS x) := fun i x h => by simp [h]
  have gn : ∀ (i : Nat) x, l[i]? = some x → (l.map (wtC []))[i]? = some (wtC [] x) := fun i x h => by simp [h]
  clear e1 e2 e3
  generalize l.map (wtC c) = w at *
  generalize l.map (wtC allS) = a at *
  generalize l.map (wtC []) = n at *
  refine pure_of mixed Try.func7 rfl (by kernel_rfl) (of_decide_eq_true rfl) (by kernel_rfl) (vc_run ?_)
  ((try simp -implicitDefEqProofs [-loopQ_n, hF, h40, h110, lw, la, ln]) <;> (repeat' (first | (refine condD_dec ?_ ?_ <;> (intro hc; (try simp -implicitDefEqProofs [-loopQ_n, hc, hF, h40, h110, lw, la, ln]))) | (refine guardD_dec ?_ ?_ <;> (intro hc; (try simp -implicitDefEqProofs [-loopQ_n, hc, hF, h40, h110, lw, la, ln]))) | (refine condD_intro ?_ ?_ <;> (intro hd; have hc := hd; (try simp at hc) <;> (try simp -implicitDefEqProofs [-loopQ_n, hd, hc, hF, h40, h110, lw, la, ln]))) | (refine guardD_intro ?_ ?_ <;> (intro hd; have hc := hd; (try simp at hc) <;> (try simp -implicitDefEqProofs [-loopQ_n, hd, hc, hF, h40, h110, lw, la, ln]))) | (refine ldD_ep ?_ ?_; (focus kernel_rfl); (try simp -implicitDefEqProofs [-loopQ_n, hF, h40, h110, lw, la, ln])) | (refine callS_mk ?_; (try simp -implicitDefEqProofs [-loopQ_n, hF, h40, h110, lw, la, ln]); (first | refine callS_intro (awake_pure) (.inl rfl) ?_ | refine callS_intro (sfew_pure l ll) (.inl rfl) ?_ | refine callS_intro (hW1) (.inr ⟨rfl, rfl⟩) ?_); (try simp -implicitDefEqProofs [-loopQ_n, hF, h40, h110, lw, la, ln])))))
  refine callG_intro (frz_G (id := 1) hW2 rfl allS_own ?_ rfl ?_)
  · simp [allS, spC, rowsOf, frL, frA]
  ((try simp -implicitDefEqProofs [-loopQ_n, frH, frB, frL, frA]) <;> (repeat' (first | (refine condD_dec ?_ ?_ <;> (intro hc; (try simp -implicitDefEqProofs [-loopQ_n, hc, frH, frB, frL, frA]))) | (refine guardD_dec ?_ ?_ <;> (intro hc; (try simp -implicitDefEqProofs [-loopQ_n, hc, frH, frB, frL, frA]))) | (refine condD_intro ?_ ?_ <;> (intro hd; have hc := hd; (try simp at hc) <;> (try simp -implicitDefEqProofs [-loopQ_n, hd, hc, frH, frB, frL, frA]))) | (refine guardD_intro ?_ ?_ <;> (intro hd; have hc := hd; (try simp at hc) <;> (try simp -implicitDefEqProofs [-loopQ_n, hd, hc, frH, frB, frL, frA]))) | (refine ldD_ep ?_ ?_; (focus kernel_rfl); (try simp -implicitDefEqProofs [-loopQ_n, frH, frB, frL, frA])))))
  refine callG_intro (own_G hW3 rfl ?_)
  ((try simp -implicitDefEqProofs [-loopQ_n, lw, la, ln]) <;> (repeat' (first | (refine condD_dec ?_ ?_ <;> (intro hc; (try simp -implicitDefEqProofs [-loopQ_n, hc, lw, la, ln]))) | (refine guardD_dec ?_ ?_ <;> (intro hc; (try simp -implicitDefEqProofs [-loopQ_n, hc, lw, la, ln]))) | (refine condD_intro ?_ ?_ <;> (intro hd; have hc := hd; (try simp at hc) <;> (try simp -implicitDefEqProofs [-loopQ_n, hd, hc, lw, la, ln]))) | (refine guardD_intro ?_ ?_ <;> (intro hd; have hc := hd; (try simp at hc) <;> (try simp -implicitDefEqProofs [-loopQ_n, hd, hc, lw, la, ln]))) | (refine ldD_ep ?_ ?_; (focus kernel_rfl); (try simp -implicitDefEqProofs [-loopQ_n, lw, la, ln])) | (refine callS_mk ?_; (try simp -implicitDefEqProofs [-loopQ_n, lw, la, ln]); (first | refine callS_intro (hV) (.inl rfl) ?_); (try simp -implicitDefEqProofs [-loopQ_n, lw, la, ln])))))
  refine loop_intro (σ := Nat) (fun i => ⟨[(3, .op 0 0), (5, .rs (rowsOf intC w)), (7, .rs (rowsOf intC a)), (9, .rs (rowsOf intC n)), (90, .rs (rowsOf insC l)), (91, .int .i64 l.length), (92, .int .i64 i)], [.box 59 [.rs (rowsOf spC c)]]⟩) (fun i => i ≤ l.length) (fun i => l.length - i) 0 (by simp) ?_ ?_
  · refine weak_of 1 0 rfl rfl ?_ ?_ <;> simp [sp_refs, int_refs, ins_refs]
  intro i hi
  by_cases h : i < l.length
  · have w1 := w_succ' h ll
    have hx := hm l[i] (List.getElem_mem h)
    obtain ⟨⟨cs, ac, r, t1, t2, t3⟩, hf⟩ : ∃ e, l[i] = e := ⟨_, rfl⟩
    have hgo : l[i]? = some ⟨cs, ac, r, t1, t2, t3⟩ := by rw [List.getElem?_eq_getElem h, hf]
    have gw := (List.getElem?_eq_some_iff.1 (gw i _ hgo)).2
    have ga := (List.getElem?_eq_some_iff.1 (ga i _ hgo)).2
    have gn := (List.getElem?_eq_some_iff.1 (gn i _ hgo)).2
    rw [hf] at hx
    have hb := insV_bd hx
    have b1 := wt_bd hC hx
    have b2 : wtC allS ⟨cs, ac, r, t1, t2, t3⟩ = t2 - t1 := wt_all hx
    have b3 : wtC [] ⟨cs, ac, r, t1, t2, t3⟩ = 0 := wt_none
    simp only at hb b1
    have ga := ga.trans b2
    have gn := gn.trans b3
    clear b2 b3
    have hw : i < w.length := by omega
    have ha : i < a.length := by omega
    have hn : i < n.length := by omega
    obtain ⟨z, hz⟩ : ∃ z, wtC c ⟨cs, ac, r, t1, t2, t3⟩ = z := ⟨_, rfl⟩
    have gw := gw.trans hz
    rw [hz] at b1
    have q1 : ¬ z < 0 := by omega
    have q2 : ¬ t2 - t1 < z := by omega
    have w2 : wrapI .i64 (t2 - t1) = t2 - t1 := wrap_in (by omega) (by omega)
    ((try simp -implicitDefEqProofs [-loopQ_n, h, hf, insC, w1, w2, hw, ha, hn, gw, ga, gn, q1, q2, lw, la, ln]) <;> (repeat' (first | (refine condD_dec ?_ ?_ <;> (intro hc; (try simp -implicitDefEqProofs [-loopQ_n, hc, h, hf, insC, w1, w2, hw, ha, hn, gw, ga, gn, q1, q2, lw, la, ln]))) | (refine guardD_dec ?_ ?_ <;> (intro hc; (try simp -implicitDefEqProofs [-loopQ_n, hc, h, hf, insC, w1, w2, hw, ha, hn, gw, ga, gn, q1, q2, lw, la, ln]))) | (refine condD_intro ?_ ?_ <;> (intro hd; have hc := hd; (try simp at hc) <;> (try simp -implicitDefEqProofs [-loopQ_n, hd, hc, h, hf, insC, w1, w2, hw, ha, hn, gw, ga, gn, q1, q2, lw, la, ln]))) | (refine guardD_intro ?_ ?_ <;> (intro hd; have hc := hd; (try simp at hc) <;> (try simp -implicitDefEqProofs [-loopQ_n, hd, hc, h, hf, insC, w1, w2, hw, ha, hn, gw, ga, gn, q1, q2, lw, la, ln]))) | (refine ldD_ep ?_ ?_; (focus kernel_rfl); (try simp -implicitDefEqProofs [-loopQ_n, h, hf, insC, w1, w2, hw, ha, hn, gw, ga, gn, q1, q2, lw, la, ln])))))
    refine loop_next (i + 1) (by omega) (by omega) (weak_of 1 0 rfl rfl ?_ ?_) <;> simp [sp_refs, int_refs, ins_refs]
  · ((try simp -implicitDefEqProofs [-loopQ_n, h, hC]) <;> (repeat' (first | (refine condD_dec ?_ ?_ <;> (intro hc; (try simp -implicitDefEqProofs [-loopQ_n, hc, h, hC]))) | (refine guardD_dec ?_ ?_ <;> (intro hc; (try simp -implicitDefEqProofs [-loopQ_n, hc, h, hC]))) | (refine condD_intro ?_ ?_ <;> (intro hd; have hc := hd; (try simp at hc) <;> (try simp -implicitDefEqProofs [-loopQ_n, hd, hc, h, hC]))) | (refine guardD_intro ?_ ?_ <;> (intro hd; have hc := hd; (try simp at hc) <;> (try simp -implicitDefEqProofs [-loopQ_n, hd, hc, h, hC]))) | (refine ldD_ep ?_ ?_; (focus kernel_rfl); (try simp -implicitDefEqProofs [-loopQ_n, h, hC])) | (refine callS_mk ?_; (try simp -implicitDefEqProofs [-loopQ_n, h, hC]); (first | refine callS_intro (hV) (.inl rfl) ?_); (try simp -implicitDefEqProofs [-loopQ_n, h, hC])))))
theorem both (x0 : AV) (s0 : argS Try.prog 30 x0) (x1 : AV) (s1 : argS Try.prog 59 x1) : Pure Try.prog 7 [x0, x1] (.bool true) := by
  obtain ⟨l, rfl, ll, _⟩ := arg_insl s0
  obtain ⟨c, rfl, lc, _⟩ := dcal_dec s1
  exact main l c ll
theorem walk (W : World) (hvo : VarsOk W (fun _ => False)) (v0 : Value) (x0 : AV) (r0 : RO W (fun _ => False) x0 v0) (s0 : argS Try.prog 30 x0) (v1 : Value) (x1 : AV) (r1 : RO W (fun _ => False) x1 v1) (s1 : argS Try.prog 59 x1) :
    Calls Try.prog 7 #[v0, v1] W fun e w' => e = .returned (.bool true) ∧ Below W.heap.size W w' := by
  refine ((both x0 s0 x1 s1).2 W (fun _ => False) _ (fun _ h => h.elim) hvo rfl ?_).mono ?_
  · intro j x v hj hv
    match j with
    | 0 => simp at hj hv; subst hj hv; exact r0
    | 1 => simp at hj hv; subst hj hv; exact r1
    | j + 2 => simp at hj
  · rintro e w' ⟨v, rfl, hv, hb⟩
    rw [ro_tt hv]
    exact ⟨rfl, hb⟩
end
set_option maxRecDepth 100000 in
theorem lifted (os : Os) (started : os.Started) (H : Type) (enc : TypeId × Value → H) :
    ReturnsInHanded {} Try.checked os 7 .any (Rows.spansWaitingSpec.pre6 enc Try.prog Try.f7 Rows.spansWaitingRow.domain false) (Rows.spansWaitingSpec.post enc Try.prog Try.f7 false true false false) := by
  refine returnsInHanded_of_change (C := Try.checked) (@ownK ⟨fun _ => none⟩) started (by kernel_rfl) Try.func7
    (ChangeSpec.witness6 (enc := enc) (C := Try.checked) false ⟨#[], #[.slice none 0 0, .agg #[.slice none 0 0]], []⟩ 8 (by kernel_rfl) (by kernel_rfl) (by kernel_rfl) (by kernel_rfl)) ?_
  intro W base args ds gs before hval0 hW hcnd _
  have hval : ∀ (j : Nat) t v, Try.f7.params[j]? = some t → args[j]? = some v → Value.okWide Try.prog W .any base t v := hval0
  have hW' := hW
  obtain ⟨p, q, hA0, hV, rfl, hfz, hnd⟩ := hW
  have hA : DataW.TrodAll enc Try.prog W 0 (fun _ => true) true Try.f7.params.toList args.toList ds p := hA0
  rw [Try.params7] at hA hval
  obtain ⟨v0, vs0, d0, ds0, p0, q0, hargs, rfl, rfl, h0, r0⟩ := trodAll_cons hA
  obtain ⟨v1, vs1, d1, ds1, p1, q1, rfl, rfl, rfl, h1, r1⟩ := trodAll_cons r0
  obtain ⟨rfl, rfl, rfl⟩ := trodAll_nil r1
  obtain rfl : args = #[v0, v1] := by cases args; simp_all
  obtain ⟨rfl, rfl⟩ := trodVars_none hV
  letI : Glob := ⟨fun _ => none⟩
  have k0 := h0
  have lt0 : ∀ x ∈ p0, x.block < W.heap.size := by obtain ⟨m, hm⟩ := k0; exact DataW.trod_lt m _ _ _ hm
  obtain ⟨x0, y0, s0⟩ := arg_open (P := Try.prog) (t := 30) (by kernel_rfl) (by kernel_rfl) (hval 0 30 v0 rfl rfl) h0
  have k1 := h1
  have lt1 : ∀ x ∈ p1, x.block < W.heap.size := by obtain ⟨m, hm⟩ := k1; exact DataW.trod_lt m _ _ _ hm
  obtain ⟨x1, y1, s1⟩ := arg_open (P := Try.prog) (t := 59) (by kernel_rfl) (by kernel_rfl) (hval 1 59 v1 rfl rfl) h1
  clear hA0 hval0
  refine (walk W (fun g row h => by cases h) v0 x0 y0 s0 v1 x1 y1 s1).mono fun e W' ⟨he, bel⟩ => ?_
  subst he
  exact ⟨_, rfl, _, _, _, [], _, [], hW', trodAll_mk1 (shut_bool Try.underlying4 _), (trodAll_cons_mk (Below.trod laidK (by kernel_rfl) (of_decide_eq_true (by kernel_rfl)) k0 bel lt0) (trodAll_cons_mk (Below.trod laidK (by kernel_rfl) (of_decide_eq_true (by kernel_rfl)) k1 bel lt1) trodAll_mk0)), rfl, bel.frame _, fun h => by cases h⟩

theorem over : Rows.spansWaitingRow.holds Try.pinned (OpenSpec.ofChange Rows.spansWaitingSpec) :=
  OpenClaim.holds_of_wide 7 Try.f7 rfl rfl rfl rfl rfl rfl rfl ⟨rfl, rfl, rfl, rfl, rfl⟩ rfl rfl rfl rfl rfl (by kernel_rfl) Try.func7 (by kernel_rfl)
    (of_decide_eq_true (by kernel_rfl)) (by unfold Func.isWrapper; first | (rw [if_pos (by decide +kernel)]; kernel_rfl) | (rw [if_neg (by decide +kernel)]; exact ⟨rfl, rfl⟩))
    (fun os started H enc _ => lifted os started H enc)

theorem proved : Rows.SpansWaitingSaid := over
end Go.Proofs.Ytfbpjlabhckoeaa.lawSWaiting
