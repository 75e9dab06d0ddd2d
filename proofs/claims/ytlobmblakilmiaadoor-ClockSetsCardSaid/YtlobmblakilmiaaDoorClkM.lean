/- Calendars: the program's Make; what Both, Closed and Make are. -/
import Derived.Test.YtlobmblakilmiaaDoorClkP
import Derived.Test.YtlobmblakilmiaaDoorAbExec
namespace Go.Proofs.YtlobmblakilmiaaDoor
set_option linter.unusedSimpArgs false
set_option linter.unusedVariables false
set_option linter.unnecessarySimpa false
set_option linter.unusedSectionVars false
open Go.RowKit
variable [Glob]
set_option maxRecDepth 100000
theorem sortSp_nil : Pure Tryd.prog 54 [.rs [], .fn 55 []] (.tup []) := exF_pure (m := 64) (n := 20) mixed noHook (by kernel_rfl)
theorem merged_eq {l l' : List Sp} (hp : l'.Perm l) (hs : l'.Pairwise (fun a b => a.f ≤ b.f)) (hv : ∀ s ∈ l, wkV s = true) : l'.foldl mrg [] = runsL (makeP l) 10080 := by
  obtain ⟨h1, h2⟩ := mrg_spec l' [] hs (fun s hs => hv s (hp.mem_iff.1 hs)) rfl (by simp)
  refine runs_eq h1 fun w _ _ => ?_
  rw [h2 w, makeP, Bool.eq_iff_iff]
  simp only [openW, List.any_nil, Bool.false_or, List.any_eq_true]
  exact ⟨fun ⟨x, hx, q⟩ => ⟨x, hp.mem_iff.1 hx, q⟩, fun ⟨x, hx, q⟩ => ⟨x, hp.mem_iff.2 hx, q⟩⟩
theorem both_eq {a b : List Sp} (ha : calOk a = true) (hb : calOk b = true) : bothL a b = runsL (bothP a b) 10080 := by
  obtain ⟨h1, h2⟩ := bothL_spec (calOk_v ha).2 (calOk_v hb).2
  refine runs_eq h1 fun w h0 h3 => ?_
  rw [h2 w, bothP, show w % 10080 = w by omega]
theorem clos_eq {a : List Sp} (ha : calOk a = true) : closL 0 a = runsL (closP a) 10080 := by
  obtain ⟨h1, h2⟩ := closL_spec 0 (calOk_v ha).2 (by omega) (by omega) (by omega) (by omega)
  refine runs_eq h1 fun w h0 h3 => ?_
  rw [h2 w, closP, show w % 10080 = w by omega]
  simp [h0, h3]
theorem spC_nil : rowsOf spC [] = [] := rfl
theorem spC_single {f t : Int} : rowsOf spC [⟨f, t⟩] = [[.int .i64 f, .int .i64 t]] := rfl
theorem make1_pure (f t : Int) : Pure Tryd.prog 52 [.agg [.int .i64 f, .int .i64 t]] (.bool (!wkV ⟨f, t⟩)) := by
  refine pure_of mixed Tryd.func52 rfl (by kernel_rfl) (of_decide_eq_true rfl) (by kernel_rfl) (vc_run ?_)
  ((try simp -implicitDefEqProofs [-loopQ_n]) <;> (repeat' (first | (refine condD_dec ?_ ?_ <;> (intro hc; (try simp -implicitDefEqProofs [-loopQ_n, hc]))) | (refine guardD_dec ?_ ?_ <;> (intro hc; (try simp -implicitDefEqProofs [-loopQ_n, hc]))) | (refine condD_intro ?_ ?_ <;> (intro hd; have hc := hd; (try simp at hc) <;> (try simp -implicitDefEqProofs [-loopQ_n, hd, hc]))) | (refine guardD_intro ?_ ?_ <;> (intro hd; have hc := hd; (try simp at hc) <;> (try simp -implicitDefEqProofs [-loopQ_n, hd, hc]))) | (refine ldD_ep ?_ ?_; (focus kernel_rfl); (try simp -implicitDefEqProofs [-loopQ_n])) | (refine callS_mk ?_; (try simp -implicitDefEqProofs [-loopQ_n]); (first | refine callS_intro (ofWeek_pure f t) (.inl rfl) ?_); (try simp -implicitDefEqProofs [-loopQ_n])))))
theorem sps_idx {p : Sp → Bool} {l : List Sp} {g : Nat} {caps : List AV} (hp : ∀ x ∈ l, Pure Tryd.prog g (.agg (spC x) :: caps) (.bool (p x))) (hc : ∀ H k, caps.mapM (reify H (k + 5)) = some caps) (hf : refsL 0 caps = true) (hl : l.length ≤ 9223372036854775807) :
    Pure Tryd.prog 61 [.rs (rowsOf spC l), .fn g caps] (.int .i64 (idxOf p l)) := by
  refine pure_of mixed Tryd.func61 rfl (by kernel_rfl) (of_decide_eq_true rfl) (by kernel_rfl) (vc_run ?_)
  simp -implicitDefEqProofs
  refine loop_intro (σ := Nat) (fun i => ⟨[(0, .rs (rowsOf spC l)), (1, .fn g caps), (7, .int .i64 l.length), (8, .int .i64 i)], []⟩) (fun i => i ≤ l.length ∧ allF p (l.take i)) (fun i => l.length - i) 0 ⟨Nat.zero_le _, allF_nil⟩ ?_ ?_
  · refine weak_of 0 0 rfl rfl ?_ ?_ <;> simp [hf]
  · rintro i ⟨hi, hall⟩
    by_cases h : i < l.length
    · simp -implicitDefEqProofs [h, spC]
      have hc8 : ∀ H, caps.mapM (reify H 8) = some caps := fun H => hc H 3
      refine call_intro (hp l[i] (by simp)) (by simp -implicitDefEqProofs [hc8, spC]) (.inl rfl) ?_
      by_cases hpx : p l[i] = true
      · simp -implicitDefEqProofs [hpx]
        exact (idxOf_some p l i h hall hpx).symm
      · have hpx : p l[i] = false := by simpa using hpx
        simp -implicitDefEqProofs [hpx]
        refine ⟨i + 1, ⟨by omega, allF_succ hall h hpx⟩, by omega, weak_of 0 0 rfl rfl ?_ ?_⟩
        · simp [hf]
          exact (wrap_in (by omega) (by omega)).symm
        · simp
    · simp -implicitDefEqProofs [h]
      rw [idxOf_none p l (allF_all hall h)]
theorem sps_any {p : Sp → Bool} {l : List Sp} {g : Nat} {caps : List AV} (hp : ∀ x ∈ l, Pure Tryd.prog g (.agg (spC x) :: caps) (.bool (p x))) (hc : ∀ H k, caps.mapM (reify H (k + 5)) = some caps) (hf : refsL 0 caps = true) (hl : l.length ≤ 9223372036854775807) :
    Pure Tryd.prog 47 [.rs (rowsOf spC l), .fn g caps] (.bool (l.any p)) := by
  refine pure_of mixed Tryd.func47 rfl (by kernel_rfl) (of_decide_eq_true rfl) (by kernel_rfl) (vc_run ?_)
  simp -implicitDefEqProofs
  have hc7 : ∀ H, caps.mapM (reify H 7) = some caps := fun H => hc H 2
  refine call_intro (sps_idx hp hc hf hl) (by simp -implicitDefEqProofs [hc7]) (.inl rfl) ?_
  simp -implicitDefEqProofs
  rw [← ge_idxOf]

set_option maxHeartbeats 8000000 in
theorem make_pure (l : List Sp) (hl : l.length ≤ 1000000) : Pure Tryd.prog 27 [.rs (rowsOf spC l)] (if makeOk l = true then calOut (runsL (makeP l) 10080) else .tup [.agg [.rs []], .int .i64 1]) := by
  have hA := sps_any (p := fun s => !wkV s) (l := l) (g := 52) (caps := []) (fun x _ => make1_pure x.f x.t) (fun H k => rfl) rfl (by omega)
  rw [show (l.any fun s => !wkV s) = !l.all wkV by simp [List.any_eq_not_all_not]] at hA
  refine pure_of mixed Tryd.func27 rfl (by kernel_rfl) (of_decide_eq_true rfl) (by kernel_rfl) (vc_run ?_)
  by_cases h1 : 1000 < l.length
  · have h1' : (1000 : Int) < l.length := by omega
    have hno : makeOk l = false := by unfold makeOk; rw [decide_eq_false (by omega)]; rfl
    rw [hno]
    ((try simp -implicitDefEqProofs [-loopQ_n, h1']) <;> (repeat' (first | (refine condD_dec ?_ ?_ <;> (intro hc; (try simp -implicitDefEqProofs [-loopQ_n, hc, h1']))) | (refine guardD_dec ?_ ?_ <;> (intro hc; (try simp -implicitDefEqProofs [-loopQ_n, hc, h1']))) | (refine condD_intro ?_ ?_ <;> (intro hd; have hc := hd; (try simp at hc) <;> (try simp -implicitDefEqProofs [-loopQ_n, hd, hc, h1']))) | (refine guardD_intro ?_ ?_ <;> (intro hd; have hc := hd; (try simp at hc) <;> (try simp -implicitDefEqProofs [-loopQ_n, hd, hc, h1']))) | (refine ldD_ep ?_ ?_; (focus kernel_rfl); (try simp -implicitDefEqProofs [-loopQ_n, h1'])))))
  have h1' : ¬ (1000 : Int) < l.length := by omega
  have hl2 : l.length ≤ 1000 := by omega
  by_cases hv0 : l.all wkV = true
  · have hyes : makeOk l = true := by simp only [makeOk, hv0, Bool.and_true, decide_eq_true_eq]; exact hl2
    have hv : ∀ s ∈ l, wkV s = true := List.all_eq_true.1 hv0
    rw [hyes, if_pos rfl]
    rw [hv0] at hA
    by_cases h0 : l = []
    · subst h0
      have hr : runsL (makeP []) 10080 = [] := (merged_eq (List.Perm.refl []) List.Pairwise.nil (by simp)).symm
      rw [hr]
      ((try simp -implicitDefEqProofs [-loopQ_n, rowsOf]) <;> (repeat' (first | (refine condD_dec ?_ ?_ <;> (intro hc; (try simp -implicitDefEqProofs [-loopQ_n, hc, rowsOf]))) | (refine guardD_dec ?_ ?_ <;> (intro hc; (try simp -implicitDefEqProofs [-loopQ_n, hc, rowsOf]))) | (refine condD_intro ?_ ?_ <;> (intro hd; have hc := hd; (try simp at hc) <;> (try simp -implicitDefEqProofs [-loopQ_n, hd, hc, rowsOf]))) | (refine guardD_intro ?_ ?_ <;> (intro hd; have hc := hd; (try simp at hc) <;> (try simp -implicitDefEqProofs [-loopQ_n, hd, hc, rowsOf]))) | (refine ldD_ep ?_ ?_; (focus kernel_rfl); (try simp -implicitDefEqProofs [-loopQ_n, rowsOf])) | (refine callS_mk ?_; (try simp -implicitDefEqProofs [-loopQ_n, rowsOf]); (first | refine callS_intro (hA) (.inl rfl) ?_); (try simp -implicitDefEqProofs [-loopQ_n, rowsOf])))))
      refine callG_intro (cloneSp0_G fun nb => ?_)
      ((try simp -implicitDefEqProofs [-loopQ_n, rowsOf]) <;> (repeat' (first | (refine condD_dec ?_ ?_ <;> (intro hc; (try simp -implicitDefEqProofs [-loopQ_n, hc, rowsOf]))) | (refine guardD_dec ?_ ?_ <;> (intro hc; (try simp -implicitDefEqProofs [-loopQ_n, hc, rowsOf]))) | (refine condD_intro ?_ ?_ <;> (intro hd; have hc := hd; (try simp at hc) <;> (try simp -implicitDefEqProofs [-loopQ_n, hd, hc, rowsOf]))) | (refine guardD_intro ?_ ?_ <;> (intro hd; have hc := hd; (try simp at hc) <;> (try simp -implicitDefEqProofs [-loopQ_n, hd, hc, rowsOf]))) | (refine ldD_ep ?_ ?_; (focus kernel_rfl); (try simp -implicitDefEqProofs [-loopQ_n, rowsOf])) | (refine callS_mk ?_; (try simp -implicitDefEqProofs [-loopQ_n, rowsOf]); (first | refine callS_intro (sortSp_nil) (.inl rfl) ?_); (try simp -implicitDefEqProofs [-loopQ_n, rowsOf])))))
      refine loop_intro (σ := Unit) (fun _ => ⟨[(2, .op 0 0), (5, .nils), (21, .os 1 0), (22, .int .i64 0), (23, .int .i64 0)], [.box 24 [.nils], .row 26 nb []]⟩) (fun _ => True) (fun _ => 0) () trivial ?_ ?_
      · refine weak_of 2 0 rfl rfl ?_ ?_ <;> simp
      rintro _ _
      ((try simp -implicitDefEqProofs [-loopQ_n]) <;> (repeat' (first | (refine condD_dec ?_ ?_ <;> (intro hc; (try simp -implicitDefEqProofs [-loopQ_n, hc]))) | (refine guardD_dec ?_ ?_ <;> (intro hc; (try simp -implicitDefEqProofs [-loopQ_n, hc]))) | (refine condD_intro ?_ ?_ <;> (intro hd; have hc := hd; (try simp at hc) <;> (try simp -implicitDefEqProofs [-loopQ_n, hd, hc]))) | (refine guardD_intro ?_ ?_ <;> (intro hd; have hc := hd; (try simp at hc) <;> (try simp -implicitDefEqProofs [-loopQ_n, hd, hc]))) | (refine ldD_ep ?_ ?_; (focus kernel_rfl); (try simp -implicitDefEqProofs [-loopQ_n])))))
      refine inl_intro mixed Tryd.func57 rfl (by kernel_rfl) (of_decide_eq_true rfl) (by kernel_rfl) ?_
      ((try simp -implicitDefEqProofs [-loopQ_n]) <;> (repeat' (first | (refine condD_dec ?_ ?_ <;> (intro hc; (try simp -implicitDefEqProofs [-loopQ_n, hc]))) | (refine guardD_dec ?_ ?_ <;> (intro hc; (try simp -implicitDefEqProofs [-loopQ_n, hc]))) | (refine condD_intro ?_ ?_ <;> (intro hd; have hc := hd; (try simp at hc) <;> (try simp -implicitDefEqProofs [-loopQ_n, hd, hc]))) | (refine guardD_intro ?_ ?_ <;> (intro hd; have hc := hd; (try simp at hc) <;> (try simp -implicitDefEqProofs [-loopQ_n, hd, hc]))) | (refine ldD_ep ?_ ?_; (focus kernel_rfl); (try simp -implicitDefEqProofs [-loopQ_n])))))
      refine endG_r (.tup [.agg [.nils], .int .i64 0]) (by simp) ?_
      simp -implicitDefEqProofs [contK]
      ((try simp -implicitDefEqProofs [-loopQ_n, calOut, rowsOf]) <;> (repeat' (first | (refine condD_dec ?_ ?_ <;> (intro hc; (try simp -implicitDefEqProofs [-loopQ_n, hc, calOut, rowsOf]))) | (refine guardD_dec ?_ ?_ <;> (intro hc; (try simp -implicitDefEqProofs [-loopQ_n, hc, calOut, rowsOf]))) | (refine condD_intro ?_ ?_ <;> (intro hd; have hc := hd; (try simp at hc) <;> (try simp -implicitDefEqProofs [-loopQ_n, hd, hc, calOut, rowsOf]))) | (refine guardD_intro ?_ ?_ <;> (intro hd; have hc := hd; (try simp at hc) <;> (try simp -implicitDefEqProofs [-loopQ_n, hd, hc, calOut, rowsOf]))) | (refine ldD_ep ?_ ?_; (focus kernel_rfl); (try simp -implicitDefEqProofs [-loopQ_n, calOut, rowsOf])))))
    · have hcl := cloneSp_fresh l h0 (by omega)
      have hlf : ((rowsOf spC l).all fun r => r.all flat) = true := rowsOf_flat fun x => by simp [spC, flat]
      ((try simp -implicitDefEqProofs [-loopQ_n, h1']) <;> (repeat' (first | (refine condD_dec ?_ ?_ <;> (intro hc; (try simp -implicitDefEqProofs [-loopQ_n, hc, h1']))) | (refine guardD_dec ?_ ?_ <;> (intro hc; (try simp -implicitDefEqProofs [-loopQ_n, hc, h1']))) | (refine condD_intro ?_ ?_ <;> (intro hd; have hc := hd; (try simp at hc) <;> (try simp -implicitDefEqProofs [-loopQ_n, hd, hc, h1']))) | (refine guardD_intro ?_ ?_ <;> (intro hd; have hc := hd; (try simp at hc) <;> (try simp -implicitDefEqProofs [-loopQ_n, hd, hc, h1']))) | (refine ldD_ep ?_ ?_; (focus kernel_rfl); (try simp -implicitDefEqProofs [-loopQ_n, h1'])) | (refine callS_mk ?_; (try simp -implicitDefEqProofs [-loopQ_n, h1']); (first | refine callS_intro (hA) (.inl rfl) ?_); (try simp -implicitDefEqProofs [-loopQ_n, h1'])))))
      refine fresh_intro hcl (by simp) (.inl hlf) ?_
      ((try simp -implicitDefEqProofs [-loopQ_n]) <;> (repeat' (first | (refine condD_dec ?_ ?_ <;> (intro hc; (try simp -implicitDefEqProofs [-loopQ_n, hc]))) | (refine guardD_dec ?_ ?_ <;> (intro hc; (try simp -implicitDefEqProofs [-loopQ_n, hc]))) | (refine condD_intro ?_ ?_ <;> (intro hd; have hc := hd; (try simp at hc) <;> (try simp -implicitDefEqProofs [-loopQ_n, hd, hc]))) | (refine guardD_intro ?_ ?_ <;> (intro hd; have hc := hd; (try simp at hc) <;> (try simp -implicitDefEqProofs [-loopQ_n, hd, hc]))) | (refine ldD_ep ?_ ?_; (focus kernel_rfl); (try simp -implicitDefEqProofs [-loopQ_n])))))
      refine callG_intro (sortSp_G (nb := false) (l := l) (by simp) (by simp) h0 (by omega) fun l' hp hs => ?_)
      have hme := merged_eq hp hs hv
      have hlen : l'.length = l.length := hp.length_eq
      generalize runsL (makeP l) 10080 = res at hme ⊢
      ((try simp -implicitDefEqProofs [-loopQ_n, hlen]) <;> (repeat' (first | (refine condD_dec ?_ ?_ <;> (intro hc; (try simp -implicitDefEqProofs [-loopQ_n, hc, hlen]))) | (refine guardD_dec ?_ ?_ <;> (intro hc; (try simp -implicitDefEqProofs [-loopQ_n, hc, hlen]))) | (refine condD_intro ?_ ?_ <;> (intro hd; have hc := hd; (try simp at hc) <;> (try simp -implicitDefEqProofs [-loopQ_n, hd, hc, hlen]))) | (refine guardD_intro ?_ ?_ <;> (intro hd; have hc := hd; (try simp at hc) <;> (try simp -implicitDefEqProofs [-loopQ_n, hd, hc, hlen]))) | (refine ldD_ep ?_ ?_; (focus kernel_rfl); (try simp -implicitDefEqProofs [-loopQ_n, hlen])))))
      refine loop_intro (σ := Nat × List Sp) (fun x => ⟨[(2, .op 0 0), (5, .os 2 x.2.length), (21, .os 1 l.length), (22, .int .i64 l.length), (23, .int .i64 x.1)], [.box 24 [.nils], .row 26 false (rowsOf spC l'), .row 26 true (rowsOf spC x.2)]⟩)
        (fun x => x.1 ≤ l.length ∧ x.2.length ≤ x.1 ∧ (l'.drop x.1).foldl mrg x.2 = res) (fun x => l.length - x.1) (0, []) ⟨by simp, by simp, by simpa using hme⟩ ?_ ?_
      · refine weak_of 2 1 rfl rfl ?_ ?_ <;> simp [spC_refs, spC_nil]
      rintro ⟨i, acc⟩ ⟨hi, hal, hR⟩
      simp only at hi hal hR
      by_cases h : i < l.length
      · have h2 : i < l'.length := by omega
        have w1 := w_succ h (by omega)
        obtain ⟨⟨f, t⟩, hf⟩ : ∃ e, l'[i] = e := ⟨_, rfl⟩
        rw [List.drop_eq_getElem_cons h2, hf, List.foldl_cons] at hR
        have hl1 : acc.length ≤ 1073741823 := by omega
        cases hk : acc.length with
        | zero =>
          have he : acc = [] := List.eq_nil_of_length_eq_zero hk
          subst he
          have hm : mrg [] ⟨f, t⟩ = [⟨f, t⟩] := rfl
          rw [hm] at hR
          ((try simp -implicitDefEqProofs [-loopQ_n, h, h2, hf, spC, w1, hlen, spC_nil]) <;> (repeat' (first | (refine condD_dec ?_ ?_ <;> (intro hc; (try simp -implicitDefEqProofs [-loopQ_n, hc, h, h2, hf, spC, w1, hlen, spC_nil]))) | (refine guardD_dec ?_ ?_ <;> (intro hc; (try simp -implicitDefEqProofs [-loopQ_n, hc, h, h2, hf, spC, w1, hlen, spC_nil]))) | (refine condD_intro ?_ ?_ <;> (intro hd; have hc := hd; (try simp at hc) <;> (try simp -implicitDefEqProofs [-loopQ_n, hd, hc, h, h2, hf, spC, w1, hlen, spC_nil]))) | (refine guardD_intro ?_ ?_ <;> (intro hd; have hc := hd; (try simp at hc) <;> (try simp -implicitDefEqProofs [-loopQ_n, hd, hc, h, h2, hf, spC, w1, hlen, spC_nil]))) | (refine ldD_ep ?_ ?_; (focus kernel_rfl); (try simp -implicitDefEqProofs [-loopQ_n, h, h2, hf, spC, w1, hlen, spC_nil])))))
          refine loop_next (i + 1, [⟨f, t⟩]) ⟨h, by simp, hR⟩ (by simp only; omega) (weak_of 3 0 rfl rfl ?_ ?_) <;> simp [spC_refs, spC_single]
        | succ j =>
          have hj : j < acc.length := by omega
          obtain ⟨⟨f2, t2⟩, hq⟩ : ∃ e, acc[j] = e := ⟨_, rfl⟩
          have hget : acc[j]? = some ⟨f2, t2⟩ := by rw [List.getElem?_eq_getElem hj, hq]
          have w3 : wrapI .i64 ((j : Int) + 1 - 1) = (j : Int) := by rw [wrap_in (by omega) (by omega)]; omega
          have w4 : wrapI .i64 (j : Int) = (j : Int) := wrap_in (by omega) (by omega)
          have p0 : (0 : Int) < (j : Int) + 1 := by omega
          have hb : j ≤ 1073741822 := by omega
          by_cases c1 : f ≤ t2
          · have hm : mrg acc ⟨f, t⟩ = acc.set j ⟨f2, if t2 < t then t else t2⟩ := by rw [mrg, hk]; simp [hget, c1]
            rw [hm] at hR
            ((try simp -implicitDefEqProofs [-loopQ_n, h, h2, hf, spC, w1, hlen, hk, hj, hget, hq, w3, w4, p0, c1]) <;> (repeat' (first | (refine condD_dec ?_ ?_ <;> (intro hc; (try simp -implicitDefEqProofs [-loopQ_n, hc, h, h2, hf, spC, w1, hlen, hk, hj, hget, hq, w3, w4, p0, c1]))) | (refine guardD_dec ?_ ?_ <;> (intro hc; (try simp -implicitDefEqProofs [-loopQ_n, hc, h, h2, hf, spC, w1, hlen, hk, hj, hget, hq, w3, w4, p0, c1]))) | (refine condD_intro ?_ ?_ <;> (intro hd; have hc := hd; (try simp at hc) <;> (try simp -implicitDefEqProofs [-loopQ_n, hd, hc, h, h2, hf, spC, w1, hlen, hk, hj, hget, hq, w3, w4, p0, c1]))) | (refine guardD_intro ?_ ?_ <;> (intro hd; have hc := hd; (try simp at hc) <;> (try simp -implicitDefEqProofs [-loopQ_n, hd, hc, h, h2, hf, spC, w1, hlen, hk, hj, hget, hq, w3, w4, p0, c1]))) | (refine ldD_ep ?_ ?_; (focus kernel_rfl); (try simp -implicitDefEqProofs [-loopQ_n, h, h2, hf, spC, w1, hlen, hk, hj, hget, hq, w3, w4, p0, c1])))))
            rw [spC_set]
            refine loop_next (i + 1, acc.set j ⟨f2, if t2 < t then t else t2⟩) ⟨h, by simp; omega, hR⟩ (by simp only; omega) (weak_of 3 0 rfl rfl ?_ ?_) <;> simp [hk, spC_refs]
          · have hm : mrg acc ⟨f, t⟩ = acc ++ [⟨f, t⟩] := by rw [mrg, hk]; simp [hget, c1]
            rw [hm] at hR
            ((try simp -implicitDefEqProofs [-loopQ_n, h, h2, hf, spC, w1, hlen, hk, hj, hget, hq, w3, w4, p0, c1, hb, spC_snoc]) <;> (repeat' (first | (refine condD_dec ?_ ?_ <;> (intro hc; (try simp -implicitDefEqProofs [-loopQ_n, hc, h, h2, hf, spC, w1, hlen, hk, hj, hget, hq, w3, w4, p0, c1, hb, spC_snoc]))) | (refine guardD_dec ?_ ?_ <;> (intro hc; (try simp -implicitDefEqProofs [-loopQ_n, hc, h, h2, hf, spC, w1, hlen, hk, hj, hget, hq, w3, w4, p0, c1, hb, spC_snoc]))) | (refine condD_intro ?_ ?_ <;> (intro hd; have hc := hd; (try simp at hc) <;> (try simp -implicitDefEqProofs [-loopQ_n, hd, hc, h, h2, hf, spC, w1, hlen, hk, hj, hget, hq, w3, w4, p0, c1, hb, spC_snoc]))) | (refine guardD_intro ?_ ?_ <;> (intro hd; have hc := hd; (try simp at hc) <;> (try simp -implicitDefEqProofs [-loopQ_n, hd, hc, h, h2, hf, spC, w1, hlen, hk, hj, hget, hq, w3, w4, p0, c1, hb, spC_snoc]))) | (refine ldD_ep ?_ ?_; (focus kernel_rfl); (try simp -implicitDefEqProofs [-loopQ_n, h, h2, hf, spC, w1, hlen, hk, hj, hget, hq, w3, w4, p0, c1, hb, spC_snoc])))))
            refine loop_next (i + 1, acc ++ [⟨f, t⟩]) ⟨h, by simp; omega, hR⟩ (by simp only; omega) (weak_of 3 0 rfl rfl ?_ ?_) <;> simp [hk, spC_refs]
      · rw [List.drop_eq_nil_of_le (by omega), List.foldl_nil] at hR
        subst hR
        clear hme
        ((try simp -implicitDefEqProofs [-loopQ_n, h]) <;> (repeat' (first | (refine condD_dec ?_ ?_ <;> (intro hc; (try simp -implicitDefEqProofs [-loopQ_n, hc, h]))) | (refine guardD_dec ?_ ?_ <;> (intro hc; (try simp -implicitDefEqProofs [-loopQ_n, hc, h]))) | (refine condD_intro ?_ ?_ <;> (intro hd; have hc := hd; (try simp at hc) <;> (try simp -implicitDefEqProofs [-loopQ_n, hd, hc, h]))) | (refine guardD_intro ?_ ?_ <;> (intro hd; have hc := hd; (try simp at hc) <;> (try simp -implicitDefEqProofs [-loopQ_n, hd, hc, h]))) | (refine ldD_ep ?_ ?_; (focus kernel_rfl); (try simp -implicitDefEqProofs [-loopQ_n, h])))))
        by_cases hk : 100 < acc.length
        · have hk' : (100 : Int) < (acc.length : Int) := by omega
          refine inl_intro mixed Tryd.func57 rfl (by kernel_rfl) (of_decide_eq_true rfl) (by kernel_rfl) ?_
          ((try simp -implicitDefEqProofs [-loopQ_n, hk', hk]) <;> (repeat' (first | (refine condD_dec ?_ ?_ <;> (intro hc; (try simp -implicitDefEqProofs [-loopQ_n, hc, hk', hk]))) | (refine guardD_dec ?_ ?_ <;> (intro hc; (try simp -implicitDefEqProofs [-loopQ_n, hc, hk', hk]))) | (refine condD_intro ?_ ?_ <;> (intro hd; have hc := hd; (try simp at hc) <;> (try simp -implicitDefEqProofs [-loopQ_n, hd, hc, hk', hk]))) | (refine guardD_intro ?_ ?_ <;> (intro hd; have hc := hd; (try simp at hc) <;> (try simp -implicitDefEqProofs [-loopQ_n, hd, hc, hk', hk]))) | (refine ldD_ep ?_ ?_; (focus kernel_rfl); (try simp -implicitDefEqProofs [-loopQ_n, hk', hk])))))
          refine endG_r (.tup [.agg [.nils], .int .i64 5]) (by simp) ?_
          simp -implicitDefEqProofs [contK]
          ((try simp -implicitDefEqProofs [-loopQ_n, calOut, hk]) <;> (repeat' (first | (refine condD_dec ?_ ?_ <;> (intro hc; (try simp -implicitDefEqProofs [-loopQ_n, hc, calOut, hk]))) | (refine guardD_dec ?_ ?_ <;> (intro hc; (try simp -implicitDefEqProofs [-loopQ_n, hc, calOut, hk]))) | (refine condD_intro ?_ ?_ <;> (intro hd; have hc := hd; (try simp at hc) <;> (try simp -implicitDefEqProofs [-loopQ_n, hd, hc, calOut, hk]))) | (refine guardD_intro ?_ ?_ <;> (intro hd; have hc := hd; (try simp at hc) <;> (try simp -implicitDefEqProofs [-loopQ_n, hd, hc, calOut, hk]))) | (refine ldD_ep ?_ ?_; (focus kernel_rfl); (try simp -implicitDefEqProofs [-loopQ_n, calOut, hk])))))
        · have hk' : ¬ (100 : Int) < (acc.length : Int) := by omega
          refine inl_intro mixed Tryd.func57 rfl (by kernel_rfl) (of_decide_eq_true rfl) (by kernel_rfl) ?_
          ((try simp -implicitDefEqProofs [-loopQ_n, hk', hk]) <;> (repeat' (first | (refine condD_dec ?_ ?_ <;> (intro hc; (try simp -implicitDefEqProofs [-loopQ_n, hc, hk', hk]))) | (refine guardD_dec ?_ ?_ <;> (intro hc; (try simp -implicitDefEqProofs [-loopQ_n, hc, hk', hk]))) | (refine condD_intro ?_ ?_ <;> (intro hd; have hc := hd; (try simp at hc) <;> (try simp -implicitDefEqProofs [-loopQ_n, hd, hc, hk', hk]))) | (refine guardD_intro ?_ ?_ <;> (intro hd; have hc := hd; (try simp at hc) <;> (try simp -implicitDefEqProofs [-loopQ_n, hd, hc, hk', hk]))) | (refine ldD_ep ?_ ?_; (focus kernel_rfl); (try simp -implicitDefEqProofs [-loopQ_n, hk', hk])))))
          refine endG_r (.tup [.agg [.os 2 acc.length], .int .i64 0]) (by simp) ?_
          simp -implicitDefEqProofs [contK]
          ((try simp -implicitDefEqProofs [-loopQ_n, calOut, hk, spans_reify, spC_len]) <;> (repeat' (first | (refine condD_dec ?_ ?_ <;> (intro hc; (try simp -implicitDefEqProofs [-loopQ_n, hc, calOut, hk, spans_reify, spC_len]))) | (refine guardD_dec ?_ ?_ <;> (intro hc; (try simp -implicitDefEqProofs [-loopQ_n, hc, calOut, hk, spans_reify, spC_len]))) | (refine condD_intro ?_ ?_ <;> (intro hd; have hc := hd; (try simp at hc) <;> (try simp -implicitDefEqProofs [-loopQ_n, hd, hc, calOut, hk, spans_reify, spC_len]))) | (refine guardD_intro ?_ ?_ <;> (intro hd; have hc := hd; (try simp at hc) <;> (try simp -implicitDefEqProofs [-loopQ_n, hd, hc, calOut, hk, spans_reify, spC_len]))) | (refine ldD_ep ?_ ?_; (focus kernel_rfl); (try simp -implicitDefEqProofs [-loopQ_n, calOut, hk, spans_reify, spC_len])))))
  · have hv0 : l.all wkV = false := by simpa using hv0
    have hno : makeOk l = false := by unfold makeOk; rw [hv0, Bool.and_false]
    rw [hno]
    rw [hv0] at hA
    ((try simp -implicitDefEqProofs [-loopQ_n, h1']) <;> (repeat' (first | (refine condD_dec ?_ ?_ <;> (intro hc; (try simp -implicitDefEqProofs [-loopQ_n, hc, h1']))) | (refine guardD_dec ?_ ?_ <;> (intro hc; (try simp -implicitDefEqProofs [-loopQ_n, hc, h1']))) | (refine condD_intro ?_ ?_ <;> (intro hd; have hc := hd; (try simp at hc) <;> (try simp -implicitDefEqProofs [-loopQ_n, hd, hc, h1']))) | (refine guardD_intro ?_ ?_ <;> (intro hd; have hc := hd; (try simp at hc) <;> (try simp -implicitDefEqProofs [-loopQ_n, hd, hc, h1']))) | (refine ldD_ep ?_ ?_; (focus kernel_rfl); (try simp -implicitDefEqProofs [-loopQ_n, h1'])) | (refine callS_mk ?_; (try simp -implicitDefEqProofs [-loopQ_n, h1']); (first | refine callS_intro (hA) (.inl rfl) ?_); (try simp -implicitDefEqProofs [-loopQ_n, h1'])))))
end Go.Proofs.YtlobmblakilmiaaDoor
