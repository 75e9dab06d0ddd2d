/- Calendars follow the laws of sets (the law ClockSets holds for every input; no condition). -/
import Derived.Test.YtlobmblakilmiaaDoorLaid
import Derived.Test.YtlobmblakilmiaaDoorTie
import Derived.Test.YtlobmblakilmiaaDoorCards
import Derived.SevenTiedAt
import Derived.Test.YtlobmblakilmiaaDoorClkT
namespace Go.Proofs.YtlobmblakilmiaaDoor.lawSets
set_option linter.unusedSimpArgs false
set_option linter.unusedVariables false
set_option linter.unnecessarySimpa false
set_option linter.unusedSectionVars false
open Go.ChangeShapes Go.WideShapes Go.ChangeAt Go.RowKit Go.Joins Go.Deep
section
variable [Glob]
set_option maxRecDepth 100000
theorem noneS_pure (l : List Sp) : Pure Tryd.prog 26 [.agg [.rs (rowsOf spC l)]] (.bool (decide (l.length = 0))) := by
  refine pure_of mixed Tryd.func26 rfl (by kernel_rfl) (of_decide_eq_true rfl) (by kernel_rfl) (vc_run ?_)
  ((try simp -implicitDefEqProofs [-loopQ_n]) <;> (repeat' (first | (refine condD_dec ?_ ?_ <;> (intro hc; (try simp -implicitDefEqProofs [-loopQ_n, hc]))) | (refine guardD_dec ?_ ?_ <;> (intro hc; (try simp -implicitDefEqProofs [-loopQ_n, hc]))) | (refine condD_intro ?_ ?_ <;> (intro hd; have hc := hd; (try simp at hc) <;> (try simp -implicitDefEqProofs [-loopQ_n, hd, hc]))) | (refine guardD_intro ?_ ?_ <;> (intro hd; have hc := hd; (try simp at hc) <;> (try simp -implicitDefEqProofs [-loopQ_n, hd, hc]))) | (refine ldD_ep ?_ ?_; (focus kernel_rfl); (try simp -implicitDefEqProofs [-loopQ_n])))))
set_option maxHeartbeats 16000000 in
theorem c000 {m : Int} (hg : Glob.row 0 = some [.int .i64 m]) (l a b : List Sp) (t : Int) (hG : ¬ greatB l = true) (ha : calOk a = true) (hb : calOk b = true) (ht : inst t = true)  (hB : bothRes a b = ([], 5)) (hC : closRes a = ([], 5)) (e : Int) (he : ¬ e = 0) (hM : makeRes l = ([], e)) :
    Pure Tryd.prog 9 [.rs (rowsOf spC l), .agg [.rs (rowsOf spC a)], .agg [.rs (rowsOf spC b)], .int .i64 t] (.bool true) := by
  have hgl : greatB l = false := by simpa using hG
  have hga : greatB a = false := by have := (calOk_v ha).1; simp [greatB]; omega
  have hgb : greatB b = false := by have := (calOk_v hb).1; simp [greatB]; omega
  have hl2 : l.length ≤ 1000000 := by
    simp only [greatB, Bool.or_eq_false_iff, Bool.and_eq_false_iff, decide_eq_false_iff_not] at hgl
    omega
  have t0 : ¬ t < 0 := by rw [inst_iff] at ht; omega
  have t1 : ¬ 1099511627776 < t := by rw [inst_iff] at ht; omega
  have htm : t.tmod 10080 = t % 10080 := Int.tmod_eq_emod_of_nonneg (by omega)
  have o1 := open_pure a t
  have o2 := open_pure b t
  rw [openOut_ok ha ht] at o1
  rw [openOut_ok hb ht] at o2
  try simp only at o1; try simp only at o2
  have n0 := noneS_pure []
  have pB := pboth a b
  have pC := pclos a
  have pM := pmake l hl2
  rw [hB] at pB
  simp only [calV2] at pB
  rw [hC] at pC
  simp only [calV2] at pC
  rw [hM] at pM
  simp only [calV2] at pM
  refine pure_of mixed Tryd.func9 rfl (by kernel_rfl) (of_decide_eq_true rfl) (by kernel_rfl) (vc_run ?_)
  ((try simp -implicitDefEqProofs [-loopQ_n, hgl, hga, hgb, t0, t1, ha, hb, htm, he, spC_nil]) <;> (repeat' (first | (refine condD_dec ?_ ?_ <;> (intro hc; (try simp -implicitDefEqProofs [-loopQ_n, hc, hgl, hga, hgb, t0, t1, ha, hb, htm, he, spC_nil]))) | (refine guardD_dec ?_ ?_ <;> (intro hc; (try simp -implicitDefEqProofs [-loopQ_n, hc, hgl, hga, hgb, t0, t1, ha, hb, htm, he, spC_nil]))) | (refine condD_intro ?_ ?_ <;> (intro hd; have hc := hd; (try simp at hc) <;> (try simp -implicitDefEqProofs [-loopQ_n, hd, hc, hgl, hga, hgb, t0, t1, ha, hb, htm, he, spC_nil]))) | (refine guardD_intro ?_ ?_ <;> (intro hd; have hc := hd; (try simp at hc) <;> (try simp -implicitDefEqProofs [-loopQ_n, hd, hc, hgl, hga, hgb, t0, t1, ha, hb, htm, he, spC_nil]))) | (refine ldD_ep ?_ ?_; (focus kernel_rfl); (try simp -implicitDefEqProofs [-loopQ_n, hgl, hga, hgb, t0, t1, ha, hb, htm, he, spC_nil])) | (refine callS_mk ?_; (try simp -implicitDefEqProofs [-loopQ_n, hgl, hga, hgb, t0, t1, ha, hb, htm, he, spC_nil]); (first | refine callS_intro (awake_pure hg) (.inl rfl) ?_ | refine callS_intro (great_pure _) (.inl rfl) ?_ | refine callS_intro (valid_pure _) (.inl rfl) ?_ | refine callS_intro (o1) (.inl rfl) ?_ | refine callS_intro (o2) (.inl rfl) ?_ | refine callS_intro (pB) (.inr ⟨rfl, rfl⟩) ?_ | refine callS_intro (pC) (.inr ⟨rfl, rfl⟩) ?_ | refine callS_intro (pM) (.inr ⟨rfl, rfl⟩) ?_ | refine callS_intro (n0) (.inl rfl) ?_); (try simp -implicitDefEqProofs [-loopQ_n, hgl, hga, hgb, t0, t1, ha, hb, htm, he, spC_nil])))))
set_option maxHeartbeats 16000000 in
theorem c001 {m : Int} (hg : Glob.row 0 = some [.int .i64 m]) (l a b : List Sp) (t : Int) (hG : ¬ greatB l = true) (ha : calOk a = true) (hb : calOk b = true) (ht : inst t = true)  (hB : bothRes a b = ([], 5)) (hC : closRes a = ([], 5)) (k : List Sp) (hM : makeRes l = (k, 0)) (hkk : calOk k = true) (hko : openOut k t = (l.any (inS (t % 10080)), 0)) (hkm : makeRes k = (k, 0)) :
    Pure Tryd.prog 9 [.rs (rowsOf spC l), .agg [.rs (rowsOf spC a)], .agg [.rs (rowsOf spC b)], .int .i64 t] (.bool true) := by
  have hgl : greatB l = false := by simpa using hG
  have hga : greatB a = false := by have := (calOk_v ha).1; simp [greatB]; omega
  have hgb : greatB b = false := by have := (calOk_v hb).1; simp [greatB]; omega
  have hl2 : l.length ≤ 1000000 := by
    simp only [greatB, Bool.or_eq_false_iff, Bool.and_eq_false_iff, decide_eq_false_iff_not] at hgl
    omega
  have t0 : ¬ t < 0 := by rw [inst_iff] at ht; omega
  have t1 : ¬ 1099511627776 < t := by rw [inst_iff] at ht; omega
  have htm : t.tmod 10080 = t % 10080 := Int.tmod_eq_emod_of_nonneg (by omega)
  have o1 := open_pure a t
  have o2 := open_pure b t
  rw [openOut_ok ha ht] at o1
  rw [openOut_ok hb ht] at o2
  try simp only at o1; try simp only at o2
  have n0 := noneS_pure []
  have pB := pboth a b
  have pC := pclos a
  have pM := pmake l hl2
  rw [hB] at pB
  simp only [calV2] at pB
  rw [hC] at pC
  simp only [calV2] at pC
  rw [hM] at pM
  have o5 := open_pure k t
  rw [hko] at o5
  have hkl := (calOk_v hkk).1
  have pK := pmake k (by omega)
  rw [hkm] at pK
  simp only [calV2] at pM; try simp only at o5; simp only [calV2] at pK
  have sK := rcsame_pure k k (by omega) (by omega) rfl
  refine pure_of mixed Tryd.func9 rfl (by kernel_rfl) (of_decide_eq_true rfl) (by kernel_rfl) (vc_run ?_)
  ((try simp -implicitDefEqProofs [-loopQ_n, hgl, hga, hgb, t0, t1, ha, hb, htm, hkk, spC_nil]) <;> (repeat' (first | (refine condD_dec ?_ ?_ <;> (intro hc; (try simp -implicitDefEqProofs [-loopQ_n, hc, hgl, hga, hgb, t0, t1, ha, hb, htm, hkk, spC_nil]))) | (refine guardD_dec ?_ ?_ <;> (intro hc; (try simp -implicitDefEqProofs [-loopQ_n, hc, hgl, hga, hgb, t0, t1, ha, hb, htm, hkk, spC_nil]))) | (refine condD_intro ?_ ?_ <;> (intro hd; have hc := hd; (try simp at hc) <;> (try simp -implicitDefEqProofs [-loopQ_n, hd, hc, hgl, hga, hgb, t0, t1, ha, hb, htm, hkk, spC_nil]))) | (refine guardD_intro ?_ ?_ <;> (intro hd; have hc := hd; (try simp at hc) <;> (try simp -implicitDefEqProofs [-loopQ_n, hd, hc, hgl, hga, hgb, t0, t1, ha, hb, htm, hkk, spC_nil]))) | (refine ldD_ep ?_ ?_; (focus kernel_rfl); (try simp -implicitDefEqProofs [-loopQ_n, hgl, hga, hgb, t0, t1, ha, hb, htm, hkk, spC_nil])) | (refine callS_mk ?_; (try simp -implicitDefEqProofs [-loopQ_n, hgl, hga, hgb, t0, t1, ha, hb, htm, hkk, spC_nil]); (first | refine callS_intro (awake_pure hg) (.inl rfl) ?_ | refine callS_intro (great_pure _) (.inl rfl) ?_ | refine callS_intro (valid_pure _) (.inl rfl) ?_ | refine callS_intro (o1) (.inl rfl) ?_ | refine callS_intro (o2) (.inl rfl) ?_ | refine callS_intro (pB) (.inr ⟨rfl, rfl⟩) ?_ | refine callS_intro (pC) (.inr ⟨rfl, rfl⟩) ?_ | refine callS_intro (pM) (.inr ⟨rfl, rfl⟩) ?_ | refine callS_intro (n0) (.inl rfl) ?_ | refine callS_intro (o5) (.inl rfl) ?_); (try simp -implicitDefEqProofs [-loopQ_n, hgl, hga, hgb, t0, t1, ha, hb, htm, hkk, spC_nil])))))
  refine loop_intro (σ := Nat × Bool) (fun z => ⟨[(3, .int .i64 t), (27, .op 4 0), (29, .bool (l.any (inS (t % 10080)))), (30, .int .i64 0), (31, .bool z.2), (213, .rs (rowsOf spC l)), (214, .int .i64 l.length), (215, .int .i64 z.1)], [.box 24 [.rs (rowsOf spC a)], .box 24 [.rs (rowsOf spC b)], .box 24 [.rs []], .box 24 [.rs []], .box 24 [.rs (rowsOf spC k)]]⟩) (fun z => z.1 ≤ l.length ∧ (z.2 || (l.drop z.1).any (inS (t % 10080))) = l.any (inS (t % 10080))) (fun z => l.length - z.1) (0, false) ⟨by simp, by simp⟩ ?_ ?_
  · refine weak_of 5 0 rfl rfl ?_ ?_ <;> simp
  rintro ⟨i, v⟩ ⟨hi, hR⟩
  simp only at hi hR
  by_cases h : i < l.length
  · have w1 := w_succ h (by omega)
    obtain ⟨⟨f, u⟩, hf⟩ : ∃ e, l[i] = e := ⟨_, rfl⟩
    rw [List.drop_eq_getElem_cons h, hf, List.any_cons] at hR
    cases v with
    | true =>
      ((try simp -implicitDefEqProofs [-loopQ_n, h, hf, spC, w1, htm]) <;> (repeat' (first | (refine condD_dec ?_ ?_ <;> (intro hc; (try simp -implicitDefEqProofs [-loopQ_n, hc, h, hf, spC, w1, htm]))) | (refine guardD_dec ?_ ?_ <;> (intro hc; (try simp -implicitDefEqProofs [-loopQ_n, hc, h, hf, spC, w1, htm]))) | (refine condD_intro ?_ ?_ <;> (intro hd; have hc := hd; (try simp at hc) <;> (try simp -implicitDefEqProofs [-loopQ_n, hd, hc, h, hf, spC, w1, htm]))) | (refine guardD_intro ?_ ?_ <;> (intro hd; have hc := hd; (try simp at hc) <;> (try simp -implicitDefEqProofs [-loopQ_n, hd, hc, h, hf, spC, w1, htm]))) | (refine ldD_ep ?_ ?_; (focus kernel_rfl); (try simp -implicitDefEqProofs [-loopQ_n, h, hf, spC, w1, htm])))))
      refine loop_next (i + 1, true) ⟨h, by simpa using hR⟩ (by simp only; omega) (weak_of 5 0 rfl rfl ?_ ?_) <;> simp
    | false =>
      by_cases c1 : f ≤ t % 10080
      · by_cases c2 : t % 10080 < u
        · have hin : inS (t % 10080) ⟨f, u⟩ = true := by simp [inS, c1, c2]
          rw [hin] at hR
          ((try simp -implicitDefEqProofs [-loopQ_n, h, hf, spC, w1, htm, c1, c2]) <;> (repeat' (first | (refine condD_dec ?_ ?_ <;> (intro hc; (try simp -implicitDefEqProofs [-loopQ_n, hc, h, hf, spC, w1, htm, c1, c2]))) | (refine guardD_dec ?_ ?_ <;> (intro hc; (try simp -implicitDefEqProofs [-loopQ_n, hc, h, hf, spC, w1, htm, c1, c2]))) | (refine condD_intro ?_ ?_ <;> (intro hd; have hc := hd; (try simp at hc) <;> (try simp -implicitDefEqProofs [-loopQ_n, hd, hc, h, hf, spC, w1, htm, c1, c2]))) | (refine guardD_intro ?_ ?_ <;> (intro hd; have hc := hd; (try simp at hc) <;> (try simp -implicitDefEqProofs [-loopQ_n, hd, hc, h, hf, spC, w1, htm, c1, c2]))) | (refine ldD_ep ?_ ?_; (focus kernel_rfl); (try simp -implicitDefEqProofs [-loopQ_n, h, hf, spC, w1, htm, c1, c2])))))
          refine loop_next (i + 1, true) ⟨h, by simpa using hR⟩ (by simp only; omega) (weak_of 5 0 rfl rfl ?_ ?_) <;> simp
        · have hin : inS (t % 10080) ⟨f, u⟩ = false := by simp [inS, c2]
          rw [hin] at hR
          ((try simp -implicitDefEqProofs [-loopQ_n, h, hf, spC, w1, htm, c1, c2]) <;> (repeat' (first | (refine condD_dec ?_ ?_ <;> (intro hc; (try simp -implicitDefEqProofs [-loopQ_n, hc, h, hf, spC, w1, htm, c1, c2]))) | (refine guardD_dec ?_ ?_ <;> (intro hc; (try simp -implicitDefEqProofs [-loopQ_n, hc, h, hf, spC, w1, htm, c1, c2]))) | (refine condD_intro ?_ ?_ <;> (intro hd; have hc := hd; (try simp at hc) <;> (try simp -implicitDefEqProofs [-loopQ_n, hd, hc, h, hf, spC, w1, htm, c1, c2]))) | (refine guardD_intro ?_ ?_ <;> (intro hd; have hc := hd; (try simp at hc) <;> (try simp -implicitDefEqProofs [-loopQ_n, hd, hc, h, hf, spC, w1, htm, c1, c2]))) | (refine ldD_ep ?_ ?_; (focus kernel_rfl); (try simp -implicitDefEqProofs [-loopQ_n, h, hf, spC, w1, htm, c1, c2])))))
          refine loop_next (i + 1, false) ⟨h, by simpa using hR⟩ (by simp only; omega) (weak_of 5 0 rfl rfl ?_ ?_) <;> simp
      · have hin : inS (t % 10080) ⟨f, u⟩ = false := by simp [inS, c1]
        rw [hin] at hR
        ((try simp -implicitDefEqProofs [-loopQ_n, h, hf, spC, w1, htm, c1]) <;> (repeat' (first | (refine condD_dec ?_ ?_ <;> (intro hc; (try simp -implicitDefEqProofs [-loopQ_n, hc, h, hf, spC, w1, htm, c1]))) | (refine guardD_dec ?_ ?_ <;> (intro hc; (try simp -implicitDefEqProofs [-loopQ_n, hc, h, hf, spC, w1, htm, c1]))) | (refine condD_intro ?_ ?_ <;> (intro hd; have hc := hd; (try simp at hc) <;> (try simp -implicitDefEqProofs [-loopQ_n, hd, hc, h, hf, spC, w1, htm, c1]))) | (refine guardD_intro ?_ ?_ <;> (intro hd; have hc := hd; (try simp at hc) <;> (try simp -implicitDefEqProofs [-loopQ_n, hd, hc, h, hf, spC, w1, htm, c1]))) | (refine ldD_ep ?_ ?_; (focus kernel_rfl); (try simp -implicitDefEqProofs [-loopQ_n, h, hf, spC, w1, htm, c1])))))
        refine loop_next (i + 1, false) ⟨h, by simpa using hR⟩ (by simp only; omega) (weak_of 5 0 rfl rfl ?_ ?_) <;> simp
  · rw [List.drop_eq_nil_of_le (by omega)] at hR
    have hv : v = l.any (inS (t % 10080)) := by simpa using hR
    subst hv
    ((try simp -implicitDefEqProofs [-loopQ_n, h, hkk]) <;> (repeat' (first | (refine condD_dec ?_ ?_ <;> (intro hc; (try simp -implicitDefEqProofs [-loopQ_n, hc, h, hkk]))) | (refine guardD_dec ?_ ?_ <;> (intro hc; (try simp -implicitDefEqProofs [-loopQ_n, hc, h, hkk]))) | (refine condD_intro ?_ ?_ <;> (intro hd; have hc := hd; (try simp at hc) <;> (try simp -implicitDefEqProofs [-loopQ_n, hd, hc, h, hkk]))) | (refine guardD_intro ?_ ?_ <;> (intro hd; have hc := hd; (try simp at hc) <;> (try simp -implicitDefEqProofs [-loopQ_n, hd, hc, h, hkk]))) | (refine ldD_ep ?_ ?_; (focus kernel_rfl); (try simp -implicitDefEqProofs [-loopQ_n, h, hkk])) | (refine callS_mk ?_; (try simp -implicitDefEqProofs [-loopQ_n, h, hkk]); (first | refine callS_intro (pK) (.inr ⟨rfl, rfl⟩) ?_ | refine callS_intro (valid_pure _) (.inl rfl) ?_ | refine callS_intro (sK) (.inl rfl) ?_); (try simp -implicitDefEqProofs [-loopQ_n, h, hkk])))))
set_option maxHeartbeats 16000000 in
theorem c010 {m : Int} (hg : Glob.row 0 = some [.int .i64 m]) (l a b : List Sp) (t : Int) (hG : ¬ greatB l = true) (ha : calOk a = true) (hb : calOk b = true) (ht : inst t = true)  (hB : bothRes a b = ([], 5)) (n : List Sp) (x y : Int) (hC : closRes a = (n, 0)) (hnn : calOk n = true) (hno : openOut n t = (!openW (t % 10080) a, 0)) (hnc : closRes n = (a, 0)) (hwx : workOut a ⟨0, 10080⟩ = (x, 0)) (hwy : workOut n ⟨0, 10080⟩ = (y, 0)) (x0 : 0 ≤ x) (x1 : x ≤ 10080) (y0 : 0 ≤ y) (xy : x + y = 10080) (e : Int) (he : ¬ e = 0) (hM : makeRes l = ([], e)) :
    Pure Tryd.prog 9 [.rs (rowsOf spC l), .agg [.rs (rowsOf spC a)], .agg [.rs (rowsOf spC b)], .int .i64 t] (.bool true) := by
  have hgl : greatB l = false := by simpa using hG
  have hga : greatB a = false := by have := (calOk_v ha).1; simp [greatB]; omega
  have hgb : greatB b = false := by have := (calOk_v hb).1; simp [greatB]; omega
  have hl2 : l.length ≤ 1000000 := by
    simp only [greatB, Bool.or_eq_false_iff, Bool.and_eq_false_iff, decide_eq_false_iff_not] at hgl
    omega
  have t0 : ¬ t < 0 := by rw [inst_iff] at ht; omega
  have t1 : ¬ 1099511627776 < t := by rw [inst_iff] at ht; omega
  have htm : t.tmod 10080 = t % 10080 := Int.tmod_eq_emod_of_nonneg (by omega)
  have o1 := open_pure a t
  have o2 := open_pure b t
  rw [openOut_ok ha ht] at o1
  rw [openOut_ok hb ht] at o2
  try simp only at o1; try simp only at o2
  have n0 := noneS_pure []
  have pB := pboth a b
  have pC := pclos a
  have pM := pmake l hl2
  rw [hB] at pB
  simp only [calV2] at pB
  rw [hC] at pC
  have o4 := open_pure n t
  rw [hno] at o4
  have pN := pclos n
  rw [hnc] at pN
  have wx := working_pure a 0 10080
  rw [hwx] at wx
  have wy := working_pure n 0 10080
  rw [hwy] at wy
  simp only [calV2] at pC; try simp only at o4; simp only [calV2] at pN; try simp only at wx; try simp only at wy
  have sN := rcsame_pure a a (by have := (calOk_v ha).1; omega) (by have := (calOk_v ha).1; omega) rfl
  have xyw : wrapI .i64 (x + y) = 10080 := by rw [wrap_in (by omega) (by omega)]; exact xy
  have x0' : ¬ x < 0 := by omega
  have x1' : ¬ 10080 < x := by omega
  rw [hM] at pM
  simp only [calV2] at pM
  refine pure_of mixed Tryd.func9 rfl (by kernel_rfl) (of_decide_eq_true rfl) (by kernel_rfl) (vc_run ?_)
  ((try simp -implicitDefEqProofs [-loopQ_n, hgl, hga, hgb, t0, t1, ha, hb, htm, hnn, xyw, x0', x1', he, spC_nil]) <;> (repeat' (first | (refine condD_dec ?_ ?_ <;> (intro hc; (try simp -implicitDefEqProofs [-loopQ_n, hc, hgl, hga, hgb, t0, t1, ha, hb, htm, hnn, xyw, x0', x1', he, spC_nil]))) | (refine guardD_dec ?_ ?_ <;> (intro hc; (try simp -implicitDefEqProofs [-loopQ_n, hc, hgl, hga, hgb, t0, t1, ha, hb, htm, hnn, xyw, x0', x1', he, spC_nil]))) | (refine condD_intro ?_ ?_ <;> (intro hd; have hc := hd; (try simp at hc) <;> (try simp -implicitDefEqProofs [-loopQ_n, hd, hc, hgl, hga, hgb, t0, t1, ha, hb, htm, hnn, xyw, x0', x1', he, spC_nil]))) | (refine guardD_intro ?_ ?_ <;> (intro hd; have hc := hd; (try simp at hc) <;> (try simp -implicitDefEqProofs [-loopQ_n, hd, hc, hgl, hga, hgb, t0, t1, ha, hb, htm, hnn, xyw, x0', x1', he, spC_nil]))) | (refine ldD_ep ?_ ?_; (focus kernel_rfl); (try simp -implicitDefEqProofs [-loopQ_n, hgl, hga, hgb, t0, t1, ha, hb, htm, hnn, xyw, x0', x1', he, spC_nil])) | (refine callS_mk ?_; (try simp -implicitDefEqProofs [-loopQ_n, hgl, hga, hgb, t0, t1, ha, hb, htm, hnn, xyw, x0', x1', he, spC_nil]); (first | refine callS_intro (awake_pure hg) (.inl rfl) ?_ | refine callS_intro (great_pure _) (.inl rfl) ?_ | refine callS_intro (valid_pure _) (.inl rfl) ?_ | refine callS_intro (o1) (.inl rfl) ?_ | refine callS_intro (o2) (.inl rfl) ?_ | refine callS_intro (pB) (.inr ⟨rfl, rfl⟩) ?_ | refine callS_intro (pC) (.inr ⟨rfl, rfl⟩) ?_ | refine callS_intro (pM) (.inr ⟨rfl, rfl⟩) ?_ | refine callS_intro (n0) (.inl rfl) ?_ | refine callS_intro (o4) (.inl rfl) ?_ | refine callS_intro (pN) (.inr ⟨rfl, rfl⟩) ?_ | refine callS_intro (wx) (.inl rfl) ?_ | refine callS_intro (wy) (.inl rfl) ?_ | refine callS_intro (sN) (.inl rfl) ?_); (try simp -implicitDefEqProofs [-loopQ_n, hgl, hga, hgb, t0, t1, ha, hb, htm, hnn, xyw, x0', x1', he, spC_nil])))))
set_option maxHeartbeats 16000000 in
theorem c011 {m : Int} (hg : Glob.row 0 = some [.int .i64 m]) (l a b : List Sp) (t : Int) (hG : ¬ greatB l = true) (ha : calOk a = true) (hb : calOk b = true) (ht : inst t = true)  (hB : bothRes a b = ([], 5)) (n : List Sp) (x y : Int) (hC : closRes a = (n, 0)) (hnn : calOk n = true) (hno : openOut n t = (!openW (t % 10080) a, 0)) (hnc : closRes n = (a, 0)) (hwx : workOut a ⟨0, 10080⟩ = (x, 0)) (hwy : workOut n ⟨0, 10080⟩ = (y, 0)) (x0 : 0 ≤ x) (x1 : x ≤ 10080) (y0 : 0 ≤ y) (xy : x + y = 10080) (k : List Sp) (hM : makeRes l = (k, 0)) (hkk : calOk k = true) (hko : openOut k t = (l.any (inS (t % 10080)), 0)) (hkm : makeRes k = (k, 0)) :
    Pure Tryd.prog 9 [.rs (rowsOf spC l), .agg [.rs (rowsOf spC a)], .agg [.rs (rowsOf spC b)], .int .i64 t] (.bool true) := by
  have hgl : greatB l = false := by simpa using hG
  have hga : greatB a = false := by have := (calOk_v ha).1; simp [greatB]; omega
  have hgb : greatB b = false := by have := (calOk_v hb).1; simp [greatB]; omega
  have hl2 : l.length ≤ 1000000 := by
    simp only [greatB, Bool.or_eq_false_iff, Bool.and_eq_false_iff, decide_eq_false_iff_not] at hgl
    omega
  have t0 : ¬ t < 0 := by rw [inst_iff] at ht; omega
  have t1 : ¬ 1099511627776 < t := by rw [inst_iff] at ht; omega
  have htm : t.tmod 10080 = t % 10080 := Int.tmod_eq_emod_of_nonneg (by omega)
  have o1 := open_pure a t
  have o2 := open_pure b t
  rw [openOut_ok ha ht] at o1
  rw [openOut_ok hb ht] at o2
  try simp only at o1; try simp only at o2
  have n0 := noneS_pure []
  have pB := pboth a b
  have pC := pclos a
  have pM := pmake l hl2
  rw [hB] at pB
  simp only [calV2] at pB
  rw [hC] at pC
  have o4 := open_pure n t
  rw [hno] at o4
  have pN := pclos n
  rw [hnc] at pN
  have wx := working_pure a 0 10080
  rw [hwx] at wx
  have wy := working_pure n 0 10080
  rw [hwy] at wy
  simp only [calV2] at pC; try simp only at o4; simp only [calV2] at pN; try simp only at wx; try simp only at wy
  have sN := rcsame_pure a a (by have := (calOk_v ha).1; omega) (by have := (calOk_v ha).1; omega) rfl
  have xyw : wrapI .i64 (x + y) = 10080 := by rw [wrap_in (by omega) (by omega)]; exact xy
  have x0' : ¬ x < 0 := by omega
  have x1' : ¬ 10080 < x := by omega
  rw [hM] at pM
  have o5 := open_pure k t
  rw [hko] at o5
  have hkl := (calOk_v hkk).1
  have pK := pmake k (by omega)
  rw [hkm] at pK
  simp only [calV2] at pM; try simp only at o5; simp only [calV2] at pK
  have sK := rcsame_pure k k (by omega) (by omega) rfl
  refine pure_of mixed Tryd.func9 rfl (by kernel_rfl) (of_decide_eq_true rfl) (by kernel_rfl) (vc_run ?_)
  ((try simp -implicitDefEqProofs [-loopQ_n, hgl, hga, hgb, t0, t1, ha, hb, htm, hnn, xyw, x0', x1', hkk, spC_nil]) <;> (repeat' (first | (refine condD_dec ?_ ?_ <;> (intro hc; (try simp -implicitDefEqProofs [-loopQ_n, hc, hgl, hga, hgb, t0, t1, ha, hb, htm, hnn, xyw, x0', x1', hkk, spC_nil]))) | (refine guardD_dec ?_ ?_ <;> (intro hc; (try simp -implicitDefEqProofs [-loopQ_n, hc, hgl, hga, hgb, t0, t1, ha, hb, htm, hnn, xyw, x0', x1', hkk, spC_nil]))) | (refine condD_intro ?_ ?_ <;> (intro hd; have hc := hd; (try simp at hc) <;> (try simp -implicitDefEqProofs [-loopQ_n, hd, hc, hgl, hga, hgb, t0, t1, ha, hb, htm, hnn, xyw, x0', x1', hkk, spC_nil]))) | (refine guardD_intro ?_ ?_ <;> (intro hd; have hc := hd; (try simp at hc) <;> (try simp -implicitDefEqProofs [-loopQ_n, hd, hc, hgl, hga, hgb, t0, t1, ha, hb, htm, hnn, xyw, x0', x1', hkk, spC_nil]))) | (refine ldD_ep ?_ ?_; (focus kernel_rfl); (try simp -implicitDefEqProofs [-loopQ_n, hgl, hga, hgb, t0, t1, ha, hb, htm, hnn, xyw, x0', x1', hkk, spC_nil])) | (refine callS_mk ?_; (try simp -implicitDefEqProofs [-loopQ_n, hgl, hga, hgb, t0, t1, ha, hb, htm, hnn, xyw, x0', x1', hkk, spC_nil]); (first | refine callS_intro (awake_pure hg) (.inl rfl) ?_ | refine callS_intro (great_pure _) (.inl rfl) ?_ | refine callS_intro (valid_pure _) (.inl rfl) ?_ | refine callS_intro (o1) (.inl rfl) ?_ | refine callS_intro (o2) (.inl rfl) ?_ | refine callS_intro (pB) (.inr ⟨rfl, rfl⟩) ?_ | refine callS_intro (pC) (.inr ⟨rfl, rfl⟩) ?_ | refine callS_intro (pM) (.inr ⟨rfl, rfl⟩) ?_ | refine callS_intro (n0) (.inl rfl) ?_ | refine callS_intro (o4) (.inl rfl) ?_ | refine callS_intro (pN) (.inr ⟨rfl, rfl⟩) ?_ | refine callS_intro (wx) (.inl rfl) ?_ | refine callS_intro (wy) (.inl rfl) ?_ | refine callS_intro (sN) (.inl rfl) ?_ | refine callS_intro (o5) (.inl rfl) ?_); (try simp -implicitDefEqProofs [-loopQ_n, hgl, hga, hgb, t0, t1, ha, hb, htm, hnn, xyw, x0', x1', hkk, spC_nil])))))
  refine loop_intro (σ := Nat × Bool) (fun z => ⟨[(3, .int .i64 t), (27, .op 5 0), (29, .bool (l.any (inS (t % 10080)))), (30, .int .i64 0), (31, .bool z.2), (213, .rs (rowsOf spC l)), (214, .int .i64 l.length), (215, .int .i64 z.1)], [.box 24 [.rs (rowsOf spC a)], .box 24 [.rs (rowsOf spC b)], .box 24 [.rs []], .box 24 [.rs (rowsOf spC n)], .box 24 [.rs (rowsOf spC a)], .box 24 [.rs (rowsOf spC k)]]⟩) (fun z => z.1 ≤ l.length ∧ (z.2 || (l.drop z.1).any (inS (t % 10080))) = l.any (inS (t % 10080))) (fun z => l.length - z.1) (0, false) ⟨by simp, by simp⟩ ?_ ?_
  · refine weak_of 6 0 rfl rfl ?_ ?_ <;> simp
  rintro ⟨i, v⟩ ⟨hi, hR⟩
  simp only at hi hR
  by_cases h : i < l.length
  · have w1 := w_succ h (by omega)
    obtain ⟨⟨f, u⟩, hf⟩ : ∃ e, l[i] = e := ⟨_, rfl⟩
    rw [List.drop_eq_getElem_cons h, hf, List.any_cons] at hR
    cases v with
    | true =>
      ((try simp -implicitDefEqProofs [-loopQ_n, h, hf, spC, w1, htm]) <;> (repeat' (first | (refine condD_dec ?_ ?_ <;> (intro hc; (try simp -implicitDefEqProofs [-loopQ_n, hc, h, hf, spC, w1, htm]))) | (refine guardD_dec ?_ ?_ <;> (intro hc; (try simp -implicitDefEqProofs [-loopQ_n, hc, h, hf, spC, w1, htm]))) | (refine condD_intro ?_ ?_ <;> (intro hd; have hc := hd; (try simp at hc) <;> (try simp -implicitDefEqProofs [-loopQ_n, hd, hc, h, hf, spC, w1, htm]))) | (refine guardD_intro ?_ ?_ <;> (intro hd; have hc := hd; (try simp at hc) <;> (try simp -implicitDefEqProofs [-loopQ_n, hd, hc, h, hf, spC, w1, htm]))) | (refine ldD_ep ?_ ?_; (focus kernel_rfl); (try simp -implicitDefEqProofs [-loopQ_n, h, hf, spC, w1, htm])))))
      refine loop_next (i + 1, true) ⟨h, by simpa using hR⟩ (by simp only; omega) (weak_of 6 0 rfl rfl ?_ ?_) <;> simp
    | false =>
      by_cases c1 : f ≤ t % 10080
      · by_cases c2 : t % 10080 < u
        · have hin : inS (t % 10080) ⟨f, u⟩ = true := by simp [inS, c1, c2]
          rw [hin] at hR
          ((try simp -implicitDefEqProofs [-loopQ_n, h, hf, spC, w1, htm, c1, c2]) <;> (repeat' (first | (refine condD_dec ?_ ?_ <;> (intro hc; (try simp -implicitDefEqProofs [-loopQ_n, hc, h, hf, spC, w1, htm, c1, c2]))) | (refine guardD_dec ?_ ?_ <;> (intro hc; (try simp -implicitDefEqProofs [-loopQ_n, hc, h, hf, spC, w1, htm, c1, c2]))) | (refine condD_intro ?_ ?_ <;> (intro hd; have hc := hd; (try simp at hc) <;> (try simp -implicitDefEqProofs [-loopQ_n, hd, hc, h, hf, spC, w1, htm, c1, c2]))) | (refine guardD_intro ?_ ?_ <;> (intro hd; have hc := hd; (try simp at hc) <;> (try simp -implicitDefEqProofs [-loopQ_n, hd, hc, h, hf, spC, w1, htm, c1, c2]))) | (refine ldD_ep ?_ ?_; (focus kernel_rfl); (try simp -implicitDefEqProofs [-loopQ_n, h, hf, spC, w1, htm, c1, c2])))))
          refine loop_next (i + 1, true) ⟨h, by simpa using hR⟩ (by simp only; omega) (weak_of 6 0 rfl rfl ?_ ?_) <;> simp
        · have hin : inS (t % 10080) ⟨f, u⟩ = false := by simp [inS, c2]
          rw [hin] at hR
          ((try simp -implicitDefEqProofs [-loopQ_n, h, hf, spC, w1, htm, c1, c2]) <;> (repeat' (first | (refine condD_dec ?_ ?_ <;> (intro hc; (try simp -implicitDefEqProofs [-loopQ_n, hc, h, hf, spC, w1, htm, c1, c2]))) | (refine guardD_dec ?_ ?_ <;> (intro hc; (try simp -implicitDefEqProofs [-loopQ_n, hc, h, hf, spC, w1, htm, c1, c2]))) | (refine condD_intro ?_ ?_ <;> (intro hd; have hc := hd; (try simp at hc) <;> (try simp -implicitDefEqProofs [-loopQ_n, hd, hc, h, hf, spC, w1, htm, c1, c2]))) | (refine guardD_intro ?_ ?_ <;> (intro hd; have hc := hd; (try simp at hc) <;> (try simp -implicitDefEqProofs [-loopQ_n, hd, hc, h, hf, spC, w1, htm, c1, c2]))) | (refine ldD_ep ?_ ?_; (focus kernel_rfl); (try simp -implicitDefEqProofs [-loopQ_n, h, hf, spC, w1, htm, c1, c2])))))
          refine loop_next (i + 1, false) ⟨h, by simpa using hR⟩ (by simp only; omega) (weak_of 6 0 rfl rfl ?_ ?_) <;> simp
      · have hin : inS (t % 10080) ⟨f, u⟩ = false := by simp [inS, c1]
        rw [hin] at hR
        ((try simp -implicitDefEqProofs [-loopQ_n, h, hf, spC, w1, htm, c1]) <;> (repeat' (first | (refine condD_dec ?_ ?_ <;> (intro hc; (try simp -implicitDefEqProofs [-loopQ_n, hc, h, hf, spC, w1, htm, c1]))) | (refine guardD_dec ?_ ?_ <;> (intro hc; (try simp -implicitDefEqProofs [-loopQ_n, hc, h, hf, spC, w1, htm, c1]))) | (refine condD_intro ?_ ?_ <;> (intro hd; have hc := hd; (try simp at hc) <;> (try simp -implicitDefEqProofs [-loopQ_n, hd, hc, h, hf, spC, w1, htm, c1]))) | (refine guardD_intro ?_ ?_ <;> (intro hd; have hc := hd; (try simp at hc) <;> (try simp -implicitDefEqProofs [-loopQ_n, hd, hc, h, hf, spC, w1, htm, c1]))) | (refine ldD_ep ?_ ?_; (focus kernel_rfl); (try simp -implicitDefEqProofs [-loopQ_n, h, hf, spC, w1, htm, c1])))))
        refine loop_next (i + 1, false) ⟨h, by simpa using hR⟩ (by simp only; omega) (weak_of 6 0 rfl rfl ?_ ?_) <;> simp
  · rw [List.drop_eq_nil_of_le (by omega)] at hR
    have hv : v = l.any (inS (t % 10080)) := by simpa using hR
    subst hv
    ((try simp -implicitDefEqProofs [-loopQ_n, h, hkk]) <;> (repeat' (first | (refine condD_dec ?_ ?_ <;> (intro hc; (try simp -implicitDefEqProofs [-loopQ_n, hc, h, hkk]))) | (refine guardD_dec ?_ ?_ <;> (intro hc; (try simp -implicitDefEqProofs [-loopQ_n, hc, h, hkk]))) | (refine condD_intro ?_ ?_ <;> (intro hd; have hc := hd; (try simp at hc) <;> (try simp -implicitDefEqProofs [-loopQ_n, hd, hc, h, hkk]))) | (refine guardD_intro ?_ ?_ <;> (intro hd; have hc := hd; (try simp at hc) <;> (try simp -implicitDefEqProofs [-loopQ_n, hd, hc, h, hkk]))) | (refine ldD_ep ?_ ?_; (focus kernel_rfl); (try simp -implicitDefEqProofs [-loopQ_n, h, hkk])) | (refine callS_mk ?_; (try simp -implicitDefEqProofs [-loopQ_n, h, hkk]); (first | refine callS_intro (pK) (.inr ⟨rfl, rfl⟩) ?_ | refine callS_intro (valid_pure _) (.inl rfl) ?_ | refine callS_intro (sK) (.inl rfl) ?_); (try simp -implicitDefEqProofs [-loopQ_n, h, hkk])))))
set_option maxHeartbeats 16000000 in
theorem c1t00 {m : Int} (hg : Glob.row 0 = some [.int .i64 m]) (l a b : List Sp) (t : Int) (hG : ¬ greatB l = true) (ha : calOk a = true) (hb : calOk b = true) (ht : inst t = true)  (c : List Sp) (hB : bothRes a b = (c, 0)) (hcc : calOk c = true) (hco : openOut c t = (openW (t % 10080) a && openW (t % 10080) b, 0)) (oa : openW (t % 10080) a = true) (hC : closRes a = ([], 5)) (e : Int) (he : ¬ e = 0) (hM : makeRes l = ([], e)) :
    Pure Tryd.prog 9 [.rs (rowsOf spC l), .agg [.rs (rowsOf spC a)], .agg [.rs (rowsOf spC b)], .int .i64 t] (.bool true) := by
  have hgl : greatB l = false := by simpa using hG
  have hga : greatB a = false := by have := (calOk_v ha).1; simp [greatB]; omega
  have hgb : greatB b = false := by have := (calOk_v hb).1; simp [greatB]; omega
  have hl2 : l.length ≤ 1000000 := by
    simp only [greatB, Bool.or_eq_false_iff, Bool.and_eq_false_iff, decide_eq_false_iff_not] at hgl
    omega
  have t0 : ¬ t < 0 := by rw [inst_iff] at ht; omega
  have t1 : ¬ 1099511627776 < t := by rw [inst_iff] at ht; omega
  have htm : t.tmod 10080 = t % 10080 := Int.tmod_eq_emod_of_nonneg (by omega)
  have o1 := open_pure a t
  have o2 := open_pure b t
  rw [openOut_ok ha ht] at o1
  rw [openOut_ok hb ht] at o2
  try simp only at o1; try simp only at o2
  have n0 := noneS_pure []
  have pB := pboth a b
  have pC := pclos a
  have pM := pmake l hl2
  rw [hB] at pB
  have o3 := open_pure c t
  rw [hco] at o3
  simp only [calV2] at pB; try simp only at o3
  rw [hC] at pC
  simp only [calV2] at pC
  rw [hM] at pM
  simp only [calV2] at pM
  refine pure_of mixed Tryd.func9 rfl (by kernel_rfl) (of_decide_eq_true rfl) (by kernel_rfl) (vc_run ?_)
  ((try simp -implicitDefEqProofs [-loopQ_n, hgl, hga, hgb, t0, t1, ha, hb, htm, hcc, oa, he, spC_nil]) <;> (repeat' (first | (refine condD_dec ?_ ?_ <;> (intro hc; (try simp -implicitDefEqProofs [-loopQ_n, hc, hgl, hga, hgb, t0, t1, ha, hb, htm, hcc, oa, he, spC_nil]))) | (refine guardD_dec ?_ ?_ <;> (intro hc; (try simp -implicitDefEqProofs [-loopQ_n, hc, hgl, hga, hgb, t0, t1, ha, hb, htm, hcc, oa, he, spC_nil]))) | (refine condD_intro ?_ ?_ <;> (intro hd; have hc := hd; (try simp at hc) <;> (try simp -implicitDefEqProofs [-loopQ_n, hd, hc, hgl, hga, hgb, t0, t1, ha, hb, htm, hcc, oa, he, spC_nil]))) | (refine guardD_intro ?_ ?_ <;> (intro hd; have hc := hd; (try simp at hc) <;> (try simp -implicitDefEqProofs [-loopQ_n, hd, hc, hgl, hga, hgb, t0, t1, ha, hb, htm, hcc, oa, he, spC_nil]))) | (refine ldD_ep ?_ ?_; (focus kernel_rfl); (try simp -implicitDefEqProofs [-loopQ_n, hgl, hga, hgb, t0, t1, ha, hb, htm, hcc, oa, he, spC_nil])) | (refine callS_mk ?_; (try simp -implicitDefEqProofs [-loopQ_n, hgl, hga, hgb, t0, t1, ha, hb, htm, hcc, oa, he, spC_nil]); (first | refine callS_intro (awake_pure hg) (.inl rfl) ?_ | refine callS_intro (great_pure _) (.inl rfl) ?_ | refine callS_intro (valid_pure _) (.inl rfl) ?_ | refine callS_intro (o1) (.inl rfl) ?_ | refine callS_intro (o2) (.inl rfl) ?_ | refine callS_intro (pB) (.inr ⟨rfl, rfl⟩) ?_ | refine callS_intro (pC) (.inr ⟨rfl, rfl⟩) ?_ | refine callS_intro (pM) (.inr ⟨rfl, rfl⟩) ?_ | refine callS_intro (n0) (.inl rfl) ?_ | refine callS_intro (o3) (.inl rfl) ?_); (try simp -implicitDefEqProofs [-loopQ_n, hgl, hga, hgb, t0, t1, ha, hb, htm, hcc, oa, he, spC_nil])))))
set_option maxHeartbeats 16000000 in
theorem c1t01 {m : Int} (hg : Glob.row 0 = some [.int .i64 m]) (l a b : List Sp) (t : Int) (hG : ¬ greatB l = true) (ha : calOk a = true) (hb : calOk b = true) (ht : inst t = true)  (c : List Sp) (hB : bothRes a b = (c, 0)) (hcc : calOk c = true) (hco : openOut c t = (openW (t % 10080) a && openW (t % 10080) b, 0)) (oa : openW (t % 10080) a = true) (hC : closRes a = ([], 5)) (k : List Sp) (hM : makeRes l = (k, 0)) (hkk : calOk k = true) (hko : openOut k t = (l.any (inS (t % 10080)), 0)) (hkm : makeRes k = (k, 0)) :
    Pure Tryd.prog 9 [.rs (rowsOf spC l), .agg [.rs (rowsOf spC a)], .agg [.rs (rowsOf spC b)], .int .i64 t] (.bool true) := by
  have hgl : greatB l = false := by simpa using hG
  have hga : greatB a = false := by have := (calOk_v ha).1; simp [greatB]; omega
  have hgb : greatB b = false := by have := (calOk_v hb).1; simp [greatB]; omega
  have hl2 : l.length ≤ 1000000 := by
    simp only [greatB, Bool.or_eq_false_iff, Bool.and_eq_false_iff, decide_eq_false_iff_not] at hgl
    omega
  have t0 : ¬ t < 0 := by rw [inst_iff] at ht; omega
  have t1 : ¬ 1099511627776 < t := by rw [inst_iff] at ht; omega
  have htm : t.tmod 10080 = t % 10080 := Int.tmod_eq_emod_of_nonneg (by omega)
  have o1 := open_pure a t
  have o2 := open_pure b t
  rw [openOut_ok ha ht] at o1
  rw [openOut_ok hb ht] at o2
  try simp only at o1; try simp only at o2
  have n0 := noneS_pure []
  have pB := pboth a b
  have pC := pclos a
  have pM := pmake l hl2
  rw [hB] at pB
  have o3 := open_pure c t
  rw [hco] at o3
  simp only [calV2] at pB; try simp only at o3
  rw [hC] at pC
  simp only [calV2] at pC
  rw [hM] at pM
  have o5 := open_pure k t
  rw [hko] at o5
  have hkl := (calOk_v hkk).1
  have pK := pmake k (by omega)
  rw [hkm] at pK
  simp only [calV2] at pM; try simp only at o5; simp only [calV2] at pK
  have sK := rcsame_pure k k (by omega) (by omega) rfl
  refine pure_of mixed Tryd.func9 rfl (by kernel_rfl) (of_decide_eq_true rfl) (by kernel_rfl) (vc_run ?_)
  ((try simp -implicitDefEqProofs [-loopQ_n, hgl, hga, hgb, t0, t1, ha, hb, htm, hcc, oa, hkk, spC_nil]) <;> (repeat' (first | (refine condD_dec ?_ ?_ <;> (intro hc; (try simp -implicitDefEqProofs [-loopQ_n, hc, hgl, hga, hgb, t0, t1, ha, hb, htm, hcc, oa, hkk, spC_nil]))) | (refine guardD_dec ?_ ?_ <;> (intro hc; (try simp -implicitDefEqProofs [-loopQ_n, hc, hgl, hga, hgb, t0, t1, ha, hb, htm, hcc, oa, hkk, spC_nil]))) | (refine condD_intro ?_ ?_ <;> (intro hd; have hc := hd; (try simp at hc) <;> (try simp -implicitDefEqProofs [-loopQ_n, hd, hc, hgl, hga, hgb, t0, t1, ha, hb, htm, hcc, oa, hkk, spC_nil]))) | (refine guardD_intro ?_ ?_ <;> (intro hd; have hc := hd; (try simp at hc) <;> (try simp -implicitDefEqProofs [-loopQ_n, hd, hc, hgl, hga, hgb, t0, t1, ha, hb, htm, hcc, oa, hkk, spC_nil]))) | (refine ldD_ep ?_ ?_; (focus kernel_rfl); (try simp -implicitDefEqProofs [-loopQ_n, hgl, hga, hgb, t0, t1, ha, hb, htm, hcc, oa, hkk, spC_nil])) | (refine callS_mk ?_; (try simp -implicitDefEqProofs [-loopQ_n, hgl, hga, hgb, t0, t1, ha, hb, htm, hcc, oa, hkk, spC_nil]); (first | refine callS_intro (awake_pure hg) (.inl rfl) ?_ | refine callS_intro (great_pure _) (.inl rfl) ?_ | refine callS_intro (valid_pure _) (.inl rfl) ?_ | refine callS_intro (o1) (.inl rfl) ?_ | refine callS_intro (o2) (.inl rfl) ?_ | refine callS_intro (pB) (.inr ⟨rfl, rfl⟩) ?_ | refine callS_intro (pC) (.inr ⟨rfl, rfl⟩) ?_ | refine callS_intro (pM) (.inr ⟨rfl, rfl⟩) ?_ | refine callS_intro (n0) (.inl rfl) ?_ | refine callS_intro (o3) (.inl rfl) ?_ | refine callS_intro (o5) (.inl rfl) ?_); (try simp -implicitDefEqProofs [-loopQ_n, hgl, hga, hgb, t0, t1, ha, hb, htm, hcc, oa, hkk, spC_nil])))))
  refine loop_intro (σ := Nat × Bool) (fun z => ⟨[(3, .int .i64 t), (27, .op 4 0), (29, .bool (l.any (inS (t % 10080)))), (30, .int .i64 0), (31, .bool z.2), (213, .rs (rowsOf spC l)), (214, .int .i64 l.length), (215, .int .i64 z.1)], [.box 24 [.rs (rowsOf spC a)], .box 24 [.rs (rowsOf spC b)], .box 24 [.rs (rowsOf spC c)], .box 24 [.rs []], .box 24 [.rs (rowsOf spC k)]]⟩) (fun z => z.1 ≤ l.length ∧ (z.2 || (l.drop z.1).any (inS (t % 10080))) = l.any (inS (t % 10080))) (fun z => l.length - z.1) (0, false) ⟨by simp, by simp⟩ ?_ ?_
  · refine weak_of 5 0 rfl rfl ?_ ?_ <;> simp
  rintro ⟨i, v⟩ ⟨hi, hR⟩
  simp only at hi hR
  by_cases h : i < l.length
  · have w1 := w_succ h (by omega)
    obtain ⟨⟨f, u⟩, hf⟩ : ∃ e, l[i] = e := ⟨_, rfl⟩
    rw [List.drop_eq_getElem_cons h, hf, List.any_cons] at hR
    cases v with
    | true =>
      ((try simp -implicitDefEqProofs [-loopQ_n, h, hf, spC, w1, htm]) <;> (repeat' (first | (refine condD_dec ?_ ?_ <;> (intro hc; (try simp -implicitDefEqProofs [-loopQ_n, hc, h, hf, spC, w1, htm]))) | (refine guardD_dec ?_ ?_ <;> (intro hc; (try simp -implicitDefEqProofs [-loopQ_n, hc, h, hf, spC, w1, htm]))) | (refine condD_intro ?_ ?_ <;> (intro hd; have hc := hd; (try simp at hc) <;> (try simp -implicitDefEqProofs [-loopQ_n, hd, hc, h, hf, spC, w1, htm]))) | (refine guardD_intro ?_ ?_ <;> (intro hd; have hc := hd; (try simp at hc) <;> (try simp -implicitDefEqProofs [-loopQ_n, hd, hc, h, hf, spC, w1, htm]))) | (refine ldD_ep ?_ ?_; (focus kernel_rfl); (try simp -implicitDefEqProofs [-loopQ_n, h, hf, spC, w1, htm])))))
      refine loop_next (i + 1, true) ⟨h, by simpa using hR⟩ (by simp only; omega) (weak_of 5 0 rfl rfl ?_ ?_) <;> simp
    | false =>
      by_cases c1 : f ≤ t % 10080
      · by_cases c2 : t % 10080 < u
        · have hin : inS (t % 10080) ⟨f, u⟩ = true := by simp [inS, c1, c2]
          rw [hin] at hR
          ((try simp -implicitDefEqProofs [-loopQ_n, h, hf, spC, w1, htm, c1, c2]) <;> (repeat' (first | (refine condD_dec ?_ ?_ <;> (intro hc; (try simp -implicitDefEqProofs [-loopQ_n, hc, h, hf, spC, w1, htm, c1, c2]))) | (refine guardD_dec ?_ ?_ <;> (intro hc; (try simp -implicitDefEqProofs [-loopQ_n, hc, h, hf, spC, w1, htm, c1, c2]))) | (refine condD_intro ?_ ?_ <;> (intro hd; have hc := hd; (try simp at hc) <;> (try simp -implicitDefEqProofs [-loopQ_n, hd, hc, h, hf, spC, w1, htm, c1, c2]))) | (refine guardD_intro ?_ ?_ <;> (intro hd; have hc := hd; (try simp at hc) <;> (try simp -implicitDefEqProofs [-loopQ_n, hd, hc, h, hf, spC, w1, htm, c1, c2]))) | (refine ldD_ep ?_ ?_; (focus kernel_rfl); (try simp -implicitDefEqProofs [-loopQ_n, h, hf, spC, w1, htm, c1, c2])))))
          refine loop_next (i + 1, true) ⟨h, by simpa using hR⟩ (by simp only; omega) (weak_of 5 0 rfl rfl ?_ ?_) <;> simp
        · have hin : inS (t % 10080) ⟨f, u⟩ = false := by simp [inS, c2]
          rw [hin] at hR
          ((try simp -implicitDefEqProofs [-loopQ_n, h, hf, spC, w1, htm, c1, c2]) <;> (repeat' (first | (refine condD_dec ?_ ?_ <;> (intro hc; (try simp -implicitDefEqProofs [-loopQ_n, hc, h, hf, spC, w1, htm, c1, c2]))) | (refine guardD_dec ?_ ?_ <;> (intro hc; (try simp -implicitDefEqProofs [-loopQ_n, hc, h, hf, spC, w1, htm, c1, c2]))) | (refine condD_intro ?_ ?_ <;> (intro hd; have hc := hd; (try simp at hc) <;> (try simp -implicitDefEqProofs [-loopQ_n, hd, hc, h, hf, spC, w1, htm, c1, c2]))) | (refine guardD_intro ?_ ?_ <;> (intro hd; have hc := hd; (try simp at hc) <;> (try simp -implicitDefEqProofs [-loopQ_n, hd, hc, h, hf, spC, w1, htm, c1, c2]))) | (refine ldD_ep ?_ ?_; (focus kernel_rfl); (try simp -implicitDefEqProofs [-loopQ_n, h, hf, spC, w1, htm, c1, c2])))))
          refine loop_next (i + 1, false) ⟨h, by simpa using hR⟩ (by simp only; omega) (weak_of 5 0 rfl rfl ?_ ?_) <;> simp
      · have hin : inS (t % 10080) ⟨f, u⟩ = false := by simp [inS, c1]
        rw [hin] at hR
        ((try simp -implicitDefEqProofs [-loopQ_n, h, hf, spC, w1, htm, c1]) <;> (repeat' (first | (refine condD_dec ?_ ?_ <;> (intro hc; (try simp -implicitDefEqProofs [-loopQ_n, hc, h, hf, spC, w1, htm, c1]))) | (refine guardD_dec ?_ ?_ <;> (intro hc; (try simp -implicitDefEqProofs [-loopQ_n, hc, h, hf, spC, w1, htm, c1]))) | (refine condD_intro ?_ ?_ <;> (intro hd; have hc := hd; (try simp at hc) <;> (try simp -implicitDefEqProofs [-loopQ_n, hd, hc, h, hf, spC, w1, htm, c1]))) | (refine guardD_intro ?_ ?_ <;> (intro hd; have hc := hd; (try simp at hc) <;> (try simp -implicitDefEqProofs [-loopQ_n, hd, hc, h, hf, spC, w1, htm, c1]))) | (refine ldD_ep ?_ ?_; (focus kernel_rfl); (try simp -implicitDefEqProofs [-loopQ_n, h, hf, spC, w1, htm, c1])))))
        refine loop_next (i + 1, false) ⟨h, by simpa using hR⟩ (by simp only; omega) (weak_of 5 0 rfl rfl ?_ ?_) <;> simp
  · rw [List.drop_eq_nil_of_le (by omega)] at hR
    have hv : v = l.any (inS (t % 10080)) := by simpa using hR
    subst hv
    ((try simp -implicitDefEqProofs [-loopQ_n, h, hkk]) <;> (repeat' (first | (refine condD_dec ?_ ?_ <;> (intro hc; (try simp -implicitDefEqProofs [-loopQ_n, hc, h, hkk]))) | (refine guardD_dec ?_ ?_ <;> (intro hc; (try simp -implicitDefEqProofs [-loopQ_n, hc, h, hkk]))) | (refine condD_intro ?_ ?_ <;> (intro hd; have hc := hd; (try simp at hc) <;> (try simp -implicitDefEqProofs [-loopQ_n, hd, hc, h, hkk]))) | (refine guardD_intro ?_ ?_ <;> (intro hd; have hc := hd; (try simp at hc) <;> (try simp -implicitDefEqProofs [-loopQ_n, hd, hc, h, hkk]))) | (refine ldD_ep ?_ ?_; (focus kernel_rfl); (try simp -implicitDefEqProofs [-loopQ_n, h, hkk])) | (refine callS_mk ?_; (try simp -implicitDefEqProofs [-loopQ_n, h, hkk]); (first | refine callS_intro (pK) (.inr ⟨rfl, rfl⟩) ?_ | refine callS_intro (valid_pure _) (.inl rfl) ?_ | refine callS_intro (sK) (.inl rfl) ?_); (try simp -implicitDefEqProofs [-loopQ_n, h, hkk])))))
set_option maxHeartbeats 16000000 in
theorem c1t10 {m : Int} (hg : Glob.row 0 = some [.int .i64 m]) (l a b : List Sp) (t : Int) (hG : ¬ greatB l = true) (ha : calOk a = true) (hb : calOk b = true) (ht : inst t = true)  (c : List Sp) (hB : bothRes a b = (c, 0)) (hcc : calOk c = true) (hco : openOut c t = (openW (t % 10080) a && openW (t % 10080) b, 0)) (oa : openW (t % 10080) a = true) (n : List Sp) (x y : Int) (hC : closRes a = (n, 0)) (hnn : calOk n = true) (hno : openOut n t = (!openW (t % 10080) a, 0)) (hnc : closRes n = (a, 0)) (hwx : workOut a ⟨0, 10080⟩ = (x, 0)) (hwy : workOut n ⟨0, 10080⟩ = (y, 0)) (x0 : 0 ≤ x) (x1 : x ≤ 10080) (y0 : 0 ≤ y) (xy : x + y = 10080) (e : Int) (he : ¬ e = 0) (hM : makeRes l = ([], e)) :
    Pure Tryd.prog 9 [.rs (rowsOf spC l), .agg [.rs (rowsOf spC a)], .agg [.rs (rowsOf spC b)], .int .i64 t] (.bool true) := by
  have hgl : greatB l = false := by simpa using hG
  have hga : greatB a = false := by have := (calOk_v ha).1; simp [greatB]; omega
  have hgb : greatB b = false := by have := (calOk_v hb).1; simp [greatB]; omega
  have hl2 : l.length ≤ 1000000 := by
    simp only [greatB, Bool.or_eq_false_iff, Bool.and_eq_false_iff, decide_eq_false_iff_not] at hgl
    omega
  have t0 : ¬ t < 0 := by rw [inst_iff] at ht; omega
  have t1 : ¬ 1099511627776 < t := by rw [inst_iff] at ht; omega
  have htm : t.tmod 10080 = t % 10080 := Int.tmod_eq_emod_of_nonneg (by omega)
  have o1 := open_pure a t
  have o2 := open_pure b t
  rw [openOut_ok ha ht] at o1
  rw [openOut_ok hb ht] at o2
  try simp only at o1; try simp only at o2
  have n0 := noneS_pure []
  have pB := pboth a b
  have pC := pclos a
  have pM := pmake l hl2
  rw [hB] at pB
  have o3 := open_pure c t
  rw [hco] at o3
  simp only [calV2] at pB; try simp only at o3
  rw [hC] at pC
  have o4 := open_pure n t
  rw [hno] at o4
  have pN := pclos n
  rw [hnc] at pN
  have wx := working_pure a 0 10080
  rw [hwx] at wx
  have wy := working_pure n 0 10080
  rw [hwy] at wy
  simp only [calV2] at pC; try simp only at o4; simp only [calV2] at pN; try simp only at wx; try simp only at wy
  have sN := rcsame_pure a a (by have := (calOk_v ha).1; omega) (by have := (calOk_v ha).1; omega) rfl
  have xyw : wrapI .i64 (x + y) = 10080 := by rw [wrap_in (by omega) (by omega)]; exact xy
  have x0' : ¬ x < 0 := by omega
  have x1' : ¬ 10080 < x := by omega
  rw [hM] at pM
  simp only [calV2] at pM
  refine pure_of mixed Tryd.func9 rfl (by kernel_rfl) (of_decide_eq_true rfl) (by kernel_rfl) (vc_run ?_)
  ((try simp -implicitDefEqProofs [-loopQ_n, hgl, hga, hgb, t0, t1, ha, hb, htm, hcc, oa, hnn, xyw, x0', x1', he, spC_nil]) <;> (repeat' (first | (refine condD_dec ?_ ?_ <;> (intro hc; (try simp -implicitDefEqProofs [-loopQ_n, hc, hgl, hga, hgb, t0, t1, ha, hb, htm, hcc, oa, hnn, xyw, x0', x1', he, spC_nil]))) | (refine guardD_dec ?_ ?_ <;> (intro hc; (try simp -implicitDefEqProofs [-loopQ_n, hc, hgl, hga, hgb, t0, t1, ha, hb, htm, hcc, oa, hnn, xyw, x0', x1', he, spC_nil]))) | (refine condD_intro ?_ ?_ <;> (intro hd; have hc := hd; (try simp at hc) <;> (try simp -implicitDefEqProofs [-loopQ_n, hd, hc, hgl, hga, hgb, t0, t1, ha, hb, htm, hcc, oa, hnn, xyw, x0', x1', he, spC_nil]))) | (refine guardD_intro ?_ ?_ <;> (intro hd; have hc := hd; (try simp at hc) <;> (try simp -implicitDefEqProofs [-loopQ_n, hd, hc, hgl, hga, hgb, t0, t1, ha, hb, htm, hcc, oa, hnn, xyw, x0', x1', he, spC_nil]))) | (refine ldD_ep ?_ ?_; (focus kernel_rfl); (try simp -implicitDefEqProofs [-loopQ_n, hgl, hga, hgb, t0, t1, ha, hb, htm, hcc, oa, hnn, xyw, x0', x1', he, spC_nil])) | (refine callS_mk ?_; (try simp -implicitDefEqProofs [-loopQ_n, hgl, hga, hgb, t0, t1, ha, hb, htm, hcc, oa, hnn, xyw, x0', x1', he, spC_nil]); (first | refine callS_intro (awake_pure hg) (.inl rfl) ?_ | refine callS_intro (great_pure _) (.inl rfl) ?_ | refine callS_intro (valid_pure _) (.inl rfl) ?_ | refine callS_intro (o1) (.inl rfl) ?_ | refine callS_intro (o2) (.inl rfl) ?_ | refine callS_intro (pB) (.inr ⟨rfl, rfl⟩) ?_ | refine callS_intro (pC) (.inr ⟨rfl, rfl⟩) ?_ | refine callS_intro (pM) (.inr ⟨rfl, rfl⟩) ?_ | refine callS_intro (n0) (.inl rfl) ?_ | refine callS_intro (o3) (.inl rfl) ?_ | refine callS_intro (o4) (.inl rfl) ?_ | refine callS_intro (pN) (.inr ⟨rfl, rfl⟩) ?_ | refine callS_intro (wx) (.inl rfl) ?_ | refine callS_intro (wy) (.inl rfl) ?_ | refine callS_intro (sN) (.inl rfl) ?_); (try simp -implicitDefEqProofs [-loopQ_n, hgl, hga, hgb, t0, t1, ha, hb, htm, hcc, oa, hnn, xyw, x0', x1', he, spC_nil])))))
set_option maxHeartbeats 16000000 in
theorem c1t11 {m : Int} (hg : Glob.row 0 = some [.int .i64 m]) (l a b : List Sp) (t : Int) (hG : ¬ greatB l = true) (ha : calOk a = true) (hb : calOk b = true) (ht : inst t = true)  (c : List Sp) (hB : bothRes a b = (c, 0)) (hcc : calOk c = true) (hco : openOut c t = (openW (t % 10080) a && openW (t % 10080) b, 0)) (oa : openW (t % 10080) a = true) (n : List Sp) (x y : Int) (hC : closRes a = (n, 0)) (hnn : calOk n = true) (hno : openOut n t = (!openW (t % 10080) a, 0)) (hnc : closRes n = (a, 0)) (hwx : workOut a ⟨0, 10080⟩ = (x, 0)) (hwy : workOut n ⟨0, 10080⟩ = (y, 0)) (x0 : 0 ≤ x) (x1 : x ≤ 10080) (y0 : 0 ≤ y) (xy : x + y = 10080) (k : List Sp) (hM : makeRes l = (k, 0)) (hkk : calOk k = true) (hko : openOut k t = (l.any (inS (t % 10080)), 0)) (hkm : makeRes k = (k, 0)) :
    Pure Tryd.prog 9 [.rs (rowsOf spC l), .agg [.rs (rowsOf spC a)], .agg [.rs (rowsOf spC b)], .int .i64 t] (.bool true) := by
  have hgl : greatB l = false := by simpa using hG
  have hga : greatB a = false := by have := (calOk_v ha).1; simp [greatB]; omega
  have hgb : greatB b = false := by have := (calOk_v hb).1; simp [greatB]; omega
  have hl2 : l.length ≤ 1000000 := by
    simp only [greatB, Bool.or_eq_false_iff, Bool.and_eq_false_iff, decide_eq_false_iff_not] at hgl
    omega
  have t0 : ¬ t < 0 := by rw [inst_iff] at ht; omega
  have t1 : ¬ 1099511627776 < t := by rw [inst_iff] at ht; omega
  have htm : t.tmod 10080 = t % 10080 := Int.tmod_eq_emod_of_nonneg (by omega)
  have o1 := open_pure a t
  have o2 := open_pure b t
  rw [openOut_ok ha ht] at o1
  rw [openOut_ok hb ht] at o2
  try simp only at o1; try simp only at o2
  have n0 := noneS_pure []
  have pB := pboth a b
  have pC := pclos a
  have pM := pmake l hl2
  rw [hB] at pB
  have o3 := open_pure c t
  rw [hco] at o3
  simp only [calV2] at pB; try simp only at o3
  rw [hC] at pC
  have o4 := open_pure n t
  rw [hno] at o4
  have pN := pclos n
  rw [hnc] at pN
  have wx := working_pure a 0 10080
  rw [hwx] at wx
  have wy := working_pure n 0 10080
  rw [hwy] at wy
  simp only [calV2] at pC; try simp only at o4; simp only [calV2] at pN; try simp only at wx; try simp only at wy
  have sN := rcsame_pure a a (by have := (calOk_v ha).1; omega) (by have := (calOk_v ha).1; omega) rfl
  have xyw : wrapI .i64 (x + y) = 10080 := by rw [wrap_in (by omega) (by omega)]; exact xy
  have x0' : ¬ x < 0 := by omega
  have x1' : ¬ 10080 < x := by omega
  rw [hM] at pM
  have o5 := open_pure k t
  rw [hko] at o5
  have hkl := (calOk_v hkk).1
  have pK := pmake k (by omega)
  rw [hkm] at pK
  simp only [calV2] at pM; try simp only at o5; simp only [calV2] at pK
  have sK := rcsame_pure k k (by omega) (by omega) rfl
  refine pure_of mixed Tryd.func9 rfl (by kernel_rfl) (of_decide_eq_true rfl) (by kernel_rfl) (vc_run ?_)
  ((try simp -implicitDefEqProofs [-loopQ_n, hgl, hga, hgb, t0, t1, ha, hb, htm, hcc, oa, hnn, xyw, x0', x1', hkk, spC_nil]) <;> (repeat' (first | (refine condD_dec ?_ ?_ <;> (intro hc; (try simp -implicitDefEqProofs [-loopQ_n, hc, hgl, hga, hgb, t0, t1, ha, hb, htm, hcc, oa, hnn, xyw, x0', x1', hkk, spC_nil]))) | (refine guardD_dec ?_ ?_ <;> (intro hc; (try simp -implicitDefEqProofs [-loopQ_n, hc, hgl, hga, hgb, t0, t1, ha, hb, htm, hcc, oa, hnn, xyw, x0', x1', hkk, spC_nil]))) | (refine condD_intro ?_ ?_ <;> (intro hd; have hc := hd; (try simp at hc) <;> (try simp -implicitDefEqProofs [-loopQ_n, hd, hc, hgl, hga, hgb, t0, t1, ha, hb, htm, hcc, oa, hnn, xyw, x0', x1', hkk, spC_nil]))) | (refine guardD_intro ?_ ?_ <;> (intro hd; have hc := hd; (try simp at hc) <;> (try simp -implicitDefEqProofs [-loopQ_n, hd, hc, hgl, hga, hgb, t0, t1, ha, hb, htm, hcc, oa, hnn, xyw, x0', x1', hkk, spC_nil]))) | (refine ldD_ep ?_ ?_; (focus kernel_rfl); (try simp -implicitDefEqProofs [-loopQ_n, hgl, hga, hgb, t0, t1, ha, hb, htm, hcc, oa, hnn, xyw, x0', x1', hkk, spC_nil])) | (refine callS_mk ?_; (try simp -implicitDefEqProofs [-loopQ_n, hgl, hga, hgb, t0, t1, ha, hb, htm, hcc, oa, hnn, xyw, x0', x1', hkk, spC_nil]); (first | refine callS_intro (awake_pure hg) (.inl rfl) ?_ | refine callS_intro (great_pure _) (.inl rfl) ?_ | refine callS_intro (valid_pure _) (.inl rfl) ?_ | refine callS_intro (o1) (.inl rfl) ?_ | refine callS_intro (o2) (.inl rfl) ?_ | refine callS_intro (pB) (.inr ⟨rfl, rfl⟩) ?_ | refine callS_intro (pC) (.inr ⟨rfl, rfl⟩) ?_ | refine callS_intro (pM) (.inr ⟨rfl, rfl⟩) ?_ | refine callS_intro (n0) (.inl rfl) ?_ | refine callS_intro (o3) (.inl rfl) ?_ | refine callS_intro (o4) (.inl rfl) ?_ | refine callS_intro (pN) (.inr ⟨rfl, rfl⟩) ?_ | refine callS_intro (wx) (.inl rfl) ?_ | refine callS_intro (wy) (.inl rfl) ?_ | refine callS_intro (sN) (.inl rfl) ?_ | refine callS_intro (o5) (.inl rfl) ?_); (try simp -implicitDefEqProofs [-loopQ_n, hgl, hga, hgb, t0, t1, ha, hb, htm, hcc, oa, hnn, xyw, x0', x1', hkk, spC_nil])))))
  refine loop_intro (σ := Nat × Bool) (fun z => ⟨[(3, .int .i64 t), (27, .op 5 0), (29, .bool (l.any (inS (t % 10080)))), (30, .int .i64 0), (31, .bool z.2), (213, .rs (rowsOf spC l)), (214, .int .i64 l.length), (215, .int .i64 z.1)], [.box 24 [.rs (rowsOf spC a)], .box 24 [.rs (rowsOf spC b)], .box 24 [.rs (rowsOf spC c)], .box 24 [.rs (rowsOf spC n)], .box 24 [.rs (rowsOf spC a)], .box 24 [.rs (rowsOf spC k)]]⟩) (fun z => z.1 ≤ l.length ∧ (z.2 || (l.drop z.1).any (inS (t % 10080))) = l.any (inS (t % 10080))) (fun z => l.length - z.1) (0, false) ⟨by simp, by simp⟩ ?_ ?_
  · refine weak_of 6 0 rfl rfl ?_ ?_ <;> simp
  rintro ⟨i, v⟩ ⟨hi, hR⟩
  simp only at hi hR
  by_cases h : i < l.length
  · have w1 := w_succ h (by omega)
    obtain ⟨⟨f, u⟩, hf⟩ : ∃ e, l[i] = e := ⟨_, rfl⟩
    rw [List.drop_eq_getElem_cons h, hf, List.any_cons] at hR
    cases v with
    | true =>
      ((try simp -implicitDefEqProofs [-loopQ_n, h, hf, spC, w1, htm]) <;> (repeat' (first | (refine condD_dec ?_ ?_ <;> (intro hc; (try simp -implicitDefEqProofs [-loopQ_n, hc, h, hf, spC, w1, htm]))) | (refine guardD_dec ?_ ?_ <;> (intro hc; (try simp -implicitDefEqProofs [-loopQ_n, hc, h, hf, spC, w1, htm]))) | (refine condD_intro ?_ ?_ <;> (intro hd; have hc := hd; (try simp at hc) <;> (try simp -implicitDefEqProofs [-loopQ_n, hd, hc, h, hf, spC, w1, htm]))) | (refine guardD_intro ?_ ?_ <;> (intro hd; have hc := hd; (try simp at hc) <;> (try simp -implicitDefEqProofs [-loopQ_n, hd, hc, h, hf, spC, w1, htm]))) | (refine ldD_ep ?_ ?_; (focus kernel_rfl); (try simp -implicitDefEqProofs [-loopQ_n, h, hf, spC, w1, htm])))))
      refine loop_next (i + 1, true) ⟨h, by simpa using hR⟩ (by simp only; omega) (weak_of 6 0 rfl rfl ?_ ?_) <;> simp
    | false =>
      by_cases c1 : f ≤ t % 10080
      · by_cases c2 : t % 10080 < u
        · have hin : inS (t % 10080) ⟨f, u⟩ = true := by simp [inS, c1, c2]
          rw [hin] at hR
          ((try simp -implicitDefEqProofs [-loopQ_n, h, hf, spC, w1, htm, c1, c2]) <;> (repeat' (first | (refine condD_dec ?_ ?_ <;> (intro hc; (try simp -implicitDefEqProofs [-loopQ_n, hc, h, hf, spC, w1, htm, c1, c2]))) | (refine guardD_dec ?_ ?_ <;> (intro hc; (try simp -implicitDefEqProofs [-loopQ_n, hc, h, hf, spC, w1, htm, c1, c2]))) | (refine condD_intro ?_ ?_ <;> (intro hd; have hc := hd; (try simp at hc) <;> (try simp -implicitDefEqProofs [-loopQ_n, hd, hc, h, hf, spC, w1, htm, c1, c2]))) | (refine guardD_intro ?_ ?_ <;> (intro hd; have hc := hd; (try simp at hc) <;> (try simp -implicitDefEqProofs [-loopQ_n, hd, hc, h, hf, spC, w1, htm, c1, c2]))) | (refine ldD_ep ?_ ?_; (focus kernel_rfl); (try simp -implicitDefEqProofs [-loopQ_n, h, hf, spC, w1, htm, c1, c2])))))
          refine loop_next (i + 1, true) ⟨h, by simpa using hR⟩ (by simp only; omega) (weak_of 6 0 rfl rfl ?_ ?_) <;> simp
        · have hin : inS (t % 10080) ⟨f, u⟩ = false := by simp [inS, c2]
          rw [hin] at hR
          ((try simp -implicitDefEqProofs [-loopQ_n, h, hf, spC, w1, htm, c1, c2]) <;> (repeat' (first | (refine condD_dec ?_ ?_ <;> (intro hc; (try simp -implicitDefEqProofs [-loopQ_n, hc, h, hf, spC, w1, htm, c1, c2]))) | (refine guardD_dec ?_ ?_ <;> (intro hc; (try simp -implicitDefEqProofs [-loopQ_n, hc, h, hf, spC, w1, htm, c1, c2]))) | (refine condD_intro ?_ ?_ <;> (intro hd; have hc := hd; (try simp at hc) <;> (try simp -implicitDefEqProofs [-loopQ_n, hd, hc, h, hf, spC, w1, htm, c1, c2]))) | (refine guardD_intro ?_ ?_ <;> (intro hd; have hc := hd; (try simp at hc) <;> (try simp -implicitDefEqProofs [-loopQ_n, hd, hc, h, hf, spC, w1, htm, c1, c2]))) | (refine ldD_ep ?_ ?_; (focus kernel_rfl); (try simp -implicitDefEqProofs [-loopQ_n, h, hf, spC, w1, htm, c1, c2])))))
          refine loop_next (i + 1, false) ⟨h, by simpa using hR⟩ (by simp only; omega) (weak_of 6 0 rfl rfl ?_ ?_) <;> simp
      · have hin : inS (t % 10080) ⟨f, u⟩ = false := by simp [inS, c1]
        rw [hin] at hR
        ((try simp -implicitDefEqProofs [-loopQ_n, h, hf, spC, w1, htm, c1]) <;> (repeat' (first | (refine condD_dec ?_ ?_ <;> (intro hc; (try simp -implicitDefEqProofs [-loopQ_n, hc, h, hf, spC, w1, htm, c1]))) | (refine guardD_dec ?_ ?_ <;> (intro hc; (try simp -implicitDefEqProofs [-loopQ_n, hc, h, hf, spC, w1, htm, c1]))) | (refine condD_intro ?_ ?_ <;> (intro hd; have hc := hd; (try simp at hc) <;> (try simp -implicitDefEqProofs [-loopQ_n, hd, hc, h, hf, spC, w1, htm, c1]))) | (refine guardD_intro ?_ ?_ <;> (intro hd; have hc := hd; (try simp at hc) <;> (try simp -implicitDefEqProofs [-loopQ_n, hd, hc, h, hf, spC, w1, htm, c1]))) | (refine ldD_ep ?_ ?_; (focus kernel_rfl); (try simp -implicitDefEqProofs [-loopQ_n, h, hf, spC, w1, htm, c1])))))
        refine loop_next (i + 1, false) ⟨h, by simpa using hR⟩ (by simp only; omega) (weak_of 6 0 rfl rfl ?_ ?_) <;> simp
  · rw [List.drop_eq_nil_of_le (by omega)] at hR
    have hv : v = l.any (inS (t % 10080)) := by simpa using hR
    subst hv
    ((try simp -implicitDefEqProofs [-loopQ_n, h, hkk]) <;> (repeat' (first | (refine condD_dec ?_ ?_ <;> (intro hc; (try simp -implicitDefEqProofs [-loopQ_n, hc, h, hkk]))) | (refine guardD_dec ?_ ?_ <;> (intro hc; (try simp -implicitDefEqProofs [-loopQ_n, hc, h, hkk]))) | (refine condD_intro ?_ ?_ <;> (intro hd; have hc := hd; (try simp at hc) <;> (try simp -implicitDefEqProofs [-loopQ_n, hd, hc, h, hkk]))) | (refine guardD_intro ?_ ?_ <;> (intro hd; have hc := hd; (try simp at hc) <;> (try simp -implicitDefEqProofs [-loopQ_n, hd, hc, h, hkk]))) | (refine ldD_ep ?_ ?_; (focus kernel_rfl); (try simp -implicitDefEqProofs [-loopQ_n, h, hkk])) | (refine callS_mk ?_; (try simp -implicitDefEqProofs [-loopQ_n, h, hkk]); (first | refine callS_intro (pK) (.inr ⟨rfl, rfl⟩) ?_ | refine callS_intro (valid_pure _) (.inl rfl) ?_ | refine callS_intro (sK) (.inl rfl) ?_); (try simp -implicitDefEqProofs [-loopQ_n, h, hkk])))))
set_option maxHeartbeats 16000000 in
theorem c1f00 {m : Int} (hg : Glob.row 0 = some [.int .i64 m]) (l a b : List Sp) (t : Int) (hG : ¬ greatB l = true) (ha : calOk a = true) (hb : calOk b = true) (ht : inst t = true)  (c : List Sp) (hB : bothRes a b = (c, 0)) (hcc : calOk c = true) (hco : openOut c t = (openW (t % 10080) a && openW (t % 10080) b, 0)) (oa : openW (t % 10080) a = false) (hC : closRes a = ([], 5)) (e : Int) (he : ¬ e = 0) (hM : makeRes l = ([], e)) :
    Pure Tryd.prog 9 [.rs (rowsOf spC l), .agg [.rs (rowsOf spC a)], .agg [.rs (rowsOf spC b)], .int .i64 t] (.bool true) := by
  have hgl : greatB l = false := by simpa using hG
  have hga : greatB a = false := by have := (calOk_v ha).1; simp [greatB]; omega
  have hgb : greatB b = false := by have := (calOk_v hb).1; simp [greatB]; omega
  have hl2 : l.length ≤ 1000000 := by
    simp only [greatB, Bool.or_eq_false_iff, Bool.and_eq_false_iff, decide_eq_false_iff_not] at hgl
    omega
  have t0 : ¬ t < 0 := by rw [inst_iff] at ht; omega
  have t1 : ¬ 1099511627776 < t := by rw [inst_iff] at ht; omega
  have htm : t.tmod 10080 = t % 10080 := Int.tmod_eq_emod_of_nonneg (by omega)
  have o1 := open_pure a t
  have o2 := open_pure b t
  rw [openOut_ok ha ht] at o1
  rw [openOut_ok hb ht] at o2
  try simp only at o1; try simp only at o2
  have n0 := noneS_pure []
  have pB := pboth a b
  have pC := pclos a
  have pM := pmake l hl2
  rw [hB] at pB
  have o3 := open_pure c t
  rw [hco] at o3
  simp only [calV2] at pB; try simp only at o3
  rw [hC] at pC
  simp only [calV2] at pC
  rw [hM] at pM
  simp only [calV2] at pM
  refine pure_of mixed Tryd.func9 rfl (by kernel_rfl) (of_decide_eq_true rfl) (by kernel_rfl) (vc_run ?_)
  ((try simp -implicitDefEqProofs [-loopQ_n, hgl, hga, hgb, t0, t1, ha, hb, htm, hcc, oa, he, spC_nil]) <;> (repeat' (first | (refine condD_dec ?_ ?_ <;> (intro hc; (try simp -implicitDefEqProofs [-loopQ_n, hc, hgl, hga, hgb, t0, t1, ha, hb, htm, hcc, oa, he, spC_nil]))) | (refine guardD_dec ?_ ?_ <;> (intro hc; (try simp -implicitDefEqProofs [-loopQ_n, hc, hgl, hga, hgb, t0, t1, ha, hb, htm, hcc, oa, he, spC_nil]))) | (refine condD_intro ?_ ?_ <;> (intro hd; have hc := hd; (try simp at hc) <;> (try simp -implicitDefEqProofs [-loopQ_n, hd, hc, hgl, hga, hgb, t0, t1, ha, hb, htm, hcc, oa, he, spC_nil]))) | (refine guardD_intro ?_ ?_ <;> (intro hd; have hc := hd; (try simp at hc) <;> (try simp -implicitDefEqProofs [-loopQ_n, hd, hc, hgl, hga, hgb, t0, t1, ha, hb, htm, hcc, oa, he, spC_nil]))) | (refine ldD_ep ?_ ?_; (focus kernel_rfl); (try simp -implicitDefEqProofs [-loopQ_n, hgl, hga, hgb, t0, t1, ha, hb, htm, hcc, oa, he, spC_nil])) | (refine callS_mk ?_; (try simp -implicitDefEqProofs [-loopQ_n, hgl, hga, hgb, t0, t1, ha, hb, htm, hcc, oa, he, spC_nil]); (first | refine callS_intro (awake_pure hg) (.inl rfl) ?_ | refine callS_intro (great_pure _) (.inl rfl) ?_ | refine callS_intro (valid_pure _) (.inl rfl) ?_ | refine callS_intro (o1) (.inl rfl) ?_ | refine callS_intro (o2) (.inl rfl) ?_ | refine callS_intro (pB) (.inr ⟨rfl, rfl⟩) ?_ | refine callS_intro (pC) (.inr ⟨rfl, rfl⟩) ?_ | refine callS_intro (pM) (.inr ⟨rfl, rfl⟩) ?_ | refine callS_intro (n0) (.inl rfl) ?_ | refine callS_intro (o3) (.inl rfl) ?_); (try simp -implicitDefEqProofs [-loopQ_n, hgl, hga, hgb, t0, t1, ha, hb, htm, hcc, oa, he, spC_nil])))))
set_option maxHeartbeats 16000000 in
theorem c1f01 {m : Int} (hg : Glob.row 0 = some [.int .i64 m]) (l a b : List Sp) (t : Int) (hG : ¬ greatB l = true) (ha : calOk a = true) (hb : calOk b = true) (ht : inst t = true)  (c : List Sp) (hB : bothRes a b = (c, 0)) (hcc : calOk c = true) (hco : openOut c t = (openW (t % 10080) a && openW (t % 10080) b, 0)) (oa : openW (t % 10080) a = false) (hC : closRes a = ([], 5)) (k : List Sp) (hM : makeRes l = (k, 0)) (hkk : calOk k = true) (hko : openOut k t = (l.any (inS (t % 10080)), 0)) (hkm : makeRes k = (k, 0)) :
    Pure Tryd.prog 9 [.rs (rowsOf spC l), .agg [.rs (rowsOf spC a)], .agg [.rs (rowsOf spC b)], .int .i64 t] (.bool true) := by
  have hgl : greatB l = false := by simpa using hG
  have hga : greatB a = false := by have := (calOk_v ha).1; simp [greatB]; omega
  have hgb : greatB b = false := by have := (calOk_v hb).1; simp [greatB]; omega
  have hl2 : l.length ≤ 1000000 := by
    simp only [greatB, Bool.or_eq_false_iff, Bool.and_eq_false_iff, decide_eq_false_iff_not] at hgl
    omega
  have t0 : ¬ t < 0 := by rw [inst_iff] at ht; omega
  have t1 : ¬ 1099511627776 < t := by rw [inst_iff] at ht; omega
  have htm : t.tmod 10080 = t % 10080 := Int.tmod_eq_emod_of_nonneg (by omega)
  have o1 := open_pure a t
  have o2 := open_pure b t
  rw [openOut_ok ha ht] at o1
  rw [openOut_ok hb ht] at o2
  try simp only at o1; try simp only at o2
  have n0 := noneS_pure []
  have pB := pboth a b
  have pC := pclos a
  have pM := pmake l hl2
  rw [hB] at pB
  have o3 := open_pure c t
  rw [hco] at o3
  simp only [calV2] at pB; try simp only at o3
  rw [hC] at pC
  simp only [calV2] at pC
  rw [hM] at pM
  have o5 := open_pure k t
  rw [hko] at o5
  have hkl := (calOk_v hkk).1
  have pK := pmake k (by omega)
  rw [hkm] at pK
  simp only [calV2] at pM; try simp only at o5; simp only [calV2] at pK
  have sK := rcsame_pure k k (by omega) (by omega) rfl
  refine pure_of mixed Tryd.func9 rfl (by kernel_rfl) (of_decide_eq_true rfl) (by kernel_rfl) (vc_run ?_)
  ((try simp -implicitDefEqProofs [-loopQ_n, hgl, hga, hgb, t0, t1, ha, hb, htm, hcc, oa, hkk, spC_nil]) <;> (repeat' (first | (refine condD_dec ?_ ?_ <;> (intro hc; (try simp -implicitDefEqProofs [-loopQ_n, hc, hgl, hga, hgb, t0, t1, ha, hb, htm, hcc, oa, hkk, spC_nil]))) | (refine guardD_dec ?_ ?_ <;> (intro hc; (try simp -implicitDefEqProofs [-loopQ_n, hc, hgl, hga, hgb, t0, t1, ha, hb, htm, hcc, oa, hkk, spC_nil]))) | (refine condD_intro ?_ ?_ <;> (intro hd; have hc := hd; (try simp at hc) <;> (try simp -implicitDefEqProofs [-loopQ_n, hd, hc, hgl, hga, hgb, t0, t1, ha, hb, htm, hcc, oa, hkk, spC_nil]))) | (refine guardD_intro ?_ ?_ <;> (intro hd; have hc := hd; (try simp at hc) <;> (try simp -implicitDefEqProofs [-loopQ_n, hd, hc, hgl, hga, hgb, t0, t1, ha, hb, htm, hcc, oa, hkk, spC_nil]))) | (refine ldD_ep ?_ ?_; (focus kernel_rfl); (try simp -implicitDefEqProofs [-loopQ_n, hgl, hga, hgb, t0, t1, ha, hb, htm, hcc, oa, hkk, spC_nil])) | (refine callS_mk ?_; (try simp -implicitDefEqProofs [-loopQ_n, hgl, hga, hgb, t0, t1, ha, hb, htm, hcc, oa, hkk, spC_nil]); (first | refine callS_intro (awake_pure hg) (.inl rfl) ?_ | refine callS_intro (great_pure _) (.inl rfl) ?_ | refine callS_intro (valid_pure _) (.inl rfl) ?_ | refine callS_intro (o1) (.inl rfl) ?_ | refine callS_intro (o2) (.inl rfl) ?_ | refine callS_intro (pB) (.inr ⟨rfl, rfl⟩) ?_ | refine callS_intro (pC) (.inr ⟨rfl, rfl⟩) ?_ | refine callS_intro (pM) (.inr ⟨rfl, rfl⟩) ?_ | refine callS_intro (n0) (.inl rfl) ?_ | refine callS_intro (o3) (.inl rfl) ?_ | refine callS_intro (o5) (.inl rfl) ?_); (try simp -implicitDefEqProofs [-loopQ_n, hgl, hga, hgb, t0, t1, ha, hb, htm, hcc, oa, hkk, spC_nil])))))
  refine loop_intro (σ := Nat × Bool) (fun z => ⟨[(3, .int .i64 t), (27, .op 4 0), (29, .bool (l.any (inS (t % 10080)))), (30, .int .i64 0), (31, .bool z.2), (213, .rs (rowsOf spC l)), (214, .int .i64 l.length), (215, .int .i64 z.1)], [.box 24 [.rs (rowsOf spC a)], .box 24 [.rs (rowsOf spC b)], .box 24 [.rs (rowsOf spC c)], .box 24 [.rs []], .box 24 [.rs (rowsOf spC k)]]⟩) (fun z => z.1 ≤ l.length ∧ (z.2 || (l.drop z.1).any (inS (t % 10080))) = l.any (inS (t % 10080))) (fun z => l.length - z.1) (0, false) ⟨by simp, by simp⟩ ?_ ?_
  · refine weak_of 5 0 rfl rfl ?_ ?_ <;> simp
  rintro ⟨i, v⟩ ⟨hi, hR⟩
  simp only at hi hR
  by_cases h : i < l.length
  · have w1 := w_succ h (by omega)
    obtain ⟨⟨f, u⟩, hf⟩ : ∃ e, l[i] = e := ⟨_, rfl⟩
    rw [List.drop_eq_getElem_cons h, hf, List.any_cons] at hR
    cases v with
    | true =>
      ((try simp -implicitDefEqProofs [-loopQ_n, h, hf, spC, w1, htm]) <;> (repeat' (first | (refine condD_dec ?_ ?_ <;> (intro hc; (try simp -implicitDefEqProofs [-loopQ_n, hc, h, hf, spC, w1, htm]))) | (refine guardD_dec ?_ ?_ <;> (intro hc; (try simp -implicitDefEqProofs [-loopQ_n, hc, h, hf, spC, w1, htm]))) | (refine condD_intro ?_ ?_ <;> (intro hd; have hc := hd; (try simp at hc) <;> (try simp -implicitDefEqProofs [-loopQ_n, hd, hc, h, hf, spC, w1, htm]))) | (refine guardD_intro ?_ ?_ <;> (intro hd; have hc := hd; (try simp at hc) <;> (try simp -implicitDefEqProofs [-loopQ_n, hd, hc, h, hf, spC, w1, htm]))) | (refine ldD_ep ?_ ?_; (focus kernel_rfl); (try simp -implicitDefEqProofs [-loopQ_n, h, hf, spC, w1, htm])))))
      refine loop_next (i + 1, true) ⟨h, by simpa using hR⟩ (by simp only; omega) (weak_of 5 0 rfl rfl ?_ ?_) <;> simp
    | false =>
      by_cases c1 : f ≤ t % 10080
      · by_cases c2 : t % 10080 < u
        · have hin : inS (t % 10080) ⟨f, u⟩ = true := by simp [inS, c1, c2]
          rw [hin] at hR
          ((try simp -implicitDefEqProofs [-loopQ_n, h, hf, spC, w1, htm, c1, c2]) <;> (repeat' (first | (refine condD_dec ?_ ?_ <;> (intro hc; (try simp -implicitDefEqProofs [-loopQ_n, hc, h, hf, spC, w1, htm, c1, c2]))) | (refine guardD_dec ?_ ?_ <;> (intro hc; (try simp -implicitDefEqProofs [-loopQ_n, hc, h, hf, spC, w1, htm, c1, c2]))) | (refine condD_intro ?_ ?_ <;> (intro hd; have hc := hd; (try simp at hc) <;> (try simp -implicitDefEqProofs [-loopQ_n, hd, hc, h, hf, spC, w1, htm, c1, c2]))) | (refine guardD_intro ?_ ?_ <;> (intro hd; have hc := hd; (try simp at hc) <;> (try simp -implicitDefEqProofs [-loopQ_n, hd, hc, h, hf, spC, w1, htm, c1, c2]))) | (refine ldD_ep ?_ ?_; (focus kernel_rfl); (try simp -implicitDefEqProofs [-loopQ_n, h, hf, spC, w1, htm, c1, c2])))))
          refine loop_next (i + 1, true) ⟨h, by simpa using hR⟩ (by simp only; omega) (weak_of 5 0 rfl rfl ?_ ?_) <;> simp
        · have hin : inS (t % 10080) ⟨f, u⟩ = false := by simp [inS, c2]
          rw [hin] at hR
          ((try simp -implicitDefEqProofs [-loopQ_n, h, hf, spC, w1, htm, c1, c2]) <;> (repeat' (first | (refine condD_dec ?_ ?_ <;> (intro hc; (try simp -implicitDefEqProofs [-loopQ_n, hc, h, hf, spC, w1, htm, c1, c2]))) | (refine guardD_dec ?_ ?_ <;> (intro hc; (try simp -implicitDefEqProofs [-loopQ_n, hc, h, hf, spC, w1, htm, c1, c2]))) | (refine condD_intro ?_ ?_ <;> (intro hd; have hc := hd; (try simp at hc) <;> (try simp -implicitDefEqProofs [-loopQ_n, hd, hc, h, hf, spC, w1, htm, c1, c2]))) | (refine guardD_intro ?_ ?_ <;> (intro hd; have hc := hd; (try simp at hc) <;> (try simp -implicitDefEqProofs [-loopQ_n, hd, hc, h, hf, spC, w1, htm, c1, c2]))) | (refine ldD_ep ?_ ?_; (focus kernel_rfl); (try simp -implicitDefEqProofs [-loopQ_n, h, hf, spC, w1, htm, c1, c2])))))
          refine loop_next (i + 1, false) ⟨h, by simpa using hR⟩ (by simp only; omega) (weak_of 5 0 rfl rfl ?_ ?_) <;> simp
      · have hin : inS (t % 10080) ⟨f, u⟩ = false := by simp [inS, c1]
        rw [hin] at hR
        ((try simp -implicitDefEqProofs [-loopQ_n, h, hf, spC, w1, htm, c1]) <;> (repeat' (first | (refine condD_dec ?_ ?_ <;> (intro hc; (try simp -implicitDefEqProofs [-loopQ_n, hc, h, hf, spC, w1, htm, c1]))) | (refine guardD_dec ?_ ?_ <;> (intro hc; (try simp -implicitDefEqProofs [-loopQ_n, hc, h, hf, spC, w1, htm, c1]))) | (refine condD_intro ?_ ?_ <;> (intro hd; have hc := hd; (try simp at hc) <;> (try simp -implicitDefEqProofs [-loopQ_n, hd, hc, h, hf, spC, w1, htm, c1]))) | (refine guardD_intro ?_ ?_ <;> (intro hd; have hc := hd; (try simp at hc) <;> (try simp -implicitDefEqProofs [-loopQ_n, hd, hc, h, hf, spC, w1, htm, c1]))) | (refine ldD_ep ?_ ?_; (focus kernel_rfl); (try simp -implicitDefEqProofs [-loopQ_n, h, hf, spC, w1, htm, c1])))))
        refine loop_next (i + 1, false) ⟨h, by simpa using hR⟩ (by simp only; omega) (weak_of 5 0 rfl rfl ?_ ?_) <;> simp
  · rw [List.drop_eq_nil_of_le (by omega)] at hR
    have hv : v = l.any (inS (t % 10080)) := by simpa using hR
    subst hv
    ((try simp -implicitDefEqProofs [-loopQ_n, h, hkk]) <;> (repeat' (first | (refine condD_dec ?_ ?_ <;> (intro hc; (try simp -implicitDefEqProofs [-loopQ_n, hc, h, hkk]))) | (refine guardD_dec ?_ ?_ <;> (intro hc; (try simp -implicitDefEqProofs [-loopQ_n, hc, h, hkk]))) | (refine condD_intro ?_ ?_ <;> (intro hd; have hc := hd; (try simp at hc) <;> (try simp -implicitDefEqProofs [-loopQ_n, hd, hc, h, hkk]))) | (refine guardD_intro ?_ ?_ <;> (intro hd; have hc := hd; (try simp at hc) <;> (try simp -implicitDefEqProofs [-loopQ_n, hd, hc, h, hkk]))) | (refine ldD_ep ?_ ?_; (focus kernel_rfl); (try simp -implicitDefEqProofs [-loopQ_n, h, hkk])) | (refine callS_mk ?_; (try simp -implicitDefEqProofs [-loopQ_n, h, hkk]); (first | refine callS_intro (pK) (.inr ⟨rfl, rfl⟩) ?_ | refine callS_intro (valid_pure _) (.inl rfl) ?_ | refine callS_intro (sK) (.inl rfl) ?_); (try simp -implicitDefEqProofs [-loopQ_n, h, hkk])))))
set_option maxHeartbeats 16000000 in
theorem c1f10 {m : Int} (hg : Glob.row 0 = some [.int .i64 m]) (l a b : List Sp) (t : Int) (hG : ¬ greatB l = true) (ha : calOk a = true) (hb : calOk b = true) (ht : inst t = true)  (c : List Sp) (hB : bothRes a b = (c, 0)) (hcc : calOk c = true) (hco : openOut c t = (openW (t % 10080) a && openW (t % 10080) b, 0)) (oa : openW (t % 10080) a = false) (n : List Sp) (x y : Int) (hC : closRes a = (n, 0)) (hnn : calOk n = true) (hno : openOut n t = (!openW (t % 10080) a, 0)) (hnc : closRes n = (a, 0)) (hwx : workOut a ⟨0, 10080⟩ = (x, 0)) (hwy : workOut n ⟨0, 10080⟩ = (y, 0)) (x0 : 0 ≤ x) (x1 : x ≤ 10080) (y0 : 0 ≤ y) (xy : x + y = 10080) (e : Int) (he : ¬ e = 0) (hM : makeRes l = ([], e)) :
    Pure Tryd.prog 9 [.rs (rowsOf spC l), .agg [.rs (rowsOf spC a)], .agg [.rs (rowsOf spC b)], .int .i64 t] (.bool true) := by
  have hgl : greatB l = false := by simpa using hG
  have hga : greatB a = false := by have := (calOk_v ha).1; simp [greatB]; omega
  have hgb : greatB b = false := by have := (calOk_v hb).1; simp [greatB]; omega
  have hl2 : l.length ≤ 1000000 := by
    simp only [greatB, Bool.or_eq_false_iff, Bool.and_eq_false_iff, decide_eq_false_iff_not] at hgl
    omega
  have t0 : ¬ t < 0 := by rw [inst_iff] at ht; omega
  have t1 : ¬ 1099511627776 < t := by rw [inst_iff] at ht; omega
  have htm : t.tmod 10080 = t % 10080 := Int.tmod_eq_emod_of_nonneg (by omega)
  have o1 := open_pure a t
  have o2 := open_pure b t
  rw [openOut_ok ha ht] at o1
  rw [openOut_ok hb ht] at o2
  try simp only at o1; try simp only at o2
  have n0 := noneS_pure []
  have pB := pboth a b
  have pC := pclos a
  have pM := pmake l hl2
  rw [hB] at pB
  have o3 := open_pure c t
  rw [hco] at o3
  simp only [calV2] at pB; try simp only at o3
  rw [hC] at pC
  have o4 := open_pure n t
  rw [hno] at o4
  have pN := pclos n
  rw [hnc] at pN
  have wx := working_pure a 0 10080
  rw [hwx] at wx
  have wy := working_pure n 0 10080
  rw [hwy] at wy
  simp only [calV2] at pC; try simp only at o4; simp only [calV2] at pN; try simp only at wx; try simp only at wy
  have sN := rcsame_pure a a (by have := (calOk_v ha).1; omega) (by have := (calOk_v ha).1; omega) rfl
  have xyw : wrapI .i64 (x + y) = 10080 := by rw [wrap_in (by omega) (by omega)]; exact xy
  have x0' : ¬ x < 0 := by omega
  have x1' : ¬ 10080 < x := by omega
  rw [hM] at pM
  simp only [calV2] at pM
  refine pure_of mixed Tryd.func9 rfl (by kernel_rfl) (of_decide_eq_true rfl) (by kernel_rfl) (vc_run ?_)
  ((try simp -implicitDefEqProofs [-loopQ_n, hgl, hga, hgb, t0, t1, ha, hb, htm, hcc, oa, hnn, xyw, x0', x1', he, spC_nil]) <;> (repeat' (first | (refine condD_dec ?_ ?_ <;> (intro hc; (try simp -implicitDefEqProofs [-loopQ_n, hc, hgl, hga, hgb, t0, t1, ha, hb, htm, hcc, oa, hnn, xyw, x0', x1', he, spC_nil]))) | (refine guardD_dec ?_ ?_ <;> (intro hc; (try simp -implicitDefEqProofs [-loopQ_n, hc, hgl, hga, hgb, t0, t1, ha, hb, htm, hcc, oa, hnn, xyw, x0', x1', he, spC_nil]))) | (refine condD_intro ?_ ?_ <;> (intro hd; have hc := hd; (try simp at hc) <;> (try simp -implicitDefEqProofs [-loopQ_n, hd, hc, hgl, hga, hgb, t0, t1, ha, hb, htm, hcc, oa, hnn, xyw, x0', x1', he, spC_nil]))) | (refine guardD_intro ?_ ?_ <;> (intro hd; have hc := hd; (try simp at hc) <;> (try simp -implicitDefEqProofs [-loopQ_n, hd, hc, hgl, hga, hgb, t0, t1, ha, hb, htm, hcc, oa, hnn, xyw, x0', x1', he, spC_nil]))) | (refine ldD_ep ?_ ?_; (focus kernel_rfl); (try simp -implicitDefEqProofs [-loopQ_n, hgl, hga, hgb, t0, t1, ha, hb, htm, hcc, oa, hnn, xyw, x0', x1', he, spC_nil])) | (refine callS_mk ?_; (try simp -implicitDefEqProofs [-loopQ_n, hgl, hga, hgb, t0, t1, ha, hb, htm, hcc, oa, hnn, xyw, x0', x1', he, spC_nil]); (first | refine callS_intro (awake_pure hg) (.inl rfl) ?_ | refine callS_intro (great_pure _) (.inl rfl) ?_ | refine callS_intro (valid_pure _) (.inl rfl) ?_ | refine callS_intro (o1) (.inl rfl) ?_ | refine callS_intro (o2) (.inl rfl) ?_ | refine callS_intro (pB) (.inr ⟨rfl, rfl⟩) ?_ | refine callS_intro (pC) (.inr ⟨rfl, rfl⟩) ?_ | refine callS_intro (pM) (.inr ⟨rfl, rfl⟩) ?_ | refine callS_intro (n0) (.inl rfl) ?_ | refine callS_intro (o3) (.inl rfl) ?_ | refine callS_intro (o4) (.inl rfl) ?_ | refine callS_intro (pN) (.inr ⟨rfl, rfl⟩) ?_ | refine callS_intro (wx) (.inl rfl) ?_ | refine callS_intro (wy) (.inl rfl) ?_ | refine callS_intro (sN) (.inl rfl) ?_); (try simp -implicitDefEqProofs [-loopQ_n, hgl, hga, hgb, t0, t1, ha, hb, htm, hcc, oa, hnn, xyw, x0', x1', he, spC_nil])))))
set_option maxHeartbeats 16000000 in
theorem c1f11 {m : Int} (hg : Glob.row 0 = some [.int .i64 m]) (l a b : List Sp) (t : Int) (hG : ¬ greatB l = true) (ha : calOk a = true) (hb : calOk b = true) (ht : inst t = true)  (c : List Sp) (hB : bothRes a b = (c, 0)) (hcc : calOk c = true) (hco : openOut c t = (openW (t % 10080) a && openW (t % 10080) b, 0)) (oa : openW (t % 10080) a = false) (n : List Sp) (x y : Int) (hC : closRes a = (n, 0)) (hnn : calOk n = true) (hno : openOut n t = (!openW (t % 10080) a, 0)) (hnc : closRes n = (a, 0)) (hwx : workOut a ⟨0, 10080⟩ = (x, 0)) (hwy : workOut n ⟨0, 10080⟩ = (y, 0)) (x0 : 0 ≤ x) (x1 : x ≤ 10080) (y0 : 0 ≤ y) (xy : x + y = 10080) (k : List Sp) (hM : makeRes l = (k, 0)) (hkk : calOk k = true) (hko : openOut k t = (l.any (inS (t % 10080)), 0)) (hkm : makeRes k = (k, 0)) :
    Pure Tryd.prog 9 [.rs (rowsOf spC l), .agg [.rs (rowsOf spC a)], .agg [.rs (rowsOf spC b)], .int .i64 t] (.bool true) := by
  have hgl : greatB l = false := by simpa using hG
  have hga : greatB a = false := by have := (calOk_v ha).1; simp [greatB]; omega
  have hgb : greatB b = false := by have := (calOk_v hb).1; simp [greatB]; omega
  have hl2 : l.length ≤ 1000000 := by
    simp only [greatB, Bool.or_eq_false_iff, Bool.and_eq_false_iff, decide_eq_false_iff_not] at hgl
    omega
  have t0 : ¬ t < 0 := by rw [inst_iff] at ht; omega
  have t1 : ¬ 1099511627776 < t := by rw [inst_iff] at ht; omega
  have htm : t.tmod 10080 = t % 10080 := Int.tmod_eq_emod_of_nonneg (by omega)
  have o1 := open_pure a t
  have o2 := open_pure b t
  rw [openOut_ok ha ht] at o1
  rw [openOut_ok hb ht] at o2
  try simp only at o1; try simp only at o2
  have n0 := noneS_pure []
  have pB := pboth a b
  have pC := pclos a
  have pM := pmake l hl2
  rw [hB] at pB
  have o3 := open_pure c t
  rw [hco] at o3
  simp only [calV2] at pB; try simp only at o3
  rw [hC] at pC
  have o4 := open_pure n t
  rw [hno] at o4
  have pN := pclos n
  rw [hnc] at pN
  have wx := working_pure a 0 10080
  rw [hwx] at wx
  have wy := working_pure n 0 10080
  rw [hwy] at wy
  simp only [calV2] at pC; try simp only at o4; simp only [calV2] at pN; try simp only at wx; try simp only at wy
  have sN := rcsame_pure a a (by have := (calOk_v ha).1; omega) (by have := (calOk_v ha).1; omega) rfl
  have xyw : wrapI .i64 (x + y) = 10080 := by rw [wrap_in (by omega) (by omega)]; exact xy
  have x0' : ¬ x < 0 := by omega
  have x1' : ¬ 10080 < x := by omega
  rw [hM] at pM
  have o5 := open_pure k t
  rw [hko] at o5
  have hkl := (calOk_v hkk).1
  have pK := pmake k (by omega)
  rw [hkm] at pK
  simp only [calV2] at pM; try simp only at o5; simp only [calV2] at pK
  have sK := rcsame_pure k k (by omega) (by omega) rfl
  refine pure_of mixed Tryd.func9 rfl (by kernel_rfl) (of_decide_eq_true rfl) (by kernel_rfl) (vc_run ?_)
  ((try simp -implicitDefEqProofs [-loopQ_n, hgl, hga, hgb, t0, t1, ha, hb, htm, hcc, oa, hnn, xyw, x0', x1', hkk, spC_nil]) <;> (repeat' (first | (refine condD_dec ?_ ?_ <;> (intro hc; (try simp -implicitDefEqProofs [-loopQ_n, hc, hgl, hga, hgb, t0, t1, ha, hb, htm, hcc, oa, hnn, xyw, x0', x1', hkk, spC_nil]))) | (refine guardD_dec ?_ ?_ <;> (intro hc; (try simp -implicitDefEqProofs [-loopQ_n, hc, hgl, hga, hgb, t0, t1, ha, hb, htm, hcc, oa, hnn, xyw, x0', x1', hkk, spC_nil]))) | (refine condD_intro ?_ ?_ <;> (intro hd; have hc := hd; (try simp at hc) <;> (try simp -implicitDefEqProofs [-loopQ_n, hd, hc, hgl, hga, hgb, t0, t1, ha, hb, htm, hcc, oa, hnn, xyw, x0', x1', hkk, spC_nil]))) | (refine guardD_intro ?_ ?_ <;> (intro hd; have hc := hd; (try simp at hc) <;> (try simp -implicitDefEqProofs [-loopQ_n, hd, hc, hgl, hga, hgb, t0, t1, ha, hb, htm, hcc, oa, hnn, xyw, x0', x1', hkk, spC_nil]))) | (refine ldD_ep ?_ ?_; (focus kernel_rfl); (try simp -implicitDefEqProofs [-loopQ_n, hgl, hga, hgb, t0, t1, ha, hb, htm, hcc, oa, hnn, xyw, x0', x1', hkk, spC_nil])) | (refine callS_mk ?_; (try simp -implicitDefEqProofs [-loopQ_n, hgl, hga, hgb, t0, t1, ha, hb, htm, hcc, oa, hnn, xyw, x0', x1', hkk, spC_nil]); (first | refine callS_intro (awake_pure hg) (.inl rfl) ?_ | refine callS_intro (great_pure _) (.inl rfl) ?_ | refine callS_intro (valid_pure _) (.inl rfl) ?_ | refine callS_intro (o1) (.inl rfl) ?_ | refine callS_intro (o2) (.inl rfl) ?_ | refine callS_intro (pB) (.inr ⟨rfl, rfl⟩) ?_ | refine callS_intro (pC) (.inr ⟨rfl, rfl⟩) ?_ | refine callS_intro (pM) (.inr ⟨rfl, rfl⟩) ?_ | refine callS_intro (n0) (.inl rfl) ?_ | refine callS_intro (o3) (.inl rfl) ?_ | refine callS_intro (o4) (.inl rfl) ?_ | refine callS_intro (pN) (.inr ⟨rfl, rfl⟩) ?_ | refine callS_intro (wx) (.inl rfl) ?_ | refine callS_intro (wy) (.inl rfl) ?_ | refine callS_intro (sN) (.inl rfl) ?_ | refine callS_intro (o5) (.inl rfl) ?_); (try simp -implicitDefEqProofs [-loopQ_n, hgl, hga, hgb, t0, t1, ha, hb, htm, hcc, oa, hnn, xyw, x0', x1', hkk, spC_nil])))))
  refine loop_intro (σ := Nat × Bool) (fun z => ⟨[(3, .int .i64 t), (27, .op 5 0), (29, .bool (l.any (inS (t % 10080)))), (30, .int .i64 0), (31, .bool z.2), (213, .rs (rowsOf spC l)), (214, .int .i64 l.length), (215, .int .i64 z.1)], [.box 24 [.rs (rowsOf spC a)], .box 24 [.rs (rowsOf spC b)], .box 24 [.rs (rowsOf spC c)], .box 24 [.rs (rowsOf spC n)], .box 24 [.rs (rowsOf spC a)], .box 24 [.rs (rowsOf spC k)]]⟩) (fun z => z.1 ≤ l.length ∧ (z.2 || (l.drop z.1).any (inS (t % 10080))) = l.any (inS (t % 10080))) (fun z => l.length - z.1) (0, false) ⟨by simp, by simp⟩ ?_ ?_
  · refine weak_of 6 0 rfl rfl ?_ ?_ <;> simp
  rintro ⟨i, v⟩ ⟨hi, hR⟩
  simp only at hi hR
  by_cases h : i < l.length
  · have w1 := w_succ h (by omega)
    obtain ⟨⟨f, u⟩, hf⟩ : ∃ e, l[i] = e := ⟨_, rfl⟩
    rw [List.drop_eq_getElem_cons h, hf, List.any_cons] at hR
    cases v with
    | true =>
      ((try simp -implicitDefEqProofs [-loopQ_n, h, hf, spC, w1, htm]) <;> (repeat' (first | (refine condD_dec ?_ ?_ <;> (intro hc; (try simp -implicitDefEqProofs [-loopQ_n, hc, h, hf, spC, w1, htm]))) | (refine guardD_dec ?_ ?_ <;> (intro hc; (try simp -implicitDefEqProofs [-loopQ_n, hc, h, hf, spC, w1, htm]))) | (refine condD_intro ?_ ?_ <;> (intro hd; have hc := hd; (try simp at hc) <;> (try simp -implicitDefEqProofs [-loopQ_n, hd, hc, h, hf, spC, w1, htm]))) | (refine guardD_intro ?_ ?_ <;> (intro hd; have hc := hd; (try simp at hc) <;> (try simp -implicitDefEqProofs [-loopQ_n, hd, hc, h, hf, spC, w1, htm]))) | (refine ldD_ep ?_ ?_; (focus kernel_rfl); (try simp -implicitDefEqProofs [-loopQ_n, h, hf, spC, w1, htm])))))
      refine loop_next (i + 1, true) ⟨h, by simpa using hR⟩ (by simp only; omega) (weak_of 6 0 rfl rfl ?_ ?_) <;> simp
    | false =>
      by_cases c1 : f ≤ t % 10080
      · by_cases c2 : t % 10080 < u
        · have hin : inS (t % 10080) ⟨f, u⟩ = true := by simp [inS, c1, c2]
          rw [hin] at hR
          ((try simp -implicitDefEqProofs [-loopQ_n, h, hf, spC, w1, htm, c1, c2]) <;> (repeat' (first | (refine condD_dec ?_ ?_ <;> (intro hc; (try simp -implicitDefEqProofs [-loopQ_n, hc, h, hf, spC, w1, htm, c1, c2]))) | (refine guardD_dec ?_ ?_ <;> (intro hc; (try simp -implicitDefEqProofs [-loopQ_n, hc, h, hf, spC, w1, htm, c1, c2]))) | (refine condD_intro ?_ ?_ <;> (intro hd; have hc := hd; (try simp at hc) <;> (try simp -implicitDefEqProofs [-loopQ_n, hd, hc, h, hf, spC, w1, htm, c1, c2]))) | (refine guardD_intro ?_ ?_ <;> (intro hd; have hc := hd; (try simp at hc) <;> (try simp -implicitDefEqProofs [-loopQ_n, hd, hc, h, hf, spC, w1, htm, c1, c2]))) | (refine ldD_ep ?_ ?_; (focus kernel_rfl); (try simp -implicitDefEqProofs [-loopQ_n, h, hf, spC, w1, htm, c1, c2])))))
          refine loop_next (i + 1, true) ⟨h, by simpa using hR⟩ (by simp only; omega) (weak_of 6 0 rfl rfl ?_ ?_) <;> simp
        · have hin : inS (t % 10080) ⟨f, u⟩ = false := by simp [inS, c2]
          rw [hin] at hR
          ((try simp -implicitDefEqProofs [-loopQ_n, h, hf, spC, w1, htm, c1, c2]) <;> (repeat' (first | (refine condD_dec ?_ ?_ <;> (intro hc; (try simp -implicitDefEqProofs [-loopQ_n, hc, h, hf, spC, w1, htm, c1, c2]))) | (refine guardD_dec ?_ ?_ <;> (intro hc; (try simp -implicitDefEqProofs [-loopQ_n, hc, h, hf, spC, w1, htm, c1, c2]))) | (refine condD_intro ?_ ?_ <;> (intro hd; have hc := hd; (try simp at hc) <;> (try simp -implicitDefEqProofs [-loopQ_n, hd, hc, h, hf, spC, w1, htm, c1, c2]))) | (refine guardD_intro ?_ ?_ <;> (intro hd; have hc := hd; (try simp at hc) <;> (try simp -implicitDefEqProofs [-loopQ_n, hd, hc, h, hf, spC, w1, htm, c1, c2]))) | (refine ldD_ep ?_ ?_; (focus kernel_rfl); (try simp -implicitDefEqProofs [-loopQ_n, h, hf, spC, w1, htm, c1, c2])))))
          refine loop_next (i + 1, false) ⟨h, by simpa using hR⟩ (by simp only; omega) (weak_of 6 0 rfl rfl ?_ ?_) <;> simp
      · have hin : inS (t % 10080) ⟨f, u⟩ = false := by simp [inS, c1]
        rw [hin] at hR
        ((try simp -implicitDefEqProofs [-loopQ_n, h, hf, spC, w1, htm, c1]) <;> (repeat' (first | (refine condD_dec ?_ ?_ <;> (intro hc; (try simp -implicitDefEqProofs [-loopQ_n, hc, h, hf, spC, w1, htm, c1]))) | (refine guardD_dec ?_ ?_ <;> (intro hc; (try simp -implicitDefEqProofs [-loopQ_n, hc, h, hf, spC, w1, htm, c1]))) | (refine condD_intro ?_ ?_ <;> (intro hd; have hc := hd; (try simp at hc) <;> (try simp -implicitDefEqProofs [-loopQ_n, hd, hc, h, hf, spC, w1, htm, c1]))) | (refine guardD_intro ?_ ?_ <;> (intro hd; have hc := hd; (try simp at hc) <;> (try simp -implicitDefEqProofs [-loopQ_n, hd, hc, h, hf, spC, w1, htm, c1]))) | (refine ldD_ep ?_ ?_; (focus kernel_rfl); (try simp -implicitDefEqProofs [-loopQ_n, h, hf, spC, w1, htm, c1])))))
        refine loop_next (i + 1, false) ⟨h, by simpa using hR⟩ (by simp only; omega) (weak_of 6 0 rfl rfl ?_ ?_) <;> simp
  · rw [List.drop_eq_nil_of_le (by omega)] at hR
    have hv : v = l.any (inS (t % 10080)) := by simpa using hR
    subst hv
    ((try simp -implicitDefEqProofs [-loopQ_n, h, hkk]) <;> (repeat' (first | (refine condD_dec ?_ ?_ <;> (intro hc; (try simp -implicitDefEqProofs [-loopQ_n, hc, h, hkk]))) | (refine guardD_dec ?_ ?_ <;> (intro hc; (try simp -implicitDefEqProofs [-loopQ_n, hc, h, hkk]))) | (refine condD_intro ?_ ?_ <;> (intro hd; have hc := hd; (try simp at hc) <;> (try simp -implicitDefEqProofs [-loopQ_n, hd, hc, h, hkk]))) | (refine guardD_intro ?_ ?_ <;> (intro hd; have hc := hd; (try simp at hc) <;> (try simp -implicitDefEqProofs [-loopQ_n, hd, hc, h, hkk]))) | (refine ldD_ep ?_ ?_; (focus kernel_rfl); (try simp -implicitDefEqProofs [-loopQ_n, h, hkk])) | (refine callS_mk ?_; (try simp -implicitDefEqProofs [-loopQ_n, h, hkk]); (first | refine callS_intro (pK) (.inr ⟨rfl, rfl⟩) ?_ | refine callS_intro (valid_pure _) (.inl rfl) ?_ | refine callS_intro (sK) (.inl rfl) ?_); (try simp -implicitDefEqProofs [-loopQ_n, h, hkk])))))
set_option maxHeartbeats 16000000 in
theorem both (hg : ∃ m, Glob.row 0 = some [.int .i64 m]) (x0 : AV) (s0 : argS Tryd.prog 22 x0) (x1 : AV) (s1 : argS Tryd.prog 24 x1) (x2 : AV) (s2 : argS Tryd.prog 24 x2) (x3 : AV) (s3 : argS Tryd.prog 3 x3) :
    Pure Tryd.prog 9 [x0, x1, x2, x3] (.bool true) := by
  obtain ⟨m, hg⟩ := hg
  obtain ⟨l, rfl, hl⟩ : ∃ l, x0 = .rs (rowsOf spC l) ∧ l.length ≤ 9223372036854775807 := by
    obtain ⟨rows, rfl, h1, h2⟩ := arg_slice Tryd.underlying22 s0
    obtain ⟨l, rfl, _⟩ := rows_dec (p := inS64) rows fun row hr => span_dec (n := 6) (h2 row hr)
    exact ⟨l, rfl, by rw [maxLen_eq] at h1; simpa [rowsOf] using h1⟩
  obtain ⟨a, rfl, _, _⟩ := cal_dec s1
  obtain ⟨b, rfl, _, _⟩ := cal_dec s2
  obtain ⟨t, rfl, _⟩ := arg_int Tryd.underlying3 s3
  by_cases hok : (¬ greatB l = true) ∧ calOk a = true ∧ calOk b = true ∧ inst t = true
  · obtain ⟨hG, ha, hb, ht⟩ := hok
    rcases both_set ha hb ht with hB | ⟨c, hB, hcc, hco⟩
    · rcases clos_set ha ht with hC | ⟨n, x, y, hC, hnn, hno, hnc, hwx, hwy, q0, q1, q2, q3⟩
      · rcases make_set (l := l) ht with ⟨e, he, hM⟩ | ⟨k, hM, hkk, hko, hkm⟩
        · exact c000 hg l a b t hG ha hb ht hB hC e he hM
        · exact c001 hg l a b t hG ha hb ht hB hC k hM hkk hko hkm
      · rcases make_set (l := l) ht with ⟨e, he, hM⟩ | ⟨k, hM, hkk, hko, hkm⟩
        · exact c010 hg l a b t hG ha hb ht hB n x y hC hnn hno hnc hwx hwy q0 q1 q2 q3 e he hM
        · exact c011 hg l a b t hG ha hb ht hB n x y hC hnn hno hnc hwx hwy q0 q1 q2 q3 k hM hkk hko hkm
    · cases oa : openW (t % 10080) a with
      | true =>
        rcases clos_set ha ht with hC | ⟨n, x, y, hC, hnn, hno, hnc, hwx, hwy, q0, q1, q2, q3⟩
        · rcases make_set (l := l) ht with ⟨e, he, hM⟩ | ⟨k, hM, hkk, hko, hkm⟩
          · exact c1t00 hg l a b t hG ha hb ht c hB hcc hco oa hC e he hM
          · exact c1t01 hg l a b t hG ha hb ht c hB hcc hco oa hC k hM hkk hko hkm
        · rcases make_set (l := l) ht with ⟨e, he, hM⟩ | ⟨k, hM, hkk, hko, hkm⟩
          · exact c1t10 hg l a b t hG ha hb ht c hB hcc hco oa n x y hC hnn hno hnc hwx hwy q0 q1 q2 q3 e he hM
          · exact c1t11 hg l a b t hG ha hb ht c hB hcc hco oa n x y hC hnn hno hnc hwx hwy q0 q1 q2 q3 k hM hkk hko hkm
      | false =>
        rcases clos_set ha ht with hC | ⟨n, x, y, hC, hnn, hno, hnc, hwx, hwy, q0, q1, q2, q3⟩
        · rcases make_set (l := l) ht with ⟨e, he, hM⟩ | ⟨k, hM, hkk, hko, hkm⟩
          · exact c1f00 hg l a b t hG ha hb ht c hB hcc hco oa hC e he hM
          · exact c1f01 hg l a b t hG ha hb ht c hB hcc hco oa hC k hM hkk hko hkm
        · rcases make_set (l := l) ht with ⟨e, he, hM⟩ | ⟨k, hM, hkk, hko, hkm⟩
          · exact c1f10 hg l a b t hG ha hb ht c hB hcc hco oa n x y hC hnn hno hnc hwx hwy q0 q1 q2 q3 e he hM
          · exact c1f11 hg l a b t hG ha hb ht c hB hcc hco oa n x y hC hnn hno hnc hwx hwy q0 q1 q2 q3 k hM hkk hko hkm
  · have hcond : ∀ G A B T : Bool, greatB l = G → calOk a = A → calOk b = B → inst t = T → ¬ (G = false ∧ A = true ∧ B = true ∧ T = true) := fun G A B T e1 e2 e3 e4 q => hok ⟨by rw [e1, q.1]; decide, by rw [e2, q.2.1], by rw [e3, q.2.2.1], by rw [e4, q.2.2.2]⟩
    refine pure_of mixed Tryd.func9 rfl (by kernel_rfl) (of_decide_eq_true rfl) (by kernel_rfl) (vc_run ?_)
    have hti : inst t = true ↔ 0 ≤ t ∧ t ≤ 1099511627776 := inst_iff
    ((try simp -implicitDefEqProofs [-loopQ_n]) <;> (repeat' (first | (refine condD_dec ?_ ?_ <;> (intro hc; (try simp -implicitDefEqProofs [-loopQ_n, hc]))) | (refine guardD_dec ?_ ?_ <;> (intro hc; (try simp -implicitDefEqProofs [-loopQ_n, hc]))) | (refine condD_intro ?_ ?_ <;> (intro hd; have hc := hd; (try simp at hc) <;> (try simp -implicitDefEqProofs [-loopQ_n, hd, hc]))) | (refine guardD_intro ?_ ?_ <;> (intro hd; have hc := hd; (try simp at hc) <;> (try simp -implicitDefEqProofs [-loopQ_n, hd, hc]))) | (refine ldD_ep ?_ ?_; (focus kernel_rfl); (try simp -implicitDefEqProofs [-loopQ_n])) | (refine callS_mk ?_; (try simp -implicitDefEqProofs [-loopQ_n]); (first | refine callS_intro (awake_pure hg) (.inl rfl) ?_ | refine callS_intro (great_pure _) (.inl rfl) ?_ | refine callS_intro (valid_pure _) (.inl rfl) ?_); (try simp -implicitDefEqProofs [-loopQ_n])))))
    all_goals (exfalso; apply hok; simp_all <;> omega)
theorem walk (W : World) (hvo : VarsOk W (fun _ => False)) (hg : ∃ m, Glob.row 0 = some [.int .i64 m]) (v0 : Value) (x0 : AV) (r0 : RO W (fun _ => False) x0 v0) (s0 : argS Tryd.prog 22 x0) (v1 : Value) (x1 : AV) (r1 : RO W (fun _ => False) x1 v1) (s1 : argS Tryd.prog 24 x1) (v2 : Value) (x2 : AV) (r2 : RO W (fun _ => False) x2 v2) (s2 : argS Tryd.prog 24 x2) (v3 : Value) (x3 : AV) (r3 : RO W (fun _ => False) x3 v3) (s3 : argS Tryd.prog 3 x3) :
    Calls Tryd.prog 9 #[v0, v1, v2, v3] W fun e w' => e = .returned (.bool true) ∧ Below W.heap.size W w' := by
  refine ((both hg x0 s0 x1 s1 x2 s2 x3 s3).2 W (fun _ => False) _ (fun _ h => h.elim) hvo rfl ?_).mono ?_
  · intro j x v hj hv
    match j with
    | 0 => simp at hj hv; subst hj hv; exact r0
    | 1 => simp at hj hv; subst hj hv; exact r1
    | 2 => simp at hj hv; subst hj hv; exact r2
    | 3 => simp at hj hv; subst hj hv; exact r3
    | j + 4 => simp at hj
  · rintro e w' ⟨v, rfl, hv, hb⟩
    rw [ro_tt hv]
    exact ⟨rfl, hb⟩
end
theorem witness_row (os : Os) {H : Type} (enc : TypeId × Value → H) :
    (OpenSpec.ofChange Rows.clockSetsSpec).preRow enc Tryd.prog Tryd.f9 Rows.clockSetsRow.domain false Rows.clockSetsRow.laid ((laidWorld os).forCall (fun _ _ => 0) ⟨#[], #[.slice none 0 0, .agg #[.slice none 0 0], .agg #[.slice none 0 0], .int .i64 0], []⟩).memory #[.slice none 0 0, .agg #[.slice none 0 0], .agg #[.slice none 0 0], .int .i64 0] := by
  have hw : (DataW.whole enc Tryd.prog ((laidWorld os).forCall (fun _ _ => 0) ⟨#[], #[.slice none 0 0, .agg #[.slice none 0 0], .agg #[.slice none 0 0], .int .i64 0], []⟩).memory Tryd.f9.params.toList (OpenSpec.ofChange Rows.clockSetsSpec).vars false #[.slice none 0 0, .agg #[.slice none 0 0], .agg #[.slice none 0 0], .int .i64 0].toList 8).map (fun x => (x.1, x.2.1)) = some ([.nil, .agg [.nil], .agg [.nil], .lit (.int .i64 0)], []) := by kernel_rfl
  obtain ⟨⟨x1, x2, x3⟩, hx, hx1⟩ := Option.map_eq_some_iff.1 hw
  simp only [Prod.mk.injEq] at hx1
  obtain ⟨rfl, rfl⟩ := hx1
  exact OpenSpec.preRow_of_cond 8 hx (by kernel_rfl) (fun k hk => by cases hk) (by kernel_rfl) (laid_met os _)
set_option maxRecDepth 100000 in
theorem lifted (os : Os) (started : os.Started) (H : Type) (enc : TypeId × Value → H) (F : Stop.Interp) :
    ReturnsInHanded {} Tryd.checked os 9 .any ((OpenSpec.ofChange Rows.clockSetsSpec).preRow enc Tryd.prog Tryd.f9 Rows.clockSetsRow.domain false Rows.clockSetsRow.laid) (((OpenSpec.ofChange Rows.clockSetsSpec).at F).post enc Tryd.prog Tryd.f9 false true false false) := by
  refine returnsInHanded_of_row (C := Tryd.checked) (s := OpenSpec.ofChange Rows.clockSetsSpec) (@ownK ⟨fun _ => none⟩) started (by kernel_rfl) Tryd.func9
    (witness_row_atRef (enc := enc) (C := Tryd.checked) false (laidWorld os) #[.slice none 0 0, .agg #[.slice none 0 0], .agg #[.slice none 0 0], .int .i64 0] rfl (by kernel_rfl) (by kernel_rfl) (by kernel_rfl) (witness_row os enc)) ?_
  intro W base args ds gs before hval0 hW _ _ _ hL hsh _
  have hval : ∀ (j : Nat) t v, Tryd.f9.params[j]? = some t → args[j]? = some v → Value.okWide Tryd.prog W .any base t v := hval0
  have hW' := hW
  obtain ⟨p, q, hA0, hV, rfl, hfz, hnd⟩ := hW
  have hA : DataW.TrodAll enc Tryd.prog W 0 (fun _ => true) true Tryd.f9.params.toList args.toList ds p := hA0
  rw [Tryd.params9] at hA hval
  obtain ⟨v0, vs0, d0, ds0, p0, q0, hargs, rfl, rfl, h0, r0⟩ := trodAll_cons hA
  obtain ⟨v1, vs1, d1, ds1, p1, q1, rfl, rfl, rfl, h1, r1⟩ := trodAll_cons r0
  obtain ⟨v2, vs2, d2, ds2, p2, q2, rfl, rfl, rfl, h2, r2⟩ := trodAll_cons r1
  obtain ⟨v3, vs3, d3, ds3, p3, q3, rfl, rfl, rfl, h3, r3⟩ := trodAll_cons r2
  obtain ⟨rfl, rfl, rfl⟩ := trodAll_nil r3
  obtain rfl : args = #[v0, v1, v2, v3] := by cases args; simp_all
  obtain ⟨rfl, rfl⟩ := trodVars_none hV
  obtain ⟨M, hM⟩ := @maxLen_some ⟨fun _ => none⟩ W hsh
  letI : Glob := ⟨fun g => if g = 0 then some [.int .i64 M] else none⟩
  have hvo : VarsOk W (fun _ => False) := fun g row h => by
    have h : (if g = 0 then some [AV.int .i64 M] else none) = some row := h
    by_cases e : g = 0
    · subst e
      simp only [if_true, Option.some.injEq] at h
      subst h
      refine .rp (fun _ => .int .i64 M) (World.block_lt_of_cell? W _ hM) (fun h => h) (fun j x hj => ?_) fun j x hj => ?_
      · have hj0 : j = 0 := by cases j with | zero => rfl | succ j => simp at hj
        subst hj0
        exact ⟨hM, rfl⟩
      · cases j with
        | zero => simp at hj; subst hj; exact .int
        | succ j => simp at hj
    · simp [e] at h
  have k0 := h0
  have lt0 : ∀ x ∈ p0, x.block < W.heap.size := by obtain ⟨m, hm⟩ := k0; exact DataW.trod_lt m _ _ _ hm
  obtain ⟨x0, y0, s0⟩ := arg_open (P := Tryd.prog) (t := 22) (by kernel_rfl) (by kernel_rfl) (hval 0 22 v0 rfl rfl) h0
  have k1 := h1
  have lt1 : ∀ x ∈ p1, x.block < W.heap.size := by obtain ⟨m, hm⟩ := k1; exact DataW.trod_lt m _ _ _ hm
  obtain ⟨x1, y1, s1⟩ := arg_open (P := Tryd.prog) (t := 24) (by kernel_rfl) (by kernel_rfl) (hval 1 24 v1 rfl rfl) h1
  have k2 := h2
  have lt2 : ∀ x ∈ p2, x.block < W.heap.size := by obtain ⟨m, hm⟩ := k2; exact DataW.trod_lt m _ _ _ hm
  obtain ⟨x2, y2, s2⟩ := arg_open (P := Tryd.prog) (t := 24) (by kernel_rfl) (by kernel_rfl) (hval 2 24 v2 rfl rfl) h2
  have k3 := h3
  have lt3 : ∀ x ∈ p3, x.block < W.heap.size := by obtain ⟨m, hm⟩ := k3; exact DataW.trod_lt m _ _ _ hm
  obtain ⟨x3, y3, s3⟩ := arg_open (P := Tryd.prog) (t := 3) (by kernel_rfl) (by kernel_rfl) (hval 3 3 v3 rfl rfl) h3
  clear hA0 hval0
  refine (walk W hvo ⟨M, rfl⟩ v0 x0 y0 s0 v1 x1 y1 s1 v2 x2 y2 s2 v3 x3 y3 s3).mono fun e W' ⟨he, bel⟩ => ?_
  subst he
  exact ⟨_, rfl, _, _, _, [], _, [], hW', trodAll_mk1 (shut_bool Tryd.underlying4 _), (trodAll_cons_mk (Below.trod laidK (by kernel_rfl) (of_decide_eq_true (by kernel_rfl)) k0 bel lt0) (trodAll_cons_mk (Below.trod laidK (by kernel_rfl) (of_decide_eq_true (by kernel_rfl)) k1 bel lt1) (trodAll_cons_mk (Below.trod laidK (by kernel_rfl) (of_decide_eq_true (by kernel_rfl)) k2 bel lt2) (trodAll_cons_mk (Below.trod laidK (by kernel_rfl) (of_decide_eq_true (by kernel_rfl)) k3 bel lt3) trodAll_mk0)))), rfl, bel.frame _, fun h => by cases h⟩

theorem over : Rows.clockSetsRow.holds Tryd.pinned (OpenSpec.ofChange Rows.clockSetsSpec) :=
  OpenClaim.holds_of_cond 9 Tryd.f9 rfl rfl rfl rfl rfl rfl rfl ⟨rfl, rfl, rfl, rfl, rfl⟩ rfl rfl rfl rfl rfl (by kernel_rfl) Tryd.func9 (by kernel_rfl)
    (of_decide_eq_true (by kernel_rfl)) (by unfold Func.isWrapper; first | (rw [if_pos (by decide +kernel)]; kernel_rfl) | (rw [if_neg (by decide +kernel)]; exact ⟨rfl, rfl⟩))
    (fun os started H enc _ F0 => by rw [OpenClaim.pre_eq_preRow]; exact lifted os started H enc F0)

theorem proved : Rows.ClockSetsCardSaid :=
  Claim7.holds_tied_plain_at .later [] [.data, .data, .data] true (true, "1880f898bbaf09c6edac37723e6cc967d8125325b76a979ef0306a28409b5d6d") false over (fun _ h => by cases h) (by kernel_rfl) (fun _ h => by cases h) clockSets_row_tie rfl ⟨rfl, rfl⟩ (by kernel_rfl) rfl
    (fun f fn hf hfn => by
      obtain rfl : f = 9 := Option.some.inj ((show Tryd.prog.funcNamed "casebook/casebooklaw03.ClockSets" = some 9 by kernel_rfl).symm.trans hf) |>.symm
      obtain rfl : fn = Tryd.f9 := (Option.some.inj (Tryd.func9.symm.trans hfn)).symm
      exact ⟨by kernel_rfl, fun j t ht => by
        rw [Tryd.params9] at ht
        match j with
        | 0 => simp at ht; subst ht; exact (show Tryd.prog.wantsStandIn 22 = false by kernel_rfl)
        | 1 => simp at ht; subst ht; exact (show Tryd.prog.wantsStandIn 24 = false by kernel_rfl)
        | 2 => simp at ht; subst ht; exact (show Tryd.prog.wantsStandIn 24 = false by kernel_rfl)
        | 3 => simp at ht; subst ht; exact (show Tryd.prog.wantsStandIn 3 = false by kernel_rfl)
        | j + 4 => simp at ht⟩)
    (by kernel_rfl)
end Go.Proofs.YtlobmblakilmiaaDoor.lawSets
