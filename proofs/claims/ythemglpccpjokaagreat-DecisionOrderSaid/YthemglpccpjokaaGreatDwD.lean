/- Whether two tables have the same outcomes (both sides). -/
import Derived.Test.YthemglpccpjokaaGreatDwP
import Derived.Test.YthemglpccpjokaaGreatM8
set_option linter.unusedSimpArgs false
set_option linter.unusedVariables false
set_option linter.unnecessarySimpa false
set_option linter.unusedSectionVars false
set_option maxRecDepth 100000
namespace Go.Proofs.YthemglpccpjokaaGreat
open Go.RowKit
variable [Glob]
set_option maxHeartbeats 8000000 in
theorem rsamevar_pure (a b : Dom) (ha : a.items.length ≤ 1000000) (hb : b.items.length ≤ 1000000) : Pure Tryz.prog 71 [.agg (domC a), .agg (domC b)] (.bool (decide (a = b))) := by
  obtain ⟨n1, k1, l1, h1, i1⟩ := a
  obtain ⟨n2, k2, l2, h2, i2⟩ := b
  simp only at ha hb
  simp only [Dom.mk.injEq]
  refine pure_of mixed Tryz.func71 rfl (by kernel_rfl) (of_decide_eq_true rfl) (by kernel_rfl) (vc_run ?_)
  by_cases q1 : n1 = n2
  rotate_left
  · have q1' : ¬ n1.toList = n2.toList := fun e => q1 (str_eq.1 e)
    rw [decide_eq_false fun e => q1 e.1]
    ((try simp -implicitDefEqProofs [-loopQ_n, domC, q1']) <;> (repeat' (first | ((first | refine condD_dec ?_ ?_ | refine guardD_dec ?_ ?_) <;> (intro hc; (try simp -implicitDefEqProofs [-loopQ_n, hc, domC, q1']))))))
  subst q1
  by_cases q2 : k1 = k2
  rotate_left
  · rw [decide_eq_false fun e => q2 e.2.1]
    ((try simp -implicitDefEqProofs [-loopQ_n, domC, q2]) <;> (repeat' (first | ((first | refine condD_dec ?_ ?_ | refine guardD_dec ?_ ?_) <;> (intro hc; (try simp -implicitDefEqProofs [-loopQ_n, hc, domC, q2]))))))
  subst q2
  by_cases q3 : l1 = l2
  rotate_left
  · rw [decide_eq_false fun e => q3 e.2.2.1]
    ((try simp -implicitDefEqProofs [-loopQ_n, domC, q3]) <;> (repeat' (first | ((first | refine condD_dec ?_ ?_ | refine guardD_dec ?_ ?_) <;> (intro hc; (try simp -implicitDefEqProofs [-loopQ_n, hc, domC, q3]))))))
  subst q3
  by_cases q4 : h1 = h2
  rotate_left
  · rw [decide_eq_false fun e => q4 e.2.2.2.1]
    ((try simp -implicitDefEqProofs [-loopQ_n, domC, q4]) <;> (repeat' (first | ((first | refine condD_dec ?_ ?_ | refine guardD_dec ?_ ?_) <;> (intro hc; (try simp -implicitDefEqProofs [-loopQ_n, hc, domC, q4]))))))
  subst q4
  by_cases hlen : i1.length = i2.length
  rotate_left
  · have hl2 : ¬ (i1.length : Int) = i2.length := by omega
    rw [decide_eq_false fun e => len_ne hlen e.2.2.2.2]
    ((try simp -implicitDefEqProofs [-loopQ_n, domC, hl2]) <;> (repeat' (first | ((first | refine condD_dec ?_ ?_ | refine guardD_dec ?_ ?_) <;> (intro hc; (try simp -implicitDefEqProofs [-loopQ_n, hc, domC, hl2]))))))
  have hl2 : (i1.length : Int) = i2.length := by omega
  have hde : decide (n1 = n1 ∧ k1 = k1 ∧ l1 = l1 ∧ h1 = h1 ∧ i1 = i2) = decide (i1 = i2) := by simp
  rw [hde]
  ((try simp -implicitDefEqProofs [-loopQ_n, domC, hl2]) <;> (repeat' (first | ((first | refine condD_dec ?_ ?_ | refine guardD_dec ?_ ?_) <;> (intro hc; (try simp -implicitDefEqProofs [-loopQ_n, hc, domC, hl2]))))))
  refine loop_intro (σ := Nat) (fun i => ⟨[(2, .op 0 0), (3, .op 1 0), (5, .int .i64 i)], [.box 25 [.str n1, .int .i64 k1, .int .i64 l1, .int .i64 h1, .rs (rowsOf strC i1)], .box 25 [.str n1, .int .i64 k1, .int .i64 l1, .int .i64 h1, .rs (rowsOf strC i2)]]⟩) (fun i => i ≤ i2.length ∧ i1.take i = i2.take i) (fun i => i2.length - i) 0 (by simp) ?_ ?_
  · refine weak_of 2 0 rfl rfl ?_ ?_ <;> simp
  rintro i ⟨hi, ht⟩
  by_cases h : i < i2.length
  · have h2' : i < i1.length := by omega
    have w1 : wrapI .i64 ((i : Int) + 1) = ((i + 1 : Nat) : Int) := by rw [wrap_in (by omega) (by omega)]; omega
    obtain ⟨hts, hne⟩ := take_step h2' h ht
    obtain ⟨x, hx⟩ : ∃ x, i1[i] = x := ⟨_, rfl⟩
    obtain ⟨y, hy⟩ : ∃ y, i2[i] = y := ⟨_, rfl⟩
    rw [hx, hy] at hts hne
    by_cases c1 : x = y
    · subst c1
      ((try simp -implicitDefEqProofs [-loopQ_n, h, h2', hx, hy, strC, w1]) <;> (repeat' (first | ((first | refine condD_dec ?_ ?_ | refine guardD_dec ?_ ?_) <;> (intro hc; (try simp -implicitDefEqProofs [-loopQ_n, hc, h, h2', hx, hy, strC, w1]))))))
      refine loop_next (i + 1) ⟨h, hts rfl⟩ (by omega) (weak_of 2 0 rfl rfl ?_ ?_) <;> simp
    · rw [decide_eq_false (hne c1)]
      have c2 : ¬ x.toList = y.toList := fun e => c1 (str_eq.1 e)
      ((try simp -implicitDefEqProofs [-loopQ_n, h, h2', hx, hy, strC, w1, c2]) <;> (repeat' (first | ((first | refine condD_dec ?_ ?_ | refine guardD_dec ?_ ?_) <;> (intro hc; (try simp -implicitDefEqProofs [-loopQ_n, hc, h, h2', hx, hy, strC, w1, c2]))))))
  · rw [decide_eq_true (take_end (by omega) hlen ht)]
    have h2' : ¬ i < i1.length := by omega
    ((try simp -implicitDefEqProofs [-loopQ_n, h2']) <;> (repeat' (first | ((first | refine condD_dec ?_ ?_ | refine guardD_dec ?_ ?_) <;> (intro hc; (try simp -implicitDefEqProofs [-loopQ_n, hc, h2']))))))
set_option maxHeartbeats 4000000 in
theorem rsamevars_pure (a b : List Dom) (ha : DomSz a) (hb : DomSz b) : Pure Tryz.prog 68 [.rs (rowsOf domC a), .rs (rowsOf domC b)] (.bool (decide (a = b))) := by
  have la := ha.1
  have lb := hb.1
  by_cases hlen : a.length = b.length
  rotate_left
  · have hl2 : ¬ (a.length : Int) = b.length := by omega
    rw [decide_eq_false (len_ne hlen)]
    refine pure_of mixed Tryz.func68 rfl (by kernel_rfl) (of_decide_eq_true rfl) (by kernel_rfl) (vc_run ?_)
    ((try simp -implicitDefEqProofs [-loopQ_n, hl2]) <;> (repeat' (first | ((first | refine condD_dec ?_ ?_ | refine guardD_dec ?_ ?_) <;> (intro hc; (try simp -implicitDefEqProofs [-loopQ_n, hc, hl2]))))))
  have hl2 : (a.length : Int) = b.length := by omega
  refine pure_of mixed Tryz.func68 rfl (by kernel_rfl) (of_decide_eq_true rfl) (by kernel_rfl) (vc_run ?_)
  ((try simp -implicitDefEqProofs [-loopQ_n, hl2]) <;> (repeat' (first | ((first | refine condD_dec ?_ ?_ | refine guardD_dec ?_ ?_) <;> (intro hc; (try simp -implicitDefEqProofs [-loopQ_n, hc, hl2]))))))
  refine loop_intro (σ := Nat) (fun i => ⟨[(0, .rs (rowsOf domC a)), (1, .rs (rowsOf domC b)), (5, .int .i64 i)], []⟩) (fun i => i ≤ b.length ∧ a.take i = b.take i) (fun i => b.length - i) 0 (by simp) ?_ ?_
  · refine weak_of 0 0 rfl rfl ?_ ?_ <;> simp [hl2]
  rintro i ⟨hi, ht⟩
  by_cases h : i < b.length
  · have h2 : i < a.length := by omega
    have w1 : wrapI .i64 ((i : Int) + 1) = ((i + 1 : Nat) : Int) := by rw [wrap_in (by omega) (by omega)]; omega
    obtain ⟨hts, hne⟩ := take_step h2 h ht
    have he := rsamevar_pure a[i] b[i] (ha.2 _ (List.getElem_mem h2)) (hb.2 _ (List.getElem_mem h))
    obtain ⟨x, hx⟩ : ∃ x, a[i] = x := ⟨_, rfl⟩
    obtain ⟨y, hy⟩ : ∃ y, b[i] = y := ⟨_, rfl⟩
    rw [hx, hy] at hts hne he
    simp only [domC] at he
    by_cases c1 : x = y
    · rw [decide_eq_true c1] at he
      ((try simp -implicitDefEqProofs [-loopQ_n, h, h2, hx, hy, domC, w1]) <;> (repeat' (first | ((first | refine condD_dec ?_ ?_ | refine guardD_dec ?_ ?_) <;> (intro hc; (try simp -implicitDefEqProofs [-loopQ_n, hc, h, h2, hx, hy, domC, w1]))) | (refine callS_mk ?_; (try simp -implicitDefEqProofs [-loopQ_n, h, h2, hx, hy, domC, w1]); (first | refine callS_intro (he) (.inl rfl) ?_); (try simp -implicitDefEqProofs [-loopQ_n, h, h2, hx, hy, domC, w1])))))
      refine loop_next (i + 1) ⟨h, hts c1⟩ (by omega) (weak_of 0 0 rfl rfl ?_ ?_) <;> simp
    · rw [decide_eq_false c1] at he
      rw [decide_eq_false (hne c1)]
      ((try simp -implicitDefEqProofs [-loopQ_n, h, h2, hx, hy, domC, w1]) <;> (repeat' (first | ((first | refine condD_dec ?_ ?_ | refine guardD_dec ?_ ?_) <;> (intro hc; (try simp -implicitDefEqProofs [-loopQ_n, hc, h, h2, hx, hy, domC, w1]))) | (refine callS_mk ?_; (try simp -implicitDefEqProofs [-loopQ_n, h, h2, hx, hy, domC, w1]); (first | refine callS_intro (he) (.inl rfl) ?_); (try simp -implicitDefEqProofs [-loopQ_n, h, h2, hx, hy, domC, w1])))))
  · rw [decide_eq_true (take_end (by omega) hlen ht)]
    have h2 : ¬ i < a.length := by omega
    ((try simp -implicitDefEqProofs [-loopQ_n, h2]) <;> (repeat' (first | ((first | refine condD_dec ?_ ?_ | refine guardD_dec ?_ ?_) <;> (intro hc; (try simp -implicitDefEqProofs [-loopQ_n, hc, h2]))))))
theorem dec_sz {d : Dec} (hs : szD d) (h : decV d = true) : DomSz d.inputs := ⟨hs.1, fun x hx => dom_items (doms_mem (dec_facts h).1 x hx)⟩
def equalO (a b : Dec) : AV := if decV a && decV b then (if a.inputs = b.inputs then (if capA 1 a.inputs ≤ 10000 then (match differA a b with | some v => .tup [.bool false, .rs (rowsOf valC v), .int .i64 0] | none => .tup [.bool true, .rs [], .int .i64 0]) else .tup [.bool false, .rs [], .int .i64 13]) else .tup [.bool false, .rs [], .int .i64 11]) else .tup [.bool false, .rs [], .int .i64 1]
set_option maxHeartbeats 8000000 in
theorem equal_pure (a b : Dec) (ha : szD a) (hb : szD b) : Pure Tryz.prog 27 [.agg (decC a), .agg (decC b)] (equalO a b) := by
  have hva := dvalid_pure a ha
  have hvb := dvalid_pure b hb
  have hse := searchable_pure a ha
  simp only [decC] at hva hvb hse
  unfold equalO
  by_cases ea : decV a = true
  rotate_left
  · have ea : decV a = false := by simpa using ea
    rw [ea] at hva
    rw [ea]
    clear hse hvb
    refine pure_of mixed Tryz.func27 rfl (by kernel_rfl) (of_decide_eq_true rfl) (by kernel_rfl) (vc_run ?_)
    ((try simp -implicitDefEqProofs [-loopQ_n, decC]) <;> (repeat' (first | ((first | refine condD_dec ?_ ?_ | refine guardD_dec ?_ ?_) <;> (intro hc; (try simp -implicitDefEqProofs [-loopQ_n, hc, decC]))) | (refine callS_mk ?_; (try simp -implicitDefEqProofs [-loopQ_n, decC]); (first | refine callS_intro (hva) (.inl rfl) ?_); (try simp -implicitDefEqProofs [-loopQ_n, decC])))))
  by_cases eb : decV b = true
  rotate_left
  · have eb : decV b = false := by simpa using eb
    rw [eb] at hvb
    rw [ea] at hva
    rw [ea, eb]
    clear hse
    refine pure_of mixed Tryz.func27 rfl (by kernel_rfl) (of_decide_eq_true rfl) (by kernel_rfl) (vc_run ?_)
    ((try simp -implicitDefEqProofs [-loopQ_n, decC]) <;> (repeat' (first | ((first | refine condD_dec ?_ ?_ | refine guardD_dec ?_ ?_) <;> (intro hc; (try simp -implicitDefEqProofs [-loopQ_n, hc, decC]))) | (refine callS_mk ?_; (try simp -implicitDefEqProofs [-loopQ_n, decC]); (first | refine callS_intro (hva) (.inl rfl) ?_ | refine callS_intro (hvb) (.inl rfl) ?_); (try simp -implicitDefEqProofs [-loopQ_n, decC])))))
  have hq := eqf_pure a.inputs b.inputs (dec_sz ha ea) (dec_sz hb eb)
  have hdf := fun h => differ_pure a b ha hb ea eb h
  rw [ea] at hva
  rw [eb] at hvb
  rw [ea, eb]
  simp only [Bool.and_self, if_true]
  by_cases q : a.inputs = b.inputs
  rotate_left
  · rw [decide_eq_false q] at hq
    rw [if_neg q]
    clear hse hdf
    refine pure_of mixed Tryz.func27 rfl (by kernel_rfl) (of_decide_eq_true rfl) (by kernel_rfl) (vc_run ?_)
    ((try simp -implicitDefEqProofs [-loopQ_n, decC]) <;> (repeat' (first | ((first | refine condD_dec ?_ ?_ | refine guardD_dec ?_ ?_) <;> (intro hc; (try simp -implicitDefEqProofs [-loopQ_n, hc, decC]))) | (refine callS_mk ?_; (try simp -implicitDefEqProofs [-loopQ_n, decC]); (first | refine callS_intro (hva) (.inl rfl) ?_ | refine callS_intro (hvb) (.inl rfl) ?_ | refine callS_intro (hq) (.inl rfl) ?_); (try simp -implicitDefEqProofs [-loopQ_n, decC])))))
  rw [decide_eq_true q] at hq
  rw [if_pos q]
  have hdf := hdf q.symm
  by_cases g : capA 1 a.inputs ≤ 10000
  rotate_left
  · have hf : faultE a = 13 := by rw [faultE, if_pos ea, if_pos (by omega)]
    rw [hf] at hse
    rw [if_neg g]
    clear hdf
    refine pure_of mixed Tryz.func27 rfl (by kernel_rfl) (of_decide_eq_true rfl) (by kernel_rfl) (vc_run ?_)
    ((try simp -implicitDefEqProofs [-loopQ_n, decC]) <;> (repeat' (first | ((first | refine condD_dec ?_ ?_ | refine guardD_dec ?_ ?_) <;> (intro hc; (try simp -implicitDefEqProofs [-loopQ_n, hc, decC]))) | (refine callS_mk ?_; (try simp -implicitDefEqProofs [-loopQ_n, decC]); (first | refine callS_intro (hva) (.inl rfl) ?_ | refine callS_intro (hvb) (.inl rfl) ?_ | refine callS_intro (hq) (.inl rfl) ?_ | refine callS_intro (hse) (.inl rfl) ?_); (try simp -implicitDefEqProofs [-loopQ_n, decC])))))
  have hf : faultE a = 0 := by rw [faultE, if_pos ea, if_neg (by omega)]
  rw [hf] at hse
  rw [if_pos g]
  simp only [decC, differO] at hdf
  cases hD : differA a b with
  | none =>
    rw [hD] at hdf
    refine pure_of mixed Tryz.func27 rfl (by kernel_rfl) (of_decide_eq_true rfl) (by kernel_rfl) (vc_run ?_)
    ((try simp -implicitDefEqProofs [-loopQ_n, decC]) <;> (repeat' (first | ((first | refine condD_dec ?_ ?_ | refine guardD_dec ?_ ?_) <;> (intro hc; (try simp -implicitDefEqProofs [-loopQ_n, hc, decC]))) | (refine callS_mk ?_; (try simp -implicitDefEqProofs [-loopQ_n, decC]); (first | refine callS_intro (hva) (.inl rfl) ?_ | refine callS_intro (hvb) (.inl rfl) ?_ | refine callS_intro (hq) (.inl rfl) ?_ | refine callS_intro (hse) (.inl rfl) ?_ | refine callS_intro (hdf) (.inr ⟨rfl, rfl⟩) ?_); (try simp -implicitDefEqProofs [-loopQ_n, decC])))))
  | some v =>
    rw [hD] at hdf
    refine pure_of mixed Tryz.func27 rfl (by kernel_rfl) (of_decide_eq_true rfl) (by kernel_rfl) (vc_run ?_)
    ((try simp -implicitDefEqProofs [-loopQ_n, decC, vals_reify]) <;> (repeat' (first | ((first | refine condD_dec ?_ ?_ | refine guardD_dec ?_ ?_) <;> (intro hc; (try simp -implicitDefEqProofs [-loopQ_n, hc, decC, vals_reify]))) | (refine callS_mk ?_; (try simp -implicitDefEqProofs [-loopQ_n, decC, vals_reify]); (first | refine callS_intro (hva) (.inl rfl) ?_ | refine callS_intro (hvb) (.inl rfl) ?_ | refine callS_intro (hq) (.inl rfl) ?_ | refine callS_intro (hse) (.inl rfl) ?_ | refine callS_intro (hdf) (.inr ⟨rfl, rfl⟩) ?_); (try simp -implicitDefEqProofs [-loopQ_n, decC, vals_reify])))))
set_option maxHeartbeats 8000000 in
theorem requal_pure (a b : Dec) (ha : szD a) (hb : szD b) : Pure Tryz.prog 28 [.agg (decC a), .agg (decC b)] (equalO a b) := by
  have hva := rvalid_pure a ha
  have hvb := rvalid_pure b hb
  simp only [decC] at hva hvb
  unfold equalO
  by_cases ea : decV a = true
  rotate_left
  · have ea : decV a = false := by simpa using ea
    rw [ea] at hva
    rw [ea]
    clear hvb
    refine pure_of mixed Tryz.func28 rfl (by kernel_rfl) (of_decide_eq_true rfl) (by kernel_rfl) (vc_run ?_)
    ((try simp -implicitDefEqProofs [-loopQ_n, decC]) <;> (repeat' (first | ((first | refine condD_dec ?_ ?_ | refine guardD_dec ?_ ?_) <;> (intro hc; (try simp -implicitDefEqProofs [-loopQ_n, hc, decC]))) | (refine callS_mk ?_; (try simp -implicitDefEqProofs [-loopQ_n, decC]); (first | refine callS_intro (hva) (.inl rfl) ?_); (try simp -implicitDefEqProofs [-loopQ_n, decC])))))
  by_cases eb : decV b = true
  rotate_left
  · have eb : decV b = false := by simpa using eb
    rw [eb] at hvb
    rw [ea] at hva
    rw [ea, eb]
    refine pure_of mixed Tryz.func28 rfl (by kernel_rfl) (of_decide_eq_true rfl) (by kernel_rfl) (vc_run ?_)
    ((try simp -implicitDefEqProofs [-loopQ_n, decC]) <;> (repeat' (first | ((first | refine condD_dec ?_ ?_ | refine guardD_dec ?_ ?_) <;> (intro hc; (try simp -implicitDefEqProofs [-loopQ_n, hc, decC]))) | (refine callS_mk ?_; (try simp -implicitDefEqProofs [-loopQ_n, decC]); (first | refine callS_intro (hva) (.inl rfl) ?_ | refine callS_intro (hvb) (.inl rfl) ?_); (try simp -implicitDefEqProofs [-loopQ_n, decC])))))
  have hq := rsamevars_pure a.inputs b.inputs (dec_sz ha ea) (dec_sz hb eb)
  have hdf := fun h => rdiffer_pure a b ha hb ea eb h
  have hse := rasg_pure a.inputs ha.1 (doms_mem (dec_facts ea).1)
  rw [ea] at hva
  rw [eb] at hvb
  rw [ea, eb]
  simp only [Bool.and_self, if_true]
  by_cases q : a.inputs = b.inputs
  rotate_left
  · rw [decide_eq_false q] at hq
    rw [if_neg q]
    clear hse hdf
    refine pure_of mixed Tryz.func28 rfl (by kernel_rfl) (of_decide_eq_true rfl) (by kernel_rfl) (vc_run ?_)
    ((try simp -implicitDefEqProofs [-loopQ_n, decC]) <;> (repeat' (first | ((first | refine condD_dec ?_ ?_ | refine guardD_dec ?_ ?_) <;> (intro hc; (try simp -implicitDefEqProofs [-loopQ_n, hc, decC]))) | (refine callS_mk ?_; (try simp -implicitDefEqProofs [-loopQ_n, decC]); (first | refine callS_intro (hva) (.inl rfl) ?_ | refine callS_intro (hvb) (.inl rfl) ?_ | refine callS_intro (hq) (.inl rfl) ?_); (try simp -implicitDefEqProofs [-loopQ_n, decC])))))
  rw [decide_eq_true q] at hq
  rw [if_pos q]
  have hdf := hdf q.symm
  by_cases g : capA 1 a.inputs ≤ 10000
  rotate_left
  · have g' : 10000 < capA 1 a.inputs := by omega
    rw [if_neg g]
    clear hdf
    refine pure_of mixed Tryz.func28 rfl (by kernel_rfl) (of_decide_eq_true rfl) (by kernel_rfl) (vc_run ?_)
    ((try simp -implicitDefEqProofs [-loopQ_n, decC, g']) <;> (repeat' (first | ((first | refine condD_dec ?_ ?_ | refine guardD_dec ?_ ?_) <;> (intro hc; (try simp -implicitDefEqProofs [-loopQ_n, hc, decC, g']))) | (refine callS_mk ?_; (try simp -implicitDefEqProofs [-loopQ_n, decC, g']); (first | refine callS_intro (hva) (.inl rfl) ?_ | refine callS_intro (hvb) (.inl rfl) ?_ | refine callS_intro (hq) (.inl rfl) ?_ | refine callS_intro (hse) (.inl rfl) ?_); (try simp -implicitDefEqProofs [-loopQ_n, decC, g'])))))
  have g' : ¬ 10000 < capA 1 a.inputs := by omega
  rw [if_pos g]
  simp only [decC, differO] at hdf
  cases hD : differA a b with
  | none =>
    rw [hD] at hdf
    refine pure_of mixed Tryz.func28 rfl (by kernel_rfl) (of_decide_eq_true rfl) (by kernel_rfl) (vc_run ?_)
    ((try simp -implicitDefEqProofs [-loopQ_n, decC, g']) <;> (repeat' (first | ((first | refine condD_dec ?_ ?_ | refine guardD_dec ?_ ?_) <;> (intro hc; (try simp -implicitDefEqProofs [-loopQ_n, hc, decC, g']))) | (refine callS_mk ?_; (try simp -implicitDefEqProofs [-loopQ_n, decC, g']); (first | refine callS_intro (hva) (.inl rfl) ?_ | refine callS_intro (hvb) (.inl rfl) ?_ | refine callS_intro (hq) (.inl rfl) ?_ | refine callS_intro (hse) (.inl rfl) ?_ | refine callS_intro (hdf) (.inr ⟨rfl, rfl⟩) ?_); (try simp -implicitDefEqProofs [-loopQ_n, decC, g'])))))
  | some v =>
    rw [hD] at hdf
    refine pure_of mixed Tryz.func28 rfl (by kernel_rfl) (of_decide_eq_true rfl) (by kernel_rfl) (vc_run ?_)
    ((try simp -implicitDefEqProofs [-loopQ_n, decC, g', vals_reify]) <;> (repeat' (first | ((first | refine condD_dec ?_ ?_ | refine guardD_dec ?_ ?_) <;> (intro hc; (try simp -implicitDefEqProofs [-loopQ_n, hc, decC, g', vals_reify]))) | (refine callS_mk ?_; (try simp -implicitDefEqProofs [-loopQ_n, decC, g', vals_reify]); (first | refine callS_intro (hva) (.inl rfl) ?_ | refine callS_intro (hvb) (.inl rfl) ?_ | refine callS_intro (hq) (.inl rfl) ?_ | refine callS_intro (hse) (.inl rfl) ?_ | refine callS_intro (hdf) (.inr ⟨rfl, rfl⟩) ?_); (try simp -implicitDefEqProofs [-loopQ_n, decC, g', vals_reify])))))
end Go.Proofs.YthemglpccpjokaaGreat
