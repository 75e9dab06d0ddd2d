/- slices.Concat of rows: the rows of one slice behind those of the other, in memory of its own. -/
import Derived.Test.YthemglpccpjokaaGreatM8
set_option linter.unusedSimpArgs false
set_option linter.unusedVariables false
set_option linter.unnecessarySimpa false
set_option linter.unusedSectionVars false
set_option maxRecDepth 100000
namespace Go.Proofs.YthemglpccpjokaaGreat
open Go.RowKit
variable [Glob]
def szL {α : Type} (ls : List (List α)) (i : Nat) : Nat := ((ls.take i).map List.length).sum
theorem szL_zero {α : Type} {ls : List (List α)} : szL ls 0 = 0 := rfl
theorem szL_len {α : Type} {ls : List (List α)} {i : Nat} : szL ls i = (ls.take i).flatten.length := by
  unfold szL
  rw [List.length_flatten]
theorem flat_succ {α : Type} {ls : List (List α)} {i : Nat} (h : i < ls.length) : (ls.take (i + 1)).flatten = (ls.take i).flatten ++ ls[i] := by
  rw [List.take_succ_eq_append_getElem h, List.flatten_append]
  simp only [List.flatten_cons, List.flatten_nil, List.append_nil]
theorem szL_succ {α : Type} {ls : List (List α)} {i : Nat} (h : i < ls.length) : szL ls (i + 1) = szL ls i + ls[i].length := by
  rw [szL_len, szL_len, flat_succ h, List.length_append]
theorem szL_all {α : Type} {ls : List (List α)} : szL ls ls.length = ls.flatten.length := by rw [szL_len, List.take_length]
theorem szL_le {α : Type} {ls : List (List α)} {i : Nat} : szL ls i ≤ ls.flatten.length := by
  rw [szL_len]
  have : ls.flatten = (ls.take i).flatten ++ (ls.drop i).flatten := by rw [← List.flatten_append, List.take_append_drop]
  rw [this, List.length_append]; omega
theorem putR_zeros {α : Type} {f : α → List AV} {z : List AV} {l y : List α} {n k m : Nat} (hk : l.length = k) (hm : y.length = m) (h : k + m ≤ n) :
    putR (rowsOf f l ++ List.replicate (n - k) z) k (rowsOf f y) = rowsOf f (l ++ y) ++ List.replicate (n - (k + m)) z := by
  unfold putR
  have e1 : (rowsOf f l).length = k := by rw [rowsOf_length, hk]
  have e2 : (rowsOf f y).length = m := by rw [rowsOf_length, hm]
  rw [List.take_append_of_le_length (by omega), List.take_of_length_le (by omega), List.drop_append, List.drop_of_length_le (by omega), e1, e2, List.drop_replicate]
  simp [rowsOf]
  omega
def lstC {α : Type} (f : α → List AV) (l : List α) : List AV := [.rs (rowsOf f l)]
theorem lst_refs {α : Type} {f : α → List AV} {m : Nat} {ls : List (List α)} : refsR m (rowsOf (lstC f) ls) = true := rowsOf_refs fun x => by simp [lstC, refs]
theorem rw_all4 {l : List Rw} : allLen 4 (rowsOf rwC l) = true := rowsOf_allLen fun x => rfl
def zRw : List AV := [.nils, .int .i64 0, .int .i64 0, .str ByteArray.empty]
theorem zeros_refs {m k : Nat} {l : List Rw} : refsR m (rowsOf rwC l ++ List.replicate k zRw) = true := by
  have h : refsR m (rowsOf rwC l) = true := rws_refs
  unfold refsR at h ⊢
  rw [List.all_append, h, Bool.true_and, List.all_eq_true]
  intro x hx
  rw [List.eq_of_mem_replicate hx]
  rfl
theorem growR_G (n : Nat) (h0 : 0 < n) (hn : n ≤ 1073741824) :
    CallG Tryz.prog 90 [.nils, .int .i64 n] [] fun r H => r = .ow 0 n 0 0 ∧ H = [.row 85 false (List.replicate n zRw)] := by
  have h1 : ¬ (n : Int) < 0 := by omega
  have h2 : (0 : Int) < n := by omega
  have h3 : (n : Int) ≤ 1073741824 := by omega
  have w1 : wrapI .i64 (0 - 0) = 0 := wrap_in (by omega) (by omega)
  have w1' : wrapI .i64 0 = 0 := wrap_in (by omega) (by omega)
  have w2 : wrapI .i64 ((n : Int) - 0) = n := by rw [wrap_in (by omega) (by omega)]; omega
  have w2' : wrapI .i64 ((n : Int)) = n := by rw [wrap_in (by omega) (by omega)]
  refine inl_G mixed Tryz.func90 rfl (by kernel_rfl) (of_decide_eq_true rfl) (by kernel_rfl) (vc_run ?_)
  ((try simp -implicitDefEqProofs [-loopQ_n, h0, h1, h2, h3, w1, w2, w1', w2']) <;> (repeat' (first | ((first | refine condD_dec ?_ ?_ | refine guardD_dec ?_ ?_) <;> (intro hc; (try simp -implicitDefEqProofs [-loopQ_n, hc, h0, h1, h2, h3, w1, w2, w1', w2']))) | ((first | refine condD_intro ?_ ?_ | refine guardD_intro ?_ ?_) <;> (intro hd; have hc := hd; (try simp at hc) <;> (try simp -implicitDefEqProofs [-loopQ_n, hd, hc, h0, h1, h2, h3, w1, w2, w1', w2']))) | (refine ldD_ep ?_ ?_; (focus kernel_rfl); (try simp -implicitDefEqProofs [-loopQ_n, h0, h1, h2, h3, w1, w2, w1', w2'])))))
  all_goals exact endG_r (.ow 0 n 0 0) (by simp) ⟨rfl, rfl⟩
set_option maxHeartbeats 8000000 in
theorem concatR_fresh (ls : List (List Rw)) (hl : ls.length ≤ 1073741824) (hn : ls.flatten.length ≤ 1073741824) (hne : ls.flatten ≠ []) :
    Fresh Tryz.prog 40 [.rs (rowsOf (lstC rwC) ls)] 85 (rowsOf rwC ls.flatten) := by
  refine fresh_of mixed Tryz.func40 rfl (by kernel_rfl) (of_decide_eq_true rfl) (by kernel_rfl) (vc_run ?_)
  ((try simp -implicitDefEqProofs [-loopQ_n]) <;> (repeat' (first | ((first | refine condD_dec ?_ ?_ | refine guardD_dec ?_ ?_) <;> (intro hc; (try simp -implicitDefEqProofs [-loopQ_n, hc]))) | ((first | refine condD_intro ?_ ?_ | refine guardD_intro ?_ ?_) <;> (intro hd; have hc := hd; (try simp at hc) <;> (try simp -implicitDefEqProofs [-loopQ_n, hd, hc]))) | (refine ldD_ep ?_ ?_; (focus kernel_rfl); (try simp -implicitDefEqProofs [-loopQ_n])))))
  refine loop_intro (σ := Nat) (fun i => ⟨[(0, .rs (rowsOf (lstC rwC) ls)), (3, .int .i64 (szL ls i : Nat)), (9, .rs (rowsOf (lstC rwC) ls)), (10, .int .i64 ls.length), (11, .int .i64 i)], []⟩)
    (fun i => i ≤ ls.length) (fun i => ls.length - i) 0 (by simp) ?_ ?_
  · refine weak_of 0 0 rfl rfl ?_ ?_ <;> simp [szL_zero]
  intro i hi
  by_cases h : i < ls.length
  · have w1 : wrapI .i64 ((i : Int) + 1) = (i : Int) + 1 := wrap_in (by omega) (by omega)
    have hs := szL_succ h
    have hle := szL_le (ls := ls) (i := i + 1)
    have w2 : wrapI .i64 ((szL ls i : Nat) + (ls[i].length : Int)) = (szL ls (i + 1) : Nat) := by rw [wrap_in (by omega) (by omega)]; omega
    have h4 : ¬ ((szL ls (i + 1) : Nat) : Int) < 0 := by omega
    generalize hk : szL ls (i + 1) = k at *
    ((try simp -implicitDefEqProofs [-loopQ_n, h, w1, w2, lstC, h4]) <;> (repeat' (first | ((first | refine condD_dec ?_ ?_ | refine guardD_dec ?_ ?_) <;> (intro hc; (try simp -implicitDefEqProofs [-loopQ_n, hc, h, w1, w2, lstC, h4]))) | ((first | refine condD_intro ?_ ?_ | refine guardD_intro ?_ ?_) <;> (intro hd; have hc := hd; (try simp at hc) <;> (try simp -implicitDefEqProofs [-loopQ_n, hd, hc, h, w1, w2, lstC, h4]))) | (refine ldD_ep ?_ ?_; (focus kernel_rfl); (try simp -implicitDefEqProofs [-loopQ_n, h, w1, w2, lstC, h4])))))
    refine loop_next (i + 1) (by omega) (by omega) (weak_of 0 0 rfl rfl ?_ ?_) <;> simp [w1, hk, lst_refs]
  · have hin : i = ls.length := by omega
    subst hin
    rw [szL_all]
    obtain ⟨n, hnn⟩ : ∃ n, ls.flatten.length = n := ⟨_, rfl⟩
    rw [hnn]
    have h0 : n ≠ 0 := fun e => hne (List.eq_nil_of_length_eq_zero (by omega))
    have hgr := growR_G n (by omega) (by omega)
    ((try simp -implicitDefEqProofs [-loopQ_n]) <;> (repeat' (first | ((first | refine condD_dec ?_ ?_ | refine guardD_dec ?_ ?_) <;> (intro hc; (try simp -implicitDefEqProofs [-loopQ_n, hc]))) | ((first | refine condD_intro ?_ ?_ | refine guardD_intro ?_ ?_) <;> (intro hd; have hc := hd; (try simp at hc) <;> (try simp -implicitDefEqProofs [-loopQ_n, hd, hc]))) | (refine ldD_ep ?_ ?_; (focus kernel_rfl); (try simp -implicitDefEqProofs [-loopQ_n])))))
    refine callG_intro (hgr.weaken ?_)
    rintro _ _ ⟨rfl, rfl⟩
    ((try simp -implicitDefEqProofs [-loopQ_n]) <;> (repeat' (first | ((first | refine condD_dec ?_ ?_ | refine guardD_dec ?_ ?_) <;> (intro hc; (try simp -implicitDefEqProofs [-loopQ_n, hc]))) | ((first | refine condD_intro ?_ ?_ | refine guardD_intro ?_ ?_) <;> (intro hd; have hc := hd; (try simp at hc) <;> (try simp -implicitDefEqProofs [-loopQ_n, hd, hc]))) | (refine ldD_ep ?_ ?_; (focus kernel_rfl); (try simp -implicitDefEqProofs [-loopQ_n])))))
    have e0 : List.replicate n zRw = rowsOf rwC (ls.take 0).flatten ++ List.replicate (n - szL ls 0) zRw := by simp [szL_zero, rowsOf_nil]
    refine loop_intro (σ := Nat) (fun i => ⟨[(6, if i < ls.length then .ow 0 n 0 (szL ls i) else .os 0 n), (25, .rs (rowsOf (lstC rwC) ls)), (26, .int .i64 ls.length), (27, .int .i64 i)], [.row 85 false (rowsOf rwC (ls.take i).flatten ++ List.replicate (n - szL ls i) zRw)]⟩)
      (fun i => i ≤ ls.length) (fun i => ls.length - i) 0 (by simp) ?_ ?_
    · have hlp : 0 < ls.length := by
        cases ls with
        | nil => exact absurd rfl hne
        | cons a b => simp
      rw [if_pos hlp]
      refine weak_of 1 0 rfl rfl ?_ ?_
      · simp [lst_refs, szL_zero]
      · rw [← e0]; simp [zRw, refsR, refs]
    intro i hi
    have hsz := szL_len (ls := ls) (i := i)
    have hle := szL_le (ls := ls) (i := i)
    by_cases h : i < ls.length
    · have w1 : wrapI .i64 ((i : Int) + 1) = (i : Int) + 1 := wrap_in (by omega) (by omega)
      have hs := szL_succ h
      have hle2 := szL_le (ls := ls) (i := i + 1)
      have hp := putR_zeros (f := rwC) (z := zRw) (l := (ls.take i).flatten) (y := ls[i]) (n := n) hsz.symm rfl (by omega)
      rw [← flat_succ h, ← hs] at hp
      have hln : (rowsOf rwC (ls.take i).flatten ++ List.replicate (n - szL ls i) zRw).length = n := by rw [List.length_append, rowsOf_length, List.length_replicate, ← hsz]; omega
      have hk : szL ls (i + 1) ≤ n := by omega
      generalize hA : rowsOf rwC (ls.take i).flatten ++ List.replicate (n - szL ls i) zRw = A at *
      generalize hk1 : szL ls (i + 1) = k1 at *
      rw [if_pos h]
      ((try simp -implicitDefEqProofs [-loopQ_n, h, w1, lstC, rw_all4, hln, hk, hp, ← hs]) <;> (repeat' (first | ((first | refine condD_dec ?_ ?_ | refine guardD_dec ?_ ?_) <;> (intro hc; (try simp -implicitDefEqProofs [-loopQ_n, hc, h, w1, lstC, rw_all4, hln, hk, hp, ← hs]))) | ((first | refine condD_intro ?_ ?_ | refine guardD_intro ?_ ?_) <;> (intro hd; have hc := hd; (try simp at hc) <;> (try simp -implicitDefEqProofs [-loopQ_n, hd, hc, h, w1, lstC, rw_all4, hln, hk, hp, ← hs]))) | (refine ldD_ep ?_ ?_; (focus kernel_rfl); (try simp -implicitDefEqProofs [-loopQ_n, h, w1, lstC, rw_all4, hln, hk, hp, ← hs])))))
      refine loop_next (i + 1) (by omega) (by omega) ?_
      split
      · refine weak_of 1 0 rfl rfl ?_ ?_
        · simp [w1, lst_refs, hk1]
        · simp [hk1, zeros_refs]
      · have e2 : i + 1 = ls.length := by omega
        have e3 : k1 = n := by rw [← hk1, e2, szL_all, hnn]
        subst e3
        refine weak_of 1 0 rfl rfl ?_ ?_
        · have hk0 : 0 < k1 := by omega
          have e2i : (i : Int) + 1 = ls.length := by omega
          simp [w1, lst_refs, hk1, hk0, e2i]
          exact ⟨0, k1, ⟨rfl, rfl⟩, hk0, rfl⟩
        · simp [hk1, zeros_refs, rws_refs]
    · have hin : i = ls.length := by omega
      subst hin
      rw [szL_all, hnn, List.take_length, Nat.sub_self, List.replicate_zero, List.append_nil]
      have ht : (rowsOf rwC ls.flatten).take n = rowsOf rwC ls.flatten := List.take_of_length_le (by rw [rowsOf_length, hnn]; exact Nat.le_refl _)
      rw [if_neg h]
      have hal : ((rowsOf rwC ls.flatten).all fun r => r.all fun x => !owns x) = true := by
        rw [List.all_eq_true]
        intro r hr
        rw [List.all_eq_true]
        intro x hx
        simp [rw_own r hr x hx]
      ((try simp -implicitDefEqProofs [-loopQ_n, h, hnn, endF]) <;> (repeat' (first | ((first | refine condD_dec ?_ ?_ | refine guardD_dec ?_ ?_) <;> (intro hc; (try simp -implicitDefEqProofs [-loopQ_n, hc, h, hnn, endF]))) | ((first | refine condD_intro ?_ ?_ | refine guardD_intro ?_ ?_) <;> (intro hd; have hc := hd; (try simp at hc) <;> (try simp -implicitDefEqProofs [-loopQ_n, hd, hc, h, hnn, endF]))) | (refine ldD_ep ?_ ?_; (focus kernel_rfl); (try simp -implicitDefEqProofs [-loopQ_n, h, hnn, endF])))))
      all_goals exact fun r hr x hx => rw_own r hr x hx
end Go.Proofs.YthemglpccpjokaaGreat
