/- The rows that are never hit (both sides). -/
import Derived.Test.YthemglpccpjokaaGreatM7
namespace Go.Proofs.YthemglpccpjokaaGreat
set_option linter.unusedSimpArgs false
set_option linter.unusedVariables false
set_option linter.unnecessarySimpa false
set_option linter.unusedSectionVars false
open Go.RowKit
variable [Glob]
set_option maxRecDepth 100000
def uC (b : Bool) : List AV := [.bool b]
def stepH (F : List Bool) (H : List Int) : List Bool := H.foldl (fun F h => F.set h.toNat true) F
def flagsU (d : Dec) (k : Nat) : List Bool := ((allA d.inputs).take k).foldl (fun F v => stepH F (hitsL d v)) (List.replicate d.rows.length false)
def unL : List Bool → Nat → List Int
  | [], _ => []
  | b :: r, i => (if b = true then [] else [(i : Int)]) ++ unL r (i + 1)
def unusedO (d : Dec) : AV := if faultE d = 0 then .tup [.rs (rowsOf intC (unL (flagsU d (allA d.inputs).length) 0)), .int .i64 0] else .tup [.rs [], .int .i64 (faultE d)]
theorem stepH_len (F : List Bool) (H : List Int) : (stepH F H).length = F.length := by
  induction H generalizing F with
  | nil => rfl
  | cons h H ih => simp only [stepH, List.foldl_cons] at ih ⊢; rw [ih]; simp
theorem stepH_snoc (F : List Bool) (H : List Int) (h : Int) : stepH F (H ++ [h]) = (stepH F H).set h.toNat true := by simp [stepH]
theorem flags_len (d : Dec) : ∀ k, (flagsU d k).length = d.rows.length := by
  intro k
  have key : ∀ (L : List (List Val)) (F : List Bool), (L.foldl (fun F v => stepH F (hitsL d v)) F).length = F.length := by
    intro L
    induction L with
    | nil => intro F; rfl
    | cons v L ih => intro F; rw [List.foldl_cons, ih, stepH_len]
  rw [flagsU, key]; simp
theorem flags_succ {d : Dec} {k : Nat} (h : k < (allA d.inputs).length) : flagsU d (k + 1) = stepH (flagsU d k) (hitsL d (allA d.inputs)[k]) := by
  rw [flagsU, List.take_succ_eq_append_getElem h, List.foldl_append]; rfl
theorem flags_zero (d : Dec) : rowsOf uC (flagsU d 0) = List.replicate d.rows.length [AV.bool false] := by simp [flagsU, rowsOf, uC]
theorem uC_set {F : List Bool} {i : Nat} : (rowsOf uC F).set i [.bool true] = rowsOf uC (F.set i true) := by simp [rowsOf, uC, List.map_set]
theorem uC_refs {m : Nat} {l : List Bool} : refsR m (rowsOf uC l) = true := rowsOf_refs fun x => by simp [uC, refs]
theorem rep_refs {n m : Nat} : refsR m (List.replicate n [AV.bool false]) = true := by
  have := uC_refs (m := m) (l := List.replicate n false)
  simpa [rowsOf, uC] using this
theorem uC_len {l : List Bool} : (rowsOf uC l).length = l.length := rowsOf_length
set_option maxHeartbeats 16000000 in
theorem runused_pure (d : Dec) (hs : szD d) : Pure Tryz.prog 17 [.agg (decC d)] (unusedO d) := by
  have hse := rfault_pure d hs
  simp only [decC] at hse
  unfold unusedO
  by_cases e : faultE d = 0
  rotate_left
  · rw [if_neg e]
    refine pure_of mixed Tryz.func17 rfl (by kernel_rfl) (of_decide_eq_true rfl) (by kernel_rfl) (vc_run ?_)
    ((try simp -implicitDefEqProofs [-loopQ_n, decC, e, ints_nil]) <;> (repeat' (first | ((first | refine condD_dec ?_ ?_ | refine guardD_dec ?_ ?_) <;> (intro hc; (try simp -implicitDefEqProofs [-loopQ_n, hc, decC, e, ints_nil]))) | (refine callS_mk ?_; (try simp -implicitDefEqProofs [-loopQ_n, decC, e, ints_nil]); (first | refine callS_intro (hse) (.inl rfl) ?_); (try simp -implicitDefEqProofs [-loopQ_n, decC, e, ints_nil])))))
  obtain ⟨hd, _⟩ := faultE_ok e
  have hdm := doms_mem (dec_facts hd).1
  have hrl := (dec_facts hd).2.2.2.2.1
  have hfi := rfirst_pure d.inputs hs.1 hdm
  have hr8 : (d.rows.length : Int) ≤ 1073741824 := by omega
  rw [if_pos e]
  rw [e] at hse
  refine pure_of mixed Tryz.func17 rfl (by kernel_rfl) (of_decide_eq_true rfl) (by kernel_rfl) (vc_run ?_)
  ((try simp -implicitDefEqProofs [-loopQ_n, decC, hr8]) <;> (repeat' (first | ((first | refine condD_dec ?_ ?_ | refine guardD_dec ?_ ?_) <;> (intro hc; (try simp -implicitDefEqProofs [-loopQ_n, hc, decC, hr8]))) | (refine callS_mk ?_; (try simp -implicitDefEqProofs [-loopQ_n, decC, hr8]); (first | refine callS_intro (hse) (.inl rfl) ?_ | refine callS_intro (hfi) (.inr ⟨rfl, rfl⟩) ?_); (try simp -implicitDefEqProofs [-loopQ_n, decC, hr8])))))
  refine loop_intro (σ := Nat) (fun k => ⟨[(1, .op 0 0), (5, .os 1 d.rows.length), (6, curA d.inputs k), (7, morA d.inputs k)], [.box 29 (decC d), .row 4 false (rowsOf uC (flagsU d k))]⟩)
    (fun k => k ≤ (allA d.inputs).length) (fun k => (allA d.inputs).length - k) 0 (by simp) ?_ ?_
  · refine weak_of 2 0 rfl rfl ?_ ?_ <;> simp [decC, cur0 hdm, flags_zero, rep_refs]
  rintro i hi
  by_cases h : i < (allA d.inputs).length
  · obtain ⟨hma, hmv⟩ := allA_mem hdm _ (List.getElem_mem h)
    have hvl := ass_len hma
    have hh := rhits_pure d (allA d.inputs)[i] hs.2.2.1 (rows_sz hs hd hvl)
    have hnx := cur_next hs.1 hdm h
    have hfs := flags_succ h
    have hlt := hits_lt d.rows (allA d.inputs)[i] 0
    have hln := hits_len d (allA d.inputs)[i]
    have hle := outs_le d (allA d.inputs)[i]
    have hfl := flags_len d i
    simp only [decC] at hh
    obtain ⟨Hl, hHl⟩ : ∃ x, hitsL d (allA d.inputs)[i] = x := ⟨_, rfl⟩
    rw [show hitsA d.rows (allA d.inputs)[i] 0 = hitsL d (allA d.inputs)[i] from rfl] at hlt
    rw [hHl] at hh hfs hlt hln
    generalize flagsU d i = F at hfs hfl ⊢
    ((try simp -implicitDefEqProofs [-loopQ_n, curA_at h, morA_at h, decC]) <;> (repeat' (first | ((first | refine condD_dec ?_ ?_ | refine guardD_dec ?_ ?_) <;> (intro hc; (try simp -implicitDefEqProofs [-loopQ_n, hc, curA_at h, morA_at h, decC]))) | (refine callS_mk ?_; (try simp -implicitDefEqProofs [-loopQ_n, curA_at h, morA_at h, decC]); (first | refine callS_intro (hh) (.inr ⟨rfl, rfl⟩) ?_); (try simp -implicitDefEqProofs [-loopQ_n, curA_at h, morA_at h, decC])))))
    refine loop_intro (σ := Nat) (fun j => ⟨[(1, .op 0 0), (5, .os 1 d.rows.length), (6, .rs (rowsOf valC (allA d.inputs)[i])), (8, .rs (rowsOf intC Hl)), (9, .int .i64 j)], [.box 29 (decC d), .row 4 false (rowsOf uC (stepH F (Hl.take j)))]⟩)
      (fun j => j ≤ Hl.length) (fun j => Hl.length - j) 0 (by simp) ?_ ?_
    · refine weak_of 2 0 rfl rfl ?_ ?_ <;> simp [decC, stepH, uC_refs]
    rintro j hj
    by_cases g : j < Hl.length
    · have w2 := w_succB g (by omega)
      obtain ⟨l1, l2⟩ := hlt _ (List.getElem_mem g)
      obtain ⟨m, hm⟩ : ∃ m : Nat, Hl[j] = (m : Int) := ⟨Hl[j].toNat, by omega⟩
      have hml : m < d.rows.length := by omega
      have hst : stepH F (Hl.take (j + 1)) = (stepH F (Hl.take j)).set m true := by
        rw [List.take_succ_eq_append_getElem g, stepH_snoc, hm]; simp
      have hsl : (stepH F (Hl.take j)).length = d.rows.length := by rw [stepH_len]; exact hfl
      generalize stepH F (Hl.take j) = G at hst hsl ⊢
      ((try simp -implicitDefEqProofs [-loopQ_n, g, hm, intC, w2, hml, hsl, uC_len, uC]) <;> (repeat' (first | ((first | refine condD_dec ?_ ?_ | refine guardD_dec ?_ ?_) <;> (intro hc; (try simp -implicitDefEqProofs [-loopQ_n, hc, g, hm, intC, w2, hml, hsl, uC_len, uC]))))))
      refine loop_next (j + 1) (by omega) (by omega) (weak_of 2 0 rfl rfl ?_ ?_) <;> simp [w2, decC, hst, uC_set, uC_refs]
    · rw [List.take_of_length_le (by omega)]
      ((try simp -implicitDefEqProofs [-loopQ_n, g, decC]) <;> (repeat' (first | ((first | refine condD_dec ?_ ?_ | refine guardD_dec ?_ ?_) <;> (intro hc; (try simp -implicitDefEqProofs [-loopQ_n, hc, g, decC]))) | (refine callS_mk ?_; (try simp -implicitDefEqProofs [-loopQ_n, g, decC]); (first | refine callS_intro (hnx) (.inr ⟨rfl, rfl⟩) ?_); (try simp -implicitDefEqProofs [-loopQ_n, g, decC])))))
      refine loop_next (i + 1) (by omega) (by omega) (weak_of 2 0 rfl rfl ?_ ?_) <;> simp [decC, curA_refs, morA_refs, hfs, uC_refs]
  · have he : i = (allA d.inputs).length := by omega
    subst he
    have hfl := flags_len d (allA d.inputs).length
    generalize flagsU d (allA d.inputs).length = F at hfl ⊢
    ((try simp -implicitDefEqProofs [-loopQ_n, curA_end h, morA_end h]) <;> (repeat' (first | ((first | refine condD_dec ?_ ?_ | refine guardD_dec ?_ ?_) <;> (intro hc; (try simp -implicitDefEqProofs [-loopQ_n, hc, curA_end h, morA_end h]))))))
    refine loop_intro (σ := Nat × List Int) (fun x => ⟨[(5, .os 1 d.rows.length), (10, .os 2 x.2.length), (11, .int .i64 x.1)], [.gone, .row 4 false (rowsOf uC F), .row 3 true (rowsOf intC x.2)]⟩)
      (fun x => x.1 ≤ F.length ∧ x.2.length ≤ x.1 ∧ x.2 ++ unL (F.drop x.1) x.1 = unL F 0) (fun x => F.length - x.1) (0, []) ⟨by simp, by simp, by simp⟩ ?_ ?_
    · refine weak_of 2 1 rfl rfl ?_ ?_ <;> simp [uC_refs]
    rintro ⟨j, acc⟩ ⟨hj, hal, hR⟩
    simp only at hj hal hR
    by_cases g : j < F.length
    · have gr : j < d.rows.length := by omega
      have w2 := w_succB g (by omega)
      have ha8 : acc.length + 1 ≤ 1073741824 := by omega
      obtain ⟨b, hb⟩ : ∃ b, F[j] = b := ⟨_, rfl⟩
      rw [List.drop_eq_getElem_cons g, hb, unL] at hR
      cases b with
      | true =>
        rw [if_pos rfl] at hR
        ((try simp -implicitDefEqProofs [-loopQ_n, g, gr, hb, uC, uC_len, hfl, w2]) <;> (repeat' (first | ((first | refine condD_dec ?_ ?_ | refine guardD_dec ?_ ?_) <;> (intro hc; (try simp -implicitDefEqProofs [-loopQ_n, hc, g, gr, hb, uC, uC_len, hfl, w2]))))))
        refine loop_next (j + 1, acc) ⟨by simp only; omega, by simp only; omega, by simpa using hR⟩ (by simp only; omega) (weak_of 3 0 rfl rfl ?_ ?_) <;> simp [w2, uC_refs, ints_refs]
      | false =>
        rw [if_neg (by simp)] at hR
        ((try simp -implicitDefEqProofs [-loopQ_n, g, gr, hb, uC, uC_len, hfl, w2, ha8]) <;> (repeat' (first | ((first | refine condD_dec ?_ ?_ | refine guardD_dec ?_ ?_) <;> (intro hc; (try simp -implicitDefEqProofs [-loopQ_n, hc, g, gr, hb, uC, uC_len, hfl, w2, ha8]))))))
        refine loop_next (j + 1, acc ++ [(j : Int)]) ⟨by simp only; omega, by simp; omega, by simp only; rw [← hR]; simp⟩ (by simp only; omega) (weak_of 3 0 rfl rfl ?_ ?_) <;> simp [w2, ints_snoc, uC_refs, ints_refs]
    · have gr : ¬ j < d.rows.length := by omega
      rw [List.drop_eq_nil_of_le (by omega)] at hR
      simp only [unL, List.append_nil] at hR
      ((try simp -implicitDefEqProofs [-loopQ_n, g, gr, uC_len, hfl, ints_reify, hR]) <;> (repeat' (first | ((first | refine condD_dec ?_ ?_ | refine guardD_dec ?_ ?_) <;> (intro hc; (try simp -implicitDefEqProofs [-loopQ_n, hc, g, gr, uC_len, hfl, ints_reify, hR]))))))
set_option maxHeartbeats 16000000 in
theorem unused_pure (d : Dec) (hs : szD d) : Pure Tryz.prog 16 [.agg (decC d)] (unusedO d) := by
  have hse := searchable_pure d hs
  simp only [decC] at hse
  unfold unusedO
  by_cases e : faultE d = 0
  rotate_left
  · rw [if_neg e]
    refine pure_of mixed Tryz.func16 rfl (by kernel_rfl) (of_decide_eq_true rfl) (by kernel_rfl) (vc_run ?_)
    ((try simp -implicitDefEqProofs [-loopQ_n, decC, e, ints_nil]) <;> (repeat' (first | ((first | refine condD_dec ?_ ?_ | refine guardD_dec ?_ ?_) <;> (intro hc; (try simp -implicitDefEqProofs [-loopQ_n, hc, decC, e, ints_nil]))) | (refine callS_mk ?_; (try simp -implicitDefEqProofs [-loopQ_n, decC, e, ints_nil]); (first | refine callS_intro (hse) (.inl rfl) ?_); (try simp -implicitDefEqProofs [-loopQ_n, decC, e, ints_nil])))))
  obtain ⟨hd, _⟩ := faultE_ok e
  have hdm := (dec_facts hd).1
  have hrl := (dec_facts hd).2.2.2.2.1
  have hr8 : (d.rows.length : Int) ≤ 1073741824 := by omega
  rw [if_pos e]
  rw [e] at hse
  refine pure_of mixed Tryz.func16 rfl (by kernel_rfl) (of_decide_eq_true rfl) (by kernel_rfl) (vc_run ?_)
  ((try simp -implicitDefEqProofs [-loopQ_n, decC, hr8]) <;> (repeat' (first | ((first | refine condD_dec ?_ ?_ | refine guardD_dec ?_ ?_) <;> (intro hc; (try simp -implicitDefEqProofs [-loopQ_n, hc, decC, hr8]))) | (refine callS_mk ?_; (try simp -implicitDefEqProofs [-loopQ_n, decC, hr8]); (first | refine callS_intro (hse) (.inl rfl) ?_); (try simp -implicitDefEqProofs [-loopQ_n, decC, hr8])))))
  refine inl_intro mixed Tryz.func52 rfl (by kernel_rfl) (of_decide_eq_true rfl) (by kernel_rfl) ?_
  ((try simp -implicitDefEqProofs [-loopQ_n]) <;> (repeat' (first | ((first | refine condD_dec ?_ ?_ | refine guardD_dec ?_ ?_) <;> (intro hc; (try simp -implicitDefEqProofs [-loopQ_n, hc]))))))
  refine endG_r (.fn 96 [.op 3 0]) (by simp) ?_
  simp -implicitDefEqProofs [contK]
  ((try simp -implicitDefEqProofs [-loopQ_n]) <;> (repeat' (first | ((first | refine condD_dec ?_ ?_ | refine guardD_dec ?_ ?_) <;> (intro hc; (try simp -implicitDefEqProofs [-loopQ_n, hc]))))))
  refine rngD_weak (s' := ⟨[(1, .op 0 0), (5, .op 2 0), (23, .fn 96 [.rp [.rs (rowsOf domC d.inputs)]])], [.box 29 (decC d), .row 4 false (rowsOf uC (flagsU d 0)), .box 99 [.os 1 d.rows.length], .gone]⟩) ((weak_frb 3 22 [.rs (rowsOf domC d.inputs)] rfl (by simp)).trans (weak_of 4 0 rfl rfl (by simp [fbA, fbL]) (by simp [fbH, fbB, fbL, fbA, decC, flags_zero, rep_refs]))) ?_
  refine range_intro mixed rfl rfl (all_iter d.inputs hdm hs.1) (fun _ => True) (fun k => [.box 29 (decC d), .row 4 false (rowsOf uC (flagsU d k)), .box 99 [.os 1 d.rows.length], .gone]) trivial rfl (fun _ => rfl) (by kernel_rfl) (by kernel_rfl) (fun i hi _ => ?_) fun _ => ?_
  · obtain ⟨hma, hmv⟩ := allA_mem (doms_mem hdm) _ (List.getElem_mem hi)
    rw [asgA_at hi]
    have hvl := ass_len hma
    have hh := hits_pure d (allA d.inputs)[i] hs.2.2.1 (rows_sz hs hd hvl)
    have hfs := flags_succ hi
    have hlt := hits_lt d.rows (allA d.inputs)[i] 0
    have hln := hits_len d (allA d.inputs)[i]
    have hle := outs_le d (allA d.inputs)[i]
    have hfl := flags_len d i
    simp only [decC] at hh
    obtain ⟨Hl, hHl⟩ : ∃ x, hitsL d (allA d.inputs)[i] = x := ⟨_, rfl⟩
    rw [show hitsA d.rows (allA d.inputs)[i] 0 = hitsL d (allA d.inputs)[i] from rfl] at hlt
    rw [hHl] at hh hfs hlt hln
    rw [hfs]
    generalize flagsU d i = F at hfs hfl ⊢
    ((try simp -implicitDefEqProofs [-loopQ_n]) <;> (repeat' (first | ((first | refine condD_dec ?_ ?_ | refine guardD_dec ?_ ?_) <;> (intro hc; (try simp -implicitDefEqProofs [-loopQ_n, hc]))))))
    rw [rngA_n]
    refine ⟨rfl, ?_⟩
    ((try simp -implicitDefEqProofs [-loopQ_n, decC]) <;> (repeat' (first | ((first | refine condD_dec ?_ ?_ | refine guardD_dec ?_ ?_) <;> (intro hc; (try simp -implicitDefEqProofs [-loopQ_n, hc, decC]))) | (refine callS_mk ?_; (try simp -implicitDefEqProofs [-loopQ_n, decC]); (first | refine callS_intro (hh) (.inr ⟨rfl, rfl⟩) ?_); (try simp -implicitDefEqProofs [-loopQ_n, decC])))))
    refine loop_intro (σ := Nat) (fun j => ⟨[(5, .op 2 0), (27, .rs (rowsOf intC Hl)), (28, .int .i64 Hl.length), (29, .int .i64 j)], [.box 29 (decC d), .row 4 false (rowsOf uC (stepH F (Hl.take j))), .box 99 [.os 1 d.rows.length], .gone]⟩)
      (fun j => j ≤ Hl.length) (fun j => Hl.length - j) 0 (by simp) ?_ ?_
    · refine weak_ofL 4 0 rfl (by simp) rfl ?_ ?_ <;> simp [decC, stepH, uC_refs]
    rintro j hj
    by_cases g : j < Hl.length
    · have w2 := w_succB g (by omega)
      obtain ⟨l1, l2⟩ := hlt _ (List.getElem_mem g)
      obtain ⟨m, hm⟩ : ∃ m : Nat, Hl[j] = (m : Int) := ⟨Hl[j].toNat, by omega⟩
      have hml : m < d.rows.length := by omega
      have hst : stepH F (Hl.take (j + 1)) = (stepH F (Hl.take j)).set m true := by
        rw [List.take_succ_eq_append_getElem g, stepH_snoc, hm]; simp
      have hsl : (stepH F (Hl.take j)).length = d.rows.length := by rw [stepH_len]; exact hfl
      generalize stepH F (Hl.take j) = G at hst hsl ⊢
      ((try simp -implicitDefEqProofs [-loopQ_n, g, hm, intC, w2, hml, hsl, uC_len, uC]) <;> (repeat' (first | ((first | refine condD_dec ?_ ?_ | refine guardD_dec ?_ ?_) <;> (intro hc; (try simp -implicitDefEqProofs [-loopQ_n, hc, g, hm, intC, w2, hml, hsl, uC_len, uC]))))))
      refine loop_next (j + 1) (by omega) (by omega) (weak_ofL 4 0 rfl (by simp) rfl ?_ ?_) <;> simp [w2, decC, hst, uC_set, uC_refs]
    · rw [List.take_of_length_le (by omega)]
      ((try simp -implicitDefEqProofs [-loopQ_n, g, decC]) <;> (repeat' (first | ((first | refine condD_dec ?_ ?_ | refine guardD_dec ?_ ?_) <;> (intro hc; (try simp -implicitDefEqProofs [-loopQ_n, hc, g, decC]))))))
      refine rng_next [] trivial (weak_ofL 4 0 rfl (by simp) rfl ?_ ?_) <;> simp [decC, uC_refs]
  · have hfl := flags_len d (allA d.inputs).length
    generalize flagsU d (allA d.inputs).length = F at hfl ⊢
    ((try simp -implicitDefEqProofs [-loopQ_n, uC_len, hfl]) <;> (repeat' (first | ((first | refine condD_dec ?_ ?_ | refine guardD_dec ?_ ?_) <;> (intro hc; (try simp -implicitDefEqProofs [-loopQ_n, hc, uC_len, hfl]))))))
    refine loop_intro (σ := Nat × List Int) (fun x => ⟨[(9, .os 4 x.2.length), (37, .os 1 d.rows.length), (38, .int .i64 d.rows.length), (39, .int .i64 x.1)], [.gone, .row 4 false (rowsOf uC F), .gone, .gone, .row 3 true (rowsOf intC x.2)]⟩)
      (fun x => x.1 ≤ F.length ∧ x.2.length ≤ x.1 ∧ x.2 ++ unL (F.drop x.1) x.1 = unL F 0) (fun x => F.length - x.1) (0, []) ⟨by simp, by simp, by simp⟩ ?_ ?_
    · refine weak_of 4 1 rfl rfl ?_ ?_ <;> simp [uC_refs]
    rintro ⟨j, acc⟩ ⟨hj, hal, hR⟩
    simp only at hj hal hR
    by_cases g : j < F.length
    · have gr : j < d.rows.length := by omega
      have w2 := w_succB g (by omega)
      have ha8 : acc.length + 1 ≤ 1073741824 := by omega
      obtain ⟨b, hb⟩ : ∃ b, F[j] = b := ⟨_, rfl⟩
      rw [List.drop_eq_getElem_cons g, hb, unL] at hR
      cases b with
      | true =>
        rw [if_pos rfl] at hR
        ((try simp -implicitDefEqProofs [-loopQ_n, g, gr, hb, uC, uC_len, hfl, w2]) <;> (repeat' (first | ((first | refine condD_dec ?_ ?_ | refine guardD_dec ?_ ?_) <;> (intro hc; (try simp -implicitDefEqProofs [-loopQ_n, hc, g, gr, hb, uC, uC_len, hfl, w2]))))))
        refine loop_next (j + 1, acc) ⟨by simp only; omega, by simp only; omega, by simpa using hR⟩ (by simp only; omega) (weak_of 5 0 rfl rfl ?_ ?_) <;> simp [w2, uC_refs, ints_refs]
      | false =>
        rw [if_neg (by simp)] at hR
        ((try simp -implicitDefEqProofs [-loopQ_n, g, gr, hb, uC, uC_len, hfl, w2, ha8]) <;> (repeat' (first | ((first | refine condD_dec ?_ ?_ | refine guardD_dec ?_ ?_) <;> (intro hc; (try simp -implicitDefEqProofs [-loopQ_n, hc, g, gr, hb, uC, uC_len, hfl, w2, ha8]))))))
        refine loop_next (j + 1, acc ++ [(j : Int)]) ⟨by simp only; omega, by simp; omega, by simp only; rw [← hR]; simp⟩ (by simp only; omega) (weak_of 5 0 rfl rfl ?_ ?_) <;> simp [w2, ints_snoc, uC_refs, ints_refs]
    · have gr : ¬ j < d.rows.length := by omega
      rw [List.drop_eq_nil_of_le (by omega)] at hR
      simp only [unL, List.append_nil] at hR
      ((try simp -implicitDefEqProofs [-loopQ_n, g, gr, uC_len, hfl, ints_reify, hR]) <;> (repeat' (first | ((first | refine condD_dec ?_ ?_ | refine guardD_dec ?_ ?_) <;> (intro hc; (try simp -implicitDefEqProofs [-loopQ_n, hc, g, gr, uC_len, hfl, ints_reify, hR]))))))
end Go.Proofs.YthemglpccpjokaaGreat
