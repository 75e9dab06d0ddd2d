/- Several texts of the abstract machine, one behind the other. -/
import Derived.Test.YthemglpccpjokaaGreatM7
import Derived.Test.YthemglpccpjokaaGreatM4
set_option linter.unusedSimpArgs false
set_option linter.unusedVariables false
set_option linter.unnecessarySimpa false
set_option linter.unusedSectionVars false
set_option maxRecDepth 100000
namespace Go.Proofs.YthemglpccpjokaaGreat
open Go.RowKit
variable [Glob]
theorem dom_items {x : Dom} (h : domV x = true) : x.items.length ≤ 1000000 := by
  rcases dom_kind h with ⟨_, _, _, q⟩ | k | ⟨_, _, q, _⟩
  · rw [q]; simp
  · rw [(dom_num h k).2.2.2.2]; simp
  · omega
def woA : List Rw → Int → Nat → List Rw
  | [], _, _ => []
  | r :: l, w, i => (if (i : Int) = w then [] else [r]) ++ woA l w (i + 1)
theorem woA_none {l : List Rw} {w : Int} : ∀ i : Nat, w < i → woA l w i = l := by
  induction l with
  | nil => intro i _; rfl
  | cons r l ih => intro i h; rw [woA, if_neg (by omega), ih (i + 1) (by omega)]; rfl
theorem woA_at {l : List Rw} : ∀ (j i : Nat), woA l ((i + j : Nat) : Int) i = l.eraseIdx j := by
  induction l with
  | nil => intro j i; simp [woA]
  | cons r l ih =>
    intro j i
    cases j with
    | zero => rw [woA, if_pos (by simp), woA_none (i + 1) (by simp; omega)]; simp
    | succ j =>
      rw [woA, if_neg (by omega), show i + (j + 1) = (i + 1) + j by omega, ih j (i + 1)]
      simp
theorem woA_zero (l : List Rw) (j : Nat) : woA l j 0 = l.eraseIdx j := by
  have := woA_at (l := l) j 0
  rwa [Nat.zero_add] at this
theorem str_own {L : List ByteArray} : ∀ r ∈ rowsOf strC L, ∀ c ∈ r, owns c = false := by
  intro r hr c hc
  simp only [rowsOf, List.mem_map] at hr
  obtain ⟨x, _, rfl⟩ := hr
  simp only [strC, List.mem_cons, List.not_mem_nil, or_false] at hc
  subst hc; rfl
theorem dom_own {L : List Dom} : ∀ r ∈ rowsOf domC L, ∀ c ∈ r, owns c = false := by
  intro r hr c hc
  simp only [rowsOf, List.mem_map] at hr
  obtain ⟨x, _, rfl⟩ := hr
  simp only [domC, List.mem_cons, List.not_mem_nil, or_false] at hc
  rcases hc with rfl | rfl | rfl | rfl | rfl <;> rfl
theorem tst_own {L : List Tst} : ∀ r ∈ rowsOf tstC L, ∀ c ∈ r, owns c = false := by
  intro r hr c hc
  simp only [rowsOf, List.mem_map] at hr
  obtain ⟨x, _, rfl⟩ := hr
  simp only [tstC, List.mem_cons, List.not_mem_nil, or_false] at hc
  rcases hc with rfl | rfl | rfl | rfl | rfl | rfl | rfl <;> rfl
theorem rw_own {L : List Rw} : ∀ r ∈ rowsOf rwC L, ∀ c ∈ r, owns c = false := by
  intro r hr c hc
  simp only [rowsOf, List.mem_map] at hr
  obtain ⟨x, _, rfl⟩ := hr
  simp only [rwC, List.mem_cons, List.not_mem_nil, or_false] at hc
  rcases hc with rfl | rfl | rfl | rfl <;> rfl
theorem doms_refs {m : Nat} {l : List Dom} : refsR m (rowsOf domC l) = true := rowsOf_refs fun x => by simp [domC, refs]
theorem tsts_refs {m : Nat} {l : List Tst} : refsR m (rowsOf tstC l) = true := rowsOf_refs fun x => by simp [tstC, refs]
theorem rws_refs {m : Nat} {l : List Rw} : refsR m (rowsOf rwC l) = true := rowsOf_refs fun x => by simp [rwC, refs]
theorem strs_refs {m : Nat} {l : List ByteArray} : refsR m (rowsOf strC l) = true := rowsOf_refs fun x => by simp [strC, refs]
theorem dom_snoc {l : List Dom} {x : Dom} : rowsOf domC l ++ [[.str x.name, .int .i64 x.kind, .int .i64 x.low, .int .i64 x.high, .rs (rowsOf strC x.items)]] = rowsOf domC (l ++ [x]) := by simp [rowsOf, domC]
theorem tst_snoc {l : List Tst} {t : Tst} : rowsOf tstC l ++ [[.int .i64 t.kind, .int .i64 t.v.kind, .int .i64 t.v.n, .str t.v.s, .int .i64 t.low, .int .i64 t.high, .rs (rowsOf valC t.items)]] = rowsOf tstC (l ++ [t]) := by simp [rowsOf, tstC]
theorem rw_snoc {l : List Rw} {r : Rw} : rowsOf rwC l ++ [[.rs (rowsOf tstC r.tests), .int .i64 r.out.kind, .int .i64 r.out.n, .str r.out.s]] = rowsOf rwC (l ++ [r]) := by simp [rowsOf, rwC]
theorem strs_all1 {l : List ByteArray} : allLen 1 (rowsOf strC l) = true := rowsOf_allLen fun x => rfl
theorem fr_doms {i : Nat} {R : List (List AV)} {l : List Dom} : (rowsOf domC l).map (frL i R) = rowsOf domC l := by simp [rowsOf, domC, frL, frA]
theorem fr_tsts {i : Nat} {R : List (List AV)} {l : List Tst} : (rowsOf tstC l).map (frL i R) = rowsOf tstC l := by simp [rowsOf, tstC, frL, frA]
theorem fr_rws {i : Nat} {R : List (List AV)} {l : List Rw} : (rowsOf rwC l).map (frL i R) = rowsOf rwC l := by simp [rowsOf, rwC, frL, frA]
theorem nn_doms {l : List Dom} {r : List (List AV)} : nnR (rowsOf domC l ++ r) = rowsOf domC l ++ nnR r := by simp [nnR, rowsOf, domC, nnA]
theorem nn_tsts {l : List Tst} {r : List (List AV)} : nnR (rowsOf tstC l ++ r) = rowsOf tstC l ++ nnR r := by simp [nnR, rowsOf, tstC, nnA]
set_option maxHeartbeats 64000000 in
theorem copied_pure (d : Dec) (w : Int) (hs : szD d) (hi : ∀ x ∈ d.inputs, x.items.length ≤ 1000000) (ho : d.out.items.length ≤ 1000000) : Pure Tryz.prog 70 [.agg (decC d), .int .i64 w] (.agg (decC ⟨d.inputs, d.out, d.hit, woA d.rows w 0, d.order⟩)) := by
  obtain ⟨s1, s2, s3, s4⟩ := hs
  obtain ⟨ins, ⟨on, ok, ol, oh, oi⟩, hit, rows, order⟩ := d
  simp only at s1 s2 s3 s4 hi ho ⊢
  generalize hRES : AV.agg (decC ⟨ins, ⟨on, ok, ol, oh, oi⟩, hit, woA rows w 0, order⟩) = RES
  refine pure_of mixed Tryz.func70 rfl (by kernel_rfl) (of_decide_eq_true rfl) (by kernel_rfl) (vc_run ?_)
  ((try simp -implicitDefEqProofs [-loopQ_n, decC]) <;> (repeat' (first | ((first | refine condD_dec ?_ ?_ | refine guardD_dec ?_ ?_) <;> (intro hc; (try simp -implicitDefEqProofs [-loopQ_n, hc, decC]))))))
  refine loop_intro (σ := Nat) (fun k => if k < ins.length then ⟨[(1, .int .i64 w), (2, .op 0 0), (4, .op 1 0), (5, .op 2 0), (16, .rs (rowsOf domC ins)), (17, .int .i64 ins.length), (18, .int .i64 k)], [.box 29 (decC ⟨ins, ⟨on, ok, ol, oh, oi⟩, hit, rows, order⟩), .box 29 [.nils, .str ByteArray.empty, .int .i64 0, .int .i64 0, .int .i64 0, .nils, .int .i64 0, .nils, .nils], .box 29 [.os 3 k, .str on, .int .i64 ok, .int .i64 ol, .int .i64 oh, .rs (rowsOf strC oi), .int .i64 hit, .rs (rowsOf rwC rows), .rs (rowsOf valC order)], .row 25 true (rowsOf domC (ins.take k))]⟩
      else ⟨[(1, .int .i64 w), (2, .op 0 0), (4, .op 1 0), (5, .op 2 0), (16, .rs (rowsOf domC ins)), (17, .int .i64 ins.length), (18, .int .i64 k)], [.box 29 (decC ⟨ins, ⟨on, ok, ol, oh, oi⟩, hit, rows, order⟩), .box 29 [.nils, .str ByteArray.empty, .int .i64 0, .int .i64 0, .int .i64 0, .nils, .int .i64 0, .nils, .nils], .box 29 [.rs (rowsOf domC ins), .str on, .int .i64 ok, .int .i64 ol, .int .i64 oh, .rs (rowsOf strC oi), .int .i64 hit, .rs (rowsOf rwC rows), .rs (rowsOf valC order)]]⟩)
    (fun k => k ≤ ins.length) (fun k => ins.length - k) 0 (by simp) ?_ ?_
  · split
    · refine weak_of 3 1 rfl rfl ?_ ?_ <;> simp [decC]
    · have : ins = [] := List.eq_nil_of_length_eq_zero (by omega)
      subst this
      refine weak_of 3 0 rfl rfl ?_ ?_ <;> simp [decC, rowsOf]
  rintro k hk
  by_cases h : k < ins.length
  · have w1 := w_succB h (by omega)
    have hil := hi _ (List.getElem_mem h)
    have htk : ins.take (k + 1) = ins.take k ++ [ins[k]] := by rw [List.take_append_getElem h]
    obtain ⟨x, hf⟩ : ∃ e, ins[k] = e := ⟨_, rfl⟩
    rw [hf] at hil htk
    have hmn : min k ins.length = k := by omega
    have hk8 : k + 1 ≤ 1073741824 := by omega
    have hi8 : x.items.length ≤ 1073741824 := by omega
    simp only [h, if_true]
    by_cases hx : x.items = []
    · have hsn : rowsOf domC (ins.take k) ++ [[.str x.name, .int .i64 x.kind, .int .i64 x.low, .int .i64 x.high, .rs []]] = rowsOf domC (ins.take k ++ [x]) := by rw [← dom_snoc, hx]; rfl
      ((try simp -implicitDefEqProofs [-loopQ_n, h, hf, domC, decC, strs_all1, hx, w1, rowsOf_nil, hmn, hk8]) <;> (repeat' (first | ((first | refine condD_dec ?_ ?_ | refine guardD_dec ?_ ?_) <;> (intro hc; (try simp -implicitDefEqProofs [-loopQ_n, hc, h, hf, domC, decC, strs_all1, hx, w1, rowsOf_nil, hmn, hk8]))))))
      refine loop_next (k + 1) (by omega) (by omega) ((weak_nn 3 25 true (rowsOf domC (ins.take k) ++ [[.str x.name, .int .i64 x.kind, .int .i64 x.low, .int .i64 x.high, .nils]]) rfl).trans ?_)
      rw [nn_doms]
      simp only [nnR, nnA, List.map_cons, List.map_nil, hsn]
      split
      · refine weak_of 4 0 rfl rfl ?_ ?_ <;> simp [w1, decC, htk, doms_refs]
      · have e2 : k + 1 = ins.length := by omega
        have e : ins = ins.take k ++ [x] := by rw [← htk, List.take_of_length_le (by omega)]
        refine (weak_frz 3 25 true (rowsOf domC (ins.take k ++ [x])) (by simp) dom_own).trans ?_
        refine weak_of 3 0 rfl rfl ?_ ?_ <;> simp [frH, frB, frL, frA, w1, decC, ← e, e2, doms_refs, strs_refs, rws_refs, vals_refs]
        all_goals omega
    · have hsn : rowsOf domC (ins.take k) ++ [[.str x.name, .int .i64 x.kind, .int .i64 x.low, .int .i64 x.high, .rs (rowsOf strC x.items)]] = rowsOf domC (ins.take k ++ [x]) := dom_snoc
      ((try simp -implicitDefEqProofs [-loopQ_n, h, hf, domC, decC, strs_all1, hx, hi8, w1, hmn, hk8]) <;> (repeat' (first | ((first | refine condD_dec ?_ ?_ | refine guardD_dec ?_ ?_) <;> (intro hc; (try simp -implicitDefEqProofs [-loopQ_n, hc, h, hf, domC, decC, strs_all1, hx, hi8, w1, hmn, hk8]))))))
      refine loop_next (k + 1) (by omega) (by omega) ((weak_frz 5 9 false (rowsOf strC x.items) rfl str_own).trans ?_)
      split
      · refine weak_of 4 0 rfl rfl ?_ ?_ <;> simp [frH, frB, frL, frA, w1, decC, htk, fr_doms, hsn, doms_refs]
      · have e2 : k + 1 = ins.length := by omega
        have e : ins = ins.take k ++ [x] := by rw [← htk, List.take_of_length_le (by omega)]
        refine (weak_frz 3 25 true (rowsOf domC (ins.take k ++ [x])) (by simp [frH, frB, frL, frA, fr_doms, hsn]) dom_own).trans ?_
        refine weak_of 3 0 rfl rfl ?_ ?_ <;> simp [frH, frB, frL, frA, w1, decC, ← e, e2, doms_refs, strs_refs, rws_refs, vals_refs]
        all_goals omega
  simp only [h, if_false]
  have ho8 : oi.length ≤ 1073741824 := by omega
  have hr8 : order.length ≤ 1073741824 := by omega
  apply cutP
  · intro cont
    by_cases hoi : oi = []
    · by_cases hor : order = []
      · ((try simp -implicitDefEqProofs [-loopQ_n, h, decC, strs_all1, vals_all3, hoi, hor, rowsOf_nil]) <;> (repeat' (first | ((first | refine condD_dec ?_ ?_ | refine guardD_dec ?_ ?_) <;> (intro hc; (try simp -implicitDefEqProofs [-loopQ_n, hc, h, decC, strs_all1, vals_all3, hoi, hor, rowsOf_nil]))))))
        refine loop_weak (s' := ⟨[(1, .int .i64 w), (4, .op 1 0), (5, .op 2 0), (45, .rs (rowsOf rwC rows)), (46, .int .i64 rows.length), (47, .int .i64 0)], [.gone, .box 29 [.nils, .str ByteArray.empty, .int .i64 0, .int .i64 0, .int .i64 0, .nils, .int .i64 0, .nils, .nils], .box 29 [.rs (rowsOf domC ins), .str on, .int .i64 ok, .int .i64 ol, .int .i64 oh, .rs (rowsOf strC oi), .int .i64 hit, .nils, .rs (rowsOf valC order)]]⟩) (weak_of 3 0 rfl rfl ?_ ?_) cont <;> simp [hoi, hor, rowsOf_nil, doms_refs]
      · ((try simp -implicitDefEqProofs [-loopQ_n, h, decC, strs_all1, vals_all3, hoi, hor, hr8, rowsOf_nil]) <;> (repeat' (first | ((first | refine condD_dec ?_ ?_ | refine guardD_dec ?_ ?_) <;> (intro hc; (try simp -implicitDefEqProofs [-loopQ_n, hc, h, decC, strs_all1, vals_all3, hoi, hor, hr8, rowsOf_nil]))))))
        refine loop_weak ((weak_frz 3 49 false (rowsOf valC order) rfl val_own).trans (weak_of 3 0 rfl rfl ?_ ?_)) cont <;> simp [frH, frB, frL, frA, hoi, rowsOf_nil, doms_refs]
    · by_cases hor : order = []
      · ((try simp -implicitDefEqProofs [-loopQ_n, h, decC, strs_all1, vals_all3, hoi, hor, ho8, rowsOf_nil]) <;> (repeat' (first | ((first | refine condD_dec ?_ ?_ | refine guardD_dec ?_ ?_) <;> (intro hc; (try simp -implicitDefEqProofs [-loopQ_n, hc, h, decC, strs_all1, vals_all3, hoi, hor, ho8, rowsOf_nil]))))))
        refine loop_weak ((weak_frz 3 9 false (rowsOf strC oi) rfl str_own).trans (weak_of 3 0 rfl rfl ?_ ?_)) cont <;> simp [frH, frB, frL, frA, hor, rowsOf_nil, doms_refs]
      · ((try simp -implicitDefEqProofs [-loopQ_n, h, decC, strs_all1, vals_all3, hoi, hor, ho8, hr8, rowsOf_nil]) <;> (repeat' (first | ((first | refine condD_dec ?_ ?_ | refine guardD_dec ?_ ?_) <;> (intro hc; (try simp -implicitDefEqProofs [-loopQ_n, hc, h, decC, strs_all1, vals_all3, hoi, hor, ho8, hr8, rowsOf_nil]))))))
        refine loop_weak ((weak_frz 3 9 false (rowsOf strC oi) rfl str_own).trans ((weak_frz 4 49 false (rowsOf valC order) (by simp [frH, frB, frL, frA, valC, rowsOf]) val_own).trans (weak_of 3 0 rfl rfl ?_ ?_))) cont <;> simp [frH, frB, frL, frA, doms_refs]
  refine loop_intro (σ := Nat × List Rw) (fun x => if x.1 < rows.length then ⟨[(1, .int .i64 w), (4, .op 1 0), (5, .op 2 0), (45, .rs (rowsOf rwC rows)), (46, .int .i64 rows.length), (47, .int .i64 x.1)], [.gone, .box 29 [.nils, .str ByteArray.empty, .int .i64 0, .int .i64 0, .int .i64 0, .nils, .int .i64 0, .nils, .nils], .box 29 [.rs (rowsOf domC ins), .str on, .int .i64 ok, .int .i64 ol, .int .i64 oh, .rs (rowsOf strC oi), .int .i64 hit, .os 3 x.2.length, .rs (rowsOf valC order)], .row 85 true (rowsOf rwC x.2)]⟩ else ⟨[(1, .int .i64 w), (4, .op 1 0), (5, .op 2 0), (45, .rs (rowsOf rwC rows)), (46, .int .i64 rows.length), (47, .int .i64 x.1)], [.gone, .box 29 [.nils, .str ByteArray.empty, .int .i64 0, .int .i64 0, .int .i64 0, .nils, .int .i64 0, .nils, .nils], .box 29 [.rs (rowsOf domC ins), .str on, .int .i64 ok, .int .i64 ol, .int .i64 oh, .rs (rowsOf strC oi), .int .i64 hit, .rs (rowsOf rwC x.2), .rs (rowsOf valC order)]]⟩)
    (fun x => x.1 ≤ rows.length ∧ x.2.length ≤ x.1 ∧ x.2 ++ woA (rows.drop x.1) w x.1 = woA rows w 0) (fun x => rows.length - x.1) (0, []) ⟨by simp, by simp, by simp⟩ ?_ ?_
  · split
    · refine weak_of 3 1 rfl rfl ?_ ?_ <;> simp [doms_refs]
    · refine weak_of 3 0 rfl rfl ?_ ?_ <;> simp [rowsOf_nil]
  rintro ⟨k, acc⟩ ⟨hk', hal, hR⟩
  simp only at hk' hal hR ⊢
  by_cases h2 : k < rows.length
  rotate_left
  · simp only [h2, if_false]
    rw [List.drop_eq_nil_of_le (by omega), woA, List.append_nil] at hR
    subst hR
    ((try simp -implicitDefEqProofs [-loopQ_n, h2]) <;> (repeat' (first | ((first | refine condD_dec ?_ ?_ | refine guardD_dec ?_ ?_) <;> (intro hc; (try simp -implicitDefEqProofs [-loopQ_n, hc, h2]))))))
    rw [← hRES]
    rfl
  have w2 := w_succB h2 (by omega)
  have hrm := s4 _ (List.getElem_mem h2)
  obtain ⟨⟨ts, out⟩, hf⟩ : ∃ e, rows[k] = e := ⟨_, rfl⟩
  rw [hf] at hrm
  simp only at hrm
  rw [List.drop_eq_getElem_cons h2, hf, woA] at hR
  have ha8 : acc.length + 1 ≤ 1073741824 := by omega
  simp only [h2, if_true]
  by_cases hw : (k : Int) = w
  · rw [if_pos hw, List.nil_append] at hR
    subst hw
    ((try simp -implicitDefEqProofs [-loopQ_n, h2, hf, rwC, w2]) <;> (repeat' (first | ((first | refine condD_dec ?_ ?_ | refine guardD_dec ?_ ?_) <;> (intro hc; (try simp -implicitDefEqProofs [-loopQ_n, hc, h2, hf, rwC, w2]))))))
    refine loop_next (k + 1, acc) ⟨by simp only; omega, by simp only; omega, hR⟩ (by simp only; omega) ?_
    simp only
    split
    · refine weak_of 4 0 rfl rfl ?_ ?_ <;> simp [w2, rws_refs]
    · refine (weak_frz 3 85 true (rowsOf rwC acc) rfl rw_own).trans ?_
      refine weak_of 3 0 rfl rfl ?_ ?_ <;> simp [frH, frB, frL, frA, w2]
  rw [if_neg hw] at hR
  ((try simp -implicitDefEqProofs [-loopQ_n, h2, hf, rwC, hw]) <;> (repeat' (first | ((first | refine condD_dec ?_ ?_ | refine guardD_dec ?_ ?_) <;> (intro hc; (try simp -implicitDefEqProofs [-loopQ_n, hc, h2, hf, rwC, hw]))))))
  refine loop_intro (σ := Nat) (fun j => if j < ts.length then ⟨[(1, .int .i64 w), (4, .op 1 0), (5, .op 2 0), (10, .op 5 0), (45, .rs (rowsOf rwC rows)), (46, .int .i64 rows.length), (47, .int .i64 k), (59, .rs (rowsOf tstC ts)), (60, .int .i64 ts.length), (61, .int .i64 j)], [.gone, .box 29 [.nils, .str ByteArray.empty, .int .i64 0, .int .i64 0, .int .i64 0, .nils, .int .i64 0, .nils, .nils], .box 29 [.rs (rowsOf domC ins), .str on, .int .i64 ok, .int .i64 ol, .int .i64 oh, .rs (rowsOf strC oi), .int .i64 hit, .os 3 acc.length, .rs (rowsOf valC order)], .row 85 true (rowsOf rwC acc), .gone, .box 85 [.os 6 j, .int .i64 out.kind, .int .i64 out.n, .str out.s], .row 72 true (rowsOf tstC (ts.take j))]⟩ else ⟨[(1, .int .i64 w), (4, .op 1 0), (5, .op 2 0), (10, .op 5 0), (45, .rs (rowsOf rwC rows)), (46, .int .i64 rows.length), (47, .int .i64 k), (59, .rs (rowsOf tstC ts)), (60, .int .i64 ts.length), (61, .int .i64 j)], [.gone, .box 29 [.nils, .str ByteArray.empty, .int .i64 0, .int .i64 0, .int .i64 0, .nils, .int .i64 0, .nils, .nils], .box 29 [.rs (rowsOf domC ins), .str on, .int .i64 ok, .int .i64 ol, .int .i64 oh, .rs (rowsOf strC oi), .int .i64 hit, .os 3 acc.length, .rs (rowsOf valC order)], .row 85 true (rowsOf rwC acc), .gone, .box 85 [.rs (rowsOf tstC ts), .int .i64 out.kind, .int .i64 out.n, .str out.s]]⟩)
    (fun j => j ≤ ts.length) (fun j => ts.length - j) 0 (by simp) ?_ ?_
  · split
    · refine weak_of 6 1 rfl rfl ?_ ?_ <;> simp [doms_refs, rws_refs]
    · have : ts = [] := List.eq_nil_of_length_eq_zero (by omega)
      subst this
      refine weak_of 6 0 rfl rfl ?_ ?_ <;> simp [rowsOf_nil, rws_refs]
  rintro j hj
  by_cases g : j < ts.length
  · have w3 := w_succB g (by omega)
    have hil := hrm.2 _ (List.getElem_mem g)
    have htk : ts.take (j + 1) = ts.take j ++ [ts[j]] := by rw [List.take_append_getElem g]
    obtain ⟨t, ht⟩ : ∃ e, ts[j] = e := ⟨_, rfl⟩
    rw [ht] at hil htk
    have hmn : min j ts.length = j := by omega
    have hj8 : j + 1 ≤ 1073741824 := by omega
    have hi8 : t.items.length ≤ 1073741824 := by omega
    simp only [g, if_true]
    by_cases hx : t.items = []
    · have hsn : rowsOf tstC (ts.take j) ++ [[.int .i64 t.kind, .int .i64 t.v.kind, .int .i64 t.v.n, .str t.v.s, .int .i64 t.low, .int .i64 t.high, .rs []]] = rowsOf tstC (ts.take j ++ [t]) := by rw [← tst_snoc, hx]; rfl
      ((try simp -implicitDefEqProofs [-loopQ_n, g, ht, tstC, vals_all3, hx, w3, rowsOf_nil, hmn, hj8]) <;> (repeat' (first | ((first | refine condD_dec ?_ ?_ | refine guardD_dec ?_ ?_) <;> (intro hc; (try simp -implicitDefEqProofs [-loopQ_n, hc, g, ht, tstC, vals_all3, hx, w3, rowsOf_nil, hmn, hj8]))))))
      refine loop_next (j + 1) (by omega) (by omega) ((weak_nn 6 72 true (rowsOf tstC (ts.take j) ++ [[.int .i64 t.kind, .int .i64 t.v.kind, .int .i64 t.v.n, .str t.v.s, .int .i64 t.low, .int .i64 t.high, .nils]]) rfl).trans ?_)
      rw [nn_tsts]
      simp only [nnR, nnA, List.map_cons, List.map_nil, hsn]
      split
      · refine weak_of 7 0 rfl rfl ?_ ?_ <;> simp [w3, htk, tsts_refs, rws_refs]
      · have e2 : j + 1 = ts.length := by omega
        have e : ts = ts.take j ++ [t] := by rw [← htk, List.take_of_length_le (by omega)]
        refine (weak_frz 6 72 true (rowsOf tstC (ts.take j ++ [t])) (by simp) tst_own).trans ?_
        refine weak_of 6 0 rfl rfl ?_ ?_ <;> simp [frH, frB, frL, frA, w3, ← e, e2, fr_rws, rws_refs]
        all_goals omega
    · have hsn : rowsOf tstC (ts.take j) ++ [[.int .i64 t.kind, .int .i64 t.v.kind, .int .i64 t.v.n, .str t.v.s, .int .i64 t.low, .int .i64 t.high, .rs (rowsOf valC t.items)]] = rowsOf tstC (ts.take j ++ [t]) := tst_snoc
      ((try simp -implicitDefEqProofs [-loopQ_n, g, ht, tstC, vals_all3, hx, hi8, w3, hmn, hj8]) <;> (repeat' (first | ((first | refine condD_dec ?_ ?_ | refine guardD_dec ?_ ?_) <;> (intro hc; (try simp -implicitDefEqProofs [-loopQ_n, hc, g, ht, tstC, vals_all3, hx, hi8, w3, hmn, hj8]))))))
      refine loop_next (j + 1) (by omega) (by omega) ((weak_frz 8 49 false (rowsOf valC t.items) rfl val_own).trans ?_)
      split
      · refine weak_of 7 0 rfl rfl ?_ ?_ <;> simp [frH, frB, frL, frA, w3, htk, fr_tsts, fr_rws, hsn, tsts_refs, rws_refs]
      · have e2 : j + 1 = ts.length := by omega
        have e : ts = ts.take j ++ [t] := by rw [← htk, List.take_of_length_le (by omega)]
        refine (weak_frz 6 72 true (rowsOf tstC (ts.take j ++ [t])) (by simp [frH, frB, frL, frA, fr_tsts, hsn]) tst_own).trans ?_
        refine weak_of 6 0 rfl rfl ?_ ?_ <;> simp [frH, frB, frL, frA, w3, ← e, e2, fr_rws, rws_refs]
        all_goals omega
  simp only [g, if_false]
  have hsn : rowsOf rwC acc ++ [[.rs (rowsOf tstC ts), .int .i64 out.kind, .int .i64 out.n, .str out.s]] = rowsOf rwC (acc ++ [⟨ts, out⟩]) := by simp [rowsOf, rwC]
  ((try simp -implicitDefEqProofs [-loopQ_n, g, ha8, w2]) <;> (repeat' (first | ((first | refine condD_dec ?_ ?_ | refine guardD_dec ?_ ?_) <;> (intro hc; (try simp -implicitDefEqProofs [-loopQ_n, hc, g, ha8, w2]))))))
  refine loop_next (k + 1, acc ++ [⟨ts, out⟩]) ⟨by simp only; omega, by simp; omega, by simp only; rw [← hR]; simp⟩ (by simp only; omega) ?_
  simp only
  split
  · refine weak_of 4 0 rfl rfl ?_ ?_ <;> simp [w2, hsn, rws_refs]
  · refine (weak_frz 3 85 true (rowsOf rwC (acc ++ [⟨ts, out⟩])) (by simp [hsn]) rw_own).trans ?_
    refine weak_of 3 0 rfl rfl ?_ ?_ <;> simp [frH, frB, frL, frA, w2]
end Go.Proofs.YthemglpccpjokaaGreat
namespace Go.Proofs.YthemglpccpjokaaGreat
open Go.RowKit
variable [Glob]
theorem rws_reify {H : List Blk} {n : Nat} {l : List Rw} : (rowsOf rwC l).mapM (fun row => row.mapM (reify H (n + 1))) = some (rowsOf rwC l) := rowsOf_reify fun x => by simp [rwC, reify]
set_option maxHeartbeats 8000000 in
theorem without_pure (d : Dec) (w : Int) (hl : d.rows.length ≤ 1000000) : Pure Tryz.prog 39 [.agg (decC d), .int .i64 w] (.agg (decC ⟨d.inputs, d.out, d.hit, woA d.rows w 0, d.order⟩)) := by
  generalize hRES : AV.agg (decC ⟨d.inputs, d.out, d.hit, woA d.rows w 0, d.order⟩) = RES
  obtain ⟨ins, ⟨on, ok, ol, oh, oi⟩, hit, rows, order⟩ := d
  simp only at hl hRES
  refine pure_of mixed Tryz.func39 rfl (by kernel_rfl) (of_decide_eq_true rfl) (by kernel_rfl) (vc_run ?_)
  ((try simp -implicitDefEqProofs [-loopQ_n, decC]) <;> (repeat' (first | ((first | refine condD_dec ?_ ?_ | refine guardD_dec ?_ ?_) <;> (intro hc; (try simp -implicitDefEqProofs [-loopQ_n, hc, decC]))))))
  refine loop_intro (σ := Nat × List Rw) (fun x => ⟨[(1, .int .i64 w), (2, .op 0 0), (4, .op 1 0), (5, .os 2 x.2.length), (6, .int .i64 x.1)], [.box 29 [.rs (rowsOf domC ins), .str on, .int .i64 ok, .int .i64 ol, .int .i64 oh, .rs (rowsOf strC oi), .int .i64 hit, .rs (rowsOf rwC rows), .rs (rowsOf valC order)], .box 29 [.nils, .str ByteArray.empty, .int .i64 0, .int .i64 0, .int .i64 0, .nils, .int .i64 0, .nils, .nils], .row 85 true (rowsOf rwC x.2)]⟩)
    (fun x => x.1 ≤ rows.length ∧ x.2.length ≤ x.1 ∧ x.2 ++ woA (rows.drop x.1) w x.1 = woA rows w 0) (fun x => rows.length - x.1) (0, []) ⟨by simp, by simp, by simp⟩ ?_ ?_
  · refine weak_of 2 1 rfl rfl ?_ ?_ <;> simp
  rintro ⟨k, acc⟩ ⟨hk, hal, hR⟩
  simp only at hk hal hR
  by_cases h : k < rows.length
  · have w1 := w_succB h (by omega)
    have ha8 : acc.length + 1 ≤ 1073741824 := by omega
    obtain ⟨⟨ts, out⟩, hf⟩ : ∃ e, rows[k] = e := ⟨_, rfl⟩
    rw [List.drop_eq_getElem_cons h, hf, woA] at hR
    have hsn : rowsOf rwC acc ++ [[.rs (rowsOf tstC ts), .int .i64 out.kind, .int .i64 out.n, .str out.s]] = rowsOf rwC (acc ++ [⟨ts, out⟩]) := by simp [rowsOf, rwC]
    by_cases hw : (k : Int) = w
    · rw [if_pos hw, List.nil_append] at hR
      subst hw
      ((try simp -implicitDefEqProofs [-loopQ_n, h, w1]) <;> (repeat' (first | ((first | refine condD_dec ?_ ?_ | refine guardD_dec ?_ ?_) <;> (intro hc; (try simp -implicitDefEqProofs [-loopQ_n, hc, h, w1]))))))
      refine loop_next (k + 1, acc) ⟨by simp only; omega, by simp only; omega, hR⟩ (by simp only; omega) (weak_of 3 0 rfl rfl ?_ ?_) <;> simp [w1, rws_refs]
    · rw [if_neg hw] at hR
      ((try simp -implicitDefEqProofs [-loopQ_n, h, hf, rwC, hw, w1, ha8]) <;> (repeat' (first | ((first | refine condD_dec ?_ ?_ | refine guardD_dec ?_ ?_) <;> (intro hc; (try simp -implicitDefEqProofs [-loopQ_n, hc, h, hf, rwC, hw, w1, ha8]))))))
      refine loop_next (k + 1, acc ++ [⟨ts, out⟩]) ⟨by simp only; omega, by simp; omega, by simp only; rw [← hR]; simp⟩ (by simp only; omega) (weak_of 3 0 rfl rfl ?_ ?_) <;> simp [w1, hsn, rws_refs]
  · rw [List.drop_eq_nil_of_le (by omega), woA, List.append_nil] at hR
    subst hR
    ((try simp -implicitDefEqProofs [-loopQ_n, h, rws_reify]) <;> (repeat' (first | ((first | refine condD_dec ?_ ?_ | refine guardD_dec ?_ ?_) <;> (intro hc; (try simp -implicitDefEqProofs [-loopQ_n, hc, h, rws_reify]))))))
    rw [← hRES]
    rfl
theorem sz_sub {d : Dec} (hs : szD d) {R : List Rw} (h : List.Sublist R d.rows) : szD (withR d R) := ⟨hs.1, hs.2.1, Nat.le_trans h.length_le hs.2.2.1, fun r hr => hs.2.2.2 r (h.subset hr)⟩
def zeroD : Dec := ⟨[], ⟨ByteArray.empty, 0, 0, 0, []⟩, 0, [], []⟩
def compO (d : Dec) : AV := if faultE d = 0 then .tup [.agg (decC (compD d)), .int .i64 0] else .tup [.agg (decC zeroD), .int .i64 (faultE d)]
theorem differ_iff {a b : Dec} : differO a b = (match differA a b with | some v => .tup [.rs (rowsOf valC v), .bool true] | none => .tup [.rs [], .bool false]) := rfl
set_option maxHeartbeats 8000000 in
theorem rcompress_pure (d : Dec) (hs : szD d) : Pure Tryz.prog 30 [.agg (decC d)] (compO d) := by
  have hse := rfault_pure d hs
  simp only [decC] at hse
  unfold compO
  by_cases e : faultE d = 0
  rotate_left
  · rw [if_neg e]
    refine pure_of mixed Tryz.func30 rfl (by kernel_rfl) (of_decide_eq_true rfl) (by kernel_rfl) (vc_run ?_)
    ((try simp -implicitDefEqProofs [-loopQ_n, decC, e, zeroD, rowsOf_nil]) <;> (repeat' (first | ((first | refine condD_dec ?_ ?_ | refine guardD_dec ?_ ?_) <;> (intro hc; (try simp -implicitDefEqProofs [-loopQ_n, hc, decC, e, zeroD, rowsOf_nil]))) | (refine callS_mk ?_; (try simp -implicitDefEqProofs [-loopQ_n, decC, e, zeroD, rowsOf_nil]); (first | refine callS_intro (hse) (.inl rfl) ?_); (try simp -implicitDefEqProofs [-loopQ_n, decC, e, zeroD, rowsOf_nil])))))
  obtain ⟨hd, _⟩ := faultE_ok e
  have hrl := (dec_facts hd).2.2.2.2.1
  rw [if_pos e]
  rw [e] at hse
  generalize hRES : AV.agg (decC (compD d)) = RES
  have w0 : wrapI .i64 ((d.rows.length : Int) - 1) = (d.rows.length : Int) - 1 := wrap_in (by omega) (by omega)
  refine pure_of mixed Tryz.func30 rfl (by kernel_rfl) (of_decide_eq_true rfl) (by kernel_rfl) (vc_run ?_)
  ((try simp -implicitDefEqProofs [-loopQ_n, decC, w0]) <;> (repeat' (first | ((first | refine condD_dec ?_ ?_ | refine guardD_dec ?_ ?_) <;> (intro hc; (try simp -implicitDefEqProofs [-loopQ_n, hc, decC, w0]))) | (refine callS_mk ?_; (try simp -implicitDefEqProofs [-loopQ_n, decC, w0]); (first | refine callS_intro (hse) (.inl rfl) ?_); (try simp -implicitDefEqProofs [-loopQ_n, decC, w0])))))
  refine loop_intro (σ := Nat × List Rw) (fun x => ⟨[(1, .op 0 0), (2, .op 1 0), (5, .int .i64 ((x.1 : Int) - 1))], [.box 29 (decC (withR d x.2)), .box 29 [.nils, .str ByteArray.empty, .int .i64 0, .int .i64 0, .int .i64 0, .nils, .int .i64 0, .nils, .nils]]⟩)
    (fun x => x.1 ≤ x.2.length ∧ List.Sublist x.2 d.rows ∧ cmpG d x.1 x.2 = cmpG d d.rows.length d.rows) (fun x => x.1) (d.rows.length, d.rows) ⟨by simp, by simp, by simp⟩ ?_ ?_
  · refine weak_of 2 0 rfl rfl ?_ ?_ <;> simp [decC, withR]
  rintro ⟨m, R⟩ ⟨hm, hsub, hG⟩
  simp only at hm hsub hG
  have hlen := hsub.length_le
  cases m with
  | zero =>
    have hC : R = cmpG d d.rows.length d.rows := by rw [← hG]; rfl
    have hn : ¬ (0 : Int) ≤ -1 := by omega
    rw [← hRES, compD, ← hC]
    ((try simp -implicitDefEqProofs [-loopQ_n, hn, decC, withR]) <;> (repeat' (first | ((first | refine condD_dec ?_ ?_ | refine guardD_dec ?_ ?_) <;> (intro hc; (try simp -implicitDefEqProofs [-loopQ_n, hc, hn, decC, withR]))))))
  | succ i =>
    have hsub2 : List.Sublist (R.eraseIdx i) d.rows := (List.eraseIdx_sublist ..).trans hsub
    have hw := without_pure (withR d R) (i : Int) (by simp only [withR]; omega)
    have hdf := rdiffer_pure (withR d R) (withR d (R.eraseIdx i)) (sz_sub hs hsub) (sz_sub hs hsub2) (dec_sub hd hsub) (dec_sub hd hsub2) rfl
    rw [show woA (withR d R).rows i 0 = R.eraseIdx i from woA_zero R i] at hw
    simp only [decC, withR] at hw hdf
    have a1 : ((i + 1 : Nat) : Int) - 1 = i := by omega
    have a2 : wrapI .i64 ((i : Int) - 1) = (i : Int) - 1 := wrap_in (by omega) (by omega)
    have a3 : (0 : Int) ≤ i := by omega
    have hlE : (R.eraseIdx i).length = R.length - 1 := List.length_eraseIdx_of_lt (by omega)
    rw [a1]
    rw [cmpG] at hG
    have hD : differA (withR d R) (withR d (R.eraseIdx i)) = differA ⟨d.inputs, d.out, d.hit, R, d.order⟩ ⟨d.inputs, d.out, d.hit, R.eraseIdx i, d.order⟩ := rfl
    rw [hD] at hG
    unfold differO at hdf
    cases hq : differA ⟨d.inputs, d.out, d.hit, R, d.order⟩ ⟨d.inputs, d.out, d.hit, R.eraseIdx i, d.order⟩ with
    | none =>
      rw [hq] at hdf hG
      rw [if_pos rfl] at hG
      ((try simp -implicitDefEqProofs [-loopQ_n, a2, a3, decC, withR]) <;> (repeat' (first | ((first | refine condD_dec ?_ ?_ | refine guardD_dec ?_ ?_) <;> (intro hc; (try simp -implicitDefEqProofs [-loopQ_n, hc, a2, a3, decC, withR]))) | (refine callS_mk ?_; (try simp -implicitDefEqProofs [-loopQ_n, a2, a3, decC, withR]); (first | refine callS_intro (hw) (.inr ⟨rfl, rfl⟩) ?_ | refine callS_intro (hdf) (.inr ⟨rfl, rfl⟩) ?_); (try simp -implicitDefEqProofs [-loopQ_n, a2, a3, decC, withR])))))
      refine loop_next (i, R.eraseIdx i) ⟨by simp only; omega, hsub2, hG⟩ (by simp only; omega) (weak_of 2 0 rfl rfl ?_ ?_) <;> simp [a2, decC, withR]
    | some v =>
      rw [hq] at hdf hG
      rw [if_neg (by simp)] at hG
      ((try simp -implicitDefEqProofs [-loopQ_n, a2, a3, decC, withR]) <;> (repeat' (first | ((first | refine condD_dec ?_ ?_ | refine guardD_dec ?_ ?_) <;> (intro hc; (try simp -implicitDefEqProofs [-loopQ_n, hc, a2, a3, decC, withR]))) | (refine callS_mk ?_; (try simp -implicitDefEqProofs [-loopQ_n, a2, a3, decC, withR]); (first | refine callS_intro (hw) (.inr ⟨rfl, rfl⟩) ?_ | refine callS_intro (hdf) (.inr ⟨rfl, rfl⟩) ?_); (try simp -implicitDefEqProofs [-loopQ_n, a2, a3, decC, withR])))))
      refine loop_next (i, R) ⟨by simp only; omega, hsub, hG⟩ (by simp only; omega) (weak_of 2 0 rfl rfl ?_ ?_) <;> simp [a2, decC, withR]
set_option maxHeartbeats 8000000 in
theorem compress_pure (d : Dec) (hs : szD d) : Pure Tryz.prog 29 [.agg (decC d)] (compO d) := by
  have hse := searchable_pure d hs
  simp only [decC] at hse
  unfold compO
  by_cases e : faultE d = 0
  rotate_left
  · rw [if_neg e]
    refine pure_of mixed Tryz.func29 rfl (by kernel_rfl) (of_decide_eq_true rfl) (by kernel_rfl) (vc_run ?_)
    ((try simp -implicitDefEqProofs [-loopQ_n, decC, e, zeroD, rowsOf_nil]) <;> (repeat' (first | ((first | refine condD_dec ?_ ?_ | refine guardD_dec ?_ ?_) <;> (intro hc; (try simp -implicitDefEqProofs [-loopQ_n, hc, decC, e, zeroD, rowsOf_nil]))) | (refine callS_mk ?_; (try simp -implicitDefEqProofs [-loopQ_n, decC, e, zeroD, rowsOf_nil]); (first | refine callS_intro (hse) (.inl rfl) ?_); (try simp -implicitDefEqProofs [-loopQ_n, decC, e, zeroD, rowsOf_nil])))))
  obtain ⟨hd, _⟩ := faultE_ok e
  have hrl := (dec_facts hd).2.2.2.2.1
  have hit0 : ∀ {R : List Rw}, List.Sublist R d.rows → ∀ w : Int, Pure Tryz.prog 70 [.agg (decC (withR d R)), .int .i64 w] (.agg (decC (withR d (woA R w 0)))) := fun {R} hR w =>
    copied_pure (withR d R) w (sz_sub hs hR) (fun x hx => dom_items (doms_mem (dec_facts hd).1 x hx)) (dom_items (dec_facts hd).2.1)
  have hc0 := hit0 (List.Sublist.refl _) (-1)
  rw [woA_none 0 (by omega)] at hc0
  simp only [decC, withR] at hc0
  rw [if_pos e]
  rw [e] at hse
  generalize hRES : AV.agg (decC (compD d)) = RES
  have w0 : wrapI .i64 ((d.rows.length : Int) - 1) = (d.rows.length : Int) - 1 := wrap_in (by omega) (by omega)
  refine pure_of mixed Tryz.func29 rfl (by kernel_rfl) (of_decide_eq_true rfl) (by kernel_rfl) (vc_run ?_)
  ((try simp -implicitDefEqProofs [-loopQ_n, decC, w0]) <;> (repeat' (first | ((first | refine condD_dec ?_ ?_ | refine guardD_dec ?_ ?_) <;> (intro hc; (try simp -implicitDefEqProofs [-loopQ_n, hc, decC, w0]))) | (refine callS_mk ?_; (try simp -implicitDefEqProofs [-loopQ_n, decC, w0]); (first | refine callS_intro (hse) (.inl rfl) ?_ | refine callS_intro (hc0) (.inr ⟨rfl, rfl⟩) ?_); (try simp -implicitDefEqProofs [-loopQ_n, decC, w0])))))
  refine loop_intro (σ := Nat × List Rw) (fun x => ⟨[(2, .op 1 0), (5, .op 2 0), (6, .int .i64 ((x.1 : Int) - 1))], [.gone, .box 29 [.nils, .str ByteArray.empty, .int .i64 0, .int .i64 0, .int .i64 0, .nils, .int .i64 0, .nils, .nils], .box 29 (decC (withR d x.2))]⟩)
    (fun x => x.1 ≤ x.2.length ∧ List.Sublist x.2 d.rows ∧ cmpG d x.1 x.2 = cmpG d d.rows.length d.rows) (fun x => x.1) (d.rows.length, d.rows) ⟨by simp, by simp, by simp⟩ ?_ ?_
  · refine weak_of 3 0 rfl rfl ?_ ?_ <;> simp [decC, withR]
  rintro ⟨m, R⟩ ⟨hm, hsub, hG⟩
  simp only at hm hsub hG
  have hlen := hsub.length_le
  cases m with
  | zero =>
    have hC : R = cmpG d d.rows.length d.rows := by rw [← hG]; rfl
    have hn : ¬ (0 : Int) ≤ -1 := by omega
    rw [← hRES, compD, ← hC]
    ((try simp -implicitDefEqProofs [-loopQ_n, hn, decC, withR]) <;> (repeat' (first | ((first | refine condD_dec ?_ ?_ | refine guardD_dec ?_ ?_) <;> (intro hc; (try simp -implicitDefEqProofs [-loopQ_n, hc, hn, decC, withR]))))))
  | succ i =>
    have hsub2 : List.Sublist (R.eraseIdx i) d.rows := (List.eraseIdx_sublist ..).trans hsub
    have hw := hit0 hsub (i : Int)
    have hdf := differ_pure (withR d R) (withR d (R.eraseIdx i)) (sz_sub hs hsub) (sz_sub hs hsub2) (dec_sub hd hsub) (dec_sub hd hsub2) rfl
    rw [woA_zero R i] at hw
    simp only [decC, withR] at hw hdf
    have a1 : ((i + 1 : Nat) : Int) - 1 = i := by omega
    have a2 : wrapI .i64 ((i : Int) - 1) = (i : Int) - 1 := wrap_in (by omega) (by omega)
    have a3 : (0 : Int) ≤ i := by omega
    have hlE : (R.eraseIdx i).length = R.length - 1 := List.length_eraseIdx_of_lt (by omega)
    rw [a1]
    rw [cmpG] at hG
    have hD : differA (withR d R) (withR d (R.eraseIdx i)) = differA ⟨d.inputs, d.out, d.hit, R, d.order⟩ ⟨d.inputs, d.out, d.hit, R.eraseIdx i, d.order⟩ := rfl
    rw [hD] at hG
    unfold differO at hdf
    cases hq : differA ⟨d.inputs, d.out, d.hit, R, d.order⟩ ⟨d.inputs, d.out, d.hit, R.eraseIdx i, d.order⟩ with
    | none =>
      rw [hq] at hdf hG
      rw [if_pos rfl] at hG
      ((try simp -implicitDefEqProofs [-loopQ_n, a2, a3, decC, withR]) <;> (repeat' (first | ((first | refine condD_dec ?_ ?_ | refine guardD_dec ?_ ?_) <;> (intro hc; (try simp -implicitDefEqProofs [-loopQ_n, hc, a2, a3, decC, withR]))) | (refine callS_mk ?_; (try simp -implicitDefEqProofs [-loopQ_n, a2, a3, decC, withR]); (first | refine callS_intro (hw) (.inr ⟨rfl, rfl⟩) ?_ | refine callS_intro (hdf) (.inr ⟨rfl, rfl⟩) ?_); (try simp -implicitDefEqProofs [-loopQ_n, a2, a3, decC, withR])))))
      refine loop_next (i, R.eraseIdx i) ⟨by simp only; omega, hsub2, hG⟩ (by simp only; omega) (weak_of 3 0 rfl rfl ?_ ?_) <;> simp [a2, decC, withR]
    | some v =>
      rw [hq] at hdf hG
      rw [if_neg (by simp)] at hG
      ((try simp -implicitDefEqProofs [-loopQ_n, a2, a3, decC, withR]) <;> (repeat' (first | ((first | refine condD_dec ?_ ?_ | refine guardD_dec ?_ ?_) <;> (intro hc; (try simp -implicitDefEqProofs [-loopQ_n, hc, a2, a3, decC, withR]))) | (refine callS_mk ?_; (try simp -implicitDefEqProofs [-loopQ_n, a2, a3, decC, withR]); (first | refine callS_intro (hw) (.inr ⟨rfl, rfl⟩) ?_ | refine callS_intro (hdf) (.inr ⟨rfl, rfl⟩) ?_); (try simp -implicitDefEqProofs [-loopQ_n, a2, a3, decC, withR])))))
      refine loop_next (i, R) ⟨by simp only; omega, hsub, hG⟩ (by simp only; omega) (weak_of 3 0 rfl rfl ?_ ?_) <;> simp [a2, decC, withR]
end Go.Proofs.YthemglpccpjokaaGreat
namespace Go.Proofs.YthemglpccpjokaaGreat
open Go.RowKit
variable [Glob]
def exD : Dec := ⟨[⟨⟨#[110]⟩, 2, 0, 3, []⟩, ⟨⟨#[111, 107]⟩, 1, 0, 0, []⟩], ⟨⟨#[111, 117, 116]⟩, 2, 0, 5, []⟩, 3, [⟨[⟨3, ⟨0, 0, ByteArray.empty⟩, 0, 1, []⟩, ⟨1, ⟨0, 0, ByteArray.empty⟩, 0, 0, []⟩], ⟨2, 1, ByteArray.empty⟩⟩, ⟨[⟨2, ⟨2, 1, ByteArray.empty⟩, 0, 0, []⟩, ⟨2, ⟨1, 1, ByteArray.empty⟩, 0, 0, []⟩], ⟨2, 2, ByteArray.empty⟩⟩], []⟩
theorem exD_sz : szD exD := by
  refine ⟨by decide, by decide, by decide, ?_⟩
  intro r hr
  simp only [exD, List.mem_cons, List.not_mem_nil, or_false] at hr
  rcases hr with rfl | rfl <;> refine ⟨by decide, ?_⟩ <;> intro t ht <;> simp only [List.mem_cons, List.not_mem_nil, or_false] at ht <;> rcases ht with rfl | rfl <;> decide
theorem exD_ok : decV exD = true := by kernel_rfl
theorem exD_f : faultE exD = 0 := by
  rw [faultE, if_pos exD_ok]
  kernel_rfl
theorem exD_gap : gapF exD = some [⟨2, 2, ByteArray.empty⟩, ⟨1, 0, ByteArray.empty⟩] := by kernel_rfl
theorem exD_over : overF exD = some [⟨2, 1, ByteArray.empty⟩, ⟨1, 1, ByteArray.empty⟩] ∧ (hitsL exD [⟨2, 1, ByteArray.empty⟩, ⟨1, 1, ByteArray.empty⟩]) = [0, 1] := ⟨by kernel_rfl, by kernel_rfl⟩
theorem exD_comp : (compD exD).rows.length = 1 := by kernel_rfl
theorem example_pure : Pure Tryz.prog 42 [.int .i64 3] (.agg (decC exD)) := exF_pure (m := 4096) (n := 20) mixed noHook (by kernel_rfl)
set_option maxHeartbeats 16000000 in
theorem awake_pure : Pure Tryz.prog 10 [] (.bool true) := by
  have he := example_pure
  have hg := gap_pure exD exD_sz
  have ho := over_pure exD exD_sz
  have hc := compress_pure exD exD_sz
  have hl := exD_comp
  rw [gapO, if_pos exD_f, exD_gap] at hg
  rw [overO, if_pos exD_f, exD_over.1] at ho
  simp only [exD_over.2] at ho
  rw [compO, if_pos exD_f] at hc
  obtain ⟨X, hX⟩ : ∃ x, compD exD = x := ⟨_, rfl⟩
  rw [hX] at hc hl
  obtain ⟨i, o, h, rs, od⟩ := X
  simp only at hl
  simp only [decC] at he hg ho hc
  have hcc := hc
  clear hc
  refine pure_of mixed Tryz.func10 rfl (by kernel_rfl) (of_decide_eq_true rfl) (by kernel_rfl) (vc_run ?_)
  ((try simp -implicitDefEqProofs [-loopQ_n, hl, valC, rowsOf_nil]) <;> (repeat' (first | ((first | refine condD_dec ?_ ?_ | refine guardD_dec ?_ ?_) <;> (intro hc; (try simp -implicitDefEqProofs [-loopQ_n, hc, hl, valC, rowsOf_nil]))) | (refine callS_mk ?_; (try simp -implicitDefEqProofs [-loopQ_n, hl, valC, rowsOf_nil]); (first | refine callS_intro (he) (.inr ⟨rfl, rfl⟩) ?_ | refine callS_intro (hg) (.inr ⟨rfl, rfl⟩) ?_ | refine callS_intro (ho) (.inr ⟨rfl, rfl⟩) ?_ | refine callS_intro (hcc) (.inr ⟨rfl, rfl⟩) ?_); (try simp -implicitDefEqProofs [-loopQ_n, hl, valC, rowsOf_nil])))))
end Go.Proofs.YthemglpccpjokaaGreat
