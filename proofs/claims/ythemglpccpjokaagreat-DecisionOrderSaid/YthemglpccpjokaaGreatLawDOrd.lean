/- The order of the rows of a decision table matters for HitFirst and HitOrder alone (the law DecisionOrder holds for every input; no condition). -/
import Derived.Test.YthemglpccpjokaaGreatRows
import Derived.Test.YthemglpccpjokaaGreatDwS
set_option linter.unusedSimpArgs false
set_option linter.unusedVariables false
set_option linter.unnecessarySimpa false
set_option linter.unusedSectionVars false
set_option maxRecDepth 100000
namespace Go.Proofs.YthemglpccpjokaaGreat.lawDOrd
open Go.ChangeShapes Go.WideShapes Go.ChangeAt Go.RowKit Go.Joins Go.Deep
section
variable [Glob]
theorem row_noown (R : List Rw) : ∀ r ∈ rowsOf rwC R, ∀ c ∈ r, owns c = false := by
  intro r hr c hc
  simp only [rowsOf, List.mem_map] at hr
  obtain ⟨x, _, rfl⟩ := hr
  simp only [rwC, List.mem_cons, List.not_mem_nil, or_false] at hc
  rcases hc with rfl | rfl | rfl | rfl <;> rfl
theorem rw_refs0 {m : Nat} {R : List Rw} : refsR m (rowsOf rwC R) = true := rowsOf_refs fun x => by simp [rwC, refs, refsL, refsR]
set_option maxHeartbeats 64000000 in
theorem main (d : Dec) (t : Int) (back : Bool) (hb : BgD d) (ht : 0 ≤ t ∧ t < 256) : Pure Tryz.prog 9 [.agg (decC d), .int .u8 t, .bool back] (.bool true) := by
  have hf := few_pure d hb
  have haw := awake_pure
  simp only [decC] at hf
  by_cases q : fewB d = true
  rotate_left
  · have q : fewB d = false := by simpa using q
    rw [q] at hf
    refine pure_of mixed Tryz.func9 rfl (by kernel_rfl) (of_decide_eq_true rfl) (by kernel_rfl) (vc_run ?_)
    ((try simp -implicitDefEqProofs [-loopQ_n, decC]) <;> (repeat' (first | ((first | refine condD_dec ?_ ?_ | refine guardD_dec ?_ ?_) <;> (intro hc; (try simp -implicitDefEqProofs [-loopQ_n, hc, decC]))) | ((first | refine condD_intro ?_ ?_ | refine guardD_intro ?_ ?_) <;> (intro hd; have hc := hd; (try simp at hc) <;> (try simp -implicitDefEqProofs [-loopQ_n, hd, hc, decC]))) | ((first | (refine ldD_ep ?_ ?_; (focus kernel_rfl)) | (refine callS_mk ?_; (try simp -implicitDefEqProofs [-loopQ_n, decC]); (first | refine callS_intro (haw) (.inl rfl) ?_ | refine callS_intro (hf) (.inl rfl) ?_))); (try simp -implicitDefEqProofs [-loopQ_n, decC])))))
  rw [q] at hf
  have hs := few_sz q
  by_cases hr0 : (d.rows.length : Int) = 0
  · skip
    refine pure_of mixed Tryz.func9 rfl (by kernel_rfl) (of_decide_eq_true rfl) (by kernel_rfl) (vc_run ?_)
    ((try simp -implicitDefEqProofs [-loopQ_n, decC, hr0]) <;> (repeat' (first | ((first | refine condD_dec ?_ ?_ | refine guardD_dec ?_ ?_) <;> (intro hc; (try simp -implicitDefEqProofs [-loopQ_n, hc, decC, hr0]))) | ((first | refine condD_intro ?_ ?_ | refine guardD_intro ?_ ?_) <;> (intro hd; have hc := hd; (try simp at hc) <;> (try simp -implicitDefEqProofs [-loopQ_n, hd, hc, decC, hr0]))) | ((first | (refine ldD_ep ?_ ?_; (focus kernel_rfl)) | (refine callS_mk ?_; (try simp -implicitDefEqProofs [-loopQ_n, decC, hr0]); (first | refine callS_intro (haw) (.inl rfl) ?_ | refine callS_intro (hf) (.inl rfl) ?_))); (try simp -implicitDefEqProofs [-loopQ_n, decC, hr0])))))
  have hl := hs.2.2.1
  obtain ⟨k, hk⟩ : ∃ k : Nat, t.tmod d.rows.length = (k : Int) := ⟨(t.tmod d.rows.length).toNat, by
    have := Int.tmod_nonneg (d.rows.length : Int) ht.1
    omega⟩
  have hkl : k < d.rows.length := by
    have := Int.tmod_lt_of_pos t (show (0 : Int) < d.rows.length by omega)
    omega
  have wt : wrapI .i64 t = t := wrap_in (by omega) (by omega)
  have wk : wrapI .i64 (k : Int) = k := wrap_in (by omega) (by omega)
  have k1 : (k : Int) ≤ d.rows.length := by omega
  have k0 : (0 : Int) ≤ k := by omega
  refine pure_of mixed Tryz.func9 rfl (by kernel_rfl) (of_decide_eq_true rfl) (by kernel_rfl) (vc_run ?_)
  have htk : List.take (d.rows.length - k) (List.drop k (rowsOf rwC d.rows)) = rowsOf rwC (d.rows.drop k) := by
    rw [List.take_of_length_le (by simp [rowsOf])]
    simp [rowsOf, List.map_drop]
  have htk2 : List.take k (rowsOf rwC d.rows) = rowsOf rwC (d.rows.take k) := by simp [rowsOf, List.map_take]
  ((try simp -implicitDefEqProofs [-loopQ_n, decC, roS, htk, htk2, hr0, wt, hk, wk, k1, k0, rw_all4]) <;> (repeat' (first | ((first | refine condD_dec ?_ ?_ | refine guardD_dec ?_ ?_) <;> (intro hc; (try simp -implicitDefEqProofs [-loopQ_n, hc, decC, roS, htk, htk2, hr0, wt, hk, wk, k1, k0, rw_all4]))) | ((first | refine condD_intro ?_ ?_ | refine guardD_intro ?_ ?_) <;> (intro hd; have hc := hd; (try simp at hc) <;> (try simp -implicitDefEqProofs [-loopQ_n, hd, hc, decC, roS, htk, htk2, hr0, wt, hk, wk, k1, k0, rw_all4]))) | ((first | (refine ldD_ep ?_ ?_; (focus kernel_rfl)) | (refine ld2_op ?_ ?_; (focus kernel_rfl)) | (refine ld2_ep ?_ ?_; (focus kernel_rfl)) | (refine nbx_intro ?_ ?_; (focus kernel_rfl)) | (refine nbx_fin ?_; (focus kernel_rfl)) | (refine callS_mk ?_; (try simp -implicitDefEqProofs [-loopQ_n, decC, roS, htk, htk2, hr0, wt, hk, wk, k1, k0, rw_all4]); (first | refine callS_intro (haw) (.inl rfl) ?_ | refine callS_intro (hf) (.inl rfl) ?_))); (try simp -implicitDefEqProofs [-loopQ_n, decC, roS, htk, htk2, hr0, wt, hk, wk, k1, k0, rw_all4])))))
  have hfl : [d.rows.drop k, d.rows.take k].flatten = d.rows.drop k ++ d.rows.take k := by simp
  have hne : [d.rows.drop k, d.rows.take k].flatten ≠ [] := by
    rw [hfl]
    intro e
    have := congrArg List.length e
    simp at this
    omega
  have hcat := concatR_fresh [d.rows.drop k, d.rows.take k] (by simp) (by rw [hfl]; simp; omega) hne
  rw [hfl] at hcat
  refine fresh_intro hcat (by simp -implicitDefEqProofs [lstC, rowsOf]) (.inr ⟨by simp [lstC, rowsOf], rfl⟩) ?_
  have hp : d.rows.Perm (d.rows.drop k ++ d.rows.take k) := by
    have := List.perm_append_comm (l₁ := d.rows.take k) (l₂ := d.rows.drop k)
    rwa [List.take_append_drop] at this
  have hRl : (d.rows.drop k ++ d.rows.take k).length = d.rows.length := by simp; omega
  generalize d.rows.drop k ++ d.rows.take k = R at *
  cases back
  · skip
    ((try simp -implicitDefEqProofs [-loopQ_n, decC]) <;> (repeat' (first | ((first | refine condD_dec ?_ ?_ | refine guardD_dec ?_ ?_) <;> (intro hc; (try simp -implicitDefEqProofs [-loopQ_n, hc, decC]))) | ((first | refine condD_intro ?_ ?_ | refine guardD_intro ?_ ?_) <;> (intro hd; have hc := hd; (try simp at hc) <;> (try simp -implicitDefEqProofs [-loopQ_n, hd, hc, decC]))) | (refine ldD_ep ?_ ?_; (focus kernel_rfl); (try simp -implicitDefEqProofs [-loopQ_n, decC])))))
    obtain ⟨ok, v, e, he, hvl, f1, f2, f3, f4⟩ := order_facts hs hp
    have hE := equal_pure d (withR d R) hs (sz_perm hs hp)
    rw [he] at hE
    have hH := Hits_pure d v hs hvl
    simp only [decC, withR, hitsO] at hE hH
    refine callG_intro (frz_G (id := 2) hE rfl (row_noown _) (by simp [frL, frA, rowsOf, hRl]) (by simp [owns]) ?_)
    by_cases g : e = 0
    rotate_left
    · obtain ⟨rfl, rfl⟩ := f1 g
      ((try simp -implicitDefEqProofs [-loopQ_n, decC, g, rowsOf_nil, frH, frB, frL, frA]) <;> (repeat' (first | ((first | refine condD_dec ?_ ?_ | refine guardD_dec ?_ ?_) <;> (intro hc; (try simp -implicitDefEqProofs [-loopQ_n, hc, decC, g, rowsOf_nil, frH, frB, frL, frA]))) | ((first | refine condD_intro ?_ ?_ | refine guardD_intro ?_ ?_) <;> (intro hd; have hc := hd; (try simp at hc) <;> (try simp -implicitDefEqProofs [-loopQ_n, hd, hc, decC, g, rowsOf_nil, frH, frB, frL, frA]))) | (refine ldD_ep ?_ ?_; (focus kernel_rfl); (try simp -implicitDefEqProofs [-loopQ_n, decC, g, rowsOf_nil, frH, frB, frL, frA])))))
    subst g
    have f4 := f4 rfl
    have f3 := f3 rfl
    have f2 := f2 rfl
    by_cases g3 : d.hit = 3
    · cases ok with
      | true =>
        obtain rfl := f3 rfl
        ((try simp -implicitDefEqProofs [-loopQ_n, decC, g3, rowsOf_nil, frH, frB, frL, frA]) <;> (repeat' (first | ((first | refine condD_dec ?_ ?_ | refine guardD_dec ?_ ?_) <;> (intro hc; (try simp -implicitDefEqProofs [-loopQ_n, hc, decC, g3, rowsOf_nil, frH, frB, frL, frA]))) | ((first | refine condD_intro ?_ ?_ | refine guardD_intro ?_ ?_) <;> (intro hd; have hc := hd; (try simp at hc) <;> (try simp -implicitDefEqProofs [-loopQ_n, hd, hc, decC, g3, rowsOf_nil, frH, frB, frL, frA]))) | (refine ldD_ep ?_ ?_; (focus kernel_rfl); (try simp -implicitDefEqProofs [-loopQ_n, decC, g3, rowsOf_nil, frH, frB, frL, frA])))))
      | false =>
        obtain ⟨q1, q2⟩ := f4 rfl
        rw [q1, if_pos rfl, g3] at hH
        have q3 : (1 : Int) < ((hitsL d v).length : Int) := by omega
        ((try simp -implicitDefEqProofs [-loopQ_n, decC, g3, q3, frH, frB, frL, frA]) <;> (repeat' (first | ((first | refine condD_dec ?_ ?_ | refine guardD_dec ?_ ?_) <;> (intro hc; (try simp -implicitDefEqProofs [-loopQ_n, hc, decC, g3, q3, frH, frB, frL, frA]))) | ((first | refine condD_intro ?_ ?_ | refine guardD_intro ?_ ?_) <;> (intro hd; have hc := hd; (try simp at hc) <;> (try simp -implicitDefEqProofs [-loopQ_n, hd, hc, decC, g3, q3, frH, frB, frL, frA]))) | ((first | (refine ldD_ep ?_ ?_; (focus kernel_rfl)) | (refine callS_mk ?_; (try simp -implicitDefEqProofs [-loopQ_n, decC, g3, q3, frH, frB, frL, frA]); (first | refine callS_intro (hH) (.inr ⟨rfl, rfl⟩) ?_))); (try simp -implicitDefEqProofs [-loopQ_n, decC, g3, q3, frH, frB, frL, frA])))))
    by_cases g5 : d.hit = 5
    · cases ok with
      | true =>
        obtain rfl := f3 rfl
        ((try simp -implicitDefEqProofs [-loopQ_n, decC, g3, g5, rowsOf_nil, frH, frB, frL, frA]) <;> (repeat' (first | ((first | refine condD_dec ?_ ?_ | refine guardD_dec ?_ ?_) <;> (intro hc; (try simp -implicitDefEqProofs [-loopQ_n, hc, decC, g3, g5, rowsOf_nil, frH, frB, frL, frA]))) | ((first | refine condD_intro ?_ ?_ | refine guardD_intro ?_ ?_) <;> (intro hd; have hc := hd; (try simp at hc) <;> (try simp -implicitDefEqProofs [-loopQ_n, hd, hc, decC, g3, g5, rowsOf_nil, frH, frB, frL, frA]))) | (refine ldD_ep ?_ ?_; (focus kernel_rfl); (try simp -implicitDefEqProofs [-loopQ_n, decC, g3, g5, rowsOf_nil, frH, frB, frL, frA])))))
      | false =>
        obtain ⟨q1, q2⟩ := f4 rfl
        rw [q1, if_pos rfl, g5] at hH
        have q3 : (1 : Int) < ((hitsL d v).length : Int) := by omega
        ((try simp -implicitDefEqProofs [-loopQ_n, decC, g3, g5, q3, frH, frB, frL, frA]) <;> (repeat' (first | ((first | refine condD_dec ?_ ?_ | refine guardD_dec ?_ ?_) <;> (intro hc; (try simp -implicitDefEqProofs [-loopQ_n, hc, decC, g3, g5, q3, frH, frB, frL, frA]))) | ((first | refine condD_intro ?_ ?_ | refine guardD_intro ?_ ?_) <;> (intro hd; have hc := hd; (try simp at hc) <;> (try simp -implicitDefEqProofs [-loopQ_n, hd, hc, decC, g3, g5, q3, frH, frB, frL, frA]))) | ((first | (refine ldD_ep ?_ ?_; (focus kernel_rfl)) | (refine callS_mk ?_; (try simp -implicitDefEqProofs [-loopQ_n, decC, g3, g5, q3, frH, frB, frL, frA]); (first | refine callS_intro (hH) (.inr ⟨rfl, rfl⟩) ?_))); (try simp -implicitDefEqProofs [-loopQ_n, decC, g3, g5, q3, frH, frB, frL, frA])))))
    obtain rfl := f2 g3 g5
    ((try simp -implicitDefEqProofs [-loopQ_n, decC, g3, g5, frH, frB, frL, frA]) <;> (repeat' (first | ((first | refine condD_dec ?_ ?_ | refine guardD_dec ?_ ?_) <;> (intro hc; (try simp -implicitDefEqProofs [-loopQ_n, hc, decC, g3, g5, frH, frB, frL, frA]))) | ((first | refine condD_intro ?_ ?_ | refine guardD_intro ?_ ?_) <;> (intro hd; have hc := hd; (try simp at hc) <;> (try simp -implicitDefEqProofs [-loopQ_n, hd, hc, decC, g3, g5, frH, frB, frL, frA]))) | (refine ldD_ep ?_ ?_; (focus kernel_rfl); (try simp -implicitDefEqProofs [-loopQ_n, decC, g3, g5, frH, frB, frL, frA])))))
  · ((try simp -implicitDefEqProofs [-loopQ_n, decC]) <;> (repeat' (first | ((first | refine condD_dec ?_ ?_ | refine guardD_dec ?_ ?_) <;> (intro hc; (try simp -implicitDefEqProofs [-loopQ_n, hc, decC]))) | ((first | refine condD_intro ?_ ?_ | refine guardD_intro ?_ ?_) <;> (intro hd; have hc := hd; (try simp at hc) <;> (try simp -implicitDefEqProofs [-loopQ_n, hd, hc, decC]))) | (refine ldD_ep ?_ ?_; (focus kernel_rfl); (try simp -implicitDefEqProofs [-loopQ_n, decC])))))
    refine inl_intro mixed Tryz.func41 rfl (by kernel_rfl) (of_decide_eq_true rfl) (by kernel_rfl) ?_
    ((try simp -implicitDefEqProofs [-loopQ_n, hRl]) <;> (repeat' (first | ((first | refine condD_dec ?_ ?_ | refine guardD_dec ?_ ?_) <;> (intro hc; (try simp -implicitDefEqProofs [-loopQ_n, hc, hRl]))) | ((first | refine condD_intro ?_ ?_ | refine guardD_intro ?_ ?_) <;> (intro hd; have hc := hd; (try simp at hc) <;> (try simp -implicitDefEqProofs [-loopQ_n, hd, hc, hRl]))) | (refine ldD_ep ?_ ?_; (focus kernel_rfl); (try simp -implicitDefEqProofs [-loopQ_n, hRl])))))
    have hn8 : d.rows.length ≤ 1073741824 := by omega
    have w1 : wrapI .i64 ((d.rows.length : Int) - 1) = d.rows.length - 1 := wrap_in (by omega) (by omega)
    refine loop_intro (σ := Nat) (fun i => ⟨[(0, .os 2 d.rows.length), (2, .int .i64 i), (3, .int .i64 (d.rows.length - 1 - i))], [.box 29 (decC d), .box 29 [.rs (rowsOf domC d.inputs), .str d.out.name, .int .i64 d.out.kind, .int .i64 d.out.low, .int .i64 d.out.high, .rs (rowsOf strC d.out.items), .int .i64 d.hit, .os 2 d.rows.length, .rs (rowsOf valC d.order)], .row 85 false (rowsOf rwC (revP R i))]⟩)
      (fun i => 2 * i ≤ d.rows.length) (fun i => d.rows.length - i) 0 (by simp) ?_ ?_
    · refine weak_ofL 3 0 rfl (by simp) rfl ?_ ?_ <;> simp [decC, revP_zero, w1, rw_refs0]
    rintro i hi
    by_cases g : 2 * i + 1 < d.rows.length
    · have g1 : (i : Int) < d.rows.length - 1 - i := by omega
      have g2 : (i : Int) ≤ d.rows.length - 1 := by omega
      have g3 : d.rows.length - 1 - i < d.rows.length := by omega
      have g4 : i < d.rows.length := by omega
      have rwl : ∀ x : Rw, (rwC x).length = 4 := fun _ => rfl
      have rwt : ∀ x : Rw, List.take 4 (rwC x) = rwC x := fun _ => rfl
      have e1 := revP_get R i (d.rows.length - 1 - i) (by omega) (by omega)
      have e2 := revP_get R i i (by omega) (by omega)
      have rwd : ∀ x : Rw, List.drop 4 (rwC x) = [] := fun _ => rfl
      have g5 : ¬ i = d.rows.length - 1 - i := by omega
      have e3 : ((rowsOf rwC (revP R i)).set i (rwC R[d.rows.length - 1 - i]))[d.rows.length - 1 - i]'(by simp [rowsOf, revP_len]; omega) = rwC R[d.rows.length - 1 - i] := by
        rw [List.getElem_set_ne g5]
        simp [rowsOf, e1]
      have e4 : ((rowsOf rwC (revP R i)).set i (rwC R[d.rows.length - 1 - i])).set (d.rows.length - 1 - i) (rwC R[i]) = rowsOf rwC (revP R (i + 1)) := by
        rw [← revP_swap R i (by omega)]
        simp [rowsOf, List.map_set, hRl]
      have wi : wrapI .i64 ((i : Int) + 1) = ((i + 1 : Nat) : Int) := by rw [wrap_in (by omega) (by omega)]; omega
      have wj : wrapI .i64 ((d.rows.length : Int) - 1 - i - 1) = d.rows.length - 1 - ((i + 1 : Nat) : Int) := by rw [wrap_in (by omega) (by omega)]; omega
      ((try simp -implicitDefEqProofs [-loopQ_n, g1, g2, g3, g4, revP_len, hRl, rwl, rwt, rwd, List.append_nil, e1, e2, e3, e4, wi, wj]) <;> (repeat' (first | ((first | refine condD_dec ?_ ?_ | refine guardD_dec ?_ ?_) <;> (intro hc; (try simp -implicitDefEqProofs [-loopQ_n, hc, g1, g2, g3, g4, revP_len, hRl, rwl, rwt, rwd, List.append_nil, e1, e2, e3, e4, wi, wj]))) | ((first | refine condD_intro ?_ ?_ | refine guardD_intro ?_ ?_) <;> (intro hd; have hc := hd; (try simp at hc) <;> (try simp -implicitDefEqProofs [-loopQ_n, hd, hc, g1, g2, g3, g4, revP_len, hRl, rwl, rwt, rwd, List.append_nil, e1, e2, e3, e4, wi, wj]))) | (refine ldD_ep ?_ ?_; (focus kernel_rfl); (try simp -implicitDefEqProofs [-loopQ_n, g1, g2, g3, g4, revP_len, hRl, rwl, rwt, rwd, List.append_nil, e1, e2, e3, e4, wi, wj])))))
      refine loop_next (i + 1) (by omega) (by omega) (weak_ofL 3 0 rfl (by simp) rfl ?_ ?_) <;> simp [decC, rw_refs0]
    · have g1 : ¬ (i : Int) < d.rows.length - 1 - i := by omega
      rw [revP_end R i (by omega)]
      have hp : d.rows.Perm R.reverse := hp.trans (List.reverse_perm _).symm
      have hRl : R.reverse.length = d.rows.length := by simp [hRl]
      generalize R.reverse = R2 at *
      ((try simp -implicitDefEqProofs [-loopQ_n, g1]) <;> (repeat' (first | ((first | refine condD_dec ?_ ?_ | refine guardD_dec ?_ ?_) <;> (intro hc; (try simp -implicitDefEqProofs [-loopQ_n, hc, g1]))) | ((first | refine condD_intro ?_ ?_ | refine guardD_intro ?_ ?_) <;> (intro hd; have hc := hd; (try simp at hc) <;> (try simp -implicitDefEqProofs [-loopQ_n, hd, hc, g1]))) | (refine ldD_ep ?_ ?_; (focus kernel_rfl); (try simp -implicitDefEqProofs [-loopQ_n, g1])))))
      refine endG_n (.tup []) rfl ?_
      simp -implicitDefEqProofs [contK]
      ((try simp -implicitDefEqProofs [-loopQ_n, decC]) <;> (repeat' (first | ((first | refine condD_dec ?_ ?_ | refine guardD_dec ?_ ?_) <;> (intro hc; (try simp -implicitDefEqProofs [-loopQ_n, hc, decC]))) | ((first | refine condD_intro ?_ ?_ | refine guardD_intro ?_ ?_) <;> (intro hd; have hc := hd; (try simp at hc) <;> (try simp -implicitDefEqProofs [-loopQ_n, hd, hc, decC]))) | (refine ldD_ep ?_ ?_; (focus kernel_rfl); (try simp -implicitDefEqProofs [-loopQ_n, decC])))))
      obtain ⟨ok, v, e, he, hvl, f1, f2, f3, f4⟩ := order_facts hs hp
      have hE := equal_pure d (withR d R2) hs (sz_perm hs hp)
      rw [he] at hE
      have hH := Hits_pure d v hs hvl
      simp only [decC, withR, hitsO] at hE hH
      refine callG_intro (frz_G (id := 2) hE rfl (row_noown _) (by simp [frL, frA, rowsOf, hRl]) (by simp [owns]) ?_)
      by_cases g : e = 0
      rotate_left
      · obtain ⟨rfl, rfl⟩ := f1 g
        ((try simp -implicitDefEqProofs [-loopQ_n, decC, g, rowsOf_nil, frH, frB, frL, frA]) <;> (repeat' (first | ((first | refine condD_dec ?_ ?_ | refine guardD_dec ?_ ?_) <;> (intro hc; (try simp -implicitDefEqProofs [-loopQ_n, hc, decC, g, rowsOf_nil, frH, frB, frL, frA]))) | ((first | refine condD_intro ?_ ?_ | refine guardD_intro ?_ ?_) <;> (intro hd; have hc := hd; (try simp at hc) <;> (try simp -implicitDefEqProofs [-loopQ_n, hd, hc, decC, g, rowsOf_nil, frH, frB, frL, frA]))) | (refine ldD_ep ?_ ?_; (focus kernel_rfl); (try simp -implicitDefEqProofs [-loopQ_n, decC, g, rowsOf_nil, frH, frB, frL, frA])))))
      subst g
      have f4 := f4 rfl
      have f3 := f3 rfl
      have f2 := f2 rfl
      by_cases g3 : d.hit = 3
      · cases ok with
        | true =>
          obtain rfl := f3 rfl
          ((try simp -implicitDefEqProofs [-loopQ_n, decC, g3, rowsOf_nil, frH, frB, frL, frA]) <;> (repeat' (first | ((first | refine condD_dec ?_ ?_ | refine guardD_dec ?_ ?_) <;> (intro hc; (try simp -implicitDefEqProofs [-loopQ_n, hc, decC, g3, rowsOf_nil, frH, frB, frL, frA]))) | ((first | refine condD_intro ?_ ?_ | refine guardD_intro ?_ ?_) <;> (intro hd; have hc := hd; (try simp at hc) <;> (try simp -implicitDefEqProofs [-loopQ_n, hd, hc, decC, g3, rowsOf_nil, frH, frB, frL, frA]))) | (refine ldD_ep ?_ ?_; (focus kernel_rfl); (try simp -implicitDefEqProofs [-loopQ_n, decC, g3, rowsOf_nil, frH, frB, frL, frA])))))
        | false =>
          obtain ⟨q1, q2⟩ := f4 rfl
          rw [q1, if_pos rfl, g3] at hH
          have q3 : (1 : Int) < ((hitsL d v).length : Int) := by omega
          ((try simp -implicitDefEqProofs [-loopQ_n, decC, g3, q3, frH, frB, frL, frA]) <;> (repeat' (first | ((first | refine condD_dec ?_ ?_ | refine guardD_dec ?_ ?_) <;> (intro hc; (try simp -implicitDefEqProofs [-loopQ_n, hc, decC, g3, q3, frH, frB, frL, frA]))) | ((first | refine condD_intro ?_ ?_ | refine guardD_intro ?_ ?_) <;> (intro hd; have hc := hd; (try simp at hc) <;> (try simp -implicitDefEqProofs [-loopQ_n, hd, hc, decC, g3, q3, frH, frB, frL, frA]))) | ((first | (refine ldD_ep ?_ ?_; (focus kernel_rfl)) | (refine callS_mk ?_; (try simp -implicitDefEqProofs [-loopQ_n, decC, g3, q3, frH, frB, frL, frA]); (first | refine callS_intro (hH) (.inr ⟨rfl, rfl⟩) ?_))); (try simp -implicitDefEqProofs [-loopQ_n, decC, g3, q3, frH, frB, frL, frA])))))
      by_cases g5 : d.hit = 5
      · cases ok with
        | true =>
          obtain rfl := f3 rfl
          ((try simp -implicitDefEqProofs [-loopQ_n, decC, g3, g5, rowsOf_nil, frH, frB, frL, frA]) <;> (repeat' (first | ((first | refine condD_dec ?_ ?_ | refine guardD_dec ?_ ?_) <;> (intro hc; (try simp -implicitDefEqProofs [-loopQ_n, hc, decC, g3, g5, rowsOf_nil, frH, frB, frL, frA]))) | ((first | refine condD_intro ?_ ?_ | refine guardD_intro ?_ ?_) <;> (intro hd; have hc := hd; (try simp at hc) <;> (try simp -implicitDefEqProofs [-loopQ_n, hd, hc, decC, g3, g5, rowsOf_nil, frH, frB, frL, frA]))) | (refine ldD_ep ?_ ?_; (focus kernel_rfl); (try simp -implicitDefEqProofs [-loopQ_n, decC, g3, g5, rowsOf_nil, frH, frB, frL, frA])))))
        | false =>
          obtain ⟨q1, q2⟩ := f4 rfl
          rw [q1, if_pos rfl, g5] at hH
          have q3 : (1 : Int) < ((hitsL d v).length : Int) := by omega
          ((try simp -implicitDefEqProofs [-loopQ_n, decC, g3, g5, q3, frH, frB, frL, frA]) <;> (repeat' (first | ((first | refine condD_dec ?_ ?_ | refine guardD_dec ?_ ?_) <;> (intro hc; (try simp -implicitDefEqProofs [-loopQ_n, hc, decC, g3, g5, q3, frH, frB, frL, frA]))) | ((first | refine condD_intro ?_ ?_ | refine guardD_intro ?_ ?_) <;> (intro hd; have hc := hd; (try simp at hc) <;> (try simp -implicitDefEqProofs [-loopQ_n, hd, hc, decC, g3, g5, q3, frH, frB, frL, frA]))) | ((first | (refine ldD_ep ?_ ?_; (focus kernel_rfl)) | (refine callS_mk ?_; (try simp -implicitDefEqProofs [-loopQ_n, decC, g3, g5, q3, frH, frB, frL, frA]); (first | refine callS_intro (hH) (.inr ⟨rfl, rfl⟩) ?_))); (try simp -implicitDefEqProofs [-loopQ_n, decC, g3, g5, q3, frH, frB, frL, frA])))))
      obtain rfl := f2 g3 g5
      ((try simp -implicitDefEqProofs [-loopQ_n, decC, g3, g5, frH, frB, frL, frA]) <;> (repeat' (first | ((first | refine condD_dec ?_ ?_ | refine guardD_dec ?_ ?_) <;> (intro hc; (try simp -implicitDefEqProofs [-loopQ_n, hc, decC, g3, g5, frH, frB, frL, frA]))) | ((first | refine condD_intro ?_ ?_ | refine guardD_intro ?_ ?_) <;> (intro hd; have hc := hd; (try simp at hc) <;> (try simp -implicitDefEqProofs [-loopQ_n, hd, hc, decC, g3, g5, frH, frB, frL, frA]))) | (refine ldD_ep ?_ ?_; (focus kernel_rfl); (try simp -implicitDefEqProofs [-loopQ_n, decC, g3, g5, frH, frB, frL, frA])))))
theorem du8 {x : AV} (h : argS Tryz.prog 5 x) : ∃ n : Int, x = .int .u8 n ∧ 0 ≤ n ∧ n < 256 := by
  obtain ⟨i, rfl, hw⟩ := arg_int Tryz.underlying5 h
  simp [Lit.wf, IntKind.min, IntKind.max, IntKind.signed, IntKind.bits] at hw
  exact ⟨i, rfl, by omega, by omega⟩
theorem dbool {x : AV} (h : argS Tryz.prog 4 x) : ∃ b : Bool, x = .bool b := by
  simp only [argS, Tryz.underlying4] at h
  obtain ⟨i, h1⟩ := shp_bool Tryz.underlying4 h
  simp at h1
  exact ⟨i, h1⟩
theorem both (x0 : AV) (s0 : argS Tryz.prog 29 x0) (x1 : AV) (s1 : argS Tryz.prog 5 x1) (x2 : AV) (s2 : argS Tryz.prog 4 x2) : Pure Tryz.prog 9 [x0, x1, x2] (.bool true) := by
  obtain ⟨d, rfl, hb⟩ := ddec_dec s0
  obtain ⟨t, rfl, ht⟩ := du8 s1
  obtain ⟨b, rfl⟩ := dbool s2
  exact main d t b hb ht
theorem walk (W : World) (hvo : VarsOk W (fun _ => False)) (v0 : Value) (x0 : AV) (r0 : RO W (fun _ => False) x0 v0) (s0 : argS Tryz.prog 29 x0) (v1 : Value) (x1 : AV) (r1 : RO W (fun _ => False) x1 v1) (s1 : argS Tryz.prog 5 x1) (v2 : Value) (x2 : AV) (r2 : RO W (fun _ => False) x2 v2) (s2 : argS Tryz.prog 4 x2) :
    Calls Tryz.prog 9 #[v0, v1, v2] W fun e w' => e = .returned (.bool true) ∧ Below W.heap.size W w' := by
  refine ((both x0 s0 x1 s1 x2 s2).2 W (fun _ => False) _ (fun _ h => h.elim) hvo rfl ?_).mono ?_
  · intro j x v hj hv
    match j with
    | 0 => simp at hj hv; subst hj hv; exact r0
    | 1 => simp at hj hv; subst hj hv; exact r1
    | 2 => simp at hj hv; subst hj hv; exact r2
    | j + 3 => simp at hj
  · rintro e w' ⟨v, rfl, hv, hb⟩
    rw [ro_tt hv]
    exact ⟨rfl, hb⟩
end
set_option maxRecDepth 100000 in
theorem lifted (os : Os) (started : os.Started) (H : Type) (enc : TypeId × Value → H) :
    ReturnsInHanded {} Tryz.checked os 9 .any (Rows.decisionOrderSpec.pre6 enc Tryz.prog Tryz.f9 Rows.decisionOrderRow.domain false) (Rows.decisionOrderSpec.post enc Tryz.prog Tryz.f9 false true false false) := by
  refine returnsInHanded_of_change (C := Tryz.checked) (@ownK { row := fun _ => none }) started (by kernel_rfl) Tryz.func9
    (ChangeSpec.witness6 (enc := enc) (C := Tryz.checked) false ⟨#[], #[.agg #[.slice none 0 0, .string ByteArray.empty, .int .i64 0, .int .i64 0, .int .i64 0, .slice none 0 0, .int .i64 0, .slice none 0 0, .slice none 0 0], .int .u8 0, .bool false], []⟩ 8 (by kernel_rfl) (by kernel_rfl) (by kernel_rfl) (by kernel_rfl)) ?_
  intro W base args ds gs before hval0 hW hcnd _
  have hval : ∀ (j : Nat) t v, Tryz.f9.params[j]? = some t → args[j]? = some v → Value.okWide Tryz.prog W .any base t v := hval0
  have hW' := hW
  obtain ⟨p, q, hA0, hV, rfl, hfz, hnd⟩ := hW
  have hA : DataW.TrodAll enc Tryz.prog W 0 (fun _ => true) true Tryz.f9.params.toList args.toList ds p := hA0
  rw [Tryz.params9] at hA hval
  obtain ⟨v0, vs0, d0, ds0, p0, q0, hargs, rfl, rfl, h0, r0⟩ := trodAll_cons hA
  obtain ⟨v1, vs1, d1, ds1, p1, q1, rfl, rfl, rfl, h1, r1⟩ := trodAll_cons r0
  obtain ⟨v2, vs2, d2, ds2, p2, q2, rfl, rfl, rfl, h2, r2⟩ := trodAll_cons r1
  obtain ⟨rfl, rfl, rfl⟩ := trodAll_nil r2
  obtain rfl : args = #[v0, v1, v2] := by cases args; simp_all
  obtain ⟨rfl, rfl⟩ := trodVars_none hV
  letI : Glob := { row := fun _ => none }
  have k0 := h0
  have lt0 : ∀ x ∈ p0, x.block < W.heap.size := by obtain ⟨m, hm⟩ := k0; exact DataW.trod_lt m _ _ _ hm
  obtain ⟨x0, y0, s0⟩ := arg_open (P := Tryz.prog) (t := 29) (by kernel_rfl) (by kernel_rfl) (hval 0 29 v0 rfl rfl) h0
  have k1 := h1
  have lt1 : ∀ x ∈ p1, x.block < W.heap.size := by obtain ⟨m, hm⟩ := k1; exact DataW.trod_lt m _ _ _ hm
  obtain ⟨x1, y1, s1⟩ := arg_open (P := Tryz.prog) (t := 5) (by kernel_rfl) (by kernel_rfl) (hval 1 5 v1 rfl rfl) h1
  have k2 := h2
  have lt2 : ∀ x ∈ p2, x.block < W.heap.size := by obtain ⟨m, hm⟩ := k2; exact DataW.trod_lt m _ _ _ hm
  obtain ⟨x2, y2, s2⟩ := arg_open (P := Tryz.prog) (t := 4) (by kernel_rfl) (by kernel_rfl) (hval 2 4 v2 rfl rfl) h2
  clear hA0 hval0
  refine (walk W ⟨fun g row h => (by cases h), fun g cs h => (by cases h)⟩ v0 x0 y0 s0 v1 x1 y1 s1 v2 x2 y2 s2).mono fun e W' ⟨he, bel⟩ => ?_
  subst he
  exact ⟨_, rfl, _, _, _, [], _, [], hW', trodAll_mk1 (shut_bool Tryz.underlying4 _), (trodAll_cons_mk (Below.trod laidK (by kernel_rfl) (of_decide_eq_true (by kernel_rfl)) k0 bel lt0) (trodAll_cons_mk (Below.trod laidK (by kernel_rfl) (of_decide_eq_true (by kernel_rfl)) k1 bel lt1) (trodAll_cons_mk (Below.trod laidK (by kernel_rfl) (of_decide_eq_true (by kernel_rfl)) k2 bel lt2) trodAll_mk0))), rfl, bel.frame _, fun h => by cases h⟩
theorem over : Rows.decisionOrderRow.holds Tryz.pinned (OpenSpec.ofChange Rows.decisionOrderSpec) :=
  OpenClaim.holds_of_wide 9 Tryz.f9 rfl rfl rfl rfl rfl rfl rfl ⟨rfl, rfl, rfl, rfl, rfl⟩ rfl rfl rfl rfl rfl (by kernel_rfl) Tryz.func9 (by kernel_rfl)
    (of_decide_eq_true (by kernel_rfl)) (by unfold Func.isWrapper; first | (rw [if_pos (by decide +kernel)]; kernel_rfl) | (rw [if_neg (by decide +kernel)]; exact ⟨rfl, rfl⟩))
    (fun os started H enc _ => lifted os started H enc)
theorem proved : Rows.DecisionOrderSaid := over
end Go.Proofs.YthemglpccpjokaaGreat.lawDOrd
