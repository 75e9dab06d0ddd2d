/- The law TopServed, its example taken as known. -/
import Derived.Test.YthiclaihlpkinaaGreatM7
import Derived.Test.YthiclaihlpkinaaGreatM13
import Derived.Test.YthiclaihlpkinaaGreatM4
import Derived.Test.YthiclaihlpkinaaGreatM15
set_option linter.unusedSimpArgs false
set_option linter.unusedVariables false
set_option linter.unnecessarySimpa false
set_option linter.unusedSectionVars false
set_option maxRecDepth 100000
namespace Go.Proofs.YthiclaihlpkinaaGreat
open Go.RowKit
variable [Glob]
theorem cust_cases (e c e2 c2 : List Int) (seed : Int) : (∃ k : Int, k ≠ 0 ∧ ∀ n, custR e c e2 c2 seed n = ([], k)) ∨ ∃ fa fs : Nat → Int, (∀ n, custR e c e2 c2 seed n = (custL fa fs n, 0)) ∧ (∀ k, 0 ≤ fa k ∧ fa k ≤ 1073741824) ∧ ∀ k, 0 ≤ fs k ∧ fs k ≤ 1073741824 := by
  unfold custR
  by_cases q1 : validO e c = true ∧ validO e2 c2 = true
  rotate_left
  · exact .inl ⟨1, by omega, fun n => by rw [if_neg q1]⟩
  by_cases q2 : 0 ≤ seed ∧ seed ≤ 1048576
  rotate_left
  · exact .inl ⟨2, by omega, fun n => by rw [if_pos q1, if_neg q2]⟩
  by_cases q3 : c.sum = 0 ∨ c2.sum = 0
  · exact .inl ⟨10, by omega, fun n => by rw [if_pos q1, if_pos q2, if_pos q3]⟩
  have q4 : c.sum ≠ 0 ∧ c2.sum ≠ 0 := ⟨fun h => q3 (.inl h), fun h => q3 (.inr h)⟩
  exact .inr ⟨faO e c seed, fsO e2 c2 seed, fun n => by rw [if_pos q1, if_pos q2, if_neg q3], fun k => (smp_ok q1.1 q4.1 (rndO_rng q2.1 (by omega)).1).2, fun k => (smp_ok q1.2 q4.2 (rndO_rng q2.1 (by omega)).1).2⟩
theorem int_noown (l : List Int) : ∀ r ∈ rowsOf intC l, ∀ c ∈ r, owns c = false := by
  intro r hr c hc
  simp only [rowsOf, List.mem_map] at hr
  obtain ⟨x, _, rfl⟩ := hr
  simp only [intC, List.mem_cons, List.not_mem_nil, or_false] at hc
  subst hc
  rfl
theorem ins_noown (l : List Ins) : ∀ r ∈ rowsOf insC l, ∀ c ∈ r, owns c = false := by
  intro r hr c hc
  simp only [rowsOf, List.mem_map] at hr
  obtain ⟨x, _, rfl⟩ := hr
  simp only [insC, List.mem_cons, List.not_mem_nil, or_false] at hc
  rcases hc with rfl | rfl | rfl | rfl | rfl | rfl <;> rfl
/-- What the law's loop reads. -/
structure LawX (L X Y : List Cu) (m : Nat) (h : Int) : Prop where
  ok : ServOk L X m
  cu : CustOk L
  y : h = 0 → Y.length = L.length ∧ ∀ (k : Nat) (h1 : k < X.length) (h2 : k < Y.length), Y[k].st ≤ X[k].st ∧ Y[k].en ≤ X[k].en
theorem count_step {p : Cu → Bool} {l : List Cu} {j : Nat} (h : j < l.length) : (l.take (j + 1)).countP p = (l.take j).countP p + if p l[j] = true then 1 else 0 := by
  rw [List.take_succ_eq_append_getElem h, List.countP_append]
  simp [List.countP_cons]
set_option maxHeartbeats 64000000 in
theorem served_main (haw : Pure Tryz.prog 4 [] (.bool true)) (e c e2 c2 : List Int) (seed n m : Int) (he : e.length ≤ 9223372036854775807) (hc : c.length ≤ 9223372036854775807) (he2 : e2.length ≤ 9223372036854775807) (hc2 : c2.length ≤ 9223372036854775807) (hmi : inI m) :
    Pure Tryz.prog 3 [.agg [.rs (rowsOf intC e), .rs (rowsOf intC c)], .agg [.rs (rowsOf intC e2), .rs (rowsOf intC c2)], .int .i64 seed, .int .i64 n, .int .i64 m] (.bool true) := by
  by_cases g1 : (30 : Int) < n
  · skip
    refine pure_of mixed Tryz.func3 rfl (by kernel_rfl) (of_decide_eq_true rfl) (by kernel_rfl) (vc_run ?_)
    ((try simp -implicitDefEqProofs [-loopQ_n, g1]) <;> (repeat' (first | ((first | refine condD_dec ?_ ?_ | refine guardD_dec ?_ ?_) <;> (intro hc; (try simp -implicitDefEqProofs [-loopQ_n, hc, g1]))) | ((first | refine condD_intro ?_ ?_ | refine guardD_intro ?_ ?_) <;> (intro hd; have hc := hd; (try simp at hc) <;> (try simp -implicitDefEqProofs [-loopQ_n, hd, hc, g1]))) | ((first | (refine ldD_ep ?_ ?_; (focus kernel_rfl)) | (refine callS_mk ?_; (try simp -implicitDefEqProofs [-loopQ_n, g1]); (first | refine callS_intro (haw) (.inl rfl) ?_))); (try simp -implicitDefEqProofs [-loopQ_n, g1])))))
  by_cases g2 : n < 0
  · skip
    refine pure_of mixed Tryz.func3 rfl (by kernel_rfl) (of_decide_eq_true rfl) (by kernel_rfl) (vc_run ?_)
    ((try simp -implicitDefEqProofs [-loopQ_n, g1, g2]) <;> (repeat' (first | ((first | refine condD_dec ?_ ?_ | refine guardD_dec ?_ ?_) <;> (intro hc; (try simp -implicitDefEqProofs [-loopQ_n, hc, g1, g2]))) | ((first | refine condD_intro ?_ ?_ | refine guardD_intro ?_ ?_) <;> (intro hd; have hc := hd; (try simp at hc) <;> (try simp -implicitDefEqProofs [-loopQ_n, hd, hc, g1, g2]))) | ((first | (refine ldD_ep ?_ ?_; (focus kernel_rfl)) | (refine callS_mk ?_; (try simp -implicitDefEqProofs [-loopQ_n, g1, g2]); (first | refine callS_intro (haw) (.inl rfl) ?_))); (try simp -implicitDefEqProofs [-loopQ_n, g1, g2])))))
  by_cases g3 : (25 : Int) < e.length
  · skip
    refine pure_of mixed Tryz.func3 rfl (by kernel_rfl) (of_decide_eq_true rfl) (by kernel_rfl) (vc_run ?_)
    ((try simp -implicitDefEqProofs [-loopQ_n, g1, g2, g3]) <;> (repeat' (first | ((first | refine condD_dec ?_ ?_ | refine guardD_dec ?_ ?_) <;> (intro hc; (try simp -implicitDefEqProofs [-loopQ_n, hc, g1, g2, g3]))) | ((first | refine condD_intro ?_ ?_ | refine guardD_intro ?_ ?_) <;> (intro hd; have hc := hd; (try simp at hc) <;> (try simp -implicitDefEqProofs [-loopQ_n, hd, hc, g1, g2, g3]))) | ((first | (refine ldD_ep ?_ ?_; (focus kernel_rfl)) | (refine callS_mk ?_; (try simp -implicitDefEqProofs [-loopQ_n, g1, g2, g3]); (first | refine callS_intro (haw) (.inl rfl) ?_))); (try simp -implicitDefEqProofs [-loopQ_n, g1, g2, g3])))))
  by_cases g4 : (25 : Int) < e2.length
  · skip
    refine pure_of mixed Tryz.func3 rfl (by kernel_rfl) (of_decide_eq_true rfl) (by kernel_rfl) (vc_run ?_)
    ((try simp -implicitDefEqProofs [-loopQ_n, g1, g2, g3, g4]) <;> (repeat' (first | ((first | refine condD_dec ?_ ?_ | refine guardD_dec ?_ ?_) <;> (intro hc; (try simp -implicitDefEqProofs [-loopQ_n, hc, g1, g2, g3, g4]))) | ((first | refine condD_intro ?_ ?_ | refine guardD_intro ?_ ?_) <;> (intro hd; have hc := hd; (try simp at hc) <;> (try simp -implicitDefEqProofs [-loopQ_n, hd, hc, g1, g2, g3, g4]))) | ((first | (refine ldD_ep ?_ ?_; (focus kernel_rfl)) | (refine callS_mk ?_; (try simp -implicitDefEqProofs [-loopQ_n, g1, g2, g3, g4]); (first | refine callS_intro (haw) (.inl rfl) ?_))); (try simp -implicitDefEqProofs [-loopQ_n, g1, g2, g3, g4])))))
  by_cases g5 : (25 : Int) < c.length
  · skip
    refine pure_of mixed Tryz.func3 rfl (by kernel_rfl) (of_decide_eq_true rfl) (by kernel_rfl) (vc_run ?_)
    ((try simp -implicitDefEqProofs [-loopQ_n, g1, g2, g3, g4, g5]) <;> (repeat' (first | ((first | refine condD_dec ?_ ?_ | refine guardD_dec ?_ ?_) <;> (intro hc; (try simp -implicitDefEqProofs [-loopQ_n, hc, g1, g2, g3, g4, g5]))) | ((first | refine condD_intro ?_ ?_ | refine guardD_intro ?_ ?_) <;> (intro hd; have hc := hd; (try simp at hc) <;> (try simp -implicitDefEqProofs [-loopQ_n, hd, hc, g1, g2, g3, g4, g5]))) | ((first | (refine ldD_ep ?_ ?_; (focus kernel_rfl)) | (refine callS_mk ?_; (try simp -implicitDefEqProofs [-loopQ_n, g1, g2, g3, g4, g5]); (first | refine callS_intro (haw) (.inl rfl) ?_))); (try simp -implicitDefEqProofs [-loopQ_n, g1, g2, g3, g4, g5])))))
  by_cases g6 : (25 : Int) < c2.length
  · skip
    refine pure_of mixed Tryz.func3 rfl (by kernel_rfl) (of_decide_eq_true rfl) (by kernel_rfl) (vc_run ?_)
    ((try simp -implicitDefEqProofs [-loopQ_n, g1, g2, g3, g4, g5, g6]) <;> (repeat' (first | ((first | refine condD_dec ?_ ?_ | refine guardD_dec ?_ ?_) <;> (intro hc; (try simp -implicitDefEqProofs [-loopQ_n, hc, g1, g2, g3, g4, g5, g6]))) | ((first | refine condD_intro ?_ ?_ | refine guardD_intro ?_ ?_) <;> (intro hd; have hc := hd; (try simp at hc) <;> (try simp -implicitDefEqProofs [-loopQ_n, hd, hc, g1, g2, g3, g4, g5, g6]))) | ((first | (refine ldD_ep ?_ ?_; (focus kernel_rfl)) | (refine callS_mk ?_; (try simp -implicitDefEqProofs [-loopQ_n, g1, g2, g3, g4, g5, g6]); (first | refine callS_intro (haw) (.inl rfl) ?_))); (try simp -implicitDefEqProofs [-loopQ_n, g1, g2, g3, g4, g5, g6])))))
  obtain ⟨N, rfl⟩ : ∃ N : Nat, n = N := ⟨n.toNat, by omega⟩
  have k1 := customers_pure e c e2 c2 seed N (by omega) (by omega) (by omega)
  have k2 := customers_pure e c e2 c2 seed (N / 2) (by omega) (by omega) (by omega)
  have hdw : wrapI .i64 ((N : Int) / 2) = ((N / 2 : Nat) : Int) := by rw [wrap_in (by omega) (by omega)]; omega
  rcases cust_cases e c e2 c2 seed with ⟨k, hk, hR⟩ | ⟨fa, fs, hR, hfa, hfs⟩
  · rw [hR, cusA] at k1 k2
    refine pure_of mixed Tryz.func3 rfl (by kernel_rfl) (of_decide_eq_true rfl) (by kernel_rfl) (vc_run ?_)
    ((try simp -implicitDefEqProofs [-loopQ_n, g1, g2, g3, g4, g5, g6, hdw, hk, rowsOf_nil]) <;> (repeat' (first | ((first | refine condD_dec ?_ ?_ | refine guardD_dec ?_ ?_) <;> (intro hc; (try simp -implicitDefEqProofs [-loopQ_n, hc, g1, g2, g3, g4, g5, g6, hdw, hk, rowsOf_nil]))) | ((first | refine condD_intro ?_ ?_ | refine guardD_intro ?_ ?_) <;> (intro hd; have hc := hd; (try simp at hc) <;> (try simp -implicitDefEqProofs [-loopQ_n, hd, hc, g1, g2, g3, g4, g5, g6, hdw, hk, rowsOf_nil]))) | ((first | (refine ldD_ep ?_ ?_; (focus kernel_rfl)) | (refine callS_mk ?_; (try simp -implicitDefEqProofs [-loopQ_n, g1, g2, g3, g4, g5, g6, hdw, hk, rowsOf_nil]); (first | refine callS_intro (haw) (.inl rfl) ?_ | refine callS_intro (k1) (.inr ⟨rfl, rfl⟩) ?_ | refine callS_intro (k2) (.inr ⟨rfl, rfl⟩) ?_))); (try simp -implicitDefEqProofs [-loopQ_n, g1, g2, g3, g4, g5, g6, hdw, hk, rowsOf_nil])))))
  rw [hR, cusA] at k1 k2
  have hL := cust_ok (n := N) (by omega) hfa hfs
  have htk : List.take (N / 2) (rowsOf cuC (custL fa fs N)) = rowsOf cuC (custL fa fs (N / 2)) := by
    rw [← custL_take fa fs (show N / 2 ≤ N by omega)]; simp [rowsOf, List.map_take]
  have hLl := custL_len fa fs N
  have k3 := ceq_pure (custL fa fs (N / 2)) (by rw [custL_len]; omega)
  have k4 := Serve_pure (custL fa fs N) m hL
  generalize custL fa fs N = L at *
  generalize custL fa fs (N / 2) = L2 at *
  have n1 : (0 : Int) ≤ (N : Int) / 2 := by omega
  have n2 : (N : Int) / 2 ≤ N := by omega
  have n3 : ((N : Int) / 2).toNat = N / 2 := by omega
  have n4 : allLen 4 (rowsOf cuC L) = true := rowsOf_allLen fun x => rfl
  by_cases gm : 1 ≤ m ∧ m ≤ 20
  rotate_left
  · rw [servR, if_neg gm, cusA] at k4
    refine pure_of mixed Tryz.func3 rfl (by kernel_rfl) (of_decide_eq_true rfl) (by kernel_rfl) (vc_run ?_)
    ((try simp -implicitDefEqProofs [-loopQ_n, g1, g2, g3, g4, g5, g6, hdw, hLl, n1, n2, n3, n4, htk, rowsOf_nil]) <;> (repeat' (first | ((first | refine condD_dec ?_ ?_ | refine guardD_dec ?_ ?_) <;> (intro hc; (try simp -implicitDefEqProofs [-loopQ_n, hc, g1, g2, g3, g4, g5, g6, hdw, hLl, n1, n2, n3, n4, htk, rowsOf_nil]))) | ((first | refine condD_intro ?_ ?_ | refine guardD_intro ?_ ?_) <;> (intro hd; have hc := hd; (try simp at hc) <;> (try simp -implicitDefEqProofs [-loopQ_n, hd, hc, g1, g2, g3, g4, g5, g6, hdw, hLl, n1, n2, n3, n4, htk, rowsOf_nil]))) | ((first | (refine ldD_ep ?_ ?_; (focus kernel_rfl)) | (refine callS_mk ?_; (try simp -implicitDefEqProofs [-loopQ_n, g1, g2, g3, g4, g5, g6, hdw, hLl, n1, n2, n3, n4, htk, rowsOf_nil]); (first | refine callS_intro (haw) (.inl rfl) ?_ | refine callS_intro (k1) (.inr ⟨rfl, rfl⟩) ?_ | refine callS_intro (k2) (.inr ⟨rfl, rfl⟩) ?_ | refine callS_intro (k3) (.inl rfl) ?_ | refine callS_intro (k4) (.inr ⟨rfl, rfl⟩) ?_))); (try simp -implicitDefEqProofs [-loopQ_n, g1, g2, g3, g4, g5, g6, hdw, hLl, n1, n2, n3, n4, htk, rowsOf_nil])))))
  rw [servR, if_pos gm, cusA] at k4
  obtain ⟨M, rfl⟩ : ∃ M : Nat, m = M := ⟨m.toNat, by omega⟩
  simp only [Int.toNat_natCast] at k4
  have hO := serv_ok hL (m := M) (by omega)
  have k5 := Serve_pure L ((M : Int) + 1) hL
  have hYm : ∀ (k : Nat) (h1 : k < (serveL (fr0 M) L).length) (h2 : k < (serveL (fr0 (M + 1)) L).length), (serveL (fr0 (M + 1)) L)[k].st ≤ (serveL (fr0 M) L)[k].st ∧ (serveL (fr0 (M + 1)) L)[k].en ≤ (serveL (fr0 M) L)[k].en := fun k h1 h2 => serv_more hL (by omega) k h1 h2
  have hid := serveL_idem L (fr0 M)
  have hlw : (serveL (fr0 (M + 1)) L).length = L.length := serveL_len _ _
  obtain ⟨Y, hh, hk5, hY⟩ : ∃ (Y : List Cu) (hh : Int), servR L ((M : Int) + 1) = (Y, hh) ∧ ((hh = 0 ∧ Y.length = L.length ∧ ∀ (k : Nat) (h1 : k < (serveL (fr0 M) L).length) (h2 : k < Y.length), Y[k].st ≤ (serveL (fr0 M) L)[k].st ∧ Y[k].en ≤ (serveL (fr0 M) L)[k].en) ∨ hh = 2) := by
    unfold servR
    by_cases q : 1 ≤ (M : Int) + 1 ∧ (M : Int) + 1 ≤ 20
    · rw [if_pos q]
      refine ⟨_, _, rfl, .inl ⟨rfl, ?_, ?_⟩⟩
      · rw [show ((M : Int) + 1).toNat = M + 1 by omega]; exact hlw
      · rw [show ((M : Int) + 1).toNat = M + 1 by omega]; exact hYm
    · rw [if_neg q]
      exact ⟨_, _, rfl, .inr rfl⟩
  rw [hk5, cusA] at k5
  clear hlw hYm hk5
  have hX : CustOk (serveL (fr0 M) L) := ⟨by rw [hO.len]; exact hL.len, fun x hx => ⟨(hO.bd x hx).1, (hO.bd x hx).2.1, (hO.bd x hx).2.2.1, (hO.bd x hx).2.2.2.1⟩, hO.ordA⟩
  have hXb : ∀ x ∈ serveL (fr0 M) L, x.a ≤ x.st ∧ x.st ≤ 64424509440 := fun x hx => ⟨(hO.bd x hx).2.2.2.2.1, (hO.bd x hx).2.2.2.2.2.1⟩
  generalize serveL (fr0 M) L = X at *
  have hXl : X.length = N := by rw [hO.len]; exact hLl
  have k6 := Waits_pure X hX hXb
  have k7 := Valid_pure X M hX (by omega) (by simpa using hid)
  have k8 := Replicate_pure _ _ L X seed N M k1 k4 (fun x hx => ⟨(hO.bd x hx).1, hXb x hx⟩) hX.len e c e2 c2 rfl rfl
  have wm : wrapI .i64 ((M : Int) + 1) = (M : Int) + 1 := wrap_in (by omega) (by omega)
  have hwl : (waitL X).length = N := by simp [waitL, hXl]
  refine pure_of mixed Tryz.func3 rfl (by kernel_rfl) (of_decide_eq_true rfl) (by kernel_rfl) (vc_run ?_)
  ((try simp -implicitDefEqProofs [-loopQ_n, g1, g2, g3, g4, g5, g6, hdw, hLl, n1, n2, n3, n4, htk, rowsOf_nil, wm]) <;> (repeat' (first | ((first | refine condD_dec ?_ ?_ | refine guardD_dec ?_ ?_) <;> (intro hc; (try simp -implicitDefEqProofs [-loopQ_n, hc, g1, g2, g3, g4, g5, g6, hdw, hLl, n1, n2, n3, n4, htk, rowsOf_nil, wm]))) | ((first | refine condD_intro ?_ ?_ | refine guardD_intro ?_ ?_) <;> (intro hd; have hc := hd; (try simp at hc) <;> (try simp -implicitDefEqProofs [-loopQ_n, hd, hc, g1, g2, g3, g4, g5, g6, hdw, hLl, n1, n2, n3, n4, htk, rowsOf_nil, wm]))) | ((first | (refine ldD_ep ?_ ?_; (focus kernel_rfl)) | (refine callS_mk ?_; (try simp -implicitDefEqProofs [-loopQ_n, g1, g2, g3, g4, g5, g6, hdw, hLl, n1, n2, n3, n4, htk, rowsOf_nil, wm]); (first | refine callS_intro (haw) (.inl rfl) ?_ | refine callS_intro (k1) (.inr ⟨rfl, rfl⟩) ?_ | refine callS_intro (k2) (.inr ⟨rfl, rfl⟩) ?_ | refine callS_intro (k3) (.inl rfl) ?_ | refine callS_intro (k4) (.inr ⟨rfl, rfl⟩) ?_ | refine callS_intro (k5) (.inr ⟨rfl, rfl⟩) ?_ | refine callS_intro (k6) (.inr ⟨rfl, rfl⟩) ?_))); (try simp -implicitDefEqProofs [-loopQ_n, g1, g2, g3, g4, g5, g6, hdw, hLl, n1, n2, n3, n4, htk, rowsOf_nil, wm])))))
  have hIL : insL (X.map insCu) = true := insL_cu (by omega) fun x hx => by have := hO.bd x hx; omega
  have hCh := chart_ok hIL
  have k9 := most_pure (X.map insCu) (by rw [List.length_map]; omega)
  have k10 := rows_pure (X.map insCu) (by rw [List.length_map]; omega)
  rw [mostR, if_pos hIL, mostO] at k9
  rw [rowsR, if_pos hIL, intsO] at k10
  have hmo := most_cu hCh.most hO.act
  have hro := rows_cu hCh (by omega) hO.act
  have hol := hCh.len
  rw [List.length_map] at hol
  clear hCh
  generalize (mostL (activeL (X.map insCu))).1 = mo at *
  generalize (mostL (activeL (X.map insCu))).2 = ma at *
  generalize (rowsL (spsI (X.map insCu))).1 = out at *
  refine callG_intro (frz_G (id := 2) k8 rfl (int_noown [seed]) (by simp [frL, frA, rowsOf, intC]) (by simp [owns, ownsL]) ?_)
  rcases hY with ⟨rfl, hYl, hYb⟩ | rfl
  · have hYl2 : Y.length = N := by omega
    ((try simp -implicitDefEqProofs [-loopQ_n, hXl, hwl, rowsOf_nil, frH, frB, frL, frA, hYl2]) <;> (repeat' (first | ((first | refine condD_dec ?_ ?_ | refine guardD_dec ?_ ?_) <;> (intro hc; (try simp -implicitDefEqProofs [-loopQ_n, hc, hXl, hwl, rowsOf_nil, frH, frB, frL, frA, hYl2]))) | ((first | refine condD_intro ?_ ?_ | refine guardD_intro ?_ ?_) <;> (intro hd; have hc := hd; (try simp at hc) <;> (try simp -implicitDefEqProofs [-loopQ_n, hd, hc, hXl, hwl, rowsOf_nil, frH, frB, frL, frA, hYl2]))) | ((first | (refine ldD_ep ?_ ?_; (focus kernel_rfl)) | (refine callS_mk ?_; (try simp -implicitDefEqProofs [-loopQ_n, hXl, hwl, rowsOf_nil, frH, frB, frL, frA, hYl2]); (first | refine callS_intro (k7) (.inl rfl) ?_))); (try simp -implicitDefEqProofs [-loopQ_n, hXl, hwl, rowsOf_nil, frH, frB, frL, frA, hYl2])))))
    refine loop_intro (σ := Nat) (fun k => ⟨[(4, .int .i64 M), (11, .rs (rowsOf cuC L)), (15, .rs (rowsOf cuC X)), (17, .rs (rowsOf cuC Y)), (18, .int .i64 0), (19, .rs (rowsOf intC (waitL X))), (21, .rs (rowsOf intC [sumW X])), (23, .int .i64 (sumW (X.take k))), (24, .os 3 k), (187, .rs (rowsOf cuC X)), (188, .int .i64 N), (189, .int .i64 k)], [.gone, .gone, .gone, .row 40 true (rowsOf insC ((X.map insCu).take k))]⟩) (fun k => k ≤ N) (fun k => N - k) 0 (by simp) ?_ ?_
    · refine weak_of 3 1 rfl rfl ?_ ?_ <;> simp [sumW, waitL, rowsOf, hXl]
    rintro k hk
    by_cases h : k < N
    · have h1 : k < X.length := by omega
      have h2 : k < L.length := by omega
      have h3 : k < (waitL X).length := by omega
      have w1 : wrapI .i64 ((k : Int) + 1) = ((k + 1 : Nat) : Int) := by rw [wrap_in (by omega) (by omega)]; omega
      obtain ⟨o1, o2, o3, o4⟩ := hO.get k h1 h2
      have ob := hO.bd X[k] (List.getElem_mem h1)
      have hprev : 0 < k → X[k - 1].st ≤ X[k].st := fun h0 => (List.pairwise_iff_getElem.1 hO.ord) (k - 1) k (by omega) h1 (by omega)
      have hbusy := hO.busy k h1
      have hsum := sumW_succ h1
      have hwk : (waitL X)[k] = X[k].st - X[k].a := by simp [waitL]
      have h5 : k < Y.length := by omega
      have hy := hYb k h1 h5
      obtain ⟨⟨ya, ys, yt, ye⟩, hyk⟩ : ∃ x, Y[k] = x := ⟨_, rfl⟩
      rw [hyk] at hy
      have hin : rowsOf insC ((X.map insCu).take k) ++ [insC (insCu X[k])] = rowsOf insC ((X.map insCu).take (k + 1)) := by
        rw [List.take_succ_eq_append_getElem (by rw [List.length_map]; exact h1)]; simp only [rowsOf, List.map_append, List.map_cons, List.map_nil, List.getElem_map]
      obtain ⟨⟨xa, xs, xt, xe⟩, hx⟩ : ∃ x, X[k] = x := ⟨_, rfl⟩
      obtain ⟨⟨la, ls, lt, le⟩, hl⟩ : ∃ x, L[k] = x := ⟨_, rfl⟩
      rw [hx, hl] at o1 o2 o3 o4
      rw [hx] at ob hbusy hsum hwk hin hy
      simp only [hx] at hprev
      simp only at o1 o2 o3 o4 ob hbusy hsum hwk hy
      simp only [insC, insCu] at hin
      obtain ⟨b1, b2, b3, b4, b5, b6, b7⟩ := ob
      subst b7
      subst o1 o2
      have d1 : ¬ xt < yt := by omega
      have d2 : ¬ xt + xs < ye := by omega
      have c1 : ¬ xt < xa := by omega
      have v1 : wrapI .i64 (xt + xs) = xt + xs := wrap_in (by omega) (by omega)
      have v2 : wrapI .i64 (xt - xa) = xt - xa := wrap_in (by omega) (by omega)
      have v3 : wrapI .i64 (xt - 1) = xt - 1 := wrap_in (by omega) (by omega)
      have hsb := sumW_bd (x := X.take (k + 1)) fun x hx => ⟨(hO.bd x (List.mem_of_mem_take hx)).1, hXb x (List.mem_of_mem_take hx)⟩
      have hsl : ((X.take (k + 1)).length : Int) ≤ 30 := by rw [List.length_take]; omega
      have hsl2 : ((X.take (k + 1)).length : Int) * 64424509440 ≤ 30 * 64424509440 := by omega
      have v4 : wrapI .i64 (sumW (X.take k) + (xt - xa)) = sumW (X.take (k + 1)) := by rw [hsum, wrap_in (by omega) (by omega)]
      have c5 : xt + xs ≤ 1099511627776 := by omega
      have htk2 : List.take k (rowsOf cuC X) = rowsOf cuC (X.take k) := by simp [rowsOf, List.map_take]
      have n5 : allLen 4 (rowsOf cuC X) = true := rowsOf_allLen fun x => rfl
      have hkl : (X.take k).length = k := by rw [List.length_take]; omega
      have hnl : ((X.map insCu).take k).length = k := by rw [List.length_take, List.length_map]; omega
      have hz : (k : Int) ≤ N := by omega
      have hap : k + 1 ≤ 1073741824 := by omega
      have hbz : ∀ j, ((X.take j).countP (actC (xt - 1)) : Int) ≤ j := fun j => by
        have := List.countP_le_length (p := actC (xt - 1)) (l := X.take j)
        have h2 : (X.take j).length ≤ j := by rw [List.length_take]; omega
        omega
      by_cases p0 : 0 < k
      rotate_left
      ((try simp -implicitDefEqProofs [-loopQ_n, h, hk, h1, h2, h3, p0, hXl, hwl, hx, hl, cuC, intC, hwk, c1, v1, v2, v3, v4, c5, htk2, n5, hkl, h5, hyk, d1, d2]) <;> (repeat' (first | ((first | refine condD_dec ?_ ?_ | refine guardD_dec ?_ ?_) <;> (intro hc; (try simp -implicitDefEqProofs [-loopQ_n, hc, h, hk, h1, h2, h3, p0, hXl, hwl, hx, hl, cuC, intC, hwk, c1, v1, v2, v3, v4, c5, htk2, n5, hkl, h5, hyk, d1, d2]))) | ((first | refine condD_intro ?_ ?_ | refine guardD_intro ?_ ?_) <;> (intro hd; have hc := hd; (try simp at hc) <;> (try simp -implicitDefEqProofs [-loopQ_n, hd, hc, h, hk, h1, h2, h3, p0, hXl, hwl, hx, hl, cuC, intC, hwk, c1, v1, v2, v3, v4, c5, htk2, n5, hkl, h5, hyk, d1, d2]))) | (refine ldD_ep ?_ ?_; (focus kernel_rfl); (try simp -implicitDefEqProofs [-loopQ_n, h, hk, h1, h2, h3, p0, hXl, hwl, hx, hl, cuC, intC, hwk, c1, v1, v2, v3, v4, c5, htk2, n5, hkl, h5, hyk, d1, d2])))))
      rotate_left
      have hp := hprev p0
      have h4 : k - 1 < X.length := by omega
      have e1 : wrapI .i64 ((k : Int) - 1) = ((k - 1 : Nat) : Int) := by rw [wrap_in (by omega) (by omega)]; omega
      obtain ⟨⟨pa, ps, pt, pe⟩, hpx⟩ : ∃ x, X[k - 1] = x := ⟨_, rfl⟩
      have hpq : X[k - 1]? = some ⟨pa, ps, pt, pe⟩ := by rw [List.getElem?_eq_getElem h4, hpx]
      rw [hpx] at hp
      simp only at hp
      have c6 : ¬ xt < pt := by omega
      ((try simp -implicitDefEqProofs [-loopQ_n, h, hk, h1, h2, h3, h4, p0, e1, hpx, hpq, c6, hXl, hwl, hx, hl, cuC, intC, hwk, c1, v1, v2, v3, v4, c5, htk2, n5, hkl, h5, hyk, d1, d2]) <;> (repeat' (first | ((first | refine condD_dec ?_ ?_ | refine guardD_dec ?_ ?_) <;> (intro hc; (try simp -implicitDefEqProofs [-loopQ_n, hc, h, hk, h1, h2, h3, h4, p0, e1, hpx, hpq, c6, hXl, hwl, hx, hl, cuC, intC, hwk, c1, v1, v2, v3, v4, c5, htk2, n5, hkl, h5, hyk, d1, d2]))) | ((first | refine condD_intro ?_ ?_ | refine guardD_intro ?_ ?_) <;> (intro hd; have hc := hd; (try simp at hc) <;> (try simp -implicitDefEqProofs [-loopQ_n, hd, hc, h, hk, h1, h2, h3, h4, p0, e1, hpx, hpq, c6, hXl, hwl, hx, hl, cuC, intC, hwk, c1, v1, v2, v3, v4, c5, htk2, n5, hkl, h5, hyk, d1, d2]))) | (refine ldD_ep ?_ ?_; (focus kernel_rfl); (try simp -implicitDefEqProofs [-loopQ_n, h, hk, h1, h2, h3, h4, p0, e1, hpx, hpq, c6, hXl, hwl, hx, hl, cuC, intC, hwk, c1, v1, v2, v3, v4, c5, htk2, n5, hkl, h5, hyk, d1, d2])))))
      all_goals
        refine loop_intro (σ := Nat) (fun j => ⟨[(4, .int .i64 M), (11, .rs (rowsOf cuC L)), (15, .rs (rowsOf cuC X)), (17, .rs (rowsOf cuC Y)), (18, .int .i64 0), (19, .rs (rowsOf intC (waitL X))), (21, .rs (rowsOf intC [sumW X])), (23, .int .i64 (sumW (X.take (k + 1)))), (24, .os 3 k), (25, .int .i64 k), (26, .op 4 0), (27, .int .i64 ((X.take j).countP (actC (xt - 1)) : Nat)), (187, .rs (rowsOf cuC X)), (188, .int .i64 N), (189, .int .i64 k), (286, .rs (rowsOf cuC (X.take k))), (287, .int .i64 k), (288, .int .i64 j)], [.gone, .gone, .gone, .row 40 true (rowsOf insC ((X.map insCu).take k)), .box 32 [.int .i64 xa, .int .i64 xs, .int .i64 xt, .int .i64 (xt + xs)]]⟩) (fun j => j ≤ k) (fun j => k - j) 0 (by simp) ?_ ?_
        · refine weak_of 5 0 rfl rfl ?_ ?_ <;> simp [refs, refsL, ins_refs, hkl]
        rintro j hj
        by_cases g : j < k
        · have u1 : wrapI .i64 ((j : Int) + 1) = ((j + 1 : Nat) : Int) := by rw [wrap_in (by omega) (by omega)]; omega
          have g1 : j < X.length := by omega
          have g2 : j < (X.take k).length := by omega
          have hcs := count_step (p := actC (xt - 1)) g1
          have hb0 := hbz (j + 1)
          obtain ⟨⟨qa, qs, qt, qe⟩, hq⟩ : ∃ x, X[j] = x := ⟨_, rfl⟩
          have hq2 : (X.take k)[j] = ⟨qa, qs, qt, qe⟩ := by rw [List.getElem_take]; exact hq
          rw [hq] at hcs
          simp only [actC, Bool.and_eq_true, decide_eq_true_eq] at hcs
          by_cases r1 : qt ≤ xt - 1
          · by_cases r2 : xt - 1 < qe
            · rw [if_pos ⟨r1, r2⟩] at hcs
              have u2 : wrapI .i64 (((X.take j).countP (actC (xt - 1)) : Nat) + 1) = ((X.take (j + 1)).countP (actC (xt - 1)) : Nat) := by rw [wrap_in (by omega) (by omega)]; omega
              ((try simp -implicitDefEqProofs [-loopQ_n, g, g1, g2, hq, hq2, cuC, hkl, r1, r2, u1, u2, v3]) <;> (repeat' (first | ((first | refine condD_dec ?_ ?_ | refine guardD_dec ?_ ?_) <;> (intro hc; (try simp -implicitDefEqProofs [-loopQ_n, hc, g, g1, g2, hq, hq2, cuC, hkl, r1, r2, u1, u2, v3]))) | ((first | refine condD_intro ?_ ?_ | refine guardD_intro ?_ ?_) <;> (intro hd; have hc := hd; (try simp at hc) <;> (try simp -implicitDefEqProofs [-loopQ_n, hd, hc, g, g1, g2, hq, hq2, cuC, hkl, r1, r2, u1, u2, v3]))) | (refine ldD_ep ?_ ?_; (focus kernel_rfl); (try simp -implicitDefEqProofs [-loopQ_n, g, g1, g2, hq, hq2, cuC, hkl, r1, r2, u1, u2, v3])))))
              refine loop_next (j + 1) g (by omega) (weak_of 5 0 rfl rfl ?_ ?_) <;> simp [refs, refsL, ins_refs]
            · rw [if_neg (fun q => r2 q.2)] at hcs
              ((try simp -implicitDefEqProofs [-loopQ_n, g, g1, g2, hq, hq2, cuC, hkl, r1, r2, u1, v3]) <;> (repeat' (first | ((first | refine condD_dec ?_ ?_ | refine guardD_dec ?_ ?_) <;> (intro hc; (try simp -implicitDefEqProofs [-loopQ_n, hc, g, g1, g2, hq, hq2, cuC, hkl, r1, r2, u1, v3]))) | ((first | refine condD_intro ?_ ?_ | refine guardD_intro ?_ ?_) <;> (intro hd; have hc := hd; (try simp at hc) <;> (try simp -implicitDefEqProofs [-loopQ_n, hd, hc, g, g1, g2, hq, hq2, cuC, hkl, r1, r2, u1, v3]))) | (refine ldD_ep ?_ ?_; (focus kernel_rfl); (try simp -implicitDefEqProofs [-loopQ_n, g, g1, g2, hq, hq2, cuC, hkl, r1, r2, u1, v3])))))
              refine loop_next (j + 1) g (by omega) (weak_of 5 0 rfl rfl ?_ ?_) <;> simp [refs, refsL, ins_refs, hcs]
          · rw [if_neg (fun q => r1 q.1)] at hcs
            ((try simp -implicitDefEqProofs [-loopQ_n, g, g1, g2, hq, hq2, cuC, hkl, r1, u1, v3]) <;> (repeat' (first | ((first | refine condD_dec ?_ ?_ | refine guardD_dec ?_ ?_) <;> (intro hc; (try simp -implicitDefEqProofs [-loopQ_n, hc, g, g1, g2, hq, hq2, cuC, hkl, r1, u1, v3]))) | ((first | refine condD_intro ?_ ?_ | refine guardD_intro ?_ ?_) <;> (intro hd; have hc := hd; (try simp at hc) <;> (try simp -implicitDefEqProofs [-loopQ_n, hd, hc, g, g1, g2, hq, hq2, cuC, hkl, r1, u1, v3]))) | (refine ldD_ep ?_ ?_; (focus kernel_rfl); (try simp -implicitDefEqProofs [-loopQ_n, g, g1, g2, hq, hq2, cuC, hkl, r1, u1, v3])))))
            refine loop_next (j + 1) g (by omega) (weak_of 5 0 rfl rfl ?_ ?_) <;> simp [refs, refsL, ins_refs, hcs]
        · have : j = k := by omega
          subst this
          by_cases hw : xa < xt
          · have hbm : ¬ (((X.take j).countP (actC (xt - 1)) : Nat) : Int) < M := by have := hbusy hw; omega
            ((try simp -implicitDefEqProofs [-loopQ_n, g, h, h3, hwl, hwk, hw, hbm, intC, c5, hnl, hap, hin, w1]) <;> (repeat' (first | ((first | refine condD_dec ?_ ?_ | refine guardD_dec ?_ ?_) <;> (intro hc; (try simp -implicitDefEqProofs [-loopQ_n, hc, g, h, h3, hwl, hwk, hw, hbm, intC, c5, hnl, hap, hin, w1]))) | ((first | refine condD_intro ?_ ?_ | refine guardD_intro ?_ ?_) <;> (intro hd; have hc := hd; (try simp at hc) <;> (try simp -implicitDefEqProofs [-loopQ_n, hd, hc, g, h, h3, hwl, hwk, hw, hbm, intC, c5, hnl, hap, hin, w1]))) | (refine ldD_ep ?_ ?_; (focus kernel_rfl); (try simp -implicitDefEqProofs [-loopQ_n, g, h, h3, hwl, hwk, hw, hbm, intC, c5, hnl, hap, hin, w1])))))
            refine loop_next (j + 1) h (by omega) (weak_of 4 0 rfl rfl ?_ ?_) <;> simp [refs, ins_refs]
          · ((try simp -implicitDefEqProofs [-loopQ_n, g, h, h3, hwl, hwk, hw, intC, c5, hnl, hap, hin, w1]) <;> (repeat' (first | ((first | refine condD_dec ?_ ?_ | refine guardD_dec ?_ ?_) <;> (intro hc; (try simp -implicitDefEqProofs [-loopQ_n, hc, g, h, h3, hwl, hwk, hw, intC, c5, hnl, hap, hin, w1]))) | ((first | refine condD_intro ?_ ?_ | refine guardD_intro ?_ ?_) <;> (intro hd; have hc := hd; (try simp at hc) <;> (try simp -implicitDefEqProofs [-loopQ_n, hd, hc, g, h, h3, hwl, hwk, hw, intC, c5, hnl, hap, hin, w1]))) | (refine ldD_ep ?_ ?_; (focus kernel_rfl); (try simp -implicitDefEqProofs [-loopQ_n, g, h, h3, hwl, hwk, hw, intC, c5, hnl, hap, hin, w1])))))
            refine loop_next (j + 1) h (by omega) (weak_of 4 0 rfl rfl ?_ ?_) <;> simp [refs, ins_refs]
    · have : k = N := by omega
      subst this
      have htN : X.take k = X := List.take_of_length_le (by omega)
      have htW : (X.map insCu).take k = X.map insCu := List.take_of_length_le (by rw [List.length_map]; omega)
      rw [htN, htW]
      ((try simp -implicitDefEqProofs [-loopQ_n, h, ins_reify, hXl]) <;> (repeat' (first | ((first | refine condD_dec ?_ ?_ | refine guardD_dec ?_ ?_) <;> (intro hc; (try simp -implicitDefEqProofs [-loopQ_n, hc, h, ins_reify, hXl]))) | ((first | refine condD_intro ?_ ?_ | refine guardD_intro ?_ ?_) <;> (intro hd; have hc := hd; (try simp at hc) <;> (try simp -implicitDefEqProofs [-loopQ_n, hd, hc, h, ins_reify, hXl]))) | ((first | (refine ldD_ep ?_ ?_; (focus kernel_rfl)) | (refine callS_mk ?_; (try simp -implicitDefEqProofs [-loopQ_n, h, ins_reify, hXl]); (first | refine callS_intro (k9) (.inl rfl) ?_))); (try simp -implicitDefEqProofs [-loopQ_n, h, ins_reify, hXl])))))
      refine callG_intro (frz_G (id := 3) k10 rfl (ins_noown _) (by simp [frL, frA, hXl]) (by simp [owns, ownsL]) ?_)
      by_cases ho : out.length = 0
      · have ho2 : out = [] := List.length_eq_zero_iff.1 ho
        subst ho2
        ((try simp -implicitDefEqProofs [-loopQ_n, frH, frB, frL, frA, intC, rowsOf, hmo]) <;> (repeat' (first | ((first | refine condD_dec ?_ ?_ | refine guardD_dec ?_ ?_) <;> (intro hc; (try simp -implicitDefEqProofs [-loopQ_n, hc, frH, frB, frL, frA, intC, rowsOf, hmo]))) | ((first | refine condD_intro ?_ ?_ | refine guardD_intro ?_ ?_) <;> (intro hd; have hc := hd; (try simp at hc) <;> (try simp -implicitDefEqProofs [-loopQ_n, hd, hc, frH, frB, frL, frA, intC, rowsOf, hmo]))) | (refine ldD_ep ?_ ?_; (focus kernel_rfl); (try simp -implicitDefEqProofs [-loopQ_n, frH, frB, frL, frA, intC, rowsOf, hmo])))))
      · have ho1 : 0 < out.length := by omega
        have ho3 : ¬ (out.length : Int) = 0 := by omega
        have k11 := imax_pure out ho1 (by omega)
        have hmx : maxL out < M := hro _ (maxL_mem (by intro e; rw [e] at ho; exact ho rfl))
        ((try simp -implicitDefEqProofs [-loopQ_n, frH, frB, frL, frA, intC, rowsOf_nil, hmo, ho, ho3, hmx]) <;> (repeat' (first | ((first | refine condD_dec ?_ ?_ | refine guardD_dec ?_ ?_) <;> (intro hc; (try simp -implicitDefEqProofs [-loopQ_n, hc, frH, frB, frL, frA, intC, rowsOf_nil, hmo, ho, ho3, hmx]))) | ((first | refine condD_intro ?_ ?_ | refine guardD_intro ?_ ?_) <;> (intro hd; have hc := hd; (try simp at hc) <;> (try simp -implicitDefEqProofs [-loopQ_n, hd, hc, frH, frB, frL, frA, intC, rowsOf_nil, hmo, ho, ho3, hmx]))) | ((first | (refine ldD_ep ?_ ?_; (focus kernel_rfl)) | (refine callS_mk ?_; (try simp -implicitDefEqProofs [-loopQ_n, frH, frB, frL, frA, intC, rowsOf_nil, hmo, ho, ho3, hmx]); (first | refine callS_intro (k11) (.inl rfl) ?_))); (try simp -implicitDefEqProofs [-loopQ_n, frH, frB, frL, frA, intC, rowsOf_nil, hmo, ho, ho3, hmx])))))
  · ((try simp -implicitDefEqProofs [-loopQ_n, hXl, hwl, rowsOf_nil, frH, frB, frL, frA, hXl]) <;> (repeat' (first | ((first | refine condD_dec ?_ ?_ | refine guardD_dec ?_ ?_) <;> (intro hc; (try simp -implicitDefEqProofs [-loopQ_n, hc, hXl, hwl, rowsOf_nil, frH, frB, frL, frA, hXl]))) | ((first | refine condD_intro ?_ ?_ | refine guardD_intro ?_ ?_) <;> (intro hd; have hc := hd; (try simp at hc) <;> (try simp -implicitDefEqProofs [-loopQ_n, hd, hc, hXl, hwl, rowsOf_nil, frH, frB, frL, frA, hXl]))) | ((first | (refine ldD_ep ?_ ?_; (focus kernel_rfl)) | (refine callS_mk ?_; (try simp -implicitDefEqProofs [-loopQ_n, hXl, hwl, rowsOf_nil, frH, frB, frL, frA, hXl]); (first | refine callS_intro (k7) (.inl rfl) ?_))); (try simp -implicitDefEqProofs [-loopQ_n, hXl, hwl, rowsOf_nil, frH, frB, frL, frA, hXl])))))
    refine loop_intro (σ := Nat) (fun k => ⟨[(4, .int .i64 M), (11, .rs (rowsOf cuC L)), (15, .rs (rowsOf cuC X)), (17, .rs (rowsOf cuC Y)), (18, .int .i64 2), (19, .rs (rowsOf intC (waitL X))), (21, .rs (rowsOf intC [sumW X])), (23, .int .i64 (sumW (X.take k))), (24, .os 3 k), (187, .rs (rowsOf cuC X)), (188, .int .i64 N), (189, .int .i64 k)], [.gone, .gone, .gone, .row 40 true (rowsOf insC ((X.map insCu).take k))]⟩) (fun k => k ≤ N) (fun k => N - k) 0 (by simp) ?_ ?_
    · refine weak_of 3 1 rfl rfl ?_ ?_ <;> simp [sumW, waitL, rowsOf, hXl]
    rintro k hk
    by_cases h : k < N
    · have h1 : k < X.length := by omega
      have h2 : k < L.length := by omega
      have h3 : k < (waitL X).length := by omega
      have w1 : wrapI .i64 ((k : Int) + 1) = ((k + 1 : Nat) : Int) := by rw [wrap_in (by omega) (by omega)]; omega
      obtain ⟨o1, o2, o3, o4⟩ := hO.get k h1 h2
      have ob := hO.bd X[k] (List.getElem_mem h1)
      have hprev : 0 < k → X[k - 1].st ≤ X[k].st := fun h0 => (List.pairwise_iff_getElem.1 hO.ord) (k - 1) k (by omega) h1 (by omega)
      have hbusy := hO.busy k h1
      have hsum := sumW_succ h1
      have hwk : (waitL X)[k] = X[k].st - X[k].a := by simp [waitL]
      have hin : rowsOf insC ((X.map insCu).take k) ++ [insC (insCu X[k])] = rowsOf insC ((X.map insCu).take (k + 1)) := by
        rw [List.take_succ_eq_append_getElem (by rw [List.length_map]; exact h1)]; simp only [rowsOf, List.map_append, List.map_cons, List.map_nil, List.getElem_map]
      obtain ⟨⟨xa, xs, xt, xe⟩, hx⟩ : ∃ x, X[k] = x := ⟨_, rfl⟩
      obtain ⟨⟨la, ls, lt, le⟩, hl⟩ : ∃ x, L[k] = x := ⟨_, rfl⟩
      rw [hx, hl] at o1 o2 o3 o4
      rw [hx] at ob hbusy hsum hwk hin
      simp only [hx] at hprev
      simp only at o1 o2 o3 o4 ob hbusy hsum hwk
      simp only [insC, insCu] at hin
      obtain ⟨b1, b2, b3, b4, b5, b6, b7⟩ := ob
      subst b7
      subst o1 o2
      have c1 : ¬ xt < xa := by omega
      have v1 : wrapI .i64 (xt + xs) = xt + xs := wrap_in (by omega) (by omega)
      have v2 : wrapI .i64 (xt - xa) = xt - xa := wrap_in (by omega) (by omega)
      have v3 : wrapI .i64 (xt - 1) = xt - 1 := wrap_in (by omega) (by omega)
      have hsb := sumW_bd (x := X.take (k + 1)) fun x hx => ⟨(hO.bd x (List.mem_of_mem_take hx)).1, hXb x (List.mem_of_mem_take hx)⟩
      have hsl : ((X.take (k + 1)).length : Int) ≤ 30 := by rw [List.length_take]; omega
      have hsl2 : ((X.take (k + 1)).length : Int) * 64424509440 ≤ 30 * 64424509440 := by omega
      have v4 : wrapI .i64 (sumW (X.take k) + (xt - xa)) = sumW (X.take (k + 1)) := by rw [hsum, wrap_in (by omega) (by omega)]
      have c5 : xt + xs ≤ 1099511627776 := by omega
      have htk2 : List.take k (rowsOf cuC X) = rowsOf cuC (X.take k) := by simp [rowsOf, List.map_take]
      have n5 : allLen 4 (rowsOf cuC X) = true := rowsOf_allLen fun x => rfl
      have hkl : (X.take k).length = k := by rw [List.length_take]; omega
      have hnl : ((X.map insCu).take k).length = k := by rw [List.length_take, List.length_map]; omega
      have hz : (k : Int) ≤ N := by omega
      have hap : k + 1 ≤ 1073741824 := by omega
      have hbz : ∀ j, ((X.take j).countP (actC (xt - 1)) : Int) ≤ j := fun j => by
        have := List.countP_le_length (p := actC (xt - 1)) (l := X.take j)
        have h2 : (X.take j).length ≤ j := by rw [List.length_take]; omega
        omega
      by_cases p0 : 0 < k
      rotate_left
      ((try simp -implicitDefEqProofs [-loopQ_n, h, hk, h1, h2, h3, p0, hXl, hwl, hx, hl, cuC, intC, hwk, c1, v1, v2, v3, v4, c5, htk2, n5, hkl, h]) <;> (repeat' (first | ((first | refine condD_dec ?_ ?_ | refine guardD_dec ?_ ?_) <;> (intro hc; (try simp -implicitDefEqProofs [-loopQ_n, hc, h, hk, h1, h2, h3, p0, hXl, hwl, hx, hl, cuC, intC, hwk, c1, v1, v2, v3, v4, c5, htk2, n5, hkl, h]))) | ((first | refine condD_intro ?_ ?_ | refine guardD_intro ?_ ?_) <;> (intro hd; have hc := hd; (try simp at hc) <;> (try simp -implicitDefEqProofs [-loopQ_n, hd, hc, h, hk, h1, h2, h3, p0, hXl, hwl, hx, hl, cuC, intC, hwk, c1, v1, v2, v3, v4, c5, htk2, n5, hkl, h]))) | (refine ldD_ep ?_ ?_; (focus kernel_rfl); (try simp -implicitDefEqProofs [-loopQ_n, h, hk, h1, h2, h3, p0, hXl, hwl, hx, hl, cuC, intC, hwk, c1, v1, v2, v3, v4, c5, htk2, n5, hkl, h])))))
      rotate_left
      have hp := hprev p0
      have h4 : k - 1 < X.length := by omega
      have e1 : wrapI .i64 ((k : Int) - 1) = ((k - 1 : Nat) : Int) := by rw [wrap_in (by omega) (by omega)]; omega
      obtain ⟨⟨pa, ps, pt, pe⟩, hpx⟩ : ∃ x, X[k - 1] = x := ⟨_, rfl⟩
      have hpq : X[k - 1]? = some ⟨pa, ps, pt, pe⟩ := by rw [List.getElem?_eq_getElem h4, hpx]
      rw [hpx] at hp
      simp only at hp
      have c6 : ¬ xt < pt := by omega
      ((try simp -implicitDefEqProofs [-loopQ_n, h, hk, h1, h2, h3, h4, p0, e1, hpx, hpq, c6, hXl, hwl, hx, hl, cuC, intC, hwk, c1, v1, v2, v3, v4, c5, htk2, n5, hkl, h]) <;> (repeat' (first | ((first | refine condD_dec ?_ ?_ | refine guardD_dec ?_ ?_) <;> (intro hc; (try simp -implicitDefEqProofs [-loopQ_n, hc, h, hk, h1, h2, h3, h4, p0, e1, hpx, hpq, c6, hXl, hwl, hx, hl, cuC, intC, hwk, c1, v1, v2, v3, v4, c5, htk2, n5, hkl, h]))) | ((first | refine condD_intro ?_ ?_ | refine guardD_intro ?_ ?_) <;> (intro hd; have hc := hd; (try simp at hc) <;> (try simp -implicitDefEqProofs [-loopQ_n, hd, hc, h, hk, h1, h2, h3, h4, p0, e1, hpx, hpq, c6, hXl, hwl, hx, hl, cuC, intC, hwk, c1, v1, v2, v3, v4, c5, htk2, n5, hkl, h]))) | (refine ldD_ep ?_ ?_; (focus kernel_rfl); (try simp -implicitDefEqProofs [-loopQ_n, h, hk, h1, h2, h3, h4, p0, e1, hpx, hpq, c6, hXl, hwl, hx, hl, cuC, intC, hwk, c1, v1, v2, v3, v4, c5, htk2, n5, hkl, h])))))
      all_goals
        refine loop_intro (σ := Nat) (fun j => ⟨[(4, .int .i64 M), (11, .rs (rowsOf cuC L)), (15, .rs (rowsOf cuC X)), (17, .rs (rowsOf cuC Y)), (18, .int .i64 2), (19, .rs (rowsOf intC (waitL X))), (21, .rs (rowsOf intC [sumW X])), (23, .int .i64 (sumW (X.take (k + 1)))), (24, .os 3 k), (25, .int .i64 k), (26, .op 4 0), (27, .int .i64 ((X.take j).countP (actC (xt - 1)) : Nat)), (187, .rs (rowsOf cuC X)), (188, .int .i64 N), (189, .int .i64 k), (286, .rs (rowsOf cuC (X.take k))), (287, .int .i64 k), (288, .int .i64 j)], [.gone, .gone, .gone, .row 40 true (rowsOf insC ((X.map insCu).take k)), .box 32 [.int .i64 xa, .int .i64 xs, .int .i64 xt, .int .i64 (xt + xs)]]⟩) (fun j => j ≤ k) (fun j => k - j) 0 (by simp) ?_ ?_
        · refine weak_of 5 0 rfl rfl ?_ ?_ <;> simp [refs, refsL, ins_refs, hkl]
        rintro j hj
        by_cases g : j < k
        · have u1 : wrapI .i64 ((j : Int) + 1) = ((j + 1 : Nat) : Int) := by rw [wrap_in (by omega) (by omega)]; omega
          have g1 : j < X.length := by omega
          have g2 : j < (X.take k).length := by omega
          have hcs := count_step (p := actC (xt - 1)) g1
          have hb0 := hbz (j + 1)
          obtain ⟨⟨qa, qs, qt, qe⟩, hq⟩ : ∃ x, X[j] = x := ⟨_, rfl⟩
          have hq2 : (X.take k)[j] = ⟨qa, qs, qt, qe⟩ := by rw [List.getElem_take]; exact hq
          rw [hq] at hcs
          simp only [actC, Bool.and_eq_true, decide_eq_true_eq] at hcs
          by_cases r1 : qt ≤ xt - 1
          · by_cases r2 : xt - 1 < qe
            · rw [if_pos ⟨r1, r2⟩] at hcs
              have u2 : wrapI .i64 (((X.take j).countP (actC (xt - 1)) : Nat) + 1) = ((X.take (j + 1)).countP (actC (xt - 1)) : Nat) := by rw [wrap_in (by omega) (by omega)]; omega
              ((try simp -implicitDefEqProofs [-loopQ_n, g, g1, g2, hq, hq2, cuC, hkl, r1, r2, u1, u2, v3]) <;> (repeat' (first | ((first | refine condD_dec ?_ ?_ | refine guardD_dec ?_ ?_) <;> (intro hc; (try simp -implicitDefEqProofs [-loopQ_n, hc, g, g1, g2, hq, hq2, cuC, hkl, r1, r2, u1, u2, v3]))) | ((first | refine condD_intro ?_ ?_ | refine guardD_intro ?_ ?_) <;> (intro hd; have hc := hd; (try simp at hc) <;> (try simp -implicitDefEqProofs [-loopQ_n, hd, hc, g, g1, g2, hq, hq2, cuC, hkl, r1, r2, u1, u2, v3]))) | (refine ldD_ep ?_ ?_; (focus kernel_rfl); (try simp -implicitDefEqProofs [-loopQ_n, g, g1, g2, hq, hq2, cuC, hkl, r1, r2, u1, u2, v3])))))
              refine loop_next (j + 1) g (by omega) (weak_of 5 0 rfl rfl ?_ ?_) <;> simp [refs, refsL, ins_refs]
            · rw [if_neg (fun q => r2 q.2)] at hcs
              ((try simp -implicitDefEqProofs [-loopQ_n, g, g1, g2, hq, hq2, cuC, hkl, r1, r2, u1, v3]) <;> (repeat' (first | ((first | refine condD_dec ?_ ?_ | refine guardD_dec ?_ ?_) <;> (intro hc; (try simp -implicitDefEqProofs [-loopQ_n, hc, g, g1, g2, hq, hq2, cuC, hkl, r1, r2, u1, v3]))) | ((first | refine condD_intro ?_ ?_ | refine guardD_intro ?_ ?_) <;> (intro hd; have hc := hd; (try simp at hc) <;> (try simp -implicitDefEqProofs [-loopQ_n, hd, hc, g, g1, g2, hq, hq2, cuC, hkl, r1, r2, u1, v3]))) | (refine ldD_ep ?_ ?_; (focus kernel_rfl); (try simp -implicitDefEqProofs [-loopQ_n, g, g1, g2, hq, hq2, cuC, hkl, r1, r2, u1, v3])))))
              refine loop_next (j + 1) g (by omega) (weak_of 5 0 rfl rfl ?_ ?_) <;> simp [refs, refsL, ins_refs, hcs]
          · rw [if_neg (fun q => r1 q.1)] at hcs
            ((try simp -implicitDefEqProofs [-loopQ_n, g, g1, g2, hq, hq2, cuC, hkl, r1, u1, v3]) <;> (repeat' (first | ((first | refine condD_dec ?_ ?_ | refine guardD_dec ?_ ?_) <;> (intro hc; (try simp -implicitDefEqProofs [-loopQ_n, hc, g, g1, g2, hq, hq2, cuC, hkl, r1, u1, v3]))) | ((first | refine condD_intro ?_ ?_ | refine guardD_intro ?_ ?_) <;> (intro hd; have hc := hd; (try simp at hc) <;> (try simp -implicitDefEqProofs [-loopQ_n, hd, hc, g, g1, g2, hq, hq2, cuC, hkl, r1, u1, v3]))) | (refine ldD_ep ?_ ?_; (focus kernel_rfl); (try simp -implicitDefEqProofs [-loopQ_n, g, g1, g2, hq, hq2, cuC, hkl, r1, u1, v3])))))
            refine loop_next (j + 1) g (by omega) (weak_of 5 0 rfl rfl ?_ ?_) <;> simp [refs, refsL, ins_refs, hcs]
        · have : j = k := by omega
          subst this
          by_cases hw : xa < xt
          · have hbm : ¬ (((X.take j).countP (actC (xt - 1)) : Nat) : Int) < M := by have := hbusy hw; omega
            ((try simp -implicitDefEqProofs [-loopQ_n, g, h, h3, hwl, hwk, hw, hbm, intC, c5, hnl, hap, hin, w1]) <;> (repeat' (first | ((first | refine condD_dec ?_ ?_ | refine guardD_dec ?_ ?_) <;> (intro hc; (try simp -implicitDefEqProofs [-loopQ_n, hc, g, h, h3, hwl, hwk, hw, hbm, intC, c5, hnl, hap, hin, w1]))) | ((first | refine condD_intro ?_ ?_ | refine guardD_intro ?_ ?_) <;> (intro hd; have hc := hd; (try simp at hc) <;> (try simp -implicitDefEqProofs [-loopQ_n, hd, hc, g, h, h3, hwl, hwk, hw, hbm, intC, c5, hnl, hap, hin, w1]))) | (refine ldD_ep ?_ ?_; (focus kernel_rfl); (try simp -implicitDefEqProofs [-loopQ_n, g, h, h3, hwl, hwk, hw, hbm, intC, c5, hnl, hap, hin, w1])))))
            refine loop_next (j + 1) h (by omega) (weak_of 4 0 rfl rfl ?_ ?_) <;> simp [refs, ins_refs]
          · ((try simp -implicitDefEqProofs [-loopQ_n, g, h, h3, hwl, hwk, hw, intC, c5, hnl, hap, hin, w1]) <;> (repeat' (first | ((first | refine condD_dec ?_ ?_ | refine guardD_dec ?_ ?_) <;> (intro hc; (try simp -implicitDefEqProofs [-loopQ_n, hc, g, h, h3, hwl, hwk, hw, intC, c5, hnl, hap, hin, w1]))) | ((first | refine condD_intro ?_ ?_ | refine guardD_intro ?_ ?_) <;> (intro hd; have hc := hd; (try simp at hc) <;> (try simp -implicitDefEqProofs [-loopQ_n, hd, hc, g, h, h3, hwl, hwk, hw, intC, c5, hnl, hap, hin, w1]))) | (refine ldD_ep ?_ ?_; (focus kernel_rfl); (try simp -implicitDefEqProofs [-loopQ_n, g, h, h3, hwl, hwk, hw, intC, c5, hnl, hap, hin, w1])))))
            refine loop_next (j + 1) h (by omega) (weak_of 4 0 rfl rfl ?_ ?_) <;> simp [refs, ins_refs]
    · have : k = N := by omega
      subst this
      have htN : X.take k = X := List.take_of_length_le (by omega)
      have htW : (X.map insCu).take k = X.map insCu := List.take_of_length_le (by rw [List.length_map]; omega)
      rw [htN, htW]
      ((try simp -implicitDefEqProofs [-loopQ_n, h, ins_reify, hXl]) <;> (repeat' (first | ((first | refine condD_dec ?_ ?_ | refine guardD_dec ?_ ?_) <;> (intro hc; (try simp -implicitDefEqProofs [-loopQ_n, hc, h, ins_reify, hXl]))) | ((first | refine condD_intro ?_ ?_ | refine guardD_intro ?_ ?_) <;> (intro hd; have hc := hd; (try simp at hc) <;> (try simp -implicitDefEqProofs [-loopQ_n, hd, hc, h, ins_reify, hXl]))) | ((first | (refine ldD_ep ?_ ?_; (focus kernel_rfl)) | (refine callS_mk ?_; (try simp -implicitDefEqProofs [-loopQ_n, h, ins_reify, hXl]); (first | refine callS_intro (k9) (.inl rfl) ?_))); (try simp -implicitDefEqProofs [-loopQ_n, h, ins_reify, hXl])))))
      refine callG_intro (frz_G (id := 3) k10 rfl (ins_noown _) (by simp [frL, frA, hXl]) (by simp [owns, ownsL]) ?_)
      by_cases ho : out.length = 0
      · have ho2 : out = [] := List.length_eq_zero_iff.1 ho
        subst ho2
        ((try simp -implicitDefEqProofs [-loopQ_n, frH, frB, frL, frA, intC, rowsOf, hmo]) <;> (repeat' (first | ((first | refine condD_dec ?_ ?_ | refine guardD_dec ?_ ?_) <;> (intro hc; (try simp -implicitDefEqProofs [-loopQ_n, hc, frH, frB, frL, frA, intC, rowsOf, hmo]))) | ((first | refine condD_intro ?_ ?_ | refine guardD_intro ?_ ?_) <;> (intro hd; have hc := hd; (try simp at hc) <;> (try simp -implicitDefEqProofs [-loopQ_n, hd, hc, frH, frB, frL, frA, intC, rowsOf, hmo]))) | (refine ldD_ep ?_ ?_; (focus kernel_rfl); (try simp -implicitDefEqProofs [-loopQ_n, frH, frB, frL, frA, intC, rowsOf, hmo])))))
      · have ho1 : 0 < out.length := by omega
        have ho3 : ¬ (out.length : Int) = 0 := by omega
        have k11 := imax_pure out ho1 (by omega)
        have hmx : maxL out < M := hro _ (maxL_mem (by intro e; rw [e] at ho; exact ho rfl))
        ((try simp -implicitDefEqProofs [-loopQ_n, frH, frB, frL, frA, intC, rowsOf_nil, hmo, ho, ho3, hmx]) <;> (repeat' (first | ((first | refine condD_dec ?_ ?_ | refine guardD_dec ?_ ?_) <;> (intro hc; (try simp -implicitDefEqProofs [-loopQ_n, hc, frH, frB, frL, frA, intC, rowsOf_nil, hmo, ho, ho3, hmx]))) | ((first | refine condD_intro ?_ ?_ | refine guardD_intro ?_ ?_) <;> (intro hd; have hc := hd; (try simp at hc) <;> (try simp -implicitDefEqProofs [-loopQ_n, hd, hc, frH, frB, frL, frA, intC, rowsOf_nil, hmo, ho, ho3, hmx]))) | ((first | (refine ldD_ep ?_ ?_; (focus kernel_rfl)) | (refine callS_mk ?_; (try simp -implicitDefEqProofs [-loopQ_n, frH, frB, frL, frA, intC, rowsOf_nil, hmo, ho, ho3, hmx]); (first | refine callS_intro (k11) (.inl rfl) ?_))); (try simp -implicitDefEqProofs [-loopQ_n, frH, frB, frL, frA, intC, rowsOf_nil, hmo, ho, ho3, hmx])))))
end Go.Proofs.YthiclaihlpkinaaGreat
