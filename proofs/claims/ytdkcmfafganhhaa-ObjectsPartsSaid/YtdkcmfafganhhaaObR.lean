/- What the law ObjectsParts needs beside: copies and Delete of events, IsSorted, Equal, ContainsFunc at lists of numbers. -/
import Derived.Test.YtdkcmfafganhhaaObD
import Derived.Test.YtdkcmfafganhhaaObj15
import Derived.Test.YtdkcmfafganhhaaGrD
import Derived.Test.YtdkcmfafganhhaaAbFrz
import Derived.Test.YtdkcmfafganhhaaAbMv
namespace Go.Proofs.Ytdkcmfafganhhaa
set_option linter.unusedSimpArgs false
set_option linter.unusedVariables false
set_option linter.unnecessarySimpa false
set_option linter.unusedSectionVars false
open Go.RowKit
variable [Glob]
set_option maxRecDepth 100000
theorem obj_all {l : List Obj} : allLen 3 (rowsOf objC l) = true := rowsOf_allLen fun x => rfl
theorem obj_own : ∀ {l : List Obj}, ∀ r ∈ rowsOf objC l, ∀ c ∈ r, owns c = false := rowsOf_owns' fun s c hc => by simp [objC] at hc; rcases hc with rfl | rfl | rfl <;> rfl
theorem obj_mB {ρ : Nat → Nat} {t : TypeId} {nb : Bool} {l : List Obj} : mB ρ (.row t nb (rowsOf objC l)) = .row t nb (rowsOf objC l) := by
  simp only [mB, rowsOf, List.map_map]
  congr 1
/-- Only what the slots hold is forgotten. -/
def subT (T T' : List (Nat × AV)) : Prop := ∀ p ∈ T', tget T p.1 = p.2
theorem subT_get {T : List (Nat × AV)} : ∀ {T' : List (Nat × AV)}, subT T T' → ∀ k, tget T' k = .any ∨ tget T k = tget T' k := by
  intro T'
  induction T' with
  | nil => intro _ k; exact .inl rfl
  | cons p r ih =>
    intro h k
    obtain ⟨j, v⟩ := p
    simp only [tget]
    by_cases e : j = k
    · rw [if_pos e]; subst e; exact .inr (h (j, v) (by simp))
    · rw [if_neg e]; exact ih (fun q hq => h q (by simp [hq])) k
theorem weak_slots {P : Program} {L : Nat} {T T' : List (Nat × AV)} {H : List Blk} (h : subT T T') : Weak P L ⟨T, H⟩ ⟨T', H⟩ := by
  intro B w0 X N φ a w hB hr
  refine ⟨φ, hr.hr, hr.tn, fun k => ?_, hr.size, hr.df⟩
  rcases subT_get h k with e | e
  · show RV _ _ _ _ _ (tget T' k) _
    rw [e]; exact .ro .any
  · have := hr.t k
    show RV _ _ _ _ _ (tget T' k) _
    rw [← e]; exact this
theorem cloneOb_fresh (l : List Obj) (h0 : l ≠ []) (hl : l.length ≤ 1073741824) : Fresh Try.prog 12 [.rs (rowsOf objC l)] 35 (rowsOf objC l) := by
  refine fresh_of mixed Try.func12 rfl (by kernel_rfl) (of_decide_eq_true rfl) (by kernel_rfl) (vc_run ?_)
  have h1 : l.isEmpty = false := by cases l <;> simp at h0 ⊢
  have h2 : allLen 3 (rowsOf objC l) = true := obj_all
  simp -implicitDefEqProofs [h1, hl, h2]
  exact obj_own
def zOb : List AV := [.str ByteArray.empty, .int .i64 0, .nils]
def delZ (z : List AV) (rows : List (List AV)) (i : Nat) : List (List AV) := rows.take i ++ rows.drop (i + 1) ++ [z]
theorem del_putZ {z : List AV} {rows : List (List AV)} {i n : Nat} (hn : rows.length = n) (hi : i < n) :
    putR (putR rows i ((rows.take n).drop (i + 1))) (n - 1) [z] = delZ z rows i := by
  have h1 : (rows.take n).drop (i + 1) = rows.drop (i + 1) := by rw [List.take_of_length_le (by omega)]
  rw [h1]
  have h2 : putR rows i (rows.drop (i + 1)) = rows.take i ++ rows.drop (i + 1) ++ rows.drop (n - 1) := by
    unfold putR
    rw [List.length_drop, show i + (rows.length - (i + 1)) = n - 1 by omega]
  rw [h2]
  unfold putR delZ
  have h3 : (rows.take i ++ rows.drop (i + 1)).length = n - 1 := by simp; omega
  have h9 : (rows.take i ++ rows.drop (i + 1) ++ rows.drop (n - 1)).drop (n - 1 + [z].length) = [] := List.drop_of_length_le (by simp only [List.length_append, List.length_take, List.length_drop, List.length_cons, List.length_nil]; omega)
  rw [List.take_append_of_le_length (by omega), List.take_of_length_le (by omega), h9]
  simp
theorem delZ_take {z : List AV} {l : List Obj} {k : Nat} (h : k < l.length) : (delZ z (rowsOf objC l) k).take (l.length - 1) = rowsOf objC (l.eraseIdx k) := by
  unfold delZ
  have e : ((rowsOf objC l).take k ++ (rowsOf objC l).drop (k + 1)).length = l.length - 1 := by simp [rowsOf]; omega
  rw [List.take_append_of_le_length (by omega), List.take_of_length_le (by omega), List.eraseIdx_eq_take_drop_succ]
  simp [rowsOf, List.map_take, List.map_drop]
theorem delZ_len {z : List AV} {l : List Obj} {k : Nat} (h : k < l.length) : (delZ z (rowsOf objC l) k).length = l.length := by
  unfold delZ
  simp [rowsOf]; omega
set_option maxHeartbeats 8000000 in
/-- An own slice of events, one of which is taken out; what is left is written no more. -/
theorem delOb_G (l0 : List Obj) (i n : Nat) (hn : l0.length = n) (hi : i < n) (h0 : n ≤ 1073741824) :
    CallG Try.prog 11 [.os 0 n, .int .i64 i, .int .i64 (i + 1)] [.row 35 false (rowsOf objC l0)] fun r H => r = .rs (rowsOf objC (l0.eraseIdx i)) ∧ H = [.gone, .gone] := by
  have hn' : (rowsOf objC l0).length = n := by rw [rowsOf_length, hn]
  have ha : allLen 3 (rowsOf objC l0) = true := obj_all
  have h1 : (i : Int) ≤ n := by omega
  have h2 : (i : Int) + 1 ≤ n := by omega
  have h3 : ¬ (i : Int) = i + 1 := by omega
  have h4 : (0 : Int) ≤ i := by omega
  have h5 : (i : Int) ≤ i + 1 := by omega
  have h6 : 0 < n := by omega
  have h8 : (0 : Int) ≤ (i : Int) + 1 := by omega
  have e1 : i + (n - (i + 1)) = n - 1 := by omega
  have e2 : n - 1 ≤ n := by omega
  have e3 : ((n - 1 : Nat) : Int) ≤ n := by omega
  have e4 : n - (n - 1) = 1 := by omega
  have h7 : (n : Int) ≠ 0 := by omega
  obtain ⟨rows, hrows⟩ : ∃ r, rowsOf objC l0 = r := ⟨_, rfl⟩
  have hT := delZ_take (z := zOb) (l := l0) (k := i) (by omega)
  have hL := delZ_len (z := zOb) (l := l0) (k := i) (by omega)
  rw [hrows, hn] at hT hL
  have howE : ∀ r ∈ rowsOf objC (l0.eraseIdx i), ∀ c ∈ r, owns c = false := obj_own
  rw [hrows] at hn' ha ⊢
  have hP : (putR rows i ((rows.take n).drop (i + 1))).length = n := by
    rw [putR_len (by simp only [List.length_take, List.length_drop]; omega), hn']
  have hD := del_putZ (z := zOb) hn' hi
  refine inl_G mixed Try.func11 rfl (by kernel_rfl) (of_decide_eq_true rfl) (by kernel_rfl) (vc_run ?_)
  ((try simp -implicitDefEqProofs [-loopQ_n, hn', hi, h1, h2, h3, h4, h5, h6, h7, h8, e1, e2, e3, e4, ha, h0, hP, hD, zOb]) <;> (repeat' (first | (refine condD_dec ?_ ?_ <;> (intro hc; (try simp -implicitDefEqProofs [-loopQ_n, hc, hn', hi, h1, h2, h3, h4, h5, h6, h7, h8, e1, e2, e3, e4, ha, h0, hP, hD, zOb]))) | (refine guardD_dec ?_ ?_ <;> (intro hc; (try simp -implicitDefEqProofs [-loopQ_n, hc, hn', hi, h1, h2, h3, h4, h5, h6, h7, h8, e1, e2, e3, e4, ha, h0, hP, hD, zOb]))) | (refine condD_intro ?_ ?_ <;> (intro hd; have hc := hd; (try simp at hc) <;> (try simp -implicitDefEqProofs [-loopQ_n, hd, hc, hn', hi, h1, h2, h3, h4, h5, h6, h7, h8, e1, e2, e3, e4, ha, h0, hP, hD, zOb]))) | (refine guardD_intro ?_ ?_ <;> (intro hd; have hc := hd; (try simp at hc) <;> (try simp -implicitDefEqProofs [-loopQ_n, hd, hc, hn', hi, h1, h2, h3, h4, h5, h6, h7, h8, e1, e2, e3, e4, ha, h0, hP, hD, zOb]))) | (refine ldD_ep ?_ ?_; (focus kernel_rfl); (try simp -implicitDefEqProofs [-loopQ_n, hn', hi, h1, h2, h3, h4, h5, h6, h7, h8, e1, e2, e3, e4, ha, h0, hP, hD, zOb])))))
  split
  · rename_i e1 e2 e3
    simp at e3
    omega
  rotate_left
  · rename_i e
    exact absurd rfl (e _ _ _ rfl rfl)
  rename_i l h m _ e1 e2 e3
  simp only [Option.some.injEq] at e1 e2 e3
  subst e1 e2 e3
  ((try simp -implicitDefEqProofs [-loopQ_n, hn', hi, h1, h2, h3, h4, h5, h6, h7, h8, e1, e2, e3, e4, ha, h0, hP, hD, zOb]) <;> (repeat' (first | (refine condD_dec ?_ ?_ <;> (intro hc; (try simp -implicitDefEqProofs [-loopQ_n, hc, hn', hi, h1, h2, h3, h4, h5, h6, h7, h8, e1, e2, e3, e4, ha, h0, hP, hD, zOb]))) | (refine guardD_dec ?_ ?_ <;> (intro hc; (try simp -implicitDefEqProofs [-loopQ_n, hc, hn', hi, h1, h2, h3, h4, h5, h6, h7, h8, e1, e2, e3, e4, ha, h0, hP, hD, zOb]))) | (refine condD_intro ?_ ?_ <;> (intro hd; have hc := hd; (try simp at hc) <;> (try simp -implicitDefEqProofs [-loopQ_n, hd, hc, hn', hi, h1, h2, h3, h4, h5, h6, h7, h8, e1, e2, e3, e4, ha, h0, hP, hD, zOb]))) | (refine guardD_intro ?_ ?_ <;> (intro hd; have hc := hd; (try simp at hc) <;> (try simp -implicitDefEqProofs [-loopQ_n, hd, hc, hn', hi, h1, h2, h3, h4, h5, h6, h7, h8, e1, e2, e3, e4, ha, h0, hP, hD, zOb]))) | (refine ldD_ep ?_ ?_; (focus kernel_rfl); (try simp -implicitDefEqProofs [-loopQ_n, hn', hi, h1, h2, h3, h4, h5, h6, h7, h8, e1, e2, e3, e4, ha, h0, hP, hD, zOb])))))
  rw [show [[AV.str ByteArray.empty, AV.int .i64 0, AV.nils]] = [zOb] from rfl, hD]
  refine ⟨.ow 0 n 0 (n - 1), .rs (rowsOf objC (List.eraseIdx l0 i)), [.gone, .gone], by simp, ?_, rfl, rfl⟩
  have hw1 := weak_mv (P := Try.prog) (L := 1) (s := ⟨[(0, .ow 0 n 0 (n - 1))], [.row 35 false (delZ zOb rows i)]⟩) 0 n (n - 1) 35 false (delZ zOb rows i) rfl hL (by omega) (by omega)
  rw [hT] at hw1
  have hw2 := weak_frz (P := Try.prog) (L := 1) (s := ⟨[(0, .os 1 (n - 1))], [.gone, .row 35 false (rowsOf objC (List.eraseIdx l0 i))]⟩) 1 35 false (rowsOf objC (List.eraseIdx l0 i)) rfl howE
  refine Weak.trans ?_ (Weak.trans hw2 ?_)
  · have e : (⟨mvT 0 n (n - 1) 1 [(0, .ow 0 n 0 (n - 1))], mvH 0 n (n - 1) 1 (.row 35 false (rowsOf objC (List.eraseIdx l0 i))) [.row 35 false (delZ zOb rows i)]⟩ : St) = ⟨[(0, .os 1 (n - 1))], [.gone, .row 35 false (rowsOf objC (List.eraseIdx l0 i))]⟩ := by
      have h9 : mB id (.row 35 false (rowsOf objC (List.eraseIdx l0 i))) = .row 35 false (rowsOf objC (List.eraseIdx l0 i)) := obj_mB
      have h10 : (rowsOf objC (List.eraseIdx l0 i)).map (mvL 0 n (n - 1) 1) = rowsOf objC (List.eraseIdx l0 i) := by
        unfold rowsOf
        rw [List.map_map]
        exact List.map_congr_left fun x _ => rfl
      simp [mvT, mvH, mvA, mvB, h10]
    rw [← e]
    exact hw1
  · refine weak_slots ?_
    simp [subT, frA]
    rw [List.length_eraseIdx, if_pos (by omega)]; omega
theorem intR_reify {H : List Blk} {n : Nat} {l : List Int} : (rowsOf intC l).mapM (fun row => row.mapM (reify H (n + 1))) = some (rowsOf intC l) := rowsOf_reify fun x => by simp [intC, reify]
theorem intR_refs {m : Nat} {l : List Int} : refsR m (rowsOf intC l) = true := rowsOf_refs fun x => by simp [intC, refs]
theorem isnan_pure (a : Int) : Pure Try.prog 39 [.int .i64 a] (.bool false) := by
  refine pure_of mixed Try.func39 rfl (by kernel_rfl) (of_decide_eq_true rfl) (by kernel_rfl) (vc_run ?_)
  ((try simp -implicitDefEqProofs [-loopQ_n]) <;> (repeat' (first | (refine condD_dec ?_ ?_ <;> (intro hc; (try simp -implicitDefEqProofs [-loopQ_n, hc]))) | (refine guardD_dec ?_ ?_ <;> (intro hc; (try simp -implicitDefEqProofs [-loopQ_n, hc]))) | (refine condD_intro ?_ ?_ <;> (intro hd; have hc := hd; (try simp at hc) <;> (try simp -implicitDefEqProofs [-loopQ_n, hd, hc]))) | (refine guardD_intro ?_ ?_ <;> (intro hd; have hc := hd; (try simp at hc) <;> (try simp -implicitDefEqProofs [-loopQ_n, hd, hc]))) | (refine ldD_ep ?_ ?_; (focus kernel_rfl); (try simp -implicitDefEqProofs [-loopQ_n])))))
theorem less_pure (a b : Int) : Pure Try.prog 25 [.int .i64 a, .int .i64 b] (.bool (decide (a < b))) := by
  refine pure_of mixed Try.func25 rfl (by kernel_rfl) (of_decide_eq_true rfl) (by kernel_rfl) (vc_run ?_)
  ((try simp -implicitDefEqProofs [-loopQ_n]) <;> (repeat' (first | (refine condD_dec ?_ ?_ <;> (intro hc; (try simp -implicitDefEqProofs [-loopQ_n, hc]))) | (refine guardD_dec ?_ ?_ <;> (intro hc; (try simp -implicitDefEqProofs [-loopQ_n, hc]))) | (refine condD_intro ?_ ?_ <;> (intro hd; have hc := hd; (try simp at hc) <;> (try simp -implicitDefEqProofs [-loopQ_n, hd, hc]))) | (refine guardD_intro ?_ ?_ <;> (intro hd; have hc := hd; (try simp at hc) <;> (try simp -implicitDefEqProofs [-loopQ_n, hd, hc]))) | (refine ldD_ep ?_ ?_; (focus kernel_rfl); (try simp -implicitDefEqProofs [-loopQ_n])) | (refine callS_mk ?_; (try simp -implicitDefEqProofs [-loopQ_n]); (first | refine callS_intro (isnan_pure a) (.inl rfl) ?_ | refine callS_intro (isnan_pure b) (.inl rfl) ?_); (try simp -implicitDefEqProofs [-loopQ_n])))))
theorem isSorted_pure (l : List Int) (h : l.Pairwise (· < ·)) (hl : l.length ≤ 1000000) : Pure Try.prog 7 [.rs (rowsOf intC l)] (.bool true) := by
  refine pure_of mixed Try.func7 rfl (by kernel_rfl) (of_decide_eq_true rfl) (by kernel_rfl) (vc_run ?_)
  have w0 : wrapI .i64 ((l.length : Int) - 1) = (l.length : Int) - 1 := wrap_in (by omega) (by omega)
  ((try simp -implicitDefEqProofs [-loopQ_n, w0]) <;> (repeat' (first | (refine condD_dec ?_ ?_ <;> (intro hc; (try simp -implicitDefEqProofs [-loopQ_n, hc, w0]))) | (refine guardD_dec ?_ ?_ <;> (intro hc; (try simp -implicitDefEqProofs [-loopQ_n, hc, w0]))) | (refine condD_intro ?_ ?_ <;> (intro hd; have hc := hd; (try simp at hc) <;> (try simp -implicitDefEqProofs [-loopQ_n, hd, hc, w0]))) | (refine guardD_intro ?_ ?_ <;> (intro hd; have hc := hd; (try simp at hc) <;> (try simp -implicitDefEqProofs [-loopQ_n, hd, hc, w0]))) | (refine ldD_ep ?_ ?_; (focus kernel_rfl); (try simp -implicitDefEqProofs [-loopQ_n, w0])))))
  refine loop_intro (σ := Nat) (fun i => ⟨[(0, .rs (rowsOf intC l)), (3, .int .i64 ((i : Int) - 1))], []⟩) (fun i => i ≤ l.length) (fun i => i) l.length (by simp) ?_ ?_
  · refine weak_of 0 0 rfl rfl ?_ ?_ <;> simp [intR_refs, w0]
  intro i hi
  by_cases h1 : 1 < i
  · obtain ⟨j, rfl⟩ : ∃ j, i = j + 2 := ⟨i - 2, by omega⟩
    have e1 : ((j + 2 : Nat) : Int) - 1 = ((j + 1 : Nat) : Int) := by omega
    have w1 : wrapI .i64 (((j + 1 : Nat) : Int) - 1) = (j : Int) := by rw [wrap_in (by omega) (by omega)]; omega
    have h2 : j + 1 < l.length := by omega
    have h3 : j < l.length := by omega
    have h4 : 0 < j + 1 := by omega
    have hlt : l[j] < l[j + 1] := List.pairwise_iff_getElem.1 h j (j + 1) h3 h2 (by omega)
    obtain ⟨x, hx⟩ : ∃ x, l[j] = x := ⟨_, rfl⟩
    obtain ⟨y, hy⟩ : ∃ y, l[j + 1] = y := ⟨_, rfl⟩
    rw [hx, hy] at hlt
    have hc : Pure Try.prog 25 [.int .i64 y, .int .i64 x] (.bool false) := by
      have := less_pure y x
      rwa [decide_eq_false (by omega)] at this
    simp only [e1]
    obtain ⟨m, hm⟩ : ∃ m, j + 1 = m := ⟨_, rfl⟩
    rw [hm] at w1 h2 h4
    simp only [hm] at hy ⊢
    ((try simp -implicitDefEqProofs [-loopQ_n, w1, h2, h3, h4, hx, hy, intC]) <;> (repeat' (first | (refine condD_dec ?_ ?_ <;> (intro hc; (try simp -implicitDefEqProofs [-loopQ_n, hc, w1, h2, h3, h4, hx, hy, intC]))) | (refine guardD_dec ?_ ?_ <;> (intro hc; (try simp -implicitDefEqProofs [-loopQ_n, hc, w1, h2, h3, h4, hx, hy, intC]))) | (refine condD_intro ?_ ?_ <;> (intro hd; have hc := hd; (try simp at hc) <;> (try simp -implicitDefEqProofs [-loopQ_n, hd, hc, w1, h2, h3, h4, hx, hy, intC]))) | (refine guardD_intro ?_ ?_ <;> (intro hd; have hc := hd; (try simp at hc) <;> (try simp -implicitDefEqProofs [-loopQ_n, hd, hc, w1, h2, h3, h4, hx, hy, intC]))) | (refine ldD_ep ?_ ?_; (focus kernel_rfl); (try simp -implicitDefEqProofs [-loopQ_n, w1, h2, h3, h4, hx, hy, intC])) | (refine callS_mk ?_; (try simp -implicitDefEqProofs [-loopQ_n, w1, h2, h3, h4, hx, hy, intC]); (first | refine callS_intro (hc) (.inl rfl) ?_); (try simp -implicitDefEqProofs [-loopQ_n, w1, h2, h3, h4, hx, hy, intC])))))
    refine loop_next (j + 1) (by omega) (by omega) (weak_of 0 0 rfl rfl ?_ ?_) <;> simp [intR_refs, w1]
  · have h4 : ¬ (1 : Int) < (i : Int) := by omega
    ((try simp -implicitDefEqProofs [-loopQ_n, h4]) <;> (repeat' (first | (refine condD_dec ?_ ?_ <;> (intro hc; (try simp -implicitDefEqProofs [-loopQ_n, hc, h4]))) | (refine guardD_dec ?_ ?_ <;> (intro hc; (try simp -implicitDefEqProofs [-loopQ_n, hc, h4]))) | (refine condD_intro ?_ ?_ <;> (intro hd; have hc := hd; (try simp at hc) <;> (try simp -implicitDefEqProofs [-loopQ_n, hd, hc, h4]))) | (refine guardD_intro ?_ ?_ <;> (intro hd; have hc := hd; (try simp at hc) <;> (try simp -implicitDefEqProofs [-loopQ_n, hd, hc, h4]))) | (refine ldD_ep ?_ ?_; (focus kernel_rfl); (try simp -implicitDefEqProofs [-loopQ_n, h4])))))
theorem eqI2_pure (a b : List Int) (ha : a.length ≤ 1000000) (hb : b.length ≤ 1000000) : Pure Try.prog 15 [.rs (rowsOf intC a), .rs (rowsOf intC b)] (.bool (decide (a = b))) := by
  by_cases hlen : a.length = b.length
  rotate_left
  · have hne : ¬ a = b := fun e => hlen (by rw [e])
    have hl2 : ¬ (a.length : Int) = b.length := by omega
    rw [decide_eq_false hne]
    refine pure_of mixed Try.func15 rfl (by kernel_rfl) (of_decide_eq_true rfl) (by kernel_rfl) (vc_run ?_)
    ((try simp -implicitDefEqProofs [-loopQ_n, hl2]) <;> (repeat' (first | (refine condD_dec ?_ ?_ <;> (intro hc; (try simp -implicitDefEqProofs [-loopQ_n, hc, hl2]))) | (refine guardD_dec ?_ ?_ <;> (intro hc; (try simp -implicitDefEqProofs [-loopQ_n, hc, hl2]))) | (refine condD_intro ?_ ?_ <;> (intro hd; have hc := hd; (try simp at hc) <;> (try simp -implicitDefEqProofs [-loopQ_n, hd, hc, hl2]))) | (refine guardD_intro ?_ ?_ <;> (intro hd; have hc := hd; (try simp at hc) <;> (try simp -implicitDefEqProofs [-loopQ_n, hd, hc, hl2]))) | (refine ldD_ep ?_ ?_; (focus kernel_rfl); (try simp -implicitDefEqProofs [-loopQ_n, hl2])))))
  have hl2 : (a.length : Int) = b.length := by omega
  refine pure_of mixed Try.func15 rfl (by kernel_rfl) (of_decide_eq_true rfl) (by kernel_rfl) (vc_run ?_)
  ((try simp -implicitDefEqProofs [-loopQ_n, hl2]) <;> (repeat' (first | (refine condD_dec ?_ ?_ <;> (intro hc; (try simp -implicitDefEqProofs [-loopQ_n, hc, hl2]))) | (refine guardD_dec ?_ ?_ <;> (intro hc; (try simp -implicitDefEqProofs [-loopQ_n, hc, hl2]))) | (refine condD_intro ?_ ?_ <;> (intro hd; have hc := hd; (try simp at hc) <;> (try simp -implicitDefEqProofs [-loopQ_n, hd, hc, hl2]))) | (refine guardD_intro ?_ ?_ <;> (intro hd; have hc := hd; (try simp at hc) <;> (try simp -implicitDefEqProofs [-loopQ_n, hd, hc, hl2]))) | (refine ldD_ep ?_ ?_; (focus kernel_rfl); (try simp -implicitDefEqProofs [-loopQ_n, hl2])))))
  refine loop_intro (σ := Nat) (fun i => ⟨[(0, .rs (rowsOf intC a)), (1, .rs (rowsOf intC b)), (12, .int .i64 b.length), (13, .int .i64 i)], []⟩) (fun i => i ≤ b.length ∧ a.take i = b.take i) (fun i => b.length - i) 0 (by simp) ?_ ?_
  · refine weak_of 0 0 rfl rfl ?_ ?_ <;> simp [intR_refs, hl2]
  rintro i ⟨hi, ht⟩
  by_cases h : i < b.length
  · have h2 : i < a.length := by omega
    have w1 : wrapI .i64 ((i : Int) + 1) = ((i + 1 : Nat) : Int) := by rw [wrap_in (by omega) (by omega)]; omega
    have hts : a[i] = b[i] → a.take (i + 1) = b.take (i + 1) := fun e => by rw [List.take_succ_eq_append_getElem h, List.take_succ_eq_append_getElem h2, ht, e]
    have hne : a[i] ≠ b[i] → a ≠ b := fun e q => e (by subst q; rfl)
    obtain ⟨x, hx⟩ : ∃ x, a[i] = x := ⟨_, rfl⟩
    obtain ⟨y, hy⟩ : ∃ y, b[i] = y := ⟨_, rfl⟩
    rw [hx, hy] at hts hne
    by_cases c1 : x = y
    · subst c1
      ((try simp -implicitDefEqProofs [-loopQ_n, h, h2, hx, hy, intC, w1]) <;> (repeat' (first | (refine condD_dec ?_ ?_ <;> (intro hc; (try simp -implicitDefEqProofs [-loopQ_n, hc, h, h2, hx, hy, intC, w1]))) | (refine guardD_dec ?_ ?_ <;> (intro hc; (try simp -implicitDefEqProofs [-loopQ_n, hc, h, h2, hx, hy, intC, w1]))) | (refine condD_intro ?_ ?_ <;> (intro hd; have hc := hd; (try simp at hc) <;> (try simp -implicitDefEqProofs [-loopQ_n, hd, hc, h, h2, hx, hy, intC, w1]))) | (refine guardD_intro ?_ ?_ <;> (intro hd; have hc := hd; (try simp at hc) <;> (try simp -implicitDefEqProofs [-loopQ_n, hd, hc, h, h2, hx, hy, intC, w1]))) | (refine ldD_ep ?_ ?_; (focus kernel_rfl); (try simp -implicitDefEqProofs [-loopQ_n, h, h2, hx, hy, intC, w1])))))
      refine loop_next (i + 1) ⟨h, hts rfl⟩ (by omega) (weak_of 0 0 rfl rfl ?_ ?_) <;> simp [intR_refs]
    · rw [decide_eq_false (hne c1)]
      ((try simp -implicitDefEqProofs [-loopQ_n, h, h2, hx, hy, intC, w1, c1]) <;> (repeat' (first | (refine condD_dec ?_ ?_ <;> (intro hc; (try simp -implicitDefEqProofs [-loopQ_n, hc, h, h2, hx, hy, intC, w1, c1]))) | (refine guardD_dec ?_ ?_ <;> (intro hc; (try simp -implicitDefEqProofs [-loopQ_n, hc, h, h2, hx, hy, intC, w1, c1]))) | (refine condD_intro ?_ ?_ <;> (intro hd; have hc := hd; (try simp at hc) <;> (try simp -implicitDefEqProofs [-loopQ_n, hd, hc, h, h2, hx, hy, intC, w1, c1]))) | (refine guardD_intro ?_ ?_ <;> (intro hd; have hc := hd; (try simp at hc) <;> (try simp -implicitDefEqProofs [-loopQ_n, hd, hc, h, h2, hx, hy, intC, w1, c1]))) | (refine ldD_ep ?_ ?_; (focus kernel_rfl); (try simp -implicitDefEqProofs [-loopQ_n, h, h2, hx, hy, intC, w1, c1])))))
  · have : a = b := by rwa [List.take_of_length_le (by omega), List.take_of_length_le (by omega)] at ht
    rw [decide_eq_true this]
    ((try simp -implicitDefEqProofs [-loopQ_n, h]) <;> (repeat' (first | (refine condD_dec ?_ ?_ <;> (intro hc; (try simp -implicitDefEqProofs [-loopQ_n, hc, h]))) | (refine guardD_dec ?_ ?_ <;> (intro hc; (try simp -implicitDefEqProofs [-loopQ_n, hc, h]))) | (refine condD_intro ?_ ?_ <;> (intro hd; have hc := hd; (try simp at hc) <;> (try simp -implicitDefEqProofs [-loopQ_n, hd, hc, h]))) | (refine guardD_intro ?_ ?_ <;> (intro hd; have hc := hd; (try simp at hc) <;> (try simp -implicitDefEqProofs [-loopQ_n, hd, hc, h]))) | (refine ldD_ep ?_ ?_; (focus kernel_rfl); (try simp -implicitDefEqProofs [-loopQ_n, h])))))
def liC (x : List Int) : List AV := [.rs (rowsOf intC x)]
theorem lsF_idx {p : (List Int) → Bool} {l : List (List Int)} {g : Nat} {caps : List AV} (hp : ∀ x ∈ l, Pure Try.prog g (.rs (rowsOf intC x) :: caps) (.bool (p x))) (hc : ∀ H k, caps.mapM (reify H (k + 5)) = some caps) (hf : refsL 0 caps = true) (hl : l.length ≤ 9223372036854775807) :
    Pure Try.prog 28 [.rs (rowsOf liC l), .fn g caps] (.int .i64 (idxOf p l)) := by
  refine pure_of mixed Try.func28 rfl (by kernel_rfl) (of_decide_eq_true rfl) (by kernel_rfl) (vc_run ?_)
  simp -implicitDefEqProofs
  refine loop_intro (σ := Nat) (fun i => ⟨[(0, .rs (rowsOf liC l)), (1, .fn g caps), (7, .int .i64 l.length), (8, .int .i64 i)], []⟩) (fun i => i ≤ l.length ∧ allF p (l.take i)) (fun i => l.length - i) 0 ⟨Nat.zero_le _, allF_nil⟩ ?_ ?_
  · refine weak_of 0 0 rfl rfl ?_ ?_ <;> simp [hf]
  · rintro i ⟨hi, hall⟩
    by_cases h : i < l.length
    · simp -implicitDefEqProofs [h, liC]
      have hc8 : ∀ H, caps.mapM (reify H 8) = some caps := fun H => hc H 3
      refine call_intro (hp l[i] (by simp)) (by simp -implicitDefEqProofs [hc8, liC]) (.inl rfl) ?_
      by_cases hpx : p l[i] = true
      · simp -implicitDefEqProofs [hpx]
        exact (idxOf_some p l i h hall hpx).symm
      · have hpx : p l[i] = false := by simpa using hpx
        simp -implicitDefEqProofs [hpx]
        refine ⟨i + 1, ⟨by omega, allF_succ hall h hpx⟩, by omega, weak_of 0 0 rfl rfl ?_ ?_⟩
        · simp [hf]
          exact (wrap_in (by omega) (by omega)).symm
        · simp
    · simp -implicitDefEqProofs [h]
      rw [idxOf_none p l (allF_all hall h)]
theorem lsF_any {p : (List Int) → Bool} {l : List (List Int)} {g : Nat} {caps : List AV} (hp : ∀ x ∈ l, Pure Try.prog g (.rs (rowsOf intC x) :: caps) (.bool (p x))) (hc : ∀ H k, caps.mapM (reify H (k + 5)) = some caps) (hf : refsL 0 caps = true) (hl : l.length ≤ 9223372036854775807) :
    Pure Try.prog 13 [.rs (rowsOf liC l), .fn g caps] (.bool (l.any p)) := by
  refine pure_of mixed Try.func13 rfl (by kernel_rfl) (of_decide_eq_true rfl) (by kernel_rfl) (vc_run ?_)
  simp -implicitDefEqProofs
  have hc7 : ∀ H, caps.mapM (reify H 7) = some caps := fun H => hc H 2
  refine call_intro (lsF_idx hp hc hf hl) (by simp -implicitDefEqProofs [hc7]) (.inl rfl) ?_
  simp -implicitDefEqProofs
  rw [← ge_idxOf]

theorem par2_pure (x want : List Int) (hx : x.length ≤ 1000000) (hw : want.length ≤ 1000000) : Pure Try.prog 14 [.rs (rowsOf intC x), .rp [.rs (rowsOf intC want)]] (.bool (decide (x = want))) := by
  refine pure_of mixed Try.func14 rfl (by kernel_rfl) (of_decide_eq_true rfl) (by kernel_rfl) (vc_run ?_)
  ((try simp -implicitDefEqProofs [-loopQ_n]) <;> (repeat' (first | (refine condD_dec ?_ ?_ <;> (intro hc; (try simp -implicitDefEqProofs [-loopQ_n, hc]))) | (refine guardD_dec ?_ ?_ <;> (intro hc; (try simp -implicitDefEqProofs [-loopQ_n, hc]))) | (refine condD_intro ?_ ?_ <;> (intro hd; have hc := hd; (try simp at hc) <;> (try simp -implicitDefEqProofs [-loopQ_n, hd, hc]))) | (refine guardD_intro ?_ ?_ <;> (intro hd; have hc := hd; (try simp at hc) <;> (try simp -implicitDefEqProofs [-loopQ_n, hd, hc]))) | (refine ldD_ep ?_ ?_; (focus kernel_rfl); (try simp -implicitDefEqProofs [-loopQ_n])) | (refine callS_mk ?_; (try simp -implicitDefEqProofs [-loopQ_n]); (first | refine callS_intro (eqI2_pure x want hx hw) (.inl rfl) ?_); (try simp -implicitDefEqProofs [-loopQ_n])))))
theorem par1_pure (r : Rf) (act : ByteArray) (time : Int) (refs : List Rf) (hl : refs.length ≤ 9223372036854775807) : Pure Try.prog 9 [.agg (refC r), .rp [.str act, .int .i64 time, .rs (rowsOf refC refs)]] (.bool (refs.any (eqR r))) := by
  obtain ⟨a, b⟩ := r
  refine pure_of mixed Try.func9 rfl (by kernel_rfl) (of_decide_eq_true rfl) (by kernel_rfl) (vc_run ?_)
  ((try simp -implicitDefEqProofs [-loopQ_n, refC]) <;> (repeat' (first | (refine condD_dec ?_ ?_ <;> (intro hc; (try simp -implicitDefEqProofs [-loopQ_n, hc, refC]))) | (refine guardD_dec ?_ ?_ <;> (intro hc; (try simp -implicitDefEqProofs [-loopQ_n, hc, refC]))) | (refine condD_intro ?_ ?_ <;> (intro hd; have hc := hd; (try simp at hc) <;> (try simp -implicitDefEqProofs [-loopQ_n, hd, hc, refC]))) | (refine guardD_intro ?_ ?_ <;> (intro hd; have hc := hd; (try simp at hc) <;> (try simp -implicitDefEqProofs [-loopQ_n, hd, hc, refC]))) | (refine ldD_ep ?_ ?_; (focus kernel_rfl); (try simp -implicitDefEqProofs [-loopQ_n, refC])) | (refine callS_mk ?_; (try simp -implicitDefEqProofs [-loopQ_n, refC]); (first | refine callS_intro (rfContains_pure refs a b hl) (.inl rfl) ?_); (try simp -implicitDefEqProofs [-loopQ_n, refC])))))
theorem objV_at' {l : List Obj} (h : objV l = true) (i : Nat) (hi : i < l.length) : objOk l i l[i] = true := by
  simp only [objV, objsB, Bool.and_eq_true, List.all_eq_true, List.mem_range] at h
  have := h.2 i hi
  rwa [List.getElem?_eq_getElem hi] at this
theorem objOk_iff {l : List Obj} {i : Nat} {o : Obj} : objOk l i o = true ↔ isNameS o.act = true ∧ lastT l i ≤ o.time ∧ o.time ≤ 1099511627776 ∧ (o.refs.length : Int) ≤ 20 ∧ refsB o.refs = true := by
  simp [objOk, and_assoc]
/-- A valid log without one of its events is valid. -/
theorem objV_erase {l : List Obj} (h : objV l = true) (k : Nat) (hk : k < l.length) : objV (l.eraseIdx k) = true := by
  have hat := fun i hi => objOk_iff.1 (objV_at' h i hi)
  have hlen : (l.eraseIdx k).length = l.length - 1 := by rw [List.length_eraseIdx, if_pos hk]
  have hsm := (objV_small h).1
  have hnn : ∀ i (hi : i < l.length), 0 ≤ l[i].time := by
    intro i
    induction i with
    | zero => intro hi; have := (hat 0 hi).2.1; simpa [lastT] using this
    | succ i ih =>
      intro hi
      have h1 := (hat (i + 1) hi).2.1
      have h2 := ih (by omega)
      simp only [lastT, List.getElem?_eq_getElem (show i < l.length by omega)] at h1
      omega
  have hstep : ∀ i (hi : i + 1 < l.length), l[i].time ≤ l[i + 1].time := fun i hi => by
    have h1 := (hat (i + 1) hi).2.1
    simpa only [lastT, List.getElem?_eq_getElem (show i < l.length by omega)] using h1
  have hget : ∀ i, i < l.length - 1 → (l.eraseIdx k)[i]? = l[unN k i]? := fun i hi => by
    rw [List.getElem?_eraseIdx]
    unfold unN
    split <;> rfl
  have hall : objsOk (l.eraseIdx k) (l.eraseIdx k).length := fun i hi _ => by
    have hi' : i < l.length - 1 := by omega
    have hu := un_lt hk hi'
    have he : (l.eraseIdx k)[i] = l[unN k i] := by
      have := hget i hi'
      rw [List.getElem?_eq_getElem hi, List.getElem?_eq_getElem hu] at this
      exact Option.some.inj this
    obtain ⟨a1, a2, a3, a4, a5⟩ := hat _ hu
    rw [he]
    refine objOk_iff.2 ⟨a1, ?_, a3, a4, a5⟩
    cases i with
    | zero => exact hnn _ hu
    | succ i =>
      have hi2 : i < l.length - 1 := by omega
      have hu2 := un_lt hk hi2
      show (match (l.eraseIdx k)[i]? with | some o => o.time | none => 0) ≤ _
      rw [hget i hi2, List.getElem?_eq_getElem hu2]
      simp only
      by_cases q : i + 1 < k
      · have e1 : unN k i = i := by unfold unN; rw [if_pos (by omega)]
        have e2 : unN k (i + 1) = i + 1 := by unfold unN; rw [if_pos q]
        simp only [e1, e2]
        exact hstep i (by omega)
      · by_cases q2 : i + 1 = k
        · have e1 : unN k i = i := by unfold unN; rw [if_pos (by omega)]
          have e2 : unN k (i + 1) = i + 2 := by unfold unN; rw [if_neg (by omega)]
          simp only [e1, e2]
          exact Int.le_trans (hstep i (by omega)) (hstep (i + 1) (by omega))
        · have e1 : unN k i = i + 1 := by unfold unN; rw [if_neg (by omega)]
          have e2 : unN k (i + 1) = i + 2 := by unfold unN; rw [if_neg (by omega)]
          simp only [e1, e2]
          exact hstep (i + 1) (by omega)
  have hb := objsB_all (i := (l.eraseIdx k).length) hall (by omega)
  simp only [objV, hb, Bool.and_true, decide_eq_true_eq]
  omega
theorem share_up {l : List Obj} {k : Nat} (hk : k < l.length) (i j : Nat) (h : shareR (l.eraseIdx k) i j) : shareR l (unN k i) (unN k j) := by
  obtain ⟨a, b, h1, h2, h3⟩ := h
  have hget : ∀ i, (l.eraseIdx k)[i]? = l[unN k i]? := fun i => by
    rw [List.getElem?_eraseIdx]
    unfold unN
    split <;> rfl
  rw [hget] at h1 h2
  exact ⟨a, b, h1, h2, h3⟩
theorem share_down {l : List Obj} {k : Nat} (hk : k < l.length) (i j : Nat) (hi : i ≠ k) (hj : j ≠ k) (h : shareR l i j) : shareR (l.eraseIdx k) (shN k i) (shN k j) := by
  obtain ⟨a, b, h1, h2, h3⟩ := h
  have hget : ∀ i, (l.eraseIdx k)[i]? = l[unN k i]? := fun i => by
    rw [List.getElem?_eraseIdx]
    unfold unN
    split <;> rfl
  exact ⟨a, b, by rw [hget, un_sh hi]; exact h1, by rw [hget, un_sh hj]; exact h2, h3⟩
theorem nat_int {p : List Nat} : rowsOf natC p = rowsOf intC (nI p) := by
  unfold rowsOf nI
  rw [List.map_map]
  rfl
/-- The program's answer. -/
theorem comp_pure (l : List Obj) (hV : objV l = true) : ∃ p : List Nat, isParts (shareR l) l.length p ∧ Pure Try.prog 6 [.agg [.rs (rowsOf objC l)]] (.tup [.rs ((compR 0 (nI p) ([], [])).map fun l => [.rs (rowsOf intC l)]), .int .i64 0]) := by
  obtain ⟨p, hp, hP⟩ := oparts_pure l hV
  rw [nat_int] at hP
  exact ⟨p, hp, ocomp_pure l (nI p) hP hV (by have := (objV_small hV).1; simp [nI, hp.1]; omega)⟩
theorem comp_bad (l : List Obj) (hV : objV l = false) : Pure Try.prog 6 [.agg [.rs (rowsOf objC l)]] (.tup [.rs [], .int .i64 1]) := by
  refine pure_of mixed Try.func6 rfl (by kernel_rfl) (of_decide_eq_true rfl) (by kernel_rfl) (vc_run ?_)
  ((try simp -implicitDefEqProofs [-loopQ_n, hV]) <;> (repeat' (first | (refine condD_dec ?_ ?_ <;> (intro hc; (try simp -implicitDefEqProofs [-loopQ_n, hc, hV]))) | (refine guardD_dec ?_ ?_ <;> (intro hc; (try simp -implicitDefEqProofs [-loopQ_n, hc, hV]))) | (refine condD_intro ?_ ?_ <;> (intro hd; have hc := hd; (try simp at hc) <;> (try simp -implicitDefEqProofs [-loopQ_n, hd, hc, hV]))) | (refine guardD_intro ?_ ?_ <;> (intro hd; have hc := hd; (try simp at hc) <;> (try simp -implicitDefEqProofs [-loopQ_n, hd, hc, hV]))) | (refine ldD_ep ?_ ?_; (focus kernel_rfl); (try simp -implicitDefEqProofs [-loopQ_n, hV])) | (refine callS_mk ?_; (try simp -implicitDefEqProofs [-loopQ_n, hV]); (first | refine callS_intro (ovalid_pure l) (.inl rfl) ?_); (try simp -implicitDefEqProofs [-loopQ_n, hV])))))
end Go.Proofs.Ytdkcmfafganhhaa
