/- Stable sorting of events, first part: what slices.SortStableFunc calls (ranges that change places, rotations, insertions). -/
import Derived.Test.YtfbpjlabhckoeaaStbP
import Derived.Test.YtfbpjlabhckoeaaSpn0
namespace Go.Proofs.Ytfbpjlabhckoeaa
set_option linter.unusedSimpArgs false
set_option linter.unusedVariables false
set_option linter.unnecessarySimpa false
set_option linter.unusedSectionVars false
open Go.RowKit
variable [Glob]
open Stab
variable {li : List Ins}
set_option maxRecDepth 100000
/-- A number of an instance. -/
structure Ix (li : List Ins) where
  (i : Nat)
  (lt : i < li.length)
def ixC {li : List Ins} (e : Ix li) : List AV := [.int .i64 (e.i : Int)]
abbrev bxI (li : List Ins) : Blk := .box 30 [.rs (rowsOf insC li)]
abbrev rowX {li : List Ins} (v : List (Ix li)) : Blk := .row 3 true (rowsOf ixC v)
theorem ixC_set {li : List Ins} {v : List (Ix li)} {i : Nat} {e : Ix li} : (rowsOf ixC v).set i [.int .i64 (e.i : Int)] = rowsOf ixC (v.set i e) := by simp [rowsOf, ixC, List.map_set]
theorem ixC_refsR {li : List Ins} {m : Nat} {v : List (Ix li)} : refsR m (rowsOf ixC v) = true := rowsOf_refs fun x => by simp [ixC, refs]
theorem wi_addX {a b : Nat} (h : a + b ≤ 9223372036854775807) : wrapI .i64 ((a : Int) + b) = ((a + b : Nat) : Int) := by rw [wrap_in (by omega) (by omega)]; omega
theorem wi_subX {a b : Nat} (h : b ≤ a) (h2 : a ≤ 9223372036854775807) : wrapI .i64 ((a : Int) - b) = ((a - b : Nat) : Int) := by rw [wrap_in (by omega) (by omega)]; omega
theorem wi_oneX {a : Nat} (h : a + 1 ≤ 9223372036854775807) : wrapI .i64 ((a : Int) + 1) = ((a + 1 : Nat) : Int) := by rw [wrap_in (by omega) (by omega)]; omega
set_option maxHeartbeats 8000000 in
theorem swp_GX (g : Nat) (v : List (Ix li)) (a b n : Nat) (h1 : a + n ≤ b) (h2 : b + n ≤ v.length) (hl : v.length ≤ 2000) :
    CallG Try.prog 141 [.os 1 v.length, .int .i64 a, .int .i64 b, .int .i64 n, .fn g [.op 0 0]] [bxI li, rowX v]
      fun r H => r = .tup [] ∧ ∃ w : List (Ix li), H = [bxI li, rowX w] ∧ w.length = v.length ∧ ∀ q, w[q]? = swF v a b n q := by
  refine inl_G mixed Try.func141 rfl (by kernel_rfl) (of_decide_eq_true rfl) (by kernel_rfl) (vc_run ?_)
  ((try simp -implicitDefEqProofs [-loopQ_n]) <;> (repeat' (first | (refine condD_dec ?_ ?_ <;> (intro hc; (try simp -implicitDefEqProofs [-loopQ_n, hc]))) | (refine guardD_dec ?_ ?_ <;> (intro hc; (try simp -implicitDefEqProofs [-loopQ_n, hc]))) | (refine condD_intro ?_ ?_ <;> (intro hd; have hc := hd; (try simp at hc) <;> (try simp -implicitDefEqProofs [-loopQ_n, hd, hc]))) | (refine guardD_intro ?_ ?_ <;> (intro hd; have hc := hd; (try simp at hc) <;> (try simp -implicitDefEqProofs [-loopQ_n, hd, hc]))) | (refine ldD_ep ?_ ?_; (focus kernel_rfl); (try simp -implicitDefEqProofs [-loopQ_n])))))
  refine loop_intro (σ := Nat × List (Ix li)) (fun x => ⟨[(0, .os 1 x.2.length), (1, .int .i64 a), (2, .int .i64 b), (3, .int .i64 n), (10, .int .i64 x.1)], [bxI li, rowX x.2]⟩)
    (fun x => x.1 ≤ n ∧ x.2.length = v.length ∧ ∀ q, x.2[q]? = swF v a b x.1 q) (fun x => n - x.1) (0, v) ⟨by simp, rfl, fun q => (swF_zero v a b q).symm⟩ ?_ ?_
  · refine weak_ofL 2 0 (by simp) (by simp) rfl ?_ ?_ <;> simp [ixC_refsR, ins_refs]
  rintro ⟨i, w⟩ ⟨hi, hlw, hq⟩
  simp only at hi hlw hq
  by_cases h : i < n
  · have ha : a + i < w.length := by omega
    have hb : b + i < w.length := by omega
    have w1 := wi_addX (a := a) (b := i) (by omega)
    have w2 := wi_addX (a := b) (b := i) (by omega)
    have w3 := wi_oneX (a := i) (by omega)
    obtain ⟨x, hx⟩ : ∃ x, w[a + i] = x := ⟨_, rfl⟩
    obtain ⟨y, hy⟩ : ∃ y, w[b + i] = y := ⟨_, rfl⟩
    have hs := swF_step hq h h1 (by rw [List.getElem?_eq_getElem ha, hx]) (by rw [List.getElem?_eq_getElem hb, hy])
    generalize hp : a + i = p at *
    generalize hq : b + i = q at *
    ((try simp -implicitDefEqProofs [-loopQ_n, h, ha, hb, w1, w2, w3, hx, hy, ixC, ixC_set]) <;> (repeat' (first | (refine condD_dec ?_ ?_ <;> (intro hc; (try simp -implicitDefEqProofs [-loopQ_n, hc, h, ha, hb, w1, w2, w3, hx, hy, ixC, ixC_set]))) | (refine guardD_dec ?_ ?_ <;> (intro hc; (try simp -implicitDefEqProofs [-loopQ_n, hc, h, ha, hb, w1, w2, w3, hx, hy, ixC, ixC_set]))) | (refine condD_intro ?_ ?_ <;> (intro hd; have hc := hd; (try simp at hc) <;> (try simp -implicitDefEqProofs [-loopQ_n, hd, hc, h, ha, hb, w1, w2, w3, hx, hy, ixC, ixC_set]))) | (refine guardD_intro ?_ ?_ <;> (intro hd; have hc := hd; (try simp at hc) <;> (try simp -implicitDefEqProofs [-loopQ_n, hd, hc, h, ha, hb, w1, w2, w3, hx, hy, ixC, ixC_set]))) | (refine ldD_ep ?_ ?_; (focus kernel_rfl); (try simp -implicitDefEqProofs [-loopQ_n, h, ha, hb, w1, w2, w3, hx, hy, ixC, ixC_set])))))
    refine loop_next (i + 1, (w.set p y).set q x) ⟨by simp only; omega, by simpa using hlw, hs⟩ (by simp only; omega) (weak_ofL 2 0 (by simp) (by simp) rfl ?_ ?_) <;> simp [ixC_refsR, ins_refs]
  · have e : i = n := by omega
    subst e
    ((try simp -implicitDefEqProofs [-loopQ_n, h]) <;> (repeat' (first | (refine condD_dec ?_ ?_ <;> (intro hc; (try simp -implicitDefEqProofs [-loopQ_n, hc, h]))) | (refine guardD_dec ?_ ?_ <;> (intro hc; (try simp -implicitDefEqProofs [-loopQ_n, hc, h]))) | (refine condD_intro ?_ ?_ <;> (intro hd; have hc := hd; (try simp at hc) <;> (try simp -implicitDefEqProofs [-loopQ_n, hd, hc, h]))) | (refine guardD_intro ?_ ?_ <;> (intro hd; have hc := hd; (try simp at hc) <;> (try simp -implicitDefEqProofs [-loopQ_n, hd, hc, h]))) | (refine ldD_ep ?_ ?_; (focus kernel_rfl); (try simp -implicitDefEqProofs [-loopQ_n, h])))))
    exact endG_n (.tup []) rfl ⟨rfl, w, rfl, hlw, hq⟩
theorem swpB_GX (g : Nat) (A X M Y B : List (Ix li)) (N a b n : Nat) (hN : (A ++ (X ++ (M ++ (Y ++ B)))).length = N) (ha : A.length = a) (hX : X.length = n) (hY : Y.length = n) (hb : a + n + M.length = b) (hl : N ≤ 2000) :
    CallG Try.prog 141 [.os 1 N, .int .i64 a, .int .i64 b, .int .i64 n, .fn g [.op 0 0]] [bxI li, rowX (A ++ (X ++ (M ++ (Y ++ B))))]
      fun r H => r = .tup [] ∧ H = [bxI li, rowX (A ++ (Y ++ (M ++ (X ++ B))))] := by
  subst hN
  refine (swp_GX g (A ++ (X ++ (M ++ (Y ++ B)))) a b n (by omega) (by simp only [List.length_append] at hl ⊢; omega) hl).weaken ?_
  rintro r H ⟨rfl, w, rfl, hw, hq⟩
  exact ⟨rfl, by rw [swF_all ha hX hY hb hq]⟩
/-- The four parts of a rotation that is under way. -/
structure RotX (li : List Ins) where
  (A X Y B : List (Ix li))
def RotX.v {li : List Ins} (x : RotX li) : List (Ix li) := x.A ++ (x.X ++ (x.Y ++ x.B))
set_option maxHeartbeats 8000000 in
theorem rot_GX (g : Nat) (A X Y B : List (Ix li)) (N a m b : Nat) (hN : (A ++ (X ++ (Y ++ B))).length = N) (ha : A.length = a) (hm : a + X.length = m) (hb : m + Y.length = b) (hX : X ≠ []) (hY : Y ≠ []) (hl : N ≤ 2000) :
    CallG Try.prog 124 [.os 1 N, .int .i64 a, .int .i64 m, .int .i64 b, .fn g [.op 0 0]] [bxI li, rowX (A ++ (X ++ (Y ++ B)))]
      fun r H => r = .tup [] ∧ H = [bxI li, rowX (A ++ (Y ++ (X ++ B)))] := by
  have hNm : b ≤ N := by simp only [List.length_append] at hN; omega
  have w1 := wi_subX (a := m) (b := a) (by omega) (by omega)
  have w2 := wi_subX (a := b) (b := m) (by omega) (by omega)
  have e1 : m - a = X.length := by omega
  have e2 : b - m = Y.length := by omega
  rw [e1] at w1
  rw [e2] at w2
  have lX := List.length_pos_iff.2 hX
  have lY := List.length_pos_iff.2 hY
  refine inl_G mixed Try.func124 rfl (by kernel_rfl) (of_decide_eq_true rfl) (by kernel_rfl) (vc_run ?_)
  ((try simp -implicitDefEqProofs [-loopQ_n, w1, w2]) <;> (repeat' (first | (refine condD_dec ?_ ?_ <;> (intro hc; (try simp -implicitDefEqProofs [-loopQ_n, hc, w1, w2]))) | (refine guardD_dec ?_ ?_ <;> (intro hc; (try simp -implicitDefEqProofs [-loopQ_n, hc, w1, w2]))) | (refine condD_intro ?_ ?_ <;> (intro hd; have hc := hd; (try simp at hc) <;> (try simp -implicitDefEqProofs [-loopQ_n, hd, hc, w1, w2]))) | (refine guardD_intro ?_ ?_ <;> (intro hd; have hc := hd; (try simp at hc) <;> (try simp -implicitDefEqProofs [-loopQ_n, hd, hc, w1, w2]))) | (refine ldD_ep ?_ ?_; (focus kernel_rfl); (try simp -implicitDefEqProofs [-loopQ_n, w1, w2])))))
  refine loop_intro (σ := RotX li) (fun x => ⟨[(0, .os 1 N), (2, .int .i64 m), (4, .fn g [.op 0 0]), (10, .int .i64 x.X.length), (11, .int .i64 x.Y.length)], [bxI li, rowX x.v]⟩)
    (fun x => x.v.length = N ∧ x.A.length + x.X.length = m ∧ 0 < x.X.length ∧ 0 < x.Y.length ∧ x.A ++ (x.Y ++ (x.X ++ x.B)) = A ++ (Y ++ (X ++ B))) (fun x => x.X.length + x.Y.length) ⟨A, X, Y, B⟩ ⟨hN, by simp only; omega, lX, lY, rfl⟩ ?_ ?_
  · refine weak_ofL 2 0 (by simp) (by simp) rfl ?_ ?_ <;> simp [ixC_refsR, ins_refs, RotX.v, refs]
  rintro ⟨A', X', Y', B'⟩ ⟨hN', hm', lX', lY', hR⟩
  simp only [RotX.v] at hN' hm' lX' lY' hR
  have hT : A'.length + X'.length + Y'.length + B'.length = N := by simp only [List.length_append] at hN'; omega
  have w3 := wi_subX (a := m) (b := X'.length) (by omega) (by omega)
  rw [show m - X'.length = A'.length by omega] at w3
  have hg1 : (X'.length = Y'.length) → CallG Try.prog 141 [.os 1 N, .int .i64 A'.length, .int .i64 m, .int .i64 X'.length, .fn g [.op 0 0]] [bxI li, rowX (A' ++ (X' ++ (Y' ++ B')))]
      fun r H => r = .tup [] ∧ H = [bxI li, rowX (A ++ (Y ++ (X ++ B)))] := fun he => by
    have hc := swpB_GX g A' X' [] Y' B' N A'.length m X'.length (by simpa using hN') rfl rfl he.symm (by simpa using hm') hl
    rw [List.nil_append, List.nil_append] at hc
    rwa [hR] at hc
  have hg2 : (Y'.length < X'.length) → CallG Try.prog 141 [.os 1 N, .int .i64 A'.length, .int .i64 m, .int .i64 Y'.length, .fn g [.op 0 0]] [bxI li, rowX (A' ++ (X' ++ (Y' ++ B')))]
      fun r H => r = .tup [] ∧ H = [bxI li, rowX (A' ++ (Y' ++ (X'.drop Y'.length ++ (X'.take Y'.length ++ B'))))] := fun he => by
    have hc := swpB_GX g A' (X'.take Y'.length) (X'.drop Y'.length) Y' B' N A'.length m Y'.length (by rw [← hN']; simp only [List.length_append, List.length_take, List.length_drop]; omega) rfl (by rw [List.length_take]; omega) rfl (by rw [List.length_drop]; omega) hl
    rwa [← List.append_assoc (X'.take Y'.length), List.take_append_drop] at hc
  have hg3 : (X'.length < Y'.length) → CallG Try.prog 141 [.os 1 N, .int .i64 A'.length, .int .i64 ((m + Y'.length - X'.length : Nat) : Int), .int .i64 X'.length, .fn g [.op 0 0]] [bxI li, rowX (A' ++ (X' ++ (Y' ++ B')))]
      fun r H => r = .tup [] ∧ H = [bxI li, rowX (A' ++ (Y'.drop (Y'.length - X'.length) ++ (Y'.take (Y'.length - X'.length) ++ (X' ++ B'))))] := fun he => by
    have hc := swpB_GX g A' X' (Y'.take (Y'.length - X'.length)) (Y'.drop (Y'.length - X'.length)) B' N A'.length (m + Y'.length - X'.length) X'.length (by rw [← hN']; simp only [List.length_append, List.length_take, List.length_drop]; omega) rfl rfl (by rw [List.length_drop]; omega) (by rw [List.length_take]; omega) hl
    rwa [← List.append_assoc (Y'.take _), List.take_append_drop] at hc
  have w4 := wi_addX (a := m) (b := Y'.length) (by omega)
  have w5 := wi_subX (a := m + Y'.length) (b := X'.length) (by omega) (by omega)
  have w6 := wi_subX (a := X'.length) (b := Y'.length)
  have w7 := wi_subX (a := Y'.length) (b := X'.length)
  obtain ⟨v, hv⟩ : ∃ v, A' ++ (X' ++ (Y' ++ B')) = v := ⟨_, rfl⟩
  rw [hv] at hg1 hg2 hg3
  generalize hi : X'.length = i at *
  generalize hj : Y'.length = j at *
  generalize ha' : A'.length = a' at *
  generalize hmj : m + j = mj at *
  generalize hmk : mj - i = mk at *
  by_cases he : i = j
  · subst he
    have hg1 := hg1 rfl
    ((try simp -implicitDefEqProofs [-loopQ_n, w3, hi, hj, hv, RotX.v]) <;> (repeat' (first | (refine condD_dec ?_ ?_ <;> (intro hc; (try simp -implicitDefEqProofs [-loopQ_n, hc, w3, hi, hj, hv, RotX.v]))) | (refine guardD_dec ?_ ?_ <;> (intro hc; (try simp -implicitDefEqProofs [-loopQ_n, hc, w3, hi, hj, hv, RotX.v]))) | (refine condD_intro ?_ ?_ <;> (intro hd; have hc := hd; (try simp at hc) <;> (try simp -implicitDefEqProofs [-loopQ_n, hd, hc, w3, hi, hj, hv, RotX.v]))) | (refine guardD_intro ?_ ?_ <;> (intro hd; have hc := hd; (try simp at hc) <;> (try simp -implicitDefEqProofs [-loopQ_n, hd, hc, w3, hi, hj, hv, RotX.v]))) | (refine ldD_ep ?_ ?_; (focus kernel_rfl); (try simp -implicitDefEqProofs [-loopQ_n, w3, hi, hj, hv, RotX.v])))))
    refine callG_intro (hg1.weaken ?_)
    rintro _ _ ⟨rfl, rfl⟩
    ((try simp -implicitDefEqProofs [-loopQ_n]) <;> (repeat' (first | (refine condD_dec ?_ ?_ <;> (intro hc; (try simp -implicitDefEqProofs [-loopQ_n, hc]))) | (refine guardD_dec ?_ ?_ <;> (intro hc; (try simp -implicitDefEqProofs [-loopQ_n, hc]))) | (refine condD_intro ?_ ?_ <;> (intro hd; have hc := hd; (try simp at hc) <;> (try simp -implicitDefEqProofs [-loopQ_n, hd, hc]))) | (refine guardD_intro ?_ ?_ <;> (intro hd; have hc := hd; (try simp at hc) <;> (try simp -implicitDefEqProofs [-loopQ_n, hd, hc]))) | (refine ldD_ep ?_ ?_; (focus kernel_rfl); (try simp -implicitDefEqProofs [-loopQ_n])))))
    exact endG_n (.tup []) rfl ⟨rfl, rfl⟩
  by_cases he2 : j < i
  · have hg2 := hg2 he2
    have w6 := w6 (by omega) (by omega)
    generalize hij : i - j = ij at *
    have he3 : ¬ (i : Int) = j := by omega
    ((try simp -implicitDefEqProofs [-loopQ_n, w3, w6, hi, hj, hv, he, he2, he3, RotX.v]) <;> (repeat' (first | (refine condD_dec ?_ ?_ <;> (intro hc; (try simp -implicitDefEqProofs [-loopQ_n, hc, w3, w6, hi, hj, hv, he, he2, he3, RotX.v]))) | (refine guardD_dec ?_ ?_ <;> (intro hc; (try simp -implicitDefEqProofs [-loopQ_n, hc, w3, w6, hi, hj, hv, he, he2, he3, RotX.v]))) | (refine condD_intro ?_ ?_ <;> (intro hd; have hc := hd; (try simp at hc) <;> (try simp -implicitDefEqProofs [-loopQ_n, hd, hc, w3, w6, hi, hj, hv, he, he2, he3, RotX.v]))) | (refine guardD_intro ?_ ?_ <;> (intro hd; have hc := hd; (try simp at hc) <;> (try simp -implicitDefEqProofs [-loopQ_n, hd, hc, w3, w6, hi, hj, hv, he, he2, he3, RotX.v]))) | (refine ldD_ep ?_ ?_; (focus kernel_rfl); (try simp -implicitDefEqProofs [-loopQ_n, w3, w6, hi, hj, hv, he, he2, he3, RotX.v])))))
    refine callG_intro (hg2.weaken ?_)
    rintro _ _ ⟨rfl, rfl⟩
    have hk2 : (X'.drop j).length = ij := by rw [List.length_drop]; omega
    have hk3 : (X'.take j).length = j := by rw [List.length_take]; omega
    ((try simp -implicitDefEqProofs [-loopQ_n, w6]) <;> (repeat' (first | (refine condD_dec ?_ ?_ <;> (intro hc; (try simp -implicitDefEqProofs [-loopQ_n, hc, w6]))) | (refine guardD_dec ?_ ?_ <;> (intro hc; (try simp -implicitDefEqProofs [-loopQ_n, hc, w6]))) | (refine condD_intro ?_ ?_ <;> (intro hd; have hc := hd; (try simp at hc) <;> (try simp -implicitDefEqProofs [-loopQ_n, hd, hc, w6]))) | (refine guardD_intro ?_ ?_ <;> (intro hd; have hc := hd; (try simp at hc) <;> (try simp -implicitDefEqProofs [-loopQ_n, hd, hc, w6]))) | (refine ldD_ep ?_ ?_; (focus kernel_rfl); (try simp -implicitDefEqProofs [-loopQ_n, w6])))))
    refine loop_next ⟨A' ++ Y', X'.drop j, X'.take j, B'⟩ ⟨?_, ?_, by simp only; omega, by simp only; omega, ?_⟩ (by simp only; omega) (weak_ofL 2 0 (by simp) (by simp) rfl ?_ ?_)
    · rw [← hN']; dsimp only [RotX.v]; simp only [List.length_append, hk2, hk3]; omega
    · simp only [List.length_append]; omega
    · simp only; rw [← List.append_assoc (X'.take j), List.take_append_drop, List.append_assoc]; exact hR
    · simp [hk2, hk3, refs]
    · simp [ixC_refsR, ins_refs, RotX.v]
  · have hg3 := hg3 (by omega)
    have w7 := w7 (by omega) (by omega)
    generalize hij : j - i = ij at *
    have he3 : ¬ (i : Int) = j := by omega
    ((try simp -implicitDefEqProofs [-loopQ_n, w3, w4, w5, w7, hi, hj, hv, he, he2, he3, RotX.v]) <;> (repeat' (first | (refine condD_dec ?_ ?_ <;> (intro hc; (try simp -implicitDefEqProofs [-loopQ_n, hc, w3, w4, w5, w7, hi, hj, hv, he, he2, he3, RotX.v]))) | (refine guardD_dec ?_ ?_ <;> (intro hc; (try simp -implicitDefEqProofs [-loopQ_n, hc, w3, w4, w5, w7, hi, hj, hv, he, he2, he3, RotX.v]))) | (refine condD_intro ?_ ?_ <;> (intro hd; have hc := hd; (try simp at hc) <;> (try simp -implicitDefEqProofs [-loopQ_n, hd, hc, w3, w4, w5, w7, hi, hj, hv, he, he2, he3, RotX.v]))) | (refine guardD_intro ?_ ?_ <;> (intro hd; have hc := hd; (try simp at hc) <;> (try simp -implicitDefEqProofs [-loopQ_n, hd, hc, w3, w4, w5, w7, hi, hj, hv, he, he2, he3, RotX.v]))) | (refine ldD_ep ?_ ?_; (focus kernel_rfl); (try simp -implicitDefEqProofs [-loopQ_n, w3, w4, w5, w7, hi, hj, hv, he, he2, he3, RotX.v])))))
    refine callG_intro (hg3.weaken ?_)
    rintro _ _ ⟨rfl, rfl⟩
    have hk2 : (Y'.drop ij).length = i := by rw [List.length_drop]; omega
    have hk3 : (Y'.take ij).length = ij := by rw [List.length_take]; omega
    ((try simp -implicitDefEqProofs [-loopQ_n, w7]) <;> (repeat' (first | (refine condD_dec ?_ ?_ <;> (intro hc; (try simp -implicitDefEqProofs [-loopQ_n, hc, w7]))) | (refine guardD_dec ?_ ?_ <;> (intro hc; (try simp -implicitDefEqProofs [-loopQ_n, hc, w7]))) | (refine condD_intro ?_ ?_ <;> (intro hd; have hc := hd; (try simp at hc) <;> (try simp -implicitDefEqProofs [-loopQ_n, hd, hc, w7]))) | (refine guardD_intro ?_ ?_ <;> (intro hd; have hc := hd; (try simp at hc) <;> (try simp -implicitDefEqProofs [-loopQ_n, hd, hc, w7]))) | (refine ldD_ep ?_ ?_; (focus kernel_rfl); (try simp -implicitDefEqProofs [-loopQ_n, w7])))))
    refine loop_next ⟨A', Y'.drop ij, Y'.take ij, X' ++ B'⟩ ⟨?_, by simp only; omega, by simp only; omega, by simp only; omega, ?_⟩ (by simp only; omega) (weak_ofL 2 0 (by simp) (by simp) rfl ?_ ?_)
    · rw [← hN']; dsimp only [RotX.v]; simp only [List.length_append, hk2, hk3]; omega
    · simp only; rw [← List.append_assoc (Y'.take ij), List.take_append_drop]; exact hR
    · simp [hk2, hk3, refs]
    · simp [ixC_refsR, ins_refs, RotX.v]
end Go.Proofs.Ytfbpjlabhckoeaa
