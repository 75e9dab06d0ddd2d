/- Several texts of the abstract machine, one behind the other. -/
import Derived.Test.YthiclaihlpkinaaGreatM8
import Derived.Test.YthiclaihlpkinaaGreatM5
set_option linter.unusedSimpArgs false
set_option linter.unusedVariables false
set_option linter.unnecessarySimpa false
set_option linter.unusedSectionVars false
set_option maxRecDepth 100000
namespace Go.Proofs.YthiclaihlpkinaaGreat
open Go.RowKit
variable [Glob]
open Stab
variable {li : List Ins}
/-- A number of an instance. -/
structure Ix (li : List Ins) where
  (i : Nat)
  (lt : i < li.length)
def ixC {li : List Ins} (e : Ix li) : List AV := [.int .i64 (e.i : Int)]
abbrev bxI (li : List Ins) : Blk := .box 38 [.rs (rowsOf insC li)]
abbrev rowX {li : List Ins} (v : List (Ix li)) : Blk := .row 3 true (rowsOf ixC v)
theorem ixC_set {li : List Ins} {v : List (Ix li)} {i : Nat} {e : Ix li} : (rowsOf ixC v).set i [.int .i64 (e.i : Int)] = rowsOf ixC (v.set i e) := by simp [rowsOf, ixC, List.map_set]
theorem ixC_refsR {li : List Ins} {m : Nat} {v : List (Ix li)} : refsR m (rowsOf ixC v) = true := rowsOf_refs fun x => by simp [ixC, refs]
theorem wi_addX {a b : Nat} (h : a + b ≤ 9223372036854775807) : wrapI .i64 ((a : Int) + b) = ((a + b : Nat) : Int) := by rw [wrap_in (by omega) (by omega)]; omega
theorem wi_subX {a b : Nat} (h : b ≤ a) (h2 : a ≤ 9223372036854775807) : wrapI .i64 ((a : Int) - b) = ((a - b : Nat) : Int) := by rw [wrap_in (by omega) (by omega)]; omega
theorem wi_oneX {a : Nat} (h : a + 1 ≤ 9223372036854775807) : wrapI .i64 ((a : Int) + 1) = ((a + 1 : Nat) : Int) := by rw [wrap_in (by omega) (by omega)]; omega
set_option maxHeartbeats 8000000 in
theorem swp_GX (g : Nat) (v : List (Ix li)) (a b n : Nat) (h1 : a + n ≤ b) (h2 : b + n ≤ v.length) (hl : v.length ≤ 2000) :
    CallG Tryz.prog 128 [.os 1 v.length, .int .i64 a, .int .i64 b, .int .i64 n, .fn g [.op 0 0]] [bxI li, rowX v]
      fun r H => r = .tup [] ∧ ∃ w : List (Ix li), H = [bxI li, rowX w] ∧ w.length = v.length ∧ ∀ q, w[q]? = swF v a b n q := by
  refine inl_G mixed Tryz.func128 rfl (by kernel_rfl) (of_decide_eq_true rfl) (by kernel_rfl) (vc_run ?_)
  ((try simp -implicitDefEqProofs [-loopQ_n]) <;> (repeat' (first | ((first | refine condD_dec ?_ ?_ | refine guardD_dec ?_ ?_) <;> (intro hc; (try simp -implicitDefEqProofs [-loopQ_n, hc]))) | ((first | refine condD_intro ?_ ?_ | refine guardD_intro ?_ ?_) <;> (intro hd; have hc := hd; (try simp at hc) <;> (try simp -implicitDefEqProofs [-loopQ_n, hd, hc]))) | (refine ldD_ep ?_ ?_; (focus kernel_rfl); (try simp -implicitDefEqProofs [-loopQ_n])))))
  refine loop_intro (σ := Nat × List (Ix li)) (fun x => ⟨[(0, .os 1 x.2.length), (1, .int .i64 a), (2, .int .i64 b), (3, .int .i64 n), (10, .int .i64 x.1)], [bxI li, rowX x.2]⟩)
    (fun x => x.1 ≤ n ∧ x.2.length = v.length ∧ ∀ q, x.2[q]? = swF v a b x.1 q) (fun x => n - x.1) (0, v) ⟨by simp, rfl, fun q => (swF_zero v a b q).symm⟩ ?_ ?_
  · refine weak_ofL 2 0 (by simp) (by simp) rfl ?_ ?_ <;> simp [ixC_refsR, ins_refs]
  rintro ⟨i, w⟩ ⟨hi, hlw, hq⟩
  simp only at hi hlw hq
  by_cases h : i < n
  · have ha : a + i < w.length := by omega
    have hb : b + i < w.length := by omega
    have w1 := wi_addX (a := a) (b := i) (by omega)
    have w2 := wi_addX (a := b) (b := i) (by omega)
    have w3 := wi_oneX (a := i) (by omega)
    obtain ⟨x, hx⟩ : ∃ x, w[a + i] = x := ⟨_, rfl⟩
    obtain ⟨y, hy⟩ : ∃ y, w[b + i] = y := ⟨_, rfl⟩
    have hs := swF_step hq h h1 (by rw [List.getElem?_eq_getElem ha, hx]) (by rw [List.getElem?_eq_getElem hb, hy])
    generalize hp : a + i = p at *
    generalize hq : b + i = q at *
    ((try simp -implicitDefEqProofs [-loopQ_n, h, ha, hb, w1, w2, w3, hx, hy, ixC, ixC_set]) <;> (repeat' (first | ((first | refine condD_dec ?_ ?_ | refine guardD_dec ?_ ?_) <;> (intro hc; (try simp -implicitDefEqProofs [-loopQ_n, hc, h, ha, hb, w1, w2, w3, hx, hy, ixC, ixC_set]))) | ((first | refine condD_intro ?_ ?_ | refine guardD_intro ?_ ?_) <;> (intro hd; have hc := hd; (try simp at hc) <;> (try simp -implicitDefEqProofs [-loopQ_n, hd, hc, h, ha, hb, w1, w2, w3, hx, hy, ixC, ixC_set]))) | (refine ldD_ep ?_ ?_; (focus kernel_rfl); (try simp -implicitDefEqProofs [-loopQ_n, h, ha, hb, w1, w2, w3, hx, hy, ixC, ixC_set])))))
    refine loop_next (i + 1, (w.set p y).set q x) ⟨by simp only; omega, by simpa using hlw, hs⟩ (by simp only; omega) (weak_ofL 2 0 (by simp) (by simp) rfl ?_ ?_) <;> simp [ixC_refsR, ins_refs]
  · have e : i = n := by omega
    subst e
    ((try simp -implicitDefEqProofs [-loopQ_n, h]) <;> (repeat' (first | ((first | refine condD_dec ?_ ?_ | refine guardD_dec ?_ ?_) <;> (intro hc; (try simp -implicitDefEqProofs [-loopQ_n, hc, h]))) | ((first | refine condD_intro ?_ ?_ | refine guardD_intro ?_ ?_) <;> (intro hd; have hc := hd; (try simp at hc) <;> (try simp -implicitDefEqProofs [-loopQ_n, hd, hc, h]))) | (refine ldD_ep ?_ ?_; (focus kernel_rfl); (try simp -implicitDefEqProofs [-loopQ_n, h])))))
    exact endG_n (.tup []) rfl ⟨rfl, w, rfl, hlw, hq⟩
theorem swpB_GX (g : Nat) (A X M Y B : List (Ix li)) (N a b n : Nat) (hN : (A ++ (X ++ (M ++ (Y ++ B)))).length = N) (ha : A.length = a) (hX : X.length = n) (hY : Y.length = n) (hb : a + n + M.length = b) (hl : N ≤ 2000) :
    CallG Tryz.prog 128 [.os 1 N, .int .i64 a, .int .i64 b, .int .i64 n, .fn g [.op 0 0]] [bxI li, rowX (A ++ (X ++ (M ++ (Y ++ B))))]
      fun r H => r = .tup [] ∧ H = [bxI li, rowX (A ++ (Y ++ (M ++ (X ++ B))))] := by
  subst hN
  refine (swp_GX g (A ++ (X ++ (M ++ (Y ++ B)))) a b n (by omega) (by simp only [List.length_append] at hl ⊢; omega) hl).weaken ?_
  rintro r H ⟨rfl, w, rfl, hw, hq⟩
  exact ⟨rfl, by rw [swF_all ha hX hY hb hq]⟩
/-- The four parts of a rotation that is under way. -/
structure RotX (li : List Ins) where
  (A X Y B : List (Ix li))
def RotX.v {li : List Ins} (x : RotX li) : List (Ix li) := x.A ++ (x.X ++ (x.Y ++ x.B))
set_option maxHeartbeats 8000000 in
theorem rot_GX (g : Nat) (A X Y B : List (Ix li)) (N a m b : Nat) (hN : (A ++ (X ++ (Y ++ B))).length = N) (ha : A.length = a) (hm : a + X.length = m) (hb : m + Y.length = b) (hX : X ≠ []) (hY : Y ≠ []) (hl : N ≤ 2000) :
    CallG Tryz.prog 112 [.os 1 N, .int .i64 a, .int .i64 m, .int .i64 b, .fn g [.op 0 0]] [bxI li, rowX (A ++ (X ++ (Y ++ B)))]
      fun r H => r = .tup [] ∧ H = [bxI li, rowX (A ++ (Y ++ (X ++ B)))] := by
  have hNm : b ≤ N := by simp only [List.length_append] at hN; omega
  have w1 := wi_subX (a := m) (b := a) (by omega) (by omega)
  have w2 := wi_subX (a := b) (b := m) (by omega) (by omega)
  have e1 : m - a = X.length := by omega
  have e2 : b - m = Y.length := by omega
  rw [e1] at w1
  rw [e2] at w2
  have lX := List.length_pos_iff.2 hX
  have lY := List.length_pos_iff.2 hY
  refine inl_G mixed Tryz.func112 rfl (by kernel_rfl) (of_decide_eq_true rfl) (by kernel_rfl) (vc_run ?_)
  ((try simp -implicitDefEqProofs [-loopQ_n, w1, w2]) <;> (repeat' (first | ((first | refine condD_dec ?_ ?_ | refine guardD_dec ?_ ?_) <;> (intro hc; (try simp -implicitDefEqProofs [-loopQ_n, hc, w1, w2]))) | ((first | refine condD_intro ?_ ?_ | refine guardD_intro ?_ ?_) <;> (intro hd; have hc := hd; (try simp at hc) <;> (try simp -implicitDefEqProofs [-loopQ_n, hd, hc, w1, w2]))) | (refine ldD_ep ?_ ?_; (focus kernel_rfl); (try simp -implicitDefEqProofs [-loopQ_n, w1, w2])))))
  refine loop_intro (σ := RotX li) (fun x => ⟨[(0, .os 1 N), (2, .int .i64 m), (4, .fn g [.op 0 0]), (10, .int .i64 x.X.length), (11, .int .i64 x.Y.length)], [bxI li, rowX x.v]⟩)
    (fun x => x.v.length = N ∧ x.A.length + x.X.length = m ∧ 0 < x.X.length ∧ 0 < x.Y.length ∧ x.A ++ (x.Y ++ (x.X ++ x.B)) = A ++ (Y ++ (X ++ B))) (fun x => x.X.length + x.Y.length) ⟨A, X, Y, B⟩ ⟨hN, by simp only; omega, lX, lY, rfl⟩ ?_ ?_
  · refine weak_ofL 2 0 (by simp) (by simp) rfl ?_ ?_ <;> simp [ixC_refsR, ins_refs, RotX.v, refs]
  rintro ⟨A', X', Y', B'⟩ ⟨hN', hm', lX', lY', hR⟩
  simp only [RotX.v] at hN' hm' lX' lY' hR
  have hT : A'.length + X'.length + Y'.length + B'.length = N := by simp only [List.length_append] at hN'; omega
  have w3 := wi_subX (a := m) (b := X'.length) (by omega) (by omega)
  rw [show m - X'.length = A'.length by omega] at w3
  have hg1 : (X'.length = Y'.length) → CallG Tryz.prog 128 [.os 1 N, .int .i64 A'.length, .int .i64 m, .int .i64 X'.length, .fn g [.op 0 0]] [bxI li, rowX (A' ++ (X' ++ (Y' ++ B')))]
      fun r H => r = .tup [] ∧ H = [bxI li, rowX (A ++ (Y ++ (X ++ B)))] := fun he => by
    have hc := swpB_GX g A' X' [] Y' B' N A'.length m X'.length (by simpa using hN') rfl rfl he.symm (by simpa using hm') hl
    rw [List.nil_append, List.nil_append] at hc
    rwa [hR] at hc
  have hg2 : (Y'.length < X'.length) → CallG Tryz.prog 128 [.os 1 N, .int .i64 A'.length, .int .i64 m, .int .i64 Y'.length, .fn g [.op 0 0]] [bxI li, rowX (A' ++ (X' ++ (Y' ++ B')))]
      fun r H => r = .tup [] ∧ H = [bxI li, rowX (A' ++ (Y' ++ (X'.drop Y'.length ++ (X'.take Y'.length ++ B'))))] := fun he => by
    have hc := swpB_GX g A' (X'.take Y'.length) (X'.drop Y'.length) Y' B' N A'.length m Y'.length (by rw [← hN']; simp only [List.length_append, List.length_take, List.length_drop]; omega) rfl (by rw [List.length_take]; omega) rfl (by rw [List.length_drop]; omega) hl
    rwa [← List.append_assoc (X'.take Y'.length), List.take_append_drop] at hc
  have hg3 : (X'.length < Y'.length) → CallG Tryz.prog 128 [.os 1 N, .int .i64 A'.length, .int .i64 ((m + Y'.length - X'.length : Nat) : Int), .int .i64 X'.length, .fn g [.op 0 0]] [bxI li, rowX (A' ++ (X' ++ (Y' ++ B')))]
      fun r H => r = .tup [] ∧ H = [bxI li, rowX (A' ++ (Y'.drop (Y'.length - X'.length) ++ (Y'.take (Y'.length - X'.length) ++ (X' ++ B'))))] := fun he => by
    have hc := swpB_GX g A' X' (Y'.take (Y'.length - X'.length)) (Y'.drop (Y'.length - X'.length)) B' N A'.length (m + Y'.length - X'.length) X'.length (by rw [← hN']; simp only [List.length_append, List.length_take, List.length_drop]; omega) rfl rfl (by rw [List.length_drop]; omega) (by rw [List.length_take]; omega) hl
    rwa [← List.append_assoc (Y'.take _), List.take_append_drop] at hc
  have w4 := wi_addX (a := m) (b := Y'.length) (by omega)
  have w5 := wi_subX (a := m + Y'.length) (b := X'.length) (by omega) (by omega)
  have w6 := wi_subX (a := X'.length) (b := Y'.length)
  have w7 := wi_subX (a := Y'.length) (b := X'.length)
  obtain ⟨v, hv⟩ : ∃ v, A' ++ (X' ++ (Y' ++ B')) = v := ⟨_, rfl⟩
  rw [hv] at hg1 hg2 hg3
  generalize hi : X'.length = i at *
  generalize hj : Y'.length = j at *
  generalize ha' : A'.length = a' at *
  generalize hmj : m + j = mj at *
  generalize hmk : mj - i = mk at *
  by_cases he : i = j
  · subst he
    have hg1 := hg1 rfl
    ((try simp -implicitDefEqProofs [-loopQ_n, w3, hi, hj, hv, RotX.v]) <;> (repeat' (first | ((first | refine condD_dec ?_ ?_ | refine guardD_dec ?_ ?_) <;> (intro hc; (try simp -implicitDefEqProofs [-loopQ_n, hc, w3, hi, hj, hv, RotX.v]))) | ((first | refine condD_intro ?_ ?_ | refine guardD_intro ?_ ?_) <;> (intro hd; have hc := hd; (try simp at hc) <;> (try simp -implicitDefEqProofs [-loopQ_n, hd, hc, w3, hi, hj, hv, RotX.v]))) | (refine ldD_ep ?_ ?_; (focus kernel_rfl); (try simp -implicitDefEqProofs [-loopQ_n, w3, hi, hj, hv, RotX.v])))))
    refine callG_intro (hg1.weaken ?_)
    rintro _ _ ⟨rfl, rfl⟩
    ((try simp -implicitDefEqProofs [-loopQ_n]) <;> (repeat' (first | ((first | refine condD_dec ?_ ?_ | refine guardD_dec ?_ ?_) <;> (intro hc; (try simp -implicitDefEqProofs [-loopQ_n, hc]))) | ((first | refine condD_intro ?_ ?_ | refine guardD_intro ?_ ?_) <;> (intro hd; have hc := hd; (try simp at hc) <;> (try simp -implicitDefEqProofs [-loopQ_n, hd, hc]))) | (refine ldD_ep ?_ ?_; (focus kernel_rfl); (try simp -implicitDefEqProofs [-loopQ_n])))))
    exact endG_n (.tup []) rfl ⟨rfl, rfl⟩
  by_cases he2 : j < i
  · have hg2 := hg2 he2
    have w6 := w6 (by omega) (by omega)
    generalize hij : i - j = ij at *
    have he3 : ¬ (i : Int) = j := by omega
    ((try simp -implicitDefEqProofs [-loopQ_n, w3, w6, hi, hj, hv, he, he2, he3, RotX.v]) <;> (repeat' (first | ((first | refine condD_dec ?_ ?_ | refine guardD_dec ?_ ?_) <;> (intro hc; (try simp -implicitDefEqProofs [-loopQ_n, hc, w3, w6, hi, hj, hv, he, he2, he3, RotX.v]))) | ((first | refine condD_intro ?_ ?_ | refine guardD_intro ?_ ?_) <;> (intro hd; have hc := hd; (try simp at hc) <;> (try simp -implicitDefEqProofs [-loopQ_n, hd, hc, w3, w6, hi, hj, hv, he, he2, he3, RotX.v]))) | (refine ldD_ep ?_ ?_; (focus kernel_rfl); (try simp -implicitDefEqProofs [-loopQ_n, w3, w6, hi, hj, hv, he, he2, he3, RotX.v])))))
    refine callG_intro (hg2.weaken ?_)
    rintro _ _ ⟨rfl, rfl⟩
    have hk2 : (X'.drop j).length = ij := by rw [List.length_drop]; omega
    have hk3 : (X'.take j).length = j := by rw [List.length_take]; omega
    ((try simp -implicitDefEqProofs [-loopQ_n, w6]) <;> (repeat' (first | ((first | refine condD_dec ?_ ?_ | refine guardD_dec ?_ ?_) <;> (intro hc; (try simp -implicitDefEqProofs [-loopQ_n, hc, w6]))) | ((first | refine condD_intro ?_ ?_ | refine guardD_intro ?_ ?_) <;> (intro hd; have hc := hd; (try simp at hc) <;> (try simp -implicitDefEqProofs [-loopQ_n, hd, hc, w6]))) | (refine ldD_ep ?_ ?_; (focus kernel_rfl); (try simp -implicitDefEqProofs [-loopQ_n, w6])))))
    refine loop_next ⟨A' ++ Y', X'.drop j, X'.take j, B'⟩ ⟨?_, ?_, by simp only; omega, by simp only; omega, ?_⟩ (by simp only; omega) (weak_ofL 2 0 (by simp) (by simp) rfl ?_ ?_)
    · rw [← hN']; dsimp only [RotX.v]; simp only [List.length_append, hk2, hk3]; omega
    · simp only [List.length_append]; omega
    · simp only; rw [← List.append_assoc (X'.take j), List.take_append_drop, List.append_assoc]; exact hR
    · simp [hk2, hk3, refs]
    · simp [ixC_refsR, ins_refs, RotX.v]
  · have hg3 := hg3 (by omega)
    have w7 := w7 (by omega) (by omega)
    generalize hij : j - i = ij at *
    have he3 : ¬ (i : Int) = j := by omega
    ((try simp -implicitDefEqProofs [-loopQ_n, w3, w4, w5, w7, hi, hj, hv, he, he2, he3, RotX.v]) <;> (repeat' (first | ((first | refine condD_dec ?_ ?_ | refine guardD_dec ?_ ?_) <;> (intro hc; (try simp -implicitDefEqProofs [-loopQ_n, hc, w3, w4, w5, w7, hi, hj, hv, he, he2, he3, RotX.v]))) | ((first | refine condD_intro ?_ ?_ | refine guardD_intro ?_ ?_) <;> (intro hd; have hc := hd; (try simp at hc) <;> (try simp -implicitDefEqProofs [-loopQ_n, hd, hc, w3, w4, w5, w7, hi, hj, hv, he, he2, he3, RotX.v]))) | (refine ldD_ep ?_ ?_; (focus kernel_rfl); (try simp -implicitDefEqProofs [-loopQ_n, w3, w4, w5, w7, hi, hj, hv, he, he2, he3, RotX.v])))))
    refine callG_intro (hg3.weaken ?_)
    rintro _ _ ⟨rfl, rfl⟩
    have hk2 : (Y'.drop ij).length = i := by rw [List.length_drop]; omega
    have hk3 : (Y'.take ij).length = ij := by rw [List.length_take]; omega
    ((try simp -implicitDefEqProofs [-loopQ_n, w7]) <;> (repeat' (first | ((first | refine condD_dec ?_ ?_ | refine guardD_dec ?_ ?_) <;> (intro hc; (try simp -implicitDefEqProofs [-loopQ_n, hc, w7]))) | ((first | refine condD_intro ?_ ?_ | refine guardD_intro ?_ ?_) <;> (intro hd; have hc := hd; (try simp at hc) <;> (try simp -implicitDefEqProofs [-loopQ_n, hd, hc, w7]))) | (refine ldD_ep ?_ ?_; (focus kernel_rfl); (try simp -implicitDefEqProofs [-loopQ_n, w7])))))
    refine loop_next ⟨A', Y'.drop ij, Y'.take ij, X' ++ B'⟩ ⟨?_, by simp only; omega, by simp only; omega, by simp only; omega, ?_⟩ (by simp only; omega) (weak_ofL 2 0 (by simp) (by simp) rfl ?_ ?_)
    · rw [← hN']; dsimp only [RotX.v]; simp only [List.length_append, hk2, hk3]; omega
    · simp only; rw [← List.append_assoc (Y'.take ij), List.take_append_drop]; exact hR
    · simp [hk2, hk3, refs]
    · simp [ixC_refsR, ins_refs, RotX.v]
end Go.Proofs.YthiclaihlpkinaaGreat
namespace Go.Proofs.YthiclaihlpkinaaGreat
open Go.RowKit
variable [Glob]
open Stab
variable {li : List Ins}
def ltCX (cm : (Ix li) → (Ix li) → Int) (x y : (Ix li)) : Bool := decide (cm x y < 0)
set_option maxHeartbeats 8000000 in
theorem ins_GX (g : Nat) (cm : (Ix li) → (Ix li) → Int) (hcmp : ∀ x y : (Ix li), Pure Tryz.prog g [.int .i64 (x.i : Int), .int .i64 (y.i : Int), .rp [.rs (rowsOf insC li)]] (.int .i64 (cm x y))) (hs : Swo (ltCX cm))
    (A X B : List (Ix li)) (N a b : Nat) (hN : (A ++ (X ++ B)).length = N) (ha : A.length = a) (hb : a + X.length = b) (hl : N ≤ 2000) :
    CallG Tryz.prog 89 [.os 1 N, .int .i64 a, .int .i64 b, .fn g [.op 0 0]] [bxI li, rowX (A ++ (X ++ B))]
      fun r H => r = .tup [] ∧ ∃ X' : List (Ix li), H = [bxI li, rowX (A ++ (X' ++ B))] ∧ X'.length = X.length ∧ Srtd (ltCX cm) X' ∧ Stb (ltCX cm) X X' := by
  have hT : a + X.length + B.length = N := by simp only [List.length_append] at hN; omega
  have w0 := wi_oneX (a := a) (by omega)
  refine inl_G mixed Tryz.func89 rfl (by kernel_rfl) (of_decide_eq_true rfl) (by kernel_rfl) (vc_run ?_)
  ((try simp -implicitDefEqProofs [-loopQ_n, w0]) <;> (repeat' (first | ((first | refine condD_dec ?_ ?_ | refine guardD_dec ?_ ?_) <;> (intro hc; (try simp -implicitDefEqProofs [-loopQ_n, hc, w0]))) | ((first | refine condD_intro ?_ ?_ | refine guardD_intro ?_ ?_) <;> (intro hd; have hc := hd; (try simp at hc) <;> (try simp -implicitDefEqProofs [-loopQ_n, hd, hc, w0]))) | (refine ldD_ep ?_ ?_; (focus kernel_rfl); (try simp -implicitDefEqProofs [-loopQ_n, w0])))))
  refine loop_intro (σ := Nat × List (Ix li) × List (Ix li)) (fun x => ⟨[(0, .os 1 N), (1, .int .i64 a), (2, .int .i64 b), (3, .fn g [.op 0 0]), (8, .int .i64 x.1)], [bxI li, rowX (A ++ (x.2.1 ++ (x.2.2 ++ B)))]⟩)
    (fun x => a + 1 ≤ x.1 ∧ x.1 ≤ b + 1 ∧ x.2.1.length = min (x.1 - a) X.length ∧ Srtd (ltCX cm) x.2.1 ∧ Stb (ltCX cm) X (x.2.1 ++ x.2.2)) (fun x => b + 1 - x.1) (a + 1, X.take 1, X.drop 1) ⟨by simp, by simp only; omega, by simp, ?_, ?_⟩ ?_ ?_
  · simp only
    match X with
    | [] => exact srtd_nil
    | x :: X => exact srtd_one x
  · simp only [List.take_append_drop]; exact Stb.refl X
  · have e : X.take 1 ++ (X.drop 1 ++ B) = X ++ B := by rw [← List.append_assoc, List.take_append_drop]
    simp only [e]
    refine weak_ofL 2 0 (by simp) (by simp) rfl ?_ ?_ <;> simp [ixC_refsR, ins_refs, refs]
  rintro ⟨i, P, R⟩ ⟨hi1, hi2, hP, hS, hX⟩
  simp only at hi1 hi2 hP hS hX
  have hlen := hX.1
  rw [List.length_append] at hlen
  by_cases h : i < b
  · have w1 := wi_oneX (a := i) (by omega)
    match R with
    | [] => simp at hlen; omega
    | x :: R =>
      ((try simp -implicitDefEqProofs [-loopQ_n, h]) <;> (repeat' (first | ((first | refine condD_dec ?_ ?_ | refine guardD_dec ?_ ?_) <;> (intro hc; (try simp -implicitDefEqProofs [-loopQ_n, hc, h]))) | ((first | refine condD_intro ?_ ?_ | refine guardD_intro ?_ ?_) <;> (intro hd; have hc := hd; (try simp at hc) <;> (try simp -implicitDefEqProofs [-loopQ_n, hd, hc, h]))) | (refine ldD_ep ?_ ?_; (focus kernel_rfl); (try simp -implicitDefEqProofs [-loopQ_n, h])))))
      refine loop_intro (σ := List (Ix li) × List (Ix li)) (fun y => ⟨[(0, .os 1 N), (1, .int .i64 a), (2, .int .i64 b), (3, .fn g [.op 0 0]), (8, .int .i64 i), (9, .int .i64 ((a + y.1.length : Nat) : Int))], [bxI li, rowX (A ++ (y.1 ++ (x :: (y.2 ++ (R ++ B)))))]⟩)
        (fun y => y.1 ++ y.2 = P ∧ ∀ z ∈ y.2, ltCX cm x z = true) (fun y => y.1.length) (P, []) ⟨by simp, by simp⟩ ?_ ?_
      · simp only [show a + P.length = i by omega, List.nil_append, List.cons_append]
        refine weak_ofL 2 0 (by simp) (by simp) rfl ?_ ?_ <;> simp [ixC_refsR, ins_refs, refs]
      rintro ⟨P1, P2⟩ ⟨hPP, hz⟩
      simp only at hPP hz
      rcases List.eq_nil_or_concat P1 with rfl | ⟨U, y, rfl⟩
      · obtain ⟨w, hw⟩ : ∃ w, A ++ ([] ++ (x :: (P2 ++ (R ++ B)))) = w := ⟨_, rfl⟩
        rw [hw]
        have hnx := put_left hs (x := x) (P1 := []) (P2 := P2) (by rw [hPP]; exact hS) (by simp) hz
        rw [hPP] at hnx
        ((try simp -implicitDefEqProofs [-loopQ_n, w1]) <;> (repeat' (first | ((first | refine condD_dec ?_ ?_ | refine guardD_dec ?_ ?_) <;> (intro hc; (try simp -implicitDefEqProofs [-loopQ_n, hc, w1]))) | ((first | refine condD_intro ?_ ?_ | refine guardD_intro ?_ ?_) <;> (intro hd; have hc := hd; (try simp at hc) <;> (try simp -implicitDefEqProofs [-loopQ_n, hd, hc, w1]))) | (refine ldD_ep ?_ ?_; (focus kernel_rfl); (try simp -implicitDefEqProofs [-loopQ_n, w1])))))
        refine loop_next (i + 1, x :: P2, R) ⟨by simp only; omega, by simp only; omega, ?_, hnx.1, ?_⟩ (by simp only; omega) (weak_ofL 2 0 (by simp) (by simp) rfl ?_ ?_)
        · rw [List.nil_append] at hPP; simp only [List.length_cons, hPP]; omega
        · refine hX.trans ?_
          have := hnx.2.app (Stb.refl (lt := ltCX cm) R)
          simpa using this
        · simp [refs]
        · rw [← hw]; simp [ixC_refsR, ins_refs]
      · obtain ⟨w, hw⟩ : ∃ w, A ++ ((U.concat y) ++ (x :: (P2 ++ (R ++ B)))) = w := ⟨_, rfl⟩
        have hw2 : (A ++ U) ++ (y :: (x :: (P2 ++ (R ++ B)))) = w := by rw [← hw]; simp
        have hk : (A ++ U).length = a + U.length := by rw [List.length_append, ha]
        have hg := two_get (U := A ++ U) (V := P2 ++ (R ++ B)) (x := y) (y := x) hk
        have ht := two_set' (U := A ++ U) (V := P2 ++ (R ++ B)) (x := y) (y := x) hk
        have hkk : a + (U.concat y).length = a + U.length + 1 := by simp; omega
        have hlk : (U.concat y).length = U.length + 1 := by simp
        have hlP : U.length + 1 + P2.length = P.length := by rw [← hPP]; simp; omega
        rw [hw2] at hg ht
        rw [hw, hkk]
        have hak : (a : Int) < ((a + U.length : Nat) : Int) + 1 := by omega
        generalize hkd : a + U.length = k at *
        obtain ⟨hk1, hx0, hx1⟩ := hg
        have hk0 : k < w.length := by omega
        rw [List.getElem?_eq_getElem hk0] at hx0
        rw [List.getElem?_eq_getElem hk1] at hx1
        have hx0 : w[k] = y := by simpa using hx0
        have hx1 : w[k + 1] = x := by simpa using hx1
        have hwN : w.length = N := by rw [← hw2]; simp only [List.length_append, List.length_cons] at hlen ⊢; omega
        have hk0N : k < N := by omega
        have hk1N : k + 1 < N := by omega
        have h0k : (0 : Int) ≤ (k : Int) + 1 := by omega
        have w5 : wrapI .i64 (k : Int) = k := wrap_in (by omega) (by omega)
        by_cases hlt : cm x y < 0
        · ((try simp -implicitDefEqProofs [-loopQ_n, w1, w5, hak, hwN, hk0N, hk1N, h0k, hk0, hk1, hx0, hx1, ixC, ixC_set, hlt]) <;> (repeat' (first | ((first | refine condD_dec ?_ ?_ | refine guardD_dec ?_ ?_) <;> (intro hc; (try simp -implicitDefEqProofs [-loopQ_n, hc, w1, w5, hak, hwN, hk0N, hk1N, h0k, hk0, hk1, hx0, hx1, ixC, ixC_set, hlt]))) | ((first | refine condD_intro ?_ ?_ | refine guardD_intro ?_ ?_) <;> (intro hd; have hc := hd; (try simp at hc) <;> (try simp -implicitDefEqProofs [-loopQ_n, hd, hc, w1, w5, hak, hwN, hk0N, hk1N, h0k, hk0, hk1, hx0, hx1, ixC, ixC_set, hlt]))) | ((first | (refine ldD_ep ?_ ?_; (focus kernel_rfl)) | (refine callS_mk ?_; (try simp -implicitDefEqProofs [-loopQ_n, w1, w5, hak, hwN, hk0N, hk1N, h0k, hk0, hk1, hx0, hx1, ixC, ixC_set, hlt]); (first | refine callS_intro (hcmp x y) (.inl rfl) ?_))); (try simp -implicitDefEqProofs [-loopQ_n, w1, w5, hak, hwN, hk0N, hk1N, h0k, hk0, hk1, hx0, hx1, ixC, ixC_set, hlt])))))
          refine loop_next (U, y :: P2) ⟨by rw [← hPP]; simp, fun z hz' => ?_⟩ (by simp) (weak_ofL 2 0 (by simp) (by simp) rfl ?_ ?_)
          · rcases List.mem_cons.1 hz' with rfl | hz'
            · simpa [ltCX] using hlt
            · exact hz z hz'
          · simp [refs, ← hkd]
          · rw [ht]; simp [ixC_refsR, ins_refs]
        · ((try simp -implicitDefEqProofs [-loopQ_n, w1, w5, hak, hwN, hk0N, hk1N, h0k, hk0, hk1, hx0, hx1, ixC, ixC_set, hlt]) <;> (repeat' (first | ((first | refine condD_dec ?_ ?_ | refine guardD_dec ?_ ?_) <;> (intro hc; (try simp -implicitDefEqProofs [-loopQ_n, hc, w1, w5, hak, hwN, hk0N, hk1N, h0k, hk0, hk1, hx0, hx1, ixC, ixC_set, hlt]))) | ((first | refine condD_intro ?_ ?_ | refine guardD_intro ?_ ?_) <;> (intro hd; have hc := hd; (try simp at hc) <;> (try simp -implicitDefEqProofs [-loopQ_n, hd, hc, w1, w5, hak, hwN, hk0N, hk1N, h0k, hk0, hk1, hx0, hx1, ixC, ixC_set, hlt]))) | ((first | (refine ldD_ep ?_ ?_; (focus kernel_rfl)) | (refine callS_mk ?_; (try simp -implicitDefEqProofs [-loopQ_n, w1, w5, hak, hwN, hk0N, hk1N, h0k, hk0, hk1, hx0, hx1, ixC, ixC_set, hlt]); (first | refine callS_intro (hcmp x y) (.inl rfl) ?_))); (try simp -implicitDefEqProofs [-loopQ_n, w1, w5, hak, hwN, hk0N, hk1N, h0k, hk0, hk1, hx0, hx1, ixC, ixC_set, hlt])))))
          have hy : ltCX cm x y = false := by simpa [ltCX] using hlt
          have hall : ∀ z ∈ U.concat y, ltCX cm x z = false := fun z hz' => by
            rw [List.concat_eq_append, List.mem_append, List.mem_singleton] at hz'
            rcases hz' with hz' | rfl
            · rw [← hPP, List.concat_eq_append, srtd_app, srtd_app] at hS
              exact hs.ge (hS.1.2.2 z hz' y (by simp)) hy
            · exact hy
          have hnx := put_left hs (x := x) (P1 := U.concat y) (P2 := P2) (by rw [hPP]; exact hS) hall hz
          rw [hPP] at hnx
          refine loop_next (i + 1, U.concat y ++ x :: P2, R) ⟨by simp only; omega, by simp only; omega, ?_, hnx.1, ?_⟩ (by simp only; omega) (weak_ofL 2 0 (by simp) (by simp) rfl ?_ ?_)
          · simp only [List.length_append, List.length_cons, hlk]; omega
          · refine hX.trans ?_
            have := hnx.2.app (Stb.refl (lt := ltCX cm) R)
            simpa using this
          · simp [refs]
          · rw [← hw]; simp [ixC_refsR, ins_refs]
  · have hR : R = [] := List.eq_nil_of_length_eq_zero (by omega)
    subst hR
    ((try simp -implicitDefEqProofs [-loopQ_n, h]) <;> (repeat' (first | ((first | refine condD_dec ?_ ?_ | refine guardD_dec ?_ ?_) <;> (intro hc; (try simp -implicitDefEqProofs [-loopQ_n, hc, h]))) | ((first | refine condD_intro ?_ ?_ | refine guardD_intro ?_ ?_) <;> (intro hd; have hc := hd; (try simp at hc) <;> (try simp -implicitDefEqProofs [-loopQ_n, hd, hc, h]))) | (refine ldD_ep ?_ ?_; (focus kernel_rfl); (try simp -implicitDefEqProofs [-loopQ_n, h])))))
    exact endG_n (.tup []) rfl ⟨rfl, P, by simp, by omega, hS, by simpa using hX⟩
end Go.Proofs.YthiclaihlpkinaaGreat
namespace Go.Proofs.YthiclaihlpkinaaGreat
open Go.RowKit
variable [Glob]
open Stab
variable {li : List Ins}
theorem wu_inX {n : Int} (h1 : 0 ≤ n) (h2 : n ≤ 9223372036854775807) : wrapI .u64 n = n := by rw [wrapI_eq]; exact IntWalk.u64_in _ ⟨h1, by omega⟩
theorem half_natX (s : Nat) : (s : Int) / 2 = ((s / 2 : Nat) : Int) := by omega
/-- What a call of symMerge does. -/
def SymCX (g : Nat) (cm : (Ix li) → (Ix li) → Int) (A P Q B : List (Ix li)) : Prop :=
  CallG Tryz.prog 90 [.os 1 (A ++ (P ++ (Q ++ B))).length, .int .i64 A.length, .int .i64 (A.length + P.length : Nat), .int .i64 (A.length + P.length + Q.length : Nat), .fn g [.op 0 0]] [bxI li, rowX (A ++ (P ++ (Q ++ B)))]
      fun r H => r = .tup [] ∧ ∃ R : List (Ix li), H = [bxI li, rowX (A ++ (R ++ B))] ∧ Srtd (ltCX cm) R ∧ Stb (ltCX cm) (P ++ Q) R
set_option maxHeartbeats 8000000 in
theorem sym_oneX (g : Nat) (cm : (Ix li) → (Ix li) → Int) (hcmp : ∀ x y : (Ix li), Pure Tryz.prog g [.int .i64 (x.i : Int), .int .i64 (y.i : Int), .rp [.rs (rowsOf insC li)]] (.int .i64 (cm x y))) (hs : Swo (ltCX cm))
    (A Q B : List (Ix li)) (x : (Ix li)) (hQ : Srtd (ltCX cm) Q) (hl : (A ++ ([x] ++ (Q ++ B))).length ≤ 2000) : SymCX g cm A [x] Q B := by
  unfold SymCX
  obtain ⟨N, hN⟩ : ∃ N, (A ++ ([x] ++ (Q ++ B))).length = N := ⟨_, rfl⟩
  obtain ⟨a, ha⟩ : ∃ a, A.length = a := ⟨_, rfl⟩
  obtain ⟨m, hm⟩ : ∃ m, a + [x].length = m := ⟨_, rfl⟩
  obtain ⟨b, hb⟩ : ∃ b, m + Q.length = b := ⟨_, rfl⟩
  rw [hN] at hl ⊢
  rw [ha, hm, hb]
  have hT : a + 1 + Q.length + B.length = N := by rw [← hN, ← ha]; simp; omega
  have hma : m = a + 1 := by rw [← hm]; simp
  have w0 : wrapI .i64 ((m : Int) - a) = 1 := by rw [wrap_in (by omega) (by omega)]; omega
  obtain ⟨w, hw⟩ : ∃ w, A ++ ([x] ++ (Q ++ B)) = w := ⟨_, rfl⟩
  have hwN : w.length = N := by rw [← hw]; exact hN
  have hwa : w[a]? = some x := by rw [← hw, List.getElem?_append_right (by omega), ha]; simp
  have hwQ : ∀ t, t < Q.length → w[m + t]? = Q[t]? := fun t ht => by
    rw [← hw, List.getElem?_append_right (by omega), List.getElem?_append_right (by simp; omega), List.getElem?_append_left (by simp; omega)]
    congr 1; simp; omega
  rw [hw]
  refine inl_G mixed Tryz.func90 rfl (by kernel_rfl) (of_decide_eq_true rfl) (by kernel_rfl) (vc_run ?_)
  ((try simp -implicitDefEqProofs [-loopQ_n, w0]) <;> (repeat' (first | ((first | refine condD_dec ?_ ?_ | refine guardD_dec ?_ ?_) <;> (intro hc; (try simp -implicitDefEqProofs [-loopQ_n, hc, w0]))) | ((first | refine condD_intro ?_ ?_ | refine guardD_intro ?_ ?_) <;> (intro hd; have hc := hd; (try simp at hc) <;> (try simp -implicitDefEqProofs [-loopQ_n, hd, hc, w0]))) | (refine ldD_ep ?_ ?_; (focus kernel_rfl); (try simp -implicitDefEqProofs [-loopQ_n, w0])))))
  refine loop_intro (σ := Nat × Nat) (fun y => ⟨[(0, .os 1 N), (1, .int .i64 a), (4, .fn g [.op 0 0]), (10, .int .i64 y.1), (11, .int .i64 y.2)], [bxI li, rowX w]⟩)
    (fun y => m ≤ y.1 ∧ y.1 ≤ y.2 ∧ y.2 ≤ b ∧ (y.1 - m = 0 ∨ ∃ z, Q[y.1 - m - 1]? = some z ∧ ltCX cm z x = true) ∧ (y.2 - m = Q.length ∨ ∃ z, Q[y.2 - m]? = some z ∧ ltCX cm z x = false)) (fun y => y.2 - y.1) (m, b) ⟨by simp, by simp only; omega, by simp, .inl (by simp), .inl (by simp only; omega)⟩ ?_ ?_
  · refine weak_ofL 2 0 (by simp) (by simp) rfl ?_ ?_ <;> simp [ixC_refsR, ins_refs, refs]
  rintro ⟨i, j⟩ ⟨hi, hij, hj, c1, c2⟩
  simp only at hi hij hj c1 c2
  by_cases h : i < j
  · obtain ⟨s, hsum⟩ : ∃ s, i + j = s := ⟨_, rfl⟩
    obtain ⟨k, hk⟩ : ∃ k, s / 2 = k := ⟨_, rfl⟩
    have w1 := wi_addX (a := i) (b := j) (by omega)
    rw [hsum] at w1
    have w2 : wrapI .u64 (s : Int) = s := wu_inX (by omega) (by omega)
    have w3 : wrapI .i64 (k : Int) = k := wrap_in (by omega) (by omega)
    have w4 := wi_oneX (a := k) (by omega)
    have hh := half_natX s
    rw [hk] at hh
    have hkN : k < N := by omega
    have haN : a < N := by omega
    have hkw : k < w.length := by omega
    have haw : a < w.length := by omega
    have hxa : w[a] = x := by rw [List.getElem?_eq_getElem haw] at hwa; simpa using hwa
    obtain ⟨y, hy⟩ : ∃ y, w[k] = y := ⟨_, rfl⟩
    have hyQ : Q[k - m]? = some y := by rw [← hwQ (k - m) (by omega), show m + (k - m) = k by omega, List.getElem?_eq_getElem hkw, hy]
    by_cases hlt : cm y x < 0
    · ((try simp -implicitDefEqProofs [-loopQ_n, h, w1, w2, w3, w4, hh, hwN, hkN, haN, hkw, haw, hxa, hy, ixC, hlt]) <;> (repeat' (first | ((first | refine condD_dec ?_ ?_ | refine guardD_dec ?_ ?_) <;> (intro hc; (try simp -implicitDefEqProofs [-loopQ_n, hc, h, w1, w2, w3, w4, hh, hwN, hkN, haN, hkw, haw, hxa, hy, ixC, hlt]))) | ((first | refine condD_intro ?_ ?_ | refine guardD_intro ?_ ?_) <;> (intro hd; have hc := hd; (try simp at hc) <;> (try simp -implicitDefEqProofs [-loopQ_n, hd, hc, h, w1, w2, w3, w4, hh, hwN, hkN, haN, hkw, haw, hxa, hy, ixC, hlt]))) | ((first | (refine ldD_ep ?_ ?_; (focus kernel_rfl)) | (refine callS_mk ?_; (try simp -implicitDefEqProofs [-loopQ_n, h, w1, w2, w3, w4, hh, hwN, hkN, haN, hkw, haw, hxa, hy, ixC, hlt]); (first | refine callS_intro (hcmp y x) (.inl rfl) ?_))); (try simp -implicitDefEqProofs [-loopQ_n, h, w1, w2, w3, w4, hh, hwN, hkN, haN, hkw, haw, hxa, hy, ixC, hlt])))))
      refine loop_next (k + 1, j) ⟨by simp only; omega, by simp only; omega, hj, .inr ⟨y, ?_, by simpa [ltCX] using hlt⟩, c2⟩ (by simp only; omega) (weak_ofL 2 0 (by simp) (by simp) rfl ?_ ?_)
      · rw [show (k + 1, j).1 - m - 1 = k - m by simp only; omega]; exact hyQ
      · simp [refs]
      · simp [ixC_refsR, ins_refs]
    · ((try simp -implicitDefEqProofs [-loopQ_n, h, w1, w2, w3, w4, hh, hwN, hkN, haN, hkw, haw, hxa, hy, ixC, hlt]) <;> (repeat' (first | ((first | refine condD_dec ?_ ?_ | refine guardD_dec ?_ ?_) <;> (intro hc; (try simp -implicitDefEqProofs [-loopQ_n, hc, h, w1, w2, w3, w4, hh, hwN, hkN, haN, hkw, haw, hxa, hy, ixC, hlt]))) | ((first | refine condD_intro ?_ ?_ | refine guardD_intro ?_ ?_) <;> (intro hd; have hc := hd; (try simp at hc) <;> (try simp -implicitDefEqProofs [-loopQ_n, hd, hc, h, w1, w2, w3, w4, hh, hwN, hkN, haN, hkw, haw, hxa, hy, ixC, hlt]))) | ((first | (refine ldD_ep ?_ ?_; (focus kernel_rfl)) | (refine callS_mk ?_; (try simp -implicitDefEqProofs [-loopQ_n, h, w1, w2, w3, w4, hh, hwN, hkN, haN, hkw, haw, hxa, hy, ixC, hlt]); (first | refine callS_intro (hcmp y x) (.inl rfl) ?_))); (try simp -implicitDefEqProofs [-loopQ_n, h, w1, w2, w3, w4, hh, hwN, hkN, haN, hkw, haw, hxa, hy, ixC, hlt])))))
      refine loop_next (i, k) ⟨hi, by simp only; omega, by simp only; omega, c1, .inr ⟨y, hyQ, by simpa [ltCX] using hlt⟩⟩ (by simp only; omega) (weak_ofL 2 0 (by simp) (by simp) rfl ?_ ?_)
      · simp [refs]
      · simp [ixC_refsR, ins_refs]
  · have hij : j = i := by omega
    subst hij
    obtain ⟨hc1, hc2⟩ := cut_right hs hQ (x := x) (k := j - m) c1 c2
    have hsp := List.take_append_drop (j - m) Q
    have hlq : (Q.take (j - m)).length = j - m := by rw [List.length_take]; omega
    rw [← hsp] at hQ
    have hput := put_right hs hQ hc1 hc2
    rw [hsp] at hput
    generalize Q.take (j - m) = Q1 at *
    generalize Q.drop (j - m) = Q2 at *
    obtain ⟨e, he⟩ : ∃ e, j - 1 = e := ⟨_, rfl⟩
    have w5 := wi_subX (a := j) (b := 1) (by omega) (by omega)
    rw [he] at w5
    have w5 : wrapI .i64 ((j : Int) - 1) = e := w5
    ((try simp -implicitDefEqProofs [-loopQ_n, h]) <;> (repeat' (first | ((first | refine condD_dec ?_ ?_ | refine guardD_dec ?_ ?_) <;> (intro hc; (try simp -implicitDefEqProofs [-loopQ_n, hc, h]))) | ((first | refine condD_intro ?_ ?_ | refine guardD_intro ?_ ?_) <;> (intro hd; have hc := hd; (try simp at hc) <;> (try simp -implicitDefEqProofs [-loopQ_n, hd, hc, h]))) | (refine ldD_ep ?_ ?_; (focus kernel_rfl); (try simp -implicitDefEqProofs [-loopQ_n, h])))))
    refine loop_intro (σ := List (Ix li) × List (Ix li)) (fun y => ⟨[(0, .os 1 N), (10, .int .i64 j), (13, .int .i64 (a + y.1.length : Nat))], [bxI li, rowX (A ++ (y.1 ++ (x :: (y.2 ++ (Q2 ++ B)))))]⟩)
      (fun y => y.1 ++ y.2 = Q1) (fun y => y.2.length) ([], Q1) rfl ?_ ?_
    · have e : A ++ ([] ++ (x :: (Q1 ++ (Q2 ++ B)))) = w := by rw [← hw, ← hsp]; simp
      simp only [e]
      refine weak_ofL 2 0 (by simp) (by simp) rfl ?_ ?_ <;> simp [ixC_refsR, ins_refs, refs]
    rintro ⟨U, V⟩ hUV
    simp only at hUV
    have hlUV : U.length + V.length = Q1.length := by rw [← hUV]; simp
    match V, hUV, hlUV with
    | [], hUV, hlUV =>
      have hk : a + U.length = e := by simp at hlUV; omega
      have hf : ¬ (e : Int) < e := by omega
      obtain ⟨w', hw'⟩ : ∃ w', A ++ (U ++ (x :: ([] ++ (Q2 ++ B)))) = w' := ⟨_, rfl⟩
      rw [hw', hk]
      ((try simp -implicitDefEqProofs [-loopQ_n, w5, hf]) <;> (repeat' (first | ((first | refine condD_dec ?_ ?_ | refine guardD_dec ?_ ?_) <;> (intro hc; (try simp -implicitDefEqProofs [-loopQ_n, hc, w5, hf]))) | ((first | refine condD_intro ?_ ?_ | refine guardD_intro ?_ ?_) <;> (intro hd; have hc := hd; (try simp at hc) <;> (try simp -implicitDefEqProofs [-loopQ_n, hd, hc, w5, hf]))) | (refine ldD_ep ?_ ?_; (focus kernel_rfl); (try simp -implicitDefEqProofs [-loopQ_n, w5, hf])))))
      refine endG_r (.tup []) rfl ⟨rfl, Q1 ++ x :: Q2, ?_, hput.1, hput.2⟩
      rw [← hw', ← hUV]; simp
    | y :: V, hUV, hlUV =>
      obtain ⟨w', hw'⟩ : ∃ w', A ++ (U ++ (x :: (y :: V ++ (Q2 ++ B)))) = w' := ⟨_, rfl⟩
      have hw2 : (A ++ U) ++ (x :: (y :: (V ++ (Q2 ++ B)))) = w' := by rw [← hw']; simp
      have hk : (A ++ U).length = a + U.length := by rw [List.length_append, ha]
      have hg := two_get (U := A ++ U) (V := V ++ (Q2 ++ B)) (x := x) (y := y) hk
      have ht := two_set (U := A ++ U) (V := V ++ (Q2 ++ B)) (x := x) (y := y) hk
      have hwN' : w'.length = N := by rw [← hw2]; rw [← hsp] at hT; simp only [List.length_append, List.length_cons] at hlUV hT ⊢; omega
      rw [hw2] at hg ht
      rw [hw']
      simp only [List.length_cons] at hlUV
      generalize hkd : a + U.length = k at *
      obtain ⟨hk1, hx0, hx1⟩ := hg
      have hk0 : k < w'.length := by omega
      rw [List.getElem?_eq_getElem hk0] at hx0
      rw [List.getElem?_eq_getElem hk1] at hx1
      have hx0 : w'[k] = x := by simpa using hx0
      have hx1 : w'[k + 1] = y := by simpa using hx1
      have hk0N : k < N := by omega
      have hk1N : k + 1 < N := by omega
      have h0k : (0 : Int) ≤ (k : Int) + 1 := by omega
      have w6 := wi_oneX (a := k) (by omega)
      have hke : k < e := by omega
      ((try simp -implicitDefEqProofs [-loopQ_n, w5, w6, hke, hwN', hk0N, hk1N, h0k, hk0, hk1, hx0, hx1, ixC, ixC_set]) <;> (repeat' (first | ((first | refine condD_dec ?_ ?_ | refine guardD_dec ?_ ?_) <;> (intro hc; (try simp -implicitDefEqProofs [-loopQ_n, hc, w5, w6, hke, hwN', hk0N, hk1N, h0k, hk0, hk1, hx0, hx1, ixC, ixC_set]))) | ((first | refine condD_intro ?_ ?_ | refine guardD_intro ?_ ?_) <;> (intro hd; have hc := hd; (try simp at hc) <;> (try simp -implicitDefEqProofs [-loopQ_n, hd, hc, w5, w6, hke, hwN', hk0N, hk1N, h0k, hk0, hk1, hx0, hx1, ixC, ixC_set]))) | (refine ldD_ep ?_ ?_; (focus kernel_rfl); (try simp -implicitDefEqProofs [-loopQ_n, w5, w6, hke, hwN', hk0N, hk1N, h0k, hk0, hk1, hx0, hx1, ixC, ixC_set])))))
      refine loop_next (U ++ [y], V) (by simp only; rw [← hUV]; simp) (by simp) (weak_ofL 2 0 (by simp) (by simp) rfl ?_ ?_)
      · simp [refs, ← hkd]; omega
      · rw [ht]; simp [ixC_refsR, ins_refs]
set_option maxHeartbeats 8000000 in
theorem sym_lastX (g : Nat) (cm : (Ix li) → (Ix li) → Int) (hcmp : ∀ x y : (Ix li), Pure Tryz.prog g [.int .i64 (x.i : Int), .int .i64 (y.i : Int), .rp [.rs (rowsOf insC li)]] (.int .i64 (cm x y))) (hs : Swo (ltCX cm))
    (A P B : List (Ix li)) (x : (Ix li)) (hP : Srtd (ltCX cm) P) (hP1 : P.length ≠ 1) (hl : (A ++ (P ++ ([x] ++ B))).length ≤ 2000) : SymCX g cm A P [x] B := by
  unfold SymCX
  obtain ⟨N, hN⟩ : ∃ N, (A ++ (P ++ ([x] ++ B))).length = N := ⟨_, rfl⟩
  obtain ⟨a, ha⟩ : ∃ a, A.length = a := ⟨_, rfl⟩
  obtain ⟨d, hd⟩ : ∃ d, P.length = d := ⟨_, rfl⟩
  obtain ⟨m, hm⟩ : ∃ m, a + d = m := ⟨_, rfl⟩
  obtain ⟨b, hb⟩ : ∃ b, m + [x].length = b := ⟨_, rfl⟩
  rw [hN] at hl ⊢
  rw [ha, hd, hm, hb]
  rw [hd] at hP1
  have hT : a + d + 1 + B.length = N := by rw [← hN, ← ha, ← hd]; simp; omega
  have hmb : b = m + 1 := by rw [← hb]; simp
  have w0 := wi_subX (a := m) (b := a) (by omega) (by omega)
  rw [show m - a = d by omega] at w0
  have w00 : wrapI .i64 ((b : Int) - m) = 1 := by rw [wrap_in (by omega) (by omega)]; omega
  have hd1 : ¬ (d : Int) = 1 := by omega
  obtain ⟨w, hw⟩ : ∃ w, A ++ (P ++ ([x] ++ B)) = w := ⟨_, rfl⟩
  have hwN : w.length = N := by rw [← hw]; exact hN
  have hwm : w[m]? = some x := by rw [← hw, List.getElem?_append_right (by omega), List.getElem?_append_right (by omega), ha, hd, show m - a - d = 0 by omega]; simp
  have hwP : ∀ t, t < P.length → w[a + t]? = P[t]? := fun t ht => by
    rw [← hw, List.getElem?_append_right (by omega), List.getElem?_append_left (by omega)]
    congr 1; omega
  rw [hw]
  refine inl_G mixed Tryz.func90 rfl (by kernel_rfl) (of_decide_eq_true rfl) (by kernel_rfl) (vc_run ?_)
  ((try simp -implicitDefEqProofs [-loopQ_n, w0, w00, hd1, hP1]) <;> (repeat' (first | ((first | refine condD_dec ?_ ?_ | refine guardD_dec ?_ ?_) <;> (intro hc; (try simp -implicitDefEqProofs [-loopQ_n, hc, w0, w00, hd1, hP1]))) | ((first | refine condD_intro ?_ ?_ | refine guardD_intro ?_ ?_) <;> (intro hd; have hc := hd; (try simp at hc) <;> (try simp -implicitDefEqProofs [-loopQ_n, hd, hc, w0, w00, hd1, hP1]))) | (refine ldD_ep ?_ ?_; (focus kernel_rfl); (try simp -implicitDefEqProofs [-loopQ_n, w0, w00, hd1, hP1])))))
  refine loop_intro (σ := Nat × Nat) (fun y => ⟨[(0, .os 1 N), (2, .int .i64 m), (4, .fn g [.op 0 0]), (14, .int .i64 y.1), (15, .int .i64 y.2)], [bxI li, rowX w]⟩)
    (fun y => a ≤ y.1 ∧ y.1 ≤ y.2 ∧ y.2 ≤ m ∧ (y.1 - a = 0 ∨ ∃ z, P[y.1 - a - 1]? = some z ∧ ltCX cm x z = false) ∧ (y.2 - a = P.length ∨ ∃ z, P[y.2 - a]? = some z ∧ ltCX cm x z = true)) (fun y => y.2 - y.1) (a, m) ⟨by simp, by simp only; omega, by simp, .inl (by simp), .inl (by simp only; omega)⟩ ?_ ?_
  · refine weak_ofL 2 0 (by simp) (by simp) rfl ?_ ?_ <;> simp [ixC_refsR, ins_refs, refs]
  rintro ⟨i, j⟩ ⟨hi, hij, hj, c1, c2⟩
  simp only at hi hij hj c1 c2
  by_cases h : i < j
  · obtain ⟨s, hsum⟩ : ∃ s, i + j = s := ⟨_, rfl⟩
    obtain ⟨k, hk⟩ : ∃ k, s / 2 = k := ⟨_, rfl⟩
    have w1 := wi_addX (a := i) (b := j) (by omega)
    rw [hsum] at w1
    have w2 : wrapI .u64 (s : Int) = s := wu_inX (by omega) (by omega)
    have w3 : wrapI .i64 (k : Int) = k := wrap_in (by omega) (by omega)
    have w4 := wi_oneX (a := k) (by omega)
    have hh := half_natX s
    rw [hk] at hh
    have hkN : k < N := by omega
    have hmN : m < N := by omega
    have hkw : k < w.length := by omega
    have hmw : m < w.length := by omega
    have hxm : w[m] = x := by rw [List.getElem?_eq_getElem hmw] at hwm; simpa using hwm
    obtain ⟨y, hy⟩ : ∃ y, w[k] = y := ⟨_, rfl⟩
    have hyP : P[k - a]? = some y := by rw [← hwP (k - a) (by omega), show a + (k - a) = k by omega, List.getElem?_eq_getElem hkw, hy]
    by_cases hlt : cm x y < 0
    · ((try simp -implicitDefEqProofs [-loopQ_n, h, w1, w2, w3, w4, hh, hwN, hkN, hmN, hkw, hmw, hxm, hy, ixC, hlt]) <;> (repeat' (first | ((first | refine condD_dec ?_ ?_ | refine guardD_dec ?_ ?_) <;> (intro hc; (try simp -implicitDefEqProofs [-loopQ_n, hc, h, w1, w2, w3, w4, hh, hwN, hkN, hmN, hkw, hmw, hxm, hy, ixC, hlt]))) | ((first | refine condD_intro ?_ ?_ | refine guardD_intro ?_ ?_) <;> (intro hd; have hc := hd; (try simp at hc) <;> (try simp -implicitDefEqProofs [-loopQ_n, hd, hc, h, w1, w2, w3, w4, hh, hwN, hkN, hmN, hkw, hmw, hxm, hy, ixC, hlt]))) | ((first | (refine ldD_ep ?_ ?_; (focus kernel_rfl)) | (refine callS_mk ?_; (try simp -implicitDefEqProofs [-loopQ_n, h, w1, w2, w3, w4, hh, hwN, hkN, hmN, hkw, hmw, hxm, hy, ixC, hlt]); (first | refine callS_intro (hcmp x y) (.inl rfl) ?_))); (try simp -implicitDefEqProofs [-loopQ_n, h, w1, w2, w3, w4, hh, hwN, hkN, hmN, hkw, hmw, hxm, hy, ixC, hlt])))))
      refine loop_next (i, k) ⟨hi, by simp only; omega, by simp only; omega, c1, .inr ⟨y, hyP, by simpa [ltCX] using hlt⟩⟩ (by simp only; omega) (weak_ofL 2 0 (by simp) (by simp) rfl ?_ ?_)
      · simp [refs]
      · simp [ixC_refsR, ins_refs]
    · ((try simp -implicitDefEqProofs [-loopQ_n, h, w1, w2, w3, w4, hh, hwN, hkN, hmN, hkw, hmw, hxm, hy, ixC, hlt]) <;> (repeat' (first | ((first | refine condD_dec ?_ ?_ | refine guardD_dec ?_ ?_) <;> (intro hc; (try simp -implicitDefEqProofs [-loopQ_n, hc, h, w1, w2, w3, w4, hh, hwN, hkN, hmN, hkw, hmw, hxm, hy, ixC, hlt]))) | ((first | refine condD_intro ?_ ?_ | refine guardD_intro ?_ ?_) <;> (intro hd; have hc := hd; (try simp at hc) <;> (try simp -implicitDefEqProofs [-loopQ_n, hd, hc, h, w1, w2, w3, w4, hh, hwN, hkN, hmN, hkw, hmw, hxm, hy, ixC, hlt]))) | ((first | (refine ldD_ep ?_ ?_; (focus kernel_rfl)) | (refine callS_mk ?_; (try simp -implicitDefEqProofs [-loopQ_n, h, w1, w2, w3, w4, hh, hwN, hkN, hmN, hkw, hmw, hxm, hy, ixC, hlt]); (first | refine callS_intro (hcmp x y) (.inl rfl) ?_))); (try simp -implicitDefEqProofs [-loopQ_n, h, w1, w2, w3, w4, hh, hwN, hkN, hmN, hkw, hmw, hxm, hy, ixC, hlt])))))
      refine loop_next (k + 1, j) ⟨by simp only; omega, by simp only; omega, hj, .inr ⟨y, ?_, by simpa [ltCX] using hlt⟩, c2⟩ (by simp only; omega) (weak_ofL 2 0 (by simp) (by simp) rfl ?_ ?_)
      · rw [show (k + 1, j).1 - a - 1 = k - a by simp only; omega]; exact hyP
      · simp [refs]
      · simp [ixC_refsR, ins_refs]
  · have hij : j = i := by omega
    subst hij
    obtain ⟨hc1, hc2⟩ := cut_left hs hP (x := x) (k := j - a) c1 c2
    have hsp := List.take_append_drop (j - a) P
    have hlq : (P.take (j - a)).length = j - a := by rw [List.length_take]; omega
    rw [← hsp] at hP
    have hput := put_left hs hP hc1 hc2
    rw [hsp] at hput
    generalize P.take (j - a) = P1 at *
    generalize P.drop (j - a) = P2 at *
    have hl2 : P1.length + P2.length = d := by rw [← hd, ← hsp]; simp
    ((try simp -implicitDefEqProofs [-loopQ_n, h]) <;> (repeat' (first | ((first | refine condD_dec ?_ ?_ | refine guardD_dec ?_ ?_) <;> (intro hc; (try simp -implicitDefEqProofs [-loopQ_n, hc, h]))) | ((first | refine condD_intro ?_ ?_ | refine guardD_intro ?_ ?_) <;> (intro hd; have hc := hd; (try simp at hc) <;> (try simp -implicitDefEqProofs [-loopQ_n, hd, hc, h]))) | (refine ldD_ep ?_ ?_; (focus kernel_rfl); (try simp -implicitDefEqProofs [-loopQ_n, h])))))
    refine loop_intro (σ := List (Ix li) × List (Ix li)) (fun y => ⟨[(0, .os 1 N), (14, .int .i64 j), (17, .int .i64 (j + y.1.length : Nat))], [bxI li, rowX (A ++ (P1 ++ (y.1 ++ (x :: (y.2 ++ B)))))]⟩)
      (fun y => y.1 ++ y.2 = P2) (fun y => y.1.length) (P2, []) (by simp) ?_ ?_
    · have e : A ++ (P1 ++ (P2 ++ (x :: ([] ++ B)))) = w := by rw [← hw, ← hsp]; simp
      have e2 : j + P2.length = m := by omega
      simp only [e, e2]
      refine weak_ofL 2 0 (by simp) (by simp) rfl ?_ ?_ <;> simp [ixC_refsR, ins_refs, refs]
    rintro ⟨U, V⟩ hUV
    simp only at hUV
    have hlUV : U.length + V.length = P2.length := by rw [← hUV]; simp
    rcases List.eq_nil_or_concat U with rfl | ⟨U, y, rfl⟩
    · have hf : ¬ (j : Int) < j := by omega
      obtain ⟨w', hw'⟩ : ∃ w', A ++ (P1 ++ ([] ++ (x :: (V ++ B)))) = w' := ⟨_, rfl⟩
      rw [hw']
      ((try simp -implicitDefEqProofs [-loopQ_n, hf]) <;> (repeat' (first | ((first | refine condD_dec ?_ ?_ | refine guardD_dec ?_ ?_) <;> (intro hc; (try simp -implicitDefEqProofs [-loopQ_n, hc, hf]))) | ((first | refine condD_intro ?_ ?_ | refine guardD_intro ?_ ?_) <;> (intro hd; have hc := hd; (try simp at hc) <;> (try simp -implicitDefEqProofs [-loopQ_n, hd, hc, hf]))) | (refine ldD_ep ?_ ?_; (focus kernel_rfl); (try simp -implicitDefEqProofs [-loopQ_n, hf])))))
      refine endG_r (.tup []) rfl ⟨rfl, P1 ++ x :: P2, ?_, hput.1, hput.2⟩
      rw [← hw', ← hUV]; simp
    · obtain ⟨w', hw'⟩ : ∃ w', A ++ (P1 ++ (U.concat y ++ (x :: (V ++ B)))) = w' := ⟨_, rfl⟩
      have hw2 : (A ++ (P1 ++ U)) ++ (y :: (x :: (V ++ B))) = w' := by rw [← hw']; simp
      have hk : (A ++ (P1 ++ U)).length = j + U.length := by rw [List.length_append, List.length_append, ha]; omega
      have hg := two_get (U := A ++ (P1 ++ U)) (V := V ++ B) (x := y) (y := x) hk
      have ht := two_set' (U := A ++ (P1 ++ U)) (V := V ++ B) (x := y) (y := x) hk
      have hlc : (U.concat y).length = U.length + 1 := by simp
      have hkk : j + (U.concat y).length = j + U.length + 1 := by omega
      rw [hlc] at hlUV
      have hwN' : w'.length = N := by rw [← hw2]; simp only [List.length_append, List.length_cons] at hlUV hT ⊢; omega
      rw [hw2] at hg ht
      rw [hw', hkk]
      have hak : (j : Int) < ((j + U.length : Nat) : Int) + 1 := by omega
      generalize hkd : j + U.length = k at *
      obtain ⟨hk1, hx0, hx1⟩ := hg
      have hk0 : k < w'.length := by omega
      rw [List.getElem?_eq_getElem hk0] at hx0
      rw [List.getElem?_eq_getElem hk1] at hx1
      have hx0 : w'[k] = y := by simpa using hx0
      have hx1 : w'[k + 1] = x := by simpa using hx1
      have hk0N : k < N := by omega
      have hk1N : k + 1 < N := by omega
      have h0k : (0 : Int) ≤ (k : Int) + 1 := by omega
      have w5 : wrapI .i64 (k : Int) = k := wrap_in (by omega) (by omega)
      ((try simp -implicitDefEqProofs [-loopQ_n, w5, hak, hwN', hk0N, hk1N, h0k, hk0, hk1, hx0, hx1, ixC, ixC_set]) <;> (repeat' (first | ((first | refine condD_dec ?_ ?_ | refine guardD_dec ?_ ?_) <;> (intro hc; (try simp -implicitDefEqProofs [-loopQ_n, hc, w5, hak, hwN', hk0N, hk1N, h0k, hk0, hk1, hx0, hx1, ixC, ixC_set]))) | ((first | refine condD_intro ?_ ?_ | refine guardD_intro ?_ ?_) <;> (intro hd; have hc := hd; (try simp at hc) <;> (try simp -implicitDefEqProofs [-loopQ_n, hd, hc, w5, hak, hwN', hk0N, hk1N, h0k, hk0, hk1, hx0, hx1, ixC, ixC_set]))) | (refine ldD_ep ?_ ?_; (focus kernel_rfl); (try simp -implicitDefEqProofs [-loopQ_n, w5, hak, hwN', hk0N, hk1N, h0k, hk0, hk1, hx0, hx1, ixC, ixC_set])))))
      refine loop_next (U, y :: V) (by simp only; rw [← hUV]; simp) (by simp) (weak_ofL 2 0 (by simp) (by simp) rfl ?_ ?_)
      · simp [refs, ← hkd]
      · rw [ht]; simp [ixC_refsR, ins_refs]
end Go.Proofs.YthiclaihlpkinaaGreat
namespace Go.Proofs.YthiclaihlpkinaaGreat
open Go.RowKit
variable [Glob]
open Stab
variable {li : List Ins}
theorem SymCX.at {g : Nat} {cm : (Ix li) → (Ix li) → Int} {A P Q B : List (Ix li)} (h : SymCX g cm A P Q B) {N a m b : Nat} (hN : (A ++ (P ++ (Q ++ B))).length = N) (ha : A.length = a) (hm : a + P.length = m) (hb : m + Q.length = b) :
    CallG Tryz.prog 90 [.os 1 N, .int .i64 a, .int .i64 m, .int .i64 b, .fn g [.op 0 0]] [bxI li, rowX (A ++ (P ++ (Q ++ B)))]
      fun r H => r = .tup [] ∧ ∃ R : List (Ix li), H = [bxI li, rowX (A ++ (R ++ B))] ∧ Srtd (ltCX cm) R ∧ Stb (ltCX cm) (P ++ Q) R := by
  subst hN ha hm hb
  exact h
def SymLX (cm : (Ix li) → (Ix li) → Int) (P Q : List (Ix li)) (a h r0 r : Nat) : Prop := r = r0 ∨ ∃ u v, P[r - a]? = some u ∧ Q[h - 1 - (r - a)]? = some v ∧ ltCX cm v u = true
def SymGX (cm : (Ix li) → (Ix li) → Int) (P Q : List (Ix li)) (a h s0 s : Nat) : Prop := s = s0 ∨ ∃ u v, P[s - a - 1]? = some u ∧ Q[h - (s - a)]? = some v ∧ ltCX cm v u = false
set_option maxHeartbeats 16000000 in
theorem sym_partsX (g : Nat) (cm : (Ix li) → (Ix li) → Int) (hs : Swo (ltCX cm)) (A P Q B P1 P2 Q1 Q2 w w1 : List (Ix li)) (hP : Srtd (ltCX cm) P) (hQ : Srtd (ltCX cm) Q)
    (ih : ∀ A' P' Q' B' : List (Ix li), P'.length + Q'.length < P.length + Q.length → Srtd (ltCX cm) P' → Srtd (ltCX cm) Q' → P' ≠ [] → Q' ≠ [] → (A' ++ (P' ++ (Q' ++ B'))).length ≤ 2000 → SymCX g cm A' P' Q' B')
    (N a m b mid r en d f : Nat) (ha : A.length = a) (hd : P.length = d) (hf : Q.length = f) (hm : a + d = m) (hb : m + f = b) (hP1 : 2 ≤ d) (hQ1 : 2 ≤ f) (hmid1 : a < mid) (hmid2 : mid < b) (hT : a + d + f + B.length = N) (hN2 : N ≤ 2000)
    (hspP : P1 ++ P2 = P) (hspQ : Q1 ++ Q2 = Q) (lP1 : P1.length = r - a) (lQ1 : Q1.length = en - m) (k1 : a ≤ r) (k2 : r ≤ m) (k3 : r ≤ mid) (k4 : en ≤ b) (k5 : en + r = mid + m)
    (hcut1 : ∀ x ∈ P2, ∀ y ∈ Q1, ltCX cm y x = true) (hcut2 : ∀ x ∈ P1, ∀ y ∈ Q2, ltCX cm y x = false)
    (hw : A ++ (P ++ (Q ++ B)) = w) (hwN : w.length = N) (hw1 : A ++ (P1 ++ (Q1 ++ (P2 ++ (Q2 ++ B)))) = w1) :
    (∀ (w' L R : List (Ix li)), A ++ (L ++ (R ++ B)) = w' → Srtd (ltCX cm) L → Srtd (ltCX cm) R → Stb (ltCX cm) (P1 ++ Q1) L → Stb (ltCX cm) (P2 ++ Q2) R →
          ∃ R', [bxI li, rowX w'] = [bxI li, rowX (A ++ (R' ++ B))] ∧ Srtd (ltCX cm) R' ∧ Stb (ltCX cm) (P ++ Q) R') ∧
    (r < m → r < mid → CallG Tryz.prog 112 [.os 1 N, .int .i64 r, .int .i64 m, .int .i64 en, .fn g [.op 0 0]] [bxI li, rowX w] fun r H => r = .tup [] ∧ H = [bxI li, rowX w1]) ∧
    (a < r → r < mid → CallG Tryz.prog 90 [.os 1 N, .int .i64 a, .int .i64 r, .int .i64 mid, .fn g [.op 0 0]] [bxI li, rowX w1]
          fun r H => r = .tup [] ∧ ∃ R : List (Ix li), H = [bxI li, rowX (A ++ (R ++ (P2 ++ (Q2 ++ B))))] ∧ Srtd (ltCX cm) R ∧ Stb (ltCX cm) (P1 ++ Q1) R) ∧
    (∀ L w2 : List (Ix li), A ++ (L ++ (P2 ++ (Q2 ++ B))) = w2 → L.length = P1.length + Q1.length → r < m → en < b → CallG Tryz.prog 90 [.os 1 N, .int .i64 mid, .int .i64 en, .int .i64 b, .fn g [.op 0 0]] [bxI li, rowX w2]
          fun r H => r = .tup [] ∧ ∃ R : List (Ix li), H = [bxI li, rowX (A ++ (L ++ (R ++ B)))] ∧ Srtd (ltCX cm) R ∧ Stb (ltCX cm) (P2 ++ Q2) R) ∧
    (¬ a < r → P1 = []) ∧ (¬ r < m → P2 = []) ∧ (¬ r < mid → Q1 = []) ∧ (¬ en < b → Q2 = []) ∧ (mid < en) = (r < m) ∧ (m < en) = (r < mid) ∧
    Srtd (ltCX cm) P1 ∧ Srtd (ltCX cm) P2 ∧ Srtd (ltCX cm) Q1 ∧ Srtd (ltCX cm) Q2 ∧ A ++ (P1 ++ (P2 ++ (Q1 ++ (Q2 ++ B)))) = w := by
  have eA : (mid < en) = (r < m) := propext (by omega)
  have eB : (m < en) = (r < mid) := propext (by omega)
  have sP := hP
  have sQ := hQ
  rw [← hspP, srtd_app] at sP
  rw [← hspQ, srtd_app] at sQ
  have hT1 : P1.length + P2.length = d := by rw [← hd, ← hspP, List.length_append]
  have hT2 : Q1.length + Q2.length = f := by rw [← hf, ← hspQ, List.length_append]
  have lP2 : P2.length = m - r := by omega
  have lQ2 : Q2.length = b - en := by omega
  have fin : ∀ (w' L R : List (Ix li)), A ++ (L ++ (R ++ B)) = w' → Srtd (ltCX cm) L → Srtd (ltCX cm) R → Stb (ltCX cm) (P1 ++ Q1) L → Stb (ltCX cm) (P2 ++ Q2) R →
      ∃ R', [bxI li, rowX w'] = [bxI li, rowX (A ++ (R' ++ B))] ∧ Srtd (ltCX cm) R' ∧ Stb (ltCX cm) (P ++ Q) R' := fun w' L R e h1 h2 h3 h4 => by
    obtain ⟨m1, m2⟩ := merge_mid hs (by rw [hspP]; exact hP) (by rw [hspQ]; exact hQ) hcut1 hcut2 h1 h2 h3 h4
    rw [hspP, hspQ] at m2
    exact ⟨L ++ R, by rw [← e]; simp, m1, m2⟩
  have hww : A ++ (P1 ++ (P2 ++ (Q1 ++ (Q2 ++ B)))) = w := by rw [← hw, ← hspP, ← hspQ]; simp
  have ne : ∀ l : List (Ix li), 0 < l.length → l ≠ [] := fun l hl e => by rw [e] at hl; simp at hl
  have nil : ∀ l : List (Ix li), l.length = 0 → l = [] := fun l hl => List.eq_nil_of_length_eq_zero hl
  have hrot : r < m → r < mid → CallG Tryz.prog 112 [.os 1 N, .int .i64 r, .int .i64 m, .int .i64 en, .fn g [.op 0 0]] [bxI li, rowX w] fun r H => r = .tup [] ∧ H = [bxI li, rowX w1] := fun hA hB => by
    have := rot_GX g (A ++ P1) P2 Q1 (Q2 ++ B) N r m en (by rw [← hwN, ← hww]; simp) (by rw [List.length_append, ha]; omega) (by omega) (by omega) (ne _ (by omega)) (ne _ (by omega)) hN2
    rw [List.append_assoc, List.append_assoc, hww, hw1] at this
    exact this
  have hsym1 : a < r → r < mid → CallG Tryz.prog 90 [.os 1 N, .int .i64 a, .int .i64 r, .int .i64 mid, .fn g [.op 0 0]] [bxI li, rowX w1]
      fun r H => r = .tup [] ∧ ∃ R : List (Ix li), H = [bxI li, rowX (A ++ (R ++ (P2 ++ (Q2 ++ B))))] ∧ Srtd (ltCX cm) R ∧ Stb (ltCX cm) (P1 ++ Q1) R := fun hC hB => by
    have hlw : (A ++ (P1 ++ (Q1 ++ (P2 ++ (Q2 ++ B))))).length = N := by simp only [List.length_append] at hT ⊢; omega
    have := (ih A P1 Q1 (P2 ++ (Q2 ++ B)) (by omega) sP.1 sQ.1 (ne _ (by omega)) (ne _ (by omega)) (by omega)).at hlw ha (m := r) (b := mid) (by omega) (by omega)
    rw [hw1] at this
    exact this
  have hsym2 : ∀ L w2 : List (Ix li), A ++ (L ++ (P2 ++ (Q2 ++ B))) = w2 → L.length = P1.length + Q1.length → r < m → en < b → CallG Tryz.prog 90 [.os 1 N, .int .i64 mid, .int .i64 en, .int .i64 b, .fn g [.op 0 0]] [bxI li, rowX w2]
      fun r H => r = .tup [] ∧ ∃ R : List (Ix li), H = [bxI li, rowX (A ++ (L ++ (R ++ B)))] ∧ Srtd (ltCX cm) R ∧ Stb (ltCX cm) (P2 ++ Q2) R := fun L w2 e hL hA hD => by
    have hlw : ((A ++ L) ++ (P2 ++ (Q2 ++ B))).length = N := by simp only [List.length_append] at hT ⊢; omega
    have := (ih (A ++ L) P2 Q2 B (by omega) sP.2.1 sQ.2.1 (ne _ (by omega)) (ne _ (by omega)) (by omega)).at hlw (a := mid) (by rw [List.length_append, ha]; omega) (m := en) (b := b) (by omega) (by omega)
    simp only [List.append_assoc] at this
    rw [e] at this
    exact this
  exact ⟨fin, hrot, hsym1, hsym2, fun q => nil _ (by omega), fun q => nil _ (by omega), fun q => nil _ (by omega), fun q => nil _ (by omega), eA, eB, sP.1, sP.2.1, sQ.1, sQ.2.1, hww⟩
set_option maxHeartbeats 16000000 in
theorem sym_genX (g : Nat) (cm : (Ix li) → (Ix li) → Int) (hcmp : ∀ x y : (Ix li), Pure Tryz.prog g [.int .i64 (x.i : Int), .int .i64 (y.i : Int), .rp [.rs (rowsOf insC li)]] (.int .i64 (cm x y))) (hs : Swo (ltCX cm))
    (A P Q B : List (Ix li)) (hP : Srtd (ltCX cm) P) (hQ : Srtd (ltCX cm) Q) (hP1 : 2 ≤ P.length) (hQ1 : 2 ≤ Q.length) (hl : (A ++ (P ++ (Q ++ B))).length ≤ 2000)
    (ih : ∀ A' P' Q' B' : List (Ix li), P'.length + Q'.length < P.length + Q.length → Srtd (ltCX cm) P' → Srtd (ltCX cm) Q' → P' ≠ [] → Q' ≠ [] → (A' ++ (P' ++ (Q' ++ B'))).length ≤ 2000 → SymCX g cm A' P' Q' B')
    (a m b mid s0 r0 : Nat) (ha : A.length = a) (hm : a + P.length = m) (hb : m + Q.length = b) (hmid : (a + b) / 2 = mid) (hc : (mid < m ∧ s0 = mid + m - b ∧ r0 = mid) ∨ (¬ mid < m ∧ s0 = a ∧ r0 = m)) :
    SymCX g cm A P Q B := by
  unfold SymCX
  obtain ⟨N, hN⟩ : ∃ N, (A ++ (P ++ (Q ++ B))).length = N := ⟨_, rfl⟩
  obtain ⟨d, hd⟩ : ∃ d, P.length = d := ⟨_, rfl⟩
  obtain ⟨f, hf⟩ : ∃ f, Q.length = f := ⟨_, rfl⟩
  rw [hN] at hl ⊢
  rw [hd] at hm hP1
  rw [hf] at hb hQ1
  rw [ha, hd, hm, hf, hb]
  have hT : a + d + f + B.length = N := by rw [← hN, ← ha, ← hd, ← hf]; simp; omega
  have w0 := wi_subX (a := m) (b := a) (by omega) (by omega)
  rw [show m - a = d by omega] at w0
  have w00 := wi_subX (a := b) (b := m) (by omega) (by omega)
  rw [show b - m = f by omega] at w00
  have hd1 : ¬ (d : Int) = 1 := by omega
  have hd2 : ¬ d = 1 := by omega
  have hf1 : ¬ (f : Int) = 1 := by omega
  have hf2 : ¬ f = 1 := by omega
  obtain ⟨ab, hab⟩ : ∃ ab, a + b = ab := ⟨_, rfl⟩
  obtain ⟨nn, hnn⟩ : ∃ nn, mid + m = nn := ⟨_, rfl⟩
  obtain ⟨p, hp⟩ : ∃ p, nn - 1 = p := ⟨_, rfl⟩
  have w1 := wi_addX (a := a) (b := b) (by omega)
  rw [hab] at w1
  have w2 : wrapI .u64 (ab : Int) = ab := wu_inX (by omega) (by omega)
  have hh := half_natX ab
  rw [← hab, hmid, hab] at hh
  have w3 : wrapI .i64 (mid : Int) = mid := wrap_in (by omega) (by omega)
  have w4 := wi_addX (a := mid) (b := m) (by omega)
  rw [hnn] at w4
  have w6 : wrapI .i64 ((nn : Int) - 1) = p := by have := wi_subX (a := nn) (b := 1) (by omega) (by omega); rw [hp] at this; exact this
  obtain ⟨w, hw⟩ : ∃ w, A ++ (P ++ (Q ++ B)) = w := ⟨_, rfl⟩
  have hwN : w.length = N := by rw [← hw]; exact hN
  have hwP : ∀ t, t < P.length → w[a + t]? = P[t]? := fun t ht => by
    rw [← hw, List.getElem?_append_right (by omega), List.getElem?_append_left (by omega)]
    congr 1; omega
  have hwQ : ∀ t, t < Q.length → w[m + t]? = Q[t]? := fun t ht => by
    rw [← hw, List.getElem?_append_right (by omega), List.getElem?_append_right (by omega), List.getElem?_append_left (by omega)]
    congr 1; omega
  obtain ⟨h, hhd⟩ : ∃ h, mid - a = h := ⟨_, rfl⟩
  rw [hw]
  refine inl_G mixed Tryz.func90 rfl (by kernel_rfl) (of_decide_eq_true rfl) (by kernel_rfl) (vc_run ?_)
  have hs0 : a ≤ s0 := by omega
  have hsr : s0 ≤ r0 := by omega
  have hr1 : r0 ≤ m := by omega
  have hr2 : r0 ≤ mid := by omega
  have hsb : nn ≤ s0 + b := by omega
  have hend1 : Unit → (r0 = m ∨ r0 = mid) := fun _ => by omega
  have hend2 : Unit → (s0 = a ∨ s0 + b = nn) := fun _ => by omega
  have hmh : a + h = mid := by omega
  have hp1 : p + 1 = nn := by omega
  have hbN : b ≤ N := by omega
  have w7 : mid < m → wrapI .i64 ((nn : Int) - b) = s0 := fun hc => by rw [wi_subX (by omega) (by omega)]; omega
  have hc : (mid < m ∧ r0 = mid) ∨ (¬ mid < m ∧ s0 = a ∧ r0 = m) := by omega
  clear hmid hhd hp
  have hN2 : N ≤ 2000 := by omega
  rcases hc with ⟨hc, e2⟩ | ⟨hc, e1, e2⟩
  all_goals (
    ((try simp -implicitDefEqProofs [-loopQ_n, w0, w00, hd1, hd2, hf1, hf2, w1, w2, hh, w3, w4, w6, w7, hc]) <;> (repeat' (first | ((first | refine condD_dec ?_ ?_ | refine guardD_dec ?_ ?_) <;> (intro hc; (try simp -implicitDefEqProofs [-loopQ_n, hc, w0, w00, hd1, hd2, hf1, hf2, w1, w2, hh, w3, w4, w6, w7, hc]))) | ((first | refine condD_intro ?_ ?_ | refine guardD_intro ?_ ?_) <;> (intro hd; have hc := hd; (try simp at hc) <;> (try simp -implicitDefEqProofs [-loopQ_n, hd, hc, w0, w00, hd1, hd2, hf1, hf2, w1, w2, hh, w3, w4, w6, w7, hc]))) | (refine ldD_ep ?_ ?_; (focus kernel_rfl); (try simp -implicitDefEqProofs [-loopQ_n, w0, w00, hd1, hd2, hf1, hf2, w1, w2, hh, w3, w4, w6, w7, hc])))))
    refine loop_intro (σ := Nat × Nat) (fun y => ⟨[(0, .os 1 N), (1, .int .i64 a), (2, .int .i64 m), (3, .int .i64 b), (4, .fn g [.op 0 0]), (18, .int .i64 mid), (19, .int .i64 nn), (20, .int .i64 y.1), (21, .int .i64 y.2), (22, .int .i64 p)], [bxI li, rowX w]⟩)
      (fun y => s0 ≤ y.1 ∧ y.1 ≤ y.2 ∧ y.2 ≤ r0 ∧ SymLX cm P Q a h r0 y.2 ∧ SymGX cm P Q a h s0 y.1)
      (fun y => y.2 - y.1) (s0, r0) ⟨by simp, hsr, by simp, .inl rfl, .inl rfl⟩ ?_ ?_
    · refine weak_ofL 2 0 (by simp) (by simp) rfl ?_ ?_ <;> simp [ixC_refsR, ins_refs, refs, *]
    rintro ⟨s, r⟩ ⟨q1, q2, q3, c1, c2⟩
    simp only at q1 q2 q3 c1 c2
    by_cases hlt : s < r
    · obtain ⟨sm, hsm⟩ : ∃ sm, s + r = sm := ⟨_, rfl⟩
      obtain ⟨c, hcd⟩ : ∃ c, sm / 2 = c := ⟨_, rfl⟩
      obtain ⟨pc, hpc⟩ : ∃ pc, p - c = pc := ⟨_, rfl⟩
      have v1 := wi_addX (a := s) (b := r) (by omega)
      rw [hsm] at v1
      have v2 : wrapI .u64 (sm : Int) = sm := wu_inX (by omega) (by omega)
      have v3 : wrapI .i64 (c : Int) = c := wrap_in (by omega) (by omega)
      have v4 := wi_oneX (a := c) (by omega)
      have hh2 := half_natX sm
      rw [hcd] at hh2
      have v5 := wi_subX (a := p) (b := c) (by omega) (by omega)
      rw [hpc] at v5
      have hcN : c < N := by omega
      have hpN : pc < N := by omega
      have hcw : c < w.length := by omega
      have hpw : pc < w.length := by omega
      obtain ⟨u, hu⟩ : ∃ u, w[c] = u := ⟨_, rfl⟩
      obtain ⟨v, hv⟩ : ∃ v, w[pc] = v := ⟨_, rfl⟩
      have huP : P[c - a]? = some u := by rw [← hwP (c - a) (by omega), show a + (c - a) = c by omega, List.getElem?_eq_getElem hcw, hu]
      have hvQ : Q[h - 1 - (c - a)]? = some v := by rw [← hwQ (h - 1 - (c - a)) (by omega), show m + (h - 1 - (c - a)) = pc by omega, List.getElem?_eq_getElem hpw, hv]
      by_cases hcm : cm v u < 0
      · ((try simp -implicitDefEqProofs [-loopQ_n, hlt, v1, v2, v3, v4, v5, hh2, hwN, hcN, hpN, hcw, hpw, hu, hv, ixC, hcm]) <;> (repeat' (first | ((first | refine condD_dec ?_ ?_ | refine guardD_dec ?_ ?_) <;> (intro hc; (try simp -implicitDefEqProofs [-loopQ_n, hc, hlt, v1, v2, v3, v4, v5, hh2, hwN, hcN, hpN, hcw, hpw, hu, hv, ixC, hcm]))) | ((first | refine condD_intro ?_ ?_ | refine guardD_intro ?_ ?_) <;> (intro hd; have hc := hd; (try simp at hc) <;> (try simp -implicitDefEqProofs [-loopQ_n, hd, hc, hlt, v1, v2, v3, v4, v5, hh2, hwN, hcN, hpN, hcw, hpw, hu, hv, ixC, hcm]))) | ((first | (refine ldD_ep ?_ ?_; (focus kernel_rfl)) | (refine callS_mk ?_; (try simp -implicitDefEqProofs [-loopQ_n, hlt, v1, v2, v3, v4, v5, hh2, hwN, hcN, hpN, hcw, hpw, hu, hv, ixC, hcm]); (first | refine callS_intro (hcmp v u) (.inl rfl) ?_))); (try simp -implicitDefEqProofs [-loopQ_n, hlt, v1, v2, v3, v4, v5, hh2, hwN, hcN, hpN, hcw, hpw, hu, hv, ixC, hcm])))))
        refine loop_next (s, c) ⟨q1, by simp only; omega, by simp only; omega, .inr ⟨u, v, huP, hvQ, by simpa [ltCX] using hcm⟩, c2⟩ (by simp only; omega) (weak_ofL 2 0 (by simp) (by simp) rfl ?_ ?_)
        · simp [refs]
        · simp [ixC_refsR, ins_refs]
      · ((try simp -implicitDefEqProofs [-loopQ_n, hlt, v1, v2, v3, v4, v5, hh2, hwN, hcN, hpN, hcw, hpw, hu, hv, ixC, hcm]) <;> (repeat' (first | ((first | refine condD_dec ?_ ?_ | refine guardD_dec ?_ ?_) <;> (intro hc; (try simp -implicitDefEqProofs [-loopQ_n, hc, hlt, v1, v2, v3, v4, v5, hh2, hwN, hcN, hpN, hcw, hpw, hu, hv, ixC, hcm]))) | ((first | refine condD_intro ?_ ?_ | refine guardD_intro ?_ ?_) <;> (intro hd; have hc := hd; (try simp at hc) <;> (try simp -implicitDefEqProofs [-loopQ_n, hd, hc, hlt, v1, v2, v3, v4, v5, hh2, hwN, hcN, hpN, hcw, hpw, hu, hv, ixC, hcm]))) | ((first | (refine ldD_ep ?_ ?_; (focus kernel_rfl)) | (refine callS_mk ?_; (try simp -implicitDefEqProofs [-loopQ_n, hlt, v1, v2, v3, v4, v5, hh2, hwN, hcN, hpN, hcw, hpw, hu, hv, ixC, hcm]); (first | refine callS_intro (hcmp v u) (.inl rfl) ?_))); (try simp -implicitDefEqProofs [-loopQ_n, hlt, v1, v2, v3, v4, v5, hh2, hwN, hcN, hpN, hcw, hpw, hu, hv, ixC, hcm])))))
        refine loop_next (c + 1, r) ⟨by simp only; omega, by simp only; omega, q3, c1, .inr ⟨u, v, ?_, ?_, by simpa [ltCX] using hcm⟩⟩ (by simp only; omega) (weak_ofL 2 0 (by simp) (by simp) rfl ?_ ?_)
        · rw [show (c + 1, r).1 - a - 1 = c - a by simp only; omega]; exact huP
        · rw [show h - ((c + 1, r).1 - a) = h - 1 - (c - a) by simp only; omega]; exact hvQ
        · simp [refs]
        · simp [ixC_refsR, ins_refs]
    · have hrs : r = s := by omega
      subst hrs
      obtain ⟨en, hen⟩ : ∃ en, nn - r = en := ⟨_, rfl⟩
      have v1 := wi_subX (a := nn) (b := r) (by omega) (by omega)
      rw [hen] at v1
      obtain ⟨hcut1, hcut2⟩ := sym_cut hs hP hQ (h := h) (i := r - a) (by omega)
        (by rcases c1 with q | q
            · rcases hend1 () with q' | q'
              · exact .inl (by omega)
              · exact .inr (.inl (by omega))
            · exact .inr (.inr q))
        (by rcases c2 with q | q
            · rcases hend2 () with q' | q'
              · exact .inl (by omega)
              · exact .inr (.inl (by omega))
            · exact .inr (.inr q))
      have hspP := List.take_append_drop (r - a) P
      have hspQ := List.take_append_drop (h - (r - a)) Q
      have lP1 : (P.take (r - a)).length = r - a := by rw [List.length_take]; omega
      have lQ1 : (Q.take (h - (r - a))).length = en - m := by rw [List.length_take]; omega
      obtain ⟨w1, hw1⟩ : ∃ w1, A ++ (P.take (r - a) ++ (Q.take (h - (r - a)) ++ (P.drop (r - a) ++ (Q.drop (h - (r - a)) ++ B)))) = w1 := ⟨_, rfl⟩
      obtain ⟨fin, hrot, hsym1, hsym2, n1, n2, n3, n4, eA, eB, sP1, sP2, sQ1, sQ2, hww⟩ := sym_partsX g cm hs A P Q B (P.take (r - a)) (P.drop (r - a)) (Q.take (h - (r - a))) (Q.drop (h - (r - a))) w w1 hP hQ ih N a m b mid r en d f ha hd hf hm hb hP1 hQ1 (by omega) (by omega) hT hN2 hspP hspQ lP1 lQ1 (by omega) (by omega) (by omega) (by omega) (by omega) hcut1 hcut2 hw hwN hw1
      generalize P.take (r - a) = P1 at *
      generalize P.drop (r - a) = P2 at *
      generalize Q.take (h - (r - a)) = Q1 at *
      generalize Q.drop (h - (r - a)) = Q2 at *
      clear ih hcut1 hcut2 c1 c2 hend1 hend2 hwP hwQ
      by_cases hA : r < m
      · have hA' : mid < en := by rw [eA]; exact hA
        by_cases hB : r < mid
        · have hB' : m < en := by rw [eB]; exact hB
          ((try simp -implicitDefEqProofs [-loopQ_n, v1, hA, hA', hB, hB']) <;> (repeat' (first | ((first | refine condD_dec ?_ ?_ | refine guardD_dec ?_ ?_) <;> (intro hc; (try simp -implicitDefEqProofs [-loopQ_n, hc, v1, hA, hA', hB, hB']))) | ((first | refine condD_intro ?_ ?_ | refine guardD_intro ?_ ?_) <;> (intro hd; have hc := hd; (try simp at hc) <;> (try simp -implicitDefEqProofs [-loopQ_n, hd, hc, v1, hA, hA', hB, hB']))) | (refine ldD_ep ?_ ?_; (focus kernel_rfl); (try simp -implicitDefEqProofs [-loopQ_n, v1, hA, hA', hB, hB'])))))
          refine callG_intro ((hrot hA hB).weaken ?_)
          rintro _ _ ⟨rfl, rfl⟩
          by_cases hC : a < r
          · ((try simp -implicitDefEqProofs [-loopQ_n, v1, hA, hA', hB, hB', hC]) <;> (repeat' (first | ((first | refine condD_dec ?_ ?_ | refine guardD_dec ?_ ?_) <;> (intro hc; (try simp -implicitDefEqProofs [-loopQ_n, hc, v1, hA, hA', hB, hB', hC]))) | ((first | refine condD_intro ?_ ?_ | refine guardD_intro ?_ ?_) <;> (intro hd; have hc := hd; (try simp at hc) <;> (try simp -implicitDefEqProofs [-loopQ_n, hd, hc, v1, hA, hA', hB, hB', hC]))) | (refine ldD_ep ?_ ?_; (focus kernel_rfl); (try simp -implicitDefEqProofs [-loopQ_n, v1, hA, hA', hB, hB', hC])))))
            refine callG_intro ((hsym1 hC hB).weaken ?_)
            rintro _ _ ⟨rfl, L, rfl, hL1, hL2⟩
            obtain ⟨w2, hw2⟩ : ∃ w2, A ++ (L ++ (P2 ++ (Q2 ++ B))) = w2 := ⟨_, rfl⟩
            rw [hw2]
            by_cases hD : en < b
            · ((try simp -implicitDefEqProofs [-loopQ_n, v1, hA, hA', hB, hB', hC, hD]) <;> (repeat' (first | ((first | refine condD_dec ?_ ?_ | refine guardD_dec ?_ ?_) <;> (intro hc; (try simp -implicitDefEqProofs [-loopQ_n, hc, v1, hA, hA', hB, hB', hC, hD]))) | ((first | refine condD_intro ?_ ?_ | refine guardD_intro ?_ ?_) <;> (intro hd; have hc := hd; (try simp at hc) <;> (try simp -implicitDefEqProofs [-loopQ_n, hd, hc, v1, hA, hA', hB, hB', hC, hD]))) | (refine ldD_ep ?_ ?_; (focus kernel_rfl); (try simp -implicitDefEqProofs [-loopQ_n, v1, hA, hA', hB, hB', hC, hD])))))
              refine callG_intro ((hsym2 L w2 hw2 (by rw [← hL2.1, List.length_append]) hA hD).weaken ?_)
              rintro _ _ ⟨rfl, R, rfl, hR1, hR2⟩
              ((try simp -implicitDefEqProofs [-loopQ_n]) <;> (repeat' (first | ((first | refine condD_dec ?_ ?_ | refine guardD_dec ?_ ?_) <;> (intro hc; (try simp -implicitDefEqProofs [-loopQ_n, hc]))) | ((first | refine condD_intro ?_ ?_ | refine guardD_intro ?_ ?_) <;> (intro hd; have hc := hd; (try simp at hc) <;> (try simp -implicitDefEqProofs [-loopQ_n, hd, hc]))) | (refine ldD_ep ?_ ?_; (focus kernel_rfl); (try simp -implicitDefEqProofs [-loopQ_n])))))
              exact endG_n (.tup []) rfl ⟨rfl, fin _ L R rfl hL1 hR1 hL2 hR2⟩
            · have := n4 hD
              subst this
              ((try simp -implicitDefEqProofs [-loopQ_n, v1, hA, hA', hB, hB', hC, hD]) <;> (repeat' (first | ((first | refine condD_dec ?_ ?_ | refine guardD_dec ?_ ?_) <;> (intro hc; (try simp -implicitDefEqProofs [-loopQ_n, hc, v1, hA, hA', hB, hB', hC, hD]))) | ((first | refine condD_intro ?_ ?_ | refine guardD_intro ?_ ?_) <;> (intro hd; have hc := hd; (try simp at hc) <;> (try simp -implicitDefEqProofs [-loopQ_n, hd, hc, v1, hA, hA', hB, hB', hC, hD]))) | (refine ldD_ep ?_ ?_; (focus kernel_rfl); (try simp -implicitDefEqProofs [-loopQ_n, v1, hA, hA', hB, hB', hC, hD])))))
              exact endG_n (.tup []) rfl ⟨rfl, fin _ L P2 (by rw [← hw2]; simp) hL1 sP2 hL2 (by rw [List.append_nil]; exact Stb.refl _)⟩
          · have := n1 hC
            subst this
            by_cases hD : en < b
            · ((try simp -implicitDefEqProofs [-loopQ_n, v1, hA, hA', hB, hB', hC, hD]) <;> (repeat' (first | ((first | refine condD_dec ?_ ?_ | refine guardD_dec ?_ ?_) <;> (intro hc; (try simp -implicitDefEqProofs [-loopQ_n, hc, v1, hA, hA', hB, hB', hC, hD]))) | ((first | refine condD_intro ?_ ?_ | refine guardD_intro ?_ ?_) <;> (intro hd; have hc := hd; (try simp at hc) <;> (try simp -implicitDefEqProofs [-loopQ_n, hd, hc, v1, hA, hA', hB, hB', hC, hD]))) | (refine ldD_ep ?_ ?_; (focus kernel_rfl); (try simp -implicitDefEqProofs [-loopQ_n, v1, hA, hA', hB, hB', hC, hD])))))
              refine callG_intro ((hsym2 Q1 w1 (by rw [← hw1]; simp) (by simp) hA hD).weaken ?_)
              rintro _ _ ⟨rfl, R, rfl, hR1, hR2⟩
              ((try simp -implicitDefEqProofs [-loopQ_n]) <;> (repeat' (first | ((first | refine condD_dec ?_ ?_ | refine guardD_dec ?_ ?_) <;> (intro hc; (try simp -implicitDefEqProofs [-loopQ_n, hc]))) | ((first | refine condD_intro ?_ ?_ | refine guardD_intro ?_ ?_) <;> (intro hd; have hc := hd; (try simp at hc) <;> (try simp -implicitDefEqProofs [-loopQ_n, hd, hc]))) | (refine ldD_ep ?_ ?_; (focus kernel_rfl); (try simp -implicitDefEqProofs [-loopQ_n])))))
              exact endG_n (.tup []) rfl ⟨rfl, fin _ Q1 R rfl sQ1 hR1 (Stb.refl _) hR2⟩
            · have := n4 hD
              subst this
              ((try simp -implicitDefEqProofs [-loopQ_n, v1, hA, hA', hB, hB', hC, hD]) <;> (repeat' (first | ((first | refine condD_dec ?_ ?_ | refine guardD_dec ?_ ?_) <;> (intro hc; (try simp -implicitDefEqProofs [-loopQ_n, hc, v1, hA, hA', hB, hB', hC, hD]))) | ((first | refine condD_intro ?_ ?_ | refine guardD_intro ?_ ?_) <;> (intro hd; have hc := hd; (try simp at hc) <;> (try simp -implicitDefEqProofs [-loopQ_n, hd, hc, v1, hA, hA', hB, hB', hC, hD]))) | (refine ldD_ep ?_ ?_; (focus kernel_rfl); (try simp -implicitDefEqProofs [-loopQ_n, v1, hA, hA', hB, hB', hC, hD])))))
              exact endG_n (.tup []) rfl ⟨rfl, fin _ Q1 P2 (by rw [← hw1]; simp) sQ1 sP2 (Stb.refl _) (by rw [List.append_nil]; exact Stb.refl _)⟩
        · have hB' : ¬ m < en := by rw [eB]; exact hB
          have := n3 hB
          subst this
          by_cases hC : a < r
          · by_cases hD : en < b
            · ((try simp -implicitDefEqProofs [-loopQ_n, v1, hA, hA', hB, hB', hC, hD]) <;> (repeat' (first | ((first | refine condD_dec ?_ ?_ | refine guardD_dec ?_ ?_) <;> (intro hc; (try simp -implicitDefEqProofs [-loopQ_n, hc, v1, hA, hA', hB, hB', hC, hD]))) | ((first | refine condD_intro ?_ ?_ | refine guardD_intro ?_ ?_) <;> (intro hd; have hc := hd; (try simp at hc) <;> (try simp -implicitDefEqProofs [-loopQ_n, hd, hc, v1, hA, hA', hB, hB', hC, hD]))) | (refine ldD_ep ?_ ?_; (focus kernel_rfl); (try simp -implicitDefEqProofs [-loopQ_n, v1, hA, hA', hB, hB', hC, hD])))))
              refine callG_intro ((hsym2 P1 w (by rw [← hww]; simp) (by simp) hA hD).weaken ?_)
              rintro _ _ ⟨rfl, R, rfl, hR1, hR2⟩
              ((try simp -implicitDefEqProofs [-loopQ_n]) <;> (repeat' (first | ((first | refine condD_dec ?_ ?_ | refine guardD_dec ?_ ?_) <;> (intro hc; (try simp -implicitDefEqProofs [-loopQ_n, hc]))) | ((first | refine condD_intro ?_ ?_ | refine guardD_intro ?_ ?_) <;> (intro hd; have hc := hd; (try simp at hc) <;> (try simp -implicitDefEqProofs [-loopQ_n, hd, hc]))) | (refine ldD_ep ?_ ?_; (focus kernel_rfl); (try simp -implicitDefEqProofs [-loopQ_n])))))
              exact endG_n (.tup []) rfl ⟨rfl, fin _ P1 R rfl sP1 hR1 (by rw [List.append_nil]; exact Stb.refl _) hR2⟩
            · have := n4 hD
              subst this
              ((try simp -implicitDefEqProofs [-loopQ_n, v1, hA, hA', hB, hB', hC, hD]) <;> (repeat' (first | ((first | refine condD_dec ?_ ?_ | refine guardD_dec ?_ ?_) <;> (intro hc; (try simp -implicitDefEqProofs [-loopQ_n, hc, v1, hA, hA', hB, hB', hC, hD]))) | ((first | refine condD_intro ?_ ?_ | refine guardD_intro ?_ ?_) <;> (intro hd; have hc := hd; (try simp at hc) <;> (try simp -implicitDefEqProofs [-loopQ_n, hd, hc, v1, hA, hA', hB, hB', hC, hD]))) | (refine ldD_ep ?_ ?_; (focus kernel_rfl); (try simp -implicitDefEqProofs [-loopQ_n, v1, hA, hA', hB, hB', hC, hD])))))
              exact endG_n (.tup []) rfl ⟨rfl, fin _ P1 P2 (by rw [← hww]; simp) sP1 sP2 (by rw [List.append_nil]; exact Stb.refl _) (by rw [List.append_nil]; exact Stb.refl _)⟩
          · by_cases hD : en < b
            · ((try simp -implicitDefEqProofs [-loopQ_n, v1, hA, hA', hB, hB', hC, hD]) <;> (repeat' (first | ((first | refine condD_dec ?_ ?_ | refine guardD_dec ?_ ?_) <;> (intro hc; (try simp -implicitDefEqProofs [-loopQ_n, hc, v1, hA, hA', hB, hB', hC, hD]))) | ((first | refine condD_intro ?_ ?_ | refine guardD_intro ?_ ?_) <;> (intro hd; have hc := hd; (try simp at hc) <;> (try simp -implicitDefEqProofs [-loopQ_n, hd, hc, v1, hA, hA', hB, hB', hC, hD]))) | (refine ldD_ep ?_ ?_; (focus kernel_rfl); (try simp -implicitDefEqProofs [-loopQ_n, v1, hA, hA', hB, hB', hC, hD])))))
              refine callG_intro ((hsym2 P1 w (by rw [← hww]; simp) (by simp) hA hD).weaken ?_)
              rintro _ _ ⟨rfl, R, rfl, hR1, hR2⟩
              ((try simp -implicitDefEqProofs [-loopQ_n]) <;> (repeat' (first | ((first | refine condD_dec ?_ ?_ | refine guardD_dec ?_ ?_) <;> (intro hc; (try simp -implicitDefEqProofs [-loopQ_n, hc]))) | ((first | refine condD_intro ?_ ?_ | refine guardD_intro ?_ ?_) <;> (intro hd; have hc := hd; (try simp at hc) <;> (try simp -implicitDefEqProofs [-loopQ_n, hd, hc]))) | (refine ldD_ep ?_ ?_; (focus kernel_rfl); (try simp -implicitDefEqProofs [-loopQ_n])))))
              exact endG_n (.tup []) rfl ⟨rfl, fin _ P1 R rfl sP1 hR1 (by rw [List.append_nil]; exact Stb.refl _) hR2⟩
            · have := n4 hD
              subst this
              ((try simp -implicitDefEqProofs [-loopQ_n, v1, hA, hA', hB, hB', hC, hD]) <;> (repeat' (first | ((first | refine condD_dec ?_ ?_ | refine guardD_dec ?_ ?_) <;> (intro hc; (try simp -implicitDefEqProofs [-loopQ_n, hc, v1, hA, hA', hB, hB', hC, hD]))) | ((first | refine condD_intro ?_ ?_ | refine guardD_intro ?_ ?_) <;> (intro hd; have hc := hd; (try simp at hc) <;> (try simp -implicitDefEqProofs [-loopQ_n, hd, hc, v1, hA, hA', hB, hB', hC, hD]))) | (refine ldD_ep ?_ ?_; (focus kernel_rfl); (try simp -implicitDefEqProofs [-loopQ_n, v1, hA, hA', hB, hB', hC, hD])))))
              exact endG_n (.tup []) rfl ⟨rfl, fin _ P1 P2 (by rw [← hww]; simp) sP1 sP2 (by rw [List.append_nil]; exact Stb.refl _) (by rw [List.append_nil]; exact Stb.refl _)⟩
      · have hA' : ¬ mid < en := by rw [eA]; exact hA
        have := n2 hA
        subst this
        have hww1 : w = w1 := by rw [← hww, ← hw1]; simp
        rw [hww1]
        by_cases hBC : a < r ∧ r < mid
        · obtain ⟨hC, hB⟩ := hBC
          ((try simp -implicitDefEqProofs [-loopQ_n, v1, hA, hA', hB, hC]) <;> (repeat' (first | ((first | refine condD_dec ?_ ?_ | refine guardD_dec ?_ ?_) <;> (intro hc; (try simp -implicitDefEqProofs [-loopQ_n, hc, v1, hA, hA', hB, hC]))) | ((first | refine condD_intro ?_ ?_ | refine guardD_intro ?_ ?_) <;> (intro hd; have hc := hd; (try simp at hc) <;> (try simp -implicitDefEqProofs [-loopQ_n, hd, hc, v1, hA, hA', hB, hC]))) | (refine ldD_ep ?_ ?_; (focus kernel_rfl); (try simp -implicitDefEqProofs [-loopQ_n, v1, hA, hA', hB, hC])))))
          refine callG_intro ((hsym1 hC hB).weaken ?_)
          rintro _ _ ⟨rfl, L, rfl, hL1, hL2⟩
          ((try simp -implicitDefEqProofs [-loopQ_n, hA']) <;> (repeat' (first | ((first | refine condD_dec ?_ ?_ | refine guardD_dec ?_ ?_) <;> (intro hc; (try simp -implicitDefEqProofs [-loopQ_n, hc, hA']))) | ((first | refine condD_intro ?_ ?_ | refine guardD_intro ?_ ?_) <;> (intro hd; have hc := hd; (try simp at hc) <;> (try simp -implicitDefEqProofs [-loopQ_n, hd, hc, hA']))) | (refine ldD_ep ?_ ?_; (focus kernel_rfl); (try simp -implicitDefEqProofs [-loopQ_n, hA'])))))
          exact endG_n (.tup []) rfl ⟨rfl, fin _ L Q2 (by simp) hL1 sQ2 hL2 (Stb.refl _)⟩
        · have hs1 : Srtd (ltCX cm) (P1 ++ Q1) := by
            by_cases hC : a < r
            · rw [n3 (fun q => hBC ⟨hC, q⟩), List.append_nil]; exact sP1
            · rw [n1 hC]; exact sQ1
          by_cases hC : a < r
          · have hB : ¬ r < mid := fun q => hBC ⟨hC, q⟩
            ((try simp -implicitDefEqProofs [-loopQ_n, v1, hA, hA', hB, hC]) <;> (repeat' (first | ((first | refine condD_dec ?_ ?_ | refine guardD_dec ?_ ?_) <;> (intro hc; (try simp -implicitDefEqProofs [-loopQ_n, hc, v1, hA, hA', hB, hC]))) | ((first | refine condD_intro ?_ ?_ | refine guardD_intro ?_ ?_) <;> (intro hd; have hc := hd; (try simp at hc) <;> (try simp -implicitDefEqProofs [-loopQ_n, hd, hc, v1, hA, hA', hB, hC]))) | (refine ldD_ep ?_ ?_; (focus kernel_rfl); (try simp -implicitDefEqProofs [-loopQ_n, v1, hA, hA', hB, hC])))))
            exact endG_n (.tup []) rfl ⟨rfl, fin _ (P1 ++ Q1) Q2 (by rw [← hw1]; simp) hs1 sQ2 (Stb.refl _) (Stb.refl _)⟩
          · ((try simp -implicitDefEqProofs [-loopQ_n, v1, hA, hA', hC]) <;> (repeat' (first | ((first | refine condD_dec ?_ ?_ | refine guardD_dec ?_ ?_) <;> (intro hc; (try simp -implicitDefEqProofs [-loopQ_n, hc, v1, hA, hA', hC]))) | ((first | refine condD_intro ?_ ?_ | refine guardD_intro ?_ ?_) <;> (intro hd; have hc := hd; (try simp at hc) <;> (try simp -implicitDefEqProofs [-loopQ_n, hd, hc, v1, hA, hA', hC]))) | (refine ldD_ep ?_ ?_; (focus kernel_rfl); (try simp -implicitDefEqProofs [-loopQ_n, v1, hA, hA', hC])))))
            exact endG_n (.tup []) rfl ⟨rfl, fin _ (P1 ++ Q1) Q2 (by rw [← hw1]; simp) hs1 sQ2 (Stb.refl _) (Stb.refl _)⟩)
end Go.Proofs.YthiclaihlpkinaaGreat
namespace Go.Proofs.YthiclaihlpkinaaGreat
open Go.RowKit
variable [Glob]
open Stab
variable {li : List Ins}
theorem SymCX.at2 {g : Nat} {cm : (Ix li) → (Ix li) → Int} {A P Q B : List (Ix li)} (h : SymCX g cm A P Q B) {N a m b : Nat} (hN : (A ++ (P ++ (Q ++ B))).length = N) (ha : A.length = a) (hm : a + P.length = m) (hb : m + Q.length = b) :
    CallG Tryz.prog 90 [.os 1 N, .int .i64 a, .int .i64 m, .int .i64 b, .fn g [.op 0 0]] [bxI li, rowX (A ++ (P ++ (Q ++ B)))]
      fun r H => r = .tup [] ∧ ∃ R : List (Ix li), H = [bxI li, rowX (A ++ (R ++ B))] ∧ Srtd (ltCX cm) R ∧ Stb (ltCX cm) (P ++ Q) R := by
  subst hN ha hm hb
  exact h
set_option maxHeartbeats 16000000 in
theorem stable_GX (g : Nat) (cm : (Ix li) → (Ix li) → Int) (hcmp : ∀ x y : (Ix li), Pure Tryz.prog g [.int .i64 (x.i : Int), .int .i64 (y.i : Int), .rp [.rs (rowsOf insC li)]] (.int .i64 (cm x y))) (hs : Swo (ltCX cm))
    (hsym : ∀ A P Q B : List (Ix li), Srtd (ltCX cm) P → Srtd (ltCX cm) Q → P ≠ [] → Q ≠ [] → (A ++ (P ++ (Q ++ B))).length ≤ 2000 → SymCX g cm A P Q B)
    (X : List (Ix li)) (N : Nat) (hN : X.length = N) (hl : N ≤ 2000) :
    CallG Tryz.prog 59 [.os 1 N, .int .i64 N, .fn g [.op 0 0]] [bxI li, rowX X]
      fun r H => r = .tup [] ∧ ∃ Y : List (Ix li), H = [bxI li, rowX Y] ∧ Srtd (ltCX cm) Y ∧ Stb (ltCX cm) X Y := by
  refine inl_G mixed Tryz.func59 rfl (by kernel_rfl) (of_decide_eq_true rfl) (by kernel_rfl) (vc_run ?_)
  ((try simp -implicitDefEqProofs [-loopQ_n]) <;> (repeat' (first | ((first | refine condD_dec ?_ ?_ | refine guardD_dec ?_ ?_) <;> (intro hc; (try simp -implicitDefEqProofs [-loopQ_n, hc]))) | ((first | refine condD_intro ?_ ?_ | refine guardD_intro ?_ ?_) <;> (intro hd; have hc := hd; (try simp at hc) <;> (try simp -implicitDefEqProofs [-loopQ_n, hd, hc]))) | (refine ldD_ep ?_ ?_; (focus kernel_rfl); (try simp -implicitDefEqProofs [-loopQ_n])))))
  refine loop_intro (σ := List (Ix li) × List (Ix li)) (fun y => ⟨[(0, .os 1 N), (1, .int .i64 N), (2, .fn g [.op 0 0]), (6, .int .i64 20), (7, .int .i64 (y.1.length : Nat)), (8, .int .i64 (y.1.length + 20 : Nat))], [bxI li, rowX (y.1 ++ y.2)]⟩)
    (fun y => RunE (ltCX cm) 20 y.1 ∧ Stb (ltCX cm) X (y.1 ++ y.2)) (fun y => y.2.length) ([], X) ⟨.nil, Stb.refl _⟩ ?_ ?_
  · refine weak_ofL 2 0 (by simp) (by simp) rfl ?_ ?_ <;> simp [ixC_refsR, ins_refs, refs]
  rintro ⟨D, r⟩ ⟨hD, hX⟩
  simp only at hD hX
  have hlen := hX.1
  rw [List.length_append, hN] at hlen
  obtain ⟨a, ha⟩ : ∃ a, D.length = a := ⟨_, rfl⟩
  obtain ⟨b, hb⟩ : ∃ b, a + 20 = b := ⟨_, rfl⟩
  rw [ha] at hlen
  rw [ha, hb]
  by_cases h : b ≤ N
  · have hsp := List.take_append_drop 20 r
    have lP : (r.take 20).length = 20 := by rw [List.length_take]; omega
    have hi := ins_GX g cm hcmp hs D (r.take 20) (r.drop 20) N a b (by rw [hsp, List.length_append]; omega) ha (by omega) hl
    rw [hsp] at hi
    have w1 : wrapI .i64 ((b : Int) + 20) = ((b + 20 : Nat) : Int) := by rw [wrap_in (by omega) (by omega)]; omega
    ((try simp -implicitDefEqProofs [-loopQ_n, h, w1]) <;> (repeat' (first | ((first | refine condD_dec ?_ ?_ | refine guardD_dec ?_ ?_) <;> (intro hc; (try simp -implicitDefEqProofs [-loopQ_n, hc, h, w1]))) | ((first | refine condD_intro ?_ ?_ | refine guardD_intro ?_ ?_) <;> (intro hd; have hc := hd; (try simp at hc) <;> (try simp -implicitDefEqProofs [-loopQ_n, hd, hc, h, w1]))) | (refine ldD_ep ?_ ?_; (focus kernel_rfl); (try simp -implicitDefEqProofs [-loopQ_n, h, w1])))))
    refine callG_intro (hi.weaken ?_)
    rintro _ _ ⟨rfl, P, rfl, hP1, hP2, hP3⟩
    ((try simp -implicitDefEqProofs [-loopQ_n, h, w1]) <;> (repeat' (first | ((first | refine condD_dec ?_ ?_ | refine guardD_dec ?_ ?_) <;> (intro hc; (try simp -implicitDefEqProofs [-loopQ_n, hc, h, w1]))) | ((first | refine condD_intro ?_ ?_ | refine guardD_intro ?_ ?_) <;> (intro hd; have hc := hd; (try simp at hc) <;> (try simp -implicitDefEqProofs [-loopQ_n, hd, hc, h, w1]))) | (refine ldD_ep ?_ ?_; (focus kernel_rfl); (try simp -implicitDefEqProofs [-loopQ_n, h, w1])))))
    refine loop_next (D ++ P, r.drop 20) ⟨.snoc hD (by rw [hP1, lP]) hP2, ?_⟩ (by simp only [List.length_drop]; omega) (weak_ofL 2 0 (by simp) (by simp) rfl ?_ ?_)
    · refine hX.trans ?_
      have := ((Stb.refl (lt := ltCX cm) D).app hP3).app (Stb.refl (lt := ltCX cm) (r.drop 20))
      rw [List.append_assoc, hsp] at this
      exact this
    · simp [refs, ha, hP1, lP, ← hb]
    · simp [ixC_refsR, ins_refs]
  have hi := ins_GX g cm hcmp hs D r [] N a N (by rw [List.length_append, List.append_nil]; omega) ha (by omega) hl
  rw [List.append_nil] at hi
  ((try simp -implicitDefEqProofs [-loopQ_n, h]) <;> (repeat' (first | ((first | refine condD_dec ?_ ?_ | refine guardD_dec ?_ ?_) <;> (intro hc; (try simp -implicitDefEqProofs [-loopQ_n, hc, h]))) | ((first | refine condD_intro ?_ ?_ | refine guardD_intro ?_ ?_) <;> (intro hd; have hc := hd; (try simp at hc) <;> (try simp -implicitDefEqProofs [-loopQ_n, hd, hc, h]))) | (refine ldD_ep ?_ ?_; (focus kernel_rfl); (try simp -implicitDefEqProofs [-loopQ_n, h])))))
  refine callG_intro (hi.weaken ?_)
  rintro _ _ ⟨rfl, P, rfl, hP1, hP2, hP3⟩
  rw [List.append_nil]
  have hrun : Run (ltCX cm) 20 (D ++ P) := hD.app (.last (by omega) hP2)
  have hst : Stb (ltCX cm) X (D ++ P) := hX.trans ((Stb.refl D).app hP3)
  generalize D ++ P = v at *
  ((try simp -implicitDefEqProofs [-loopQ_n]) <;> (repeat' (first | ((first | refine condD_dec ?_ ?_ | refine guardD_dec ?_ ?_) <;> (intro hc; (try simp -implicitDefEqProofs [-loopQ_n, hc]))) | ((first | refine condD_intro ?_ ?_ | refine guardD_intro ?_ ?_) <;> (intro hd; have hc := hd; (try simp at hc) <;> (try simp -implicitDefEqProofs [-loopQ_n, hd, hc]))) | (refine ldD_ep ?_ ?_; (focus kernel_rfl); (try simp -implicitDefEqProofs [-loopQ_n])))))
  refine loop_intro (σ := Nat × List (Ix li)) (fun y => ⟨[(0, .os 1 N), (1, .int .i64 N), (2, .fn g [.op 0 0]), (6, .int .i64 y.1)], [bxI li, rowX y.2]⟩)
    (fun y => 20 ≤ y.1 ∧ y.1 ≤ 4000 ∧ Run (ltCX cm) y.1 y.2 ∧ Stb (ltCX cm) X y.2) (fun y => N - y.1) (20, v) ⟨by simp, by simp, hrun, hst⟩ ?_ ?_
  · refine weak_ofL 2 0 (by simp) (by simp) rfl ?_ ?_ <;> simp [ixC_refsR, ins_refs, refs]
  clear hrun hst hX hD hlen hi hP2 hP3 hP1
  rintro ⟨bs, v⟩ ⟨q1, q2, hrun, hst⟩
  simp only at q1 q2 hrun hst
  have hlv := hst.1
  rw [hN] at hlv
  by_cases hbs : bs < N
  · obtain ⟨b2, hb2⟩ : ∃ b2, 2 * bs = b2 := ⟨_, rfl⟩
    have w2 : wrapI .i64 (2 * (bs : Int)) = (b2 : Int) := by rw [wrap_in (by omega) (by omega)]; omega
    have w2' : wrapI .i64 ((bs : Int) * 2) = (b2 : Int) := by rw [wrap_in (by omega) (by omega)]; omega
    ((try simp -implicitDefEqProofs [-loopQ_n, hbs, w2]) <;> (repeat' (first | ((first | refine condD_dec ?_ ?_ | refine guardD_dec ?_ ?_) <;> (intro hc; (try simp -implicitDefEqProofs [-loopQ_n, hc, hbs, w2]))) | ((first | refine condD_intro ?_ ?_ | refine guardD_intro ?_ ?_) <;> (intro hd; have hc := hd; (try simp at hc) <;> (try simp -implicitDefEqProofs [-loopQ_n, hd, hc, hbs, w2]))) | (refine ldD_ep ?_ ?_; (focus kernel_rfl); (try simp -implicitDefEqProofs [-loopQ_n, hbs, w2])))))
    refine loop_intro (σ := List (Ix li) × List (Ix li)) (fun y => ⟨[(0, .os 1 N), (1, .int .i64 N), (2, .fn g [.op 0 0]), (6, .int .i64 bs), (7, .int .i64 (y.1.length : Nat)), (8, .int .i64 (y.1.length + b2 : Nat))], [bxI li, rowX (y.1 ++ y.2)]⟩)
      (fun y => RunE (ltCX cm) b2 y.1 ∧ Run (ltCX cm) bs y.2 ∧ Stb (ltCX cm) X (y.1 ++ y.2)) (fun y => y.2.length) ([], v) ⟨.nil, hrun, hst⟩ ?_ ?_
    · refine weak_ofL 2 0 (by simp) (by simp) rfl ?_ ?_ <;> simp [ixC_refsR, ins_refs, refs]
    clear hrun hst hlv
    rintro ⟨D, r⟩ ⟨hD, hr, hX⟩
    simp only at hD hr hX
    have hlen := hX.1
    rw [List.length_append, hN] at hlen
    obtain ⟨a, ha⟩ : ∃ a, D.length = a := ⟨_, rfl⟩
    obtain ⟨b, hb⟩ : ∃ b, a + b2 = b := ⟨_, rfl⟩
    obtain ⟨m, hm⟩ : ∃ m, a + bs = m := ⟨_, rfl⟩
    rw [ha] at hlen
    rw [ha, hb]
    have w3 := wi_addX (a := a) (b := bs) (by omega)
    rw [hm] at w3
    by_cases h : b ≤ N
    · obtain ⟨P, Q, q, rfl, lP, lQ, sP, sQ, hq⟩ := hr.two (by omega) (by omega)
      have hNl : (D ++ (P ++ (Q ++ q))).length = N := by rw [List.length_append]; omega
      have hi := (hsym D P Q q sP sQ (fun e => by rw [e] at lP; simp at lP; omega) (fun e => by rw [e] at lQ; simp at lQ; omega) (by omega)).at2 hNl ha (m := m) (b := b) (by omega) (by omega)
      obtain ⟨w, hw⟩ : ∃ w, D ++ (P ++ (Q ++ q)) = w := ⟨_, rfl⟩
      rw [hw] at hi ⊢
      have w4 := wi_addX (a := b) (b := b2) (by omega)
      ((try simp -implicitDefEqProofs [-loopQ_n, h, w2, w3, w4]) <;> (repeat' (first | ((first | refine condD_dec ?_ ?_ | refine guardD_dec ?_ ?_) <;> (intro hc; (try simp -implicitDefEqProofs [-loopQ_n, hc, h, w2, w3, w4]))) | ((first | refine condD_intro ?_ ?_ | refine guardD_intro ?_ ?_) <;> (intro hd; have hc := hd; (try simp at hc) <;> (try simp -implicitDefEqProofs [-loopQ_n, hd, hc, h, w2, w3, w4]))) | (refine ldD_ep ?_ ?_; (focus kernel_rfl); (try simp -implicitDefEqProofs [-loopQ_n, h, w2, w3, w4])))))
      refine callG_intro (hi.weaken ?_)
      rintro _ _ ⟨rfl, R, rfl, hR1, hR2⟩
      have hRl : R.length = b2 := by rw [← hR2.1, List.length_append]; omega
      ((try simp -implicitDefEqProofs [-loopQ_n, h, w2, w3, w4]) <;> (repeat' (first | ((first | refine condD_dec ?_ ?_ | refine guardD_dec ?_ ?_) <;> (intro hc; (try simp -implicitDefEqProofs [-loopQ_n, hc, h, w2, w3, w4]))) | ((first | refine condD_intro ?_ ?_ | refine guardD_intro ?_ ?_) <;> (intro hd; have hc := hd; (try simp at hc) <;> (try simp -implicitDefEqProofs [-loopQ_n, hd, hc, h, w2, w3, w4]))) | (refine ldD_ep ?_ ?_; (focus kernel_rfl); (try simp -implicitDefEqProofs [-loopQ_n, h, w2, w3, w4])))))
      refine loop_next (D ++ R, q) ⟨.snoc hD hRl hR1, hq, ?_⟩ (by simp only [List.length_append]; omega) (weak_ofL 2 0 (by simp) (by simp) rfl ?_ ?_)
      · refine hX.trans ?_
        have := ((Stb.refl (lt := ltCX cm) D).app hR2).app (Stb.refl (lt := ltCX cm) q)
        simpa using this
      · simp [refs, ha, hRl, ← hb]
      · simp [ixC_refsR, ins_refs]
    by_cases hmN : m < N
    · obtain ⟨P, Q, rfl, lP, sP, hq⟩ := hr.one (by omega)
      rw [List.length_append] at hlen
      have hNl : (D ++ (P ++ (Q ++ []))).length = N := by simp only [List.length_append, List.length_nil]; omega
      have hi := (hsym D P Q [] sP (hq.all (by omega)) (fun e => by rw [e] at lP; simp at lP; omega) (fun e => by rw [e] at hlen; simp at hlen; omega) (by omega)).at2 hNl ha (m := m) (b := N) (by omega) (by omega)
      rw [List.append_nil] at hi
      obtain ⟨w, hw⟩ : ∃ w, D ++ (P ++ Q) = w := ⟨_, rfl⟩
      rw [hw] at hi ⊢
      ((try simp -implicitDefEqProofs [-loopQ_n, h, w3, hmN]) <;> (repeat' (first | ((first | refine condD_dec ?_ ?_ | refine guardD_dec ?_ ?_) <;> (intro hc; (try simp -implicitDefEqProofs [-loopQ_n, hc, h, w3, hmN]))) | ((first | refine condD_intro ?_ ?_ | refine guardD_intro ?_ ?_) <;> (intro hd; have hc := hd; (try simp at hc) <;> (try simp -implicitDefEqProofs [-loopQ_n, hd, hc, h, w3, hmN]))) | (refine ldD_ep ?_ ?_; (focus kernel_rfl); (try simp -implicitDefEqProofs [-loopQ_n, h, w3, hmN])))))
      refine callG_intro (hi.weaken ?_)
      rintro _ _ ⟨rfl, R, rfl, hR1, hR2⟩
      rw [List.append_nil]
      have hRl : R.length = P.length + Q.length := by rw [← hR2.1, List.length_append]
      ((try simp -implicitDefEqProofs [-loopQ_n, w2']) <;> (repeat' (first | ((first | refine condD_dec ?_ ?_ | refine guardD_dec ?_ ?_) <;> (intro hc; (try simp -implicitDefEqProofs [-loopQ_n, hc, w2']))) | ((first | refine condD_intro ?_ ?_ | refine guardD_intro ?_ ?_) <;> (intro hd; have hc := hd; (try simp at hc) <;> (try simp -implicitDefEqProofs [-loopQ_n, hd, hc, w2']))) | (refine ldD_ep ?_ ?_; (focus kernel_rfl); (try simp -implicitDefEqProofs [-loopQ_n, w2'])))))
      refine loop_next (b2, D ++ R) ⟨by simp only; omega, by simp only; omega, hD.app (.last (by omega) hR1), ?_⟩ (by simp only; omega) (weak_ofL 2 0 (by simp) (by simp) rfl ?_ ?_)
      · refine hX.trans ?_
        exact (Stb.refl (lt := ltCX cm) D).app hR2
      · simp [refs]
      · simp [ixC_refsR, ins_refs]
    · have hS := hr.all (by omega)
      obtain ⟨w, hw⟩ : ∃ w, D ++ r = w := ⟨_, rfl⟩
      rw [hw]
      ((try simp -implicitDefEqProofs [-loopQ_n, h, w3, hmN, w2']) <;> (repeat' (first | ((first | refine condD_dec ?_ ?_ | refine guardD_dec ?_ ?_) <;> (intro hc; (try simp -implicitDefEqProofs [-loopQ_n, hc, h, w3, hmN, w2']))) | ((first | refine condD_intro ?_ ?_ | refine guardD_intro ?_ ?_) <;> (intro hd; have hc := hd; (try simp at hc) <;> (try simp -implicitDefEqProofs [-loopQ_n, hd, hc, h, w3, hmN, w2']))) | (refine ldD_ep ?_ ?_; (focus kernel_rfl); (try simp -implicitDefEqProofs [-loopQ_n, h, w3, hmN, w2'])))))
      refine loop_next (b2, w) ⟨by simp only; omega, by simp only; omega, by rw [← hw]; exact hD.app (.last (by omega) hS), by rw [← hw]; exact hX⟩ (by simp only; omega) (weak_ofL 2 0 (by simp) (by simp) rfl ?_ ?_)
      · simp [refs]
      · simp [ixC_refsR, ins_refs]
  · ((try simp -implicitDefEqProofs [-loopQ_n, hbs]) <;> (repeat' (first | ((first | refine condD_dec ?_ ?_ | refine guardD_dec ?_ ?_) <;> (intro hc; (try simp -implicitDefEqProofs [-loopQ_n, hc, hbs]))) | ((first | refine condD_intro ?_ ?_ | refine guardD_intro ?_ ?_) <;> (intro hd; have hc := hd; (try simp at hc) <;> (try simp -implicitDefEqProofs [-loopQ_n, hd, hc, hbs]))) | (refine ldD_ep ?_ ?_; (focus kernel_rfl); (try simp -implicitDefEqProofs [-loopQ_n, hbs])))))
    exact endG_n (.tup []) rfl ⟨rfl, v, rfl, hrun.all (by omega), hst⟩
set_option maxHeartbeats 8000000 in
theorem sstable_GX (g : Nat) (cm : (Ix li) → (Ix li) → Int) (hcmp : ∀ x y : (Ix li), Pure Tryz.prog g [.int .i64 (x.i : Int), .int .i64 (y.i : Int), .rp [.rs (rowsOf insC li)]] (.int .i64 (cm x y))) (hs : Swo (ltCX cm))
    (hsym : ∀ A P Q B : List (Ix li), Srtd (ltCX cm) P → Srtd (ltCX cm) Q → P ≠ [] → Q ≠ [] → (A ++ (P ++ (Q ++ B))).length ≤ 2000 → SymCX g cm A P Q B)
    (X : List (Ix li)) (N : Nat) (hN : X.length = N) (hl : N ≤ 2000) :
    CallG Tryz.prog 33 [.os 1 N, .fn g [.op 0 0]] [bxI li, rowX X]
      fun r H => r = .tup [] ∧ ∃ Y : List (Ix li), H = [bxI li, rowX Y] ∧ Srtd (ltCX cm) Y ∧ Stb (ltCX cm) X Y := by
  refine inl_G mixed Tryz.func33 rfl (by kernel_rfl) (of_decide_eq_true rfl) (by kernel_rfl) (vc_run ?_)
  ((try simp -implicitDefEqProofs [-loopQ_n, hN]) <;> (repeat' (first | ((first | refine condD_dec ?_ ?_ | refine guardD_dec ?_ ?_) <;> (intro hc; (try simp -implicitDefEqProofs [-loopQ_n, hc, hN]))) | ((first | refine condD_intro ?_ ?_ | refine guardD_intro ?_ ?_) <;> (intro hd; have hc := hd; (try simp at hc) <;> (try simp -implicitDefEqProofs [-loopQ_n, hd, hc, hN]))) | (refine ldD_ep ?_ ?_; (focus kernel_rfl); (try simp -implicitDefEqProofs [-loopQ_n, hN])))))
  refine callG_intro ((stable_GX g cm hcmp hs hsym X N hN hl).weaken ?_)
  rintro _ _ ⟨rfl, Y, rfl, h1, h2⟩
  ((try simp -implicitDefEqProofs [-loopQ_n]) <;> (repeat' (first | ((first | refine condD_dec ?_ ?_ | refine guardD_dec ?_ ?_) <;> (intro hc; (try simp -implicitDefEqProofs [-loopQ_n, hc]))) | ((first | refine condD_intro ?_ ?_ | refine guardD_intro ?_ ?_) <;> (intro hd; have hc := hd; (try simp at hc) <;> (try simp -implicitDefEqProofs [-loopQ_n, hd, hc]))) | (refine ldD_ep ?_ ?_; (focus kernel_rfl); (try simp -implicitDefEqProofs [-loopQ_n])))))
  exact endG_n (.tup []) rfl ⟨rfl, Y, rfl, h1, h2⟩
end Go.Proofs.YthiclaihlpkinaaGreat
namespace Go.Proofs.YthiclaihlpkinaaGreat
open Go.RowKit
variable [Glob]
open Stab
variable {li : List Ins}
theorem sym_allX (g : Nat) (cm : (Ix li) → (Ix li) → Int) (hcmp : ∀ x y : (Ix li), Pure Tryz.prog g [.int .i64 (x.i : Int), .int .i64 (y.i : Int), .rp [.rs (rowsOf insC li)]] (.int .i64 (cm x y))) (hs : Swo (ltCX cm)) :
    ∀ (n : Nat) (A P Q B : List (Ix li)), P.length + Q.length ≤ n → Srtd (ltCX cm) P → Srtd (ltCX cm) Q → P ≠ [] → Q ≠ [] → (A ++ (P ++ (Q ++ B))).length ≤ 2000 → SymCX g cm A P Q B := by
  intro n
  induction n with
  | zero => intro A P Q B h _ _ hP; exact absurd (List.eq_nil_of_length_eq_zero (by omega)) hP
  | succ n ih =>
    intro A P Q B h sP sQ hP hQ hl
    by_cases h1 : P.length = 1
    · obtain ⟨x, rfl⟩ := List.length_eq_one_iff.1 h1
      exact sym_oneX g cm hcmp hs A Q B x sQ hl
    by_cases h2 : Q.length = 1
    · obtain ⟨x, rfl⟩ := List.length_eq_one_iff.1 h2
      exact sym_lastX g cm hcmp hs A P B x sP h1 hl
    have l1 := List.length_pos_iff.2 hP
    have l2 := List.length_pos_iff.2 hQ
    have ih' : ∀ A' P' Q' B' : List (Ix li), P'.length + Q'.length < P.length + Q.length → Srtd (ltCX cm) P' → Srtd (ltCX cm) Q' → P' ≠ [] → Q' ≠ [] → (A' ++ (P' ++ (Q' ++ B'))).length ≤ 2000 → SymCX g cm A' P' Q' B' :=
      fun A' P' Q' B' q => ih A' P' Q' B' (by omega)
    obtain ⟨mid, hmid⟩ : ∃ mid, (A.length + (A.length + P.length + Q.length)) / 2 = mid := ⟨_, rfl⟩
    by_cases hc : mid < A.length + P.length
    · exact sym_genX g cm hcmp hs A P Q B sP sQ (by omega) (by omega) hl ih' _ _ _ mid (mid + (A.length + P.length) - (A.length + P.length + Q.length)) mid rfl rfl rfl hmid (.inl ⟨hc, rfl, rfl⟩)
    · exact sym_genX g cm hcmp hs A P Q B sP sQ (by omega) (by omega) hl ih' _ _ _ mid A.length (A.length + P.length) rfl rfl rfl hmid (.inr ⟨hc, rfl, rfl⟩)
end Go.Proofs.YthiclaihlpkinaaGreat
