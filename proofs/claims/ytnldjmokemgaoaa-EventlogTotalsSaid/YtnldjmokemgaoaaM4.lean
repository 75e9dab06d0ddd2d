/- Several texts of the abstract machine, one behind the other. -/
import Derived.Test.YtnldjmokemgaoaaM3
import Derived.Test.YtnldjmokemgaoaaEl7
/- Stable sorting of events, first part: what slices.SortStableFunc calls (ranges that change places, rotations, insertions). -/
namespace Go.Proofs.Ytnldjmokemgaoaa
set_option linter.unusedSimpArgs false
set_option linter.unusedVariables false
set_option linter.unnecessarySimpa false
set_option linter.unusedSectionVars false
open Go.RowKit
variable [Glob]
open Stab
set_option maxRecDepth 100000
/-- An event of a valid log. -/
def EvS := {e : Evt // 0 ≤ e.time ∧ e.time ≤ 1099511627776}
def evS (e : EvS) : List AV := evtC e.1
abbrev rowE (v : List EvS) : Blk := .row 54 true (rowsOf evS v)
theorem evS_len {e : EvS} : (evS e).length = 6 := rfl
theorem evS_tk {e : EvS} : (evS e).take 6 = evS e := rfl
theorem evS_dr {e : EvS} : (evS e).drop 6 = [] := rfl
theorem evS_set {v : List EvS} {i : Nat} {e : EvS} : (rowsOf evS v).set i (evS e) = rowsOf evS (v.set i e) := by simp [rowsOf, List.map_set]
theorem evS_refsR {m : Nat} {v : List EvS} : refsR m (rowsOf evS v) = true := rowsOf_refs fun x => by simp [evS, evtC, refs]
theorem wi_add {a b : Nat} (h : a + b ≤ 9223372036854775807) : wrapI .i64 ((a : Int) + b) = ((a + b : Nat) : Int) := by rw [wrap_in (by omega) (by omega)]; omega
theorem wi_sub {a b : Nat} (h : b ≤ a) (h2 : a ≤ 9223372036854775807) : wrapI .i64 ((a : Int) - b) = ((a - b : Nat) : Int) := by rw [wrap_in (by omega) (by omega)]; omega
theorem wi_one {a : Nat} (h : a + 1 ≤ 9223372036854775807) : wrapI .i64 ((a : Int) + 1) = ((a + 1 : Nat) : Int) := by rw [wrap_in (by omega) (by omega)]; omega
set_option maxHeartbeats 8000000 in
theorem swp_G (g : Nat) (v : List EvS) (a b n : Nat) (h1 : a + n ≤ b) (h2 : b + n ≤ v.length) (hl : v.length ≤ 2000) :
    CallG Try.prog 132 [.os 0 v.length, .int .i64 a, .int .i64 b, .int .i64 n, .fn g []] [rowE v]
      fun r H => r = .tup [] ∧ ∃ w : List EvS, H = [rowE w] ∧ w.length = v.length ∧ ∀ q, w[q]? = swF v a b n q := by
  refine inl_G mixed Try.func132 rfl (by kernel_rfl) (of_decide_eq_true rfl) (by kernel_rfl) (vc_run ?_)
  ((try simp -implicitDefEqProofs [-loopQ_n]) <;> (repeat' (first | (refine condD_dec ?_ ?_ <;> (intro hc; (try simp -implicitDefEqProofs [-loopQ_n, hc]))) | (refine guardD_dec ?_ ?_ <;> (intro hc; (try simp -implicitDefEqProofs [-loopQ_n, hc]))) | (refine condD_intro ?_ ?_ <;> (intro hd; have hc := hd; (try simp at hc) <;> (try simp -implicitDefEqProofs [-loopQ_n, hd, hc]))) | (refine guardD_intro ?_ ?_ <;> (intro hd; have hc := hd; (try simp at hc) <;> (try simp -implicitDefEqProofs [-loopQ_n, hd, hc]))) | (refine ldD_ep ?_ ?_; (focus kernel_rfl); (try simp -implicitDefEqProofs [-loopQ_n])))))
  refine loop_intro (σ := Nat × List EvS) (fun x => ⟨[(0, .os 0 x.2.length), (1, .int .i64 a), (2, .int .i64 b), (3, .int .i64 n), (10, .int .i64 x.1)], [rowE x.2]⟩)
    (fun x => x.1 ≤ n ∧ x.2.length = v.length ∧ ∀ q, x.2[q]? = swF v a b x.1 q) (fun x => n - x.1) (0, v) ⟨by simp, rfl, fun q => (swF_zero v a b q).symm⟩ ?_ ?_
  · refine weak_ofL 1 0 rfl (by simp) rfl ?_ ?_ <;> simp [evS_refsR]
  rintro ⟨i, w⟩ ⟨hi, hlw, hq⟩
  simp only at hi hlw hq
  by_cases h : i < n
  · have ha : a + i < w.length := by omega
    have hb : b + i < w.length := by omega
    have w1 := wi_add (a := a) (b := i) (by omega)
    have w2 := wi_add (a := b) (b := i) (by omega)
    have w3 := wi_one (a := i) (by omega)
    obtain ⟨x, hx⟩ : ∃ x, w[a + i] = x := ⟨_, rfl⟩
    obtain ⟨y, hy⟩ : ∃ y, w[b + i] = y := ⟨_, rfl⟩
    have hs := swF_step hq h h1 (by rw [List.getElem?_eq_getElem ha, hx]) (by rw [List.getElem?_eq_getElem hb, hy])
    generalize hp : a + i = p at *
    generalize hq : b + i = q at *
    ((try simp -implicitDefEqProofs [-loopQ_n, h, ha, hb, w1, w2, w3, hx, hy, evS_len, evS_tk, evS_dr, evS_set]) <;> (repeat' (first | (refine condD_dec ?_ ?_ <;> (intro hc; (try simp -implicitDefEqProofs [-loopQ_n, hc, h, ha, hb, w1, w2, w3, hx, hy, evS_len, evS_tk, evS_dr, evS_set]))) | (refine guardD_dec ?_ ?_ <;> (intro hc; (try simp -implicitDefEqProofs [-loopQ_n, hc, h, ha, hb, w1, w2, w3, hx, hy, evS_len, evS_tk, evS_dr, evS_set]))) | (refine condD_intro ?_ ?_ <;> (intro hd; have hc := hd; (try simp at hc) <;> (try simp -implicitDefEqProofs [-loopQ_n, hd, hc, h, ha, hb, w1, w2, w3, hx, hy, evS_len, evS_tk, evS_dr, evS_set]))) | (refine guardD_intro ?_ ?_ <;> (intro hd; have hc := hd; (try simp at hc) <;> (try simp -implicitDefEqProofs [-loopQ_n, hd, hc, h, ha, hb, w1, w2, w3, hx, hy, evS_len, evS_tk, evS_dr, evS_set]))) | (refine ldD_ep ?_ ?_; (focus kernel_rfl); (try simp -implicitDefEqProofs [-loopQ_n, h, ha, hb, w1, w2, w3, hx, hy, evS_len, evS_tk, evS_dr, evS_set])))))
    refine loop_next (i + 1, (w.set p y).set q x) ⟨by simp only; omega, by simpa using hlw, hs⟩ (by simp only; omega) (weak_ofL 1 0 rfl (by simp) rfl ?_ ?_) <;> simp [evS_refsR]
  · have e : i = n := by omega
    subst e
    ((try simp -implicitDefEqProofs [-loopQ_n, h]) <;> (repeat' (first | (refine condD_dec ?_ ?_ <;> (intro hc; (try simp -implicitDefEqProofs [-loopQ_n, hc, h]))) | (refine guardD_dec ?_ ?_ <;> (intro hc; (try simp -implicitDefEqProofs [-loopQ_n, hc, h]))) | (refine condD_intro ?_ ?_ <;> (intro hd; have hc := hd; (try simp at hc) <;> (try simp -implicitDefEqProofs [-loopQ_n, hd, hc, h]))) | (refine guardD_intro ?_ ?_ <;> (intro hd; have hc := hd; (try simp at hc) <;> (try simp -implicitDefEqProofs [-loopQ_n, hd, hc, h]))) | (refine ldD_ep ?_ ?_; (focus kernel_rfl); (try simp -implicitDefEqProofs [-loopQ_n, h])))))
    exact endG_n (.tup []) rfl ⟨rfl, w, rfl, hlw, hq⟩
theorem swpB_G (g : Nat) (A X M Y B : List EvS) (N a b n : Nat) (hN : (A ++ (X ++ (M ++ (Y ++ B)))).length = N) (ha : A.length = a) (hX : X.length = n) (hY : Y.length = n) (hb : a + n + M.length = b) (hl : N ≤ 2000) :
    CallG Try.prog 132 [.os 0 N, .int .i64 a, .int .i64 b, .int .i64 n, .fn g []] [rowE (A ++ (X ++ (M ++ (Y ++ B))))]
      fun r H => r = .tup [] ∧ H = [rowE (A ++ (Y ++ (M ++ (X ++ B))))] := by
  subst hN
  refine (swp_G g (A ++ (X ++ (M ++ (Y ++ B)))) a b n (by omega) (by simp only [List.length_append] at hl ⊢; omega) hl).weaken ?_
  rintro r H ⟨rfl, w, rfl, hw, hq⟩
  exact ⟨rfl, by rw [swF_all ha hX hY hb hq]⟩
/-- The four parts of a rotation that is under way. -/
structure Rot where
  (A X Y B : List EvS)
def Rot.v (x : Rot) : List EvS := x.A ++ (x.X ++ (x.Y ++ x.B))
set_option maxHeartbeats 8000000 in
theorem rot_G (g : Nat) (A X Y B : List EvS) (N a m b : Nat) (hN : (A ++ (X ++ (Y ++ B))).length = N) (ha : A.length = a) (hm : a + X.length = m) (hb : m + Y.length = b) (hX : X ≠ []) (hY : Y ≠ []) (hl : N ≤ 2000) :
    CallG Try.prog 126 [.os 0 N, .int .i64 a, .int .i64 m, .int .i64 b, .fn g []] [rowE (A ++ (X ++ (Y ++ B)))]
      fun r H => r = .tup [] ∧ H = [rowE (A ++ (Y ++ (X ++ B)))] := by
  have hNm : b ≤ N := by simp only [List.length_append] at hN; omega
  have w1 := wi_sub (a := m) (b := a) (by omega) (by omega)
  have w2 := wi_sub (a := b) (b := m) (by omega) (by omega)
  have e1 : m - a = X.length := by omega
  have e2 : b - m = Y.length := by omega
  rw [e1] at w1
  rw [e2] at w2
  have lX := List.length_pos_iff.2 hX
  have lY := List.length_pos_iff.2 hY
  refine inl_G mixed Try.func126 rfl (by kernel_rfl) (of_decide_eq_true rfl) (by kernel_rfl) (vc_run ?_)
  ((try simp -implicitDefEqProofs [-loopQ_n, w1, w2]) <;> (repeat' (first | (refine condD_dec ?_ ?_ <;> (intro hc; (try simp -implicitDefEqProofs [-loopQ_n, hc, w1, w2]))) | (refine guardD_dec ?_ ?_ <;> (intro hc; (try simp -implicitDefEqProofs [-loopQ_n, hc, w1, w2]))) | (refine condD_intro ?_ ?_ <;> (intro hd; have hc := hd; (try simp at hc) <;> (try simp -implicitDefEqProofs [-loopQ_n, hd, hc, w1, w2]))) | (refine guardD_intro ?_ ?_ <;> (intro hd; have hc := hd; (try simp at hc) <;> (try simp -implicitDefEqProofs [-loopQ_n, hd, hc, w1, w2]))) | (refine ldD_ep ?_ ?_; (focus kernel_rfl); (try simp -implicitDefEqProofs [-loopQ_n, w1, w2])))))
  refine loop_intro (σ := Rot) (fun x => ⟨[(0, .os 0 N), (2, .int .i64 m), (4, .fn g []), (10, .int .i64 x.X.length), (11, .int .i64 x.Y.length)], [rowE x.v]⟩)
    (fun x => x.v.length = N ∧ x.A.length + x.X.length = m ∧ 0 < x.X.length ∧ 0 < x.Y.length ∧ x.A ++ (x.Y ++ (x.X ++ x.B)) = A ++ (Y ++ (X ++ B))) (fun x => x.X.length + x.Y.length) ⟨A, X, Y, B⟩ ⟨hN, by simp only; omega, lX, lY, rfl⟩ ?_ ?_
  · refine weak_ofL 1 0 rfl (by simp) rfl ?_ ?_ <;> simp [evS_refsR, Rot.v, refs]
  rintro ⟨A', X', Y', B'⟩ ⟨hN', hm', lX', lY', hR⟩
  simp only [Rot.v] at hN' hm' lX' lY' hR
  have hT : A'.length + X'.length + Y'.length + B'.length = N := by simp only [List.length_append] at hN'; omega
  have w3 := wi_sub (a := m) (b := X'.length) (by omega) (by omega)
  rw [show m - X'.length = A'.length by omega] at w3
  have hg1 : (X'.length = Y'.length) → CallG Try.prog 132 [.os 0 N, .int .i64 A'.length, .int .i64 m, .int .i64 X'.length, .fn g []] [rowE (A' ++ (X' ++ (Y' ++ B')))]
      fun r H => r = .tup [] ∧ H = [rowE (A ++ (Y ++ (X ++ B)))] := fun he => by
    have hc := swpB_G g A' X' [] Y' B' N A'.length m X'.length (by simpa using hN') rfl rfl he.symm (by simpa using hm') hl
    rw [List.nil_append, List.nil_append] at hc
    rwa [hR] at hc
  have hg2 : (Y'.length < X'.length) → CallG Try.prog 132 [.os 0 N, .int .i64 A'.length, .int .i64 m, .int .i64 Y'.length, .fn g []] [rowE (A' ++ (X' ++ (Y' ++ B')))]
      fun r H => r = .tup [] ∧ H = [rowE (A' ++ (Y' ++ (X'.drop Y'.length ++ (X'.take Y'.length ++ B'))))] := fun he => by
    have hc := swpB_G g A' (X'.take Y'.length) (X'.drop Y'.length) Y' B' N A'.length m Y'.length (by rw [← hN']; simp only [List.length_append, List.length_take, List.length_drop]; omega) rfl (by rw [List.length_take]; omega) rfl (by rw [List.length_drop]; omega) hl
    rwa [← List.append_assoc (X'.take Y'.length), List.take_append_drop] at hc
  have hg3 : (X'.length < Y'.length) → CallG Try.prog 132 [.os 0 N, .int .i64 A'.length, .int .i64 ((m + Y'.length - X'.length : Nat) : Int), .int .i64 X'.length, .fn g []] [rowE (A' ++ (X' ++ (Y' ++ B')))]
      fun r H => r = .tup [] ∧ H = [rowE (A' ++ (Y'.drop (Y'.length - X'.length) ++ (Y'.take (Y'.length - X'.length) ++ (X' ++ B'))))] := fun he => by
    have hc := swpB_G g A' X' (Y'.take (Y'.length - X'.length)) (Y'.drop (Y'.length - X'.length)) B' N A'.length (m + Y'.length - X'.length) X'.length (by rw [← hN']; simp only [List.length_append, List.length_take, List.length_drop]; omega) rfl rfl (by rw [List.length_drop]; omega) (by rw [List.length_take]; omega) hl
    rwa [← List.append_assoc (Y'.take _), List.take_append_drop] at hc
  have w4 := wi_add (a := m) (b := Y'.length) (by omega)
  have w5 := wi_sub (a := m + Y'.length) (b := X'.length) (by omega) (by omega)
  have w6 := wi_sub (a := X'.length) (b := Y'.length)
  have w7 := wi_sub (a := Y'.length) (b := X'.length)
  obtain ⟨v, hv⟩ : ∃ v, A' ++ (X' ++ (Y' ++ B')) = v := ⟨_, rfl⟩
  rw [hv] at hg1 hg2 hg3
  generalize hi : X'.length = i at *
  generalize hj : Y'.length = j at *
  generalize ha' : A'.length = a' at *
  generalize hmj : m + j = mj at *
  generalize hmk : mj - i = mk at *
  by_cases he : i = j
  · subst he
    have hg1 := hg1 rfl
    ((try simp -implicitDefEqProofs [-loopQ_n, w3, hi, hj, hv, Rot.v]) <;> (repeat' (first | (refine condD_dec ?_ ?_ <;> (intro hc; (try simp -implicitDefEqProofs [-loopQ_n, hc, w3, hi, hj, hv, Rot.v]))) | (refine guardD_dec ?_ ?_ <;> (intro hc; (try simp -implicitDefEqProofs [-loopQ_n, hc, w3, hi, hj, hv, Rot.v]))) | (refine condD_intro ?_ ?_ <;> (intro hd; have hc := hd; (try simp at hc) <;> (try simp -implicitDefEqProofs [-loopQ_n, hd, hc, w3, hi, hj, hv, Rot.v]))) | (refine guardD_intro ?_ ?_ <;> (intro hd; have hc := hd; (try simp at hc) <;> (try simp -implicitDefEqProofs [-loopQ_n, hd, hc, w3, hi, hj, hv, Rot.v]))) | (refine ldD_ep ?_ ?_; (focus kernel_rfl); (try simp -implicitDefEqProofs [-loopQ_n, w3, hi, hj, hv, Rot.v])))))
    refine callG_intro (hg1.weaken ?_)
    rintro _ _ ⟨rfl, rfl⟩
    ((try simp -implicitDefEqProofs [-loopQ_n]) <;> (repeat' (first | (refine condD_dec ?_ ?_ <;> (intro hc; (try simp -implicitDefEqProofs [-loopQ_n, hc]))) | (refine guardD_dec ?_ ?_ <;> (intro hc; (try simp -implicitDefEqProofs [-loopQ_n, hc]))) | (refine condD_intro ?_ ?_ <;> (intro hd; have hc := hd; (try simp at hc) <;> (try simp -implicitDefEqProofs [-loopQ_n, hd, hc]))) | (refine guardD_intro ?_ ?_ <;> (intro hd; have hc := hd; (try simp at hc) <;> (try simp -implicitDefEqProofs [-loopQ_n, hd, hc]))) | (refine ldD_ep ?_ ?_; (focus kernel_rfl); (try simp -implicitDefEqProofs [-loopQ_n])))))
    exact endG_n (.tup []) rfl ⟨rfl, rfl⟩
  by_cases he2 : j < i
  · have hg2 := hg2 he2
    have w6 := w6 (by omega) (by omega)
    generalize hij : i - j = ij at *
    have he3 : ¬ (i : Int) = j := by omega
    ((try simp -implicitDefEqProofs [-loopQ_n, w3, w6, hi, hj, hv, he, he2, he3, Rot.v]) <;> (repeat' (first | (refine condD_dec ?_ ?_ <;> (intro hc; (try simp -implicitDefEqProofs [-loopQ_n, hc, w3, w6, hi, hj, hv, he, he2, he3, Rot.v]))) | (refine guardD_dec ?_ ?_ <;> (intro hc; (try simp -implicitDefEqProofs [-loopQ_n, hc, w3, w6, hi, hj, hv, he, he2, he3, Rot.v]))) | (refine condD_intro ?_ ?_ <;> (intro hd; have hc := hd; (try simp at hc) <;> (try simp -implicitDefEqProofs [-loopQ_n, hd, hc, w3, w6, hi, hj, hv, he, he2, he3, Rot.v]))) | (refine guardD_intro ?_ ?_ <;> (intro hd; have hc := hd; (try simp at hc) <;> (try simp -implicitDefEqProofs [-loopQ_n, hd, hc, w3, w6, hi, hj, hv, he, he2, he3, Rot.v]))) | (refine ldD_ep ?_ ?_; (focus kernel_rfl); (try simp -implicitDefEqProofs [-loopQ_n, w3, w6, hi, hj, hv, he, he2, he3, Rot.v])))))
    refine callG_intro (hg2.weaken ?_)
    rintro _ _ ⟨rfl, rfl⟩
    have hk2 : (X'.drop j).length = ij := by rw [List.length_drop]; omega
    have hk3 : (X'.take j).length = j := by rw [List.length_take]; omega
    ((try simp -implicitDefEqProofs [-loopQ_n, w6]) <;> (repeat' (first | (refine condD_dec ?_ ?_ <;> (intro hc; (try simp -implicitDefEqProofs [-loopQ_n, hc, w6]))) | (refine guardD_dec ?_ ?_ <;> (intro hc; (try simp -implicitDefEqProofs [-loopQ_n, hc, w6]))) | (refine condD_intro ?_ ?_ <;> (intro hd; have hc := hd; (try simp at hc) <;> (try simp -implicitDefEqProofs [-loopQ_n, hd, hc, w6]))) | (refine guardD_intro ?_ ?_ <;> (intro hd; have hc := hd; (try simp at hc) <;> (try simp -implicitDefEqProofs [-loopQ_n, hd, hc, w6]))) | (refine ldD_ep ?_ ?_; (focus kernel_rfl); (try simp -implicitDefEqProofs [-loopQ_n, w6])))))
    refine loop_next ⟨A' ++ Y', X'.drop j, X'.take j, B'⟩ ⟨?_, ?_, by simp only; omega, by simp only; omega, ?_⟩ (by simp only; omega) (weak_ofL 1 0 rfl (by simp) rfl ?_ ?_)
    · rw [← hN']; dsimp only [Rot.v]; simp only [List.length_append, hk2, hk3]; omega
    · simp only [List.length_append]; omega
    · simp only; rw [← List.append_assoc (X'.take j), List.take_append_drop, List.append_assoc]; exact hR
    · simp [hk2, hk3, refs]
    · simp [evS_refsR, Rot.v]
  · have hg3 := hg3 (by omega)
    have w7 := w7 (by omega) (by omega)
    generalize hij : j - i = ij at *
    have he3 : ¬ (i : Int) = j := by omega
    ((try simp -implicitDefEqProofs [-loopQ_n, w3, w4, w5, w7, hi, hj, hv, he, he2, he3, Rot.v]) <;> (repeat' (first | (refine condD_dec ?_ ?_ <;> (intro hc; (try simp -implicitDefEqProofs [-loopQ_n, hc, w3, w4, w5, w7, hi, hj, hv, he, he2, he3, Rot.v]))) | (refine guardD_dec ?_ ?_ <;> (intro hc; (try simp -implicitDefEqProofs [-loopQ_n, hc, w3, w4, w5, w7, hi, hj, hv, he, he2, he3, Rot.v]))) | (refine condD_intro ?_ ?_ <;> (intro hd; have hc := hd; (try simp at hc) <;> (try simp -implicitDefEqProofs [-loopQ_n, hd, hc, w3, w4, w5, w7, hi, hj, hv, he, he2, he3, Rot.v]))) | (refine guardD_intro ?_ ?_ <;> (intro hd; have hc := hd; (try simp at hc) <;> (try simp -implicitDefEqProofs [-loopQ_n, hd, hc, w3, w4, w5, w7, hi, hj, hv, he, he2, he3, Rot.v]))) | (refine ldD_ep ?_ ?_; (focus kernel_rfl); (try simp -implicitDefEqProofs [-loopQ_n, w3, w4, w5, w7, hi, hj, hv, he, he2, he3, Rot.v])))))
    refine callG_intro (hg3.weaken ?_)
    rintro _ _ ⟨rfl, rfl⟩
    have hk2 : (Y'.drop ij).length = i := by rw [List.length_drop]; omega
    have hk3 : (Y'.take ij).length = ij := by rw [List.length_take]; omega
    ((try simp -implicitDefEqProofs [-loopQ_n, w7]) <;> (repeat' (first | (refine condD_dec ?_ ?_ <;> (intro hc; (try simp -implicitDefEqProofs [-loopQ_n, hc, w7]))) | (refine guardD_dec ?_ ?_ <;> (intro hc; (try simp -implicitDefEqProofs [-loopQ_n, hc, w7]))) | (refine condD_intro ?_ ?_ <;> (intro hd; have hc := hd; (try simp at hc) <;> (try simp -implicitDefEqProofs [-loopQ_n, hd, hc, w7]))) | (refine guardD_intro ?_ ?_ <;> (intro hd; have hc := hd; (try simp at hc) <;> (try simp -implicitDefEqProofs [-loopQ_n, hd, hc, w7]))) | (refine ldD_ep ?_ ?_; (focus kernel_rfl); (try simp -implicitDefEqProofs [-loopQ_n, w7])))))
    refine loop_next ⟨A', Y'.drop ij, Y'.take ij, X' ++ B'⟩ ⟨?_, by simp only; omega, by simp only; omega, by simp only; omega, ?_⟩ (by simp only; omega) (weak_ofL 1 0 rfl (by simp) rfl ?_ ?_)
    · rw [← hN']; dsimp only [Rot.v]; simp only [List.length_append, hk2, hk3]; omega
    · simp only; rw [← List.append_assoc (Y'.take ij), List.take_append_drop]; exact hR
    · simp [hk2, hk3, refs]
    · simp [evS_refsR, Rot.v]
end Go.Proofs.Ytnldjmokemgaoaa

/- Stable sorting of events, second part: insertion. -/
namespace Go.Proofs.Ytnldjmokemgaoaa
set_option linter.unusedSimpArgs false
set_option linter.unusedVariables false
set_option linter.unnecessarySimpa false
set_option linter.unusedSectionVars false
open Go.RowKit
variable [Glob]
open Stab
set_option maxRecDepth 100000
def ltC (cm : EvS → EvS → Int) (x y : EvS) : Bool := decide (cm x y < 0)
set_option maxHeartbeats 8000000 in
theorem ins_G (g : Nat) (cm : EvS → EvS → Int) (hcmp : ∀ x y : EvS, Pure Try.prog g [.agg (evS x), .agg (evS y)] (.int .i64 (cm x y))) (hs : Swo (ltC cm))
    (A X B : List EvS) (N a b : Nat) (hN : (A ++ (X ++ B)).length = N) (ha : A.length = a) (hb : a + X.length = b) (hl : N ≤ 2000) :
    CallG Try.prog 106 [.os 0 N, .int .i64 a, .int .i64 b, .fn g []] [rowE (A ++ (X ++ B))]
      fun r H => r = .tup [] ∧ ∃ X' : List EvS, H = [rowE (A ++ (X' ++ B))] ∧ X'.length = X.length ∧ Srtd (ltC cm) X' ∧ Stb (ltC cm) X X' := by
  have hT : a + X.length + B.length = N := by simp only [List.length_append] at hN; omega
  have w0 := wi_one (a := a) (by omega)
  refine inl_G mixed Try.func106 rfl (by kernel_rfl) (of_decide_eq_true rfl) (by kernel_rfl) (vc_run ?_)
  ((try simp -implicitDefEqProofs [-loopQ_n, w0]) <;> (repeat' (first | (refine condD_dec ?_ ?_ <;> (intro hc; (try simp -implicitDefEqProofs [-loopQ_n, hc, w0]))) | (refine guardD_dec ?_ ?_ <;> (intro hc; (try simp -implicitDefEqProofs [-loopQ_n, hc, w0]))) | (refine condD_intro ?_ ?_ <;> (intro hd; have hc := hd; (try simp at hc) <;> (try simp -implicitDefEqProofs [-loopQ_n, hd, hc, w0]))) | (refine guardD_intro ?_ ?_ <;> (intro hd; have hc := hd; (try simp at hc) <;> (try simp -implicitDefEqProofs [-loopQ_n, hd, hc, w0]))) | (refine ldD_ep ?_ ?_; (focus kernel_rfl); (try simp -implicitDefEqProofs [-loopQ_n, w0])))))
  refine loop_intro (σ := Nat × List EvS × List EvS) (fun x => ⟨[(0, .os 0 N), (1, .int .i64 a), (2, .int .i64 b), (3, .fn g []), (8, .int .i64 x.1)], [rowE (A ++ (x.2.1 ++ (x.2.2 ++ B)))]⟩)
    (fun x => a + 1 ≤ x.1 ∧ x.1 ≤ b + 1 ∧ x.2.1.length = min (x.1 - a) X.length ∧ Srtd (ltC cm) x.2.1 ∧ Stb (ltC cm) X (x.2.1 ++ x.2.2)) (fun x => b + 1 - x.1) (a + 1, X.take 1, X.drop 1) ⟨by simp, by simp only; omega, by simp, ?_, ?_⟩ ?_ ?_
  · simp only
    match X with
    | [] => exact srtd_nil
    | x :: X => exact srtd_one x
  · simp only [List.take_append_drop]; exact Stb.refl X
  · have e : X.take 1 ++ (X.drop 1 ++ B) = X ++ B := by rw [← List.append_assoc, List.take_append_drop]
    simp only [e]
    refine weak_ofL 1 0 rfl (by simp) rfl ?_ ?_ <;> simp [evS_refsR, refs]
  rintro ⟨i, P, R⟩ ⟨hi1, hi2, hP, hS, hX⟩
  simp only at hi1 hi2 hP hS hX
  have hlen := hX.1
  rw [List.length_append] at hlen
  by_cases h : i < b
  · have w1 := wi_one (a := i) (by omega)
    match R with
    | [] => simp at hlen; omega
    | x :: R =>
      ((try simp -implicitDefEqProofs [-loopQ_n, h]) <;> (repeat' (first | (refine condD_dec ?_ ?_ <;> (intro hc; (try simp -implicitDefEqProofs [-loopQ_n, hc, h]))) | (refine guardD_dec ?_ ?_ <;> (intro hc; (try simp -implicitDefEqProofs [-loopQ_n, hc, h]))) | (refine condD_intro ?_ ?_ <;> (intro hd; have hc := hd; (try simp at hc) <;> (try simp -implicitDefEqProofs [-loopQ_n, hd, hc, h]))) | (refine guardD_intro ?_ ?_ <;> (intro hd; have hc := hd; (try simp at hc) <;> (try simp -implicitDefEqProofs [-loopQ_n, hd, hc, h]))) | (refine ldD_ep ?_ ?_; (focus kernel_rfl); (try simp -implicitDefEqProofs [-loopQ_n, h])))))
      refine loop_intro (σ := List EvS × List EvS) (fun y => ⟨[(0, .os 0 N), (1, .int .i64 a), (2, .int .i64 b), (3, .fn g []), (8, .int .i64 i), (9, .int .i64 ((a + y.1.length : Nat) : Int))], [rowE (A ++ (y.1 ++ (x :: (y.2 ++ (R ++ B)))))]⟩)
        (fun y => y.1 ++ y.2 = P ∧ ∀ z ∈ y.2, ltC cm x z = true) (fun y => y.1.length) (P, []) ⟨by simp, by simp⟩ ?_ ?_
      · simp only [show a + P.length = i by omega, List.nil_append, List.cons_append]
        refine weak_ofL 1 0 rfl (by simp) rfl ?_ ?_ <;> simp [evS_refsR, refs]
      rintro ⟨P1, P2⟩ ⟨hPP, hz⟩
      simp only at hPP hz
      rcases List.eq_nil_or_concat P1 with rfl | ⟨U, y, rfl⟩
      · obtain ⟨w, hw⟩ : ∃ w, A ++ ([] ++ (x :: (P2 ++ (R ++ B)))) = w := ⟨_, rfl⟩
        rw [hw]
        have hnx := put_left hs (x := x) (P1 := []) (P2 := P2) (by rw [hPP]; exact hS) (by simp) hz
        rw [hPP] at hnx
        ((try simp -implicitDefEqProofs [-loopQ_n, w1]) <;> (repeat' (first | (refine condD_dec ?_ ?_ <;> (intro hc; (try simp -implicitDefEqProofs [-loopQ_n, hc, w1]))) | (refine guardD_dec ?_ ?_ <;> (intro hc; (try simp -implicitDefEqProofs [-loopQ_n, hc, w1]))) | (refine condD_intro ?_ ?_ <;> (intro hd; have hc := hd; (try simp at hc) <;> (try simp -implicitDefEqProofs [-loopQ_n, hd, hc, w1]))) | (refine guardD_intro ?_ ?_ <;> (intro hd; have hc := hd; (try simp at hc) <;> (try simp -implicitDefEqProofs [-loopQ_n, hd, hc, w1]))) | (refine ldD_ep ?_ ?_; (focus kernel_rfl); (try simp -implicitDefEqProofs [-loopQ_n, w1])))))
        refine loop_next (i + 1, x :: P2, R) ⟨by simp only; omega, by simp only; omega, ?_, hnx.1, ?_⟩ (by simp only; omega) (weak_ofL 1 0 rfl (by simp) rfl ?_ ?_)
        · rw [List.nil_append] at hPP; simp only [List.length_cons, hPP]; omega
        · refine hX.trans ?_
          have := hnx.2.app (Stb.refl (lt := ltC cm) R)
          simpa using this
        · simp [refs]
        · rw [← hw]; simp [evS_refsR]
      · obtain ⟨w, hw⟩ : ∃ w, A ++ ((U.concat y) ++ (x :: (P2 ++ (R ++ B)))) = w := ⟨_, rfl⟩
        have hw2 : (A ++ U) ++ (y :: (x :: (P2 ++ (R ++ B)))) = w := by rw [← hw]; simp
        have hk : (A ++ U).length = a + U.length := by rw [List.length_append, ha]
        have hg := two_get (U := A ++ U) (V := P2 ++ (R ++ B)) (x := y) (y := x) hk
        have ht := two_set' (U := A ++ U) (V := P2 ++ (R ++ B)) (x := y) (y := x) hk
        have hkk : a + (U.concat y).length = a + U.length + 1 := by simp; omega
        have hlk : (U.concat y).length = U.length + 1 := by simp
        have hlP : U.length + 1 + P2.length = P.length := by rw [← hPP]; simp; omega
        rw [hw2] at hg ht
        rw [hw, hkk]
        have hak : (a : Int) < ((a + U.length : Nat) : Int) + 1 := by omega
        generalize hkd : a + U.length = k at *
        obtain ⟨hk1, hx0, hx1⟩ := hg
        have hk0 : k < w.length := by omega
        rw [List.getElem?_eq_getElem hk0] at hx0
        rw [List.getElem?_eq_getElem hk1] at hx1
        have hx0 : w[k] = y := by simpa using hx0
        have hx1 : w[k + 1] = x := by simpa using hx1
        have hwN : w.length = N := by rw [← hw2]; simp only [List.length_append, List.length_cons] at hlen ⊢; omega
        have hk0N : k < N := by omega
        have hk1N : k + 1 < N := by omega
        have h0k : (0 : Int) ≤ (k : Int) + 1 := by omega
        have w5 : wrapI .i64 (k : Int) = k := wrap_in (by omega) (by omega)
        by_cases hlt : cm x y < 0
        · ((try simp -implicitDefEqProofs [-loopQ_n, w1, w5, hak, hwN, hk0N, hk1N, h0k, hk0, hk1, hx0, hx1, evS_len, evS_tk, evS_dr, evS_set, hlt]) <;> (repeat' (first | (refine condD_dec ?_ ?_ <;> (intro hc; (try simp -implicitDefEqProofs [-loopQ_n, hc, w1, w5, hak, hwN, hk0N, hk1N, h0k, hk0, hk1, hx0, hx1, evS_len, evS_tk, evS_dr, evS_set, hlt]))) | (refine guardD_dec ?_ ?_ <;> (intro hc; (try simp -implicitDefEqProofs [-loopQ_n, hc, w1, w5, hak, hwN, hk0N, hk1N, h0k, hk0, hk1, hx0, hx1, evS_len, evS_tk, evS_dr, evS_set, hlt]))) | (refine condD_intro ?_ ?_ <;> (intro hd; have hc := hd; (try simp at hc) <;> (try simp -implicitDefEqProofs [-loopQ_n, hd, hc, w1, w5, hak, hwN, hk0N, hk1N, h0k, hk0, hk1, hx0, hx1, evS_len, evS_tk, evS_dr, evS_set, hlt]))) | (refine guardD_intro ?_ ?_ <;> (intro hd; have hc := hd; (try simp at hc) <;> (try simp -implicitDefEqProofs [-loopQ_n, hd, hc, w1, w5, hak, hwN, hk0N, hk1N, h0k, hk0, hk1, hx0, hx1, evS_len, evS_tk, evS_dr, evS_set, hlt]))) | (refine ldD_ep ?_ ?_; (focus kernel_rfl); (try simp -implicitDefEqProofs [-loopQ_n, w1, w5, hak, hwN, hk0N, hk1N, h0k, hk0, hk1, hx0, hx1, evS_len, evS_tk, evS_dr, evS_set, hlt])) | (refine callS_mk ?_; (try simp -implicitDefEqProofs [-loopQ_n, w1, w5, hak, hwN, hk0N, hk1N, h0k, hk0, hk1, hx0, hx1, evS_len, evS_tk, evS_dr, evS_set, hlt]); (first | refine callS_intro (hcmp x y) (.inl rfl) ?_); (try simp -implicitDefEqProofs [-loopQ_n, w1, w5, hak, hwN, hk0N, hk1N, h0k, hk0, hk1, hx0, hx1, evS_len, evS_tk, evS_dr, evS_set, hlt])))))
          refine loop_next (U, y :: P2) ⟨by rw [← hPP]; simp, fun z hz' => ?_⟩ (by simp) (weak_ofL 1 0 rfl (by simp) rfl ?_ ?_)
          · rcases List.mem_cons.1 hz' with rfl | hz'
            · simpa [ltC] using hlt
            · exact hz z hz'
          · simp [refs, ← hkd]
          · rw [ht]; simp [evS_refsR]
        · ((try simp -implicitDefEqProofs [-loopQ_n, w1, w5, hak, hwN, hk0N, hk1N, h0k, hk0, hk1, hx0, hx1, evS_len, evS_tk, evS_dr, evS_set, hlt]) <;> (repeat' (first | (refine condD_dec ?_ ?_ <;> (intro hc; (try simp -implicitDefEqProofs [-loopQ_n, hc, w1, w5, hak, hwN, hk0N, hk1N, h0k, hk0, hk1, hx0, hx1, evS_len, evS_tk, evS_dr, evS_set, hlt]))) | (refine guardD_dec ?_ ?_ <;> (intro hc; (try simp -implicitDefEqProofs [-loopQ_n, hc, w1, w5, hak, hwN, hk0N, hk1N, h0k, hk0, hk1, hx0, hx1, evS_len, evS_tk, evS_dr, evS_set, hlt]))) | (refine condD_intro ?_ ?_ <;> (intro hd; have hc := hd; (try simp at hc) <;> (try simp -implicitDefEqProofs [-loopQ_n, hd, hc, w1, w5, hak, hwN, hk0N, hk1N, h0k, hk0, hk1, hx0, hx1, evS_len, evS_tk, evS_dr, evS_set, hlt]))) | (refine guardD_intro ?_ ?_ <;> (intro hd; have hc := hd; (try simp at hc) <;> (try simp -implicitDefEqProofs [-loopQ_n, hd, hc, w1, w5, hak, hwN, hk0N, hk1N, h0k, hk0, hk1, hx0, hx1, evS_len, evS_tk, evS_dr, evS_set, hlt]))) | (refine ldD_ep ?_ ?_; (focus kernel_rfl); (try simp -implicitDefEqProofs [-loopQ_n, w1, w5, hak, hwN, hk0N, hk1N, h0k, hk0, hk1, hx0, hx1, evS_len, evS_tk, evS_dr, evS_set, hlt])) | (refine callS_mk ?_; (try simp -implicitDefEqProofs [-loopQ_n, w1, w5, hak, hwN, hk0N, hk1N, h0k, hk0, hk1, hx0, hx1, evS_len, evS_tk, evS_dr, evS_set, hlt]); (first | refine callS_intro (hcmp x y) (.inl rfl) ?_); (try simp -implicitDefEqProofs [-loopQ_n, w1, w5, hak, hwN, hk0N, hk1N, h0k, hk0, hk1, hx0, hx1, evS_len, evS_tk, evS_dr, evS_set, hlt])))))
          have hy : ltC cm x y = false := by simpa [ltC] using hlt
          have hall : ∀ z ∈ U.concat y, ltC cm x z = false := fun z hz' => by
            rw [List.concat_eq_append, List.mem_append, List.mem_singleton] at hz'
            rcases hz' with hz' | rfl
            · rw [← hPP, List.concat_eq_append, srtd_app, srtd_app] at hS
              exact hs.ge (hS.1.2.2 z hz' y (by simp)) hy
            · exact hy
          have hnx := put_left hs (x := x) (P1 := U.concat y) (P2 := P2) (by rw [hPP]; exact hS) hall hz
          rw [hPP] at hnx
          refine loop_next (i + 1, U.concat y ++ x :: P2, R) ⟨by simp only; omega, by simp only; omega, ?_, hnx.1, ?_⟩ (by simp only; omega) (weak_ofL 1 0 rfl (by simp) rfl ?_ ?_)
          · simp only [List.length_append, List.length_cons, hlk]; omega
          · refine hX.trans ?_
            have := hnx.2.app (Stb.refl (lt := ltC cm) R)
            simpa using this
          · simp [refs]
          · rw [← hw]; simp [evS_refsR]
  · have hR : R = [] := List.eq_nil_of_length_eq_zero (by omega)
    subst hR
    ((try simp -implicitDefEqProofs [-loopQ_n, h]) <;> (repeat' (first | (refine condD_dec ?_ ?_ <;> (intro hc; (try simp -implicitDefEqProofs [-loopQ_n, hc, h]))) | (refine guardD_dec ?_ ?_ <;> (intro hc; (try simp -implicitDefEqProofs [-loopQ_n, hc, h]))) | (refine condD_intro ?_ ?_ <;> (intro hd; have hc := hd; (try simp at hc) <;> (try simp -implicitDefEqProofs [-loopQ_n, hd, hc, h]))) | (refine guardD_intro ?_ ?_ <;> (intro hd; have hc := hd; (try simp at hc) <;> (try simp -implicitDefEqProofs [-loopQ_n, hd, hc, h]))) | (refine ldD_ep ?_ ?_; (focus kernel_rfl); (try simp -implicitDefEqProofs [-loopQ_n, h])))))
    exact endG_n (.tup []) rfl ⟨rfl, P, by simp, by omega, hS, by simpa using hX⟩
end Go.Proofs.Ytnldjmokemgaoaa

/- Stable sorting of events, third part: merging in place. -/
namespace Go.Proofs.Ytnldjmokemgaoaa
set_option linter.unusedSimpArgs false
set_option linter.unusedVariables false
set_option linter.unnecessarySimpa false
set_option linter.unusedSectionVars false
open Go.RowKit
variable [Glob]
open Stab
set_option maxRecDepth 100000
theorem wu_in {n : Int} (h1 : 0 ≤ n) (h2 : n ≤ 9223372036854775807) : wrapI .u64 n = n := by rw [wrapI_eq]; exact IntWalk.u64_in _ ⟨h1, by omega⟩
theorem half_nat (s : Nat) : (s : Int) / 2 = ((s / 2 : Nat) : Int) := by omega
/-- What a call of symMerge does. -/
def SymC (g : Nat) (cm : EvS → EvS → Int) (A P Q B : List EvS) : Prop :=
  CallG Try.prog 107 [.os 0 (A ++ (P ++ (Q ++ B))).length, .int .i64 A.length, .int .i64 (A.length + P.length : Nat), .int .i64 (A.length + P.length + Q.length : Nat), .fn g []] [rowE (A ++ (P ++ (Q ++ B)))]
      fun r H => r = .tup [] ∧ ∃ R : List EvS, H = [rowE (A ++ (R ++ B))] ∧ Srtd (ltC cm) R ∧ Stb (ltC cm) (P ++ Q) R
set_option maxHeartbeats 8000000 in
theorem sym_one (g : Nat) (cm : EvS → EvS → Int) (hcmp : ∀ x y : EvS, Pure Try.prog g [.agg (evS x), .agg (evS y)] (.int .i64 (cm x y))) (hs : Swo (ltC cm))
    (A Q B : List EvS) (x : EvS) (hQ : Srtd (ltC cm) Q) (hl : (A ++ ([x] ++ (Q ++ B))).length ≤ 2000) : SymC g cm A [x] Q B := by
  unfold SymC
  obtain ⟨N, hN⟩ : ∃ N, (A ++ ([x] ++ (Q ++ B))).length = N := ⟨_, rfl⟩
  obtain ⟨a, ha⟩ : ∃ a, A.length = a := ⟨_, rfl⟩
  obtain ⟨m, hm⟩ : ∃ m, a + [x].length = m := ⟨_, rfl⟩
  obtain ⟨b, hb⟩ : ∃ b, m + Q.length = b := ⟨_, rfl⟩
  rw [hN] at hl ⊢
  rw [ha, hm, hb]
  have hT : a + 1 + Q.length + B.length = N := by rw [← hN, ← ha]; simp; omega
  have hma : m = a + 1 := by rw [← hm]; simp
  have w0 : wrapI .i64 ((m : Int) - a) = 1 := by rw [wrap_in (by omega) (by omega)]; omega
  obtain ⟨w, hw⟩ : ∃ w, A ++ ([x] ++ (Q ++ B)) = w := ⟨_, rfl⟩
  have hwN : w.length = N := by rw [← hw]; exact hN
  have hwa : w[a]? = some x := by rw [← hw, List.getElem?_append_right (by omega), ha]; simp
  have hwQ : ∀ t, t < Q.length → w[m + t]? = Q[t]? := fun t ht => by
    rw [← hw, List.getElem?_append_right (by omega), List.getElem?_append_right (by simp; omega), List.getElem?_append_left (by simp; omega)]
    congr 1; simp; omega
  rw [hw]
  refine inl_G mixed Try.func107 rfl (by kernel_rfl) (of_decide_eq_true rfl) (by kernel_rfl) (vc_run ?_)
  ((try simp -implicitDefEqProofs [-loopQ_n, w0]) <;> (repeat' (first | (refine condD_dec ?_ ?_ <;> (intro hc; (try simp -implicitDefEqProofs [-loopQ_n, hc, w0]))) | (refine guardD_dec ?_ ?_ <;> (intro hc; (try simp -implicitDefEqProofs [-loopQ_n, hc, w0]))) | (refine condD_intro ?_ ?_ <;> (intro hd; have hc := hd; (try simp at hc) <;> (try simp -implicitDefEqProofs [-loopQ_n, hd, hc, w0]))) | (refine guardD_intro ?_ ?_ <;> (intro hd; have hc := hd; (try simp at hc) <;> (try simp -implicitDefEqProofs [-loopQ_n, hd, hc, w0]))) | (refine ldD_ep ?_ ?_; (focus kernel_rfl); (try simp -implicitDefEqProofs [-loopQ_n, w0])))))
  refine loop_intro (σ := Nat × Nat) (fun y => ⟨[(0, .os 0 N), (1, .int .i64 a), (4, .fn g []), (10, .int .i64 y.1), (11, .int .i64 y.2)], [rowE w]⟩)
    (fun y => m ≤ y.1 ∧ y.1 ≤ y.2 ∧ y.2 ≤ b ∧ (y.1 - m = 0 ∨ ∃ z, Q[y.1 - m - 1]? = some z ∧ ltC cm z x = true) ∧ (y.2 - m = Q.length ∨ ∃ z, Q[y.2 - m]? = some z ∧ ltC cm z x = false)) (fun y => y.2 - y.1) (m, b) ⟨by simp, by simp only; omega, by simp, .inl (by simp), .inl (by simp only; omega)⟩ ?_ ?_
  · refine weak_ofL 1 0 rfl (by simp) rfl ?_ ?_ <;> simp [evS_refsR, refs]
  rintro ⟨i, j⟩ ⟨hi, hij, hj, c1, c2⟩
  simp only at hi hij hj c1 c2
  by_cases h : i < j
  · obtain ⟨s, hsum⟩ : ∃ s, i + j = s := ⟨_, rfl⟩
    obtain ⟨k, hk⟩ : ∃ k, s / 2 = k := ⟨_, rfl⟩
    have w1 := wi_add (a := i) (b := j) (by omega)
    rw [hsum] at w1
    have w2 : wrapI .u64 (s : Int) = s := wu_in (by omega) (by omega)
    have w3 : wrapI .i64 (k : Int) = k := wrap_in (by omega) (by omega)
    have w4 := wi_one (a := k) (by omega)
    have hh := half_nat s
    rw [hk] at hh
    have hkN : k < N := by omega
    have haN : a < N := by omega
    have hkw : k < w.length := by omega
    have haw : a < w.length := by omega
    have hxa : w[a] = x := by rw [List.getElem?_eq_getElem haw] at hwa; simpa using hwa
    obtain ⟨y, hy⟩ : ∃ y, w[k] = y := ⟨_, rfl⟩
    have hyQ : Q[k - m]? = some y := by rw [← hwQ (k - m) (by omega), show m + (k - m) = k by omega, List.getElem?_eq_getElem hkw, hy]
    by_cases hlt : cm y x < 0
    · ((try simp -implicitDefEqProofs [-loopQ_n, h, w1, w2, w3, w4, hh, hwN, hkN, haN, hkw, haw, hxa, hy, evS_len, evS_tk, hlt]) <;> (repeat' (first | (refine condD_dec ?_ ?_ <;> (intro hc; (try simp -implicitDefEqProofs [-loopQ_n, hc, h, w1, w2, w3, w4, hh, hwN, hkN, haN, hkw, haw, hxa, hy, evS_len, evS_tk, hlt]))) | (refine guardD_dec ?_ ?_ <;> (intro hc; (try simp -implicitDefEqProofs [-loopQ_n, hc, h, w1, w2, w3, w4, hh, hwN, hkN, haN, hkw, haw, hxa, hy, evS_len, evS_tk, hlt]))) | (refine condD_intro ?_ ?_ <;> (intro hd; have hc := hd; (try simp at hc) <;> (try simp -implicitDefEqProofs [-loopQ_n, hd, hc, h, w1, w2, w3, w4, hh, hwN, hkN, haN, hkw, haw, hxa, hy, evS_len, evS_tk, hlt]))) | (refine guardD_intro ?_ ?_ <;> (intro hd; have hc := hd; (try simp at hc) <;> (try simp -implicitDefEqProofs [-loopQ_n, hd, hc, h, w1, w2, w3, w4, hh, hwN, hkN, haN, hkw, haw, hxa, hy, evS_len, evS_tk, hlt]))) | (refine ldD_ep ?_ ?_; (focus kernel_rfl); (try simp -implicitDefEqProofs [-loopQ_n, h, w1, w2, w3, w4, hh, hwN, hkN, haN, hkw, haw, hxa, hy, evS_len, evS_tk, hlt])) | (refine callS_mk ?_; (try simp -implicitDefEqProofs [-loopQ_n, h, w1, w2, w3, w4, hh, hwN, hkN, haN, hkw, haw, hxa, hy, evS_len, evS_tk, hlt]); (first | refine callS_intro (hcmp y x) (.inl rfl) ?_); (try simp -implicitDefEqProofs [-loopQ_n, h, w1, w2, w3, w4, hh, hwN, hkN, haN, hkw, haw, hxa, hy, evS_len, evS_tk, hlt])))))
      refine loop_next (k + 1, j) ⟨by simp only; omega, by simp only; omega, hj, .inr ⟨y, ?_, by simpa [ltC] using hlt⟩, c2⟩ (by simp only; omega) (weak_ofL 1 0 rfl (by simp) rfl ?_ ?_)
      · rw [show (k + 1, j).1 - m - 1 = k - m by simp only; omega]; exact hyQ
      · simp [refs]
      · simp [evS_refsR]
    · ((try simp -implicitDefEqProofs [-loopQ_n, h, w1, w2, w3, w4, hh, hwN, hkN, haN, hkw, haw, hxa, hy, evS_len, evS_tk, hlt]) <;> (repeat' (first | (refine condD_dec ?_ ?_ <;> (intro hc; (try simp -implicitDefEqProofs [-loopQ_n, hc, h, w1, w2, w3, w4, hh, hwN, hkN, haN, hkw, haw, hxa, hy, evS_len, evS_tk, hlt]))) | (refine guardD_dec ?_ ?_ <;> (intro hc; (try simp -implicitDefEqProofs [-loopQ_n, hc, h, w1, w2, w3, w4, hh, hwN, hkN, haN, hkw, haw, hxa, hy, evS_len, evS_tk, hlt]))) | (refine condD_intro ?_ ?_ <;> (intro hd; have hc := hd; (try simp at hc) <;> (try simp -implicitDefEqProofs [-loopQ_n, hd, hc, h, w1, w2, w3, w4, hh, hwN, hkN, haN, hkw, haw, hxa, hy, evS_len, evS_tk, hlt]))) | (refine guardD_intro ?_ ?_ <;> (intro hd; have hc := hd; (try simp at hc) <;> (try simp -implicitDefEqProofs [-loopQ_n, hd, hc, h, w1, w2, w3, w4, hh, hwN, hkN, haN, hkw, haw, hxa, hy, evS_len, evS_tk, hlt]))) | (refine ldD_ep ?_ ?_; (focus kernel_rfl); (try simp -implicitDefEqProofs [-loopQ_n, h, w1, w2, w3, w4, hh, hwN, hkN, haN, hkw, haw, hxa, hy, evS_len, evS_tk, hlt])) | (refine callS_mk ?_; (try simp -implicitDefEqProofs [-loopQ_n, h, w1, w2, w3, w4, hh, hwN, hkN, haN, hkw, haw, hxa, hy, evS_len, evS_tk, hlt]); (first | refine callS_intro (hcmp y x) (.inl rfl) ?_); (try simp -implicitDefEqProofs [-loopQ_n, h, w1, w2, w3, w4, hh, hwN, hkN, haN, hkw, haw, hxa, hy, evS_len, evS_tk, hlt])))))
      refine loop_next (i, k) ⟨hi, by simp only; omega, by simp only; omega, c1, .inr ⟨y, hyQ, by simpa [ltC] using hlt⟩⟩ (by simp only; omega) (weak_ofL 1 0 rfl (by simp) rfl ?_ ?_)
      · simp [refs]
      · simp [evS_refsR]
  · have hij : j = i := by omega
    subst hij
    obtain ⟨hc1, hc2⟩ := cut_right hs hQ (x := x) (k := j - m) c1 c2
    have hsp := List.take_append_drop (j - m) Q
    have hlq : (Q.take (j - m)).length = j - m := by rw [List.length_take]; omega
    rw [← hsp] at hQ
    have hput := put_right hs hQ hc1 hc2
    rw [hsp] at hput
    generalize Q.take (j - m) = Q1 at *
    generalize Q.drop (j - m) = Q2 at *
    obtain ⟨e, he⟩ : ∃ e, j - 1 = e := ⟨_, rfl⟩
    have w5 := wi_sub (a := j) (b := 1) (by omega) (by omega)
    rw [he] at w5
    have w5 : wrapI .i64 ((j : Int) - 1) = e := w5
    ((try simp -implicitDefEqProofs [-loopQ_n, h]) <;> (repeat' (first | (refine condD_dec ?_ ?_ <;> (intro hc; (try simp -implicitDefEqProofs [-loopQ_n, hc, h]))) | (refine guardD_dec ?_ ?_ <;> (intro hc; (try simp -implicitDefEqProofs [-loopQ_n, hc, h]))) | (refine condD_intro ?_ ?_ <;> (intro hd; have hc := hd; (try simp at hc) <;> (try simp -implicitDefEqProofs [-loopQ_n, hd, hc, h]))) | (refine guardD_intro ?_ ?_ <;> (intro hd; have hc := hd; (try simp at hc) <;> (try simp -implicitDefEqProofs [-loopQ_n, hd, hc, h]))) | (refine ldD_ep ?_ ?_; (focus kernel_rfl); (try simp -implicitDefEqProofs [-loopQ_n, h])))))
    refine loop_intro (σ := List EvS × List EvS) (fun y => ⟨[(0, .os 0 N), (10, .int .i64 j), (13, .int .i64 (a + y.1.length : Nat))], [rowE (A ++ (y.1 ++ (x :: (y.2 ++ (Q2 ++ B)))))]⟩)
      (fun y => y.1 ++ y.2 = Q1) (fun y => y.2.length) ([], Q1) rfl ?_ ?_
    · have e : A ++ ([] ++ (x :: (Q1 ++ (Q2 ++ B)))) = w := by rw [← hw, ← hsp]; simp
      simp only [e]
      refine weak_ofL 1 0 rfl (by simp) rfl ?_ ?_ <;> simp [evS_refsR, refs]
    rintro ⟨U, V⟩ hUV
    simp only at hUV
    have hlUV : U.length + V.length = Q1.length := by rw [← hUV]; simp
    match V, hUV, hlUV with
    | [], hUV, hlUV =>
      have hk : a + U.length = e := by simp at hlUV; omega
      have hf : ¬ (e : Int) < e := by omega
      obtain ⟨w', hw'⟩ : ∃ w', A ++ (U ++ (x :: ([] ++ (Q2 ++ B)))) = w' := ⟨_, rfl⟩
      rw [hw', hk]
      ((try simp -implicitDefEqProofs [-loopQ_n, w5, hf]) <;> (repeat' (first | (refine condD_dec ?_ ?_ <;> (intro hc; (try simp -implicitDefEqProofs [-loopQ_n, hc, w5, hf]))) | (refine guardD_dec ?_ ?_ <;> (intro hc; (try simp -implicitDefEqProofs [-loopQ_n, hc, w5, hf]))) | (refine condD_intro ?_ ?_ <;> (intro hd; have hc := hd; (try simp at hc) <;> (try simp -implicitDefEqProofs [-loopQ_n, hd, hc, w5, hf]))) | (refine guardD_intro ?_ ?_ <;> (intro hd; have hc := hd; (try simp at hc) <;> (try simp -implicitDefEqProofs [-loopQ_n, hd, hc, w5, hf]))) | (refine ldD_ep ?_ ?_; (focus kernel_rfl); (try simp -implicitDefEqProofs [-loopQ_n, w5, hf])))))
      refine endG_r (.tup []) rfl ⟨rfl, Q1 ++ x :: Q2, ?_, hput.1, hput.2⟩
      rw [← hw', ← hUV]; simp
    | y :: V, hUV, hlUV =>
      obtain ⟨w', hw'⟩ : ∃ w', A ++ (U ++ (x :: (y :: V ++ (Q2 ++ B)))) = w' := ⟨_, rfl⟩
      have hw2 : (A ++ U) ++ (x :: (y :: (V ++ (Q2 ++ B)))) = w' := by rw [← hw']; simp
      have hk : (A ++ U).length = a + U.length := by rw [List.length_append, ha]
      have hg := two_get (U := A ++ U) (V := V ++ (Q2 ++ B)) (x := x) (y := y) hk
      have ht := two_set (U := A ++ U) (V := V ++ (Q2 ++ B)) (x := x) (y := y) hk
      have hwN' : w'.length = N := by rw [← hw2]; rw [← hsp] at hT; simp only [List.length_append, List.length_cons] at hlUV hT ⊢; omega
      rw [hw2] at hg ht
      rw [hw']
      simp only [List.length_cons] at hlUV
      generalize hkd : a + U.length = k at *
      obtain ⟨hk1, hx0, hx1⟩ := hg
      have hk0 : k < w'.length := by omega
      rw [List.getElem?_eq_getElem hk0] at hx0
      rw [List.getElem?_eq_getElem hk1] at hx1
      have hx0 : w'[k] = x := by simpa using hx0
      have hx1 : w'[k + 1] = y := by simpa using hx1
      have hk0N : k < N := by omega
      have hk1N : k + 1 < N := by omega
      have h0k : (0 : Int) ≤ (k : Int) + 1 := by omega
      have w6 := wi_one (a := k) (by omega)
      have hke : k < e := by omega
      ((try simp -implicitDefEqProofs [-loopQ_n, w5, w6, hke, hwN', hk0N, hk1N, h0k, hk0, hk1, hx0, hx1, evS_len, evS_tk, evS_dr, evS_set]) <;> (repeat' (first | (refine condD_dec ?_ ?_ <;> (intro hc; (try simp -implicitDefEqProofs [-loopQ_n, hc, w5, w6, hke, hwN', hk0N, hk1N, h0k, hk0, hk1, hx0, hx1, evS_len, evS_tk, evS_dr, evS_set]))) | (refine guardD_dec ?_ ?_ <;> (intro hc; (try simp -implicitDefEqProofs [-loopQ_n, hc, w5, w6, hke, hwN', hk0N, hk1N, h0k, hk0, hk1, hx0, hx1, evS_len, evS_tk, evS_dr, evS_set]))) | (refine condD_intro ?_ ?_ <;> (intro hd; have hc := hd; (try simp at hc) <;> (try simp -implicitDefEqProofs [-loopQ_n, hd, hc, w5, w6, hke, hwN', hk0N, hk1N, h0k, hk0, hk1, hx0, hx1, evS_len, evS_tk, evS_dr, evS_set]))) | (refine guardD_intro ?_ ?_ <;> (intro hd; have hc := hd; (try simp at hc) <;> (try simp -implicitDefEqProofs [-loopQ_n, hd, hc, w5, w6, hke, hwN', hk0N, hk1N, h0k, hk0, hk1, hx0, hx1, evS_len, evS_tk, evS_dr, evS_set]))) | (refine ldD_ep ?_ ?_; (focus kernel_rfl); (try simp -implicitDefEqProofs [-loopQ_n, w5, w6, hke, hwN', hk0N, hk1N, h0k, hk0, hk1, hx0, hx1, evS_len, evS_tk, evS_dr, evS_set])))))
      refine loop_next (U ++ [y], V) (by simp only; rw [← hUV]; simp) (by simp) (weak_ofL 1 0 rfl (by simp) rfl ?_ ?_)
      · simp [refs, ← hkd]; omega
      · rw [ht]; simp [evS_refsR]
set_option maxHeartbeats 8000000 in
theorem sym_last (g : Nat) (cm : EvS → EvS → Int) (hcmp : ∀ x y : EvS, Pure Try.prog g [.agg (evS x), .agg (evS y)] (.int .i64 (cm x y))) (hs : Swo (ltC cm))
    (A P B : List EvS) (x : EvS) (hP : Srtd (ltC cm) P) (hP1 : P.length ≠ 1) (hl : (A ++ (P ++ ([x] ++ B))).length ≤ 2000) : SymC g cm A P [x] B := by
  unfold SymC
  obtain ⟨N, hN⟩ : ∃ N, (A ++ (P ++ ([x] ++ B))).length = N := ⟨_, rfl⟩
  obtain ⟨a, ha⟩ : ∃ a, A.length = a := ⟨_, rfl⟩
  obtain ⟨d, hd⟩ : ∃ d, P.length = d := ⟨_, rfl⟩
  obtain ⟨m, hm⟩ : ∃ m, a + d = m := ⟨_, rfl⟩
  obtain ⟨b, hb⟩ : ∃ b, m + [x].length = b := ⟨_, rfl⟩
  rw [hN] at hl ⊢
  rw [ha, hd, hm, hb]
  rw [hd] at hP1
  have hT : a + d + 1 + B.length = N := by rw [← hN, ← ha, ← hd]; simp; omega
  have hmb : b = m + 1 := by rw [← hb]; simp
  have w0 := wi_sub (a := m) (b := a) (by omega) (by omega)
  rw [show m - a = d by omega] at w0
  have w00 : wrapI .i64 ((b : Int) - m) = 1 := by rw [wrap_in (by omega) (by omega)]; omega
  have hd1 : ¬ (d : Int) = 1 := by omega
  obtain ⟨w, hw⟩ : ∃ w, A ++ (P ++ ([x] ++ B)) = w := ⟨_, rfl⟩
  have hwN : w.length = N := by rw [← hw]; exact hN
  have hwm : w[m]? = some x := by rw [← hw, List.getElem?_append_right (by omega), List.getElem?_append_right (by omega), ha, hd, show m - a - d = 0 by omega]; simp
  have hwP : ∀ t, t < P.length → w[a + t]? = P[t]? := fun t ht => by
    rw [← hw, List.getElem?_append_right (by omega), List.getElem?_append_left (by omega)]
    congr 1; omega
  rw [hw]
  refine inl_G mixed Try.func107 rfl (by kernel_rfl) (of_decide_eq_true rfl) (by kernel_rfl) (vc_run ?_)
  ((try simp -implicitDefEqProofs [-loopQ_n, w0, w00, hd1, hP1]) <;> (repeat' (first | (refine condD_dec ?_ ?_ <;> (intro hc; (try simp -implicitDefEqProofs [-loopQ_n, hc, w0, w00, hd1, hP1]))) | (refine guardD_dec ?_ ?_ <;> (intro hc; (try simp -implicitDefEqProofs [-loopQ_n, hc, w0, w00, hd1, hP1]))) | (refine condD_intro ?_ ?_ <;> (intro hd; have hc := hd; (try simp at hc) <;> (try simp -implicitDefEqProofs [-loopQ_n, hd, hc, w0, w00, hd1, hP1]))) | (refine guardD_intro ?_ ?_ <;> (intro hd; have hc := hd; (try simp at hc) <;> (try simp -implicitDefEqProofs [-loopQ_n, hd, hc, w0, w00, hd1, hP1]))) | (refine ldD_ep ?_ ?_; (focus kernel_rfl); (try simp -implicitDefEqProofs [-loopQ_n, w0, w00, hd1, hP1])))))
  refine loop_intro (σ := Nat × Nat) (fun y => ⟨[(0, .os 0 N), (2, .int .i64 m), (4, .fn g []), (14, .int .i64 y.1), (15, .int .i64 y.2)], [rowE w]⟩)
    (fun y => a ≤ y.1 ∧ y.1 ≤ y.2 ∧ y.2 ≤ m ∧ (y.1 - a = 0 ∨ ∃ z, P[y.1 - a - 1]? = some z ∧ ltC cm x z = false) ∧ (y.2 - a = P.length ∨ ∃ z, P[y.2 - a]? = some z ∧ ltC cm x z = true)) (fun y => y.2 - y.1) (a, m) ⟨by simp, by simp only; omega, by simp, .inl (by simp), .inl (by simp only; omega)⟩ ?_ ?_
  · refine weak_ofL 1 0 rfl (by simp) rfl ?_ ?_ <;> simp [evS_refsR, refs]
  rintro ⟨i, j⟩ ⟨hi, hij, hj, c1, c2⟩
  simp only at hi hij hj c1 c2
  by_cases h : i < j
  · obtain ⟨s, hsum⟩ : ∃ s, i + j = s := ⟨_, rfl⟩
    obtain ⟨k, hk⟩ : ∃ k, s / 2 = k := ⟨_, rfl⟩
    have w1 := wi_add (a := i) (b := j) (by omega)
    rw [hsum] at w1
    have w2 : wrapI .u64 (s : Int) = s := wu_in (by omega) (by omega)
    have w3 : wrapI .i64 (k : Int) = k := wrap_in (by omega) (by omega)
    have w4 := wi_one (a := k) (by omega)
    have hh := half_nat s
    rw [hk] at hh
    have hkN : k < N := by omega
    have hmN : m < N := by omega
    have hkw : k < w.length := by omega
    have hmw : m < w.length := by omega
    have hxm : w[m] = x := by rw [List.getElem?_eq_getElem hmw] at hwm; simpa using hwm
    obtain ⟨y, hy⟩ : ∃ y, w[k] = y := ⟨_, rfl⟩
    have hyP : P[k - a]? = some y := by rw [← hwP (k - a) (by omega), show a + (k - a) = k by omega, List.getElem?_eq_getElem hkw, hy]
    by_cases hlt : cm x y < 0
    · ((try simp -implicitDefEqProofs [-loopQ_n, h, w1, w2, w3, w4, hh, hwN, hkN, hmN, hkw, hmw, hxm, hy, evS_len, evS_tk, hlt]) <;> (repeat' (first | (refine condD_dec ?_ ?_ <;> (intro hc; (try simp -implicitDefEqProofs [-loopQ_n, hc, h, w1, w2, w3, w4, hh, hwN, hkN, hmN, hkw, hmw, hxm, hy, evS_len, evS_tk, hlt]))) | (refine guardD_dec ?_ ?_ <;> (intro hc; (try simp -implicitDefEqProofs [-loopQ_n, hc, h, w1, w2, w3, w4, hh, hwN, hkN, hmN, hkw, hmw, hxm, hy, evS_len, evS_tk, hlt]))) | (refine condD_intro ?_ ?_ <;> (intro hd; have hc := hd; (try simp at hc) <;> (try simp -implicitDefEqProofs [-loopQ_n, hd, hc, h, w1, w2, w3, w4, hh, hwN, hkN, hmN, hkw, hmw, hxm, hy, evS_len, evS_tk, hlt]))) | (refine guardD_intro ?_ ?_ <;> (intro hd; have hc := hd; (try simp at hc) <;> (try simp -implicitDefEqProofs [-loopQ_n, hd, hc, h, w1, w2, w3, w4, hh, hwN, hkN, hmN, hkw, hmw, hxm, hy, evS_len, evS_tk, hlt]))) | (refine ldD_ep ?_ ?_; (focus kernel_rfl); (try simp -implicitDefEqProofs [-loopQ_n, h, w1, w2, w3, w4, hh, hwN, hkN, hmN, hkw, hmw, hxm, hy, evS_len, evS_tk, hlt])) | (refine callS_mk ?_; (try simp -implicitDefEqProofs [-loopQ_n, h, w1, w2, w3, w4, hh, hwN, hkN, hmN, hkw, hmw, hxm, hy, evS_len, evS_tk, hlt]); (first | refine callS_intro (hcmp x y) (.inl rfl) ?_); (try simp -implicitDefEqProofs [-loopQ_n, h, w1, w2, w3, w4, hh, hwN, hkN, hmN, hkw, hmw, hxm, hy, evS_len, evS_tk, hlt])))))
      refine loop_next (i, k) ⟨hi, by simp only; omega, by simp only; omega, c1, .inr ⟨y, hyP, by simpa [ltC] using hlt⟩⟩ (by simp only; omega) (weak_ofL 1 0 rfl (by simp) rfl ?_ ?_)
      · simp [refs]
      · simp [evS_refsR]
    · ((try simp -implicitDefEqProofs [-loopQ_n, h, w1, w2, w3, w4, hh, hwN, hkN, hmN, hkw, hmw, hxm, hy, evS_len, evS_tk, hlt]) <;> (repeat' (first | (refine condD_dec ?_ ?_ <;> (intro hc; (try simp -implicitDefEqProofs [-loopQ_n, hc, h, w1, w2, w3, w4, hh, hwN, hkN, hmN, hkw, hmw, hxm, hy, evS_len, evS_tk, hlt]))) | (refine guardD_dec ?_ ?_ <;> (intro hc; (try simp -implicitDefEqProofs [-loopQ_n, hc, h, w1, w2, w3, w4, hh, hwN, hkN, hmN, hkw, hmw, hxm, hy, evS_len, evS_tk, hlt]))) | (refine condD_intro ?_ ?_ <;> (intro hd; have hc := hd; (try simp at hc) <;> (try simp -implicitDefEqProofs [-loopQ_n, hd, hc, h, w1, w2, w3, w4, hh, hwN, hkN, hmN, hkw, hmw, hxm, hy, evS_len, evS_tk, hlt]))) | (refine guardD_intro ?_ ?_ <;> (intro hd; have hc := hd; (try simp at hc) <;> (try simp -implicitDefEqProofs [-loopQ_n, hd, hc, h, w1, w2, w3, w4, hh, hwN, hkN, hmN, hkw, hmw, hxm, hy, evS_len, evS_tk, hlt]))) | (refine ldD_ep ?_ ?_; (focus kernel_rfl); (try simp -implicitDefEqProofs [-loopQ_n, h, w1, w2, w3, w4, hh, hwN, hkN, hmN, hkw, hmw, hxm, hy, evS_len, evS_tk, hlt])) | (refine callS_mk ?_; (try simp -implicitDefEqProofs [-loopQ_n, h, w1, w2, w3, w4, hh, hwN, hkN, hmN, hkw, hmw, hxm, hy, evS_len, evS_tk, hlt]); (first | refine callS_intro (hcmp x y) (.inl rfl) ?_); (try simp -implicitDefEqProofs [-loopQ_n, h, w1, w2, w3, w4, hh, hwN, hkN, hmN, hkw, hmw, hxm, hy, evS_len, evS_tk, hlt])))))
      refine loop_next (k + 1, j) ⟨by simp only; omega, by simp only; omega, hj, .inr ⟨y, ?_, by simpa [ltC] using hlt⟩, c2⟩ (by simp only; omega) (weak_ofL 1 0 rfl (by simp) rfl ?_ ?_)
      · rw [show (k + 1, j).1 - a - 1 = k - a by simp only; omega]; exact hyP
      · simp [refs]
      · simp [evS_refsR]
  · have hij : j = i := by omega
    subst hij
    obtain ⟨hc1, hc2⟩ := cut_left hs hP (x := x) (k := j - a) c1 c2
    have hsp := List.take_append_drop (j - a) P
    have hlq : (P.take (j - a)).length = j - a := by rw [List.length_take]; omega
    rw [← hsp] at hP
    have hput := put_left hs hP hc1 hc2
    rw [hsp] at hput
    generalize P.take (j - a) = P1 at *
    generalize P.drop (j - a) = P2 at *
    have hl2 : P1.length + P2.length = d := by rw [← hd, ← hsp]; simp
    ((try simp -implicitDefEqProofs [-loopQ_n, h]) <;> (repeat' (first | (refine condD_dec ?_ ?_ <;> (intro hc; (try simp -implicitDefEqProofs [-loopQ_n, hc, h]))) | (refine guardD_dec ?_ ?_ <;> (intro hc; (try simp -implicitDefEqProofs [-loopQ_n, hc, h]))) | (refine condD_intro ?_ ?_ <;> (intro hd; have hc := hd; (try simp at hc) <;> (try simp -implicitDefEqProofs [-loopQ_n, hd, hc, h]))) | (refine guardD_intro ?_ ?_ <;> (intro hd; have hc := hd; (try simp at hc) <;> (try simp -implicitDefEqProofs [-loopQ_n, hd, hc, h]))) | (refine ldD_ep ?_ ?_; (focus kernel_rfl); (try simp -implicitDefEqProofs [-loopQ_n, h])))))
    refine loop_intro (σ := List EvS × List EvS) (fun y => ⟨[(0, .os 0 N), (14, .int .i64 j), (17, .int .i64 (j + y.1.length : Nat))], [rowE (A ++ (P1 ++ (y.1 ++ (x :: (y.2 ++ B)))))]⟩)
      (fun y => y.1 ++ y.2 = P2) (fun y => y.1.length) (P2, []) (by simp) ?_ ?_
    · have e : A ++ (P1 ++ (P2 ++ (x :: ([] ++ B)))) = w := by rw [← hw, ← hsp]; simp
      have e2 : j + P2.length = m := by omega
      simp only [e, e2]
      refine weak_ofL 1 0 rfl (by simp) rfl ?_ ?_ <;> simp [evS_refsR, refs]
    rintro ⟨U, V⟩ hUV
    simp only at hUV
    have hlUV : U.length + V.length = P2.length := by rw [← hUV]; simp
    rcases List.eq_nil_or_concat U with rfl | ⟨U, y, rfl⟩
    · have hf : ¬ (j : Int) < j := by omega
      obtain ⟨w', hw'⟩ : ∃ w', A ++ (P1 ++ ([] ++ (x :: (V ++ B)))) = w' := ⟨_, rfl⟩
      rw [hw']
      ((try simp -implicitDefEqProofs [-loopQ_n, hf]) <;> (repeat' (first | (refine condD_dec ?_ ?_ <;> (intro hc; (try simp -implicitDefEqProofs [-loopQ_n, hc, hf]))) | (refine guardD_dec ?_ ?_ <;> (intro hc; (try simp -implicitDefEqProofs [-loopQ_n, hc, hf]))) | (refine condD_intro ?_ ?_ <;> (intro hd; have hc := hd; (try simp at hc) <;> (try simp -implicitDefEqProofs [-loopQ_n, hd, hc, hf]))) | (refine guardD_intro ?_ ?_ <;> (intro hd; have hc := hd; (try simp at hc) <;> (try simp -implicitDefEqProofs [-loopQ_n, hd, hc, hf]))) | (refine ldD_ep ?_ ?_; (focus kernel_rfl); (try simp -implicitDefEqProofs [-loopQ_n, hf])))))
      refine endG_r (.tup []) rfl ⟨rfl, P1 ++ x :: P2, ?_, hput.1, hput.2⟩
      rw [← hw', ← hUV]; simp
    · obtain ⟨w', hw'⟩ : ∃ w', A ++ (P1 ++ (U.concat y ++ (x :: (V ++ B)))) = w' := ⟨_, rfl⟩
      have hw2 : (A ++ (P1 ++ U)) ++ (y :: (x :: (V ++ B))) = w' := by rw [← hw']; simp
      have hk : (A ++ (P1 ++ U)).length = j + U.length := by rw [List.length_append, List.length_append, ha]; omega
      have hg := two_get (U := A ++ (P1 ++ U)) (V := V ++ B) (x := y) (y := x) hk
      have ht := two_set' (U := A ++ (P1 ++ U)) (V := V ++ B) (x := y) (y := x) hk
      have hlc : (U.concat y).length = U.length + 1 := by simp
      have hkk : j + (U.concat y).length = j + U.length + 1 := by omega
      rw [hlc] at hlUV
      have hwN' : w'.length = N := by rw [← hw2]; simp only [List.length_append, List.length_cons] at hlUV hT ⊢; omega
      rw [hw2] at hg ht
      rw [hw', hkk]
      have hak : (j : Int) < ((j + U.length : Nat) : Int) + 1 := by omega
      generalize hkd : j + U.length = k at *
      obtain ⟨hk1, hx0, hx1⟩ := hg
      have hk0 : k < w'.length := by omega
      rw [List.getElem?_eq_getElem hk0] at hx0
      rw [List.getElem?_eq_getElem hk1] at hx1
      have hx0 : w'[k] = y := by simpa using hx0
      have hx1 : w'[k + 1] = x := by simpa using hx1
      have hk0N : k < N := by omega
      have hk1N : k + 1 < N := by omega
      have h0k : (0 : Int) ≤ (k : Int) + 1 := by omega
      have w5 : wrapI .i64 (k : Int) = k := wrap_in (by omega) (by omega)
      ((try simp -implicitDefEqProofs [-loopQ_n, w5, hak, hwN', hk0N, hk1N, h0k, hk0, hk1, hx0, hx1, evS_len, evS_tk, evS_dr, evS_set]) <;> (repeat' (first | (refine condD_dec ?_ ?_ <;> (intro hc; (try simp -implicitDefEqProofs [-loopQ_n, hc, w5, hak, hwN', hk0N, hk1N, h0k, hk0, hk1, hx0, hx1, evS_len, evS_tk, evS_dr, evS_set]))) | (refine guardD_dec ?_ ?_ <;> (intro hc; (try simp -implicitDefEqProofs [-loopQ_n, hc, w5, hak, hwN', hk0N, hk1N, h0k, hk0, hk1, hx0, hx1, evS_len, evS_tk, evS_dr, evS_set]))) | (refine condD_intro ?_ ?_ <;> (intro hd; have hc := hd; (try simp at hc) <;> (try simp -implicitDefEqProofs [-loopQ_n, hd, hc, w5, hak, hwN', hk0N, hk1N, h0k, hk0, hk1, hx0, hx1, evS_len, evS_tk, evS_dr, evS_set]))) | (refine guardD_intro ?_ ?_ <;> (intro hd; have hc := hd; (try simp at hc) <;> (try simp -implicitDefEqProofs [-loopQ_n, hd, hc, w5, hak, hwN', hk0N, hk1N, h0k, hk0, hk1, hx0, hx1, evS_len, evS_tk, evS_dr, evS_set]))) | (refine ldD_ep ?_ ?_; (focus kernel_rfl); (try simp -implicitDefEqProofs [-loopQ_n, w5, hak, hwN', hk0N, hk1N, h0k, hk0, hk1, hx0, hx1, evS_len, evS_tk, evS_dr, evS_set])))))
      refine loop_next (U, y :: V) (by simp only; rw [← hUV]; simp) (by simp) (weak_ofL 1 0 rfl (by simp) rfl ?_ ?_)
      · simp [refs, ← hkd]
      · rw [ht]; simp [evS_refsR]
end Go.Proofs.Ytnldjmokemgaoaa

/- Stable sorting of events, fourth part: merging, the whole. -/
namespace Go.Proofs.Ytnldjmokemgaoaa
set_option linter.unusedSimpArgs false
set_option linter.unusedVariables false
set_option linter.unnecessarySimpa false
set_option linter.unusedSectionVars false
open Go.RowKit
variable [Glob]
open Stab
set_option maxRecDepth 100000
theorem SymC.at {g : Nat} {cm : EvS → EvS → Int} {A P Q B : List EvS} (h : SymC g cm A P Q B) {N a m b : Nat} (hN : (A ++ (P ++ (Q ++ B))).length = N) (ha : A.length = a) (hm : a + P.length = m) (hb : m + Q.length = b) :
    CallG Try.prog 107 [.os 0 N, .int .i64 a, .int .i64 m, .int .i64 b, .fn g []] [rowE (A ++ (P ++ (Q ++ B)))]
      fun r H => r = .tup [] ∧ ∃ R : List EvS, H = [rowE (A ++ (R ++ B))] ∧ Srtd (ltC cm) R ∧ Stb (ltC cm) (P ++ Q) R := by
  subst hN ha hm hb
  exact h
def SymL (cm : EvS → EvS → Int) (P Q : List EvS) (a h r0 r : Nat) : Prop := r = r0 ∨ ∃ u v, P[r - a]? = some u ∧ Q[h - 1 - (r - a)]? = some v ∧ ltC cm v u = true
def SymG (cm : EvS → EvS → Int) (P Q : List EvS) (a h s0 s : Nat) : Prop := s = s0 ∨ ∃ u v, P[s - a - 1]? = some u ∧ Q[h - (s - a)]? = some v ∧ ltC cm v u = false
set_option maxHeartbeats 16000000 in
theorem sym_parts (g : Nat) (cm : EvS → EvS → Int) (hs : Swo (ltC cm)) (A P Q B P1 P2 Q1 Q2 w w1 : List EvS) (hP : Srtd (ltC cm) P) (hQ : Srtd (ltC cm) Q)
    (ih : ∀ A' P' Q' B' : List EvS, P'.length + Q'.length < P.length + Q.length → Srtd (ltC cm) P' → Srtd (ltC cm) Q' → P' ≠ [] → Q' ≠ [] → (A' ++ (P' ++ (Q' ++ B'))).length ≤ 2000 → SymC g cm A' P' Q' B')
    (N a m b mid r en d f : Nat) (ha : A.length = a) (hd : P.length = d) (hf : Q.length = f) (hm : a + d = m) (hb : m + f = b) (hP1 : 2 ≤ d) (hQ1 : 2 ≤ f) (hmid1 : a < mid) (hmid2 : mid < b) (hT : a + d + f + B.length = N) (hN2 : N ≤ 2000)
    (hspP : P1 ++ P2 = P) (hspQ : Q1 ++ Q2 = Q) (lP1 : P1.length = r - a) (lQ1 : Q1.length = en - m) (k1 : a ≤ r) (k2 : r ≤ m) (k3 : r ≤ mid) (k4 : en ≤ b) (k5 : en + r = mid + m)
    (hcut1 : ∀ x ∈ P2, ∀ y ∈ Q1, ltC cm y x = true) (hcut2 : ∀ x ∈ P1, ∀ y ∈ Q2, ltC cm y x = false)
    (hw : A ++ (P ++ (Q ++ B)) = w) (hwN : w.length = N) (hw1 : A ++ (P1 ++ (Q1 ++ (P2 ++ (Q2 ++ B)))) = w1) :
    (∀ (w' L R : List EvS), A ++ (L ++ (R ++ B)) = w' → Srtd (ltC cm) L → Srtd (ltC cm) R → Stb (ltC cm) (P1 ++ Q1) L → Stb (ltC cm) (P2 ++ Q2) R →
          ∃ R', [rowE w'] = [rowE (A ++ (R' ++ B))] ∧ Srtd (ltC cm) R' ∧ Stb (ltC cm) (P ++ Q) R') ∧
    (r < m → r < mid → CallG Try.prog 126 [.os 0 N, .int .i64 r, .int .i64 m, .int .i64 en, .fn g []] [rowE w] fun r H => r = .tup [] ∧ H = [rowE w1]) ∧
    (a < r → r < mid → CallG Try.prog 107 [.os 0 N, .int .i64 a, .int .i64 r, .int .i64 mid, .fn g []] [rowE w1]
          fun r H => r = .tup [] ∧ ∃ R : List EvS, H = [rowE (A ++ (R ++ (P2 ++ (Q2 ++ B))))] ∧ Srtd (ltC cm) R ∧ Stb (ltC cm) (P1 ++ Q1) R) ∧
    (∀ L w2 : List EvS, A ++ (L ++ (P2 ++ (Q2 ++ B))) = w2 → L.length = P1.length + Q1.length → r < m → en < b → CallG Try.prog 107 [.os 0 N, .int .i64 mid, .int .i64 en, .int .i64 b, .fn g []] [rowE w2]
          fun r H => r = .tup [] ∧ ∃ R : List EvS, H = [rowE (A ++ (L ++ (R ++ B)))] ∧ Srtd (ltC cm) R ∧ Stb (ltC cm) (P2 ++ Q2) R) ∧
    (¬ a < r → P1 = []) ∧ (¬ r < m → P2 = []) ∧ (¬ r < mid → Q1 = []) ∧ (¬ en < b → Q2 = []) ∧ (mid < en) = (r < m) ∧ (m < en) = (r < mid) ∧
    Srtd (ltC cm) P1 ∧ Srtd (ltC cm) P2 ∧ Srtd (ltC cm) Q1 ∧ Srtd (ltC cm) Q2 ∧ A ++ (P1 ++ (P2 ++ (Q1 ++ (Q2 ++ B)))) = w := by
  have eA : (mid < en) = (r < m) := propext (by omega)
  have eB : (m < en) = (r < mid) := propext (by omega)
  have sP := hP
  have sQ := hQ
  rw [← hspP, srtd_app] at sP
  rw [← hspQ, srtd_app] at sQ
  have hT1 : P1.length + P2.length = d := by rw [← hd, ← hspP, List.length_append]
  have hT2 : Q1.length + Q2.length = f := by rw [← hf, ← hspQ, List.length_append]
  have lP2 : P2.length = m - r := by omega
  have lQ2 : Q2.length = b - en := by omega
  have fin : ∀ (w' L R : List EvS), A ++ (L ++ (R ++ B)) = w' → Srtd (ltC cm) L → Srtd (ltC cm) R → Stb (ltC cm) (P1 ++ Q1) L → Stb (ltC cm) (P2 ++ Q2) R →
      ∃ R', [rowE w'] = [rowE (A ++ (R' ++ B))] ∧ Srtd (ltC cm) R' ∧ Stb (ltC cm) (P ++ Q) R' := fun w' L R e h1 h2 h3 h4 => by
    obtain ⟨m1, m2⟩ := merge_mid hs (by rw [hspP]; exact hP) (by rw [hspQ]; exact hQ) hcut1 hcut2 h1 h2 h3 h4
    rw [hspP, hspQ] at m2
    exact ⟨L ++ R, by rw [← e]; simp, m1, m2⟩
  have hww : A ++ (P1 ++ (P2 ++ (Q1 ++ (Q2 ++ B)))) = w := by rw [← hw, ← hspP, ← hspQ]; simp
  have ne : ∀ l : List EvS, 0 < l.length → l ≠ [] := fun l hl e => by rw [e] at hl; simp at hl
  have nil : ∀ l : List EvS, l.length = 0 → l = [] := fun l hl => List.eq_nil_of_length_eq_zero hl
  have hrot : r < m → r < mid → CallG Try.prog 126 [.os 0 N, .int .i64 r, .int .i64 m, .int .i64 en, .fn g []] [rowE w] fun r H => r = .tup [] ∧ H = [rowE w1] := fun hA hB => by
    have := rot_G g (A ++ P1) P2 Q1 (Q2 ++ B) N r m en (by rw [← hwN, ← hww]; simp) (by rw [List.length_append, ha]; omega) (by omega) (by omega) (ne _ (by omega)) (ne _ (by omega)) hN2
    rw [List.append_assoc, List.append_assoc, hww, hw1] at this
    exact this
  have hsym1 : a < r → r < mid → CallG Try.prog 107 [.os 0 N, .int .i64 a, .int .i64 r, .int .i64 mid, .fn g []] [rowE w1]
      fun r H => r = .tup [] ∧ ∃ R : List EvS, H = [rowE (A ++ (R ++ (P2 ++ (Q2 ++ B))))] ∧ Srtd (ltC cm) R ∧ Stb (ltC cm) (P1 ++ Q1) R := fun hC hB => by
    have hlw : (A ++ (P1 ++ (Q1 ++ (P2 ++ (Q2 ++ B))))).length = N := by simp only [List.length_append] at hT ⊢; omega
    have := (ih A P1 Q1 (P2 ++ (Q2 ++ B)) (by omega) sP.1 sQ.1 (ne _ (by omega)) (ne _ (by omega)) (by omega)).at hlw ha (m := r) (b := mid) (by omega) (by omega)
    rw [hw1] at this
    exact this
  have hsym2 : ∀ L w2 : List EvS, A ++ (L ++ (P2 ++ (Q2 ++ B))) = w2 → L.length = P1.length + Q1.length → r < m → en < b → CallG Try.prog 107 [.os 0 N, .int .i64 mid, .int .i64 en, .int .i64 b, .fn g []] [rowE w2]
      fun r H => r = .tup [] ∧ ∃ R : List EvS, H = [rowE (A ++ (L ++ (R ++ B)))] ∧ Srtd (ltC cm) R ∧ Stb (ltC cm) (P2 ++ Q2) R := fun L w2 e hL hA hD => by
    have hlw : ((A ++ L) ++ (P2 ++ (Q2 ++ B))).length = N := by simp only [List.length_append] at hT ⊢; omega
    have := (ih (A ++ L) P2 Q2 B (by omega) sP.2.1 sQ.2.1 (ne _ (by omega)) (ne _ (by omega)) (by omega)).at hlw (a := mid) (by rw [List.length_append, ha]; omega) (m := en) (b := b) (by omega) (by omega)
    simp only [List.append_assoc] at this
    rw [e] at this
    exact this
  exact ⟨fin, hrot, hsym1, hsym2, fun q => nil _ (by omega), fun q => nil _ (by omega), fun q => nil _ (by omega), fun q => nil _ (by omega), eA, eB, sP.1, sP.2.1, sQ.1, sQ.2.1, hww⟩
set_option maxHeartbeats 16000000 in
theorem sym_gen (g : Nat) (cm : EvS → EvS → Int) (hcmp : ∀ x y : EvS, Pure Try.prog g [.agg (evS x), .agg (evS y)] (.int .i64 (cm x y))) (hs : Swo (ltC cm))
    (A P Q B : List EvS) (hP : Srtd (ltC cm) P) (hQ : Srtd (ltC cm) Q) (hP1 : 2 ≤ P.length) (hQ1 : 2 ≤ Q.length) (hl : (A ++ (P ++ (Q ++ B))).length ≤ 2000)
    (ih : ∀ A' P' Q' B' : List EvS, P'.length + Q'.length < P.length + Q.length → Srtd (ltC cm) P' → Srtd (ltC cm) Q' → P' ≠ [] → Q' ≠ [] → (A' ++ (P' ++ (Q' ++ B'))).length ≤ 2000 → SymC g cm A' P' Q' B')
    (a m b mid s0 r0 : Nat) (ha : A.length = a) (hm : a + P.length = m) (hb : m + Q.length = b) (hmid : (a + b) / 2 = mid) (hc : (mid < m ∧ s0 = mid + m - b ∧ r0 = mid) ∨ (¬ mid < m ∧ s0 = a ∧ r0 = m)) :
    SymC g cm A P Q B := by
  unfold SymC
  obtain ⟨N, hN⟩ : ∃ N, (A ++ (P ++ (Q ++ B))).length = N := ⟨_, rfl⟩
  obtain ⟨d, hd⟩ : ∃ d, P.length = d := ⟨_, rfl⟩
  obtain ⟨f, hf⟩ : ∃ f, Q.length = f := ⟨_, rfl⟩
  rw [hN] at hl ⊢
  rw [hd] at hm hP1
  rw [hf] at hb hQ1
  rw [ha, hd, hm, hf, hb]
  have hT : a + d + f + B.length = N := by rw [← hN, ← ha, ← hd, ← hf]; simp; omega
  have w0 := wi_sub (a := m) (b := a) (by omega) (by omega)
  rw [show m - a = d by omega] at w0
  have w00 := wi_sub (a := b) (b := m) (by omega) (by omega)
  rw [show b - m = f by omega] at w00
  have hd1 : ¬ (d : Int) = 1 := by omega
  have hd2 : ¬ d = 1 := by omega
  have hf1 : ¬ (f : Int) = 1 := by omega
  have hf2 : ¬ f = 1 := by omega
  obtain ⟨ab, hab⟩ : ∃ ab, a + b = ab := ⟨_, rfl⟩
  obtain ⟨nn, hnn⟩ : ∃ nn, mid + m = nn := ⟨_, rfl⟩
  obtain ⟨p, hp⟩ : ∃ p, nn - 1 = p := ⟨_, rfl⟩
  have w1 := wi_add (a := a) (b := b) (by omega)
  rw [hab] at w1
  have w2 : wrapI .u64 (ab : Int) = ab := wu_in (by omega) (by omega)
  have hh := half_nat ab
  rw [← hab, hmid, hab] at hh
  have w3 : wrapI .i64 (mid : Int) = mid := wrap_in (by omega) (by omega)
  have w4 := wi_add (a := mid) (b := m) (by omega)
  rw [hnn] at w4
  have w6 : wrapI .i64 ((nn : Int) - 1) = p := by have := wi_sub (a := nn) (b := 1) (by omega) (by omega); rw [hp] at this; exact this
  obtain ⟨w, hw⟩ : ∃ w, A ++ (P ++ (Q ++ B)) = w := ⟨_, rfl⟩
  have hwN : w.length = N := by rw [← hw]; exact hN
  have hwP : ∀ t, t < P.length → w[a + t]? = P[t]? := fun t ht => by
    rw [← hw, List.getElem?_append_right (by omega), List.getElem?_append_left (by omega)]
    congr 1; omega
  have hwQ : ∀ t, t < Q.length → w[m + t]? = Q[t]? := fun t ht => by
    rw [← hw, List.getElem?_append_right (by omega), List.getElem?_append_right (by omega), List.getElem?_append_left (by omega)]
    congr 1; omega
  obtain ⟨h, hhd⟩ : ∃ h, mid - a = h := ⟨_, rfl⟩
  rw [hw]
  refine inl_G mixed Try.func107 rfl (by kernel_rfl) (of_decide_eq_true rfl) (by kernel_rfl) (vc_run ?_)
  have hs0 : a ≤ s0 := by omega
  have hsr : s0 ≤ r0 := by omega
  have hr1 : r0 ≤ m := by omega
  have hr2 : r0 ≤ mid := by omega
  have hsb : nn ≤ s0 + b := by omega
  have hend1 : Unit → (r0 = m ∨ r0 = mid) := fun _ => by omega
  have hend2 : Unit → (s0 = a ∨ s0 + b = nn) := fun _ => by omega
  have hmh : a + h = mid := by omega
  have hp1 : p + 1 = nn := by omega
  have hbN : b ≤ N := by omega
  have w7 : mid < m → wrapI .i64 ((nn : Int) - b) = s0 := fun hc => by rw [wi_sub (by omega) (by omega)]; omega
  have hc : (mid < m ∧ r0 = mid) ∨ (¬ mid < m ∧ s0 = a ∧ r0 = m) := by omega
  clear hmid hhd hp
  have hN2 : N ≤ 2000 := by omega
  rcases hc with ⟨hc, e2⟩ | ⟨hc, e1, e2⟩
  all_goals (
    ((try simp -implicitDefEqProofs [-loopQ_n, w0, w00, hd1, hd2, hf1, hf2, w1, w2, hh, w3, w4, w6, w7, hc]) <;> (repeat' (first | (refine condD_dec ?_ ?_ <;> (intro hc; (try simp -implicitDefEqProofs [-loopQ_n, hc, w0, w00, hd1, hd2, hf1, hf2, w1, w2, hh, w3, w4, w6, w7, hc]))) | (refine guardD_dec ?_ ?_ <;> (intro hc; (try simp -implicitDefEqProofs [-loopQ_n, hc, w0, w00, hd1, hd2, hf1, hf2, w1, w2, hh, w3, w4, w6, w7, hc]))) | (refine condD_intro ?_ ?_ <;> (intro hd; have hc := hd; (try simp at hc) <;> (try simp -implicitDefEqProofs [-loopQ_n, hd, hc, w0, w00, hd1, hd2, hf1, hf2, w1, w2, hh, w3, w4, w6, w7, hc]))) | (refine guardD_intro ?_ ?_ <;> (intro hd; have hc := hd; (try simp at hc) <;> (try simp -implicitDefEqProofs [-loopQ_n, hd, hc, w0, w00, hd1, hd2, hf1, hf2, w1, w2, hh, w3, w4, w6, w7, hc]))) | (refine ldD_ep ?_ ?_; (focus kernel_rfl); (try simp -implicitDefEqProofs [-loopQ_n, w0, w00, hd1, hd2, hf1, hf2, w1, w2, hh, w3, w4, w6, w7, hc])))))
    refine loop_intro (σ := Nat × Nat) (fun y => ⟨[(0, .os 0 N), (1, .int .i64 a), (2, .int .i64 m), (3, .int .i64 b), (4, .fn g []), (18, .int .i64 mid), (19, .int .i64 nn), (20, .int .i64 y.1), (21, .int .i64 y.2), (22, .int .i64 p)], [rowE w]⟩)
      (fun y => s0 ≤ y.1 ∧ y.1 ≤ y.2 ∧ y.2 ≤ r0 ∧ SymL cm P Q a h r0 y.2 ∧ SymG cm P Q a h s0 y.1)
      (fun y => y.2 - y.1) (s0, r0) ⟨by simp, hsr, by simp, .inl rfl, .inl rfl⟩ ?_ ?_
    · refine weak_ofL 1 0 rfl (by simp) rfl ?_ ?_ <;> simp [evS_refsR, refs, *]
    rintro ⟨s, r⟩ ⟨q1, q2, q3, c1, c2⟩
    simp only at q1 q2 q3 c1 c2
    by_cases hlt : s < r
    · obtain ⟨sm, hsm⟩ : ∃ sm, s + r = sm := ⟨_, rfl⟩
      obtain ⟨c, hcd⟩ : ∃ c, sm / 2 = c := ⟨_, rfl⟩
      obtain ⟨pc, hpc⟩ : ∃ pc, p - c = pc := ⟨_, rfl⟩
      have v1 := wi_add (a := s) (b := r) (by omega)
      rw [hsm] at v1
      have v2 : wrapI .u64 (sm : Int) = sm := wu_in (by omega) (by omega)
      have v3 : wrapI .i64 (c : Int) = c := wrap_in (by omega) (by omega)
      have v4 := wi_one (a := c) (by omega)
      have hh2 := half_nat sm
      rw [hcd] at hh2
      have v5 := wi_sub (a := p) (b := c) (by omega) (by omega)
      rw [hpc] at v5
      have hcN : c < N := by omega
      have hpN : pc < N := by omega
      have hcw : c < w.length := by omega
      have hpw : pc < w.length := by omega
      obtain ⟨u, hu⟩ : ∃ u, w[c] = u := ⟨_, rfl⟩
      obtain ⟨v, hv⟩ : ∃ v, w[pc] = v := ⟨_, rfl⟩
      have huP : P[c - a]? = some u := by rw [← hwP (c - a) (by omega), show a + (c - a) = c by omega, List.getElem?_eq_getElem hcw, hu]
      have hvQ : Q[h - 1 - (c - a)]? = some v := by rw [← hwQ (h - 1 - (c - a)) (by omega), show m + (h - 1 - (c - a)) = pc by omega, List.getElem?_eq_getElem hpw, hv]
      by_cases hcm : cm v u < 0
      · ((try simp -implicitDefEqProofs [-loopQ_n, hlt, v1, v2, v3, v4, v5, hh2, hwN, hcN, hpN, hcw, hpw, hu, hv, evS_len, evS_tk, hcm]) <;> (repeat' (first | (refine condD_dec ?_ ?_ <;> (intro hc; (try simp -implicitDefEqProofs [-loopQ_n, hc, hlt, v1, v2, v3, v4, v5, hh2, hwN, hcN, hpN, hcw, hpw, hu, hv, evS_len, evS_tk, hcm]))) | (refine guardD_dec ?_ ?_ <;> (intro hc; (try simp -implicitDefEqProofs [-loopQ_n, hc, hlt, v1, v2, v3, v4, v5, hh2, hwN, hcN, hpN, hcw, hpw, hu, hv, evS_len, evS_tk, hcm]))) | (refine condD_intro ?_ ?_ <;> (intro hd; have hc := hd; (try simp at hc) <;> (try simp -implicitDefEqProofs [-loopQ_n, hd, hc, hlt, v1, v2, v3, v4, v5, hh2, hwN, hcN, hpN, hcw, hpw, hu, hv, evS_len, evS_tk, hcm]))) | (refine guardD_intro ?_ ?_ <;> (intro hd; have hc := hd; (try simp at hc) <;> (try simp -implicitDefEqProofs [-loopQ_n, hd, hc, hlt, v1, v2, v3, v4, v5, hh2, hwN, hcN, hpN, hcw, hpw, hu, hv, evS_len, evS_tk, hcm]))) | (refine ldD_ep ?_ ?_; (focus kernel_rfl); (try simp -implicitDefEqProofs [-loopQ_n, hlt, v1, v2, v3, v4, v5, hh2, hwN, hcN, hpN, hcw, hpw, hu, hv, evS_len, evS_tk, hcm])) | (refine callS_mk ?_; (try simp -implicitDefEqProofs [-loopQ_n, hlt, v1, v2, v3, v4, v5, hh2, hwN, hcN, hpN, hcw, hpw, hu, hv, evS_len, evS_tk, hcm]); (first | refine callS_intro (hcmp v u) (.inl rfl) ?_); (try simp -implicitDefEqProofs [-loopQ_n, hlt, v1, v2, v3, v4, v5, hh2, hwN, hcN, hpN, hcw, hpw, hu, hv, evS_len, evS_tk, hcm])))))
        refine loop_next (s, c) ⟨q1, by simp only; omega, by simp only; omega, .inr ⟨u, v, huP, hvQ, by simpa [ltC] using hcm⟩, c2⟩ (by simp only; omega) (weak_ofL 1 0 rfl (by simp) rfl ?_ ?_)
        · simp [refs]
        · simp [evS_refsR]
      · ((try simp -implicitDefEqProofs [-loopQ_n, hlt, v1, v2, v3, v4, v5, hh2, hwN, hcN, hpN, hcw, hpw, hu, hv, evS_len, evS_tk, hcm]) <;> (repeat' (first | (refine condD_dec ?_ ?_ <;> (intro hc; (try simp -implicitDefEqProofs [-loopQ_n, hc, hlt, v1, v2, v3, v4, v5, hh2, hwN, hcN, hpN, hcw, hpw, hu, hv, evS_len, evS_tk, hcm]))) | (refine guardD_dec ?_ ?_ <;> (intro hc; (try simp -implicitDefEqProofs [-loopQ_n, hc, hlt, v1, v2, v3, v4, v5, hh2, hwN, hcN, hpN, hcw, hpw, hu, hv, evS_len, evS_tk, hcm]))) | (refine condD_intro ?_ ?_ <;> (intro hd; have hc := hd; (try simp at hc) <;> (try simp -implicitDefEqProofs [-loopQ_n, hd, hc, hlt, v1, v2, v3, v4, v5, hh2, hwN, hcN, hpN, hcw, hpw, hu, hv, evS_len, evS_tk, hcm]))) | (refine guardD_intro ?_ ?_ <;> (intro hd; have hc := hd; (try simp at hc) <;> (try simp -implicitDefEqProofs [-loopQ_n, hd, hc, hlt, v1, v2, v3, v4, v5, hh2, hwN, hcN, hpN, hcw, hpw, hu, hv, evS_len, evS_tk, hcm]))) | (refine ldD_ep ?_ ?_; (focus kernel_rfl); (try simp -implicitDefEqProofs [-loopQ_n, hlt, v1, v2, v3, v4, v5, hh2, hwN, hcN, hpN, hcw, hpw, hu, hv, evS_len, evS_tk, hcm])) | (refine callS_mk ?_; (try simp -implicitDefEqProofs [-loopQ_n, hlt, v1, v2, v3, v4, v5, hh2, hwN, hcN, hpN, hcw, hpw, hu, hv, evS_len, evS_tk, hcm]); (first | refine callS_intro (hcmp v u) (.inl rfl) ?_); (try simp -implicitDefEqProofs [-loopQ_n, hlt, v1, v2, v3, v4, v5, hh2, hwN, hcN, hpN, hcw, hpw, hu, hv, evS_len, evS_tk, hcm])))))
        refine loop_next (c + 1, r) ⟨by simp only; omega, by simp only; omega, q3, c1, .inr ⟨u, v, ?_, ?_, by simpa [ltC] using hcm⟩⟩ (by simp only; omega) (weak_ofL 1 0 rfl (by simp) rfl ?_ ?_)
        · rw [show (c + 1, r).1 - a - 1 = c - a by simp only; omega]; exact huP
        · rw [show h - ((c + 1, r).1 - a) = h - 1 - (c - a) by simp only; omega]; exact hvQ
        · simp [refs]
        · simp [evS_refsR]
    · have hrs : r = s := by omega
      subst hrs
      obtain ⟨en, hen⟩ : ∃ en, nn - r = en := ⟨_, rfl⟩
      have v1 := wi_sub (a := nn) (b := r) (by omega) (by omega)
      rw [hen] at v1
      obtain ⟨hcut1, hcut2⟩ := sym_cut hs hP hQ (h := h) (i := r - a) (by omega)
        (by rcases c1 with q | q
            · rcases hend1 () with q' | q'
              · exact .inl (by omega)
              · exact .inr (.inl (by omega))
            · exact .inr (.inr q))
        (by rcases c2 with q | q
            · rcases hend2 () with q' | q'
              · exact .inl (by omega)
              · exact .inr (.inl (by omega))
            · exact .inr (.inr q))
      have hspP := List.take_append_drop (r - a) P
      have hspQ := List.take_append_drop (h - (r - a)) Q
      have lP1 : (P.take (r - a)).length = r - a := by rw [List.length_take]; omega
      have lQ1 : (Q.take (h - (r - a))).length = en - m := by rw [List.length_take]; omega
      obtain ⟨w1, hw1⟩ : ∃ w1, A ++ (P.take (r - a) ++ (Q.take (h - (r - a)) ++ (P.drop (r - a) ++ (Q.drop (h - (r - a)) ++ B)))) = w1 := ⟨_, rfl⟩
      obtain ⟨fin, hrot, hsym1, hsym2, n1, n2, n3, n4, eA, eB, sP1, sP2, sQ1, sQ2, hww⟩ := sym_parts g cm hs A P Q B (P.take (r - a)) (P.drop (r - a)) (Q.take (h - (r - a))) (Q.drop (h - (r - a))) w w1 hP hQ ih N a m b mid r en d f ha hd hf hm hb hP1 hQ1 (by omega) (by omega) hT hN2 hspP hspQ lP1 lQ1 (by omega) (by omega) (by omega) (by omega) (by omega) hcut1 hcut2 hw hwN hw1
      generalize P.take (r - a) = P1 at *
      generalize P.drop (r - a) = P2 at *
      generalize Q.take (h - (r - a)) = Q1 at *
      generalize Q.drop (h - (r - a)) = Q2 at *
      clear ih hcut1 hcut2 c1 c2 hend1 hend2 hwP hwQ
      by_cases hA : r < m
      · have hA' : mid < en := by rw [eA]; exact hA
        by_cases hB : r < mid
        · have hB' : m < en := by rw [eB]; exact hB
          ((try simp -implicitDefEqProofs [-loopQ_n, v1, hA, hA', hB, hB']) <;> (repeat' (first | (refine condD_dec ?_ ?_ <;> (intro hc; (try simp -implicitDefEqProofs [-loopQ_n, hc, v1, hA, hA', hB, hB']))) | (refine guardD_dec ?_ ?_ <;> (intro hc; (try simp -implicitDefEqProofs [-loopQ_n, hc, v1, hA, hA', hB, hB']))) | (refine condD_intro ?_ ?_ <;> (intro hd; have hc := hd; (try simp at hc) <;> (try simp -implicitDefEqProofs [-loopQ_n, hd, hc, v1, hA, hA', hB, hB']))) | (refine guardD_intro ?_ ?_ <;> (intro hd; have hc := hd; (try simp at hc) <;> (try simp -implicitDefEqProofs [-loopQ_n, hd, hc, v1, hA, hA', hB, hB']))) | (refine ldD_ep ?_ ?_; (focus kernel_rfl); (try simp -implicitDefEqProofs [-loopQ_n, v1, hA, hA', hB, hB'])))))
          refine callG_intro ((hrot hA hB).weaken ?_)
          rintro _ _ ⟨rfl, rfl⟩
          by_cases hC : a < r
          · ((try simp -implicitDefEqProofs [-loopQ_n, v1, hA, hA', hB, hB', hC]) <;> (repeat' (first | (refine condD_dec ?_ ?_ <;> (intro hc; (try simp -implicitDefEqProofs [-loopQ_n, hc, v1, hA, hA', hB, hB', hC]))) | (refine guardD_dec ?_ ?_ <;> (intro hc; (try simp -implicitDefEqProofs [-loopQ_n, hc, v1, hA, hA', hB, hB', hC]))) | (refine condD_intro ?_ ?_ <;> (intro hd; have hc := hd; (try simp at hc) <;> (try simp -implicitDefEqProofs [-loopQ_n, hd, hc, v1, hA, hA', hB, hB', hC]))) | (refine guardD_intro ?_ ?_ <;> (intro hd; have hc := hd; (try simp at hc) <;> (try simp -implicitDefEqProofs [-loopQ_n, hd, hc, v1, hA, hA', hB, hB', hC]))) | (refine ldD_ep ?_ ?_; (focus kernel_rfl); (try simp -implicitDefEqProofs [-loopQ_n, v1, hA, hA', hB, hB', hC])))))
            refine callG_intro ((hsym1 hC hB).weaken ?_)
            rintro _ _ ⟨rfl, L, rfl, hL1, hL2⟩
            obtain ⟨w2, hw2⟩ : ∃ w2, A ++ (L ++ (P2 ++ (Q2 ++ B))) = w2 := ⟨_, rfl⟩
            rw [hw2]
            by_cases hD : en < b
            · ((try simp -implicitDefEqProofs [-loopQ_n, v1, hA, hA', hB, hB', hC, hD]) <;> (repeat' (first | (refine condD_dec ?_ ?_ <;> (intro hc; (try simp -implicitDefEqProofs [-loopQ_n, hc, v1, hA, hA', hB, hB', hC, hD]))) | (refine guardD_dec ?_ ?_ <;> (intro hc; (try simp -implicitDefEqProofs [-loopQ_n, hc, v1, hA, hA', hB, hB', hC, hD]))) | (refine condD_intro ?_ ?_ <;> (intro hd; have hc := hd; (try simp at hc) <;> (try simp -implicitDefEqProofs [-loopQ_n, hd, hc, v1, hA, hA', hB, hB', hC, hD]))) | (refine guardD_intro ?_ ?_ <;> (intro hd; have hc := hd; (try simp at hc) <;> (try simp -implicitDefEqProofs [-loopQ_n, hd, hc, v1, hA, hA', hB, hB', hC, hD]))) | (refine ldD_ep ?_ ?_; (focus kernel_rfl); (try simp -implicitDefEqProofs [-loopQ_n, v1, hA, hA', hB, hB', hC, hD])))))
              refine callG_intro ((hsym2 L w2 hw2 (by rw [← hL2.1, List.length_append]) hA hD).weaken ?_)
              rintro _ _ ⟨rfl, R, rfl, hR1, hR2⟩
              ((try simp -implicitDefEqProofs [-loopQ_n]) <;> (repeat' (first | (refine condD_dec ?_ ?_ <;> (intro hc; (try simp -implicitDefEqProofs [-loopQ_n, hc]))) | (refine guardD_dec ?_ ?_ <;> (intro hc; (try simp -implicitDefEqProofs [-loopQ_n, hc]))) | (refine condD_intro ?_ ?_ <;> (intro hd; have hc := hd; (try simp at hc) <;> (try simp -implicitDefEqProofs [-loopQ_n, hd, hc]))) | (refine guardD_intro ?_ ?_ <;> (intro hd; have hc := hd; (try simp at hc) <;> (try simp -implicitDefEqProofs [-loopQ_n, hd, hc]))) | (refine ldD_ep ?_ ?_; (focus kernel_rfl); (try simp -implicitDefEqProofs [-loopQ_n])))))
              exact endG_n (.tup []) rfl ⟨rfl, fin _ L R rfl hL1 hR1 hL2 hR2⟩
            · have := n4 hD
              subst this
              ((try simp -implicitDefEqProofs [-loopQ_n, v1, hA, hA', hB, hB', hC, hD]) <;> (repeat' (first | (refine condD_dec ?_ ?_ <;> (intro hc; (try simp -implicitDefEqProofs [-loopQ_n, hc, v1, hA, hA', hB, hB', hC, hD]))) | (refine guardD_dec ?_ ?_ <;> (intro hc; (try simp -implicitDefEqProofs [-loopQ_n, hc, v1, hA, hA', hB, hB', hC, hD]))) | (refine condD_intro ?_ ?_ <;> (intro hd; have hc := hd; (try simp at hc) <;> (try simp -implicitDefEqProofs [-loopQ_n, hd, hc, v1, hA, hA', hB, hB', hC, hD]))) | (refine guardD_intro ?_ ?_ <;> (intro hd; have hc := hd; (try simp at hc) <;> (try simp -implicitDefEqProofs [-loopQ_n, hd, hc, v1, hA, hA', hB, hB', hC, hD]))) | (refine ldD_ep ?_ ?_; (focus kernel_rfl); (try simp -implicitDefEqProofs [-loopQ_n, v1, hA, hA', hB, hB', hC, hD])))))
              exact endG_n (.tup []) rfl ⟨rfl, fin _ L P2 (by rw [← hw2]; simp) hL1 sP2 hL2 (by rw [List.append_nil]; exact Stb.refl _)⟩
          · have := n1 hC
            subst this
            by_cases hD : en < b
            · ((try simp -implicitDefEqProofs [-loopQ_n, v1, hA, hA', hB, hB', hC, hD]) <;> (repeat' (first | (refine condD_dec ?_ ?_ <;> (intro hc; (try simp -implicitDefEqProofs [-loopQ_n, hc, v1, hA, hA', hB, hB', hC, hD]))) | (refine guardD_dec ?_ ?_ <;> (intro hc; (try simp -implicitDefEqProofs [-loopQ_n, hc, v1, hA, hA', hB, hB', hC, hD]))) | (refine condD_intro ?_ ?_ <;> (intro hd; have hc := hd; (try simp at hc) <;> (try simp -implicitDefEqProofs [-loopQ_n, hd, hc, v1, hA, hA', hB, hB', hC, hD]))) | (refine guardD_intro ?_ ?_ <;> (intro hd; have hc := hd; (try simp at hc) <;> (try simp -implicitDefEqProofs [-loopQ_n, hd, hc, v1, hA, hA', hB, hB', hC, hD]))) | (refine ldD_ep ?_ ?_; (focus kernel_rfl); (try simp -implicitDefEqProofs [-loopQ_n, v1, hA, hA', hB, hB', hC, hD])))))
              refine callG_intro ((hsym2 Q1 w1 (by rw [← hw1]; simp) (by simp) hA hD).weaken ?_)
              rintro _ _ ⟨rfl, R, rfl, hR1, hR2⟩
              ((try simp -implicitDefEqProofs [-loopQ_n]) <;> (repeat' (first | (refine condD_dec ?_ ?_ <;> (intro hc; (try simp -implicitDefEqProofs [-loopQ_n, hc]))) | (refine guardD_dec ?_ ?_ <;> (intro hc; (try simp -implicitDefEqProofs [-loopQ_n, hc]))) | (refine condD_intro ?_ ?_ <;> (intro hd; have hc := hd; (try simp at hc) <;> (try simp -implicitDefEqProofs [-loopQ_n, hd, hc]))) | (refine guardD_intro ?_ ?_ <;> (intro hd; have hc := hd; (try simp at hc) <;> (try simp -implicitDefEqProofs [-loopQ_n, hd, hc]))) | (refine ldD_ep ?_ ?_; (focus kernel_rfl); (try simp -implicitDefEqProofs [-loopQ_n])))))
              exact endG_n (.tup []) rfl ⟨rfl, fin _ Q1 R rfl sQ1 hR1 (Stb.refl _) hR2⟩
            · have := n4 hD
              subst this
              ((try simp -implicitDefEqProofs [-loopQ_n, v1, hA, hA', hB, hB', hC, hD]) <;> (repeat' (first | (refine condD_dec ?_ ?_ <;> (intro hc; (try simp -implicitDefEqProofs [-loopQ_n, hc, v1, hA, hA', hB, hB', hC, hD]))) | (refine guardD_dec ?_ ?_ <;> (intro hc; (try simp -implicitDefEqProofs [-loopQ_n, hc, v1, hA, hA', hB, hB', hC, hD]))) | (refine condD_intro ?_ ?_ <;> (intro hd; have hc := hd; (try simp at hc) <;> (try simp -implicitDefEqProofs [-loopQ_n, hd, hc, v1, hA, hA', hB, hB', hC, hD]))) | (refine guardD_intro ?_ ?_ <;> (intro hd; have hc := hd; (try simp at hc) <;> (try simp -implicitDefEqProofs [-loopQ_n, hd, hc, v1, hA, hA', hB, hB', hC, hD]))) | (refine ldD_ep ?_ ?_; (focus kernel_rfl); (try simp -implicitDefEqProofs [-loopQ_n, v1, hA, hA', hB, hB', hC, hD])))))
              exact endG_n (.tup []) rfl ⟨rfl, fin _ Q1 P2 (by rw [← hw1]; simp) sQ1 sP2 (Stb.refl _) (by rw [List.append_nil]; exact Stb.refl _)⟩
        · have hB' : ¬ m < en := by rw [eB]; exact hB
          have := n3 hB
          subst this
          by_cases hC : a < r
          · by_cases hD : en < b
            · ((try simp -implicitDefEqProofs [-loopQ_n, v1, hA, hA', hB, hB', hC, hD]) <;> (repeat' (first | (refine condD_dec ?_ ?_ <;> (intro hc; (try simp -implicitDefEqProofs [-loopQ_n, hc, v1, hA, hA', hB, hB', hC, hD]))) | (refine guardD_dec ?_ ?_ <;> (intro hc; (try simp -implicitDefEqProofs [-loopQ_n, hc, v1, hA, hA', hB, hB', hC, hD]))) | (refine condD_intro ?_ ?_ <;> (intro hd; have hc := hd; (try simp at hc) <;> (try simp -implicitDefEqProofs [-loopQ_n, hd, hc, v1, hA, hA', hB, hB', hC, hD]))) | (refine guardD_intro ?_ ?_ <;> (intro hd; have hc := hd; (try simp at hc) <;> (try simp -implicitDefEqProofs [-loopQ_n, hd, hc, v1, hA, hA', hB, hB', hC, hD]))) | (refine ldD_ep ?_ ?_; (focus kernel_rfl); (try simp -implicitDefEqProofs [-loopQ_n, v1, hA, hA', hB, hB', hC, hD])))))
              refine callG_intro ((hsym2 P1 w (by rw [← hww]; simp) (by simp) hA hD).weaken ?_)
              rintro _ _ ⟨rfl, R, rfl, hR1, hR2⟩
              ((try simp -implicitDefEqProofs [-loopQ_n]) <;> (repeat' (first | (refine condD_dec ?_ ?_ <;> (intro hc; (try simp -implicitDefEqProofs [-loopQ_n, hc]))) | (refine guardD_dec ?_ ?_ <;> (intro hc; (try simp -implicitDefEqProofs [-loopQ_n, hc]))) | (refine condD_intro ?_ ?_ <;> (intro hd; have hc := hd; (try simp at hc) <;> (try simp -implicitDefEqProofs [-loopQ_n, hd, hc]))) | (refine guardD_intro ?_ ?_ <;> (intro hd; have hc := hd; (try simp at hc) <;> (try simp -implicitDefEqProofs [-loopQ_n, hd, hc]))) | (refine ldD_ep ?_ ?_; (focus kernel_rfl); (try simp -implicitDefEqProofs [-loopQ_n])))))
              exact endG_n (.tup []) rfl ⟨rfl, fin _ P1 R rfl sP1 hR1 (by rw [List.append_nil]; exact Stb.refl _) hR2⟩
            · have := n4 hD
              subst this
              ((try simp -implicitDefEqProofs [-loopQ_n, v1, hA, hA', hB, hB', hC, hD]) <;> (repeat' (first | (refine condD_dec ?_ ?_ <;> (intro hc; (try simp -implicitDefEqProofs [-loopQ_n, hc, v1, hA, hA', hB, hB', hC, hD]))) | (refine guardD_dec ?_ ?_ <;> (intro hc; (try simp -implicitDefEqProofs [-loopQ_n, hc, v1, hA, hA', hB, hB', hC, hD]))) | (refine condD_intro ?_ ?_ <;> (intro hd; have hc := hd; (try simp at hc) <;> (try simp -implicitDefEqProofs [-loopQ_n, hd, hc, v1, hA, hA', hB, hB', hC, hD]))) | (refine guardD_intro ?_ ?_ <;> (intro hd; have hc := hd; (try simp at hc) <;> (try simp -implicitDefEqProofs [-loopQ_n, hd, hc, v1, hA, hA', hB, hB', hC, hD]))) | (refine ldD_ep ?_ ?_; (focus kernel_rfl); (try simp -implicitDefEqProofs [-loopQ_n, v1, hA, hA', hB, hB', hC, hD])))))
              exact endG_n (.tup []) rfl ⟨rfl, fin _ P1 P2 (by rw [← hww]; simp) sP1 sP2 (by rw [List.append_nil]; exact Stb.refl _) (by rw [List.append_nil]; exact Stb.refl _)⟩
          · by_cases hD : en < b
            · ((try simp -implicitDefEqProofs [-loopQ_n, v1, hA, hA', hB, hB', hC, hD]) <;> (repeat' (first | (refine condD_dec ?_ ?_ <;> (intro hc; (try simp -implicitDefEqProofs [-loopQ_n, hc, v1, hA, hA', hB, hB', hC, hD]))) | (refine guardD_dec ?_ ?_ <;> (intro hc; (try simp -implicitDefEqProofs [-loopQ_n, hc, v1, hA, hA', hB, hB', hC, hD]))) | (refine condD_intro ?_ ?_ <;> (intro hd; have hc := hd; (try simp at hc) <;> (try simp -implicitDefEqProofs [-loopQ_n, hd, hc, v1, hA, hA', hB, hB', hC, hD]))) | (refine guardD_intro ?_ ?_ <;> (intro hd; have hc := hd; (try simp at hc) <;> (try simp -implicitDefEqProofs [-loopQ_n, hd, hc, v1, hA, hA', hB, hB', hC, hD]))) | (refine ldD_ep ?_ ?_; (focus kernel_rfl); (try simp -implicitDefEqProofs [-loopQ_n, v1, hA, hA', hB, hB', hC, hD])))))
              refine callG_intro ((hsym2 P1 w (by rw [← hww]; simp) (by simp) hA hD).weaken ?_)
              rintro _ _ ⟨rfl, R, rfl, hR1, hR2⟩
              ((try simp -implicitDefEqProofs [-loopQ_n]) <;> (repeat' (first | (refine condD_dec ?_ ?_ <;> (intro hc; (try simp -implicitDefEqProofs [-loopQ_n, hc]))) | (refine guardD_dec ?_ ?_ <;> (intro hc; (try simp -implicitDefEqProofs [-loopQ_n, hc]))) | (refine condD_intro ?_ ?_ <;> (intro hd; have hc := hd; (try simp at hc) <;> (try simp -implicitDefEqProofs [-loopQ_n, hd, hc]))) | (refine guardD_intro ?_ ?_ <;> (intro hd; have hc := hd; (try simp at hc) <;> (try simp -implicitDefEqProofs [-loopQ_n, hd, hc]))) | (refine ldD_ep ?_ ?_; (focus kernel_rfl); (try simp -implicitDefEqProofs [-loopQ_n])))))
              exact endG_n (.tup []) rfl ⟨rfl, fin _ P1 R rfl sP1 hR1 (by rw [List.append_nil]; exact Stb.refl _) hR2⟩
            · have := n4 hD
              subst this
              ((try simp -implicitDefEqProofs [-loopQ_n, v1, hA, hA', hB, hB', hC, hD]) <;> (repeat' (first | (refine condD_dec ?_ ?_ <;> (intro hc; (try simp -implicitDefEqProofs [-loopQ_n, hc, v1, hA, hA', hB, hB', hC, hD]))) | (refine guardD_dec ?_ ?_ <;> (intro hc; (try simp -implicitDefEqProofs [-loopQ_n, hc, v1, hA, hA', hB, hB', hC, hD]))) | (refine condD_intro ?_ ?_ <;> (intro hd; have hc := hd; (try simp at hc) <;> (try simp -implicitDefEqProofs [-loopQ_n, hd, hc, v1, hA, hA', hB, hB', hC, hD]))) | (refine guardD_intro ?_ ?_ <;> (intro hd; have hc := hd; (try simp at hc) <;> (try simp -implicitDefEqProofs [-loopQ_n, hd, hc, v1, hA, hA', hB, hB', hC, hD]))) | (refine ldD_ep ?_ ?_; (focus kernel_rfl); (try simp -implicitDefEqProofs [-loopQ_n, v1, hA, hA', hB, hB', hC, hD])))))
              exact endG_n (.tup []) rfl ⟨rfl, fin _ P1 P2 (by rw [← hww]; simp) sP1 sP2 (by rw [List.append_nil]; exact Stb.refl _) (by rw [List.append_nil]; exact Stb.refl _)⟩
      · have hA' : ¬ mid < en := by rw [eA]; exact hA
        have := n2 hA
        subst this
        have hww1 : w = w1 := by rw [← hww, ← hw1]; simp
        rw [hww1]
        by_cases hBC : a < r ∧ r < mid
        · obtain ⟨hC, hB⟩ := hBC
          ((try simp -implicitDefEqProofs [-loopQ_n, v1, hA, hA', hB, hC]) <;> (repeat' (first | (refine condD_dec ?_ ?_ <;> (intro hc; (try simp -implicitDefEqProofs [-loopQ_n, hc, v1, hA, hA', hB, hC]))) | (refine guardD_dec ?_ ?_ <;> (intro hc; (try simp -implicitDefEqProofs [-loopQ_n, hc, v1, hA, hA', hB, hC]))) | (refine condD_intro ?_ ?_ <;> (intro hd; have hc := hd; (try simp at hc) <;> (try simp -implicitDefEqProofs [-loopQ_n, hd, hc, v1, hA, hA', hB, hC]))) | (refine guardD_intro ?_ ?_ <;> (intro hd; have hc := hd; (try simp at hc) <;> (try simp -implicitDefEqProofs [-loopQ_n, hd, hc, v1, hA, hA', hB, hC]))) | (refine ldD_ep ?_ ?_; (focus kernel_rfl); (try simp -implicitDefEqProofs [-loopQ_n, v1, hA, hA', hB, hC])))))
          refine callG_intro ((hsym1 hC hB).weaken ?_)
          rintro _ _ ⟨rfl, L, rfl, hL1, hL2⟩
          ((try simp -implicitDefEqProofs [-loopQ_n, hA']) <;> (repeat' (first | (refine condD_dec ?_ ?_ <;> (intro hc; (try simp -implicitDefEqProofs [-loopQ_n, hc, hA']))) | (refine guardD_dec ?_ ?_ <;> (intro hc; (try simp -implicitDefEqProofs [-loopQ_n, hc, hA']))) | (refine condD_intro ?_ ?_ <;> (intro hd; have hc := hd; (try simp at hc) <;> (try simp -implicitDefEqProofs [-loopQ_n, hd, hc, hA']))) | (refine guardD_intro ?_ ?_ <;> (intro hd; have hc := hd; (try simp at hc) <;> (try simp -implicitDefEqProofs [-loopQ_n, hd, hc, hA']))) | (refine ldD_ep ?_ ?_; (focus kernel_rfl); (try simp -implicitDefEqProofs [-loopQ_n, hA'])))))
          exact endG_n (.tup []) rfl ⟨rfl, fin _ L Q2 (by simp) hL1 sQ2 hL2 (Stb.refl _)⟩
        · have hs1 : Srtd (ltC cm) (P1 ++ Q1) := by
            by_cases hC : a < r
            · rw [n3 (fun q => hBC ⟨hC, q⟩), List.append_nil]; exact sP1
            · rw [n1 hC]; exact sQ1
          by_cases hC : a < r
          · have hB : ¬ r < mid := fun q => hBC ⟨hC, q⟩
            ((try simp -implicitDefEqProofs [-loopQ_n, v1, hA, hA', hB, hC]) <;> (repeat' (first | (refine condD_dec ?_ ?_ <;> (intro hc; (try simp -implicitDefEqProofs [-loopQ_n, hc, v1, hA, hA', hB, hC]))) | (refine guardD_dec ?_ ?_ <;> (intro hc; (try simp -implicitDefEqProofs [-loopQ_n, hc, v1, hA, hA', hB, hC]))) | (refine condD_intro ?_ ?_ <;> (intro hd; have hc := hd; (try simp at hc) <;> (try simp -implicitDefEqProofs [-loopQ_n, hd, hc, v1, hA, hA', hB, hC]))) | (refine guardD_intro ?_ ?_ <;> (intro hd; have hc := hd; (try simp at hc) <;> (try simp -implicitDefEqProofs [-loopQ_n, hd, hc, v1, hA, hA', hB, hC]))) | (refine ldD_ep ?_ ?_; (focus kernel_rfl); (try simp -implicitDefEqProofs [-loopQ_n, v1, hA, hA', hB, hC])))))
            exact endG_n (.tup []) rfl ⟨rfl, fin _ (P1 ++ Q1) Q2 (by rw [← hw1]; simp) hs1 sQ2 (Stb.refl _) (Stb.refl _)⟩
          · ((try simp -implicitDefEqProofs [-loopQ_n, v1, hA, hA', hC]) <;> (repeat' (first | (refine condD_dec ?_ ?_ <;> (intro hc; (try simp -implicitDefEqProofs [-loopQ_n, hc, v1, hA, hA', hC]))) | (refine guardD_dec ?_ ?_ <;> (intro hc; (try simp -implicitDefEqProofs [-loopQ_n, hc, v1, hA, hA', hC]))) | (refine condD_intro ?_ ?_ <;> (intro hd; have hc := hd; (try simp at hc) <;> (try simp -implicitDefEqProofs [-loopQ_n, hd, hc, v1, hA, hA', hC]))) | (refine guardD_intro ?_ ?_ <;> (intro hd; have hc := hd; (try simp at hc) <;> (try simp -implicitDefEqProofs [-loopQ_n, hd, hc, v1, hA, hA', hC]))) | (refine ldD_ep ?_ ?_; (focus kernel_rfl); (try simp -implicitDefEqProofs [-loopQ_n, v1, hA, hA', hC])))))
            exact endG_n (.tup []) rfl ⟨rfl, fin _ (P1 ++ Q1) Q2 (by rw [← hw1]; simp) hs1 sQ2 (Stb.refl _) (Stb.refl _)⟩)
end Go.Proofs.Ytnldjmokemgaoaa

/- Stable sorting of events, the last part: slices.SortStableFunc. -/
namespace Go.Proofs.Ytnldjmokemgaoaa
set_option linter.unusedSimpArgs false
set_option linter.unusedVariables false
set_option linter.unnecessarySimpa false
set_option linter.unusedSectionVars false
open Go.RowKit
variable [Glob]
open Stab
set_option maxRecDepth 100000
theorem SymC.at2 {g : Nat} {cm : EvS → EvS → Int} {A P Q B : List EvS} (h : SymC g cm A P Q B) {N a m b : Nat} (hN : (A ++ (P ++ (Q ++ B))).length = N) (ha : A.length = a) (hm : a + P.length = m) (hb : m + Q.length = b) :
    CallG Try.prog 107 [.os 0 N, .int .i64 a, .int .i64 m, .int .i64 b, .fn g []] [rowE (A ++ (P ++ (Q ++ B)))]
      fun r H => r = .tup [] ∧ ∃ R : List EvS, H = [rowE (A ++ (R ++ B))] ∧ Srtd (ltC cm) R ∧ Stb (ltC cm) (P ++ Q) R := by
  subst hN ha hm hb
  exact h
set_option maxHeartbeats 16000000 in
theorem stable_G (g : Nat) (cm : EvS → EvS → Int) (hcmp : ∀ x y : EvS, Pure Try.prog g [.agg (evS x), .agg (evS y)] (.int .i64 (cm x y))) (hs : Swo (ltC cm))
    (hsym : ∀ A P Q B : List EvS, Srtd (ltC cm) P → Srtd (ltC cm) Q → P ≠ [] → Q ≠ [] → (A ++ (P ++ (Q ++ B))).length ≤ 2000 → SymC g cm A P Q B)
    (X : List EvS) (N : Nat) (hN : X.length = N) (hl : N ≤ 2000) :
    CallG Try.prog 83 [.os 0 N, .int .i64 N, .fn g []] [rowE X]
      fun r H => r = .tup [] ∧ ∃ Y : List EvS, H = [rowE Y] ∧ Srtd (ltC cm) Y ∧ Stb (ltC cm) X Y := by
  refine inl_G mixed Try.func83 rfl (by kernel_rfl) (of_decide_eq_true rfl) (by kernel_rfl) (vc_run ?_)
  ((try simp -implicitDefEqProofs [-loopQ_n]) <;> (repeat' (first | (refine condD_dec ?_ ?_ <;> (intro hc; (try simp -implicitDefEqProofs [-loopQ_n, hc]))) | (refine guardD_dec ?_ ?_ <;> (intro hc; (try simp -implicitDefEqProofs [-loopQ_n, hc]))) | (refine condD_intro ?_ ?_ <;> (intro hd; have hc := hd; (try simp at hc) <;> (try simp -implicitDefEqProofs [-loopQ_n, hd, hc]))) | (refine guardD_intro ?_ ?_ <;> (intro hd; have hc := hd; (try simp at hc) <;> (try simp -implicitDefEqProofs [-loopQ_n, hd, hc]))) | (refine ldD_ep ?_ ?_; (focus kernel_rfl); (try simp -implicitDefEqProofs [-loopQ_n])))))
  refine loop_intro (σ := List EvS × List EvS) (fun y => ⟨[(0, .os 0 N), (1, .int .i64 N), (2, .fn g []), (6, .int .i64 20), (7, .int .i64 (y.1.length : Nat)), (8, .int .i64 (y.1.length + 20 : Nat))], [rowE (y.1 ++ y.2)]⟩)
    (fun y => RunE (ltC cm) 20 y.1 ∧ Stb (ltC cm) X (y.1 ++ y.2)) (fun y => y.2.length) ([], X) ⟨.nil, Stb.refl _⟩ ?_ ?_
  · refine weak_ofL 1 0 rfl (by simp) rfl ?_ ?_ <;> simp [evS_refsR, refs]
  rintro ⟨D, r⟩ ⟨hD, hX⟩
  simp only at hD hX
  have hlen := hX.1
  rw [List.length_append, hN] at hlen
  obtain ⟨a, ha⟩ : ∃ a, D.length = a := ⟨_, rfl⟩
  obtain ⟨b, hb⟩ : ∃ b, a + 20 = b := ⟨_, rfl⟩
  rw [ha] at hlen
  rw [ha, hb]
  by_cases h : b ≤ N
  · have hsp := List.take_append_drop 20 r
    have lP : (r.take 20).length = 20 := by rw [List.length_take]; omega
    have hi := ins_G g cm hcmp hs D (r.take 20) (r.drop 20) N a b (by rw [hsp, List.length_append]; omega) ha (by omega) hl
    rw [hsp] at hi
    have w1 : wrapI .i64 ((b : Int) + 20) = ((b + 20 : Nat) : Int) := by rw [wrap_in (by omega) (by omega)]; omega
    ((try simp -implicitDefEqProofs [-loopQ_n, h, w1]) <;> (repeat' (first | (refine condD_dec ?_ ?_ <;> (intro hc; (try simp -implicitDefEqProofs [-loopQ_n, hc, h, w1]))) | (refine guardD_dec ?_ ?_ <;> (intro hc; (try simp -implicitDefEqProofs [-loopQ_n, hc, h, w1]))) | (refine condD_intro ?_ ?_ <;> (intro hd; have hc := hd; (try simp at hc) <;> (try simp -implicitDefEqProofs [-loopQ_n, hd, hc, h, w1]))) | (refine guardD_intro ?_ ?_ <;> (intro hd; have hc := hd; (try simp at hc) <;> (try simp -implicitDefEqProofs [-loopQ_n, hd, hc, h, w1]))) | (refine ldD_ep ?_ ?_; (focus kernel_rfl); (try simp -implicitDefEqProofs [-loopQ_n, h, w1])))))
    refine callG_intro (hi.weaken ?_)
    rintro _ _ ⟨rfl, P, rfl, hP1, hP2, hP3⟩
    ((try simp -implicitDefEqProofs [-loopQ_n, h, w1]) <;> (repeat' (first | (refine condD_dec ?_ ?_ <;> (intro hc; (try simp -implicitDefEqProofs [-loopQ_n, hc, h, w1]))) | (refine guardD_dec ?_ ?_ <;> (intro hc; (try simp -implicitDefEqProofs [-loopQ_n, hc, h, w1]))) | (refine condD_intro ?_ ?_ <;> (intro hd; have hc := hd; (try simp at hc) <;> (try simp -implicitDefEqProofs [-loopQ_n, hd, hc, h, w1]))) | (refine guardD_intro ?_ ?_ <;> (intro hd; have hc := hd; (try simp at hc) <;> (try simp -implicitDefEqProofs [-loopQ_n, hd, hc, h, w1]))) | (refine ldD_ep ?_ ?_; (focus kernel_rfl); (try simp -implicitDefEqProofs [-loopQ_n, h, w1])))))
    refine loop_next (D ++ P, r.drop 20) ⟨.snoc hD (by rw [hP1, lP]) hP2, ?_⟩ (by simp only [List.length_drop]; omega) (weak_ofL 1 0 rfl (by simp) rfl ?_ ?_)
    · refine hX.trans ?_
      have := ((Stb.refl (lt := ltC cm) D).app hP3).app (Stb.refl (lt := ltC cm) (r.drop 20))
      rw [List.append_assoc, hsp] at this
      exact this
    · simp [refs, ha, hP1, lP, ← hb]
    · simp [evS_refsR]
  have hi := ins_G g cm hcmp hs D r [] N a N (by rw [List.length_append, List.append_nil]; omega) ha (by omega) hl
  rw [List.append_nil] at hi
  ((try simp -implicitDefEqProofs [-loopQ_n, h]) <;> (repeat' (first | (refine condD_dec ?_ ?_ <;> (intro hc; (try simp -implicitDefEqProofs [-loopQ_n, hc, h]))) | (refine guardD_dec ?_ ?_ <;> (intro hc; (try simp -implicitDefEqProofs [-loopQ_n, hc, h]))) | (refine condD_intro ?_ ?_ <;> (intro hd; have hc := hd; (try simp at hc) <;> (try simp -implicitDefEqProofs [-loopQ_n, hd, hc, h]))) | (refine guardD_intro ?_ ?_ <;> (intro hd; have hc := hd; (try simp at hc) <;> (try simp -implicitDefEqProofs [-loopQ_n, hd, hc, h]))) | (refine ldD_ep ?_ ?_; (focus kernel_rfl); (try simp -implicitDefEqProofs [-loopQ_n, h])))))
  refine callG_intro (hi.weaken ?_)
  rintro _ _ ⟨rfl, P, rfl, hP1, hP2, hP3⟩
  rw [List.append_nil]
  have hrun : Run (ltC cm) 20 (D ++ P) := hD.app (.last (by omega) hP2)
  have hst : Stb (ltC cm) X (D ++ P) := hX.trans ((Stb.refl D).app hP3)
  generalize D ++ P = v at *
  ((try simp -implicitDefEqProofs [-loopQ_n]) <;> (repeat' (first | (refine condD_dec ?_ ?_ <;> (intro hc; (try simp -implicitDefEqProofs [-loopQ_n, hc]))) | (refine guardD_dec ?_ ?_ <;> (intro hc; (try simp -implicitDefEqProofs [-loopQ_n, hc]))) | (refine condD_intro ?_ ?_ <;> (intro hd; have hc := hd; (try simp at hc) <;> (try simp -implicitDefEqProofs [-loopQ_n, hd, hc]))) | (refine guardD_intro ?_ ?_ <;> (intro hd; have hc := hd; (try simp at hc) <;> (try simp -implicitDefEqProofs [-loopQ_n, hd, hc]))) | (refine ldD_ep ?_ ?_; (focus kernel_rfl); (try simp -implicitDefEqProofs [-loopQ_n])))))
  refine loop_intro (σ := Nat × List EvS) (fun y => ⟨[(0, .os 0 N), (1, .int .i64 N), (2, .fn g []), (6, .int .i64 y.1)], [rowE y.2]⟩)
    (fun y => 20 ≤ y.1 ∧ y.1 ≤ 4000 ∧ Run (ltC cm) y.1 y.2 ∧ Stb (ltC cm) X y.2) (fun y => N - y.1) (20, v) ⟨by simp, by simp, hrun, hst⟩ ?_ ?_
  · refine weak_ofL 1 0 rfl (by simp) rfl ?_ ?_ <;> simp [evS_refsR, refs]
  clear hrun hst hX hD hlen hi hP2 hP3 hP1
  rintro ⟨bs, v⟩ ⟨q1, q2, hrun, hst⟩
  simp only at q1 q2 hrun hst
  have hlv := hst.1
  rw [hN] at hlv
  by_cases hbs : bs < N
  · obtain ⟨b2, hb2⟩ : ∃ b2, 2 * bs = b2 := ⟨_, rfl⟩
    have w2 : wrapI .i64 (2 * (bs : Int)) = (b2 : Int) := by rw [wrap_in (by omega) (by omega)]; omega
    have w2' : wrapI .i64 ((bs : Int) * 2) = (b2 : Int) := by rw [wrap_in (by omega) (by omega)]; omega
    ((try simp -implicitDefEqProofs [-loopQ_n, hbs, w2]) <;> (repeat' (first | (refine condD_dec ?_ ?_ <;> (intro hc; (try simp -implicitDefEqProofs [-loopQ_n, hc, hbs, w2]))) | (refine guardD_dec ?_ ?_ <;> (intro hc; (try simp -implicitDefEqProofs [-loopQ_n, hc, hbs, w2]))) | (refine condD_intro ?_ ?_ <;> (intro hd; have hc := hd; (try simp at hc) <;> (try simp -implicitDefEqProofs [-loopQ_n, hd, hc, hbs, w2]))) | (refine guardD_intro ?_ ?_ <;> (intro hd; have hc := hd; (try simp at hc) <;> (try simp -implicitDefEqProofs [-loopQ_n, hd, hc, hbs, w2]))) | (refine ldD_ep ?_ ?_; (focus kernel_rfl); (try simp -implicitDefEqProofs [-loopQ_n, hbs, w2])))))
    refine loop_intro (σ := List EvS × List EvS) (fun y => ⟨[(0, .os 0 N), (1, .int .i64 N), (2, .fn g []), (6, .int .i64 bs), (7, .int .i64 (y.1.length : Nat)), (8, .int .i64 (y.1.length + b2 : Nat))], [rowE (y.1 ++ y.2)]⟩)
      (fun y => RunE (ltC cm) b2 y.1 ∧ Run (ltC cm) bs y.2 ∧ Stb (ltC cm) X (y.1 ++ y.2)) (fun y => y.2.length) ([], v) ⟨.nil, hrun, hst⟩ ?_ ?_
    · refine weak_ofL 1 0 rfl (by simp) rfl ?_ ?_ <;> simp [evS_refsR, refs]
    clear hrun hst hlv
    rintro ⟨D, r⟩ ⟨hD, hr, hX⟩
    simp only at hD hr hX
    have hlen := hX.1
    rw [List.length_append, hN] at hlen
    obtain ⟨a, ha⟩ : ∃ a, D.length = a := ⟨_, rfl⟩
    obtain ⟨b, hb⟩ : ∃ b, a + b2 = b := ⟨_, rfl⟩
    obtain ⟨m, hm⟩ : ∃ m, a + bs = m := ⟨_, rfl⟩
    rw [ha] at hlen
    rw [ha, hb]
    have w3 := wi_add (a := a) (b := bs) (by omega)
    rw [hm] at w3
    by_cases h : b ≤ N
    · obtain ⟨P, Q, q, rfl, lP, lQ, sP, sQ, hq⟩ := hr.two (by omega) (by omega)
      have hNl : (D ++ (P ++ (Q ++ q))).length = N := by rw [List.length_append]; omega
      have hi := (hsym D P Q q sP sQ (fun e => by rw [e] at lP; simp at lP; omega) (fun e => by rw [e] at lQ; simp at lQ; omega) (by omega)).at2 hNl ha (m := m) (b := b) (by omega) (by omega)
      obtain ⟨w, hw⟩ : ∃ w, D ++ (P ++ (Q ++ q)) = w := ⟨_, rfl⟩
      rw [hw] at hi ⊢
      have w4 := wi_add (a := b) (b := b2) (by omega)
      ((try simp -implicitDefEqProofs [-loopQ_n, h, w2, w3, w4]) <;> (repeat' (first | (refine condD_dec ?_ ?_ <;> (intro hc; (try simp -implicitDefEqProofs [-loopQ_n, hc, h, w2, w3, w4]))) | (refine guardD_dec ?_ ?_ <;> (intro hc; (try simp -implicitDefEqProofs [-loopQ_n, hc, h, w2, w3, w4]))) | (refine condD_intro ?_ ?_ <;> (intro hd; have hc := hd; (try simp at hc) <;> (try simp -implicitDefEqProofs [-loopQ_n, hd, hc, h, w2, w3, w4]))) | (refine guardD_intro ?_ ?_ <;> (intro hd; have hc := hd; (try simp at hc) <;> (try simp -implicitDefEqProofs [-loopQ_n, hd, hc, h, w2, w3, w4]))) | (refine ldD_ep ?_ ?_; (focus kernel_rfl); (try simp -implicitDefEqProofs [-loopQ_n, h, w2, w3, w4])))))
      refine callG_intro (hi.weaken ?_)
      rintro _ _ ⟨rfl, R, rfl, hR1, hR2⟩
      have hRl : R.length = b2 := by rw [← hR2.1, List.length_append]; omega
      ((try simp -implicitDefEqProofs [-loopQ_n, h, w2, w3, w4]) <;> (repeat' (first | (refine condD_dec ?_ ?_ <;> (intro hc; (try simp -implicitDefEqProofs [-loopQ_n, hc, h, w2, w3, w4]))) | (refine guardD_dec ?_ ?_ <;> (intro hc; (try simp -implicitDefEqProofs [-loopQ_n, hc, h, w2, w3, w4]))) | (refine condD_intro ?_ ?_ <;> (intro hd; have hc := hd; (try simp at hc) <;> (try simp -implicitDefEqProofs [-loopQ_n, hd, hc, h, w2, w3, w4]))) | (refine guardD_intro ?_ ?_ <;> (intro hd; have hc := hd; (try simp at hc) <;> (try simp -implicitDefEqProofs [-loopQ_n, hd, hc, h, w2, w3, w4]))) | (refine ldD_ep ?_ ?_; (focus kernel_rfl); (try simp -implicitDefEqProofs [-loopQ_n, h, w2, w3, w4])))))
      refine loop_next (D ++ R, q) ⟨.snoc hD hRl hR1, hq, ?_⟩ (by simp only [List.length_append]; omega) (weak_ofL 1 0 rfl (by simp) rfl ?_ ?_)
      · refine hX.trans ?_
        have := ((Stb.refl (lt := ltC cm) D).app hR2).app (Stb.refl (lt := ltC cm) q)
        simpa using this
      · simp [refs, ha, hRl, ← hb]
      · simp [evS_refsR]
    by_cases hmN : m < N
    · obtain ⟨P, Q, rfl, lP, sP, hq⟩ := hr.one (by omega)
      rw [List.length_append] at hlen
      have hNl : (D ++ (P ++ (Q ++ []))).length = N := by simp only [List.length_append, List.length_nil]; omega
      have hi := (hsym D P Q [] sP (hq.all (by omega)) (fun e => by rw [e] at lP; simp at lP; omega) (fun e => by rw [e] at hlen; simp at hlen; omega) (by omega)).at2 hNl ha (m := m) (b := N) (by omega) (by omega)
      rw [List.append_nil] at hi
      obtain ⟨w, hw⟩ : ∃ w, D ++ (P ++ Q) = w := ⟨_, rfl⟩
      rw [hw] at hi ⊢
      ((try simp -implicitDefEqProofs [-loopQ_n, h, w3, hmN]) <;> (repeat' (first | (refine condD_dec ?_ ?_ <;> (intro hc; (try simp -implicitDefEqProofs [-loopQ_n, hc, h, w3, hmN]))) | (refine guardD_dec ?_ ?_ <;> (intro hc; (try simp -implicitDefEqProofs [-loopQ_n, hc, h, w3, hmN]))) | (refine condD_intro ?_ ?_ <;> (intro hd; have hc := hd; (try simp at hc) <;> (try simp -implicitDefEqProofs [-loopQ_n, hd, hc, h, w3, hmN]))) | (refine guardD_intro ?_ ?_ <;> (intro hd; have hc := hd; (try simp at hc) <;> (try simp -implicitDefEqProofs [-loopQ_n, hd, hc, h, w3, hmN]))) | (refine ldD_ep ?_ ?_; (focus kernel_rfl); (try simp -implicitDefEqProofs [-loopQ_n, h, w3, hmN])))))
      refine callG_intro (hi.weaken ?_)
      rintro _ _ ⟨rfl, R, rfl, hR1, hR2⟩
      rw [List.append_nil]
      have hRl : R.length = P.length + Q.length := by rw [← hR2.1, List.length_append]
      ((try simp -implicitDefEqProofs [-loopQ_n, w2']) <;> (repeat' (first | (refine condD_dec ?_ ?_ <;> (intro hc; (try simp -implicitDefEqProofs [-loopQ_n, hc, w2']))) | (refine guardD_dec ?_ ?_ <;> (intro hc; (try simp -implicitDefEqProofs [-loopQ_n, hc, w2']))) | (refine condD_intro ?_ ?_ <;> (intro hd; have hc := hd; (try simp at hc) <;> (try simp -implicitDefEqProofs [-loopQ_n, hd, hc, w2']))) | (refine guardD_intro ?_ ?_ <;> (intro hd; have hc := hd; (try simp at hc) <;> (try simp -implicitDefEqProofs [-loopQ_n, hd, hc, w2']))) | (refine ldD_ep ?_ ?_; (focus kernel_rfl); (try simp -implicitDefEqProofs [-loopQ_n, w2'])))))
      refine loop_next (b2, D ++ R) ⟨by simp only; omega, by simp only; omega, hD.app (.last (by omega) hR1), ?_⟩ (by simp only; omega) (weak_ofL 1 0 rfl (by simp) rfl ?_ ?_)
      · refine hX.trans ?_
        exact (Stb.refl (lt := ltC cm) D).app hR2
      · simp [refs]
      · simp [evS_refsR]
    · have hS := hr.all (by omega)
      obtain ⟨w, hw⟩ : ∃ w, D ++ r = w := ⟨_, rfl⟩
      rw [hw]
      ((try simp -implicitDefEqProofs [-loopQ_n, h, w3, hmN, w2']) <;> (repeat' (first | (refine condD_dec ?_ ?_ <;> (intro hc; (try simp -implicitDefEqProofs [-loopQ_n, hc, h, w3, hmN, w2']))) | (refine guardD_dec ?_ ?_ <;> (intro hc; (try simp -implicitDefEqProofs [-loopQ_n, hc, h, w3, hmN, w2']))) | (refine condD_intro ?_ ?_ <;> (intro hd; have hc := hd; (try simp at hc) <;> (try simp -implicitDefEqProofs [-loopQ_n, hd, hc, h, w3, hmN, w2']))) | (refine guardD_intro ?_ ?_ <;> (intro hd; have hc := hd; (try simp at hc) <;> (try simp -implicitDefEqProofs [-loopQ_n, hd, hc, h, w3, hmN, w2']))) | (refine ldD_ep ?_ ?_; (focus kernel_rfl); (try simp -implicitDefEqProofs [-loopQ_n, h, w3, hmN, w2'])))))
      refine loop_next (b2, w) ⟨by simp only; omega, by simp only; omega, by rw [← hw]; exact hD.app (.last (by omega) hS), by rw [← hw]; exact hX⟩ (by simp only; omega) (weak_ofL 1 0 rfl (by simp) rfl ?_ ?_)
      · simp [refs]
      · simp [evS_refsR]
  · ((try simp -implicitDefEqProofs [-loopQ_n, hbs]) <;> (repeat' (first | (refine condD_dec ?_ ?_ <;> (intro hc; (try simp -implicitDefEqProofs [-loopQ_n, hc, hbs]))) | (refine guardD_dec ?_ ?_ <;> (intro hc; (try simp -implicitDefEqProofs [-loopQ_n, hc, hbs]))) | (refine condD_intro ?_ ?_ <;> (intro hd; have hc := hd; (try simp at hc) <;> (try simp -implicitDefEqProofs [-loopQ_n, hd, hc, hbs]))) | (refine guardD_intro ?_ ?_ <;> (intro hd; have hc := hd; (try simp at hc) <;> (try simp -implicitDefEqProofs [-loopQ_n, hd, hc, hbs]))) | (refine ldD_ep ?_ ?_; (focus kernel_rfl); (try simp -implicitDefEqProofs [-loopQ_n, hbs])))))
    exact endG_n (.tup []) rfl ⟨rfl, v, rfl, hrun.all (by omega), hst⟩
set_option maxHeartbeats 8000000 in
theorem sstable_G (g : Nat) (cm : EvS → EvS → Int) (hcmp : ∀ x y : EvS, Pure Try.prog g [.agg (evS x), .agg (evS y)] (.int .i64 (cm x y))) (hs : Swo (ltC cm))
    (hsym : ∀ A P Q B : List EvS, Srtd (ltC cm) P → Srtd (ltC cm) Q → P ≠ [] → Q ≠ [] → (A ++ (P ++ (Q ++ B))).length ≤ 2000 → SymC g cm A P Q B)
    (X : List EvS) (N : Nat) (hN : X.length = N) (hl : N ≤ 2000) :
    CallG Try.prog 61 [.os 0 N, .fn g []] [rowE X]
      fun r H => r = .tup [] ∧ ∃ Y : List EvS, H = [rowE Y] ∧ Srtd (ltC cm) Y ∧ Stb (ltC cm) X Y := by
  refine inl_G mixed Try.func61 rfl (by kernel_rfl) (of_decide_eq_true rfl) (by kernel_rfl) (vc_run ?_)
  ((try simp -implicitDefEqProofs [-loopQ_n, hN]) <;> (repeat' (first | (refine condD_dec ?_ ?_ <;> (intro hc; (try simp -implicitDefEqProofs [-loopQ_n, hc, hN]))) | (refine guardD_dec ?_ ?_ <;> (intro hc; (try simp -implicitDefEqProofs [-loopQ_n, hc, hN]))) | (refine condD_intro ?_ ?_ <;> (intro hd; have hc := hd; (try simp at hc) <;> (try simp -implicitDefEqProofs [-loopQ_n, hd, hc, hN]))) | (refine guardD_intro ?_ ?_ <;> (intro hd; have hc := hd; (try simp at hc) <;> (try simp -implicitDefEqProofs [-loopQ_n, hd, hc, hN]))) | (refine ldD_ep ?_ ?_; (focus kernel_rfl); (try simp -implicitDefEqProofs [-loopQ_n, hN])))))
  refine callG_intro ((stable_G g cm hcmp hs hsym X N hN hl).weaken ?_)
  rintro _ _ ⟨rfl, Y, rfl, h1, h2⟩
  ((try simp -implicitDefEqProofs [-loopQ_n]) <;> (repeat' (first | (refine condD_dec ?_ ?_ <;> (intro hc; (try simp -implicitDefEqProofs [-loopQ_n, hc]))) | (refine guardD_dec ?_ ?_ <;> (intro hc; (try simp -implicitDefEqProofs [-loopQ_n, hc]))) | (refine condD_intro ?_ ?_ <;> (intro hd; have hc := hd; (try simp at hc) <;> (try simp -implicitDefEqProofs [-loopQ_n, hd, hc]))) | (refine guardD_intro ?_ ?_ <;> (intro hd; have hc := hd; (try simp at hc) <;> (try simp -implicitDefEqProofs [-loopQ_n, hd, hc]))) | (refine ldD_ep ?_ ?_; (focus kernel_rfl); (try simp -implicitDefEqProofs [-loopQ_n])))))
  exact endG_n (.tup []) rfl ⟨rfl, Y, rfl, h1, h2⟩
end Go.Proofs.Ytnldjmokemgaoaa

/- slices.SortStableFunc on the events of a log, by their times. -/
namespace Go.Proofs.Ytnldjmokemgaoaa
set_option linter.unusedSimpArgs false
set_option linter.unusedVariables false
set_option linter.unnecessarySimpa false
set_option linter.unusedSectionVars false
open Go.RowKit
variable [Glob]
open Stab
set_option maxRecDepth 100000
theorem sym_all (g : Nat) (cm : EvS → EvS → Int) (hcmp : ∀ x y : EvS, Pure Try.prog g [.agg (evS x), .agg (evS y)] (.int .i64 (cm x y))) (hs : Swo (ltC cm)) :
    ∀ (n : Nat) (A P Q B : List EvS), P.length + Q.length ≤ n → Srtd (ltC cm) P → Srtd (ltC cm) Q → P ≠ [] → Q ≠ [] → (A ++ (P ++ (Q ++ B))).length ≤ 2000 → SymC g cm A P Q B := by
  intro n
  induction n with
  | zero => intro A P Q B h _ _ hP; exact absurd (List.eq_nil_of_length_eq_zero (by omega)) hP
  | succ n ih =>
    intro A P Q B h sP sQ hP hQ hl
    by_cases h1 : P.length = 1
    · obtain ⟨x, rfl⟩ := List.length_eq_one_iff.1 h1
      exact sym_one g cm hcmp hs A Q B x sQ hl
    by_cases h2 : Q.length = 1
    · obtain ⟨x, rfl⟩ := List.length_eq_one_iff.1 h2
      exact sym_last g cm hcmp hs A P B x sP h1 hl
    have l1 := List.length_pos_iff.2 hP
    have l2 := List.length_pos_iff.2 hQ
    have ih' : ∀ A' P' Q' B' : List EvS, P'.length + Q'.length < P.length + Q.length → Srtd (ltC cm) P' → Srtd (ltC cm) Q' → P' ≠ [] → Q' ≠ [] → (A' ++ (P' ++ (Q' ++ B'))).length ≤ 2000 → SymC g cm A' P' Q' B' :=
      fun A' P' Q' B' q => ih A' P' Q' B' (by omega)
    obtain ⟨mid, hmid⟩ : ∃ mid, (A.length + (A.length + P.length + Q.length)) / 2 = mid := ⟨_, rfl⟩
    by_cases hc : mid < A.length + P.length
    · exact sym_gen g cm hcmp hs A P Q B sP sQ (by omega) (by omega) hl ih' _ _ _ mid (mid + (A.length + P.length) - (A.length + P.length + Q.length)) mid rfl rfl rfl hmid (.inl ⟨hc, rfl, rfl⟩)
    · exact sym_gen g cm hcmp hs A P Q B sP sQ (by omega) (by omega) hl ih' _ _ _ mid A.length (A.length + P.length) rfl rfl rfl hmid (.inr ⟨hc, rfl, rfl⟩)
def evCm (x y : EvS) : Int := x.1.time - y.1.time
theorem evCm_lt {x y : EvS} : ltC evCm x y = true ↔ x.1.time < y.1.time := by
  unfold ltC evCm
  rw [decide_eq_true_eq]
  constructor <;> intro h <;> omega
theorem evCm_swo : Swo (ltC evCm) := ⟨fun x => by
    cases e : ltC evCm x x
    · rfl
    · rw [evCm_lt] at e; omega,
  fun x y z a b => by rw [evCm_lt] at *; omega,
  fun x y z a => by rw [evCm_lt] at *; rw [evCm_lt]; omega⟩
theorem merge1_pure (x y : EvS) : Pure Try.prog 62 [.agg (evS x), .agg (evS y)] (.int .i64 (evCm x y)) := by
  obtain ⟨⟨c, a, r, life, time, data⟩, hx⟩ := x
  obtain ⟨⟨c', a', r', life', time', data'⟩, hy⟩ := y
  simp only at hx hy
  have w1 : wrapI .i64 (time - time') = time - time' := wrap_in (by omega) (by omega)
  refine pure_of mixed Try.func62 rfl (by kernel_rfl) (of_decide_eq_true rfl) (by kernel_rfl) (vc_run ?_)
  ((try simp -implicitDefEqProofs [-loopQ_n, evS, evtC, evCm, w1]) <;> (repeat' (first | (refine condD_dec ?_ ?_ <;> (intro hc; (try simp -implicitDefEqProofs [-loopQ_n, hc, evS, evtC, evCm, w1]))) | (refine guardD_dec ?_ ?_ <;> (intro hc; (try simp -implicitDefEqProofs [-loopQ_n, hc, evS, evtC, evCm, w1]))) | (refine condD_intro ?_ ?_ <;> (intro hd; have hc := hd; (try simp at hc) <;> (try simp -implicitDefEqProofs [-loopQ_n, hd, hc, evS, evtC, evCm, w1]))) | (refine guardD_intro ?_ ?_ <;> (intro hd; have hc := hd; (try simp at hc) <;> (try simp -implicitDefEqProofs [-loopQ_n, hd, hc, evS, evtC, evCm, w1]))) | (refine ldD_ep ?_ ?_; (focus kernel_rfl); (try simp -implicitDefEqProofs [-loopQ_n, evS, evtC, evCm, w1])))))
/-- The events of a log, sorted by their times. -/
theorem sortE_G (X : List EvS) (N : Nat) (hN : X.length = N) (hl : N ≤ 2000) :
    CallG Try.prog 61 [.os 0 N, .fn 62 []] [rowE X]
      fun r H => r = .tup [] ∧ ∃ Y : List EvS, H = [rowE Y] ∧ Srtd (ltC evCm) Y ∧ Stb (ltC evCm) X Y :=
  sstable_G _ evCm merge1_pure evCm_swo (fun A P Q B h1 h2 h3 h4 h5 => sym_all _ evCm merge1_pure evCm_swo _ A P Q B (Nat.le_refl _) h1 h2 h3 h4 h5) X N hN hl
end Go.Proofs.Ytnldjmokemgaoaa
