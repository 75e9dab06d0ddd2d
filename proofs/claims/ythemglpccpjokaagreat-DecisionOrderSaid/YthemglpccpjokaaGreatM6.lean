/- Several texts of the abstract machine, one behind the other. -/
import Derived.Test.YthemglpccpjokaaGreatM5
set_option linter.unusedSimpArgs false
set_option linter.unusedVariables false
set_option linter.unnecessarySimpa false
set_option linter.unusedSectionVars false
set_option maxRecDepth 100000
namespace Go.Proofs.YthemglpccpjokaaGreat
open Go.RowKit
variable [Glob]
def bareT (t : Tst) : Bool := decide (t.v.kind = 0 ∧ t.v.n = 0 ∧ t.v.s.toList = [])
def noB (t : Tst) : Bool := decide (t.low = 0 ∧ t.high = 0)
def tstV (x : Dom) (t : Tst) : Bool :=
  if t.kind = 1 then bareT t && noB t && decide (t.items = [])
  else if t.kind = 2 then noB t && decide (t.items = []) && valueV t.v && decide (0 ≤ placeD x t.v)
  else if t.kind = 3 then bareT t && decide (t.items = []) && decide (x.kind = 2) && decide (-4503599627370496 ≤ t.low) && decide (t.low ≤ t.high) && decide (t.high ≤ 4503599627370496)
  else if t.kind = 4 ∨ t.kind = 5 then bareT t && noB t && itemsV x t.items else false
set_option maxHeartbeats 8000000 in
theorem dfits_pure (x : Dom) (t : Tst) (hx : domV x = true) (hl : t.items.length ≤ 1000000) : Pure Tryz.prog 78 [.agg (domC x), .agg (tstC t)] (.bool (tstV x t)) := by
  have hi := din_pure x t.v hx
  have hit := ditems_pure x t.items hx hl
  simp only [domC, valC] at hi hit
  refine pure_of mixed Tryz.func78 rfl (by kernel_rfl) (of_decide_eq_true rfl) (by kernel_rfl) (vc_run ?_)
  have hil : (t.items.length : Int) = 0 ↔ t.items = [] := by cases t.items <;> simp; omega
  by_cases k1 : t.kind = 1
  · clear hi hit
    ((try simp -implicitDefEqProofs [-loopQ_n, domC, tstC, k1]) <;> (repeat' (first | ((first | refine condD_dec ?_ ?_ | refine guardD_dec ?_ ?_) <;> (intro hc; (try simp -implicitDefEqProofs [-loopQ_n, hc, domC, tstC, k1]))) | ((first | refine condD_intro ?_ ?_ | refine guardD_intro ?_ ?_) <;> (intro hd; have hc := hd; (try simp at hc) <;> (try simp -implicitDefEqProofs [-loopQ_n, hd, hc, domC, tstC, k1]))) | (refine ldD_ep ?_ ?_; (focus kernel_rfl); (try simp -implicitDefEqProofs [-loopQ_n, domC, tstC, k1])))))
    all_goals (simp_all [tstV, bareT, noB])
  by_cases k2 : t.kind = 2
  · ((try simp -implicitDefEqProofs [-loopQ_n, domC, tstC, k1, k2]) <;> (repeat' (first | ((first | refine condD_dec ?_ ?_ | refine guardD_dec ?_ ?_) <;> (intro hc; (try simp -implicitDefEqProofs [-loopQ_n, hc, domC, tstC, k1, k2]))) | ((first | refine condD_intro ?_ ?_ | refine guardD_intro ?_ ?_) <;> (intro hd; have hc := hd; (try simp at hc) <;> (try simp -implicitDefEqProofs [-loopQ_n, hd, hc, domC, tstC, k1, k2]))) | ((first | (refine ldD_ep ?_ ?_; (focus kernel_rfl)) | (refine callS_mk ?_; (try simp -implicitDefEqProofs [-loopQ_n, domC, tstC, k1, k2]); (first | refine callS_intro (hi) (.inl rfl) ?_))); (try simp -implicitDefEqProofs [-loopQ_n, domC, tstC, k1, k2])))))
    all_goals clear hi hit
    all_goals (simp_all [tstV, bareT, noB])
  by_cases k3 : t.kind = 3
  · clear hi hit
    ((try simp -implicitDefEqProofs [-loopQ_n, domC, tstC, k1, k2, k3]) <;> (repeat' (first | ((first | refine condD_dec ?_ ?_ | refine guardD_dec ?_ ?_) <;> (intro hc; (try simp -implicitDefEqProofs [-loopQ_n, hc, domC, tstC, k1, k2, k3]))) | ((first | refine condD_intro ?_ ?_ | refine guardD_intro ?_ ?_) <;> (intro hd; have hc := hd; (try simp at hc) <;> (try simp -implicitDefEqProofs [-loopQ_n, hd, hc, domC, tstC, k1, k2, k3]))) | (refine ldD_ep ?_ ?_; (focus kernel_rfl); (try simp -implicitDefEqProofs [-loopQ_n, domC, tstC, k1, k2, k3])))))
    all_goals (simp_all [tstV, bareT, noB])
    all_goals (intros; omega)
  by_cases k4 : t.kind = 4
  · ((try simp -implicitDefEqProofs [-loopQ_n, domC, tstC, k1, k2, k3, k4]) <;> (repeat' (first | ((first | refine condD_dec ?_ ?_ | refine guardD_dec ?_ ?_) <;> (intro hc; (try simp -implicitDefEqProofs [-loopQ_n, hc, domC, tstC, k1, k2, k3, k4]))) | ((first | refine condD_intro ?_ ?_ | refine guardD_intro ?_ ?_) <;> (intro hd; have hc := hd; (try simp at hc) <;> (try simp -implicitDefEqProofs [-loopQ_n, hd, hc, domC, tstC, k1, k2, k3, k4]))) | ((first | (refine ldD_ep ?_ ?_; (focus kernel_rfl)) | (refine callS_mk ?_; (try simp -implicitDefEqProofs [-loopQ_n, domC, tstC, k1, k2, k3, k4]); (first | refine callS_intro (hit) (.inl rfl) ?_))); (try simp -implicitDefEqProofs [-loopQ_n, domC, tstC, k1, k2, k3, k4])))))
    all_goals clear hi hit
    all_goals (simp_all [tstV, bareT, noB])
  by_cases k5 : t.kind = 5
  · ((try simp -implicitDefEqProofs [-loopQ_n, domC, tstC, k1, k2, k3, k4, k5]) <;> (repeat' (first | ((first | refine condD_dec ?_ ?_ | refine guardD_dec ?_ ?_) <;> (intro hc; (try simp -implicitDefEqProofs [-loopQ_n, hc, domC, tstC, k1, k2, k3, k4, k5]))) | ((first | refine condD_intro ?_ ?_ | refine guardD_intro ?_ ?_) <;> (intro hd; have hc := hd; (try simp at hc) <;> (try simp -implicitDefEqProofs [-loopQ_n, hd, hc, domC, tstC, k1, k2, k3, k4, k5]))) | ((first | (refine ldD_ep ?_ ?_; (focus kernel_rfl)) | (refine callS_mk ?_; (try simp -implicitDefEqProofs [-loopQ_n, domC, tstC, k1, k2, k3, k4, k5]); (first | refine callS_intro (hit) (.inl rfl) ?_))); (try simp -implicitDefEqProofs [-loopQ_n, domC, tstC, k1, k2, k3, k4, k5])))))
    all_goals clear hi hit
    all_goals (simp_all [tstV, bareT, noB])
  · ((try simp -implicitDefEqProofs [-loopQ_n, domC, tstC, k1, k2, k3, k4, k5]) <;> (repeat' (first | ((first | refine condD_dec ?_ ?_ | refine guardD_dec ?_ ?_) <;> (intro hc; (try simp -implicitDefEqProofs [-loopQ_n, hc, domC, tstC, k1, k2, k3, k4, k5]))) | ((first | refine condD_intro ?_ ?_ | refine guardD_intro ?_ ?_) <;> (intro hd; have hc := hd; (try simp at hc) <;> (try simp -implicitDefEqProofs [-loopQ_n, hd, hc, domC, tstC, k1, k2, k3, k4, k5]))) | (refine ldD_ep ?_ ?_; (focus kernel_rfl); (try simp -implicitDefEqProofs [-loopQ_n, domC, tstC, k1, k2, k3, k4, k5])))))
    all_goals simp [tstV, k1, k2, k3, k4, k5]
end Go.Proofs.YthemglpccpjokaaGreat
namespace Go.Proofs.YthemglpccpjokaaGreat
open Go.RowKit
variable [Glob]
def noneT (t : Tst) (v b i : Bool) : Bool := (v || bareT t) && (b || noB t) && (i || decide (t.items = []))
set_option maxHeartbeats 8000000 in
theorem rnone_pure (t : Tst) (v b i : Bool) (hl : t.items.length ≤ 1000000) : Pure Tryz.prog 120 [.agg (tstC t), .bool v, .bool b, .bool i] (.bool (noneT t v b i)) := by
  refine pure_of mixed Tryz.func120 rfl (by kernel_rfl) (of_decide_eq_true rfl) (by kernel_rfl) (vc_run ?_)
  have hil : (t.items.length : Int) = 0 ↔ t.items = [] := by cases t.items <;> simp; omega
  cases v <;> cases b <;> cases i
  all_goals skip
  · ((try simp -implicitDefEqProofs [-loopQ_n, tstC]) <;> (repeat' (first | ((first | refine condD_dec ?_ ?_ | refine guardD_dec ?_ ?_) <;> (intro hc; (try simp -implicitDefEqProofs [-loopQ_n, hc, tstC]))) | ((first | refine condD_intro ?_ ?_ | refine guardD_intro ?_ ?_) <;> (intro hd; have hc := hd; (try simp at hc) <;> (try simp -implicitDefEqProofs [-loopQ_n, hd, hc, tstC]))) | (refine ldD_ep ?_ ?_; (focus kernel_rfl); (try simp -implicitDefEqProofs [-loopQ_n, tstC])))))
    all_goals (simp_all [noneT, bareT, noB])
  · ((try simp -implicitDefEqProofs [-loopQ_n, tstC]) <;> (repeat' (first | ((first | refine condD_dec ?_ ?_ | refine guardD_dec ?_ ?_) <;> (intro hc; (try simp -implicitDefEqProofs [-loopQ_n, hc, tstC]))) | ((first | refine condD_intro ?_ ?_ | refine guardD_intro ?_ ?_) <;> (intro hd; have hc := hd; (try simp at hc) <;> (try simp -implicitDefEqProofs [-loopQ_n, hd, hc, tstC]))) | (refine ldD_ep ?_ ?_; (focus kernel_rfl); (try simp -implicitDefEqProofs [-loopQ_n, tstC])))))
    all_goals (simp_all [noneT, bareT, noB])
  · ((try simp -implicitDefEqProofs [-loopQ_n, tstC]) <;> (repeat' (first | ((first | refine condD_dec ?_ ?_ | refine guardD_dec ?_ ?_) <;> (intro hc; (try simp -implicitDefEqProofs [-loopQ_n, hc, tstC]))) | ((first | refine condD_intro ?_ ?_ | refine guardD_intro ?_ ?_) <;> (intro hd; have hc := hd; (try simp at hc) <;> (try simp -implicitDefEqProofs [-loopQ_n, hd, hc, tstC]))) | (refine ldD_ep ?_ ?_; (focus kernel_rfl); (try simp -implicitDefEqProofs [-loopQ_n, tstC])))))
    all_goals (simp_all [noneT, bareT, noB])
  · ((try simp -implicitDefEqProofs [-loopQ_n, tstC]) <;> (repeat' (first | ((first | refine condD_dec ?_ ?_ | refine guardD_dec ?_ ?_) <;> (intro hc; (try simp -implicitDefEqProofs [-loopQ_n, hc, tstC]))) | ((first | refine condD_intro ?_ ?_ | refine guardD_intro ?_ ?_) <;> (intro hd; have hc := hd; (try simp at hc) <;> (try simp -implicitDefEqProofs [-loopQ_n, hd, hc, tstC]))) | (refine ldD_ep ?_ ?_; (focus kernel_rfl); (try simp -implicitDefEqProofs [-loopQ_n, tstC])))))
    all_goals (simp_all [noneT, bareT, noB])
  · ((try simp -implicitDefEqProofs [-loopQ_n, tstC]) <;> (repeat' (first | ((first | refine condD_dec ?_ ?_ | refine guardD_dec ?_ ?_) <;> (intro hc; (try simp -implicitDefEqProofs [-loopQ_n, hc, tstC]))) | ((first | refine condD_intro ?_ ?_ | refine guardD_intro ?_ ?_) <;> (intro hd; have hc := hd; (try simp at hc) <;> (try simp -implicitDefEqProofs [-loopQ_n, hd, hc, tstC]))) | (refine ldD_ep ?_ ?_; (focus kernel_rfl); (try simp -implicitDefEqProofs [-loopQ_n, tstC])))))
    all_goals (simp_all [noneT, bareT, noB])
  · ((try simp -implicitDefEqProofs [-loopQ_n, tstC]) <;> (repeat' (first | ((first | refine condD_dec ?_ ?_ | refine guardD_dec ?_ ?_) <;> (intro hc; (try simp -implicitDefEqProofs [-loopQ_n, hc, tstC]))) | ((first | refine condD_intro ?_ ?_ | refine guardD_intro ?_ ?_) <;> (intro hd; have hc := hd; (try simp at hc) <;> (try simp -implicitDefEqProofs [-loopQ_n, hd, hc, tstC]))) | (refine ldD_ep ?_ ?_; (focus kernel_rfl); (try simp -implicitDefEqProofs [-loopQ_n, tstC])))))
    all_goals (simp_all [noneT, bareT, noB])
  · ((try simp -implicitDefEqProofs [-loopQ_n, tstC]) <;> (repeat' (first | ((first | refine condD_dec ?_ ?_ | refine guardD_dec ?_ ?_) <;> (intro hc; (try simp -implicitDefEqProofs [-loopQ_n, hc, tstC]))) | ((first | refine condD_intro ?_ ?_ | refine guardD_intro ?_ ?_) <;> (intro hd; have hc := hd; (try simp at hc) <;> (try simp -implicitDefEqProofs [-loopQ_n, hd, hc, tstC]))) | (refine ldD_ep ?_ ?_; (focus kernel_rfl); (try simp -implicitDefEqProofs [-loopQ_n, tstC])))))
    all_goals (simp_all [noneT, bareT, noB])
  · ((try simp -implicitDefEqProofs [-loopQ_n, tstC]) <;> (repeat' (first | ((first | refine condD_dec ?_ ?_ | refine guardD_dec ?_ ?_) <;> (intro hc; (try simp -implicitDefEqProofs [-loopQ_n, hc, tstC]))) | ((first | refine condD_intro ?_ ?_ | refine guardD_intro ?_ ?_) <;> (intro hd; have hc := hd; (try simp at hc) <;> (try simp -implicitDefEqProofs [-loopQ_n, hd, hc, tstC]))) | (refine ldD_ep ?_ ?_; (focus kernel_rfl); (try simp -implicitDefEqProofs [-loopQ_n, tstC])))))
    all_goals (simp_all [noneT, bareT, noB])
set_option maxHeartbeats 8000000 in
theorem rtest_pure (x : Dom) (t : Tst) (hx : domV x = true) (hl : t.items.length ≤ 1000000) : Pure Tryz.prog 83 [.agg (domC x), .agg (tstC t)] (.bool (tstV x t)) := by
  have hv := rvalue_pure t.v
  have hr := rrank_pure x t.v hx
  have hit := ritems_pure x t.items hx hl
  have n1 := rnone_pure t false false false hl
  have n2 := rnone_pure t true false false hl
  have n3 := rnone_pure t false true false hl
  have n4 := rnone_pure t false false true hl
  simp only [domC, valC, tstC] at hv hr hit n1 n2 n3 n4
  refine pure_of mixed Tryz.func83 rfl (by kernel_rfl) (of_decide_eq_true rfl) (by kernel_rfl) (vc_run ?_)
  by_cases k1 : t.kind = 1
  · rw [k1] at n1
    ((try simp -implicitDefEqProofs [-loopQ_n, domC, tstC, k1]) <;> (repeat' (first | ((first | refine condD_dec ?_ ?_ | refine guardD_dec ?_ ?_) <;> (intro hc; (try simp -implicitDefEqProofs [-loopQ_n, hc, domC, tstC, k1]))) | ((first | refine condD_intro ?_ ?_ | refine guardD_intro ?_ ?_) <;> (intro hd; have hc := hd; (try simp at hc) <;> (try simp -implicitDefEqProofs [-loopQ_n, hd, hc, domC, tstC, k1]))) | ((first | (refine ldD_ep ?_ ?_; (focus kernel_rfl)) | (refine callS_mk ?_; (try simp -implicitDefEqProofs [-loopQ_n, domC, tstC, k1]); (first | refine callS_intro (n1) (.inl rfl) ?_))); (try simp -implicitDefEqProofs [-loopQ_n, domC, tstC, k1])))))
    all_goals clear hv hr hit n1 n2 n3 n4
    all_goals (simp_all [tstV, noneT])
  by_cases k2 : t.kind = 2
  · rw [k2] at n2
    ((try simp -implicitDefEqProofs [-loopQ_n, domC, tstC, k1, k2]) <;> (repeat' (first | ((first | refine condD_dec ?_ ?_ | refine guardD_dec ?_ ?_) <;> (intro hc; (try simp -implicitDefEqProofs [-loopQ_n, hc, domC, tstC, k1, k2]))) | ((first | refine condD_intro ?_ ?_ | refine guardD_intro ?_ ?_) <;> (intro hd; have hc := hd; (try simp at hc) <;> (try simp -implicitDefEqProofs [-loopQ_n, hd, hc, domC, tstC, k1, k2]))) | ((first | (refine ldD_ep ?_ ?_; (focus kernel_rfl)) | (refine callS_mk ?_; (try simp -implicitDefEqProofs [-loopQ_n, domC, tstC, k1, k2]); (first | refine callS_intro (n2) (.inl rfl) ?_ | refine callS_intro (hv) (.inl rfl) ?_ | refine callS_intro (hr) (.inl rfl) ?_))); (try simp -implicitDefEqProofs [-loopQ_n, domC, tstC, k1, k2])))))
    all_goals clear hv hr hit n1 n2 n3 n4
    all_goals (simp_all [tstV, noneT])
  by_cases k3 : t.kind = 3
  · rw [k3] at n3
    ((try simp -implicitDefEqProofs [-loopQ_n, domC, tstC, k1, k2, k3]) <;> (repeat' (first | ((first | refine condD_dec ?_ ?_ | refine guardD_dec ?_ ?_) <;> (intro hc; (try simp -implicitDefEqProofs [-loopQ_n, hc, domC, tstC, k1, k2, k3]))) | ((first | refine condD_intro ?_ ?_ | refine guardD_intro ?_ ?_) <;> (intro hd; have hc := hd; (try simp at hc) <;> (try simp -implicitDefEqProofs [-loopQ_n, hd, hc, domC, tstC, k1, k2, k3]))) | ((first | (refine ldD_ep ?_ ?_; (focus kernel_rfl)) | (refine callS_mk ?_; (try simp -implicitDefEqProofs [-loopQ_n, domC, tstC, k1, k2, k3]); (first | refine callS_intro (n3) (.inl rfl) ?_))); (try simp -implicitDefEqProofs [-loopQ_n, domC, tstC, k1, k2, k3])))))
    all_goals clear hv hr hit n1 n2 n3 n4
    all_goals (simp_all [tstV, noneT])
    all_goals (intros; omega)
  by_cases k4 : t.kind = 4
  · rw [k4] at n4
    ((try simp -implicitDefEqProofs [-loopQ_n, domC, tstC, k1, k2, k3, k4]) <;> (repeat' (first | ((first | refine condD_dec ?_ ?_ | refine guardD_dec ?_ ?_) <;> (intro hc; (try simp -implicitDefEqProofs [-loopQ_n, hc, domC, tstC, k1, k2, k3, k4]))) | ((first | refine condD_intro ?_ ?_ | refine guardD_intro ?_ ?_) <;> (intro hd; have hc := hd; (try simp at hc) <;> (try simp -implicitDefEqProofs [-loopQ_n, hd, hc, domC, tstC, k1, k2, k3, k4]))) | ((first | (refine ldD_ep ?_ ?_; (focus kernel_rfl)) | (refine callS_mk ?_; (try simp -implicitDefEqProofs [-loopQ_n, domC, tstC, k1, k2, k3, k4]); (first | refine callS_intro (n4) (.inl rfl) ?_ | refine callS_intro (hit) (.inl rfl) ?_))); (try simp -implicitDefEqProofs [-loopQ_n, domC, tstC, k1, k2, k3, k4])))))
    all_goals clear hv hr hit n1 n2 n3 n4
    all_goals (simp_all [tstV, noneT])
  by_cases k5 : t.kind = 5
  · rw [k5] at n4
    ((try simp -implicitDefEqProofs [-loopQ_n, domC, tstC, k1, k2, k3, k4, k5]) <;> (repeat' (first | ((first | refine condD_dec ?_ ?_ | refine guardD_dec ?_ ?_) <;> (intro hc; (try simp -implicitDefEqProofs [-loopQ_n, hc, domC, tstC, k1, k2, k3, k4, k5]))) | ((first | refine condD_intro ?_ ?_ | refine guardD_intro ?_ ?_) <;> (intro hd; have hc := hd; (try simp at hc) <;> (try simp -implicitDefEqProofs [-loopQ_n, hd, hc, domC, tstC, k1, k2, k3, k4, k5]))) | ((first | (refine ldD_ep ?_ ?_; (focus kernel_rfl)) | (refine callS_mk ?_; (try simp -implicitDefEqProofs [-loopQ_n, domC, tstC, k1, k2, k3, k4, k5]); (first | refine callS_intro (n4) (.inl rfl) ?_ | refine callS_intro (hit) (.inl rfl) ?_))); (try simp -implicitDefEqProofs [-loopQ_n, domC, tstC, k1, k2, k3, k4, k5])))))
    all_goals clear hv hr hit n1 n2 n3 n4
    all_goals (simp_all [tstV, noneT])
  · ((try simp -implicitDefEqProofs [-loopQ_n, domC, tstC, k1, k2, k3, k4, k5]) <;> (repeat' (first | ((first | refine condD_dec ?_ ?_ | refine guardD_dec ?_ ?_) <;> (intro hc; (try simp -implicitDefEqProofs [-loopQ_n, hc, domC, tstC, k1, k2, k3, k4, k5]))) | ((first | refine condD_intro ?_ ?_ | refine guardD_intro ?_ ?_) <;> (intro hd; have hc := hd; (try simp at hc) <;> (try simp -implicitDefEqProofs [-loopQ_n, hd, hc, domC, tstC, k1, k2, k3, k4, k5]))) | (refine ldD_ep ?_ ?_; (focus kernel_rfl); (try simp -implicitDefEqProofs [-loopQ_n, domC, tstC, k1, k2, k3, k4, k5])))))
    all_goals simp [tstV, k1, k2, k3, k4, k5]
end Go.Proofs.YthemglpccpjokaaGreat
namespace Go.Proofs.YthemglpccpjokaaGreat
open Go.RowKit
variable [Glob]
structure Rw where
  tests : List Tst
  out : Val
def rwC (r : Rw) : List AV := [.rs (rowsOf tstC r.tests), .int .i64 r.out.kind, .int .i64 r.out.n, .str r.out.s]
structure Dec where
  inputs : List Dom
  out : Dom
  hit : Int
  rows : List Rw
  order : List Val
def decC (d : Dec) : List AV := [.rs (rowsOf domC d.inputs), .str d.out.name, .int .i64 d.out.kind, .int .i64 d.out.low, .int .i64 d.out.high, .rs (rowsOf strC d.out.items), .int .i64 d.hit, .rs (rowsOf rwC d.rows), .rs (rowsOf valC d.order)]
def rowT (r : Rw) (v : List Val) : Bool := (r.tests.zip v).all fun p => tstT p.1 p.2
def hitsA : List Rw → List Val → Nat → List Int
  | [], _, _ => []
  | r :: l, v, i => (if rowT r v = true then [(i : Int)] else []) ++ hitsA l v (i + 1)
def hitsL (d : Dec) (v : List Val) : List Int := hitsA d.rows v 0
theorem ints_snoc {l : List Int} {x : Int} : rowsOf intC l ++ [[.int .i64 x]] = rowsOf intC (l ++ [x]) := by simp [rowsOf, intC]
theorem ints_refs {m : Nat} {l : List Int} : refsR m (rowsOf intC l) = true := rowsOf_refs fun x => by simp [intC, refs]
theorem ints_reify {H : List Blk} {n : Nat} {l : List Int} : (rowsOf intC l).mapM (fun row => row.mapM (reify H (n + 1))) = some (rowsOf intC l) := rowsOf_reify fun x => by simp [intC, reify]
set_option maxHeartbeats 8000000 in
theorem hits_pure (d : Dec) (v : List Val) (hl : d.rows.length ≤ 1000000) (hr : ∀ r ∈ d.rows, r.tests.length = v.length ∧ r.tests.length ≤ 1000000 ∧ ∀ t ∈ r.tests, t.items.length ≤ 1000000) : Pure Tryz.prog 53 [.agg (decC d), .rs (rowsOf valC v)] (.rs (rowsOf intC (hitsL d v))) := by
  refine pure_of mixed Tryz.func53 rfl (by kernel_rfl) (of_decide_eq_true rfl) (by kernel_rfl) (vc_run ?_)
  ((try simp -implicitDefEqProofs [-loopQ_n, decC]) <;> (repeat' (first | ((first | refine condD_dec ?_ ?_ | refine guardD_dec ?_ ?_) <;> (intro hc; (try simp -implicitDefEqProofs [-loopQ_n, hc, decC]))))))
  refine loop_intro (σ := Nat × List Int) (fun x => ⟨[(1, .rs (rowsOf valC v)), (5, .os 1 x.2.length), (12, .rs (rowsOf rwC d.rows)), (13, .int .i64 d.rows.length), (14, .int .i64 x.1)], [.gone, .row 3 true (rowsOf intC x.2)]⟩)
    (fun x => x.1 ≤ d.rows.length ∧ x.2.length ≤ x.1 ∧ x.2 ++ hitsA (d.rows.drop x.1) v x.1 = hitsL d v) (fun x => d.rows.length - x.1) (0, []) ⟨by simp, by simp, by simp [hitsL]⟩ ?_ ?_
  · refine weak_of 1 1 rfl rfl ?_ ?_ <;> simp
  rintro ⟨i, acc⟩ ⟨hi, hlen, hR⟩
  simp only at hi hlen hR
  by_cases h : i < d.rows.length
  · have w1 := w_succB h (by omega)
    have hrm := hr _ (List.getElem_mem h)
    obtain ⟨⟨ts, out⟩, hf⟩ : ∃ e, d.rows[i] = e := ⟨_, rfl⟩
    rw [hf] at hrm
    simp only at hrm
    rw [List.drop_eq_getElem_cons h, hf, hitsA] at hR
    have hai : acc.length + 1 ≤ 1073741824 := by omega
    ((try simp -implicitDefEqProofs [-loopQ_n, h, hf, rwC]) <;> (repeat' (first | ((first | refine condD_dec ?_ ?_ | refine guardD_dec ?_ ?_) <;> (intro hc; (try simp -implicitDefEqProofs [-loopQ_n, hc, h, hf, rwC]))))))
    refine loop_intro (σ := Nat × Bool) (fun x => ⟨[(1, .rs (rowsOf valC v)), (5, .os 1 acc.length), (6, .int .i64 i), (8, .bool x.2), (12, .rs (rowsOf rwC d.rows)), (13, .int .i64 d.rows.length), (14, .int .i64 i), (20, .rs (rowsOf tstC ts)), (21, .int .i64 ts.length), (22, .int .i64 x.1)], [.gone, .row 3 true (rowsOf intC acc)]⟩)
      (fun x => x.1 ≤ ts.length ∧ (x.2 && ((ts.drop x.1).zip (v.drop x.1)).all fun p => tstT p.1 p.2) = rowT ⟨ts, out⟩ v) (fun x => ts.length - x.1) (0, true) ⟨by simp, by simp [rowT]⟩ ?_ ?_
    · refine weak_of 2 0 rfl rfl ?_ ?_ <;> simp [ints_refs]
    rintro ⟨k, b⟩ ⟨hk, hB⟩
    simp only at hk hB
    by_cases g : k < ts.length
    · have w2 := w_succB g (by omega)
      have gv : k < v.length := by omega
      have htt := hrm.2.2 _ (List.getElem_mem g)
      have hof := tof_pure ts[k] v[k] htt
      obtain ⟨t, ht⟩ : ∃ e, ts[k] = e := ⟨_, rfl⟩
      obtain ⟨a, ha⟩ : ∃ e, v[k] = e := ⟨_, rfl⟩
      rw [List.drop_eq_getElem_cons g, List.drop_eq_getElem_cons gv, ht, ha] at hB
      rw [ht, ha] at hof
      simp only [tstC, valC] at hof
      simp only [List.zip_cons_cons, List.all_cons] at hB
      cases b with
      | true =>
        ((try simp -implicitDefEqProofs [-loopQ_n, g, gv, ht, ha, tstC, valC, w2]) <;> (repeat' (first | ((first | refine condD_dec ?_ ?_ | refine guardD_dec ?_ ?_) <;> (intro hc; (try simp -implicitDefEqProofs [-loopQ_n, hc, g, gv, ht, ha, tstC, valC, w2]))) | (refine callS_mk ?_; (try simp -implicitDefEqProofs [-loopQ_n, g, gv, ht, ha, tstC, valC, w2]); (first | refine callS_intro (hof) (.inl rfl) ?_); (try simp -implicitDefEqProofs [-loopQ_n, g, gv, ht, ha, tstC, valC, w2])))))
        refine loop_next (k + 1, tstT t a) ⟨by simp only; omega, by simpa using hB⟩ (by simp only; omega) (weak_of 2 0 rfl rfl ?_ ?_) <;> simp [w2, ints_refs]
      | false =>
        ((try simp -implicitDefEqProofs [-loopQ_n, g, gv, ht, ha, tstC, valC, w2]) <;> (repeat' (first | ((first | refine condD_dec ?_ ?_ | refine guardD_dec ?_ ?_) <;> (intro hc; (try simp -implicitDefEqProofs [-loopQ_n, hc, g, gv, ht, ha, tstC, valC, w2]))))))
        refine loop_next (k + 1, false) ⟨by simp only; omega, by simpa using hB⟩ (by simp only; omega) (weak_of 2 0 rfl rfl ?_ ?_) <;> simp [w2, ints_refs]
    · rw [List.drop_eq_nil_of_le (by omega)] at hB
      simp only [List.zip_nil_left, List.all_nil, Bool.and_true] at hB
      subst hB
      by_cases q : rowT ⟨ts, out⟩ v = true
      · rw [if_pos q] at hR
        ((try simp -implicitDefEqProofs [-loopQ_n, g, q, hai, w1]) <;> (repeat' (first | ((first | refine condD_dec ?_ ?_ | refine guardD_dec ?_ ?_) <;> (intro hc; (try simp -implicitDefEqProofs [-loopQ_n, hc, g, q, hai, w1]))))))
        refine loop_next (i + 1, acc ++ [(i : Int)]) ⟨by simp only; omega, by simp; omega, by simp only; rw [← hR]; simp⟩ (by simp only; omega) (weak_of 2 0 rfl rfl ?_ ?_) <;> simp [w1, ints_snoc, ints_refs]
      · rw [if_neg q] at hR
        ((try simp -implicitDefEqProofs [-loopQ_n, g, q, w1]) <;> (repeat' (first | ((first | refine condD_dec ?_ ?_ | refine guardD_dec ?_ ?_) <;> (intro hc; (try simp -implicitDefEqProofs [-loopQ_n, hc, g, q, w1]))))))
        refine loop_next (i + 1, acc) ⟨by simp only; omega, by simp only; omega, by simp only; rw [← hR]; simp⟩ (by simp only; omega) (weak_of 2 0 rfl rfl ?_ ?_) <;> simp [w1, ints_refs]
  · rw [List.drop_eq_nil_of_le (by omega)] at hR
    simp only [hitsA, List.append_nil] at hR
    ((try simp -implicitDefEqProofs [-loopQ_n, h, ints_reify, hR]) <;> (repeat' (first | ((first | refine condD_dec ?_ ?_ | refine guardD_dec ?_ ?_) <;> (intro hc; (try simp -implicitDefEqProofs [-loopQ_n, hc, h, ints_reify, hR]))))))
end Go.Proofs.YthemglpccpjokaaGreat
namespace Go.Proofs.YthemglpccpjokaaGreat
open Go.RowKit
variable [Glob]
set_option maxHeartbeats 8000000 in
theorem rhits_pure (d : Dec) (v : List Val) (hl : d.rows.length ≤ 1000000) (hr : ∀ r ∈ d.rows, r.tests.length = v.length ∧ r.tests.length ≤ 1000000 ∧ ∀ t ∈ r.tests, t.items.length ≤ 1000000) : Pure Tryz.prog 55 [.agg (decC d), .rs (rowsOf valC v)] (.rs (rowsOf intC (hitsL d v))) := by
  refine pure_of mixed Tryz.func55 rfl (by kernel_rfl) (of_decide_eq_true rfl) (by kernel_rfl) (vc_run ?_)
  ((try simp -implicitDefEqProofs [-loopQ_n, decC]) <;> (repeat' (first | ((first | refine condD_dec ?_ ?_ | refine guardD_dec ?_ ?_) <;> (intro hc; (try simp -implicitDefEqProofs [-loopQ_n, hc, decC]))))))
  refine loop_intro (σ := Nat × List Int) (fun x => ⟨[(1, .rs (rowsOf valC v)), (2, .op 0 0), (5, .os 1 x.2.length), (6, .int .i64 x.1)], [.box 29 [.rs (rowsOf domC d.inputs), .str d.out.name, .int .i64 d.out.kind, .int .i64 d.out.low, .int .i64 d.out.high, .rs (rowsOf strC d.out.items), .int .i64 d.hit, .rs (rowsOf rwC d.rows), .rs (rowsOf valC d.order)], .row 3 true (rowsOf intC x.2)]⟩)
    (fun x => x.1 ≤ d.rows.length ∧ x.2.length ≤ x.1 ∧ x.2 ++ hitsA (d.rows.drop x.1) v x.1 = hitsL d v) (fun x => d.rows.length - x.1) (0, []) ⟨by simp, by simp, by simp [hitsL]⟩ ?_ ?_
  · refine weak_of 1 1 rfl rfl ?_ ?_ <;> simp
  rintro ⟨i, acc⟩ ⟨hi, hlen, hR⟩
  simp only at hi hlen hR
  by_cases h : i < d.rows.length
  · have w1 := w_succB h (by omega)
    have hrm := hr _ (List.getElem_mem h)
    obtain ⟨⟨ts, out⟩, hf⟩ : ∃ e, d.rows[i] = e := ⟨_, rfl⟩
    rw [hf] at hrm
    simp only at hrm
    rw [List.drop_eq_getElem_cons h, hf, hitsA] at hR
    have hai : acc.length + 1 ≤ 1073741824 := by omega
    ((try simp -implicitDefEqProofs [-loopQ_n, h, hf, rwC]) <;> (repeat' (first | ((first | refine condD_dec ?_ ?_ | refine guardD_dec ?_ ?_) <;> (intro hc; (try simp -implicitDefEqProofs [-loopQ_n, hc, h, hf, rwC]))))))
    refine loop_intro (σ := Nat × Bool) (fun x => ⟨[(1, .rs (rowsOf valC v)), (2, .op 0 0), (5, .os 1 acc.length), (6, .int .i64 i), (7, .bool x.2), (8, .int .i64 x.1)], [.box 29 [.rs (rowsOf domC d.inputs), .str d.out.name, .int .i64 d.out.kind, .int .i64 d.out.low, .int .i64 d.out.high, .rs (rowsOf strC d.out.items), .int .i64 d.hit, .rs (rowsOf rwC d.rows), .rs (rowsOf valC d.order)], .row 3 true (rowsOf intC acc)]⟩)
      (fun x => x.1 ≤ v.length ∧ (x.2 && ((ts.drop x.1).zip (v.drop x.1)).all fun p => tstT p.1 p.2) = rowT ⟨ts, out⟩ v) (fun x => v.length - x.1) (0, true) ⟨by simp, by simp [rowT]⟩ ?_ ?_
    · refine weak_of 2 0 rfl rfl ?_ ?_ <;> simp [ints_refs]
    rintro ⟨k, b⟩ ⟨hk, hB⟩
    simp only at hk hB
    by_cases gv : k < v.length
    · have g : k < ts.length := by omega
      have w2 := w_succB g (by omega)
      have htt := hrm.2.2 _ (List.getElem_mem g)
      have hof := rtrue_pure ts[k] v[k] htt
      obtain ⟨t, ht⟩ : ∃ e, ts[k] = e := ⟨_, rfl⟩
      obtain ⟨a, ha⟩ : ∃ e, v[k] = e := ⟨_, rfl⟩
      rw [List.drop_eq_getElem_cons g, List.drop_eq_getElem_cons gv, ht, ha] at hB
      rw [ht, ha] at hof
      simp only [tstC, valC] at hof
      simp only [List.zip_cons_cons, List.all_cons] at hB
      cases b with
      | true =>
        ((try simp -implicitDefEqProofs [-loopQ_n, h, hf, rwC, g, gv, ht, ha, tstC, valC, w2]) <;> (repeat' (first | ((first | refine condD_dec ?_ ?_ | refine guardD_dec ?_ ?_) <;> (intro hc; (try simp -implicitDefEqProofs [-loopQ_n, hc, h, hf, rwC, g, gv, ht, ha, tstC, valC, w2]))) | (refine callS_mk ?_; (try simp -implicitDefEqProofs [-loopQ_n, h, hf, rwC, g, gv, ht, ha, tstC, valC, w2]); (first | refine callS_intro (hof) (.inl rfl) ?_); (try simp -implicitDefEqProofs [-loopQ_n, h, hf, rwC, g, gv, ht, ha, tstC, valC, w2])))))
        refine loop_next (k + 1, tstT t a) ⟨by simp only; omega, by simpa using hB⟩ (by simp only; omega) (weak_of 2 0 rfl rfl ?_ ?_) <;> simp [w2, ints_refs]
      | false =>
        ((try simp -implicitDefEqProofs [-loopQ_n, h, hf, rwC, g, gv, ht, ha, tstC, valC, w2]) <;> (repeat' (first | ((first | refine condD_dec ?_ ?_ | refine guardD_dec ?_ ?_) <;> (intro hc; (try simp -implicitDefEqProofs [-loopQ_n, hc, h, hf, rwC, g, gv, ht, ha, tstC, valC, w2]))))))
        refine loop_next (k + 1, false) ⟨by simp only; omega, by simpa using hB⟩ (by simp only; omega) (weak_of 2 0 rfl rfl ?_ ?_) <;> simp [w2, ints_refs]
    · rw [List.drop_eq_nil_of_le (by omega : ts.length ≤ k)] at hB
      simp only [List.zip_nil_left, List.all_nil, Bool.and_true] at hB
      subst hB
      by_cases q : rowT ⟨ts, out⟩ v = true
      · rw [if_pos q] at hR
        ((try simp -implicitDefEqProofs [-loopQ_n, gv, q, hai, w1]) <;> (repeat' (first | ((first | refine condD_dec ?_ ?_ | refine guardD_dec ?_ ?_) <;> (intro hc; (try simp -implicitDefEqProofs [-loopQ_n, hc, gv, q, hai, w1]))))))
        refine loop_next (i + 1, acc ++ [(i : Int)]) ⟨by simp only; omega, by simp; omega, by simp only; rw [← hR]; simp⟩ (by simp only; omega) (weak_of 2 0 rfl rfl ?_ ?_) <;> simp [w1, ints_snoc, ints_refs]
      · rw [if_neg q] at hR
        ((try simp -implicitDefEqProofs [-loopQ_n, gv, q, w1]) <;> (repeat' (first | ((first | refine condD_dec ?_ ?_ | refine guardD_dec ?_ ?_) <;> (intro hc; (try simp -implicitDefEqProofs [-loopQ_n, hc, gv, q, w1]))))))
        refine loop_next (i + 1, acc) ⟨by simp only; omega, by simp only; omega, by simp only; rw [← hR]; simp⟩ (by simp only; omega) (weak_of 2 0 rfl rfl ?_ ?_) <;> simp [w1, ints_refs]
  · rw [List.drop_eq_nil_of_le (by omega)] at hR
    simp only [hitsA, List.append_nil] at hR
    ((try simp -implicitDefEqProofs [-loopQ_n, h, ints_reify, hR]) <;> (repeat' (first | ((first | refine condD_dec ?_ ?_ | refine guardD_dec ?_ ?_) <;> (intro hc; (try simp -implicitDefEqProofs [-loopQ_n, hc, h, ints_reify, hR]))))))
end Go.Proofs.YthemglpccpjokaaGreat
namespace Go.Proofs.YthemglpccpjokaaGreat
open Go.RowKit
variable [Glob]
def valsOf (x : Dom) : List Val := (List.range (sizeD x).toNat).map fun i : Nat => nthD x i
def allA : List Dom → List (List Val)
  | [] => [[]]
  | x :: l => (valsOf x).flatMap fun a => (allA l).map fun t => a :: t
def ChO {α : Type} (nx : α → Option α) : List α → Option α → Prop
  | [], _ => False
  | [a], o => nx a = o
  | a :: b :: r, o => nx a = some b ∧ ChO nx (b :: r) o
theorem ChO.app {α : Type} {nx : α → Option α} : ∀ {L : List α} {b : α} {r : List α} {o : Option α}, ChO nx L (some b) → ChO nx (b :: r) o → ChO nx (L ++ b :: r) o
  | [a], b, r, o, h1, h2 => ⟨h1, h2⟩
  | a :: c :: l, b, r, o, h1, h2 => ⟨h1.1, ChO.app (L := c :: l) h1.2 h2⟩
theorem ChO.get {α : Type} {nx : α → Option α} : ∀ {L : List α}, ChO nx L none → ∀ k (h : k < L.length), nx L[k] = L[k + 1]?
  | [a], h, 0, _ => by
    have h : nx a = none := h
    simpa using h
  | a :: b :: r, h, 0, _ => by
    have h : nx a = some b := h.1
    simpa using h
  | a :: b :: r, h, k + 1, hk => by simpa using ChO.get (L := b :: r) h.2 k (by simpa using hk)
def nxV (x : Dom) (a : Val) : Option Val := if placeD x a + 1 < sizeD x then some (nthD x (placeD x a + 1)) else none
theorem ch_map {x : Dom} {l : List Dom} (a : Val) : ∀ {T : List (List Val)}, ChO (nextL l) T none → ChO (nextL (x :: l)) (T.map fun t => a :: t) ((nxV x a).map fun b => b :: firstA l)
  | [t], h => by
    have h : nextL l t = none := h
    show nextL (x :: l) (a :: t) = _
    simp only [nextL, h, nxV]
    split <;> rfl
  | t :: u :: r, h => by
    have h1 : nextL l t = some u := h.1
    refine ⟨?_, ch_map a (T := u :: r) h.2⟩
    simp only [nextL, h1]
theorem ch_flat {x : Dom} {l : List Dom} {r0 : List (List Val)} (h : ChO (nextL l) (firstA l :: r0) none) : ∀ {V : List Val}, ChO (nxV x) V none → ChO (nextL (x :: l)) (V.flatMap fun a => (firstA l :: r0).map fun t => a :: t) none
  | [a], hV => by
    have hV : nxV x a = none := hV
    have := ch_map (x := x) a h
    rw [hV] at this
    simpa using this
  | a :: b :: r, hV => by
    have h1 : nxV x a = some b := hV.1
    have hm := ch_map (x := x) a h
    rw [h1] at hm
    have ih := ch_flat h (V := b :: r) hV.2
    rw [List.flatMap_cons]
    rw [List.flatMap_cons] at ih ⊢
    exact ChO.app hm ih
theorem idxA_get : ∀ (l : List ByteArray), l.Nodup → ∀ (i : Nat) (hi : i < l.length) (k : Int), idxA l l[i] k = k + i
  | y :: r, h, 0, _, k => by simp [idxA]
  | y :: r, h, i + 1, hi, k => by
    have hn := List.nodup_cons.1 h
    have hi' : i < r.length := by simpa using hi
    have : y ≠ r[i] := fun e => hn.1 (e ▸ List.getElem_mem hi')
    simp only [List.getElem_cons_succ, idxA, if_neg this]
    rw [idxA_get r hn.2 i hi' (k + 1)]
    simp
    omega
theorem place_nth {x : Dom} (hx : domV x = true) {i : Int} (h0 : 0 ≤ i) (hi : i < sizeD x) : placeD x (nthD x i) = i ∧ valueV (nthD x i) = true := by
  rcases dom_kind hx with ⟨k, q1, q2, q3⟩ | k | ⟨k, q1, q2, q3, q4⟩
  · have : i < 2 := by simpa [sizeD, k] using hi
    have : i = 0 ∨ i = 1 := by omega
    rcases this with e | e <;> simp [placeD, nthD, valueV, k, q1, e, emptyS]
  · obtain ⟨h1, h2, h3, h4, h5⟩ := dom_num hx k
    have hi' : i < x.high - x.low + 1 := by simpa [sizeD, k] using hi
    have e1 : ¬ (x.low + i < x.low ∨ x.high < x.low + i) := by omega
    refine ⟨?_, ?_⟩
    · simp only [placeD, nthD, k]
      simp
      rw [if_neg e1]
      omega
    · simp only [nthD, valueV, k, numV]
      simp [emptyS]
      omega
  · have hi' : i < x.items.length := by simpa [sizeD, k] using hi
    have hn : i.toNat < x.items.length := by omega
    have hd : x.items.Nodup ∧ x.items.all textV = true := by
      simp only [domV, k] at hx
      simp at hx
      exact ⟨hx.2.2, by simpa using hx.2.1.2⟩
    have hg : x.items.getD i.toNat ByteArray.empty = x.items[i.toNat] := by simp [List.getD, hn]
    refine ⟨?_, ?_⟩
    · have := idxA_get x.items hd.1 i.toNat hn 0
      simp only [placeD, nthD, k, hg]
      simp [idxS, this]
      omega
    · have := List.all_eq_true.1 hd.2 _ (List.getElem_mem hn)
      simp only [nthD, valueV, k, hg]
      simp [this]
theorem ch_vals {x : Dom} (hx : domV x = true) : ∃ r, valsOf x = nthD x 0 :: r ∧ ChO (nxV x) (nthD x 0 :: r) none := by
  have hs := (place_lt (v := ⟨1, 0, ByteArray.empty⟩) hx (by simp [valueV, emptyS])).2.2.2
  have key : ∀ (n i : Nat), ((i + n : Nat) : Int) + 1 = sizeD x → ChO (nxV x) ((List.range' i (n + 1)).map fun i : Nat => nthD x i) none := by
    intro n
    induction n with
    | zero =>
      intro i h
      show nxV x (nthD x i) = none
      have := (place_nth hx (i := i) (by omega) (by omega)).1
      rw [nxV, this, if_neg (by omega)]
    | succ n ih =>
      intro i h
      have hp := (place_nth hx (i := i) (by omega) (by omega)).1
      have := ih (i + 1) (by omega)
      rw [List.range'_succ, List.map_cons]
      rw [List.range'_succ, List.map_cons] at this ⊢
      refine ⟨?_, this⟩
      rw [nxV, hp, if_pos (by omega)]
      simp
  have e : (sizeD x).toNat = ((sizeD x).toNat - 1) + 1 := by omega
  have h := key ((sizeD x).toNat - 1) 0 (by omega)
  refine ⟨((List.range' 1 ((sizeD x).toNat - 1)).map fun i : Nat => nthD x i), ?_, ?_⟩
  · rw [valsOf, List.range_eq_range', e, List.range'_succ]; simp
  · rw [List.range'_succ, List.map_cons] at h; simpa using h
theorem ch_all : ∀ {l : List Dom}, (∀ x ∈ l, domV x = true) → ∃ r, allA l = firstA l :: r ∧ ChO (nextL l) (firstA l :: r) none
  | [], _ => ⟨[], rfl, by show nextL [] [] = none; rfl⟩
  | x :: l, h => by
    obtain ⟨r, h1, h2⟩ := ch_all (l := l) fun y hy => h y (List.mem_cons_of_mem _ hy)
    obtain ⟨q, h3, h4⟩ := ch_vals (h x (List.mem_cons_self))
    have := ch_flat h2 h4
    rw [← h1, ← h3] at this
    have e : allA (x :: l) = firstA (x :: l) :: (r.map (fun t => nthD x 0 :: t) ++ q.flatMap fun a => (allA l).map fun t => a :: t) := by
      simp only [allA]
      rw [h3, List.flatMap_cons, h1]
      rfl
    refine ⟨_, e, ?_⟩
    rw [← e]
    exact this
theorem allA_ne {l : List Dom} (h : ∀ x ∈ l, domV x = true) : 0 < (allA l).length := by
  obtain ⟨r, h1, _⟩ := ch_all h
  rw [h1]; simp
theorem allA_first {l : List Dom} (h : ∀ x ∈ l, domV x = true) : (allA l)[0]? = some (firstA l) := by
  obtain ⟨r, h1, _⟩ := ch_all h
  rw [h1]; simp
theorem allA_next {l : List Dom} (h : ∀ x ∈ l, domV x = true) (k : Nat) (hk : k < (allA l).length) : nextL l (allA l)[k] = (allA l)[k + 1]? := by
  obtain ⟨r, h1, h2⟩ := ch_all h
  rw [← h1] at h2
  exact h2.get k hk
theorem allA_mem : ∀ {l : List Dom}, (∀ x ∈ l, domV x = true) → ∀ v ∈ allA l, assV l v = true ∧ valsV v = true
  | [], _, v, hv => by
    have : v = [] := by simpa [allA] using hv
    subst this
    exact ⟨rfl, rfl⟩
  | x :: l, h, v, hv => by
    simp only [allA, valsOf, List.mem_flatMap, List.mem_map, List.mem_range] at hv
    obtain ⟨_, ⟨i, hi, rfl⟩, t, ht, rfl⟩ := hv
    obtain ⟨h1, h2⟩ := allA_mem (fun y hy => h y (List.mem_cons_of_mem _ hy)) t ht
    obtain ⟨h3, h4⟩ := place_nth (h x (List.mem_cons_self)) (i := i) (by omega) (by omega)
    simp only [assV, Bool.and_eq_true, decide_eq_true_eq] at h1
    refine ⟨?_, ?_⟩
    · simp only [assV, List.length_cons, h1.1, List.zip_cons_cons, List.all_cons, h1.2, h3]
      simp
    · simp only [valsV, List.all_cons, h4] at h2 ⊢
      simpa using h2
end Go.Proofs.YthemglpccpjokaaGreat
namespace Go.Proofs.YthemglpccpjokaaGreat
open Go.RowKit
variable [Glob]
def memV (x : Dom) (v : Val) : Bool := valueV v && decide (0 ≤ placeD x v)
def rowV (ins : List Dom) (out : Dom) (r : Rw) : Bool := decide (r.tests.length = ins.length) && (memV out r.out && (ins.zip r.tests).all fun p => tstV p.1 p.2)
def ordG (x : Dom) : List Val → List Val → Bool
  | _, [] => true
  | p, v :: r => memV x v && (decide (v ∉ p) && ordG x (p ++ [v]) r)
def tabV (d : Dec) : Bool := d.rows.all (rowV d.inputs d.out) && (if d.hit = 4 then ordG d.out [] d.order && d.rows.all fun r => decide (r.out ∈ d.order) else decide (d.order = []))
def decV (d : Dec) : Bool := domsV d.inputs && (domV d.out && (decide (1 ≤ d.hit) && (decide (d.hit ≤ 9) && (decide (d.rows.length ≤ 60) && ((decide (d.out.kind = 2) || !decide (d.hit = 6 ∨ d.hit = 7 ∨ d.hit = 8)) && tabV d)))))
def szD (d : Dec) : Prop := d.inputs.length ≤ 1000000 ∧ d.order.length ≤ 1000000 ∧ d.rows.length ≤ 1000000 ∧ ∀ r ∈ d.rows, r.tests.length ≤ 1000000 ∧ ∀ t ∈ r.tests, t.items.length ≤ 1000000
theorem doms_mem {l : List Dom} (h : domsV l = true) : ∀ x ∈ l, domV x = true := by
  intro x hx
  simp only [domsV, Bool.and_eq_true, List.all_eq_true] at h
  exact h.1.1 x hx
theorem dvR_idx {p : Rw → Bool} {l : List Rw} {g : Nat} {caps : List AV} (hp : ∀ x ∈ l, Pure Tryz.prog g (.agg (rwC x) :: caps) (.bool (p x))) (hc : ∀ H k, caps.mapM (reify H (k + 5)) = some caps) (hf : refsL 0 caps = true) (hl : l.length ≤ 9223372036854775807) :
    Pure Tryz.prog 93 [.rs (rowsOf rwC l), .fn g caps] (.int .i64 (idxOf p l)) := by
  refine pure_of mixed Tryz.func93 rfl (by kernel_rfl) (of_decide_eq_true rfl) (by kernel_rfl) (vc_run ?_)
  simp -implicitDefEqProofs
  refine loop_intro (σ := Nat) (fun i => ⟨[(0, .rs (rowsOf rwC l)), (1, .fn g caps), (7, .int .i64 l.length), (8, .int .i64 i)], []⟩) (fun i => i ≤ l.length ∧ allF p (l.take i)) (fun i => l.length - i) 0 ⟨Nat.zero_le _, allF_nil⟩ ?_ ?_
  · refine weak_of 0 0 rfl rfl ?_ ?_ <;> simp [hf]
  · rintro i ⟨hi, hall⟩
    by_cases h : i < l.length
    · simp -implicitDefEqProofs [h, rwC]
      have hc8 : ∀ H, caps.mapM (reify H 8) = some caps := fun H => hc H 3
      refine call_intro (hp l[i] (by simp)) (by simp -implicitDefEqProofs [hc8, rwC]) (.inl rfl) ?_
      by_cases hpx : p l[i] = true
      · simp -implicitDefEqProofs [hpx]
        exact (idxOf_some p l i h hall hpx).symm
      · have hpx : p l[i] = false := by simpa using hpx
        simp -implicitDefEqProofs [hpx]
        refine ⟨i + 1, ⟨by omega, allF_succ hall h hpx⟩, by omega, weak_of 0 0 rfl rfl ?_ ?_⟩
        · simp [hf]
          exact (wrap_in (by omega) (by omega)).symm
        · simp
    · simp -implicitDefEqProofs [h]
      rw [idxOf_none p l (allF_all hall h)]
theorem dvR_any {p : Rw → Bool} {l : List Rw} {g : Nat} {caps : List AV} (hp : ∀ x ∈ l, Pure Tryz.prog g (.agg (rwC x) :: caps) (.bool (p x))) (hc : ∀ H k, caps.mapM (reify H (k + 5)) = some caps) (hf : refsL 0 caps = true) (hl : l.length ≤ 9223372036854775807) :
    Pure Tryz.prog 45 [.rs (rowsOf rwC l), .fn g caps] (.bool (l.any p)) := by
  refine pure_of mixed Tryz.func45 rfl (by kernel_rfl) (of_decide_eq_true rfl) (by kernel_rfl) (vc_run ?_)
  simp -implicitDefEqProofs
  have hc7 : ∀ H, caps.mapM (reify H 7) = some caps := fun H => hc H 2
  refine call_intro (dvR_idx hp hc hf hl) (by simp -implicitDefEqProofs [hc7]) (.inl rfl) ?_
  simp -implicitDefEqProofs
  rw [← ge_idxOf]
theorem vals_all3 {l : List Val} : allLen 3 (rowsOf valC l) = true := rowsOf_allLen fun x => rfl
theorem vals_take {l : List Val} {n : Nat} : (rowsOf valC l).take n = rowsOf valC (l.take n) := by simp [rowsOf]
theorem table1_pure (r : Rw) (d : Dec) (hl : d.order.length ≤ 1000000) : Pure Tryz.prog 122 [.agg (rwC r), .rp (decC d)] (.bool (!decide (r.out ∈ d.order))) := by
  have hk := vcontains_pure d.order r.out hl
  simp only [valC] at hk
  refine pure_of mixed Tryz.func122 rfl (by kernel_rfl) (of_decide_eq_true rfl) (by kernel_rfl) (vc_run ?_)
  ((try simp -implicitDefEqProofs [-loopQ_n, rwC, decC]) <;> (repeat' (first | ((first | refine condD_dec ?_ ?_ | refine guardD_dec ?_ ?_) <;> (intro hc; (try simp -implicitDefEqProofs [-loopQ_n, hc, rwC, decC]))) | (refine callS_mk ?_; (try simp -implicitDefEqProofs [-loopQ_n, rwC, decC]); (first | refine callS_intro (hk) (.inl rfl) ?_); (try simp -implicitDefEqProofs [-loopQ_n, rwC, decC])))))
set_option maxHeartbeats 16000000 in
theorem table_pure (d : Dec) (hs : szD d) (hi : domsV d.inputs = true) (ho : domV d.out = true) : Pure Tryz.prog 88 [.agg (decC d)] (.bool (tabV d)) := by
  obtain ⟨s1, s2, s3, s4⟩ := hs
  have hA := dvR_any (p := fun r => !decide (r.out ∈ d.order)) (l := d.rows) (g := 122) (caps := [.rp (decC d)]) (fun x _ => table1_pure x d s2)
  refine pure_of mixed Tryz.func88 rfl (by kernel_rfl) (of_decide_eq_true rfl) (by kernel_rfl) (vc_run ?_)
  ((try simp -implicitDefEqProofs [-loopQ_n, decC]) <;> (repeat' (first | ((first | refine condD_dec ?_ ?_ | refine guardD_dec ?_ ?_) <;> (intro hc; (try simp -implicitDefEqProofs [-loopQ_n, hc, decC]))))))
  refine loop_intro (σ := Nat) (fun i => ⟨[(1, .op 0 0), (10, .rs (rowsOf rwC d.rows)), (11, .int .i64 d.rows.length), (12, .int .i64 i)], [.box 29 (decC d)]⟩)
    (fun i => i ≤ d.rows.length ∧ ((d.rows.drop i).all (rowV d.inputs d.out) && (if d.hit = 4 then ordG d.out [] d.order && d.rows.all fun r => decide (r.out ∈ d.order) else decide (d.order = []))) = tabV d) (fun i => d.rows.length - i) 0 ⟨by simp, by simp [tabV]⟩ ?_ ?_
  · refine weak_of 1 0 rfl rfl ?_ ?_ <;> simp [decC]
  rintro i ⟨hi', hR⟩
  by_cases h : i < d.rows.length
  · have w1 := w_succB h (by omega)
    have hrm := s4 _ (List.getElem_mem h)
    obtain ⟨⟨ts, out⟩, hf⟩ : ∃ e, d.rows[i] = e := ⟨_, rfl⟩
    rw [hf] at hrm
    simp only at hrm
    rw [List.drop_eq_getElem_cons h, hf, List.all_cons] at hR
    have hin := din_pure d.out out ho
    simp only [domC, valC] at hin
    by_cases q1 : ts.length = d.inputs.length
    · by_cases q2 : memV d.out out = true
      · unfold memV at q2
        rw [q2] at hin
        ((try simp -implicitDefEqProofs [-loopQ_n, h, hf, rwC, decC, q1]) <;> (repeat' (first | ((first | refine condD_dec ?_ ?_ | refine guardD_dec ?_ ?_) <;> (intro hc; (try simp -implicitDefEqProofs [-loopQ_n, hc, h, hf, rwC, decC, q1]))) | (refine callS_mk ?_; (try simp -implicitDefEqProofs [-loopQ_n, h, hf, rwC, decC, q1]); (first | refine callS_intro (hin) (.inl rfl) ?_); (try simp -implicitDefEqProofs [-loopQ_n, h, hf, rwC, decC, q1])))))
        refine loop_intro (σ := Nat) (fun k => ⟨[(1, .op 0 0), (10, .rs (rowsOf rwC d.rows)), (11, .int .i64 d.rows.length), (12, .int .i64 i), (32, .rs (rowsOf tstC ts)), (33, .int .i64 ts.length), (34, .int .i64 k)], [.box 29 (decC d)]⟩)
          (fun k => k ≤ ts.length ∧ ((d.inputs.drop k).zip (ts.drop k)).all (fun p => tstV p.1 p.2) = (d.inputs.zip ts).all fun p => tstV p.1 p.2) (fun k => ts.length - k) 0 ⟨by simp, by simp⟩ ?_ ?_
        · refine weak_of 1 0 rfl rfl ?_ ?_ <;> simp [decC, q1]
        rintro k ⟨hk, hB⟩
        by_cases g : k < ts.length
        · have gi : k < d.inputs.length := by omega
          have w2 := w_succB g (by omega)
          have hft := dfits_pure d.inputs[k] ts[k] (doms_mem hi _ (List.getElem_mem gi)) (hrm.2 _ (List.getElem_mem g))
          obtain ⟨t, ht⟩ : ∃ e, ts[k] = e := ⟨_, rfl⟩
          obtain ⟨x, hx⟩ : ∃ e, d.inputs[k] = e := ⟨_, rfl⟩
          rw [List.drop_eq_getElem_cons g, List.drop_eq_getElem_cons gi, ht, hx, List.zip_cons_cons, List.all_cons] at hB
          rw [ht, hx] at hft
          simp only [tstC, domC] at hft
          by_cases q3 : tstV x t = true
          · rw [q3] at hft hB
            ((try simp -implicitDefEqProofs [-loopQ_n, g, gi, ht, hx, tstC, domC, decC, q1, w2]) <;> (repeat' (first | ((first | refine condD_dec ?_ ?_ | refine guardD_dec ?_ ?_) <;> (intro hc; (try simp -implicitDefEqProofs [-loopQ_n, hc, g, gi, ht, hx, tstC, domC, decC, q1, w2]))) | (refine callS_mk ?_; (try simp -implicitDefEqProofs [-loopQ_n, g, gi, ht, hx, tstC, domC, decC, q1, w2]); (first | refine callS_intro (hft) (.inl rfl) ?_); (try simp -implicitDefEqProofs [-loopQ_n, g, gi, ht, hx, tstC, domC, decC, q1, w2])))))
            refine loop_next (k + 1) ⟨by omega, by simpa using hB⟩ (by omega) (weak_of 1 0 rfl rfl ?_ ?_) <;> simp [w2, decC, q1]
          · have q3 : tstV x t = false := by simpa using q3
            rw [q3] at hft hB
            ((try simp -implicitDefEqProofs [-loopQ_n, g, gi, ht, hx, tstC, domC, decC, q1, w2]) <;> (repeat' (first | ((first | refine condD_dec ?_ ?_ | refine guardD_dec ?_ ?_) <;> (intro hc; (try simp -implicitDefEqProofs [-loopQ_n, hc, g, gi, ht, hx, tstC, domC, decC, q1, w2]))) | (refine callS_mk ?_; (try simp -implicitDefEqProofs [-loopQ_n, g, gi, ht, hx, tstC, domC, decC, q1, w2]); (first | refine callS_intro (hft) (.inl rfl) ?_); (try simp -implicitDefEqProofs [-loopQ_n, g, gi, ht, hx, tstC, domC, decC, q1, w2])))))
            have hz : rowV d.inputs d.out ⟨ts, out⟩ = false := by
              simp only [rowV, ← hB]; simp
            rw [← hR, hz]; simp
        · rw [List.drop_eq_nil_of_le (by omega : ts.length ≤ k)] at hB
          simp only [List.zip_nil_right, List.all_nil] at hB
          have hz : rowV d.inputs d.out ⟨ts, out⟩ = true := by
            simp only [rowV, ← hB, memV, q1, q2]; simp
          rw [hz, Bool.true_and] at hR
          ((try simp -implicitDefEqProofs [-loopQ_n, g, w1]) <;> (repeat' (first | ((first | refine condD_dec ?_ ?_ | refine guardD_dec ?_ ?_) <;> (intro hc; (try simp -implicitDefEqProofs [-loopQ_n, hc, g, w1]))))))
          refine loop_next (i + 1) ⟨by omega, hR⟩ (by omega) (weak_of 1 0 rfl rfl ?_ ?_) <;> simp [w1, decC]
      · have q2 : memV d.out out = false := by simpa using q2
        have hz : rowV d.inputs d.out ⟨ts, out⟩ = false := by simp [rowV, q2]
        unfold memV at q2
        rw [q2] at hin
        ((try simp -implicitDefEqProofs [-loopQ_n, h, hf, rwC, decC, q1]) <;> (repeat' (first | ((first | refine condD_dec ?_ ?_ | refine guardD_dec ?_ ?_) <;> (intro hc; (try simp -implicitDefEqProofs [-loopQ_n, hc, h, hf, rwC, decC, q1]))) | (refine callS_mk ?_; (try simp -implicitDefEqProofs [-loopQ_n, h, hf, rwC, decC, q1]); (first | refine callS_intro (hin) (.inl rfl) ?_); (try simp -implicitDefEqProofs [-loopQ_n, h, hf, rwC, decC, q1])))))
        rw [← hR, hz]; simp
    · have hz : rowV d.inputs d.out ⟨ts, out⟩ = false := by simp [rowV, q1]
      clear hin
      have q1' : ¬ (ts.length : Int) = d.inputs.length := by omega
      ((try simp -implicitDefEqProofs [-loopQ_n, h, hf, rwC, decC, q1']) <;> (repeat' (first | ((first | refine condD_dec ?_ ?_ | refine guardD_dec ?_ ?_) <;> (intro hc; (try simp -implicitDefEqProofs [-loopQ_n, hc, h, hf, rwC, decC, q1']))))))
      rw [← hR, hz]; simp
  rw [List.drop_eq_nil_of_le (by omega), List.all_nil, Bool.true_and] at hR
  by_cases q4 : d.hit = 4
  · rw [if_pos q4] at hR
    ((try simp -implicitDefEqProofs [-loopQ_n, h, decC, q4]) <;> (repeat' (first | ((first | refine condD_dec ?_ ?_ | refine guardD_dec ?_ ?_) <;> (intro hc; (try simp -implicitDefEqProofs [-loopQ_n, hc, h, decC, q4]))))))
    refine loop_intro (σ := Nat) (fun k => ⟨[(1, .op 0 0), (57, .rs (rowsOf valC d.order)), (58, .int .i64 d.order.length), (59, .int .i64 k)], [.box 29 (decC d)]⟩)
      (fun k => k ≤ d.order.length ∧ ordG d.out (d.order.take k) (d.order.drop k) = ordG d.out [] d.order) (fun k => d.order.length - k) 0 ⟨by simp, by simp⟩ ?_ ?_
    · refine weak_of 1 0 rfl rfl ?_ ?_ <;> simp [decC, q4]
    rintro k ⟨hk, hB⟩
    by_cases g : k < d.order.length
    · have w2 := w_succB g (by omega)
      have hin := din_pure d.out d.order[k] ho
      have hct := vcontains_pure (d.order.take k) d.order[k] (by simp; omega)
      have htk : d.order.take (k + 1) = d.order.take k ++ [d.order[k]] := by rw [List.take_append_getElem g]
      obtain ⟨v, hv⟩ : ∃ e, d.order[k] = e := ⟨_, rfl⟩
      rw [List.drop_eq_getElem_cons g, hv, ordG] at hB
      rw [hv] at hin hct htk
      simp only [valC, domC] at hin hct
      have hkl : (k : Int) ≤ d.order.length := by omega
      by_cases q5 : memV d.out v = true
      · rw [q5, Bool.true_and] at hB
        unfold memV at q5
        rw [q5] at hin
        by_cases q6 : v ∈ d.order.take k
        · rw [decide_eq_true q6] at hct
          ((try simp -implicitDefEqProofs [-loopQ_n, g, hv, valC, decC, w2, hkl, vals_all3, vals_take]) <;> (repeat' (first | ((first | refine condD_dec ?_ ?_ | refine guardD_dec ?_ ?_) <;> (intro hc; (try simp -implicitDefEqProofs [-loopQ_n, hc, g, hv, valC, decC, w2, hkl, vals_all3, vals_take]))) | (refine callS_mk ?_; (try simp -implicitDefEqProofs [-loopQ_n, g, hv, valC, decC, w2, hkl, vals_all3, vals_take]); (first | refine callS_intro (hin) (.inl rfl) ?_ | refine callS_intro (hct) (.inl rfl) ?_); (try simp -implicitDefEqProofs [-loopQ_n, g, hv, valC, decC, w2, hkl, vals_all3, vals_take])))))
          rw [← hR, ← hB]; simp [q6]
        · rw [decide_eq_false q6] at hct
          ((try simp -implicitDefEqProofs [-loopQ_n, g, hv, valC, decC, w2, hkl, vals_all3, vals_take]) <;> (repeat' (first | ((first | refine condD_dec ?_ ?_ | refine guardD_dec ?_ ?_) <;> (intro hc; (try simp -implicitDefEqProofs [-loopQ_n, hc, g, hv, valC, decC, w2, hkl, vals_all3, vals_take]))) | (refine callS_mk ?_; (try simp -implicitDefEqProofs [-loopQ_n, g, hv, valC, decC, w2, hkl, vals_all3, vals_take]); (first | refine callS_intro (hin) (.inl rfl) ?_ | refine callS_intro (hct) (.inl rfl) ?_); (try simp -implicitDefEqProofs [-loopQ_n, g, hv, valC, decC, w2, hkl, vals_all3, vals_take])))))
          refine loop_next (k + 1) ⟨by omega, by rw [htk, ← hB]; simp [q6]⟩ (by omega) (weak_of 1 0 rfl rfl ?_ ?_) <;> simp [w2, decC]
      · have q5 : memV d.out v = false := by simpa using q5
        rw [q5, Bool.false_and] at hB
        unfold memV at q5
        rw [q5] at hin
        clear hct
        ((try simp -implicitDefEqProofs [-loopQ_n, g, hv, valC, decC, w2, hkl, vals_all3, vals_take]) <;> (repeat' (first | ((first | refine condD_dec ?_ ?_ | refine guardD_dec ?_ ?_) <;> (intro hc; (try simp -implicitDefEqProofs [-loopQ_n, hc, g, hv, valC, decC, w2, hkl, vals_all3, vals_take]))) | (refine callS_mk ?_; (try simp -implicitDefEqProofs [-loopQ_n, g, hv, valC, decC, w2, hkl, vals_all3, vals_take]); (first | refine callS_intro (hin) (.inl rfl) ?_); (try simp -implicitDefEqProofs [-loopQ_n, g, hv, valC, decC, w2, hkl, vals_all3, vals_take])))))
        rw [← hR, ← hB]; simp
    · rw [List.drop_eq_nil_of_le (by omega)] at hB
      simp only [ordG] at hB
      rw [← hB, Bool.true_and] at hR
      ((try simp -implicitDefEqProofs [-loopQ_n, g, decC]) <;> (repeat' (first | ((first | refine condD_dec ?_ ?_ | refine guardD_dec ?_ ?_) <;> (intro hc; (try simp -implicitDefEqProofs [-loopQ_n, hc, g, decC]))) | (refine callS_mk ?_; (try simp -implicitDefEqProofs [-loopQ_n, g, decC]); (first | refine callS_intro (hA (fun H k => by simp) (by simp) (by omega)) (.inl rfl) ?_); (try simp -implicitDefEqProofs [-loopQ_n, g, decC])))))
      rw [← hR]; simp [List.any_eq_not_all_not]
  · rw [if_neg q4] at hR
    ((try simp -implicitDefEqProofs [-loopQ_n, h, decC, q4]) <;> (repeat' (first | ((first | refine condD_dec ?_ ?_ | refine guardD_dec ?_ ?_) <;> (intro hc; (try simp -implicitDefEqProofs [-loopQ_n, hc, h, decC, q4]))))))
    rw [← hR]
end Go.Proofs.YthemglpccpjokaaGreat
namespace Go.Proofs.YthemglpccpjokaaGreat
open Go.RowKit
variable [Glob]
def numA (n : Int) : Val := ⟨2, n, ByteArray.empty⟩
def foldO (hit : Int) (order : List Val) : Val → List Val → List Val × Int
  | b, [] => ([b], 0)
  | b, x :: r => if hit = 1 then ([], 26) else if hit = 2 then (if x = b then foldO hit order b r else ([], 26)) else if hit = 4 then foldO hit order (if idxV order x < idxV order b then x else b) r else if hit = 7 then foldO hit order (if x.n < b.n then x else b) r else if hit = 8 then foldO hit order (if b.n < x.n then x else b) r else foldO hit order b r
def sumA : List Val → Int
  | [] => 0
  | x :: r => x.n + sumA r
def outR (hit : Int) (order : List Val) (L : List Val) : List Val × Int := if hit = 5 then (L, 0) else if hit = 9 then ([numA L.length], 0) else if hit = 6 then (if sumA L < -4503599627370496 ∨ 4503599627370496 < sumA L then ([], 6) else ([numA (sumA L)], 0)) else match L with | [] => ([], 25) | b :: r => foldO hit order b r
def outsL (d : Dec) (v : List Val) : List Val := (d.rows.filter fun r => rowT r v).map Rw.out
def outD (d : Dec) (v : List Val) : List Val × Int := outR d.hit d.order (outsL d v)
theorem hits_rows (l : List Rw) (v : List Val) : ∀ (pre : List Rw), (hitsA l v pre.length).map (fun i => ((pre ++ l)[i.toNat]?).map Rw.out) = ((l.filter fun r => rowT r v).map fun r => some r.out) := by
  induction l with
  | nil => intro pre; rfl
  | cons r l ih =>
    intro pre
    have := ih (pre ++ [r])
    rw [List.length_append, List.append_assoc] at this
    simp only [List.singleton_append, List.length_singleton] at this
    rw [hitsA, List.map_append, this]
    by_cases q : rowT r v = true
    · rw [if_pos q, List.filter_cons_of_pos (by exact q)]; simp
    · rw [if_neg q, List.filter_cons_of_neg (by exact q)]; simp
theorem hits_len (d : Dec) (v : List Val) : (hitsL d v).length = (outsL d v).length := by
  have := congrArg List.length (hits_rows d.rows v [])
  simpa [hitsL, outsL] using this
theorem hits_lt (l : List Rw) (v : List Val) : ∀ i : Nat, ∀ k ∈ hitsA l v i, (i : Int) ≤ k ∧ k < i + l.length := by
  induction l with
  | nil => intro i k h; simp [hitsA] at h
  | cons r l ih =>
    intro i k h
    rw [hitsA, List.mem_append] at h
    rcases h with h | h
    · split at h
      · have : k = i := by simpa using h
        subst this; simp; omega
      · simp at h
    · have := ih (i + 1) k h
      simp only [List.length_cons]
      omega
theorem outs_get (d : Dec) (v : List Val) (i : Nat) (h : i < (hitsL d v).length) : ∃ (h1 : (hitsL d v)[i].toNat < d.rows.length) (h2 : i < (outsL d v).length), 0 ≤ (hitsL d v)[i] ∧ d.rows[(hitsL d v)[i].toNat].out = (outsL d v)[i] := by
  obtain ⟨h0, h1⟩ := hits_lt d.rows v 0 _ (List.getElem_mem h)
  have h2 : i < (outsL d v).length := by rw [← hits_len]; exact h
  have e1 := hits_rows d.rows v []
  have e := congrArg (fun l => l[i]?) e1
  simp only [List.nil_append] at e
  have hl : (hitsA d.rows v 0).length = (hitsL d v).length := rfl
  rw [List.getElem?_map, List.getElem?_map] at e
  have g1 : (hitsA d.rows v ([] : List Rw).length)[i]? = some (hitsL d v)[i] := List.getElem?_eq_getElem h
  have g2 : (d.rows.filter fun r => rowT r v)[i]? = some ((d.rows.filter fun r => rowT r v)[i]'(by simpa [outsL] using h2)) := List.getElem?_eq_getElem _
  rw [g1, g2] at e
  have h3 : (hitsL d v)[i].toNat < d.rows.length := by
    have : (hitsL d v)[i] < (0 : Nat) + d.rows.length := h1
    have : 0 ≤ (hitsL d v)[i] := h0
    omega
  refine ⟨h3, h2, h0, ?_⟩
  simp only [Option.map_some, List.getElem?_eq_getElem h3] at e
  have := Option.some.inj (Option.some.inj e)
  rw [this]
  simp [outsL]
theorem outs_mem {d : Dec} {v : List Val} {x : Val} (h : x ∈ outsL d v) : ∃ r ∈ d.rows, r.out = x := by
  simp only [outsL, List.mem_map, List.mem_filter] at h
  obtain ⟨r, h, e⟩ := h
  exact ⟨r, h.1, e⟩
theorem outs_le (d : Dec) (v : List Val) : (outsL d v).length ≤ d.rows.length := by
  simp only [outsL, List.length_map]; exact List.length_filter_le _ _
theorem dec_facts {d : Dec} (h : decV d = true) : domsV d.inputs = true ∧ domV d.out = true ∧ 1 ≤ d.hit ∧ d.hit ≤ 9 ∧ d.rows.length ≤ 60 ∧ (d.hit = 6 ∨ d.hit = 7 ∨ d.hit = 8 → d.out.kind = 2) ∧ (∀ r ∈ d.rows, rowV d.inputs d.out r = true) ∧ (d.hit ≠ 4 → d.order = []) ∧ (d.hit = 4 → ordG d.out [] d.order = true ∧ ∀ r ∈ d.rows, r.out ∈ d.order) := by
  simp only [decV, tabV, Bool.and_eq_true, decide_eq_true_eq, List.all_eq_true, Bool.or_eq_true, Bool.not_eq_true', decide_eq_false_iff_not] at h
  obtain ⟨h1, h2, h3, h4, h5, h6, h7, h8⟩ := h
  refine ⟨h1, h2, h3, h4, h5, fun q => h6.resolve_right fun n => n q, h7, fun q => ?_, fun q => ?_⟩
  · rw [if_neg q] at h8; simpa using h8
  · rw [if_pos q] at h8; simpa using h8
theorem mem_kind {x : Dom} {v : Val} (h : memV x v = true) : v.kind = x.kind := by
  simp only [memV, Bool.and_eq_true, decide_eq_true_eq] at h
  have h2 := h.2
  unfold placeD at h2
  by_cases e : v.kind = x.kind
  · exact e
  · rw [if_pos e] at h2; omega
end Go.Proofs.YthemglpccpjokaaGreat
namespace Go.Proofs.YthemglpccpjokaaGreat
open Go.RowKit
variable [Glob]
theorem idxVA_inj (l : List Val) (x y : Val) : ∀ i : Int, 0 ≤ i → 0 ≤ idxVA l x i → idxVA l x i = idxVA l y i → x = y := by
  induction l with
  | nil => intro i _ h _; simp [idxVA] at h
  | cons z r ih =>
    intro i h0 hx he
    have hge : ∀ u, 0 ≤ idxVA r u (i + 1) → i + 1 ≤ idxVA r u (i + 1) := fun u hu => by
      have key : ∀ (r : List Val) (k : Int), 0 ≤ k → 0 ≤ idxVA r u k → k ≤ idxVA r u k := by
        intro r
        induction r with
        | nil => intro k _ h; simp [idxVA] at h
        | cons a r ih2 =>
          intro k hk h
          simp only [idxVA] at h ⊢
          split
          · omega
          · rename_i e; rw [if_neg e] at h; have := ih2 (k + 1) (by omega) h; omega
      exact key r (i + 1) (by omega) hu
    simp only [idxVA] at hx he
    by_cases ex : z = x
    · rw [if_pos ex] at hx he
      by_cases ey : z = y
      · exact ex.symm.trans ey
      · rw [if_neg ey] at he
        have := hge y (by omega)
        omega
    · rw [if_neg ex] at hx he
      by_cases ey : z = y
      · rw [if_pos ey] at he
        have := hge x hx
        omega
      · rw [if_neg ey] at he
        exact ih (i + 1) (by omega) hx he
def keyO (hit : Int) (order : List Val) (x : Val) : Int := if hit = 4 then idxV order x else if hit = 7 then x.n else -x.n
def OutsOk (hit : Int) (order : List Val) (L : List Val) : Prop := (hit = 4 → ∀ x ∈ L, x ∈ order) ∧ (hit = 6 ∨ hit = 7 ∨ hit = 8 → ∀ x ∈ L, x.kind = 2 ∧ x.s = ByteArray.empty)
theorem key_inj {hit : Int} {order L : List Val} (h : OutsOk hit order L) (hh : hit = 4 ∨ hit = 7 ∨ hit = 8) {x y : Val} (hx : x ∈ L) (hy : y ∈ L) (e : keyO hit order x = keyO hit order y) : x = y := by
  rcases hh with rfl | q
  · have h1 := h.1 rfl x hx
    simp only [keyO, if_pos] at e
    exact idxVA_inj order x y 0 (by omega) ((idxV_ge order x).2 h1) e
  · have h1 := h.2 (by omega) x hx
    have h2 := h.2 (by omega) y hy
    have hn : x.n = y.n := by
      rcases q with rfl | rfl <;> simp [keyO] at e <;> omega
    obtain ⟨a1, a2, a3⟩ := x
    obtain ⟨b1, b2, b3⟩ := y
    simp only at h1 h2 hn
    rw [h1.1, h1.2, h2.1, h2.2, hn]
theorem fold_best {hit : Int} {order : List Val} (hh : hit = 4 ∨ hit = 7 ∨ hit = 8) : ∀ (r : List Val) (b : Val), ∃ m, foldO hit order b r = ([m], 0) ∧ m ∈ b :: r ∧ ∀ x ∈ b :: r, keyO hit order m ≤ keyO hit order x
  | [], b => ⟨b, rfl, by simp, by simp⟩
  | x :: r, b => by
    have step : ∃ c, foldO hit order b (x :: r) = foldO hit order c r ∧ (c = b ∨ c = x) ∧ keyO hit order c ≤ keyO hit order b ∧ keyO hit order c ≤ keyO hit order x := by
      rcases hh with rfl | rfl | rfl
      · refine ⟨_, by simp only [foldO]; simp; rfl, ?_⟩
        simp only [keyO, if_pos]
        split
        · exact ⟨.inr rfl, by omega, by omega⟩
        · exact ⟨.inl rfl, by omega, by omega⟩
      · refine ⟨if x.n < b.n then x else b, by simp [foldO], ?_⟩
        have k : ∀ y : Val, keyO 7 order y = y.n := fun y => by simp [keyO]
        by_cases q : x.n < b.n
        · rw [if_pos q]; exact ⟨.inr rfl, by rw [k, k]; omega, by rw [k]; omega⟩
        · rw [if_neg q]; exact ⟨.inl rfl, by rw [k]; omega, by rw [k, k]; omega⟩
      · refine ⟨if b.n < x.n then x else b, by simp [foldO], ?_⟩
        have k : ∀ y : Val, keyO 8 order y = -y.n := fun y => by simp [keyO]
        by_cases q : b.n < x.n
        · rw [if_pos q]; exact ⟨.inr rfl, by rw [k, k]; omega, by rw [k]; omega⟩
        · rw [if_neg q]; exact ⟨.inl rfl, by rw [k]; omega, by rw [k, k]; omega⟩
    obtain ⟨c, h1, h2, h3, h4⟩ := step
    obtain ⟨m, g1, g2, g3⟩ := fold_best hh r c
    refine ⟨m, h1.trans g1, ?_, ?_⟩
    · rcases List.mem_cons.1 g2 with rfl | g2
      · rcases h2 with rfl | rfl <;> simp
      · simp [g2]
    · have gc := g3 c (by simp)
      intro y hy
      rcases List.mem_cons.1 hy with rfl | hy
      · omega
      rcases List.mem_cons.1 hy with rfl | hy
      · omega
      · exact g3 y (by simp [hy])
theorem fold_any {order : List Val} (b : Val) : ∀ r : List Val, foldO 2 order b r = if ∀ x ∈ r, x = b then ([b], 0) else ([], 26)
  | [] => by simp [foldO]
  | x :: r => by
    simp only [foldO]
    by_cases e : x = b
    · subst e
      simp only [if_pos]
      simp [fold_any x r]
    · simp [e]
theorem fold_first {hit : Int} {order : List Val} (h : hit = 3 ∨ hit < 1 ∨ 9 < hit) (b : Val) : ∀ r : List Val, foldO hit order b r = ([b], 0)
  | [] => rfl
  | x :: r => by
    have : foldO hit order b (x :: r) = foldO hit order b r := by
      simp only [foldO]
      rw [if_neg (by omega), if_neg (by omega), if_neg (by omega), if_neg (by omega), if_neg (by omega)]
    rw [this, fold_first h b r]
theorem outR_best {hit : Int} {order L : List Val} (hh : hit = 4 ∨ hit = 7 ∨ hit = 8) (h0 : L ≠ []) : ∃ m, outR hit order L = ([m], 0) ∧ m ∈ L ∧ ∀ x ∈ L, keyO hit order m ≤ keyO hit order x := by
  cases L with
  | nil => exact absurd rfl h0
  | cons b r =>
    obtain ⟨m, g⟩ := fold_best (order := order) hh r b
    refine ⟨m, ?_, g.2⟩
    rw [← g.1]
    simp only [outR]
    rw [if_neg (by omega), if_neg (by omega), if_neg (by omega)]
theorem outR_best_of {hit : Int} {order L : List Val} (hh : hit = 4 ∨ hit = 7 ∨ hit = 8) (hok : OutsOk hit order L) {m : Val} (hm : m ∈ L) (hmin : ∀ x ∈ L, keyO hit order m ≤ keyO hit order x) : outR hit order L = ([m], 0) := by
  obtain ⟨m', h1, h2, h3⟩ := outR_best (order := order) hh (List.ne_nil_of_mem hm)
  rw [h1, key_inj hok hh h2 hm (by have := h3 m hm; have := hmin m' h2; omega)]
theorem sumA_app (a b : List Val) : sumA (a ++ b) = sumA a + sumA b := by
  induction a with
  | nil => simp [sumA]
  | cons x a ih => simp only [List.cons_append, sumA, ih]; omega
theorem numA_inj {a b : Int} (h : numA a = numA b) : a = b := congrArg Val.n h
def Win (L : List Val) : Prop := ∃ lo hi : Int, hi - lo < 1000 ∧ ∀ x ∈ L, lo ≤ x.n ∧ x.n ≤ hi
theorem sumA_bd {lo hi : Int} : ∀ {L : List Val}, (∀ x ∈ L, lo ≤ x.n ∧ x.n ≤ hi) → lo * L.length ≤ sumA L ∧ sumA L ≤ hi * L.length
  | [], _ => by simp [sumA]
  | x :: r, h => by
    have h1 := h x (by simp)
    have h2 := sumA_bd (L := r) fun y hy => h y (by simp [hy])
    simp only [sumA, List.length_cons, Int.natCast_add, Int.mul_add]
    simp
    omega
theorem outR_perm {hit : Int} {order L M : List Val} (h3 : hit ≠ 3) (h5 : hit ≠ 5) (h1 : 1 ≤ hit) (h9 : hit ≤ 9) (hok : OutsOk hit order L) (hp : L.Perm M) : outR hit order L = outR hit order M := by
  have hlen := hp.length_eq
  by_cases q9 : hit = 9
  · subst q9; simp [outR, hlen]
  by_cases q6 : hit = 6
  · subst q6
    have : sumA L = sumA M := by
      clear hok hlen
      induction hp with
      | nil => rfl
      | cons x _ ih => simp [sumA, ih]
      | swap x y l => simp [sumA]; omega
      | trans _ _ i1 i2 => exact i1.trans i2
    simp [outR, this]
  by_cases qb : hit = 4 ∨ hit = 7 ∨ hit = 8
  · by_cases e : L = []
    · subst e
      have : M = [] := List.eq_nil_of_length_eq_zero (by simpa using hlen.symm)
      rw [this]
    · obtain ⟨m, g1, g2, g3⟩ := outR_best (order := order) qb e
      rw [g1]
      refine (outR_best_of qb ⟨fun q x hx => hok.1 q x (hp.mem_iff.2 hx), fun q x hx => hok.2 q x (hp.mem_iff.2 hx)⟩ (hp.mem_iff.1 g2) fun x hx => g3 x (hp.mem_iff.2 hx)).symm
  have : hit = 1 ∨ hit = 2 := by omega
  cases L with
  | nil =>
    have : M = [] := List.eq_nil_of_length_eq_zero (by simpa using hlen.symm)
    rw [this]
  | cons b r =>
    cases M with
    | nil => simp at hlen
    | cons c s =>
      simp only [List.length_cons, Nat.add_right_cancel_iff] at hlen
      rcases this with rfl | rfl
      · cases r with
        | nil =>
          have : s = [] := List.eq_nil_of_length_eq_zero (by simpa using hlen.symm)
          subst this
          have := (hp.mem_iff (a := b)).1 (by simp)
          simp at this
          rw [this]
        | cons x r =>
          cases s with
          | nil => simp at hlen
          | cons y s => simp [outR, foldO]
      · have e1 : outR 2 order (b :: r) = foldO 2 order b r := by simp [outR]
        have e2 : outR 2 order (c :: s) = foldO 2 order c s := by simp [outR]
        rw [e1, e2, fold_any, fold_any]
        by_cases q : ∀ x ∈ r, x = b
        · have hb : ∀ x ∈ b :: r, x = b := fun x hx => (List.mem_cons.1 hx).elim id (q x)
          have hc : c = b := hb c (hp.mem_iff.2 (by simp))
          subst hc
          have hs : ∀ x ∈ s, x = c := fun x hx => hb x (hp.mem_iff.2 (by simp [hx]))
          simp [if_pos q, if_pos hs]
        · have : ¬ ∀ x ∈ s, x = c := fun q2 => by
            have hc : ∀ x ∈ c :: s, x = c := fun x hx => (List.mem_cons.1 hx).elim id (q2 x)
            have hb : b = c := hc b (hp.mem_iff.1 (by simp))
            exact q fun x hx => (hc x (hp.mem_iff.1 (by simp [hx]))).trans hb.symm
          rw [if_neg q, if_neg this]
theorem outR_one {hit : Int} {order L : List Val} (h : hit = 1 ∨ hit = 2 ∨ hit = 3) (hl : L.length < 2) : outR hit order L = match L with | [] => ([], 25) | b :: _ => ([b], 0) := by
  cases L with
  | nil => simp only [outR]; rw [if_neg (by omega), if_neg (by omega), if_neg (by omega)]
  | cons b r =>
    have : r = [] := List.eq_nil_of_length_eq_zero (by simp at hl; omega)
    subst this
    simp only [outR, foldO]; rw [if_neg (by omega), if_neg (by omega), if_neg (by omega)]
theorem outR_drop {hit : Int} {order a b c : List Val} {p r : Val} (h1 : 1 ≤ hit) (h9 : hit ≤ 9) (hok : OutsOk hit order (a ++ p :: b ++ r :: c)) (hw : hit = 6 → Win (a ++ p :: b ++ r :: c)) (hl : (a ++ p :: b ++ r :: c).length ≤ 60)
    (e1 : outR hit order (a ++ b ++ r :: c) = outR hit order (a ++ p :: b ++ r :: c)) (e2 : outR hit order (a ++ b ++ c) = outR hit order (a ++ b ++ r :: c)) : outR hit order (a ++ p :: b ++ c) = outR hit order (a ++ p :: b ++ r :: c) := by
  by_cases q5 : hit = 5
  · subst q5
    have := congrArg (fun x => x.1.length) e1
    simp [outR] at this
  by_cases q9 : hit = 9
  · subst q9
    have := congrArg (fun x => (x.1.map Val.n)) e1
    simp [outR, numA] at this
    omega
  by_cases qb : hit = 4 ∨ hit = 7 ∨ hit = 8
  · obtain ⟨m, g1, g2, g3⟩ := outR_best (order := order) qb (L := a ++ p :: b ++ r :: c) (by simp)
    have e3 := (e2.trans e1).trans g1
    have hne : a ++ b ++ c ≠ [] := by
      intro e
      rw [e] at e3
      simp only [outR] at e3
      rw [if_neg (by omega), if_neg (by omega), if_neg (by omega)] at e3
      simp at e3
    obtain ⟨m', f1, f2, f3⟩ := outR_best (order := order) qb hne
    have : m' = m := by rw [f1] at e3; simpa using e3
    subst this
    rw [g1]
    have hsub : ∀ x ∈ a ++ p :: b ++ c, x ∈ a ++ p :: b ++ r :: c := fun x hx => by
      simp only [List.mem_append, List.mem_cons] at hx ⊢
      rcases hx with (h | h | h) | h <;> simp [h]
    refine outR_best_of qb ⟨fun q x hx => hok.1 q x (hsub x hx), fun q x hx => hok.2 q x (hsub x hx)⟩ ?_ fun x hx => g3 x (hsub x hx)
    simp only [List.mem_append, List.mem_cons] at f2 ⊢
    rcases f2 with (h | h) | h <;> simp [h]
  by_cases q6 : hit = 6
  · subst q6
    simp only [outR] at e1 e2 ⊢
    simp only [if_neg (show ¬ (6 : Int) = 5 by omega), if_neg (show ¬ (6 : Int) = 9 by omega), if_pos] at e1 e2 ⊢
    obtain ⟨lo, hi, hd, hb⟩ := hw rfl
    have s0 : sumA (a ++ p :: b ++ r :: c) = sumA a + p.n + sumA b + r.n + sumA c := by simp [sumA_app, sumA]; omega
    have s1 : sumA (a ++ b ++ r :: c) = sumA a + sumA b + r.n + sumA c := by simp [sumA_app, sumA]; omega
    have s2 : sumA (a ++ b ++ c) = sumA a + sumA b + sumA c := by simp [sumA_app]; omega
    have s3 : sumA (a ++ p :: b ++ c) = sumA a + p.n + sumA b + sumA c := by simp [sumA_app, sumA]; omega
    rw [s0, s1] at e1
    rw [s1, s2] at e2
    rw [s0, s3]
    generalize hS : sumA a + sumA b + sumA c = S at *
    have hp := hb p (by simp)
    have hr := hb r (by simp)
    have hbd := sumA_bd hb
    have hbd2 := sumA_bd (L := a ++ b ++ c) (lo := lo) (hi := hi) fun x hx => hb x (by
      simp only [List.mem_append, List.mem_cons] at hx ⊢
      rcases hx with (h | h) | h <;> simp [h])
    rw [s0] at hbd
    rw [s2] at hbd2
    have hlen2 : (a ++ b ++ c).length ≤ 60 := by simp at hl ⊢; omega
    generalize hN : (a ++ p :: b ++ r :: c).length = n at *
    generalize hN2 : (a ++ b ++ c).length = n2 at *
    have hT : sumA a + p.n + sumA b + r.n + sumA c = S + p.n + r.n := by omega
    have hT1 : sumA a + sumA b + r.n + sumA c = S + r.n := by omega
    have hT3 : sumA a + p.n + sumA b + sumA c = S + p.n := by omega
    rw [hT] at e1 hbd ⊢
    rw [hT1] at e1 e2
    rw [hT3]
    by_cases big : S + p.n + r.n < -4503599627370496 ∨ 4503599627370496 < S + p.n + r.n
    · rw [if_pos big] at e1 ⊢
      have b1 : S + r.n < -4503599627370496 ∨ 4503599627370496 < S + r.n := by
        by_cases q : S + r.n < -4503599627370496 ∨ 4503599627370496 < S + r.n
        · exact q
        · rw [if_neg q] at e1; simp at e1
      rw [if_pos b1] at e2
      have b2 : S < -4503599627370496 ∨ 4503599627370496 < S := by
        by_cases q : S < -4503599627370496 ∨ 4503599627370496 < S
        · exact q
        · rw [if_neg q] at e2; simp at e2
      have b3 : S + p.n < -4503599627370496 ∨ 4503599627370496 < S + p.n := by
        by_cases hlo : 0 ≤ lo
        · have : 0 ≤ lo * (n2 : Int) := Int.mul_nonneg hlo (by omega)
          omega
        · by_cases hhi : hi ≤ 0
          · have : hi * (n2 : Int) ≤ 0 := Int.mul_nonpos_of_nonpos_of_nonneg hhi (by omega)
            omega
          · exfalso
            have k1 : -1000 * (n : Int) ≤ lo * n := Int.mul_le_mul_of_nonneg_right (by omega) (by omega)
            have k2 : hi * (n : Int) ≤ 1000 * n := Int.mul_le_mul_of_nonneg_right (by omega) (by omega)
            omega
      rw [if_pos b3]
    · rw [if_neg big] at e1 ⊢
      have b1 : ¬ (S + r.n < -4503599627370496 ∨ 4503599627370496 < S + r.n) := by
        intro q
        rw [if_pos q] at e1; simp at e1
      rw [if_neg b1] at e1 e2
      have p0 : p.n = 0 := by
        have := numA_inj (show numA (S + r.n) = numA (S + p.n + r.n) by simpa using e1)
        omega
      have b2 : ¬ (S < -4503599627370496 ∨ 4503599627370496 < S) := by
        intro q
        rw [if_pos q] at e2; simp at e2
      rw [if_neg b2] at e2
      have r0 : r.n = 0 := by
        have := numA_inj (show numA S = numA (S + r.n) by simpa using e2)
        omega
      rw [p0, r0, if_neg (by omega)]
      simp
  have : hit = 1 ∨ hit = 2 ∨ hit = 3 := by omega
  have hR : ∀ L : List Val, outR hit order L = match L with | [] => ([], 25) | b :: r => foldO hit order b r := fun L => by
    simp only [outR]; rw [if_neg (by omega), if_neg (by omega), if_neg (by omega)]
    all_goals (cases L <;> rfl)
  rcases this with rfl | rfl | rfl
  · have two : ∀ L : List Val, 2 ≤ L.length → outR 1 order L = ([], 26) := fun L h => by
      match L with
      | x :: y :: L => rw [hR]; simp [foldO]
    have len0 : 2 ≤ (a ++ p :: b ++ r :: c).length := by simp; omega
    rw [two _ len0] at e1 ⊢
    have len1 : 2 ≤ (a ++ b ++ r :: c).length := by
      by_cases q : 2 ≤ (a ++ b ++ r :: c).length
      · exact q
      · have : a = [] ∧ b = [] ∧ c = [] := by
          simp at q
          refine ⟨List.eq_nil_of_length_eq_zero (by omega), List.eq_nil_of_length_eq_zero (by omega), List.eq_nil_of_length_eq_zero (by omega)⟩
        obtain ⟨rfl, rfl, rfl⟩ := this
        rw [hR] at e1; simp [foldO] at e1
    rw [two _ len1] at e2
    have len2 : 2 ≤ (a ++ b ++ c).length := by
      generalize a ++ b ++ c = L at e2
      match L with
      | [] => rw [hR] at e2; simp at e2
      | [x] => rw [hR] at e2; simp [foldO] at e2
      | x :: y :: L => simp
    exact two _ (by simp at len2 ⊢; omega)
  · have any : ∀ L : List Val, ∀ x ∈ L, outR 2 order L = if ∀ y ∈ L, y = x then ([x], 0) else ([], 26) := fun L x hx => by
      cases L with
      | nil => cases hx
      | cons z L =>
        rw [hR]
        simp only [fold_any]
        by_cases q : ∀ y ∈ L, y = z
        · have hx' : x = z := (List.mem_cons.1 hx).elim id (q x)
          subst hx'
          rw [if_pos q, if_pos fun y hy => (List.mem_cons.1 hy).elim id (q y)]
        · rw [if_neg q, if_neg fun q2 => q fun y hy => (q2 y (by simp [hy])).trans (q2 z (by simp)).symm]
    have hne : a ++ b ++ c ≠ [] := by
      intro e
      have hA := any (a ++ b ++ r :: c) r (by simp)
      have e0 : outR 2 order ([] : List Val) = ([], 25) := by simp [outR]
      rw [e, hA, e0] at e2
      split at e2
      · exact absurd (congrArg Prod.snd e2) (by simp)
      · exact absurd (congrArg Prod.snd e2) (by simp)
    obtain ⟨x, hx⟩ := List.exists_mem_of_ne_nil _ hne
    have m0 : x ∈ a ++ p :: b ++ r :: c := by
      simp only [List.mem_append, List.mem_cons] at hx ⊢
      rcases hx with (h | h) | h <;> simp [h]
    have m1 : x ∈ a ++ b ++ r :: c := by
      simp only [List.mem_append, List.mem_cons] at hx ⊢
      rcases hx with (h | h) | h <;> simp [h]
    have m3 : x ∈ a ++ p :: b ++ c := by
      simp only [List.mem_append, List.mem_cons] at hx ⊢
      rcases hx with (h | h) | h <;> simp [h]
    rw [any _ x hx, any _ x m1] at e2
    rw [any _ x m1, any _ x m0] at e1
    rw [any _ x m3, any _ x m0]
    by_cases q : ∀ y ∈ a ++ p :: b ++ r :: c, y = x
    · have q3 : ∀ y ∈ a ++ p :: b ++ c, y = x := fun y hy => q y (by
        simp only [List.mem_append, List.mem_cons] at hy ⊢
        rcases hy with (h | h | h) | h <;> simp [h])
      rw [if_pos q, if_pos q3]
    · rw [if_neg q] at e1 ⊢
      have q1 : ¬ ∀ y ∈ a ++ b ++ r :: c, y = x := fun q1 => by rw [if_pos q1] at e1; simp at e1
      rw [if_neg q1] at e2
      have q2 : ¬ ∀ y ∈ a ++ b ++ c, y = x := fun q2 => by rw [if_pos q2] at e2; simp at e2
      rw [if_neg fun q3 => q2 fun y hy => q3 y (by
        simp only [List.mem_append, List.mem_cons] at hy ⊢
        rcases hy with (h | h) | h <;> simp [h])]
  · have first : ∀ L : List Val, outR 3 order L = match L with | [] => ([], 25) | b :: _ => ([b], 0) := fun L => by
      rw [hR]
      cases L with
      | nil => rfl
      | cons b r => simp only; rw [fold_first (.inl rfl)]
    rw [first, first]
    cases a with
    | nil => simp
    | cons x a => simp
end Go.Proofs.YthemglpccpjokaaGreat
namespace Go.Proofs.YthemglpccpjokaaGreat
open Go.RowKit
variable [Glob]
def withR (d : Dec) (R : List Rw) : Dec := ⟨d.inputs, d.out, d.hit, R, d.order⟩
theorem withR_self (d : Dec) : withR d d.rows = d := rfl
def differA (a b : Dec) : Option (List Val) := (allA a.inputs).find? fun v => decide (outD a v ≠ outD b v)
def cmpG (d : Dec) : Nat → List Rw → List Rw
  | 0, R => R
  | i + 1, R => if differA (withR d R) (withR d (R.eraseIdx i)) = none then cmpG d i (R.eraseIdx i) else cmpG d i R
def compD (d : Dec) : Dec := withR d (cmpG d d.rows.length d.rows)
def Eqv (d : Dec) (R S : List Rw) : Prop := ∀ v ∈ allA d.inputs, outD (withR d R) v = outD (withR d S) v
theorem Eqv.symm {d : Dec} {R S : List Rw} (h : Eqv d R S) : Eqv d S R := fun v hv => (h v hv).symm
theorem Eqv.trans {d : Dec} {R S T : List Rw} (h : Eqv d R S) (g : Eqv d S T) : Eqv d R T := fun v hv => (h v hv).trans (g v hv)
theorem differ_none {d : Dec} {R S : List Rw} : differA (withR d R) (withR d S) = none ↔ Eqv d R S := by
  simp only [differA, List.find?_eq_none, decide_eq_true_eq]
  exact ⟨fun h v hv => Decidable.not_not.1 (h v hv), fun h v hv q => q (h v hv)⟩
theorem differ_some {a b : Dec} {v : List Val} (h : differA a b = some v) : v ∈ allA a.inputs ∧ outD a v ≠ outD b v := by
  have h1 := List.find?_some h
  exact ⟨List.mem_of_find?_eq_some h, by simpa using h1⟩
def outsR (R : List Rw) (v : List Val) : List Val := (R.filter fun r => rowT r v).map Rw.out
theorem outD_withR (d : Dec) (R : List Rw) (v : List Val) : outD (withR d R) v = outR d.hit d.order (outsR R v) := rfl
theorem outsR_app (R S : List Rw) (v : List Val) : outsR (R ++ S) v = outsR R v ++ outsR S v := by simp [outsR]
theorem outsR_pos {r : Rw} {R : List Rw} {v : List Val} (h : rowT r v = true) : outsR (r :: R) v = r.out :: outsR R v := by
  simp only [outsR]; rw [List.filter_cons_of_pos (by exact h)]; rfl
theorem outsR_neg {r : Rw} {R : List Rw} {v : List Val} (h : ¬ rowT r v = true) : outsR (r :: R) v = outsR R v := by
  simp only [outsR]; rw [List.filter_cons_of_neg (by exact h)]
theorem place_num {x : Dom} {v : Val} (k : x.kind = 2) (h : memV x v = true) : v.kind = 2 ∧ v.s = ByteArray.empty ∧ x.low ≤ v.n ∧ v.n ≤ x.high := by
  have hk := (mem_kind h).trans k
  simp only [memV, Bool.and_eq_true, decide_eq_true_eq] at h
  obtain ⟨h1, h2⟩ := h
  refine ⟨hk, ?_, ?_⟩
  · simp only [valueV, hk] at h1
    simp at h1
    have h3 : v.s.toList = [] := by simpa [emptyS] using h1.2
    exact ba_eq (by rw [← ba_toList, ← ba_toList, h3]; simp)
  · unfold placeD at h2
    rw [if_neg (by rw [hk, k]; simp), if_neg (by omega), if_neg (by omega)] at h2
    by_cases q : v.n < x.low ∨ x.high < v.n
    · rw [if_pos q] at h2; omega
    · omega
def RowsOk (d : Dec) (R : List Rw) : Prop := R.length ≤ 60 ∧ ∀ r ∈ R, memV d.out r.out = true ∧ (d.hit = 4 → r.out ∈ d.order)
theorem rows_ok {d : Dec} (h : decV d = true) : RowsOk d d.rows := by
  obtain ⟨h1, h2, h3, h4, h5, h6, h7, h8, h9⟩ := dec_facts h
  refine ⟨h5, fun r hr => ⟨?_, fun q => (h9 q).2 r hr⟩⟩
  have := h7 r hr
  simp only [rowV, Bool.and_eq_true] at this
  exact this.2.1
theorem RowsOk.sub {d : Dec} {R S : List Rw} (h : RowsOk d R) (hs : List.Sublist S R) : RowsOk d S := ⟨Nat.le_trans hs.length_le h.1, fun r hr => h.2 r (hs.subset hr)⟩
theorem outsR_mem {R : List Rw} {v : List Val} {x : Val} (h : x ∈ outsR R v) : ∃ r ∈ R, r.out = x := by
  simp only [outsR, List.mem_map, List.mem_filter] at h
  obtain ⟨r, h, e⟩ := h
  exact ⟨r, h.1, e⟩
theorem outsR_le (R : List Rw) (v : List Val) : (outsR R v).length ≤ R.length := by simp only [outsR, List.length_map]; exact List.length_filter_le _ _
theorem outs_ok {d : Dec} (h : decV d = true) {R : List Rw} (hR : RowsOk d R) (v : List Val) : OutsOk d.hit d.order (outsR R v) ∧ (d.hit = 6 → Win (outsR R v)) ∧ (outsR R v).length ≤ 60 := by
  obtain ⟨h1, h2, h3, h4, h5, h6, h7, h8, h9⟩ := dec_facts h
  refine ⟨⟨fun q x hx => ?_, fun q x hx => ?_⟩, fun q => ⟨d.out.low, d.out.high, ?_, fun x hx => ?_⟩, Nat.le_trans (outsR_le R v) hR.1⟩
  · obtain ⟨r, hr, rfl⟩ := outsR_mem hx; exact (hR.2 r hr).2 q
  · obtain ⟨r, hr, rfl⟩ := outsR_mem hx
    have := place_num (h6 q) (hR.2 r hr).1
    exact ⟨this.1, this.2.1⟩
  · have := dom_num h2 (h6 (by omega)); omega
  · obtain ⟨r, hr, rfl⟩ := outsR_mem hx
    exact (place_num (h6 (by omega)) (hR.2 r hr).1).2.2
theorem drop_rows {d : Dec} (h : decV d = true) {A B C : List Rw} {p r : Rw} (hR : RowsOk d (A ++ p :: B ++ r :: C)) (e1 : Eqv d (A ++ B ++ r :: C) (A ++ p :: B ++ r :: C)) (e2 : Eqv d (A ++ B ++ C) (A ++ B ++ r :: C)) : Eqv d (A ++ p :: B ++ C) (A ++ p :: B ++ r :: C) := by
  intro v hv
  have e1 := e1 v hv
  have e2 := e2 v hv
  obtain ⟨o1, o2, o3⟩ := outs_ok h hR v
  obtain ⟨d1, d2, d3, d4, _⟩ := dec_facts h
  simp only [outD_withR] at e1 e2 ⊢
  by_cases hp : rowT p v = true
  · by_cases hr : rowT r v = true
    · simp only [outsR_app, outsR_pos hp, outsR_pos hr] at e1 e2 o1 o2 o3 ⊢
      exact outR_drop d3 d4 o1 o2 o3 e1 e2
    · simp only [outsR_app, outsR_neg hr]
  · by_cases hr : rowT r v = true
    · simp only [outsR_app, outsR_neg hp, outsR_pos hr] at e1 e2 ⊢
      exact e2
    · simp only [outsR_app, outsR_neg hr]
theorem list_split {R : List Rw} {i j : Nat} (hij : i ≤ j) (hj : j + 1 < R.length) : ∃ A p B r C, R = A ++ p :: B ++ r :: C ∧ A.length = i ∧ B.length = j - i := by
  refine ⟨R.take i, R[i], (R.drop (i + 1)).take (j - i), R[j + 1], R.drop (j + 2), ?_, by simp; omega, by simp; omega⟩
  have h1 : R = R.take i ++ R.drop i := (List.take_append_drop i R).symm
  have h2 : R.drop i = R[i] :: R.drop (i + 1) := List.drop_eq_getElem_cons (by omega)
  have h3 : R.drop (i + 1) = (R.drop (i + 1)).take (j - i) ++ (R.drop (i + 1)).drop (j - i) := (List.take_append_drop _ _).symm
  have h4 : (R.drop (i + 1)).drop (j - i) = R[j + 1] :: R.drop (j + 2) := by
    rw [List.drop_drop, show i + 1 + (j - i) = j + 1 by omega, List.drop_eq_getElem_cons hj]
  rw [h4] at h3
  rw [h3] at h2
  rw [h2] at h1
  simpa using h1
theorem erase_split {R : List Rw} {i j : Nat} (hij : i ≤ j) (hj : j + 1 < R.length) : ∃ A p B r C, R = A ++ p :: B ++ r :: C ∧ R.eraseIdx i = A ++ B ++ r :: C ∧ (R.eraseIdx i).eraseIdx j = A ++ B ++ C ∧ R.eraseIdx (j + 1) = A ++ p :: B ++ C := by
  obtain ⟨A, p, B, r, C, hs, hA, hB⟩ := list_split hij hj
  refine ⟨A, p, B, r, C, hs, ?_⟩
  subst hs
  have e1 : (A ++ p :: B ++ r :: C).eraseIdx i = A ++ B ++ r :: C := by
    rw [List.append_assoc, List.eraseIdx_append_of_length_le (by omega), hA]
    simp
  refine ⟨e1, ?_, ?_⟩
  · rw [e1, List.eraseIdx_append_of_length_le (by simp; omega)]
    have : j - (A ++ B).length = 0 := by simp; omega
    rw [this]; rfl
  · rw [List.eraseIdx_append_of_length_le (by simp; omega)]
    have : j + 1 - (A ++ p :: B).length = 0 := by simp; omega
    rw [this]; rfl
theorem cmpG_law {d : Dec} (h : decV d = true) : ∀ (i : Nat) (R : List Rw), RowsOk d R → i ≤ R.length → (∀ j, i ≤ j → j < R.length → ¬ Eqv d (R.eraseIdx j) R) →
    List.Sublist (cmpG d i R) R ∧ Eqv d (cmpG d i R) R ∧ ∀ j, j < (cmpG d i R).length → ¬ Eqv d ((cmpG d i R).eraseIdx j) (cmpG d i R)
  | 0, R, hR, hi, hm => ⟨List.Sublist.refl _, fun _ _ => rfl, fun j hj => hm j (by omega) hj⟩
  | i + 1, R, hR, hi, hm => by
    simp only [cmpG]
    by_cases q : differA (withR d R) (withR d (R.eraseIdx i)) = none
    · rw [if_pos q]
      have q := (differ_none.1 q).symm
      have hlen : (R.eraseIdx i).length = R.length - 1 := List.length_eraseIdx_of_lt (by omega)
      obtain ⟨g1, g2, g3⟩ := cmpG_law h i (R.eraseIdx i) (hR.sub (List.eraseIdx_sublist ..)) (by omega) (by
        intro j hij hj e
        obtain ⟨A, p, B, r, C, s1, s2, s3, s4⟩ := erase_split (R := R) hij (by omega)
        refine hm (j + 1) (by omega) (by omega) ?_
        rw [s3, s2] at e
        rw [s2, s1] at q
        rw [s4, s1]
        rw [s1] at hR
        exact drop_rows h hR q e)
      exact ⟨g1.trans (List.eraseIdx_sublist ..), g2.trans q, g3⟩
    · rw [if_neg q]
      refine cmpG_law h i R hR (by omega) fun j hij hj e => ?_
      by_cases e2 : j = i
      · subst e2; exact q (differ_none.2 e.symm)
      · exact hm j (by omega) hj e
theorem cmpG_same {d : Dec} : ∀ (i : Nat) (R : List Rw), i ≤ R.length → (∀ j, j < R.length → ¬ Eqv d (R.eraseIdx j) R) → cmpG d i R = R
  | 0, R, _, _ => rfl
  | i + 1, R, hi, hm => by
    simp only [cmpG]
    rw [if_neg fun q => hm i (by omega) (differ_none.1 q).symm]
    exact cmpG_same i R (by omega) hm
theorem dec_sub {d : Dec} (h : decV d = true) {R : List Rw} (hs : List.Sublist R d.rows) : decV (withR d R) = true := by
  simp only [decV, tabV, Bool.and_eq_true, decide_eq_true_eq, List.all_eq_true] at h ⊢
  obtain ⟨h1, h2, h3, h4, h5, h6, h7, h8⟩ := h
  refine ⟨h1, h2, h3, h4, Nat.le_trans hs.length_le h5, h6, fun r hr => h7 r (hs.subset hr), ?_⟩
  show (if d.hit = 4 then _ else _) = true
  by_cases q : d.hit = 4
  · rw [if_pos q] at h8 ⊢
    simp only [Bool.and_eq_true, List.all_eq_true] at h8 ⊢
    exact ⟨h8.1, fun r hr => h8.2 r (hs.subset hr)⟩
  · rw [if_neg q] at h8 ⊢; exact h8
theorem comp_law {d : Dec} (h : decV d = true) : ∃ R, compD d = withR d R ∧ List.Sublist R d.rows ∧ Eqv d R d.rows ∧ (∀ j, j < R.length → ¬ Eqv d (R.eraseIdx j) R) ∧ cmpG d R.length R = R ∧ decV (withR d R) = true := by
  obtain ⟨g1, g2, g3⟩ := cmpG_law h d.rows.length d.rows (rows_ok h) (Nat.le_refl _) (fun j h1 h2 => by omega)
  exact ⟨_, rfl, g1, g2, g3, cmpG_same _ _ (Nat.le_refl _) g3, dec_sub h g1⟩
end Go.Proofs.YthemglpccpjokaaGreat
namespace Go.Proofs.YthemglpccpjokaaGreat
open Go.RowKit
variable [Glob]
set_option maxHeartbeats 16000000 in
theorem dvalid_pure (d : Dec) (hs : szD d) : Pure Tryz.prog 37 [.agg (decC d)] (.bool (decV d)) := by
  have hd := doms_pure d.inputs hs.1
  have ho := dom_pure d.out
  have ht := fun (h1 : domsV d.inputs = true) (h2 : domV d.out = true) => table_pure d hs h1 h2
  obtain ⟨s1, s2, s3, s4⟩ := hs
  simp only [domC] at ho
  simp only [decC, domC] at ht
  by_cases q1 : domsV d.inputs = true
  · rw [q1] at hd
    by_cases q2 : domV d.out = true
    · rw [q2] at ho
      have ht := ht q1 q2
      refine pure_of mixed Tryz.func37 rfl (by kernel_rfl) (of_decide_eq_true rfl) (by kernel_rfl) (vc_run ?_)
      by_cases q3 : 1 ≤ d.hit ∧ d.hit ≤ 9 ∧ d.rows.length ≤ 60
      · obtain ⟨a1, a2, a3⟩ := q3
        have b1 : ¬ d.hit < 1 := by omega
        have b2 : ¬ 9 < d.hit := by omega
        have b3 : ¬ (60 : Int) < d.rows.length := by omega
        by_cases q4 : d.hit = 6 ∨ d.hit = 7 ∨ d.hit = 8
        · by_cases q5 : d.out.kind = 2
          · rw [q5] at ho ht
            rcases q4 with q | q | q
            all_goals rw [q] at ht
            all_goals skip
            · ((try simp -implicitDefEqProofs [-loopQ_n, decC, domC, b1, b2, b3, q, q5]) <;> (repeat' (first | ((first | refine condD_dec ?_ ?_ | refine guardD_dec ?_ ?_) <;> (intro hc; (try simp -implicitDefEqProofs [-loopQ_n, hc, decC, domC, b1, b2, b3, q, q5]))) | (refine callS_mk ?_; (try simp -implicitDefEqProofs [-loopQ_n, decC, domC, b1, b2, b3, q, q5]); (first | refine callS_intro (hd) (.inl rfl) ?_ | refine callS_intro (ho) (.inl rfl) ?_ | refine callS_intro (ht) (.inl rfl) ?_); (try simp -implicitDefEqProofs [-loopQ_n, decC, domC, b1, b2, b3, q, q5])))))
              simp [decV, q1, q2, q, q5, a3]
            · ((try simp -implicitDefEqProofs [-loopQ_n, decC, domC, b1, b2, b3, q, q5]) <;> (repeat' (first | ((first | refine condD_dec ?_ ?_ | refine guardD_dec ?_ ?_) <;> (intro hc; (try simp -implicitDefEqProofs [-loopQ_n, hc, decC, domC, b1, b2, b3, q, q5]))) | (refine callS_mk ?_; (try simp -implicitDefEqProofs [-loopQ_n, decC, domC, b1, b2, b3, q, q5]); (first | refine callS_intro (hd) (.inl rfl) ?_ | refine callS_intro (ho) (.inl rfl) ?_ | refine callS_intro (ht) (.inl rfl) ?_); (try simp -implicitDefEqProofs [-loopQ_n, decC, domC, b1, b2, b3, q, q5])))))
              simp [decV, q1, q2, q, q5, a3]
            · ((try simp -implicitDefEqProofs [-loopQ_n, decC, domC, b1, b2, b3, q, q5]) <;> (repeat' (first | ((first | refine condD_dec ?_ ?_ | refine guardD_dec ?_ ?_) <;> (intro hc; (try simp -implicitDefEqProofs [-loopQ_n, hc, decC, domC, b1, b2, b3, q, q5]))) | (refine callS_mk ?_; (try simp -implicitDefEqProofs [-loopQ_n, decC, domC, b1, b2, b3, q, q5]); (first | refine callS_intro (hd) (.inl rfl) ?_ | refine callS_intro (ho) (.inl rfl) ?_ | refine callS_intro (ht) (.inl rfl) ?_); (try simp -implicitDefEqProofs [-loopQ_n, decC, domC, b1, b2, b3, q, q5])))))
              simp [decV, q1, q2, q, q5, a3]
          · clear ht
            rcases q4 with q | q | q
            · ((try simp -implicitDefEqProofs [-loopQ_n, decC, domC, b1, b2, b3, q, q5]) <;> (repeat' (first | ((first | refine condD_dec ?_ ?_ | refine guardD_dec ?_ ?_) <;> (intro hc; (try simp -implicitDefEqProofs [-loopQ_n, hc, decC, domC, b1, b2, b3, q, q5]))) | (refine callS_mk ?_; (try simp -implicitDefEqProofs [-loopQ_n, decC, domC, b1, b2, b3, q, q5]); (first | refine callS_intro (hd) (.inl rfl) ?_ | refine callS_intro (ho) (.inl rfl) ?_); (try simp -implicitDefEqProofs [-loopQ_n, decC, domC, b1, b2, b3, q, q5])))))
              simp [decV, q1, q2, q, q5, a3]
            · ((try simp -implicitDefEqProofs [-loopQ_n, decC, domC, b1, b2, b3, q, q5]) <;> (repeat' (first | ((first | refine condD_dec ?_ ?_ | refine guardD_dec ?_ ?_) <;> (intro hc; (try simp -implicitDefEqProofs [-loopQ_n, hc, decC, domC, b1, b2, b3, q, q5]))) | (refine callS_mk ?_; (try simp -implicitDefEqProofs [-loopQ_n, decC, domC, b1, b2, b3, q, q5]); (first | refine callS_intro (hd) (.inl rfl) ?_ | refine callS_intro (ho) (.inl rfl) ?_); (try simp -implicitDefEqProofs [-loopQ_n, decC, domC, b1, b2, b3, q, q5])))))
              simp [decV, q1, q2, q, q5, a3]
            · ((try simp -implicitDefEqProofs [-loopQ_n, decC, domC, b1, b2, b3, q, q5]) <;> (repeat' (first | ((first | refine condD_dec ?_ ?_ | refine guardD_dec ?_ ?_) <;> (intro hc; (try simp -implicitDefEqProofs [-loopQ_n, hc, decC, domC, b1, b2, b3, q, q5]))) | (refine callS_mk ?_; (try simp -implicitDefEqProofs [-loopQ_n, decC, domC, b1, b2, b3, q, q5]); (first | refine callS_intro (hd) (.inl rfl) ?_ | refine callS_intro (ho) (.inl rfl) ?_); (try simp -implicitDefEqProofs [-loopQ_n, decC, domC, b1, b2, b3, q, q5])))))
              simp [decV, q1, q2, q, q5, a3]
        · have n6 : ¬ d.hit = 6 := fun e => q4 (.inl e)
          have n7 : ¬ d.hit = 7 := fun e => q4 (.inr (.inl e))
          have n8 : ¬ d.hit = 8 := fun e => q4 (.inr (.inr e))
          ((try simp -implicitDefEqProofs [-loopQ_n, decC, domC, b1, b2, b3, n6, n7, n8]) <;> (repeat' (first | ((first | refine condD_dec ?_ ?_ | refine guardD_dec ?_ ?_) <;> (intro hc; (try simp -implicitDefEqProofs [-loopQ_n, hc, decC, domC, b1, b2, b3, n6, n7, n8]))) | (refine callS_mk ?_; (try simp -implicitDefEqProofs [-loopQ_n, decC, domC, b1, b2, b3, n6, n7, n8]); (first | refine callS_intro (hd) (.inl rfl) ?_ | refine callS_intro (ho) (.inl rfl) ?_ | refine callS_intro (ht) (.inl rfl) ?_); (try simp -implicitDefEqProofs [-loopQ_n, decC, domC, b1, b2, b3, n6, n7, n8])))))
          simp [decV, q1, q2, n6, n7, n8, a1, a2, a3]
      · clear ht
        have hz : decV d = false := by
          cases e : decV d with
          | false => rfl
          | true =>
            exfalso
            simp only [decV, Bool.and_eq_true, decide_eq_true_eq] at e
            exact q3 ⟨e.2.2.1, e.2.2.2.1, e.2.2.2.2.1⟩
        rw [hz]
        by_cases c1 : d.hit < 1
        · ((try simp -implicitDefEqProofs [-loopQ_n, decC, domC, c1]) <;> (repeat' (first | ((first | refine condD_dec ?_ ?_ | refine guardD_dec ?_ ?_) <;> (intro hc; (try simp -implicitDefEqProofs [-loopQ_n, hc, decC, domC, c1]))) | (refine callS_mk ?_; (try simp -implicitDefEqProofs [-loopQ_n, decC, domC, c1]); (first | refine callS_intro (hd) (.inl rfl) ?_ | refine callS_intro (ho) (.inl rfl) ?_); (try simp -implicitDefEqProofs [-loopQ_n, decC, domC, c1])))))
        by_cases c2 : 9 < d.hit
        · ((try simp -implicitDefEqProofs [-loopQ_n, decC, domC, c1, c2]) <;> (repeat' (first | ((first | refine condD_dec ?_ ?_ | refine guardD_dec ?_ ?_) <;> (intro hc; (try simp -implicitDefEqProofs [-loopQ_n, hc, decC, domC, c1, c2]))) | (refine callS_mk ?_; (try simp -implicitDefEqProofs [-loopQ_n, decC, domC, c1, c2]); (first | refine callS_intro (hd) (.inl rfl) ?_ | refine callS_intro (ho) (.inl rfl) ?_); (try simp -implicitDefEqProofs [-loopQ_n, decC, domC, c1, c2])))))
        have c3 : (60 : Int) < d.rows.length := by omega
        ((try simp -implicitDefEqProofs [-loopQ_n, decC, domC, c1, c2, c3]) <;> (repeat' (first | ((first | refine condD_dec ?_ ?_ | refine guardD_dec ?_ ?_) <;> (intro hc; (try simp -implicitDefEqProofs [-loopQ_n, hc, decC, domC, c1, c2, c3]))) | (refine callS_mk ?_; (try simp -implicitDefEqProofs [-loopQ_n, decC, domC, c1, c2, c3]); (first | refine callS_intro (hd) (.inl rfl) ?_ | refine callS_intro (ho) (.inl rfl) ?_); (try simp -implicitDefEqProofs [-loopQ_n, decC, domC, c1, c2, c3])))))
    · have q2 : domV d.out = false := by simpa using q2
      rw [q2] at ho
      clear ht
      rw [show decV d = false by simp [decV, q2]]
      refine pure_of mixed Tryz.func37 rfl (by kernel_rfl) (of_decide_eq_true rfl) (by kernel_rfl) (vc_run ?_)
      ((try simp -implicitDefEqProofs [-loopQ_n, decC, domC]) <;> (repeat' (first | ((first | refine condD_dec ?_ ?_ | refine guardD_dec ?_ ?_) <;> (intro hc; (try simp -implicitDefEqProofs [-loopQ_n, hc, decC, domC]))) | (refine callS_mk ?_; (try simp -implicitDefEqProofs [-loopQ_n, decC, domC]); (first | refine callS_intro (hd) (.inl rfl) ?_ | refine callS_intro (ho) (.inl rfl) ?_); (try simp -implicitDefEqProofs [-loopQ_n, decC, domC])))))
  · have q1 : domsV d.inputs = false := by simpa using q1
    rw [q1] at hd
    clear ht
    rw [show decV d = false by simp [decV, q1]]
    refine pure_of mixed Tryz.func37 rfl (by kernel_rfl) (of_decide_eq_true rfl) (by kernel_rfl) (vc_run ?_)
    ((try simp -implicitDefEqProofs [-loopQ_n, decC, domC]) <;> (repeat' (first | ((first | refine condD_dec ?_ ?_ | refine guardD_dec ?_ ?_) <;> (intro hc; (try simp -implicitDefEqProofs [-loopQ_n, hc, decC, domC]))) | (refine callS_mk ?_; (try simp -implicitDefEqProofs [-loopQ_n, decC, domC]); (first | refine callS_intro (hd) (.inl rfl) ?_); (try simp -implicitDefEqProofs [-loopQ_n, decC, domC])))))
end Go.Proofs.YthemglpccpjokaaGreat
namespace Go.Proofs.YthemglpccpjokaaGreat
open Go.RowKit
variable [Glob]
theorem cutP {G C : Prop} (f : C → G) (c : C) : G := f c
section
variable {P : Program} {L : Nat} {s s' : St} {Q : Ex → St → Prop} {k : List Item}
theorem loop_weak {c : Code} (hw : Weak P L s s') (h : run P L (.code (.loop c) :: k) s' Q) : run P L (.code (.loop c) :: k) s Q := by
  obtain ⟨I, ⟨n, s0, h1, h2⟩, h3⟩ := h
  exact ⟨I, ⟨n, s0, hw.trans h1, h2⟩, h3⟩
end
def ordW (d : Dec) : Bool := if d.hit = 4 then ordG d.out [] d.order else decide (d.order = [])
def rowW (d : Dec) (r : Rw) : Bool := rowV d.inputs d.out r && (decide (¬ d.hit = 4) || decide (r.out ∈ d.order))
theorem tab_eq (d : Dec) : tabV d = (ordW d && d.rows.all (rowW d)) := by
  by_cases q : d.hit = 4
  · simp only [tabV, ordW, q, if_pos]
    have : d.rows.all (rowW d) = (d.rows.all (rowV d.inputs d.out) && d.rows.all fun r => decide (r.out ∈ d.order)) := by
      rw [Bool.eq_iff_iff]
      simp only [rowW, q, Bool.and_eq_true, List.all_eq_true]
      simp
      exact ⟨fun h => ⟨fun r hr => (h r hr).1, fun r hr => (h r hr).2⟩, fun h r hr => ⟨h.1 r hr, h.2 r hr⟩⟩
    rw [this]
    cases ordG d.out [] d.order <;> cases d.rows.all (rowV d.inputs d.out) <;> simp
  · simp only [tabV, ordW, if_neg q]
    have : d.rows.all (rowW d) = d.rows.all (rowV d.inputs d.out) := by
      congr 1
      funext r
      simp [rowW, q]
    rw [this, Bool.and_comm]
theorem ord_at {l : List Val} {k : Nat} (g : k < l.length) : idxV l l[k] = k ↔ l[k] ∉ l.take k := by
  have key : ∀ (l : List Val) (k : Nat) (g : k < l.length) (i : Int), 0 ≤ i → (idxVA l l[k] i = i + k ↔ l[k] ∉ l.take k) := by
    intro l
    induction l with
    | nil => intro k g; simp at g
    | cons y r ih =>
      intro k g i h0
      cases k with
      | zero => simp [idxVA]
      | succ k =>
        have g' : k < r.length := by simpa using g
        simp only [List.getElem_cons_succ, List.take_succ_cons, idxVA, List.mem_cons]
        by_cases e : y = r[k]
        · rw [if_pos e]
          constructor
          · intro h; simp at h; omega
          · intro h; exact absurd (.inl e.symm) h
        · rw [if_neg e]
          have := ih k g' (i + 1) (by omega)
          rw [show i + ((k + 1 : Nat) : Int) = i + 1 + k by omega, this]
          exact ⟨fun h q => q.elim (fun q => e q.symm) h, fun h q => h (.inr q)⟩
  have := key l k g 0 (by omega)
  simpa [idxV] using this
end Go.Proofs.YthemglpccpjokaaGreat
