/- The best plan of the example that TopServed begins with, by computed calls put together. -/
import Derived.Test.YthiclaihlpkinaaGreatM4
import Derived.Test.YthiclaihlpkinaaGreatTy
import Derived.Test.YthiclaihlpkinaaGreatM14
set_option linter.unusedSimpArgs false
set_option linter.unusedVariables false
set_option linter.unnecessarySimpa false
set_option linter.unusedSectionVars false
set_option maxRecDepth 100000
namespace Go.Proofs.YthiclaihlpkinaaGreat
open Go.RowKit
variable [Glob]
namespace Yx
abbrev iY (n : Int) : AV := .int .i64 n
def rowN : RowF := fun _ _ _ => none
theorem rowN_ok : RowOk Tryz.prog rowN := fun _ _ _ _ _ _ h => by cases h
def noC : CallF := fun _ _ _ => none
theorem noC_ok : CallOk Tryz.prog noC := fun _ _ _ _ _ h => by cases h
noncomputable def runB (b : CallF) : CallF := exFC Tryz.prog frHook rowN 4096 b 30
theorem runB_ok {b : CallF} (h : CallOk Tryz.prog b) : CallOk Tryz.prog (runB b) := exFC_sound mixed frHook_ok rowN_ok h 30
def p0 : AV := .agg [.rs [[iY 2, iY 1]], .rs [[.rs [[iY 1, iY 1]]], [.rs [[iY 1, iY 1]]]], .rs [[iY 2], [iY 1]], .rs [[iY 1, iY 1], [iY 1, iY 1]]]
def sol0 : AV := .agg [iY 1, .rs [[iY 1, iY 1]], .rs [[iY 2, iY 1], [iY 0, iY 1]], .rs [], iY 2, iY 1]
noncomputable def cfZ : CallF := calmF [134] (runB noC)
theorem cfZ_ok : CallOk Tryz.prog cfZ := calmF_ok (runB_ok noC_ok)
def kBegin : Kn := ⟨132, [p0], [], .tup [.op 0 0, .os 1 2], [.box 206 [.os 2 2, .nils, .os 3 2, iY 3, iY 0], .row 4 false [[.bool false], [.bool false]], .row 48 false [[.os 4 6], [.os 5 6]], .row 3 false [[iY 3], [iY 4]], .row 47 false [[iY 1, iY 1], [iY (-1), iY 1], [iY 0, iY 1], [iY 1, iY 1], [iY 0, iY 1], [iY 1, iY 1]], .row 47 false [[iY 1, iY 1], [iY 0, iY 1], [iY 1, iY 1], [iY 0, iY 1], [iY 1, iY 1], [iY 1, iY 1]]]⟩
theorem kBegin_ok : KnOk Tryz.prog kBegin := kn_of (runB_ok cfZ_ok) (by kernel_rfl)
def kS0 : Kn := ⟨133, [.op 0 0, .os 1 6], [.box 206 [.os 2 2, .nils, .os 3 2, iY 3, iY 0], .row 47 false [[iY 0, iY 1], [iY 0, iY 1], [iY 0, iY 1], [iY 1, iY 1], [iY 1, iY 1], [iY 0, iY 1]], .row 48 false [[.os 4 6], [.os 5 6]], .row 3 false [[iY 3], [iY 4]], .row 47 false [[iY 1, iY 1], [iY (-1), iY 1], [iY 0, iY 1], [iY 1, iY 1], [iY 0, iY 1], [iY 1, iY 1]], .row 47 false [[iY 1, iY 1], [iY 0, iY 1], [iY 1, iY 1], [iY 0, iY 1], [iY 1, iY 1], [iY 1, iY 1]]], .tup [], [.box 206 [.os 2 2, .os 6 6, .os 3 2, iY 3, iY 0], .row 47 false [[iY 0, iY 1], [iY 0, iY 1], [iY 0, iY 1], [iY 1, iY 1], [iY 1, iY 1], [iY 0, iY 1]], .row 48 false [[.os 4 6], [.os 5 6]], .row 3 false [[iY 3], [iY 4]], .row 47 false [[iY 1, iY 1], [iY (-1), iY 1], [iY 0, iY 1], [iY 1, iY 1], [iY 0, iY 1], [iY 1, iY 1]], .row 47 false [[iY 1, iY 1], [iY 0, iY 1], [iY 1, iY 1], [iY 0, iY 1], [iY 1, iY 1], [iY 1, iY 1]], .row 47 false [[iY (-2), iY 1], [iY 1, iY 1], [iY (-1), iY 1], [iY 0, iY 1], [iY 0, iY 1], [iY (-2), iY 1]]]⟩
theorem kS0_ok : KnOk Tryz.prog kS0 := kn_of (runB_ok cfZ_ok) (by kernel_rfl)
def kS1 : Kn := ⟨136, [.op 0 0, iY 3], [.box 206 [.os 1 2, .os 2 6, .os 3 2, iY 3, iY 0], .row 48 false [[.os 4 6], [.os 5 6]], .row 47 false [[iY (-2), iY 1], [iY 1, iY 1], [iY (-1), iY 1], [iY 0, iY 1], [iY 0, iY 1], [iY (-2), iY 1]], .row 3 false [[iY 3], [iY 4]], .row 47 false [[iY 1, iY 1], [iY (-1), iY 1], [iY 0, iY 1], [iY 1, iY 1], [iY 0, iY 1], [iY 1, iY 1]], .row 47 false [[iY 1, iY 1], [iY 0, iY 1], [iY 1, iY 1], [iY 0, iY 1], [iY 1, iY 1], [iY 1, iY 1]]], iY (-1), [.box 206 [.os 1 2, .os 6 6, .os 3 2, iY 3, iY 0], .row 48 false [[.os 7 6], [.os 8 6]], .row 47 false [[iY (-2), iY 1], [iY 1, iY 1], [iY (-1), iY 1], [iY 0, iY 1], [iY 0, iY 1], [iY (-2), iY 1]], .row 3 false [[iY 0], [iY 1]], .row 47 false [[iY 1, iY 1], [iY (-1), iY 1], [iY 0, iY 1], [iY 1, iY 1], [iY 0, iY 1], [iY 1, iY 1]], .row 47 false [[iY 1, iY 1], [iY 0, iY 1], [iY 1, iY 1], [iY 0, iY 1], [iY 1, iY 1], [iY 1, iY 1]], .row 47 false [[iY 0, iY 1], [iY 0, iY 1], [iY 0, iY 1], [iY 1, iY 1], [iY 1, iY 1], [iY 0, iY 1]], .row 47 false [[iY 1, iY 1], [iY 0, iY 1], [iY 1, iY 1], [iY 0, iY 1], [iY 1, iY 1], [iY 1, iY 1]], .row 47 false [[iY 0, iY 1], [iY 1, iY 1], [iY 1, iY 1], [iY (-1), iY 1], [iY 1, iY 1], [iY 0, iY 1]]]⟩
theorem kS1_ok : KnOk Tryz.prog kS1 := kn_of (runB_ok cfZ_ok) (by kernel_rfl)
def kS2 : Kn := ⟨133, [.op 0 0, .os 1 6], [.box 206 [.os 2 2, .os 3 6, .os 4 2, iY 3, iY 0], .row 47 false [[iY 2, iY 1], [iY 0, iY 1], [iY 0, iY 1], [iY 0, iY 1], [iY 0, iY 1], [iY 0, iY 1]], .row 48 false [[.os 5 6], [.os 6 6]], .row 47 false [[iY 0, iY 1], [iY 0, iY 1], [iY 0, iY 1], [iY 1, iY 1], [iY 1, iY 1], [iY 0, iY 1]], .row 3 false [[iY 0], [iY 1]], .row 47 false [[iY 1, iY 1], [iY 0, iY 1], [iY 1, iY 1], [iY 0, iY 1], [iY 1, iY 1], [iY 1, iY 1]], .row 47 false [[iY 0, iY 1], [iY 1, iY 1], [iY 1, iY 1], [iY (-1), iY 1], [iY 1, iY 1], [iY 0, iY 1]]], .tup [], [.box 206 [.os 2 2, .os 7 6, .os 4 2, iY 3, iY 0], .row 47 false [[iY 2, iY 1], [iY 0, iY 1], [iY 0, iY 1], [iY 0, iY 1], [iY 0, iY 1], [iY 0, iY 1]], .row 48 false [[.os 5 6], [.os 6 6]], .row 47 false [[iY 0, iY 1], [iY 0, iY 1], [iY 0, iY 1], [iY 1, iY 1], [iY 1, iY 1], [iY 0, iY 1]], .row 3 false [[iY 0], [iY 1]], .row 47 false [[iY 1, iY 1], [iY 0, iY 1], [iY 1, iY 1], [iY 0, iY 1], [iY 1, iY 1], [iY 1, iY 1]], .row 47 false [[iY 0, iY 1], [iY 1, iY 1], [iY 1, iY 1], [iY (-1), iY 1], [iY 1, iY 1], [iY 0, iY 1]], .row 47 false [[iY 0, iY 1], [iY 0, iY 1], [iY (-2), iY 1], [iY 0, iY 1], [iY (-2), iY 1], [iY (-2), iY 1]]]⟩
theorem kS2_ok : KnOk Tryz.prog kS2 := kn_of (runB_ok cfZ_ok) (by kernel_rfl)
def kS3 : Kn := ⟨136, [.op 0 0, iY 3], [.box 206 [.os 1 2, .os 2 6, .os 3 2, iY 3, iY 0], .row 48 false [[.os 4 6], [.os 5 6]], .row 47 false [[iY 0, iY 1], [iY 0, iY 1], [iY (-2), iY 1], [iY 0, iY 1], [iY (-2), iY 1], [iY (-2), iY 1]], .row 3 false [[iY 0], [iY 1]], .row 47 false [[iY 1, iY 1], [iY 0, iY 1], [iY 1, iY 1], [iY 0, iY 1], [iY 1, iY 1], [iY 1, iY 1]], .row 47 false [[iY 0, iY 1], [iY 1, iY 1], [iY 1, iY 1], [iY (-1), iY 1], [iY 1, iY 1], [iY 0, iY 1]]], iY (-1), [.box 206 [.os 1 2, .os 6 6, .os 3 2, iY 3, iY 0], .row 48 false [[.os 7 6], [.os 8 6]], .row 47 false [[iY 0, iY 1], [iY 0, iY 1], [iY (-2), iY 1], [iY 0, iY 1], [iY (-2), iY 1], [iY (-2), iY 1]], .row 3 false [[iY 0], [iY 2]], .row 47 false [[iY 1, iY 1], [iY 0, iY 1], [iY 1, iY 1], [iY 0, iY 1], [iY 1, iY 1], [iY 1, iY 1]], .row 47 false [[iY 0, iY 1], [iY 1, iY 1], [iY 1, iY 1], [iY (-1), iY 1], [iY 1, iY 1], [iY 0, iY 1]], .row 47 false [[iY 0, iY 1], [iY 2, iY 1], [iY 0, iY 1], [iY (-2), iY 1], [iY 0, iY 1], [iY (-2), iY 1]], .row 47 false [[iY 1, iY 1], [iY (-1), iY 1], [iY 0, iY 1], [iY 1, iY 1], [iY 0, iY 1], [iY 1, iY 1]], .row 47 false [[iY 0, iY 1], [iY 1, iY 1], [iY 1, iY 1], [iY (-1), iY 1], [iY 1, iY 1], [iY 0, iY 1]]]⟩
theorem kS3_ok : KnOk Tryz.prog kS3 := kn_of (runB_ok cfZ_ok) (by kernel_rfl)
def kValid : Kn := ⟨122, [p0], [], .bool true, []⟩
theorem kValid_ok : KnOk Tryz.prog kValid := kn_of (runB_ok noC_ok) (by kernel_rfl)
def kCheck : Kn := ⟨124, [p0, sol0], [], .bool true, []⟩
theorem kCheck_ok : KnOk Tryz.prog kCheck := kn_of (runB_ok noC_ok) (by kernel_rfl)
noncomputable def cfS : CallF := orF cfZ (orF (newF [kBegin]) (footF [133, 136] (tabF [kS0, kS1, kS2, kS3])))
theorem cfS_ok : CallOk Tryz.prog cfS := orF_ok cfZ_ok (orF_ok (newF_ok fun k hk => by simp at hk; subst hk; exact kBegin_ok) (footF_ok (tabF_ok fun k hk => by
  simp at hk
  rcases hk with hk | hk | hk | hk <;> subst hk
  · exact kS0_ok
  · exact kS1_ok
  · exact kS2_ok
  · exact kS3_ok)))
def kSolved : Kn := ⟨123, [p0], [], .tup [.agg [iY 1, .os 0 1, .os 1 2, .nils, iY 2, iY 1], iY 0], [.row 47 false [[iY 1, iY 1]], .row 47 false [[iY 2, iY 1], [iY 0, iY 1]]]⟩
theorem kSolved_ok : KnOk Tryz.prog kSolved := kn_of (runB_ok cfS_ok) (by kernel_rfl)
def kSolve : Kn := ⟨100, [p0], [], .tup [.agg [iY 1, .os 0 1, .os 1 2, .nils, iY 2, iY 1], iY 0], [.row 47 false [[iY 1, iY 1]], .row 47 false [[iY 2, iY 1], [iY 0, iY 1]]]⟩
noncomputable def cfT : CallF := newF [kValid, kCheck, kSolved]
theorem cfT_ok : CallOk Tryz.prog cfT := newF_ok fun k hk => by
  simp at hk
  rcases hk with hk | hk | hk <;> subst hk
  · exact kValid_ok
  · exact kCheck_ok
  · exact kSolved_ok
theorem kSolve_ok : KnOk Tryz.prog kSolve := kn_of (runB_ok cfT_ok) (by kernel_rfl)
noncomputable def cfM : CallF := newF [kSolve]
theorem cfM_ok : CallOk Tryz.prog cfM := newF_ok fun k hk => by simp at hk; subst hk; exact kSolve_ok
noncomputable def cfB : CallF := orF cfM (calmF [71, 72, 39, 40, 45] (runB cfM))
theorem cfB_ok : CallOk Tryz.prog cfB := orF_ok cfM_ok (calmF_ok (runB_ok cfM_ok))
def shY : AV := .rs [[.rs [[iY 0]], iY 2, iY 1]]
def kBest : Kn := ⟨15, [.rs [[iY 1]], shY, iY 10], [], .tup [.agg [.os 0 1, iY 2], .agg [iY 0, iY 0, .nils, .os 1 1], iY 0], [.row 3 false [[iY 1]], .row 47 false [[iY 2, iY 1]]]⟩
theorem kBest_ok : KnOk Tryz.prog kBest := kn_of (runB_ok cfB_ok) (by kernel_rfl)
theorem best_pure : Pure Tryz.prog 15 [.rs [[iY 1]], .rs [[.rs [[iY 0]], iY 2, iY 1]], iY 10] (.tup [.agg [.rs [[iY 1]], iY 2], .agg [iY 0, iY 0, .rs [], .rs [[iY 2, iY 1]]], iY 0]) := kn_pure kBest_ok (by kernel_rfl)
theorem check_pure : Pure Tryz.prog 16 [.rs [[iY 1]], .rs [[.rs [[iY 0]], iY 2, iY 1]], .agg [.rs [[iY 1]], iY 2], .agg [iY 0, iY 0, .rs [], .rs [[iY 2, iY 1]]]] (.bool true) :=
  exFC_pure (m := 4096) (n := 30) mixed frHook_ok rowN_ok noC_ok (b2 := rowN) (by kernel_rfl)
end Yx
end Go.Proofs.YthiclaihlpkinaaGreat
