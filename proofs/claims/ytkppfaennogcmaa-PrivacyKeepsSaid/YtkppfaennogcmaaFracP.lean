/- Fractions in the abstract machine. -/
import Derived.Test.YtkppfaennogcmaaTy
import Derived.Test.YtkppfaennogcmaaBr
import Derived.Test.YtkppfaennogcmaaFracW
namespace Go.Proofs.Ytkppfaennogcmaa
set_option linter.unusedSimpArgs false
set_option linter.unusedVariables false
set_option linter.unnecessarySimpa false
set_option linter.unusedSectionVars false
open Go.RowKit
variable [Glob]
set_option maxRecDepth 100000

def fracC (a : Int × Int) : List AV := [.int .i64 a.1, .int .i64 a.2]
theorem gcd_pure (a b : Int) (h1 : 0 ≤ a) (h2 : a ≤ 4611686018427387904) (h3 : 0 ≤ b) (h4 : b ≤ 4611686018427387904) : Pure Try.prog 100 [.int .i64 a, .int .i64 b] (.int .i64 (Nat.gcd a.natAbs b.natAbs : Nat)) :=
  pure_flat (by kernel_rfl) rfl rfl fun w => gcd_int a b w h1 h2 h3 h4
theorem abs_pure (n : Int) (h1 : -4611686018427387904 ≤ n) (h2 : n ≤ 4611686018427387904) : Pure Try.prog 115 [.int .i64 n] (.int .u64 (n.natAbs : Nat)) :=
  pure_flat (by kernel_rfl) rfl rfl fun w => abs_any n w h1 h2
theorem fit_pure (neg : Bool) (n d : Nat) (h1 : 1 ≤ d) (h2 : d ≤ 9223372036854775808) (h3 : n ≤ 9223372036854775808) :
    Pure Try.prog 114 [.bool neg, .int .u64 n, .int .u64 d] (.tup [.agg [.int .i64 (fitF neg n d).1, .int .i64 (fitF neg n d).2.1], .int .i64 (fitF neg n d).2.2]) :=
  pure_flat (by kernel_rfl) rfl rfl fun w => fit_any neg n d w h1 h2 h3
theorem fvalid_pure (a : Int × Int) : Pure Try.prog 79 [.agg (fracC a)] (.bool (validF a.1 a.2)) :=
  pure_flat (by kernel_rfl) rfl rfl fun w => fvalid_any a.1 a.2 w
theorem fvalid1_pure (a : Int × Int) : Pure Try.prog 113 [.agg (fracC a)] (.bool (!validF a.1 a.2)) := by
  refine pure_of mixed Try.func113 rfl (by kernel_rfl) (of_decide_eq_true rfl) (by kernel_rfl) (vc_run ?_)
  simp -implicitDefEqProofs [fracC]
  refine call_intro (fvalid_pure a) (by simp -implicitDefEqProofs [fracC]) (.inl rfl) ?_
  simp -implicitDefEqProofs
end Go.Proofs.Ytkppfaennogcmaa
