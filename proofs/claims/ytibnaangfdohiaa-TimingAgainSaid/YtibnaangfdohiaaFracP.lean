/- Fractions in the abstract machine. -/
import Derived.Test.YtibnaangfdohiaaTy
import Derived.Test.YtibnaangfdohiaaBr
import Derived.Test.YtibnaangfdohiaaFracW
namespace Go.Proofs.Ytibnaangfdohiaa
open Go.RowKit
set_option maxRecDepth 100000

def fracC (a : Int × Int) : List AV := [.int .i64 a.1, .int .i64 a.2]
theorem gcd_pure (a b : Int) (h1 : 0 ≤ a) (h2 : a ≤ 4611686018427387904) (h3 : 0 ≤ b) (h4 : b ≤ 4611686018427387904) : Pure Try.prog 55 [.int .i64 a, .int .i64 b] (.int .i64 (Nat.gcd a.natAbs b.natAbs : Nat)) :=
  pure_flat (by kernel_rfl) rfl rfl fun w => gcd_int a b w h1 h2 h3 h4
theorem abs_pure (n : Int) (h1 : -4611686018427387904 ≤ n) (h2 : n ≤ 4611686018427387904) : Pure Try.prog 57 [.int .i64 n] (.int .u64 (n.natAbs : Nat)) :=
  pure_flat (by kernel_rfl) rfl rfl fun w => abs_any n w h1 h2
theorem fit_pure (neg : Bool) (n d : Nat) (h1 : 1 ≤ d) (h2 : d ≤ 9223372036854775808) (h3 : n ≤ 9223372036854775808) :
    Pure Try.prog 56 [.bool neg, .int .u64 n, .int .u64 d] (.tup [.agg [.int .i64 (fitF neg n d).1, .int .i64 (fitF neg n d).2.1], .int .i64 (fitF neg n d).2.2]) :=
  pure_flat (by kernel_rfl) rfl rfl fun w => fit_any neg n d w h1 h2 h3
theorem fmake_pure (n d : Int) (h1 : -4611686018427387904 ≤ n) (h2 : n ≤ 4611686018427387904) (h3 : -4611686018427387904 ≤ d) (h4 : d ≤ 4611686018427387904) :
    Pure Try.prog 42 [.int .i64 n, .int .i64 d] (.tup [.agg [.int .i64 (makeF n d).1, .int .i64 (makeF n d).2.1], .int .i64 (makeF n d).2.2]) :=
  pure_flat (by kernel_rfl) rfl rfl fun w => fmake_any n d w h1 h2 h3 h4
theorem fvalid_pure (a : Int × Int) : Pure Try.prog 49 [.agg (fracC a)] (.bool (validF a.1 a.2)) :=
  pure_flat (by kernel_rfl) rfl rfl fun w => fvalid_any a.1 a.2 w
theorem fvalid1_pure (a : Int × Int) : Pure Try.prog 79 [.agg (fracC a)] (.bool (!validF a.1 a.2)) := by
  refine pure_of mixed Try.func79 rfl (by kernel_rfl) (of_decide_eq_true rfl) (by kernel_rfl) (vc_run ?_)
  simp -implicitDefEqProofs [fracC]
  refine call_intro (fvalid_pure a) (by simp -implicitDefEqProofs [fracC]) (.inl rfl) ?_
  simp -implicitDefEqProofs
end Go.Proofs.Ytibnaangfdohiaa
