/- Names: bytes, letters, names (the program's and the reference's). -/
import Derived.Test.YtibnaangfdohiaaTy
import Derived.Test.YtibnaangfdohiaaAbNew
import Derived.Test.YtibnaangfdohiaaAbBase
namespace Go.Proofs.Ytibnaangfdohiaa
open Go.RowKit
set_option maxRecDepth 100000
def letterC (c : UInt8) : Bool := (decide ((65 : Int) ≤ c.toNat) && decide ((c.toNat : Int) ≤ 90)) || (decide ((97 : Int) ≤ c.toNat) && decide ((c.toNat : Int) ≤ 122))
def partC (c : UInt8) : Bool := letterC c || ((decide ((48 : Int) ≤ c.toNat) && decide ((c.toNat : Int) ≤ 57)) || decide ((c.toNat : Int) = 95) || decide ((c.toNat : Int) = 45) || decide ((c.toNat : Int) = 46))
abbrev byteV (c : UInt8) : AV := .int .u8 c.toNat
theorem letter_pure (c : UInt8) : Pure Try.prog 84 [byteV c] (.bool (letterC c)) := by
  refine pure_of mixed Try.func84 rfl (by kernel_rfl) (of_decide_eq_true rfl) (by kernel_rfl) (vc_run ?_)
  by_cases h1 : (65 : Int) ≤ c.toNat <;> by_cases h2 : (c.toNat : Int) ≤ 90 <;> by_cases h3 : (97 : Int) ≤ c.toNat <;> by_cases h4 : (c.toNat : Int) ≤ 122 <;> simp -implicitDefEqProofs [h1, h2, h3, h4, letterC] <;> omega
theorem rletter_pure (c : UInt8) : Pure Try.prog 71 [byteV c] (.bool (letterC c)) := by
  refine pure_of mixed Try.func71 rfl (by kernel_rfl) (of_decide_eq_true rfl) (by kernel_rfl) (vc_run ?_)
  by_cases h1 : (65 : Int) ≤ c.toNat <;> by_cases h2 : (c.toNat : Int) ≤ 90 <;> by_cases h3 : (97 : Int) ≤ c.toNat <;> by_cases h4 : (c.toNat : Int) ≤ 122 <;> simp -implicitDefEqProofs [h1, h2, h3, h4, letterC] <;> omega
theorem part_pure (c : UInt8) : Pure Try.prog 85 [byteV c] (.bool (partC c)) := by
  refine pure_of mixed Try.func85 rfl (by kernel_rfl) (of_decide_eq_true rfl) (by kernel_rfl) (vc_run ?_)
  simp -implicitDefEqProofs
  refine call_intro (letter_pure c) (by simp -implicitDefEqProofs) (.inl rfl) ?_
  by_cases h0 : letterC c = true
  · simp -implicitDefEqProofs [h0, partC]
  have h0 : letterC c = false := by simpa using h0
  by_cases h1 : (48 : Int) ≤ c.toNat <;> by_cases h2 : (c.toNat : Int) ≤ 57 <;> by_cases h3 : (c.toNat : Int) = 95 <;> by_cases h4 : (c.toNat : Int) = 45 <;> by_cases h5 : (c.toNat : Int) = 46 <;> simp -implicitDefEqProofs [h0, h1, h2, h3, h4, h5, partC] <;> omega
end Go.Proofs.Ytibnaangfdohiaa
