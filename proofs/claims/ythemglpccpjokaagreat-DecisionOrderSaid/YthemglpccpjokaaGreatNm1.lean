/- Names: bytes, letters, names (the program's and the reference's). -/
import Derived.Test.YthemglpccpjokaaGreatTy
import Derived.Test.YthemglpccpjokaaGreatM3
import Derived.Test.YthemglpccpjokaaGreatAbBase
set_option linter.unusedSimpArgs false
set_option linter.unusedVariables false
set_option linter.unnecessarySimpa false
set_option linter.unusedSectionVars false
set_option maxRecDepth 100000
namespace Go.Proofs.YthemglpccpjokaaGreat
open Go.RowKit
variable [Glob]
def letterC (c : UInt8) : Bool := (decide ((65 : Int) ≤ c.toNat) && decide ((c.toNat : Int) ≤ 90)) || (decide ((97 : Int) ≤ c.toNat) && decide ((c.toNat : Int) ≤ 122))
def partC (c : UInt8) : Bool := letterC c || ((decide ((48 : Int) ≤ c.toNat) && decide ((c.toNat : Int) ≤ 57)) || decide ((c.toNat : Int) = 95) || decide ((c.toNat : Int) = 45) || decide ((c.toNat : Int) = 46))
abbrev byteV (c : UInt8) : AV := .int .u8 c.toNat
theorem letter_pure (c : UInt8) : Pure Tryz.prog 129 [byteV c] (.bool (letterC c)) := by
  refine pure_of mixed Tryz.func129 rfl (by kernel_rfl) (of_decide_eq_true rfl) (by kernel_rfl) (vc_run ?_)
  by_cases h1 : (65 : Int) ≤ c.toNat <;> by_cases h2 : (c.toNat : Int) ≤ 90 <;> by_cases h3 : (97 : Int) ≤ c.toNat <;> by_cases h4 : (c.toNat : Int) ≤ 122 <;> simp -implicitDefEqProofs [h1, h2, h3, h4, letterC] <;> omega
theorem rletter_pure (c : UInt8) : Pure Tryz.prog 136 [byteV c] (.bool (letterC c)) := by
  refine pure_of mixed Tryz.func136 rfl (by kernel_rfl) (of_decide_eq_true rfl) (by kernel_rfl) (vc_run ?_)
  by_cases h1 : (65 : Int) ≤ c.toNat <;> by_cases h2 : (c.toNat : Int) ≤ 90 <;> by_cases h3 : (97 : Int) ≤ c.toNat <;> by_cases h4 : (c.toNat : Int) ≤ 122 <;> simp -implicitDefEqProofs [h1, h2, h3, h4, letterC] <;> omega
theorem part_pure (c : UInt8) : Pure Tryz.prog 130 [byteV c] (.bool (partC c)) := by
  refine pure_of mixed Tryz.func130 rfl (by kernel_rfl) (of_decide_eq_true rfl) (by kernel_rfl) (vc_run ?_)
  ((try simp -implicitDefEqProofs [-loopQ_n]) <;> (repeat' (first | ((first | refine condD_dec ?_ ?_ | refine guardD_dec ?_ ?_) <;> (intro hc; (try simp -implicitDefEqProofs [-loopQ_n, hc]))) | ((first | refine condD_intro ?_ ?_ | refine guardD_intro ?_ ?_) <;> (intro hd; have hc := hd; (try simp at hc) <;> (try simp -implicitDefEqProofs [-loopQ_n, hd, hc]))) | ((first | (refine ldD_ep ?_ ?_; (focus kernel_rfl)) | (refine callS_mk ?_; (try simp -implicitDefEqProofs [-loopQ_n]); (first | refine callS_intro (letter_pure c) (.inl rfl) ?_))); (try simp -implicitDefEqProofs [-loopQ_n])))))
  all_goals (first | omega | (rw [Bool.eq_iff_iff]; simp_all [partC]; done) | (rw [Bool.eq_iff_iff]; simp_all [partC]; omega) | (simp_all [partC]; done) | (simp_all [partC]; omega))
end Go.Proofs.YthemglpccpjokaaGreat
