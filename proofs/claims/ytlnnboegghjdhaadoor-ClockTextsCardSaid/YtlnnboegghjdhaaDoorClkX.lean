/- Texts of instants: Text, both sides, and the number's digits. -/
import Derived.Test.YtlnnboegghjdhaaDoorClkV
import Derived.Test.YtlnnboegghjdhaaDoorClkI
namespace Go.Proofs.YtlnnboegghjdhaaDoor
set_option linter.unusedSimpArgs false
set_option linter.unusedVariables false
set_option linter.unnecessarySimpa false
set_option linter.unusedSectionVars false
open Go.RowKit
variable [Glob]
set_option maxRecDepth 100000
def sb (l : Bt) : ByteArray := ⟨l.toArray⟩
abbrev bl (s : ByteArray) : Bt := s.data.toList
theorem sb_bl (s : ByteArray) : sb (bl s) = s := by cases s; simp [sb]
theorem bl_sb (l : Bt) : bl (sb l) = l := by simp [sb]
theorem sb_size (l : Bt) : (sb l).size = l.length := by simp [sb, ByteArray.size]
theorem sb_app (a b : Bt) : sb a ++ sb b = sb (a ++ b) := by
  apply ByteArray.ext
  simp [sb]
theorem sb_inj {a b : Bt} : sb a = sb b ↔ a = b := ⟨fun h => by have := congrArg bl h; rwa [bl_sb, bl_sb] at this, fun h => by rw [h]⟩
/-- The number's digits, by the library. -/
theorem itoa_pure (hx : Glob.exact 1 = some (Lib.pow10Tab.map fun z => Value.int .u64 z).toArray) (n : Nat) (hn : n ≤ 1099511627776) : Pure Tryd.prog 13 [.int .i64 n] (.str (sb (Lib.decDigits n))) := by
  refine ⟨by kernel_rfl, fun w X vs hX hvo hl hv => ?_⟩
  obtain ⟨v0, rfl⟩ : ∃ v0, vs = #[v0] := by
    rcases vs with ⟨l⟩
    match l, hl with
    | [a], _ => exact ⟨a, rfl⟩
  have e0 := hv 0 (.int .i64 n) v0 rfl rfl
  cases e0
  have htab : Lib.TabIs Tryd.prog w "internal/strconv.uint64pow10" .u64 Lib.pow10Tab := by
    obtain ⟨_, _, t, f, h3⟩ := hvo.2 _ _ hx
    unfold Lib.TabIs World.var?
    rw [show Tryd.prog.globalNamed "internal/strconv.uint64pow10" = some 1 by kernel_rfl]
    simp [h3]
  refine (Tryd.strconv_Itoa n (by omega) (by omega) w htab).mono ?_
  rintro e w' ⟨rfl, k, os, rfl⟩
  refine ⟨_, rfl, ?_, ?_⟩
  · have : Lib.itoa (n : Int) = Lib.decDigits n := by unfold Lib.itoa; rw [if_neg (by omega)]; simp
    rw [this]
    exact .str
  · exact ((below_drewN k).trans ⟨rfl, rfl, rfl, by simp [Go.Sort.grow], fun j hj => by simp [Go.Sort.grow, Array.getElem?_append_left hj]⟩)
end Go.Proofs.YtlnnboegghjdhaaDoor
