/- strings.Compare in the machine's words. -/
import Derived.Test.YtdkcmfafganhhaaDoorAbExec
import Derived.Test.YtdkcmfafganhhaaDoorBr
import Derived.Test.YtdkcmfafganhhaaDoorShelf
namespace Go.Proofs.YtdkcmfafganhhaaDoor
set_option linter.unusedSimpArgs false
set_option linter.unusedVariables false
set_option linter.unnecessarySimpa false
set_option linter.unusedSectionVars false
open Go.RowKit
variable [Glob]
theorem scompare_pure (a b : ByteArray) : Pure Tryd.prog 63 [.str a, .str b] (.int .i64 (Lib.compareBytes a.data.toList b.data.toList)) :=
  pure_flat (by kernel_rfl) rfl rfl fun w => (Tryd.strings_Compare a b w).mono fun e w' ⟨h1, h2⟩ => ⟨h1, h2 ▸ Below.refl _ _⟩
def cmpV : List AV → Option AV
  | [.str a, .str b] => some (.int .i64 (Lib.compareBytes a.data.toList b.data.toList))
  | _ => none
def cmpHook : Hook := fun g => if g = 63 then some cmpV else none
theorem cmpHook_ok : HookOk Tryd.prog cmpHook := by
  intro g f h ys r hr
  unfold cmpHook at h
  by_cases hg : g = 63
  · rw [if_pos hg] at h
    cases h
    rw [hg]
    unfold cmpV at hr
    split at hr
    · cases hr
      exact scompare_pure _ _
    · cases hr
  · rw [if_neg hg] at h
    cases h
end Go.Proofs.YtdkcmfafganhhaaDoor
