/- The example of chapter 18, by the kernel. -/
import Derived.Test.YtpgoefakhecdnaaDel
import Derived.Test.YtpgoefakhecdnaaAbMv
import Derived.Test.YtpgoefakhecdnaaTy
namespace Go.Proofs.Ytpgoefakhecdnaa
set_option linter.unusedSimpArgs false
set_option linter.unusedVariables false
set_option linter.unnecessarySimpa false
set_option linter.unusedSectionVars false
open Go.RowKit
variable [Glob]
set_option maxRecDepth 100000
theorem awake_pure : Pure Try.prog 5 [] (.bool true) := exFC_pure (m := 4096) (n := 40) mixed noHook delRow_ok noBase (by kernel_rfl)
end Go.Proofs.Ytpgoefakhecdnaa
