/- The closed statement, evaluated. -/
import Derived.Test.YtkbieohddgjioaaCfg
set_option linter.unusedVariables false
set_option linter.unusedSimpArgs false
set_option linter.unnecessarySimpa false
namespace Go.Proofs.Ytkbieohddgjioaa
open Hx
theorem known_run : isTrue ((sem cfg1 20000).call 1 6 [] G.empty) = true := by kernel_rfl
end Go.Proofs.Ytkbieohddgjioaa
