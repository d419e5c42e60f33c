/- The interpreter at this program, and that the law's own check of the chapter's examples comes to true. -/
import Derived.Test.YtkbieohddgjioaaRows
import Derived.Test.YtkbieohddgjioaaHxInl
set_option linter.unusedVariables false
set_option linter.unusedSimpArgs false
set_option linter.unnecessarySimpa false
namespace Go.Proofs.Ytkbieohddgjioaa
open Hx
noncomputable def cfg0 : Cfg := { P := Try.prog, iso := fun f => Nat.testBit 1248737599929262158239505116779511807 f, ext := fun _ => none, glob := fun _ => none }
theorem cfg0Ok : CfgOk cfg0 := CfgOk.plain (by kernel_rfl) (by kernel_rfl)
noncomputable def cfgA : Cfg := cfg0.add 69 (inlE cfg0 1000 69)
theorem cfgAOk : CfgOk cfgA := cfg0Ok.add (inlE_ok cfg0Ok)
noncomputable def cfg : Cfg := cfgA.add 27 (inlE cfgA 1000 27)
theorem cfgOk : CfgOk cfg := cfgAOk.add (inlE_ok cfgAOk)
theorem wakes_run : isoCall (sem cfg 20000) 1 G.empty 7 [] = .val (.bool true) := by kernel_rfl
noncomputable def cfg1 : Cfg := cfg.add 7 (constE (.bool true))
theorem cfg1Ok : CfgOk cfg1 := cfgOk.add (constE_ok cfgOk wakes_run)
end Go.Proofs.Ytkbieohddgjioaa
