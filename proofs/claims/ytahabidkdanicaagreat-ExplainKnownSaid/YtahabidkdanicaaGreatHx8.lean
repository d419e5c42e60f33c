/- A part of the proof: an interpreter over abstract values, shown right against the model, and what the functions of the chapter compute on it. -/
import Derived.Test.YtahabidkdanicaaGreatRows
import Derived.Test.YtahabidkdanicaaGreatHx7
set_option linter.unusedVariables false
set_option linter.unusedSimpArgs false
set_option linter.unnecessarySimpa false
section
namespace Go.Proofs.YtahabidkdanicaaGreat.Exp
open Hx
noncomputable def cfg0:Cfg:={ P:=Tryz.prog,iso:=fun f=>Nat.testBit 49467975663323267772639130346103898095481165185523289971312558079 f,ext:=fun _=>none,glob:=fun _=>none }
theorem cfg0Ok:CfgOk cfg0:=CfgOk.plain (by kernel_rfl) (by kernel_rfl)
noncomputable def cfgA:Cfg:=cfg0.add 31 (kg cfg0 1000 31)
theorem cfgAOk:CfgOk cfgA:=cfg0Ok.add (jI cfg0Ok)
noncomputable def cfgB:Cfg:=cfgA.add 81 (kg cfgA 1000 81)
theorem cfgBOk:CfgOk cfgB:=cfgAOk.add (jI cfgAOk)
noncomputable def cfg:Cfg:=cfgB.add 11 (kP cfgB 1000 1000 11)
theorem cfgOk:CfgOk cfg:=cfgBOk.add (lu cfgBOk)
theorem wakes_run:az (sem cfg 20000) 1 G.empty 5 []=.val (.bool true):=by kernel_rfl
end Go.Proofs.YtahabidkdanicaaGreat.Exp
end
