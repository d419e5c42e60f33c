/- A part of the proof: an interpreter over abstract values, shown right against the model, and what the functions of the chapter compute on it. -/
import Derived.Test.YtahabidkdanicaaGreatHx8
set_option linter.unusedVariables false
set_option linter.unusedSimpArgs false
set_option linter.unnecessarySimpa false
section
namespace Go.Proofs.YtahabidkdanicaaGreat.Rea
open Hx
noncomputable section
def cfg0:Cfg:={ P:=Tryz.prog,iso:=fun f=>Nat.testBit 49467975663323267772639130346103898095481165185523289971312558079 f,ext:=fun _=>none,glob:=fun _=>none }
theorem cfg0Ok:CfgOk cfg0:=CfgOk.plain (by kernel_rfl) (by kernel_rfl)
theorem insOk:ExtOk cfg0 189 cQ:=jC (C:=cfg0) (ρ:=Tryz.lays21_ren) Tryz.lays21 (Hx.kq Tryz.func189 (by kernel_rfl) (by kernel_rfl))
def cfgA:Cfg:=cfg0.add 189 cQ
theorem cfgAOk:CfgOk cfgA:=cfg0Ok.add insOk
def cfgR:Cfg:=cfgA.add 31 (kL cfgA 1000 31)
theorem cfgROk:CfgOk cfgR:=cfgAOk.add (lM cfgAOk)
end
end Go.Proofs.YtahabidkdanicaaGreat.Rea
end
