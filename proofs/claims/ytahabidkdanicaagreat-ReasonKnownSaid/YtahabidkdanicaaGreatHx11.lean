/- A part of the proof: an interpreter over abstract values, shown right against the model, and what the functions of the chapter compute on it. -/
import Derived.Test.YtahabidkdanicaaGreatHx10
set_option linter.unusedVariables false
set_option linter.unusedSimpArgs false
set_option linter.unnecessarySimpa false
section
namespace Go.Proofs.YtahabidkdanicaaGreat.Rea
open Hx
noncomputable section
def t91:=gP 3 TabR.D3.tab91 (gP 4 TabR.D4.tab91 (gP 5 TabR.D5.tab91 (md cfgR 20000 91)))
theorem e91:ExtOk cfgR 91 t91:=el cfgROk TabR.D3.tab91_ok (el cfgROk TabR.D4.tab91_ok (el cfgROk TabR.D5.tab91_ok (ij cfgROk)))
def t92:=gP 3 TabR.D3.tab92 (gP 4 TabR.D4.tab92 (gP 5 TabR.D5.tab92 (md cfgR 20000 92)))
theorem e92:ExtOk cfgR 92 t92:=el cfgROk TabR.D3.tab92_ok (el cfgROk TabR.D4.tab92_ok (el cfgROk TabR.D5.tab92_ok (ij cfgROk)))
def c1:Cfg:=cfgR.add 91 t91
theorem c1Ok:CfgOk c1:=cfgROk.add e91
def c2:Cfg:=c1.add 92 t92
theorem c2Ok:CfgOk c2:=c1Ok.add (ExtOk.cfg (C:=cfgR) (C':=c1) rfl rfl e92)
def c3:Cfg:=c2.add 48 (lW c2 1000 1000 48)
theorem c3Ok:CfgOk c3:=c2Ok.add (iG c2Ok)
def c4:Cfg:=c3.add 55 (lW c2 1000 1000 55)
theorem c4Ok:CfgOk c4:=c3Ok.add (ExtOk.cfg (C:=c2) (C':=c3) rfl rfl (iG c2Ok))
def c5:Cfg:=c4.add 62 (lW c2 1000 1000 62)
theorem c5Ok:CfgOk c5:=c4Ok.add (ExtOk.cfg (C:=c2) (C':=c4) rfl rfl (iG c2Ok))
theorem works_run:aD (sem c5 20000) 1 G.empty 16 []=.val (.bool true):=by kernel_rfl
def cfg1:Cfg:=c5.add 16 (gN (.bool true))
theorem cfg1Ok:CfgOk cfg1:=c5Ok.add (ku c5Ok works_run)
end
theorem reason_run:jR ((sem cfg1 20000).call 1 4 [] G.empty)=true:=by kernel_rfl
end Go.Proofs.YtahabidkdanicaaGreat.Rea
end
