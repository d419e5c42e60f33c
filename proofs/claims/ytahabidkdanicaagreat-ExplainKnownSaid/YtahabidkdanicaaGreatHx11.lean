/- A part of the proof: an interpreter over abstract values, shown right against the model, and what the functions of the chapter compute on it. -/
import Derived.Test.YtahabidkdanicaaGreatHx10
set_option linter.unusedVariables false
set_option linter.unusedSimpArgs false
set_option linter.unnecessarySimpa false
section
namespace Go.Proofs.YtahabidkdanicaaGreat.Exp
open Hx
noncomputable section
def t7:=ef 1 TabB.tab7 (kq cfgB 20000 7)
theorem e7:ExtOk cfgB 7 t7:=eM cfgBOk TabB.tab7_ok (ed cfgBOk)
def t8:=ef 1 TabB.tab8 (kq cfgB 20000 8)
theorem e8:ExtOk cfgB 8 t8:=eM cfgBOk TabB.tab8_ok (ed cfgBOk)
def t9:=ef 1 TabB.tab9 (kq cfgB 20000 9)
theorem e9:ExtOk cfgB 9 t9:=eM cfgBOk TabB.tab9_ok (ed cfgBOk)
def t10:=ef 1 TabB.tab10 (kq cfgB 20000 10)
theorem e10:ExtOk cfgB 10 t10:=eM cfgBOk TabB.tab10_ok (ed cfgBOk)
def t12:=ef 1 TabB.tab12 (kq cfgB 20000 12)
theorem e12:ExtOk cfgB 12 t12:=eM cfgBOk TabB.tab12_ok (ed cfgBOk)
def t11:=ef 1 TabA.tab11 (l0 cfgB 1000 1000 11)
theorem e11:ExtOk cfgB 11 t11:=lq (i5 cfgBOk) (jW cfgBOk) TabA.tab11_ok (lI cfgBOk)
theorem e5:ExtOk cfg 5 (fA (.bool true)):=kf cfgOk wakes_run
def c1:Cfg:=cfgB.add 5 (fA (.bool true))
theorem c1Ok:CfgOk c1:=cfgBOk.add (ExtOk.cfg (C:=cfg) (C':=cfgB) rfl rfl e5)
def c2:Cfg:=c1.add 7 t7
theorem c2Ok:CfgOk c2:=c1Ok.add (ExtOk.cfg (C:=cfgB) (C':=c1) rfl rfl e7)
def c3:Cfg:=c2.add 8 t8
theorem c3Ok:CfgOk c3:=c2Ok.add (ExtOk.cfg (C:=cfgB) (C':=c2) rfl rfl e8)
def c4:Cfg:=c3.add 9 t9
theorem c4Ok:CfgOk c4:=c3Ok.add (ExtOk.cfg (C:=cfgB) (C':=c3) rfl rfl e9)
def c5:Cfg:=c4.add 10 t10
theorem c5Ok:CfgOk c5:=c4Ok.add (ExtOk.cfg (C:=cfgB) (C':=c4) rfl rfl e10)
def c6:Cfg:=c5.add 12 t12
theorem c6Ok:CfgOk c6:=c5Ok.add (ExtOk.cfg (C:=cfgB) (C':=c5) rfl rfl e12)
def cfg1:Cfg:=c6.add 11 t11
theorem cfg1Ok:CfgOk cfg1:=c6Ok.add (ExtOk.cfg (C:=cfgB) (C':=c6) rfl rfl e11)
end
theorem explain_run:jg ((sem cfg1 20000).call 1 3 [] G.empty)=true:=by kernel_rfl
end Go.Proofs.YtahabidkdanicaaGreat.Exp
end
