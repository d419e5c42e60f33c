/- A part of the proof: an interpreter over abstract values, shown right against the model, and what the functions of the chapter compute on it. -/
import Derived.Test.YtaebcalnodgpnaaRows
import Derived.Test.YtaebcalnodgpnaaHx7
set_option linter.unusedVariables false
set_option linter.unusedSimpArgs false
set_option linter.unnecessarySimpa false
section
namespace Go.Proofs.Ytaebcalnodgpnaa.Gen
open Hx
noncomputable def cfg:Cfg:={ P:=Try.prog,iso:=fun f=>Nat.testBit 123002526301194622711933100441120843449237503 f,ext:=xy 121 122,glob:=fun _=>none }
theorem cfgOk:CfgOk cfg:=CfgOk.std (by kernel_rfl) (by kernel_rfl) Try.func121 (by kernel_rfl) (by kernel_rfl) (by kernel_rfl) (by kernel_rfl) Try.func122 (by kernel_rfl) (by kernel_rfl) (by kernel_rfl) (by kernel_rfl)
theorem works_run:am (sem cfg 20000) 1 G.empty 9 []=.val (.bool true):=by kernel_rfl
noncomputable def cfg1:Cfg:=cfg.add 9 (wV (.bool true))
theorem cfg1Ok:CfgOk cfg1:=cfgOk.add (Fb cfgOk works_run)
end Go.Proofs.Ytaebcalnodgpnaa.Gen
end
