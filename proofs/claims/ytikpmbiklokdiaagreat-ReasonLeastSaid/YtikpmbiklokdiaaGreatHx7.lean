/- A part of the proof: what the functions of the chapter compute. -/
import Derived.Test.YtikpmbiklokdiaaGreatHx6
set_option linter.all false
set_option maxRecDepth 20000
set_option maxHeartbeats 8000000
namespace Hx
open Go
noncomputable section
end
end Hx
section
namespace Go.Proofs.YtikpmbiklokdiaaGreat.Gen
open Hx
noncomputable def cfg0:Cfg:={ P:=Tryz.prog,iso:=λf=>Nat.testBit 5897039057195129889704307131852233206672056247557625479167 f,ext:=λ_=>none,glob:=λ_=>none }
theorem cfg0Ok:CfgOk cfg0:=CfgOk.plain (by kernel_rfl) (by kernel_rfl)
theorem insOk:ExtOk cfg0 154 kW:=Ht (C:=cfg0) (ρ:=Tryz.lays21_ren) SK (Hx.CB Tryz.func154 (by kernel_rfl) (by kernel_rfl))
noncomputable def cfg:Cfg:=cfg0.add 154 kW
theorem cfgOk:CfgOk cfg:=cfg0Ok.add insOk
noncomputable def q0:Cfg:=cfg.add 155 (MT cfg 1000 155)
theorem q0Ok:CfgOk q0:=cfgOk.add (O_ cfgOk)
end Go.Proofs.YtikpmbiklokdiaaGreat.Gen
end
namespace Hx
open Go
noncomputable section
end
end Hx
