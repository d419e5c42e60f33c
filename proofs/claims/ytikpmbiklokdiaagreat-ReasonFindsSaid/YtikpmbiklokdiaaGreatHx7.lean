/- A part of the proof. -/
import Derived.Test.YtikpmbiklokdiaaGreatHx6
set_option linter.all false
set_option maxRecDepth 20000
set_option maxHeartbeats 8000000
namespace Hx
open Go
noncomputable section
end
end Hx
section
namespace Go.Proofs.YtikpmbiklokdiaaGreat.Gen
open Hx
noncomputable def MN:ZO:={ P:=Tryz.prog,Wd:=λf=>Nat.testBit 5897039057195129889704307131852233206672056247557625479167 f,ext:=λ_=>none,Q6:=λ_=>none }
theorem RU:ZK MN:=ZK.plain (by kernel_rfl) (by kernel_rfl)
theorem insOk:Zm MN 154 mL:=MY (C:=MN) (ρ:=Tryz.lays21_ren) Zh (Hx.H_ Tryz.func154 (by kernel_rfl) (by kernel_rfl))
noncomputable def XR:ZO:=MN.add 154 mL
theorem Sg:ZK XR:=RU.add insOk
noncomputable def q0:ZO:=XR.add 155 (SQ XR 1000 155)
theorem R7:ZK q0:=Sg.add (Vt Sg)
end Go.Proofs.YtikpmbiklokdiaaGreat.Gen
end
namespace Hx
open Go
noncomputable section
end
end Hx
