/- A part of the proof: an interpreter over abstract values, shown right against the model, and what the functions of the chapter compute on it. -/
import Derived.Test.YtahabidkdanicaaGreatHx8
set_option linter.unusedVariables false
set_option linter.unusedSimpArgs false
set_option linter.unnecessarySimpa false
section
namespace Go.Proofs.YtahabidkdanicaaGreat.TabA
open Hx
noncomputable section
def a11_0:List AV:=[(.agg [(.int .i64 (.ofNat 4)),(.tsl 0 3 [[(.int .i64 (.ofNat 2)),.nils,(.tsl 0 1 [[(.tsl 0 1 [[(.int .i64 (.ofNat 1))],[(.int .i64 (.ofNat 3))]])]])],[(.int .i64 (.ofNat 2)),(.tsl 0 1 [[(.int .i64 (.ofNat 0))]]),(.tsl 0 1 [[(.tsl 0 1 [[(.int .i64 (.ofNat 4))],[(.int .i64 (.ofNat 0))]])],[(.tsl 0 1 [[(.int .i64 (.ofNat 2))],[(.int .i64 (.ofNat 2))]])]])],[(.int .i64 (.ofNat 2)),(.tsl 0 1 [[(.int .i64 (.ofNat 1))]]),(.tsl 0 1 [[(.tsl 0 1 [[(.int .i64 (.ofNat 1))],[(.int .i64 (.ofNat 3))]])],[(.tsl 0 1 [[(.int .i64 (.ofNat 4))],[(.int .i64 (.ofNat 0))]])]])]])]),(.tsl 1 1 [[(.int .i64 (.negSucc 0))],[(.int .i64 (.negSucc 0))],[(.int .i64 (.negSucc 0))]]),(.tsl 1 1 [[(.int .i64 (.ofNat 1))]]),(.tsl 1 1 [[(.int .i64 (.ofNat 0))]]),.nils]
def v11_0:AV:=(.int .i64 (.ofNat 190))
theorem r11_0:a9 1 ((ihP Exp.cfgB 1000 1000).call 2 11 a11_0 G.empty)=some v11_0:=by kernel_rfl
def a11_1:List AV:=[(.agg [(.int .i64 (.ofNat 4)),(.tsl 0 3 [[(.int .i64 (.ofNat 2)),.nils,(.tsl 0 1 [[(.tsl 0 1 [[(.int .i64 (.ofNat 1))],[(.int .i64 (.ofNat 3))]])]])],[(.int .i64 (.ofNat 2)),(.tsl 0 1 [[(.int .i64 (.ofNat 0))]]),(.tsl 0 1 [[(.tsl 0 1 [[(.int .i64 (.ofNat 4))],[(.int .i64 (.ofNat 0))]])],[(.tsl 0 1 [[(.int .i64 (.ofNat 2))],[(.int .i64 (.ofNat 2))]])]])],[(.int .i64 (.ofNat 2)),(.tsl 0 1 [[(.int .i64 (.ofNat 1))]]),(.tsl 0 1 [[(.tsl 0 1 [[(.int .i64 (.ofNat 1))],[(.int .i64 (.ofNat 3))]])],[(.tsl 0 1 [[(.int .i64 (.ofNat 4))],[(.int .i64 (.ofNat 0))]])]])]])]),(.tsl 1 1 [[(.int .i64 (.negSucc 0))],[(.int .i64 (.negSucc 0))],[(.int .i64 (.negSucc 0))]]),(.tsl 1 1 [[(.int .i64 (.ofNat 1))]]),(.tsl 1 1 [[(.int .i64 (.ofNat 0))]]),(.tsl 1 1 [[(.tsl 1 1 [[(.int .i64 (.ofNat 0))]])]])]
def v11_1:AV:=(.int .i64 (.ofNat 190))
theorem r11_1:a9 1 ((ihP Exp.cfgB 1000 1000).call 2 11 a11_1 G.empty)=some v11_1:=by kernel_rfl
def a11_2:List AV:=[(.agg [(.int .i64 (.ofNat 4)),(.tsl 0 3 [[(.int .i64 (.ofNat 2)),.nils,(.tsl 0 1 [[(.tsl 0 1 [[(.int .i64 (.ofNat 1))],[(.int .i64 (.ofNat 3))]])]])],[(.int .i64 (.ofNat 2)),(.tsl 0 1 [[(.int .i64 (.ofNat 0))]]),(.tsl 0 1 [[(.tsl 0 1 [[(.int .i64 (.ofNat 4))],[(.int .i64 (.ofNat 0))]])],[(.tsl 0 1 [[(.int .i64 (.ofNat 2))],[(.int .i64 (.ofNat 2))]])]])],[(.int .i64 (.ofNat 2)),(.tsl 0 1 [[(.int .i64 (.ofNat 1))]]),(.tsl 0 1 [[(.tsl 0 1 [[(.int .i64 (.ofNat 1))],[(.int .i64 (.ofNat 3))]])],[(.tsl 0 1 [[(.int .i64 (.ofNat 4))],[(.int .i64 (.ofNat 0))]])]])]])]),(.tsl 1 1 [[(.int .i64 (.negSucc 0))],[(.int .i64 (.negSucc 0))],[(.int .i64 (.negSucc 0))]]),(.tsl 1 1 [[(.int .i64 (.ofNat 1))]]),(.tsl 1 1 [[(.int .i64 (.ofNat 0))]]),(.tsl 1 1 [[(.tsl 1 1 [[(.int .i64 (.ofNat 0))]])],[(.tsl 1 1 [[(.int .i64 (.ofNat 1))]])],[(.tsl 1 1 [[(.int .i64 (.ofNat 1))]])]])]
def v11_2:AV:=(.int .i64 (.ofNat 190))
theorem r11_2:a9 1 ((ihP Exp.cfgB 1000 1000).call 2 11 a11_2 G.empty)=some v11_2:=by kernel_rfl
def a11_3:List AV:=[(.agg [(.int .i64 (.ofNat 4)),(.tsl 0 3 [[(.int .i64 (.ofNat 2)),.nils,(.tsl 0 1 [[(.tsl 0 1 [[(.int .i64 (.ofNat 1))],[(.int .i64 (.ofNat 3))]])]])],[(.int .i64 (.ofNat 2)),(.tsl 0 1 [[(.int .i64 (.ofNat 0))]]),(.tsl 0 1 [[(.tsl 0 1 [[(.int .i64 (.ofNat 4))],[(.int .i64 (.ofNat 0))]])],[(.tsl 0 1 [[(.int .i64 (.ofNat 2))],[(.int .i64 (.ofNat 2))]])]])],[(.int .i64 (.ofNat 2)),(.tsl 0 1 [[(.int .i64 (.ofNat 1))]]),(.tsl 0 1 [[(.tsl 0 1 [[(.int .i64 (.ofNat 1))],[(.int .i64 (.ofNat 3))]])],[(.tsl 0 1 [[(.int .i64 (.ofNat 4))],[(.int .i64 (.ofNat 0))]])]])]])]),(.tsl 1 1 [[(.int .i64 (.negSucc 0))],[(.int .i64 (.negSucc 0))],[(.int .i64 (.negSucc 0))]]),(.tsl 1 1 [[(.int .i64 (.ofNat 1))]]),(.tsl 1 1 [[(.int .i64 (.ofNat 0))]]),(.tsl 1 1 [[(.tsl 1 1 [[(.int .i64 (.ofNat 0))]])],[(.tsl 1 1 [[(.int .i64 (.ofNat 1))]])],[(.tsl 1 1 [])]])]
def v11_3:AV:=(.int .i64 (.ofNat 190))
theorem r11_3:a9 1 ((ihP Exp.cfgB 1000 1000).call 2 11 a11_3 G.empty)=some v11_3:=by kernel_rfl
def a11_4:List AV:=[(.agg [(.int .i64 (.ofNat 4)),(.tsl 0 3 [[(.int .i64 (.ofNat 2)),.nils,(.tsl 0 1 [[(.tsl 0 1 [[(.int .i64 (.ofNat 1))],[(.int .i64 (.ofNat 3))]])]])],[(.int .i64 (.ofNat 2)),(.tsl 0 1 [[(.int .i64 (.ofNat 0))]]),(.tsl 0 1 [[(.tsl 0 1 [[(.int .i64 (.ofNat 4))],[(.int .i64 (.ofNat 0))]])],[(.tsl 0 1 [[(.int .i64 (.ofNat 2))],[(.int .i64 (.ofNat 2))]])]])],[(.int .i64 (.ofNat 2)),(.tsl 0 1 [[(.int .i64 (.ofNat 1))]]),(.tsl 0 1 [[(.tsl 0 1 [[(.int .i64 (.ofNat 1))],[(.int .i64 (.ofNat 3))]])],[(.tsl 0 1 [[(.int .i64 (.ofNat 4))],[(.int .i64 (.ofNat 0))]])]])]])]),(.tsl 1 1 [[(.int .i64 (.negSucc 0))],[(.int .i64 (.negSucc 0))],[(.int .i64 (.negSucc 0))]]),(.tsl 1 1 [[(.int .i64 (.ofNat 1))]]),(.tsl 1 1 [[(.int .i64 (.ofNat 0))]]),(.tsl 1 1 [[(.tsl 1 1 [[(.int .i64 (.ofNat 0))]])],[(.tsl 1 1 [[(.int .i64 (.ofNat 2))]])]])]
def v11_4:AV:=(.int .i64 (.ofNat 190))
theorem r11_4:a9 1 ((ihP Exp.cfgB 1000 1000).call 2 11 a11_4 G.empty)=some v11_4:=by kernel_rfl
def a11_5:List AV:=[(.agg [(.int .i64 (.ofNat 4)),(.tsl 0 3 [[(.int .i64 (.ofNat 2)),.nils,(.tsl 0 1 [[(.tsl 0 1 [[(.int .i64 (.ofNat 1))],[(.int .i64 (.ofNat 3))]])]])],[(.int .i64 (.ofNat 2)),(.tsl 0 1 [[(.int .i64 (.ofNat 0))]]),(.tsl 0 1 [[(.tsl 0 1 [[(.int .i64 (.ofNat 4))],[(.int .i64 (.ofNat 0))]])],[(.tsl 0 1 [[(.int .i64 (.ofNat 2))],[(.int .i64 (.ofNat 2))]])]])],[(.int .i64 (.ofNat 2)),(.tsl 0 1 [[(.int .i64 (.ofNat 1))]]),(.tsl 0 1 [[(.tsl 0 1 [[(.int .i64 (.ofNat 1))],[(.int .i64 (.ofNat 3))]])],[(.tsl 0 1 [[(.int .i64 (.ofNat 4))],[(.int .i64 (.ofNat 0))]])]])]])]),(.tsl 1 1 [[(.int .i64 (.negSucc 0))],[(.int .i64 (.negSucc 0))],[(.int .i64 (.negSucc 0))]]),(.tsl 1 1 [[(.int .i64 (.ofNat 1))]]),(.tsl 1 1 [[(.int .i64 (.ofNat 0))]]),(.tsl 1 1 [[(.tsl 1 1 [])]])]
def v11_5:AV:=(.int .i64 (.ofNat 190))
theorem r11_5:a9 1 ((ihP Exp.cfgB 1000 1000).call 2 11 a11_5 G.empty)=some v11_5:=by kernel_rfl
def a11_6:List AV:=[(.agg [(.int .i64 (.ofNat 4)),(.tsl 0 3 [[(.int .i64 (.ofNat 2)),.nils,(.tsl 0 1 [[(.tsl 0 1 [[(.int .i64 (.ofNat 1))],[(.int .i64 (.ofNat 3))]])]])],[(.int .i64 (.ofNat 2)),(.tsl 0 1 [[(.int .i64 (.ofNat 0))]]),(.tsl 0 1 [[(.tsl 0 1 [[(.int .i64 (.ofNat 4))],[(.int .i64 (.ofNat 0))]])],[(.tsl 0 1 [[(.int .i64 (.ofNat 2))],[(.int .i64 (.ofNat 2))]])]])],[(.int .i64 (.ofNat 2)),(.tsl 0 1 [[(.int .i64 (.ofNat 1))]]),(.tsl 0 1 [[(.tsl 0 1 [[(.int .i64 (.ofNat 1))],[(.int .i64 (.ofNat 3))]])],[(.tsl 0 1 [[(.int .i64 (.ofNat 4))],[(.int .i64 (.ofNat 0))]])]])]])]),(.tsl 1 1 [[(.int .i64 (.negSucc 0))],[(.int .i64 (.negSucc 0))],[(.int .i64 (.negSucc 0))]]),(.tsl 1 1 [[(.int .i64 (.ofNat 1))]]),(.tsl 1 1 [[(.int .i64 (.ofNat 0))]]),(.tsl 1 1 [[(.tsl 1 1 [[(.int .i64 (.ofNat 0))]])],[(.tsl 1 1 [[(.int .i64 (.ofNat 1))],[(.int .i64 (.ofNat 0))]])]])]
def v11_6:AV:=(.int .i64 (.ofNat 190))
theorem r11_6:a9 1 ((ihP Exp.cfgB 1000 1000).call 2 11 a11_6 G.empty)=some v11_6:=by kernel_rfl
def a11_7:List AV:=[(.agg [(.int .i64 (.ofNat 4)),(.tsl 0 3 [[(.int .i64 (.ofNat 2)),.nils,(.tsl 0 1 [[(.tsl 0 1 [[(.int .i64 (.ofNat 1))],[(.int .i64 (.ofNat 3))]])]])],[(.int .i64 (.ofNat 2)),(.tsl 0 1 [[(.int .i64 (.ofNat 0))]]),(.tsl 0 1 [[(.tsl 0 1 [[(.int .i64 (.ofNat 4))],[(.int .i64 (.ofNat 0))]])],[(.tsl 0 1 [[(.int .i64 (.ofNat 2))],[(.int .i64 (.ofNat 2))]])]])],[(.int .i64 (.ofNat 2)),(.tsl 0 1 [[(.int .i64 (.ofNat 1))]]),(.tsl 0 1 [[(.tsl 0 1 [[(.int .i64 (.ofNat 1))],[(.int .i64 (.ofNat 3))]])],[(.tsl 0 1 [[(.int .i64 (.ofNat 4))],[(.int .i64 (.ofNat 0))]])]])]])]),(.tsl 1 1 [[(.int .i64 (.negSucc 0))],[(.int .i64 (.negSucc 0))],[(.int .i64 (.negSucc 0))]]),(.tsl 1 1 [[(.int .i64 (.ofNat 1))]]),(.tsl 1 1 [[(.int .i64 (.ofNat 0))]]),(.tsl 1 1 [[(.tsl 1 1 [[(.int .i64 (.ofNat 0))]])],[(.tsl 1 1 [[(.int .i64 (.negSucc 0))]])]])]
def v11_7:AV:=(.int .i64 (.ofNat 190))
theorem r11_7:a9 1 ((ihP Exp.cfgB 1000 1000).call 2 11 a11_7 G.empty)=some v11_7:=by kernel_rfl
def a11_8:List AV:=[(.agg [(.int .i64 (.ofNat 2)),(.tsl 1 3 [[(.int .i64 (.ofNat 2)),.nils,(.tsl 1 1 [[(.tsl 1 1 [[(.int .i64 (.ofNat 1))],[(.int .i64 (.ofNat 1))]])]])],[(.int .i64 (.ofNat 2)),.nils,(.tsl 1 1 [[(.tsl 1 1 [[(.int .i64 (.ofNat 1))],[(.int .i64 (.ofNat 1))]])]])]])]),(.tsl 1 1 [[(.int .i64 (.negSucc 0))],[(.int .i64 (.negSucc 0))]]),(.tsl 1 1 [[(.int .i64 (.ofNat 0))],[(.int .i64 (.ofNat 1))]]),(.tsl 1 1 [[(.int .i64 (.ofNat 0))],[(.int .i64 (.ofNat 0))]]),(.tsl 1 1 [[(.tsl 1 1 [[(.int .i64 (.ofNat 0))],[(.int .i64 (.ofNat 0))]])],[(.tsl 1 1 [[(.int .i64 (.ofNat 0))],[(.int .i64 (.ofNat 1))]])],[(.tsl 1 1 [[(.int .i64 (.ofNat 1))]])]])]
def v11_8:AV:=(.int .i64 (.ofNat 0))
theorem r11_8:a9 1 ((ihP Exp.cfgB 1000 1000).call 2 11 a11_8 G.empty)=some v11_8:=by kernel_rfl
def a11_9:List AV:=[(.agg [(.int .i64 (.ofNat 2)),(.tsl 1 3 [[(.int .i64 (.ofNat 2)),.nils,(.tsl 1 1 [[(.tsl 1 1 [[(.int .i64 (.ofNat 1))],[(.int .i64 (.ofNat 1))]])]])],[(.int .i64 (.ofNat 2)),.nils,(.tsl 1 1 [[(.tsl 1 1 [[(.int .i64 (.ofNat 1))],[(.int .i64 (.ofNat 1))]])]])]])]),(.tsl 1 1 [[(.int .i64 (.negSucc 0))],[(.int .i64 (.negSucc 0))]]),(.tsl 1 1 [[(.int .i64 (.ofNat 0))],[(.int .i64 (.ofNat 1))]]),(.tsl 1 1 [[(.int .i64 (.ofNat 0))],[(.int .i64 (.ofNat 0))]]),(.tsl 1 1 [[(.tsl 1 1 [[(.int .i64 (.ofNat 1))]])],[(.tsl 1 1 [[(.int .i64 (.ofNat 1))],[(.int .i64 (.ofNat 0))]])],[(.tsl 1 1 [[(.int .i64 (.ofNat 0))],[(.int .i64 (.ofNat 0))]])]])]
def v11_9:AV:=(.int .i64 (.ofNat 190))
theorem r11_9:a9 1 ((ihP Exp.cfgB 1000 1000).call 2 11 a11_9 G.empty)=some v11_9:=by kernel_rfl
def a11_10:List AV:=[(.agg [(.int .i64 (.ofNat 2)),(.tsl 1 3 [[(.int .i64 (.ofNat 2)),.nils,(.tsl 1 1 [[(.tsl 1 1 [[(.int .i64 (.ofNat 1))],[(.int .i64 (.ofNat 1))]])]])],[(.int .i64 (.ofNat 2)),.nils,(.tsl 1 1 [[(.tsl 1 1 [[(.int .i64 (.ofNat 1))],[(.int .i64 (.ofNat 1))]])]])]])]),(.tsl 1 1 [[(.int .i64 (.negSucc 0))],[(.int .i64 (.negSucc 0))]]),(.tsl 1 1 [[(.int .i64 (.ofNat 0))],[(.int .i64 (.ofNat 1))]]),(.tsl 1 1 [[(.int .i64 (.ofNat 0))],[(.int .i64 (.ofNat 1))]]),(.tsl 1 1 [[(.tsl 1 1 [[(.int .i64 (.ofNat 0))],[(.int .i64 (.ofNat 0))]])],[(.tsl 1 1 [[(.int .i64 (.ofNat 0))],[(.int .i64 (.ofNat 1))]])],[(.tsl 1 1 [[(.int .i64 (.ofNat 1))]])]])]
def v11_10:AV:=(.int .i64 (.ofNat 190))
theorem r11_10:a9 1 ((ihP Exp.cfgB 1000 1000).call 2 11 a11_10 G.empty)=some v11_10:=by kernel_rfl
def a11_11:List AV:=[(.agg [(.int .i64 (.ofNat 4)),(.tsl 0 3 [[(.int .i64 (.ofNat 2)),.nils,(.tsl 0 1 [[(.tsl 0 1 [[(.int .i64 (.ofNat 1))],[(.int .i64 (.ofNat 3))]])]])],[(.int .i64 (.ofNat 2)),(.tsl 0 1 [[(.int .i64 (.ofNat 0))]]),(.tsl 0 1 [[(.tsl 0 1 [[(.int .i64 (.ofNat 4))],[(.int .i64 (.ofNat 0))]])],[(.tsl 0 1 [[(.int .i64 (.ofNat 2))],[(.int .i64 (.ofNat 2))]])]])],[(.int .i64 (.ofNat 2)),(.tsl 0 1 [[(.int .i64 (.ofNat 1))]]),(.tsl 0 1 [[(.tsl 0 1 [[(.int .i64 (.ofNat 1))],[(.int .i64 (.ofNat 3))]])],[(.tsl 0 1 [[(.int .i64 (.ofNat 4))],[(.int .i64 (.ofNat 0))]])]])]])]),(.tsl 1 1 [[(.int .i64 (.negSucc 0))],[(.int .i64 (.negSucc 0))],[(.int .i64 (.negSucc 0))]]),(.tsl 1 1 [[(.int .i64 (.ofNat 1))]]),(.tsl 1 1 [[(.int .i64 (.ofNat 2))]]),.nils]
def v11_11:AV:=(.int .i64 (.ofNat 2))
theorem r11_11:a9 1 ((ihP Exp.cfgB 1000 1000).call 2 11 a11_11 G.empty)=some v11_11:=by kernel_rfl
def a11_12:List AV:=[(.agg [(.int .i64 (.ofNat 4)),(.tsl 0 3 [[(.int .i64 (.ofNat 2)),.nils,(.tsl 0 1 [[(.tsl 0 1 [[(.int .i64 (.ofNat 1))],[(.int .i64 (.ofNat 3))]])]])],[(.int .i64 (.ofNat 2)),(.tsl 0 1 [[(.int .i64 (.ofNat 0))]]),(.tsl 0 1 [[(.tsl 0 1 [[(.int .i64 (.ofNat 4))],[(.int .i64 (.ofNat 0))]])],[(.tsl 0 1 [[(.int .i64 (.ofNat 2))],[(.int .i64 (.ofNat 2))]])]])],[(.int .i64 (.ofNat 2)),(.tsl 0 1 [[(.int .i64 (.ofNat 1))]]),(.tsl 0 1 [[(.tsl 0 1 [[(.int .i64 (.ofNat 1))],[(.int .i64 (.ofNat 3))]])],[(.tsl 0 1 [[(.int .i64 (.ofNat 4))],[(.int .i64 (.ofNat 0))]])]])]])]),(.tsl 1 1 [[(.int .i64 (.negSucc 0))],[(.int .i64 (.negSucc 0))],[(.int .i64 (.negSucc 0))]]),(.tsl 1 1 [[(.int .i64 (.ofNat 1))]]),.nils,.nils]
def v11_12:AV:=(.int .i64 (.ofNat 2))
theorem r11_12:a9 1 ((ihP Exp.cfgB 1000 1000).call 2 11 a11_12 G.empty)=some v11_12:=by kernel_rfl
def a11_13:List AV:=[(.agg [(.int .i64 (.ofNat 4)),(.tsl 0 3 [[(.int .i64 (.ofNat 2)),.nils,(.tsl 0 1 [[(.tsl 0 1 [[(.int .i64 (.ofNat 1))],[(.int .i64 (.ofNat 3))]])]])],[(.int .i64 (.ofNat 2)),(.tsl 0 1 [[(.int .i64 (.ofNat 0))]]),(.tsl 0 1 [[(.tsl 0 1 [[(.int .i64 (.ofNat 4))],[(.int .i64 (.ofNat 0))]])],[(.tsl 0 1 [[(.int .i64 (.ofNat 2))],[(.int .i64 (.ofNat 2))]])]])],[(.int .i64 (.ofNat 2)),(.tsl 0 1 [[(.int .i64 (.ofNat 1))]]),(.tsl 0 1 [[(.tsl 0 1 [[(.int .i64 (.ofNat 1))],[(.int .i64 (.ofNat 3))]])],[(.tsl 0 1 [[(.int .i64 (.ofNat 4))],[(.int .i64 (.ofNat 0))]])]])]])]),(.tsl 1 1 [[(.int .i64 (.negSucc 0))],[(.int .i64 (.negSucc 0))],[(.int .i64 (.negSucc 0))]]),(.tsl 1 1 [[(.int .i64 (.ofNat 1))]]),(.tsl 1 1 [[(.int .i64 (.ofNat 1))]]),(.tsl 1 1 [[(.tsl 1 1 [[(.int .i64 (.ofNat 0))]])],[(.tsl 1 1 [[(.int .i64 (.ofNat 1))]])]])]
def v11_13:AV:=(.int .i64 (.ofNat 190))
theorem r11_13:a9 1 ((ihP Exp.cfgB 1000 1000).call 2 11 a11_13 G.empty)=some v11_13:=by kernel_rfl
def a11_14:List AV:=[(.agg [(.int .i64 (.ofNat 4)),(.tsl 0 3 [[(.int .i64 (.ofNat 2)),.nils,(.tsl 0 1 [[(.tsl 0 1 [[(.int .i64 (.ofNat 1))],[(.int .i64 (.ofNat 3))]])]])],[(.int .i64 (.ofNat 2)),(.tsl 0 1 [[(.int .i64 (.ofNat 0))]]),(.tsl 0 1 [[(.tsl 0 1 [[(.int .i64 (.ofNat 4))],[(.int .i64 (.ofNat 0))]])],[(.tsl 0 1 [[(.int .i64 (.ofNat 2))],[(.int .i64 (.ofNat 2))]])]])],[(.int .i64 (.ofNat 2)),(.tsl 0 1 [[(.int .i64 (.ofNat 1))]]),(.tsl 0 1 [[(.tsl 0 1 [[(.int .i64 (.ofNat 1))],[(.int .i64 (.ofNat 3))]])],[(.tsl 0 1 [[(.int .i64 (.ofNat 4))],[(.int .i64 (.ofNat 0))]])]])]])]),(.tsl 1 1 [[(.int .i64 (.negSucc 0))],[(.int .i64 (.negSucc 0))],[(.int .i64 (.negSucc 0))]]),.nils,.nils,(.tsl 1 1 [[(.tsl 1 1 [])]])]
def v11_14:AV:=(.int .i64 (.ofNat 0))
theorem r11_14:a9 1 ((ihP Exp.cfgB 1000 1000).call 2 11 a11_14 G.empty)=some v11_14:=by kernel_rfl
def tab11:List (List AV×AV):=[(a11_0,v11_0),(a11_1,v11_1),(a11_2,v11_2),(a11_3,v11_3),(a11_4,v11_4),(a11_5,v11_5),(a11_6,v11_6),(a11_7,v11_7),(a11_8,v11_8),(a11_9,v11_9),(a11_10,v11_10),(a11_11,v11_11),(a11_12,v11_12),(a11_13,v11_13),(a11_14,v11_14)]
theorem tab11_ok:∀e∈tab11,a9 1 ((ihP Exp.cfgB 1000 1000).call 2 11 e.1 G.empty)=some e.2:=by
 intro e he
 simp only[tab11,List.mem_cons,List.not_mem_nil,or_false] at he
 rcases he with rfl | rfl | rfl | rfl | rfl | rfl | rfl | rfl | rfl | rfl | rfl | rfl | rfl | rfl | rfl
 ·exact r11_0
 ·exact r11_1
 ·exact r11_2
 ·exact r11_3
 ·exact r11_4
 ·exact r11_5
 ·exact r11_6
 ·exact r11_7
 ·exact r11_8
 ·exact r11_9
 ·exact r11_10
 ·exact r11_11
 ·exact r11_12
 ·exact r11_13
 ·exact r11_14
end
end Go.Proofs.YtahabidkdanicaaGreat.TabA
end
