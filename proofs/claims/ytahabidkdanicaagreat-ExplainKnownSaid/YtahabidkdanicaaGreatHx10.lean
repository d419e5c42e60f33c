/- A part of the proof: an interpreter over abstract values, shown right against the model, and what the functions of the chapter compute on it. -/
import Derived.Test.YtahabidkdanicaaGreatHx9
set_option linter.unusedVariables false
set_option linter.unusedSimpArgs false
set_option linter.unnecessarySimpa false
section
namespace Go.Proofs.YtahabidkdanicaaGreat.TabB
open Hx
noncomputable section
def a7_0:List AV:=[(.agg [(.int .i64 (.ofNat 4)),(.tsl 0 3 [[(.int .i64 (.ofNat 2)),.nils,(.tsl 0 1 [[(.tsl 0 1 [[(.int .i64 (.ofNat 1))],[(.int .i64 (.ofNat 3))]])]])],[(.int .i64 (.ofNat 2)),(.tsl 0 1 [[(.int .i64 (.ofNat 0))]]),(.tsl 0 1 [[(.tsl 0 1 [[(.int .i64 (.ofNat 4))],[(.int .i64 (.ofNat 0))]])],[(.tsl 0 1 [[(.int .i64 (.ofNat 2))],[(.int .i64 (.ofNat 2))]])]])],[(.int .i64 (.ofNat 2)),(.tsl 0 1 [[(.int .i64 (.ofNat 1))]]),(.tsl 0 1 [[(.tsl 0 1 [[(.int .i64 (.ofNat 1))],[(.int .i64 (.ofNat 3))]])],[(.tsl 0 1 [[(.int .i64 (.ofNat 4))],[(.int .i64 (.ofNat 0))]])]])]])]),(.tsl 1 1 [[(.int .i64 (.negSucc 0))],[(.int .i64 (.negSucc 0))],[(.int .i64 (.ofNat 1))]]),(.int .i64 (.ofNat 9))]
def v7_0:AV:=(.tup [(.tsl 0 1 [[(.int .i64 (.ofNat 5))],[(.int .i64 (.ofNat 1))]]),(.tsl 0 2 [[(.int .i64 (.ofNat 3)),(.int .i64 (.ofNat 5))],[(.int .i64 (.ofNat 2)),(.int .i64 (.ofNat 5))]]),(.int .i64 (.ofNat 0))])
theorem r7_0:a9 1 ((sem Exp.cfgB 20000).call 2 7 a7_0 G.empty)=some v7_0:=by kernel_rfl
def a7_1:List AV:=[(.agg [(.int .i64 (.ofNat 4)),(.tsl 0 3 [[(.int .i64 (.ofNat 2)),.nils,(.tsl 0 1 [[(.tsl 0 1 [[(.int .i64 (.ofNat 1))],[(.int .i64 (.ofNat 3))]])]])],[(.int .i64 (.ofNat 2)),(.tsl 0 1 [[(.int .i64 (.ofNat 0))]]),(.tsl 0 1 [[(.tsl 0 1 [[(.int .i64 (.ofNat 4))],[(.int .i64 (.ofNat 0))]])],[(.tsl 0 1 [[(.int .i64 (.ofNat 2))],[(.int .i64 (.ofNat 2))]])]])],[(.int .i64 (.ofNat 2)),(.tsl 0 1 [[(.int .i64 (.ofNat 1))]]),(.tsl 0 1 [[(.tsl 0 1 [[(.int .i64 (.ofNat 1))],[(.int .i64 (.ofNat 3))]])],[(.tsl 0 1 [[(.int .i64 (.ofNat 4))],[(.int .i64 (.ofNat 0))]])]])]])]),(.tsl 1 1 [[(.int .i64 (.negSucc 0))],[(.int .i64 (.ofNat 1))],[(.int .i64 (.ofNat 1))]]),(.int .i64 (.ofNat 1))]
def v7_1:AV:=(.tup [.nils,.nils,(.int .i64 (.ofNat 7))])
theorem r7_1:a9 1 ((sem Exp.cfgB 20000).call 2 7 a7_1 G.empty)=some v7_1:=by kernel_rfl
def a7_2:List AV:=[(.agg [(.int .i64 (.ofNat 4)),(.tsl 0 3 [[(.int .i64 (.ofNat 2)),.nils,(.tsl 0 1 [[(.tsl 0 1 [[(.int .i64 (.ofNat 1))],[(.int .i64 (.ofNat 3))]])]])],[(.int .i64 (.ofNat 2)),(.tsl 0 1 [[(.int .i64 (.ofNat 0))]]),(.tsl 0 1 [[(.tsl 0 1 [[(.int .i64 (.ofNat 4))],[(.int .i64 (.ofNat 0))]])],[(.tsl 0 1 [[(.int .i64 (.ofNat 2))],[(.int .i64 (.ofNat 2))]])]])],[(.int .i64 (.ofNat 2)),(.tsl 0 1 [[(.int .i64 (.ofNat 1))]]),(.tsl 0 1 [[(.tsl 0 1 [[(.int .i64 (.ofNat 1))],[(.int .i64 (.ofNat 3))]])],[(.tsl 0 1 [[(.int .i64 (.ofNat 4))],[(.int .i64 (.ofNat 0))]])]])]])]),(.tsl 1 1 [[(.int .i64 (.negSucc 0))],[(.int .i64 (.negSucc 0))],[(.int .i64 (.negSucc 0))]]),(.int .i64 (.ofNat 0))]
def v7_2:AV:=(.tup [.nils,.nils,(.int .i64 (.ofNat 2))])
theorem r7_2:a9 1 ((sem Exp.cfgB 20000).call 2 7 a7_2 G.empty)=some v7_2:=by kernel_rfl
def a7_3:List AV:=[(.agg [(.int .i64 (.ofNat 4)),(.tsl 0 3 [[(.int .i64 (.ofNat 2)),.nils,(.tsl 0 1 [[(.tsl 0 1 [[(.int .i64 (.ofNat 1))],[(.int .i64 (.ofNat 3))]])]])],[(.int .i64 (.ofNat 2)),(.tsl 0 1 [[(.int .i64 (.ofNat 0))]]),(.tsl 0 1 [[(.tsl 0 1 [[(.int .i64 (.ofNat 4))],[(.int .i64 (.ofNat 0))]])],[(.tsl 0 1 [[(.int .i64 (.ofNat 2))],[(.int .i64 (.ofNat 2))]])]])],[(.int .i64 (.ofNat 2)),(.tsl 0 1 [[(.int .i64 (.ofNat 1))]]),(.tsl 0 1 [[(.tsl 0 1 [[(.int .i64 (.ofNat 1))],[(.int .i64 (.ofNat 3))]])],[(.tsl 0 1 [[(.int .i64 (.ofNat 4))],[(.int .i64 (.ofNat 0))]])]])]])]),(.tsl 1 1 [[(.int .i64 (.negSucc 0))],[(.int .i64 (.negSucc 0))],[(.int .i64 (.negSucc 0))]]),(.int .i64 (.ofNat 51))]
def v7_3:AV:=(.tup [.nils,.nils,(.int .i64 (.ofNat 2))])
theorem r7_3:a9 1 ((sem Exp.cfgB 20000).call 2 7 a7_3 G.empty)=some v7_3:=by kernel_rfl
def tab7:List (List AV×AV):=[(a7_0,v7_0),(a7_1,v7_1),(a7_2,v7_2),(a7_3,v7_3)]
theorem tab7_ok:∀e∈tab7,a9 1 ((sem Exp.cfgB 20000).call 2 7 e.1 G.empty)=some e.2:=by
 intro e he
 simp only[tab7,List.mem_cons,List.not_mem_nil,or_false] at he
 rcases he with rfl | rfl | rfl | rfl
 ·exact r7_0
 ·exact r7_1
 ·exact r7_2
 ·exact r7_3
def a8_0:List AV:=[(.agg [(.int .i64 (.ofNat 4)),(.tsl 0 3 [[(.int .i64 (.ofNat 2)),.nils,(.tsl 0 1 [[(.tsl 0 1 [[(.int .i64 (.ofNat 1))],[(.int .i64 (.ofNat 3))]])]])],[(.int .i64 (.ofNat 2)),(.tsl 0 1 [[(.int .i64 (.ofNat 0))]]),(.tsl 0 1 [[(.tsl 0 1 [[(.int .i64 (.ofNat 4))],[(.int .i64 (.ofNat 0))]])],[(.tsl 0 1 [[(.int .i64 (.ofNat 2))],[(.int .i64 (.ofNat 2))]])]])],[(.int .i64 (.ofNat 2)),(.tsl 0 1 [[(.int .i64 (.ofNat 1))]]),(.tsl 0 1 [[(.tsl 0 1 [[(.int .i64 (.ofNat 1))],[(.int .i64 (.ofNat 3))]])],[(.tsl 0 1 [[(.int .i64 (.ofNat 4))],[(.int .i64 (.ofNat 0))]])]])]])]),(.tsl 1 1 [[(.int .i64 (.negSucc 0))],[(.int .i64 (.negSucc 0))],[(.int .i64 (.negSucc 0))]]),(.tsl 1 1 [[(.int .i64 (.ofNat 1))],[(.int .i64 (.ofNat 0))]])]
def v8_0:AV:=(.tup [.nils,(.agg [(.int .i64 (.ofNat 0)),(.int .i64 (.ofNat 0))]),(.int .i64 (.ofNat 2))])
theorem r8_0:a9 1 ((sem Exp.cfgB 20000).call 2 8 a8_0 G.empty)=some v8_0:=by kernel_rfl
def a8_1:List AV:=[(.agg [(.int .i64 (.ofNat 4)),(.tsl 0 3 [[(.int .i64 (.ofNat 2)),.nils,(.tsl 0 1 [[(.tsl 0 1 [[(.int .i64 (.ofNat 1))],[(.int .i64 (.ofNat 3))]])]])],[(.int .i64 (.ofNat 2)),(.tsl 0 1 [[(.int .i64 (.ofNat 0))]]),(.tsl 0 1 [[(.tsl 0 1 [[(.int .i64 (.ofNat 4))],[(.int .i64 (.ofNat 0))]])],[(.tsl 0 1 [[(.int .i64 (.ofNat 2))],[(.int .i64 (.ofNat 2))]])]])],[(.int .i64 (.ofNat 2)),(.tsl 0 1 [[(.int .i64 (.ofNat 1))]]),(.tsl 0 1 [[(.tsl 0 1 [[(.int .i64 (.ofNat 1))],[(.int .i64 (.ofNat 3))]])],[(.tsl 0 1 [[(.int .i64 (.ofNat 4))],[(.int .i64 (.ofNat 0))]])]])]])]),(.tsl 1 1 [[(.int .i64 (.negSucc 0))],[(.int .i64 (.negSucc 0))],[(.int .i64 (.negSucc 0))]]),(.tsl 1 1 [[(.int .i64 (.ofNat 3))]])]
def v8_1:AV:=(.tup [.nils,(.agg [(.int .i64 (.ofNat 0)),(.int .i64 (.ofNat 0))]),(.int .i64 (.ofNat 2))])
theorem r8_1:a9 1 ((sem Exp.cfgB 20000).call 2 8 a8_1 G.empty)=some v8_1:=by kernel_rfl
def a8_2:List AV:=[(.agg [(.int .i64 (.ofNat 4)),(.tsl 0 3 [[(.int .i64 (.ofNat 2)),.nils,(.tsl 0 1 [[(.tsl 0 1 [[(.int .i64 (.ofNat 1))],[(.int .i64 (.ofNat 3))]])]])],[(.int .i64 (.ofNat 2)),(.tsl 0 1 [[(.int .i64 (.ofNat 0))]]),(.tsl 0 1 [[(.tsl 0 1 [[(.int .i64 (.ofNat 4))],[(.int .i64 (.ofNat 0))]])],[(.tsl 0 1 [[(.int .i64 (.ofNat 2))],[(.int .i64 (.ofNat 2))]])]])],[(.int .i64 (.ofNat 2)),(.tsl 0 1 [[(.int .i64 (.ofNat 1))]]),(.tsl 0 1 [[(.tsl 0 1 [[(.int .i64 (.ofNat 1))],[(.int .i64 (.ofNat 3))]])],[(.tsl 0 1 [[(.int .i64 (.ofNat 4))],[(.int .i64 (.ofNat 0))]])]])]])]),(.tsl 1 1 [[(.int .i64 (.negSucc 0))],[(.int .i64 (.negSucc 0))],[(.int .i64 (.negSucc 0))]]),(.tsl 1 1 [[(.int .i64 (.ofNat 1))],[(.int .i64 (.ofNat 1))]])]
def v8_2:AV:=(.tup [.nils,(.agg [(.int .i64 (.ofNat 0)),(.int .i64 (.ofNat 0))]),(.int .i64 (.ofNat 2))])
theorem r8_2:a9 1 ((sem Exp.cfgB 20000).call 2 8 a8_2 G.empty)=some v8_2:=by kernel_rfl
def a8_3:List AV:=[(.agg [(.int .i64 (.ofNat 4)),(.tsl 0 3 [[(.int .i64 (.ofNat 2)),.nils,(.tsl 0 1 [[(.tsl 0 1 [[(.int .i64 (.ofNat 1))],[(.int .i64 (.ofNat 3))]])]])],[(.int .i64 (.ofNat 2)),(.tsl 0 1 [[(.int .i64 (.ofNat 0))]]),(.tsl 0 1 [[(.tsl 0 1 [[(.int .i64 (.ofNat 4))],[(.int .i64 (.ofNat 0))]])],[(.tsl 0 1 [[(.int .i64 (.ofNat 2))],[(.int .i64 (.ofNat 2))]])]])],[(.int .i64 (.ofNat 2)),(.tsl 0 1 [[(.int .i64 (.ofNat 1))]]),(.tsl 0 1 [[(.tsl 0 1 [[(.int .i64 (.ofNat 1))],[(.int .i64 (.ofNat 3))]])],[(.tsl 0 1 [[(.int .i64 (.ofNat 4))],[(.int .i64 (.ofNat 0))]])]])]])]),(.tsl 1 1 [[(.int .i64 (.negSucc 0))],[(.int .i64 (.ofNat 1))],[(.int .i64 (.ofNat 1))]]),(.tsl 1 1 [[(.int .i64 (.ofNat 1))]])]
def v8_3:AV:=(.tup [.nils,(.agg [(.int .i64 (.ofNat 0)),(.int .i64 (.ofNat 0))]),(.int .i64 (.ofNat 7))])
theorem r8_3:a9 1 ((sem Exp.cfgB 20000).call 2 8 a8_3 G.empty)=some v8_3:=by kernel_rfl
def a8_4:List AV:=[(.agg [(.int .i64 (.ofNat 0)),.nils]),.nils,(.tsl 1 1 [[(.int .i64 (.ofNat 9))]])]
def v8_4:AV:=(.tup [.nils,(.agg [(.int .i64 (.ofNat 0)),(.int .i64 (.ofNat 0))]),(.int .i64 (.ofNat 50))])
theorem r8_4:a9 1 ((sem Exp.cfgB 20000).call 2 8 a8_4 G.empty)=some v8_4:=by kernel_rfl
def a8_5:List AV:=[(.agg [(.int .i64 (.ofNat 2)),(.tsl 1 3 [[(.int .i64 (.ofNat 2)),.nils,(.tsl 1 1 [[(.tsl 1 1 [[(.int .i64 (.ofNat 1))],[(.int .i64 (.ofNat 1))]])]])],[(.int .i64 (.ofNat 2)),.nils,(.tsl 1 1 [[(.tsl 1 1 [[(.int .i64 (.ofNat 1))],[(.int .i64 (.ofNat 1))]])]])]])]),(.tsl 1 1 [[(.int .i64 (.negSucc 0))],[(.int .i64 (.negSucc 0))]]),(.tsl 1 1 [[(.int .i64 (.ofNat 0))],[(.int .i64 (.ofNat 1))]])]
def v8_5:AV:=(.tup [(.tsl 0 1 [[(.int .i64 (.ofNat 0))],[(.int .i64 (.ofNat 0))]]),(.agg [(.int .i64 (.ofNat 1)),(.int .i64 (.ofNat 4))]),(.int .i64 (.ofNat 0))])
theorem r8_5:a9 1 ((sem Exp.cfgB 20000).call 2 8 a8_5 G.empty)=some v8_5:=by kernel_rfl
def tab8:List (List AV×AV):=[(a8_0,v8_0),(a8_1,v8_1),(a8_2,v8_2),(a8_3,v8_3),(a8_4,v8_4),(a8_5,v8_5)]
theorem tab8_ok:∀e∈tab8,a9 1 ((sem Exp.cfgB 20000).call 2 8 e.1 G.empty)=some e.2:=by
 intro e he
 simp only[tab8,List.mem_cons,List.not_mem_nil,or_false] at he
 rcases he with rfl | rfl | rfl | rfl | rfl | rfl
 ·exact r8_0
 ·exact r8_1
 ·exact r8_2
 ·exact r8_3
 ·exact r8_4
 ·exact r8_5
def a9_0:List AV:=[(.agg [(.int .i64 (.ofNat 4)),(.tsl 0 3 [[(.int .i64 (.ofNat 2)),.nils,(.tsl 0 1 [[(.tsl 0 1 [[(.int .i64 (.ofNat 1))],[(.int .i64 (.ofNat 3))]])]])],[(.int .i64 (.ofNat 2)),(.tsl 0 1 [[(.int .i64 (.ofNat 0))]]),(.tsl 0 1 [[(.tsl 0 1 [[(.int .i64 (.ofNat 4))],[(.int .i64 (.ofNat 0))]])],[(.tsl 0 1 [[(.int .i64 (.ofNat 2))],[(.int .i64 (.ofNat 2))]])]])],[(.int .i64 (.ofNat 2)),(.tsl 0 1 [[(.int .i64 (.ofNat 1))]]),(.tsl 0 1 [[(.tsl 0 1 [[(.int .i64 (.ofNat 1))],[(.int .i64 (.ofNat 3))]])],[(.tsl 0 1 [[(.int .i64 (.ofNat 4))],[(.int .i64 (.ofNat 0))]])]])]])]),(.tsl 1 1 [[(.int .i64 (.negSucc 0))],[(.int .i64 (.negSucc 0))],[(.int .i64 (.negSucc 0))]]),(.tsl 1 1 [[(.int .i64 (.ofNat 1))]]),(.tsl 1 1 [[(.int .i64 (.ofNat 2))]])]
def v9_0:AV:=(.tup [(.int .i64 (.ofNat 0)),(.int .i64 (.ofNat 2))])
theorem r9_0:a9 1 ((sem Exp.cfgB 20000).call 2 9 a9_0 G.empty)=some v9_0:=by kernel_rfl
def a9_1:List AV:=[(.agg [(.int .i64 (.ofNat 4)),(.tsl 0 3 [[(.int .i64 (.ofNat 2)),.nils,(.tsl 0 1 [[(.tsl 0 1 [[(.int .i64 (.ofNat 1))],[(.int .i64 (.ofNat 3))]])]])],[(.int .i64 (.ofNat 2)),(.tsl 0 1 [[(.int .i64 (.ofNat 0))]]),(.tsl 0 1 [[(.tsl 0 1 [[(.int .i64 (.ofNat 4))],[(.int .i64 (.ofNat 0))]])],[(.tsl 0 1 [[(.int .i64 (.ofNat 2))],[(.int .i64 (.ofNat 2))]])]])],[(.int .i64 (.ofNat 2)),(.tsl 0 1 [[(.int .i64 (.ofNat 1))]]),(.tsl 0 1 [[(.tsl 0 1 [[(.int .i64 (.ofNat 1))],[(.int .i64 (.ofNat 3))]])],[(.tsl 0 1 [[(.int .i64 (.ofNat 4))],[(.int .i64 (.ofNat 0))]])]])]])]),(.tsl 1 1 [[(.int .i64 (.negSucc 0))],[(.int .i64 (.negSucc 0))],[(.int .i64 (.negSucc 0))]]),(.tsl 1 1 [[(.int .i64 (.ofNat 1))]]),(.tsl 1 1 [[(.int .i64 (.ofNat 0))],[(.int .i64 (.ofNat 0))]])]
def v9_1:AV:=(.tup [(.int .i64 (.ofNat 0)),(.int .i64 (.ofNat 2))])
theorem r9_1:a9 1 ((sem Exp.cfgB 20000).call 2 9 a9_1 G.empty)=some v9_1:=by kernel_rfl
def tab9:List (List AV×AV):=[(a9_0,v9_0),(a9_1,v9_1)]
theorem tab9_ok:∀e∈tab9,a9 1 ((sem Exp.cfgB 20000).call 2 9 e.1 G.empty)=some e.2:=by
 intro e he
 simp only[tab9,List.mem_cons,List.not_mem_nil,or_false] at he
 rcases he with rfl | rfl
 ·exact r9_0
 ·exact r9_1
def a10_0:List AV:=[(.agg [(.int .i64 (.ofNat 4)),(.tsl 0 3 [[(.int .i64 (.ofNat 2)),.nils,(.tsl 0 1 [[(.tsl 0 1 [[(.int .i64 (.ofNat 1))],[(.int .i64 (.ofNat 3))]])]])],[(.int .i64 (.ofNat 2)),(.tsl 0 1 [[(.int .i64 (.ofNat 0))]]),(.tsl 0 1 [[(.tsl 0 1 [[(.int .i64 (.ofNat 4))],[(.int .i64 (.ofNat 0))]])],[(.tsl 0 1 [[(.int .i64 (.ofNat 2))],[(.int .i64 (.ofNat 2))]])]])],[(.int .i64 (.ofNat 2)),(.tsl 0 1 [[(.int .i64 (.ofNat 1))]]),(.tsl 0 1 [[(.tsl 0 1 [[(.int .i64 (.ofNat 1))],[(.int .i64 (.ofNat 3))]])],[(.tsl 0 1 [[(.int .i64 (.ofNat 4))],[(.int .i64 (.ofNat 0))]])]])]])]),(.tsl 1 1 [[(.int .i64 (.negSucc 0))],[(.int .i64 (.ofNat 1))],[(.int .i64 (.ofNat 1))]]),(.tsl 1 1 [[(.int .i64 (.ofNat 1))]])]
def v10_0:AV:=(.tup [.nils,.nils,(.int .i64 (.ofNat 7))])
theorem r10_0:a9 1 ((sem Exp.cfgB 20000).call 2 10 a10_0 G.empty)=some v10_0:=by kernel_rfl
def tab10:List (List AV×AV):=[(a10_0,v10_0)]
theorem tab10_ok:∀e∈tab10,a9 1 ((sem Exp.cfgB 20000).call 2 10 e.1 G.empty)=some e.2:=by
 intro e he
 simp only[tab10,List.mem_cons,List.not_mem_nil,or_false] at he
 rcases he with rfl
 ·exact r10_0
def a12_0:List AV:=[(.tsl 1 1 [[(.int .i64 (.negSucc 0))],[(.int .i64 (.negSucc 0))],[(.int .i64 (.negSucc 0))]]),(.tsl 1 1 [[(.int .i64 (.ofNat 0))]]),(.tsl 1 1 [[(.int .i64 (.ofNat 1))]]),(.agg [(.int .i64 (.ofNat 3)),(.int .i64 (.ofNat 4))])]
def v12_0:AV:=(.bool true)
theorem r12_0:a9 1 ((sem Exp.cfgB 20000).call 2 12 a12_0 G.empty)=some v12_0:=by kernel_rfl
def a12_1:List AV:=[(.tsl 1 1 [[(.int .i64 (.negSucc 0))],[(.int .i64 (.negSucc 0))],[(.int .i64 (.negSucc 0))]]),.nils,.nils,(.agg [(.int .i64 (.ofNat 1)),(.int .i64 (.ofNat 1))])]
def v12_1:AV:=(.bool true)
theorem r12_1:a9 1 ((sem Exp.cfgB 20000).call 2 12 a12_1 G.empty)=some v12_1:=by kernel_rfl
def tab12:List (List AV×AV):=[(a12_0,v12_0),(a12_1,v12_1)]
theorem tab12_ok:∀e∈tab12,a9 1 ((sem Exp.cfgB 20000).call 2 12 e.1 G.empty)=some e.2:=by
 intro e he
 simp only[tab12,List.mem_cons,List.not_mem_nil,or_false] at he
 rcases he with rfl | rfl
 ·exact r12_0
 ·exact r12_1
end
end Go.Proofs.YtahabidkdanicaaGreat.TabB
end
