/- A part of the proof: an interpreter over abstract values, shown right against the model, and what the functions of the chapter compute on it. -/
import Derived.Test.YtahabidkdanicaaGreatHx9
set_option linter.unusedVariables false
set_option linter.unusedSimpArgs false
set_option linter.unnecessarySimpa false
section
namespace Go.Proofs.YtahabidkdanicaaGreat.TabR
open Hx
noncomputable section
namespace D3
noncomputable def a91_0:List AV:=[(.agg [(.int .i64 (.ofNat 4)),(.tsl 0 3 [[(.int .i64 (.ofNat 2)),.nils,(.tsl 0 1 [[(.tsl 0 1 [[(.int .i64 (.ofNat 2))],[(.int .i64 (.ofNat 2))]])]])],[(.int .i64 (.ofNat 2)),(.tsl 0 1 [[(.int .i64 (.ofNat 0))]]),(.tsl 0 1 [[(.tsl 0 1 [[(.int .i64 (.ofNat 3))],[(.int .i64 (.ofNat 1))]])],[(.tsl 0 1 [[(.int .i64 (.ofNat 1))],[(.int .i64 (.ofNat 3))]])]])],[(.int .i64 (.ofNat 2)),(.tsl 0 1 [[(.int .i64 (.ofNat 0))]]),(.tsl 0 1 [[(.tsl 0 1 [[(.int .i64 (.ofNat 3))],[(.int .i64 (.ofNat 1))]])],[(.tsl 0 1 [[(.int .i64 (.ofNat 1))],[(.int .i64 (.ofNat 3))]])]])]])]),(.tsl 0 1 [[(.int .i64 (.negSucc 0))],[(.int .i64 (.ofNat 1))],[(.int .i64 (.ofNat 1))]])]
noncomputable def v91_0:AV:=(.tup [(.int .i64 (.ofNat 20)),(.int .i64 (.ofNat 0))])
theorem r91_0:aH 3 ((sem Rea.cfgR 20000).call 4 91 a91_0 G.empty)=some v91_0:=by kernel_rfl
noncomputable def a91_1:List AV:=[(.agg [(.int .i64 (.ofNat 4)),(.tsl 1 3 [[(.int .i64 (.ofNat 2)),.nils,(.tsl 1 1 [[(.tsl 1 1 [[(.int .i64 (.ofNat 4))],[(.int .i64 (.ofNat 0))]])]])],[(.int .i64 (.ofNat 2)),(.tsl 1 1 [[(.int .i64 (.ofNat 0))]]),(.tsl 1 1 [[(.tsl 1 1 [[(.int .i64 (.ofNat 4))],[(.int .i64 (.ofNat 0))]])],[(.tsl 1 1 [[(.int .i64 (.ofNat 1))],[(.int .i64 (.ofNat 3))]])]])],[(.int .i64 (.ofNat 2)),(.tsl 0 1 [[(.int .i64 (.ofNat 0))]]),(.tsl 0 1 [[(.tsl 0 1 [[(.int .i64 (.ofNat 3))],[(.int .i64 (.ofNat 1))]])],[(.tsl 0 1 [[(.int .i64 (.ofNat 1))],[(.int .i64 (.ofNat 3))]])]])]])]),(.tsl 0 1 [[(.int .i64 (.negSucc 0))],[(.int .i64 (.ofNat 1))],[(.int .i64 (.ofNat 1))]])]
noncomputable def v91_1:AV:=(.tup [(.int .i64 (.ofNat 0)),(.int .i64 (.ofNat 0))])
theorem r91_1:aH 3 ((sem Rea.cfgR 20000).call 4 91 a91_1 G.empty)=some v91_1:=by kernel_rfl
noncomputable def a91_2:List AV:=[(.agg [(.int .i64 (.ofNat 4)),(.tsl 0 3 [[(.int .i64 (.ofNat 2)),.nils,(.tsl 0 1 [[(.tsl 0 1 [[(.int .i64 (.ofNat 2))],[(.int .i64 (.ofNat 2))]])]])],[(.int .i64 (.ofNat 2)),(.tsl 0 1 [[(.int .i64 (.ofNat 0))]]),(.tsl 0 1 [[(.tsl 0 1 [[(.int .i64 (.ofNat 3))],[(.int .i64 (.ofNat 1))]])],[(.tsl 0 1 [[(.int .i64 (.ofNat 1))],[(.int .i64 (.ofNat 3))]])]])],[(.int .i64 (.ofNat 2)),(.tsl 0 1 [[(.int .i64 (.ofNat 0))]]),(.tsl 0 1 [[(.tsl 0 1 [[(.int .i64 (.ofNat 3))],[(.int .i64 (.ofNat 1))]])],[(.tsl 0 1 [[(.int .i64 (.ofNat 1))],[(.int .i64 (.ofNat 3))]])]])]])]),(.tsl 1 1 [[(.int .i64 (.negSucc 0))],[(.int .i64 (.negSucc 0))],[(.int .i64 (.negSucc 0))]])]
noncomputable def v91_2:AV:=(.tup [(.int .i64 (.ofNat 64)),(.int .i64 (.ofNat 0))])
theorem r91_2:aH 3 ((sem Rea.cfgR 20000).call 4 91 a91_2 G.empty)=some v91_2:=by kernel_rfl
noncomputable def a91_3:List AV:=[(.agg [(.int .i64 (.ofNat 4)),(.tsl 0 3 [[(.int .i64 (.ofNat 2)),.nils,(.tsl 0 1 [[(.tsl 0 1 [[(.int .i64 (.ofNat 2))],[(.int .i64 (.ofNat 2))]])]])],[(.int .i64 (.ofNat 2)),(.tsl 0 1 [[(.int .i64 (.ofNat 0))]]),(.tsl 0 1 [[(.tsl 0 1 [[(.int .i64 (.ofNat 3))],[(.int .i64 (.ofNat 1))]])],[(.tsl 0 1 [[(.int .i64 (.ofNat 1))],[(.int .i64 (.ofNat 3))]])]])],[(.int .i64 (.ofNat 2)),(.tsl 0 1 [[(.int .i64 (.ofNat 0))]]),(.tsl 0 1 [[(.tsl 0 1 [[(.int .i64 (.ofNat 3))],[(.int .i64 (.ofNat 1))]])],[(.tsl 0 1 [[(.int .i64 (.ofNat 1))],[(.int .i64 (.ofNat 3))]])]])]])]),(.tsl 3 1 [[(.int .i64 (.ofNat 0))],[(.int .i64 (.negSucc 0))],[(.int .i64 (.negSucc 0))]])]
noncomputable def v91_3:AV:=(.tup [(.int .i64 (.ofNat 32)),(.int .i64 (.ofNat 0))])
theorem r91_3:aH 3 ((sem Rea.cfgR 20000).call 4 91 a91_3 G.empty)=some v91_3:=by kernel_rfl
noncomputable def a91_4:List AV:=[(.agg [(.int .i64 (.ofNat 4)),(.tsl 0 3 [[(.int .i64 (.ofNat 2)),.nils,(.tsl 0 1 [[(.tsl 0 1 [[(.int .i64 (.ofNat 2))],[(.int .i64 (.ofNat 2))]])]])],[(.int .i64 (.ofNat 2)),(.tsl 0 1 [[(.int .i64 (.ofNat 0))]]),(.tsl 0 1 [[(.tsl 0 1 [[(.int .i64 (.ofNat 3))],[(.int .i64 (.ofNat 1))]])],[(.tsl 0 1 [[(.int .i64 (.ofNat 1))],[(.int .i64 (.ofNat 3))]])]])],[(.int .i64 (.ofNat 2)),(.tsl 0 1 [[(.int .i64 (.ofNat 0))]]),(.tsl 0 1 [[(.tsl 0 1 [[(.int .i64 (.ofNat 3))],[(.int .i64 (.ofNat 1))]])],[(.tsl 0 1 [[(.int .i64 (.ofNat 1))],[(.int .i64 (.ofNat 3))]])]])]])]),(.tsl 3 1 [[(.int .i64 (.ofNat 1))],[(.int .i64 (.negSucc 0))],[(.int .i64 (.negSucc 0))]])]
noncomputable def v91_4:AV:=(.tup [(.int .i64 (.ofNat 32)),(.int .i64 (.ofNat 0))])
theorem r91_4:aH 3 ((sem Rea.cfgR 20000).call 4 91 a91_4 G.empty)=some v91_4:=by kernel_rfl
noncomputable def a91_5:List AV:=[(.agg [(.int .i64 (.ofNat 2)),(.tsl 1 3 [[(.int .i64 (.ofNat 2)),.nils,(.tsl 1 1 [[(.tsl 1 1 [[(.int .i64 (.ofNat 1))],[(.int .i64 (.ofNat 1))]])]])],[(.int .i64 (.ofNat 2)),.nils,(.tsl 1 1 [[(.tsl 1 1 [[(.int .i64 (.ofNat 1))],[(.int .i64 (.ofNat 1))]])]])],[(.int .i64 (.ofNat 2)),(.tsl 1 1 [[(.int .i64 (.ofNat 0))],[(.int .i64 (.ofNat 1))]]),(.tsl 1 1 [[(.tsl 1 1 [[(.int .i64 (.ofNat 2))],[(.int .i64 (.ofNat 0))]])],[(.tsl 1 1 [[(.int .i64 (.ofNat 0))],[(.int .i64 (.ofNat 2))]])],[(.tsl 1 1 [[(.int .i64 (.ofNat 0))],[(.int .i64 (.ofNat 2))]])],[(.tsl 1 1 [[(.int .i64 (.ofNat 2))],[(.int .i64 (.ofNat 0))]])]])]])]),(.tsl 1 1 [[(.int .i64 (.negSucc 0))],[(.int .i64 (.ofNat 1))],[(.int .i64 (.ofNat 0))]])]
noncomputable def v91_5:AV:=(.tup [(.int .i64 (.ofNat 2)),(.int .i64 (.ofNat 0))])
theorem r91_5:aH 3 ((sem Rea.cfgR 20000).call 4 91 a91_5 G.empty)=some v91_5:=by kernel_rfl
noncomputable def a91_6:List AV:=[(.agg [(.int .i64 (.ofNat 2)),(.tsl 1 3 [[(.int .i64 (.ofNat 2)),.nils,(.tsl 1 1 [[(.tsl 1 1 [[(.int .i64 (.ofNat 1))],[(.int .i64 (.ofNat 1))]])]])],[(.int .i64 (.ofNat 2)),.nils,(.tsl 1 1 [[(.tsl 1 1 [[(.int .i64 (.ofNat 1))],[(.int .i64 (.ofNat 1))]])]])],[(.int .i64 (.ofNat 2)),(.tsl 1 1 [[(.int .i64 (.ofNat 0))],[(.int .i64 (.ofNat 1))]]),(.tsl 1 1 [[(.tsl 1 1 [[(.int .i64 (.ofNat 2))],[(.int .i64 (.ofNat 0))]])],[(.tsl 1 1 [[(.int .i64 (.ofNat 0))],[(.int .i64 (.ofNat 2))]])],[(.tsl 1 1 [[(.int .i64 (.ofNat 0))],[(.int .i64 (.ofNat 2))]])],[(.tsl 1 1 [[(.int .i64 (.ofNat 2))],[(.int .i64 (.ofNat 0))]])]])]])]),(.tsl 3 1 [[(.int .i64 (.ofNat 1))],[(.int .i64 (.ofNat 1))],[(.int .i64 (.ofNat 0))]])]
noncomputable def v91_6:AV:=(.tup [(.int .i64 (.ofNat 2)),(.int .i64 (.ofNat 0))])
theorem r91_6:aH 3 ((sem Rea.cfgR 20000).call 4 91 a91_6 G.empty)=some v91_6:=by kernel_rfl
noncomputable def a91_7:List AV:=[(.agg [(.int .i64 (.ofNat 2)),(.tsl 1 3 [[(.int .i64 (.ofNat 2)),.nils,(.tsl 1 1 [[(.tsl 1 1 [[(.int .i64 (.ofNat 1))],[(.int .i64 (.ofNat 1))]])]])],[(.int .i64 (.ofNat 2)),.nils,(.tsl 1 1 [[(.tsl 1 1 [[(.int .i64 (.ofNat 1))],[(.int .i64 (.ofNat 1))]])]])],[(.int .i64 (.ofNat 2)),(.tsl 1 1 [[(.int .i64 (.ofNat 0))],[(.int .i64 (.ofNat 1))]]),(.tsl 1 1 [[(.tsl 1 1 [[(.int .i64 (.ofNat 2))],[(.int .i64 (.ofNat 0))]])],[(.tsl 1 1 [[(.int .i64 (.ofNat 0))],[(.int .i64 (.ofNat 2))]])],[(.tsl 1 1 [[(.int .i64 (.ofNat 0))],[(.int .i64 (.ofNat 2))]])],[(.tsl 1 1 [[(.int .i64 (.ofNat 2))],[(.int .i64 (.ofNat 0))]])]])]])]),(.tsl 3 1 [[(.int .i64 (.ofNat 0))],[(.int .i64 (.ofNat 1))],[(.int .i64 (.ofNat 0))]])]
noncomputable def v91_7:AV:=(.tup [(.int .i64 (.ofNat 0)),(.int .i64 (.ofNat 0))])
theorem r91_7:aH 3 ((sem Rea.cfgR 20000).call 4 91 a91_7 G.empty)=some v91_7:=by kernel_rfl
noncomputable def a91_8:List AV:=[(.agg [(.int .i64 (.ofNat 2)),(.tsl 1 3 [[(.int .i64 (.ofNat 2)),.nils,(.tsl 1 1 [[(.tsl 1 1 [[(.int .i64 (.ofNat 1))],[(.int .i64 (.ofNat 1))]])]])],[(.int .i64 (.ofNat 2)),.nils,(.tsl 1 1 [[(.tsl 1 1 [[(.int .i64 (.ofNat 1))],[(.int .i64 (.ofNat 1))]])]])],[(.int .i64 (.ofNat 2)),(.tsl 1 1 [[(.int .i64 (.ofNat 0))],[(.int .i64 (.ofNat 1))]]),(.tsl 1 1 [[(.tsl 1 1 [[(.int .i64 (.ofNat 2))],[(.int .i64 (.ofNat 0))]])],[(.tsl 1 1 [[(.int .i64 (.ofNat 0))],[(.int .i64 (.ofNat 2))]])],[(.tsl 1 1 [[(.int .i64 (.ofNat 0))],[(.int .i64 (.ofNat 2))]])],[(.tsl 1 1 [[(.int .i64 (.ofNat 2))],[(.int .i64 (.ofNat 0))]])]])]])]),(.tsl 3 1 [[(.int .i64 (.ofNat 0))],[(.int .i64 (.negSucc 0))],[(.int .i64 (.ofNat 0))]])]
noncomputable def v91_8:AV:=(.tup [(.int .i64 (.ofNat 2)),(.int .i64 (.ofNat 0))])
theorem r91_8:aH 3 ((sem Rea.cfgR 20000).call 4 91 a91_8 G.empty)=some v91_8:=by kernel_rfl
noncomputable def a91_9:List AV:=[(.agg [(.int .i64 (.ofNat 2)),(.tsl 1 3 [[(.int .i64 (.ofNat 2)),.nils,(.tsl 1 1 [[(.tsl 1 1 [[(.int .i64 (.ofNat 1))],[(.int .i64 (.ofNat 1))]])]])],[(.int .i64 (.ofNat 2)),.nils,(.tsl 1 1 [[(.tsl 1 1 [[(.int .i64 (.ofNat 1))],[(.int .i64 (.ofNat 1))]])]])],[(.int .i64 (.ofNat 2)),(.tsl 1 1 [[(.int .i64 (.ofNat 0))],[(.int .i64 (.ofNat 1))]]),(.tsl 1 1 [[(.tsl 1 1 [[(.int .i64 (.ofNat 2))],[(.int .i64 (.ofNat 0))]])],[(.tsl 1 1 [[(.int .i64 (.ofNat 0))],[(.int .i64 (.ofNat 2))]])],[(.tsl 1 1 [[(.int .i64 (.ofNat 0))],[(.int .i64 (.ofNat 2))]])],[(.tsl 1 1 [[(.int .i64 (.ofNat 2))],[(.int .i64 (.ofNat 0))]])]])]])]),(.tsl 3 1 [[(.int .i64 (.ofNat 1))],[(.int .i64 (.negSucc 0))],[(.int .i64 (.ofNat 0))]])]
noncomputable def v91_9:AV:=(.tup [(.int .i64 (.ofNat 2)),(.int .i64 (.ofNat 0))])
theorem r91_9:aH 3 ((sem Rea.cfgR 20000).call 4 91 a91_9 G.empty)=some v91_9:=by kernel_rfl
noncomputable def a91_10:List AV:=[(.agg [(.int .i64 (.ofNat 2)),(.tsl 1 3 [[(.int .i64 (.ofNat 2)),.nils,(.tsl 1 1 [[(.tsl 1 1 [[(.int .i64 (.ofNat 1))],[(.int .i64 (.ofNat 1))]])]])],[(.int .i64 (.ofNat 2)),.nils,(.tsl 1 1 [[(.tsl 1 1 [[(.int .i64 (.ofNat 1))],[(.int .i64 (.ofNat 1))]])]])],[(.int .i64 (.ofNat 2)),(.tsl 1 1 [[(.int .i64 (.ofNat 0))],[(.int .i64 (.ofNat 1))]]),(.tsl 1 1 [[(.tsl 1 1 [[(.int .i64 (.ofNat 2))],[(.int .i64 (.ofNat 0))]])],[(.tsl 1 1 [[(.int .i64 (.ofNat 0))],[(.int .i64 (.ofNat 2))]])],[(.tsl 1 1 [[(.int .i64 (.ofNat 0))],[(.int .i64 (.ofNat 2))]])],[(.tsl 1 1 [[(.int .i64 (.ofNat 2))],[(.int .i64 (.ofNat 0))]])]])]])]),(.tsl 3 1 [[(.int .i64 (.ofNat 0))],[(.int .i64 (.ofNat 1))],[(.int .i64 (.negSucc 0))]])]
noncomputable def v91_10:AV:=(.tup [(.int .i64 (.ofNat 2)),(.int .i64 (.ofNat 0))])
theorem r91_10:aH 3 ((sem Rea.cfgR 20000).call 4 91 a91_10 G.empty)=some v91_10:=by kernel_rfl
noncomputable def a91_11:List AV:=[(.agg [(.int .i64 (.ofNat 2)),(.tsl 1 3 [[(.int .i64 (.ofNat 2)),.nils,(.tsl 1 1 [[(.tsl 1 1 [[(.int .i64 (.ofNat 1))],[(.int .i64 (.ofNat 1))]])]])],[(.int .i64 (.ofNat 2)),.nils,(.tsl 1 1 [[(.tsl 1 1 [[(.int .i64 (.ofNat 1))],[(.int .i64 (.ofNat 1))]])]])],[(.int .i64 (.ofNat 2)),(.tsl 1 1 [[(.int .i64 (.ofNat 0))],[(.int .i64 (.ofNat 1))]]),(.tsl 1 1 [[(.tsl 1 1 [[(.int .i64 (.ofNat 2))],[(.int .i64 (.ofNat 0))]])],[(.tsl 1 1 [[(.int .i64 (.ofNat 0))],[(.int .i64 (.ofNat 2))]])],[(.tsl 1 1 [[(.int .i64 (.ofNat 0))],[(.int .i64 (.ofNat 2))]])],[(.tsl 1 1 [[(.int .i64 (.ofNat 2))],[(.int .i64 (.ofNat 0))]])]])]])]),(.tsl 3 1 [[(.int .i64 (.ofNat 1))],[(.int .i64 (.ofNat 1))],[(.int .i64 (.negSucc 0))]])]
noncomputable def v91_11:AV:=(.tup [(.int .i64 (.ofNat 2)),(.int .i64 (.ofNat 0))])
theorem r91_11:aH 3 ((sem Rea.cfgR 20000).call 4 91 a91_11 G.empty)=some v91_11:=by kernel_rfl
noncomputable def tab91:List (List AV×AV):=[(a91_0,v91_0),(a91_1,v91_1),(a91_2,v91_2),(a91_3,v91_3),(a91_4,v91_4),(a91_5,v91_5),(a91_6,v91_6),(a91_7,v91_7),(a91_8,v91_8),(a91_9,v91_9),(a91_10,v91_10),(a91_11,v91_11)]
theorem tab91_ok:∀e∈tab91,aH 3 ((sem Rea.cfgR 20000).call 4 91 e.1 G.empty)=some e.2:=by
 intro e he
 simp only[tab91,List.mem_cons,List.not_mem_nil,or_false] at he
 rcases he with rfl | rfl | rfl | rfl | rfl | rfl | rfl | rfl | rfl | rfl | rfl | rfl
 ·exact r91_0
 ·exact r91_1
 ·exact r91_2
 ·exact r91_3
 ·exact r91_4
 ·exact r91_5
 ·exact r91_6
 ·exact r91_7
 ·exact r91_8
 ·exact r91_9
 ·exact r91_10
 ·exact r91_11
noncomputable def a92_0:List AV:=[(.agg [(.int .i64 (.ofNat 4)),(.tsl 0 3 [[(.int .i64 (.ofNat 2)),.nils,(.tsl 0 1 [[(.tsl 0 1 [[(.int .i64 (.ofNat 2))],[(.int .i64 (.ofNat 2))]])]])],[(.int .i64 (.ofNat 2)),(.tsl 0 1 [[(.int .i64 (.ofNat 0))]]),(.tsl 0 1 [[(.tsl 0 1 [[(.int .i64 (.ofNat 3))],[(.int .i64 (.ofNat 1))]])],[(.tsl 0 1 [[(.int .i64 (.ofNat 1))],[(.int .i64 (.ofNat 3))]])]])],[(.int .i64 (.ofNat 2)),(.tsl 0 1 [[(.int .i64 (.ofNat 0))]]),(.tsl 0 1 [[(.tsl 0 1 [[(.int .i64 (.ofNat 3))],[(.int .i64 (.ofNat 1))]])],[(.tsl 0 1 [[(.int .i64 (.ofNat 1))],[(.int .i64 (.ofNat 3))]])]])]])]),(.tsl 3 1 [[(.int .i64 (.negSucc 0))],[(.int .i64 (.ofNat 1))],[(.int .i64 (.ofNat 1))]]),(.int .i64 (.ofNat 0))]
noncomputable def v92_0:AV:=(.tup [(.tsl 0 2 [[(.int .i64 (.ofNat 1)),(.int .i64 (.ofNat 10))],[(.int .i64 (.ofNat 9)),(.int .i64 (.ofNat 10))]]),(.int .i64 (.ofNat 0))])
theorem r92_0:aH 3 ((sem Rea.cfgR 20000).call 4 92 a92_0 G.empty)=some v92_0:=by kernel_rfl
noncomputable def a92_1:List AV:=[(.agg [(.int .i64 (.ofNat 4)),(.tsl 0 3 [[(.int .i64 (.ofNat 2)),.nils,(.tsl 0 1 [[(.tsl 0 1 [[(.int .i64 (.ofNat 2))],[(.int .i64 (.ofNat 2))]])]])],[(.int .i64 (.ofNat 2)),(.tsl 0 1 [[(.int .i64 (.ofNat 0))]]),(.tsl 0 1 [[(.tsl 0 1 [[(.int .i64 (.ofNat 3))],[(.int .i64 (.ofNat 1))]])],[(.tsl 0 1 [[(.int .i64 (.ofNat 1))],[(.int .i64 (.ofNat 3))]])]])],[(.int .i64 (.ofNat 2)),(.tsl 0 1 [[(.int .i64 (.ofNat 0))]]),(.tsl 0 1 [[(.tsl 0 1 [[(.int .i64 (.ofNat 3))],[(.int .i64 (.ofNat 1))]])],[(.tsl 0 1 [[(.int .i64 (.ofNat 1))],[(.int .i64 (.ofNat 3))]])]])]])]),(.tsl 3 1 [[(.int .i64 (.negSucc 0))],[(.int .i64 (.negSucc 0))],[(.int .i64 (.negSucc 0))]]),(.int .i64 (.ofNat 0))]
noncomputable def v92_1:AV:=(.tup [(.tsl 0 2 [[(.int .i64 (.ofNat 1)),(.int .i64 (.ofNat 2))],[(.int .i64 (.ofNat 1)),(.int .i64 (.ofNat 2))]]),(.int .i64 (.ofNat 0))])
theorem r92_1:aH 3 ((sem Rea.cfgR 20000).call 4 92 a92_1 G.empty)=some v92_1:=by kernel_rfl
noncomputable def a92_2:List AV:=[(.agg [(.int .i64 (.ofNat 2)),(.tsl 1 3 [[(.int .i64 (.ofNat 2)),.nils,(.tsl 1 1 [[(.tsl 1 1 [[(.int .i64 (.ofNat 1))],[(.int .i64 (.ofNat 1))]])]])],[(.int .i64 (.ofNat 2)),.nils,(.tsl 1 1 [[(.tsl 1 1 [[(.int .i64 (.ofNat 1))],[(.int .i64 (.ofNat 1))]])]])],[(.int .i64 (.ofNat 2)),(.tsl 1 1 [[(.int .i64 (.ofNat 0))],[(.int .i64 (.ofNat 1))]]),(.tsl 1 1 [[(.tsl 1 1 [[(.int .i64 (.ofNat 2))],[(.int .i64 (.ofNat 0))]])],[(.tsl 1 1 [[(.int .i64 (.ofNat 0))],[(.int .i64 (.ofNat 2))]])],[(.tsl 1 1 [[(.int .i64 (.ofNat 0))],[(.int .i64 (.ofNat 2))]])],[(.tsl 1 1 [[(.int .i64 (.ofNat 2))],[(.int .i64 (.ofNat 0))]])]])]])]),(.tsl 3 1 [[(.int .i64 (.negSucc 0))],[(.int .i64 (.ofNat 1))],[(.int .i64 (.ofNat 0))]]),(.int .i64 (.ofNat 0))]
noncomputable def v92_2:AV:=(.tup [(.tsl 0 2 [[(.int .i64 (.ofNat 0)),(.int .i64 (.ofNat 1))],[(.int .i64 (.ofNat 1)),(.int .i64 (.ofNat 1))]]),(.int .i64 (.ofNat 0))])
theorem r92_2:aH 3 ((sem Rea.cfgR 20000).call 4 92 a92_2 G.empty)=some v92_2:=by kernel_rfl
noncomputable def a92_3:List AV:=[(.agg [(.int .i64 (.ofNat 2)),(.tsl 1 3 [[(.int .i64 (.ofNat 2)),.nils,(.tsl 1 1 [[(.tsl 1 1 [[(.int .i64 (.ofNat 1))],[(.int .i64 (.ofNat 1))]])]])],[(.int .i64 (.ofNat 2)),.nils,(.tsl 1 1 [[(.tsl 1 1 [[(.int .i64 (.ofNat 1))],[(.int .i64 (.ofNat 1))]])]])],[(.int .i64 (.ofNat 2)),(.tsl 1 1 [[(.int .i64 (.ofNat 0))],[(.int .i64 (.ofNat 1))]]),(.tsl 1 1 [[(.tsl 1 1 [[(.int .i64 (.ofNat 2))],[(.int .i64 (.ofNat 0))]])],[(.tsl 1 1 [[(.int .i64 (.ofNat 0))],[(.int .i64 (.ofNat 2))]])],[(.tsl 1 1 [[(.int .i64 (.ofNat 0))],[(.int .i64 (.ofNat 2))]])],[(.tsl 1 1 [[(.int .i64 (.ofNat 2))],[(.int .i64 (.ofNat 0))]])]])]])]),(.tsl 3 1 [[(.int .i64 (.negSucc 0))],[(.int .i64 (.negSucc 0))],[(.int .i64 (.ofNat 0))]]),(.int .i64 (.ofNat 0))]
noncomputable def v92_3:AV:=(.tup [(.tsl 0 2 [[(.int .i64 (.ofNat 1)),(.int .i64 (.ofNat 2))],[(.int .i64 (.ofNat 1)),(.int .i64 (.ofNat 2))]]),(.int .i64 (.ofNat 0))])
theorem r92_3:aH 3 ((sem Rea.cfgR 20000).call 4 92 a92_3 G.empty)=some v92_3:=by kernel_rfl
noncomputable def a92_4:List AV:=[(.agg [(.int .i64 (.ofNat 2)),(.tsl 1 3 [[(.int .i64 (.ofNat 2)),.nils,(.tsl 1 1 [[(.tsl 1 1 [[(.int .i64 (.ofNat 1))],[(.int .i64 (.ofNat 1))]])]])],[(.int .i64 (.ofNat 2)),.nils,(.tsl 1 1 [[(.tsl 1 1 [[(.int .i64 (.ofNat 1))],[(.int .i64 (.ofNat 1))]])]])],[(.int .i64 (.ofNat 2)),(.tsl 1 1 [[(.int .i64 (.ofNat 0))],[(.int .i64 (.ofNat 1))]]),(.tsl 1 1 [[(.tsl 1 1 [[(.int .i64 (.ofNat 2))],[(.int .i64 (.ofNat 0))]])],[(.tsl 1 1 [[(.int .i64 (.ofNat 0))],[(.int .i64 (.ofNat 2))]])],[(.tsl 1 1 [[(.int .i64 (.ofNat 0))],[(.int .i64 (.ofNat 2))]])],[(.tsl 1 1 [[(.int .i64 (.ofNat 2))],[(.int .i64 (.ofNat 0))]])]])]])]),(.tsl 3 1 [[(.int .i64 (.negSucc 0))],[(.int .i64 (.ofNat 1))],[(.int .i64 (.negSucc 0))]]),(.int .i64 (.ofNat 0))]
noncomputable def v92_4:AV:=(.tup [(.tsl 0 2 [[(.int .i64 (.ofNat 1)),(.int .i64 (.ofNat 2))],[(.int .i64 (.ofNat 1)),(.int .i64 (.ofNat 2))]]),(.int .i64 (.ofNat 0))])
theorem r92_4:aH 3 ((sem Rea.cfgR 20000).call 4 92 a92_4 G.empty)=some v92_4:=by kernel_rfl
noncomputable def a92_5:List AV:=[(.agg [(.int .i64 (.ofNat 2)),(.tsl 1 3 [[(.int .i64 (.ofNat 2)),.nils,(.tsl 1 1 [[(.tsl 1 1 [[(.int .i64 (.ofNat 1))],[(.int .i64 (.ofNat 1))]])]])],[(.int .i64 (.ofNat 2)),.nils,(.tsl 1 1 [[(.tsl 1 1 [[(.int .i64 (.ofNat 1))],[(.int .i64 (.ofNat 1))]])]])],[(.int .i64 (.ofNat 2)),(.tsl 1 1 [[(.int .i64 (.ofNat 0))],[(.int .i64 (.ofNat 1))]]),(.tsl 1 1 [[(.tsl 1 1 [[(.int .i64 (.ofNat 2))],[(.int .i64 (.ofNat 0))]])],[(.tsl 1 1 [[(.int .i64 (.ofNat 0))],[(.int .i64 (.ofNat 2))]])],[(.tsl 1 1 [[(.int .i64 (.ofNat 0))],[(.int .i64 (.ofNat 2))]])],[(.tsl 1 1 [[(.int .i64 (.ofNat 2))],[(.int .i64 (.ofNat 0))]])]])]])]),(.tsl 3 1 [[(.int .i64 (.negSucc 0))],[(.int .i64 (.negSucc 0))],[(.int .i64 (.negSucc 0))]]),(.int .i64 (.ofNat 0))]
noncomputable def v92_5:AV:=(.tup [(.tsl 0 2 [[(.int .i64 (.ofNat 1)),(.int .i64 (.ofNat 2))],[(.int .i64 (.ofNat 1)),(.int .i64 (.ofNat 2))]]),(.int .i64 (.ofNat 0))])
theorem r92_5:aH 3 ((sem Rea.cfgR 20000).call 4 92 a92_5 G.empty)=some v92_5:=by kernel_rfl
noncomputable def tab92:List (List AV×AV):=[(a92_0,v92_0),(a92_1,v92_1),(a92_2,v92_2),(a92_3,v92_3),(a92_4,v92_4),(a92_5,v92_5)]
theorem tab92_ok:∀e∈tab92,aH 3 ((sem Rea.cfgR 20000).call 4 92 e.1 G.empty)=some e.2:=by
 intro e he
 simp only[tab92,List.mem_cons,List.not_mem_nil,or_false] at he
 rcases he with rfl | rfl | rfl | rfl | rfl | rfl
 ·exact r92_0
 ·exact r92_1
 ·exact r92_2
 ·exact r92_3
 ·exact r92_4
 ·exact r92_5
end D3
namespace D4
noncomputable def a91_0:List AV:=[(.agg [(.int .i64 (.ofNat 4)),(.tsl 0 3 [[(.int .i64 (.ofNat 2)),.nils,(.tsl 0 1 [[(.tsl 0 1 [[(.int .i64 (.ofNat 2))],[(.int .i64 (.ofNat 2))]])]])],[(.int .i64 (.ofNat 2)),(.tsl 0 1 [[(.int .i64 (.ofNat 0))]]),(.tsl 0 1 [[(.tsl 0 1 [[(.int .i64 (.ofNat 3))],[(.int .i64 (.ofNat 1))]])],[(.tsl 0 1 [[(.int .i64 (.ofNat 1))],[(.int .i64 (.ofNat 3))]])]])],[(.int .i64 (.ofNat 2)),(.tsl 0 1 [[(.int .i64 (.ofNat 0))]]),(.tsl 0 1 [[(.tsl 0 1 [[(.int .i64 (.ofNat 3))],[(.int .i64 (.ofNat 1))]])],[(.tsl 0 1 [[(.int .i64 (.ofNat 1))],[(.int .i64 (.ofNat 3))]])]])]])]),(.tsl 0 1 [[(.int .i64 (.negSucc 0))],[(.int .i64 (.ofNat 1))],[(.int .i64 (.ofNat 1))]])]
noncomputable def v91_0:AV:=(.tup [(.int .i64 (.ofNat 20)),(.int .i64 (.ofNat 0))])
theorem r91_0:aH 4 ((sem Rea.cfgR 20000).call 5 91 a91_0 G.empty)=some v91_0:=by kernel_rfl
noncomputable def a91_1:List AV:=[(.agg [(.int .i64 (.ofNat 4)),(.tsl 0 3 [[(.int .i64 (.ofNat 2)),.nils,(.tsl 0 1 [[(.tsl 0 1 [[(.int .i64 (.ofNat 2))],[(.int .i64 (.ofNat 2))]])]])],[(.int .i64 (.ofNat 2)),(.tsl 0 1 [[(.int .i64 (.ofNat 0))]]),(.tsl 0 1 [[(.tsl 0 1 [[(.int .i64 (.ofNat 3))],[(.int .i64 (.ofNat 1))]])],[(.tsl 0 1 [[(.int .i64 (.ofNat 1))],[(.int .i64 (.ofNat 3))]])]])],[(.int .i64 (.ofNat 2)),(.tsl 0 1 [[(.int .i64 (.ofNat 0))]]),(.tsl 0 1 [[(.tsl 0 1 [[(.int .i64 (.ofNat 3))],[(.int .i64 (.ofNat 1))]])],[(.tsl 0 1 [[(.int .i64 (.ofNat 1))],[(.int .i64 (.ofNat 3))]])]])]])]),(.tsl 4 1 [[(.int .i64 (.ofNat 1))],[(.int .i64 (.ofNat 1))],[(.int .i64 (.ofNat 1))]])]
noncomputable def v91_1:AV:=(.tup [(.int .i64 (.ofNat 18)),(.int .i64 (.ofNat 0))])
theorem r91_1:aH 4 ((sem Rea.cfgR 20000).call 5 91 a91_1 G.empty)=some v91_1:=by kernel_rfl
noncomputable def a91_2:List AV:=[(.agg [(.int .i64 (.ofNat 4)),(.tsl 0 3 [[(.int .i64 (.ofNat 2)),.nils,(.tsl 0 1 [[(.tsl 0 1 [[(.int .i64 (.ofNat 2))],[(.int .i64 (.ofNat 2))]])]])],[(.int .i64 (.ofNat 2)),(.tsl 0 1 [[(.int .i64 (.ofNat 0))]]),(.tsl 0 1 [[(.tsl 0 1 [[(.int .i64 (.ofNat 3))],[(.int .i64 (.ofNat 1))]])],[(.tsl 0 1 [[(.int .i64 (.ofNat 1))],[(.int .i64 (.ofNat 3))]])]])],[(.int .i64 (.ofNat 2)),(.tsl 0 1 [[(.int .i64 (.ofNat 0))]]),(.tsl 0 1 [[(.tsl 0 1 [[(.int .i64 (.ofNat 3))],[(.int .i64 (.ofNat 1))]])],[(.tsl 0 1 [[(.int .i64 (.ofNat 1))],[(.int .i64 (.ofNat 3))]])]])]])]),(.tsl 4 1 [[(.int .i64 (.ofNat 0))],[(.int .i64 (.ofNat 1))],[(.int .i64 (.ofNat 1))]])]
noncomputable def v91_2:AV:=(.tup [(.int .i64 (.ofNat 2)),(.int .i64 (.ofNat 0))])
theorem r91_2:aH 4 ((sem Rea.cfgR 20000).call 5 91 a91_2 G.empty)=some v91_2:=by kernel_rfl
noncomputable def a91_3:List AV:=[(.agg [(.int .i64 (.ofNat 4)),(.tsl 0 3 [[(.int .i64 (.ofNat 2)),.nils,(.tsl 0 1 [[(.tsl 0 1 [[(.int .i64 (.ofNat 2))],[(.int .i64 (.ofNat 2))]])]])],[(.int .i64 (.ofNat 2)),(.tsl 0 1 [[(.int .i64 (.ofNat 0))]]),(.tsl 0 1 [[(.tsl 0 1 [[(.int .i64 (.ofNat 3))],[(.int .i64 (.ofNat 1))]])],[(.tsl 0 1 [[(.int .i64 (.ofNat 1))],[(.int .i64 (.ofNat 3))]])]])],[(.int .i64 (.ofNat 2)),(.tsl 0 1 [[(.int .i64 (.ofNat 0))]]),(.tsl 0 1 [[(.tsl 0 1 [[(.int .i64 (.ofNat 3))],[(.int .i64 (.ofNat 1))]])],[(.tsl 0 1 [[(.int .i64 (.ofNat 1))],[(.int .i64 (.ofNat 3))]])]])]])]),(.tsl 4 1 [[(.int .i64 (.ofNat 0))],[(.int .i64 (.negSucc 0))],[(.int .i64 (.ofNat 1))]])]
noncomputable def v91_3:AV:=(.tup [(.int .i64 (.ofNat 8)),(.int .i64 (.ofNat 0))])
theorem r91_3:aH 4 ((sem Rea.cfgR 20000).call 5 91 a91_3 G.empty)=some v91_3:=by kernel_rfl
noncomputable def a91_4:List AV:=[(.agg [(.int .i64 (.ofNat 4)),(.tsl 0 3 [[(.int .i64 (.ofNat 2)),.nils,(.tsl 0 1 [[(.tsl 0 1 [[(.int .i64 (.ofNat 2))],[(.int .i64 (.ofNat 2))]])]])],[(.int .i64 (.ofNat 2)),(.tsl 0 1 [[(.int .i64 (.ofNat 0))]]),(.tsl 0 1 [[(.tsl 0 1 [[(.int .i64 (.ofNat 3))],[(.int .i64 (.ofNat 1))]])],[(.tsl 0 1 [[(.int .i64 (.ofNat 1))],[(.int .i64 (.ofNat 3))]])]])],[(.int .i64 (.ofNat 2)),(.tsl 0 1 [[(.int .i64 (.ofNat 0))]]),(.tsl 0 1 [[(.tsl 0 1 [[(.int .i64 (.ofNat 3))],[(.int .i64 (.ofNat 1))]])],[(.tsl 0 1 [[(.int .i64 (.ofNat 1))],[(.int .i64 (.ofNat 3))]])]])]])]),(.tsl 4 1 [[(.int .i64 (.ofNat 1))],[(.int .i64 (.negSucc 0))],[(.int .i64 (.ofNat 1))]])]
noncomputable def v91_4:AV:=(.tup [(.int .i64 (.ofNat 24)),(.int .i64 (.ofNat 0))])
theorem r91_4:aH 4 ((sem Rea.cfgR 20000).call 5 91 a91_4 G.empty)=some v91_4:=by kernel_rfl
noncomputable def a91_5:List AV:=[(.agg [(.int .i64 (.ofNat 4)),(.tsl 0 3 [[(.int .i64 (.ofNat 2)),.nils,(.tsl 0 1 [[(.tsl 0 1 [[(.int .i64 (.ofNat 2))],[(.int .i64 (.ofNat 2))]])]])],[(.int .i64 (.ofNat 2)),(.tsl 0 1 [[(.int .i64 (.ofNat 0))]]),(.tsl 0 1 [[(.tsl 0 1 [[(.int .i64 (.ofNat 3))],[(.int .i64 (.ofNat 1))]])],[(.tsl 0 1 [[(.int .i64 (.ofNat 1))],[(.int .i64 (.ofNat 3))]])]])],[(.int .i64 (.ofNat 2)),(.tsl 0 1 [[(.int .i64 (.ofNat 0))]]),(.tsl 0 1 [[(.tsl 0 1 [[(.int .i64 (.ofNat 3))],[(.int .i64 (.ofNat 1))]])],[(.tsl 0 1 [[(.int .i64 (.ofNat 1))],[(.int .i64 (.ofNat 3))]])]])]])]),(.tsl 4 1 [[(.int .i64 (.ofNat 0))],[(.int .i64 (.ofNat 1))],[(.int .i64 (.negSucc 0))]])]
noncomputable def v91_5:AV:=(.tup [(.int .i64 (.ofNat 8)),(.int .i64 (.ofNat 0))])
theorem r91_5:aH 4 ((sem Rea.cfgR 20000).call 5 91 a91_5 G.empty)=some v91_5:=by kernel_rfl
noncomputable def a91_6:List AV:=[(.agg [(.int .i64 (.ofNat 4)),(.tsl 0 3 [[(.int .i64 (.ofNat 2)),.nils,(.tsl 0 1 [[(.tsl 0 1 [[(.int .i64 (.ofNat 2))],[(.int .i64 (.ofNat 2))]])]])],[(.int .i64 (.ofNat 2)),(.tsl 0 1 [[(.int .i64 (.ofNat 0))]]),(.tsl 0 1 [[(.tsl 0 1 [[(.int .i64 (.ofNat 3))],[(.int .i64 (.ofNat 1))]])],[(.tsl 0 1 [[(.int .i64 (.ofNat 1))],[(.int .i64 (.ofNat 3))]])]])],[(.int .i64 (.ofNat 2)),(.tsl 0 1 [[(.int .i64 (.ofNat 0))]]),(.tsl 0 1 [[(.tsl 0 1 [[(.int .i64 (.ofNat 3))],[(.int .i64 (.ofNat 1))]])],[(.tsl 0 1 [[(.int .i64 (.ofNat 1))],[(.int .i64 (.ofNat 3))]])]])]])]),(.tsl 4 1 [[(.int .i64 (.ofNat 1))],[(.int .i64 (.ofNat 1))],[(.int .i64 (.negSucc 0))]])]
noncomputable def v91_6:AV:=(.tup [(.int .i64 (.ofNat 24)),(.int .i64 (.ofNat 0))])
theorem r91_6:aH 4 ((sem Rea.cfgR 20000).call 5 91 a91_6 G.empty)=some v91_6:=by kernel_rfl
noncomputable def a91_7:List AV:=[(.agg [(.int .i64 (.ofNat 4)),(.tsl 0 3 [[(.int .i64 (.ofNat 2)),.nils,(.tsl 0 1 [[(.tsl 0 1 [[(.int .i64 (.ofNat 2))],[(.int .i64 (.ofNat 2))]])]])],[(.int .i64 (.ofNat 2)),(.tsl 0 1 [[(.int .i64 (.ofNat 0))]]),(.tsl 0 1 [[(.tsl 0 1 [[(.int .i64 (.ofNat 3))],[(.int .i64 (.ofNat 1))]])],[(.tsl 0 1 [[(.int .i64 (.ofNat 1))],[(.int .i64 (.ofNat 3))]])]])],[(.int .i64 (.ofNat 2)),(.tsl 0 1 [[(.int .i64 (.ofNat 0))]]),(.tsl 0 1 [[(.tsl 0 1 [[(.int .i64 (.ofNat 3))],[(.int .i64 (.ofNat 1))]])],[(.tsl 0 1 [[(.int .i64 (.ofNat 1))],[(.int .i64 (.ofNat 3))]])]])]])]),(.tsl 1 1 [[(.int .i64 (.negSucc 0))],[(.int .i64 (.ofNat 1))],[(.int .i64 (.ofNat 0))]])]
noncomputable def v91_7:AV:=(.tup [(.int .i64 (.ofNat 12)),(.int .i64 (.ofNat 0))])
theorem r91_7:aH 4 ((sem Rea.cfgR 20000).call 5 91 a91_7 G.empty)=some v91_7:=by kernel_rfl
noncomputable def a91_8:List AV:=[(.agg [(.int .i64 (.ofNat 4)),(.tsl 0 3 [[(.int .i64 (.ofNat 2)),.nils,(.tsl 0 1 [[(.tsl 0 1 [[(.int .i64 (.ofNat 2))],[(.int .i64 (.ofNat 2))]])]])],[(.int .i64 (.ofNat 2)),(.tsl 0 1 [[(.int .i64 (.ofNat 0))]]),(.tsl 0 1 [[(.tsl 0 1 [[(.int .i64 (.ofNat 3))],[(.int .i64 (.ofNat 1))]])],[(.tsl 0 1 [[(.int .i64 (.ofNat 1))],[(.int .i64 (.ofNat 3))]])]])],[(.int .i64 (.ofNat 2)),(.tsl 0 1 [[(.int .i64 (.ofNat 0))]]),(.tsl 0 1 [[(.tsl 0 1 [[(.int .i64 (.ofNat 3))],[(.int .i64 (.ofNat 1))]])],[(.tsl 0 1 [[(.int .i64 (.ofNat 1))],[(.int .i64 (.ofNat 3))]])]])]])]),(.tsl 4 1 [[(.int .i64 (.ofNat 1))],[(.int .i64 (.ofNat 1))],[(.int .i64 (.ofNat 0))]])]
noncomputable def v91_8:AV:=(.tup [(.int .i64 (.ofNat 6)),(.int .i64 (.ofNat 0))])
theorem r91_8:aH 4 ((sem Rea.cfgR 20000).call 5 91 a91_8 G.empty)=some v91_8:=by kernel_rfl
noncomputable def a91_9:List AV:=[(.agg [(.int .i64 (.ofNat 4)),(.tsl 0 3 [[(.int .i64 (.ofNat 2)),.nils,(.tsl 0 1 [[(.tsl 0 1 [[(.int .i64 (.ofNat 2))],[(.int .i64 (.ofNat 2))]])]])],[(.int .i64 (.ofNat 2)),(.tsl 0 1 [[(.int .i64 (.ofNat 0))]]),(.tsl 0 1 [[(.tsl 0 1 [[(.int .i64 (.ofNat 3))],[(.int .i64 (.ofNat 1))]])],[(.tsl 0 1 [[(.int .i64 (.ofNat 1))],[(.int .i64 (.ofNat 3))]])]])],[(.int .i64 (.ofNat 2)),(.tsl 0 1 [[(.int .i64 (.ofNat 0))]]),(.tsl 0 1 [[(.tsl 0 1 [[(.int .i64 (.ofNat 3))],[(.int .i64 (.ofNat 1))]])],[(.tsl 0 1 [[(.int .i64 (.ofNat 1))],[(.int .i64 (.ofNat 3))]])]])]])]),(.tsl 4 1 [[(.int .i64 (.ofNat 0))],[(.int .i64 (.ofNat 1))],[(.int .i64 (.ofNat 0))]])]
noncomputable def v91_9:AV:=(.tup [(.int .i64 (.ofNat 6)),(.int .i64 (.ofNat 0))])
theorem r91_9:aH 4 ((sem Rea.cfgR 20000).call 5 91 a91_9 G.empty)=some v91_9:=by kernel_rfl
noncomputable def a91_10:List AV:=[(.agg [(.int .i64 (.ofNat 4)),(.tsl 0 3 [[(.int .i64 (.ofNat 2)),.nils,(.tsl 0 1 [[(.tsl 0 1 [[(.int .i64 (.ofNat 2))],[(.int .i64 (.ofNat 2))]])]])],[(.int .i64 (.ofNat 2)),(.tsl 0 1 [[(.int .i64 (.ofNat 0))]]),(.tsl 0 1 [[(.tsl 0 1 [[(.int .i64 (.ofNat 3))],[(.int .i64 (.ofNat 1))]])],[(.tsl 0 1 [[(.int .i64 (.ofNat 1))],[(.int .i64 (.ofNat 3))]])]])],[(.int .i64 (.ofNat 2)),(.tsl 0 1 [[(.int .i64 (.ofNat 0))]]),(.tsl 0 1 [[(.tsl 0 1 [[(.int .i64 (.ofNat 3))],[(.int .i64 (.ofNat 1))]])],[(.tsl 0 1 [[(.int .i64 (.ofNat 1))],[(.int .i64 (.ofNat 3))]])]])]])]),(.tsl 4 1 [[(.int .i64 (.ofNat 0))],[(.int .i64 (.negSucc 0))],[(.int .i64 (.ofNat 0))]])]
noncomputable def v91_10:AV:=(.tup [(.int .i64 (.ofNat 24)),(.int .i64 (.ofNat 0))])
theorem r91_10:aH 4 ((sem Rea.cfgR 20000).call 5 91 a91_10 G.empty)=some v91_10:=by kernel_rfl
noncomputable def a91_11:List AV:=[(.agg [(.int .i64 (.ofNat 4)),(.tsl 0 3 [[(.int .i64 (.ofNat 2)),.nils,(.tsl 0 1 [[(.tsl 0 1 [[(.int .i64 (.ofNat 2))],[(.int .i64 (.ofNat 2))]])]])],[(.int .i64 (.ofNat 2)),(.tsl 0 1 [[(.int .i64 (.ofNat 0))]]),(.tsl 0 1 [[(.tsl 0 1 [[(.int .i64 (.ofNat 3))],[(.int .i64 (.ofNat 1))]])],[(.tsl 0 1 [[(.int .i64 (.ofNat 1))],[(.int .i64 (.ofNat 3))]])]])],[(.int .i64 (.ofNat 2)),(.tsl 0 1 [[(.int .i64 (.ofNat 0))]]),(.tsl 0 1 [[(.tsl 0 1 [[(.int .i64 (.ofNat 3))],[(.int .i64 (.ofNat 1))]])],[(.tsl 0 1 [[(.int .i64 (.ofNat 1))],[(.int .i64 (.ofNat 3))]])]])]])]),(.tsl 4 1 [[(.int .i64 (.ofNat 1))],[(.int .i64 (.negSucc 0))],[(.int .i64 (.ofNat 0))]])]
noncomputable def v91_11:AV:=(.tup [(.int .i64 (.ofNat 8)),(.int .i64 (.ofNat 0))])
theorem r91_11:aH 4 ((sem Rea.cfgR 20000).call 5 91 a91_11 G.empty)=some v91_11:=by kernel_rfl
noncomputable def tab91:List (List AV×AV):=[(a91_0,v91_0),(a91_1,v91_1),(a91_2,v91_2),(a91_3,v91_3),(a91_4,v91_4),(a91_5,v91_5),(a91_6,v91_6),(a91_7,v91_7),(a91_8,v91_8),(a91_9,v91_9),(a91_10,v91_10),(a91_11,v91_11)]
theorem tab91_ok:∀e∈tab91,aH 4 ((sem Rea.cfgR 20000).call 5 91 e.1 G.empty)=some e.2:=by
 intro e he
 simp only[tab91,List.mem_cons,List.not_mem_nil,or_false] at he
 rcases he with rfl | rfl | rfl | rfl | rfl | rfl | rfl | rfl | rfl | rfl | rfl | rfl
 ·exact r91_0
 ·exact r91_1
 ·exact r91_2
 ·exact r91_3
 ·exact r91_4
 ·exact r91_5
 ·exact r91_6
 ·exact r91_7
 ·exact r91_8
 ·exact r91_9
 ·exact r91_10
 ·exact r91_11
noncomputable def a92_0:List AV:=[(.agg [(.int .i64 (.ofNat 4)),(.tsl 0 3 [[(.int .i64 (.ofNat 2)),.nils,(.tsl 0 1 [[(.tsl 0 1 [[(.int .i64 (.ofNat 2))],[(.int .i64 (.ofNat 2))]])]])],[(.int .i64 (.ofNat 2)),(.tsl 0 1 [[(.int .i64 (.ofNat 0))]]),(.tsl 0 1 [[(.tsl 0 1 [[(.int .i64 (.ofNat 3))],[(.int .i64 (.ofNat 1))]])],[(.tsl 0 1 [[(.int .i64 (.ofNat 1))],[(.int .i64 (.ofNat 3))]])]])],[(.int .i64 (.ofNat 2)),(.tsl 0 1 [[(.int .i64 (.ofNat 0))]]),(.tsl 0 1 [[(.tsl 0 1 [[(.int .i64 (.ofNat 3))],[(.int .i64 (.ofNat 1))]])],[(.tsl 0 1 [[(.int .i64 (.ofNat 1))],[(.int .i64 (.ofNat 3))]])]])]])]),(.tsl 4 1 [[(.int .i64 (.negSucc 0))],[(.int .i64 (.ofNat 1))],[(.int .i64 (.ofNat 1))]]),(.int .i64 (.ofNat 0))]
noncomputable def v92_0:AV:=(.tup [(.tsl 0 2 [[(.int .i64 (.ofNat 1)),(.int .i64 (.ofNat 10))],[(.int .i64 (.ofNat 9)),(.int .i64 (.ofNat 10))]]),(.int .i64 (.ofNat 0))])
theorem r92_0:aH 4 ((sem Rea.cfgR 20000).call 5 92 a92_0 G.empty)=some v92_0:=by kernel_rfl
noncomputable def a92_1:List AV:=[(.agg [(.int .i64 (.ofNat 4)),(.tsl 0 3 [[(.int .i64 (.ofNat 2)),.nils,(.tsl 0 1 [[(.tsl 0 1 [[(.int .i64 (.ofNat 2))],[(.int .i64 (.ofNat 2))]])]])],[(.int .i64 (.ofNat 2)),(.tsl 0 1 [[(.int .i64 (.ofNat 0))]]),(.tsl 0 1 [[(.tsl 0 1 [[(.int .i64 (.ofNat 3))],[(.int .i64 (.ofNat 1))]])],[(.tsl 0 1 [[(.int .i64 (.ofNat 1))],[(.int .i64 (.ofNat 3))]])]])],[(.int .i64 (.ofNat 2)),(.tsl 0 1 [[(.int .i64 (.ofNat 0))]]),(.tsl 0 1 [[(.tsl 0 1 [[(.int .i64 (.ofNat 3))],[(.int .i64 (.ofNat 1))]])],[(.tsl 0 1 [[(.int .i64 (.ofNat 1))],[(.int .i64 (.ofNat 3))]])]])]])]),(.tsl 4 1 [[(.int .i64 (.negSucc 0))],[(.int .i64 (.negSucc 0))],[(.int .i64 (.ofNat 1))]]),(.int .i64 (.ofNat 0))]
noncomputable def v92_1:AV:=(.tup [(.tsl 0 2 [[(.int .i64 (.ofNat 1)),(.int .i64 (.ofNat 4))],[(.int .i64 (.ofNat 3)),(.int .i64 (.ofNat 4))]]),(.int .i64 (.ofNat 0))])
theorem r92_1:aH 4 ((sem Rea.cfgR 20000).call 5 92 a92_1 G.empty)=some v92_1:=by kernel_rfl
noncomputable def a92_2:List AV:=[(.agg [(.int .i64 (.ofNat 4)),(.tsl 0 3 [[(.int .i64 (.ofNat 2)),.nils,(.tsl 0 1 [[(.tsl 0 1 [[(.int .i64 (.ofNat 2))],[(.int .i64 (.ofNat 2))]])]])],[(.int .i64 (.ofNat 2)),(.tsl 0 1 [[(.int .i64 (.ofNat 0))]]),(.tsl 0 1 [[(.tsl 0 1 [[(.int .i64 (.ofNat 3))],[(.int .i64 (.ofNat 1))]])],[(.tsl 0 1 [[(.int .i64 (.ofNat 1))],[(.int .i64 (.ofNat 3))]])]])],[(.int .i64 (.ofNat 2)),(.tsl 0 1 [[(.int .i64 (.ofNat 0))]]),(.tsl 0 1 [[(.tsl 0 1 [[(.int .i64 (.ofNat 3))],[(.int .i64 (.ofNat 1))]])],[(.tsl 0 1 [[(.int .i64 (.ofNat 1))],[(.int .i64 (.ofNat 3))]])]])]])]),(.tsl 4 1 [[(.int .i64 (.negSucc 0))],[(.int .i64 (.ofNat 1))],[(.int .i64 (.negSucc 0))]]),(.int .i64 (.ofNat 0))]
noncomputable def v92_2:AV:=(.tup [(.tsl 0 2 [[(.int .i64 (.ofNat 1)),(.int .i64 (.ofNat 4))],[(.int .i64 (.ofNat 3)),(.int .i64 (.ofNat 4))]]),(.int .i64 (.ofNat 0))])
theorem r92_2:aH 4 ((sem Rea.cfgR 20000).call 5 92 a92_2 G.empty)=some v92_2:=by kernel_rfl
noncomputable def a92_3:List AV:=[(.agg [(.int .i64 (.ofNat 4)),(.tsl 0 3 [[(.int .i64 (.ofNat 2)),.nils,(.tsl 0 1 [[(.tsl 0 1 [[(.int .i64 (.ofNat 2))],[(.int .i64 (.ofNat 2))]])]])],[(.int .i64 (.ofNat 2)),(.tsl 0 1 [[(.int .i64 (.ofNat 0))]]),(.tsl 0 1 [[(.tsl 0 1 [[(.int .i64 (.ofNat 3))],[(.int .i64 (.ofNat 1))]])],[(.tsl 0 1 [[(.int .i64 (.ofNat 1))],[(.int .i64 (.ofNat 3))]])]])],[(.int .i64 (.ofNat 2)),(.tsl 0 1 [[(.int .i64 (.ofNat 0))]]),(.tsl 0 1 [[(.tsl 0 1 [[(.int .i64 (.ofNat 3))],[(.int .i64 (.ofNat 1))]])],[(.tsl 0 1 [[(.int .i64 (.ofNat 1))],[(.int .i64 (.ofNat 3))]])]])]])]),(.tsl 4 1 [[(.int .i64 (.negSucc 0))],[(.int .i64 (.negSucc 0))],[(.int .i64 (.negSucc 0))]]),(.int .i64 (.ofNat 0))]
noncomputable def v92_3:AV:=(.tup [(.tsl 0 2 [[(.int .i64 (.ofNat 1)),(.int .i64 (.ofNat 2))],[(.int .i64 (.ofNat 1)),(.int .i64 (.ofNat 2))]]),(.int .i64 (.ofNat 0))])
theorem r92_3:aH 4 ((sem Rea.cfgR 20000).call 5 92 a92_3 G.empty)=some v92_3:=by kernel_rfl
noncomputable def tab92:List (List AV×AV):=[(a92_0,v92_0),(a92_1,v92_1),(a92_2,v92_2),(a92_3,v92_3)]
theorem tab92_ok:∀e∈tab92,aH 4 ((sem Rea.cfgR 20000).call 5 92 e.1 G.empty)=some e.2:=by
 intro e he
 simp only[tab92,List.mem_cons,List.not_mem_nil,or_false] at he
 rcases he with rfl | rfl | rfl | rfl
 ·exact r92_0
 ·exact r92_1
 ·exact r92_2
 ·exact r92_3
end D4
namespace D5
noncomputable def a91_0:List AV:=[(.agg [(.int .i64 (.ofNat 4)),(.tsl 0 3 [[(.int .i64 (.ofNat 2)),.nils,(.tsl 0 1 [[(.tsl 0 1 [[(.int .i64 (.ofNat 2))],[(.int .i64 (.ofNat 2))]])]])],[(.int .i64 (.ofNat 2)),(.tsl 0 1 [[(.int .i64 (.ofNat 0))]]),(.tsl 0 1 [[(.tsl 0 1 [[(.int .i64 (.ofNat 3))],[(.int .i64 (.ofNat 1))]])],[(.tsl 0 1 [[(.int .i64 (.ofNat 1))],[(.int .i64 (.ofNat 3))]])]])],[(.int .i64 (.ofNat 2)),(.tsl 0 1 [[(.int .i64 (.ofNat 0))]]),(.tsl 0 1 [[(.tsl 0 1 [[(.int .i64 (.ofNat 3))],[(.int .i64 (.ofNat 1))]])],[(.tsl 0 1 [[(.int .i64 (.ofNat 1))],[(.int .i64 (.ofNat 3))]])]])]])]),(.tsl 0 1 [[(.int .i64 (.negSucc 0))],[(.int .i64 (.ofNat 1))],[(.int .i64 (.ofNat 1))]])]
noncomputable def v91_0:AV:=(.tup [(.int .i64 (.ofNat 20)),(.int .i64 (.ofNat 0))])
theorem r91_0:aH 5 ((sem Rea.cfgR 20000).call 6 91 a91_0 G.empty)=some v91_0:=by kernel_rfl
noncomputable def a91_1:List AV:=[(.agg [(.int .i64 (.ofNat 4)),(.tsl 0 3 [[(.int .i64 (.ofNat 2)),.nils,(.tsl 0 1 [[(.tsl 0 1 [[(.int .i64 (.ofNat 2))],[(.int .i64 (.ofNat 2))]])]])],[(.int .i64 (.ofNat 2)),(.tsl 0 1 [[(.int .i64 (.ofNat 0))]]),(.tsl 0 1 [[(.tsl 0 1 [[(.int .i64 (.ofNat 3))],[(.int .i64 (.ofNat 1))]])],[(.tsl 0 1 [[(.int .i64 (.ofNat 1))],[(.int .i64 (.ofNat 3))]])]])],[(.int .i64 (.ofNat 2)),(.tsl 0 1 [[(.int .i64 (.ofNat 0))]]),(.tsl 0 1 [[(.tsl 0 1 [[(.int .i64 (.ofNat 3))],[(.int .i64 (.ofNat 1))]])],[(.tsl 0 1 [[(.int .i64 (.ofNat 1))],[(.int .i64 (.ofNat 3))]])]])]])]),(.tsl 5 1 [[(.int .i64 (.ofNat 1))],[(.int .i64 (.ofNat 1))],[(.int .i64 (.ofNat 1))]])]
noncomputable def v91_1:AV:=(.tup [(.int .i64 (.ofNat 18)),(.int .i64 (.ofNat 0))])
theorem r91_1:aH 5 ((sem Rea.cfgR 20000).call 6 91 a91_1 G.empty)=some v91_1:=by kernel_rfl
noncomputable def a91_2:List AV:=[(.agg [(.int .i64 (.ofNat 4)),(.tsl 0 3 [[(.int .i64 (.ofNat 2)),.nils,(.tsl 0 1 [[(.tsl 0 1 [[(.int .i64 (.ofNat 2))],[(.int .i64 (.ofNat 2))]])]])],[(.int .i64 (.ofNat 2)),(.tsl 0 1 [[(.int .i64 (.ofNat 0))]]),(.tsl 0 1 [[(.tsl 0 1 [[(.int .i64 (.ofNat 3))],[(.int .i64 (.ofNat 1))]])],[(.tsl 0 1 [[(.int .i64 (.ofNat 1))],[(.int .i64 (.ofNat 3))]])]])],[(.int .i64 (.ofNat 2)),(.tsl 0 1 [[(.int .i64 (.ofNat 0))]]),(.tsl 0 1 [[(.tsl 0 1 [[(.int .i64 (.ofNat 3))],[(.int .i64 (.ofNat 1))]])],[(.tsl 0 1 [[(.int .i64 (.ofNat 1))],[(.int .i64 (.ofNat 3))]])]])]])]),(.tsl 5 1 [[(.int .i64 (.ofNat 0))],[(.int .i64 (.ofNat 1))],[(.int .i64 (.ofNat 1))]])]
noncomputable def v91_2:AV:=(.tup [(.int .i64 (.ofNat 2)),(.int .i64 (.ofNat 0))])
theorem r91_2:aH 5 ((sem Rea.cfgR 20000).call 6 91 a91_2 G.empty)=some v91_2:=by kernel_rfl
noncomputable def a91_3:List AV:=[(.agg [(.int .i64 (.ofNat 4)),(.tsl 0 3 [[(.int .i64 (.ofNat 2)),.nils,(.tsl 0 1 [[(.tsl 0 1 [[(.int .i64 (.ofNat 2))],[(.int .i64 (.ofNat 2))]])]])],[(.int .i64 (.ofNat 2)),(.tsl 0 1 [[(.int .i64 (.ofNat 0))]]),(.tsl 0 1 [[(.tsl 0 1 [[(.int .i64 (.ofNat 3))],[(.int .i64 (.ofNat 1))]])],[(.tsl 0 1 [[(.int .i64 (.ofNat 1))],[(.int .i64 (.ofNat 3))]])]])],[(.int .i64 (.ofNat 2)),(.tsl 0 1 [[(.int .i64 (.ofNat 0))]]),(.tsl 0 1 [[(.tsl 0 1 [[(.int .i64 (.ofNat 3))],[(.int .i64 (.ofNat 1))]])],[(.tsl 0 1 [[(.int .i64 (.ofNat 1))],[(.int .i64 (.ofNat 3))]])]])]])]),(.tsl 5 1 [[(.int .i64 (.ofNat 0))],[(.int .i64 (.negSucc 0))],[(.int .i64 (.ofNat 1))]])]
noncomputable def v91_3:AV:=(.tup [(.int .i64 (.ofNat 8)),(.int .i64 (.ofNat 0))])
theorem r91_3:aH 5 ((sem Rea.cfgR 20000).call 6 91 a91_3 G.empty)=some v91_3:=by kernel_rfl
noncomputable def a91_4:List AV:=[(.agg [(.int .i64 (.ofNat 4)),(.tsl 0 3 [[(.int .i64 (.ofNat 2)),.nils,(.tsl 0 1 [[(.tsl 0 1 [[(.int .i64 (.ofNat 2))],[(.int .i64 (.ofNat 2))]])]])],[(.int .i64 (.ofNat 2)),(.tsl 0 1 [[(.int .i64 (.ofNat 0))]]),(.tsl 0 1 [[(.tsl 0 1 [[(.int .i64 (.ofNat 3))],[(.int .i64 (.ofNat 1))]])],[(.tsl 0 1 [[(.int .i64 (.ofNat 1))],[(.int .i64 (.ofNat 3))]])]])],[(.int .i64 (.ofNat 2)),(.tsl 0 1 [[(.int .i64 (.ofNat 0))]]),(.tsl 0 1 [[(.tsl 0 1 [[(.int .i64 (.ofNat 3))],[(.int .i64 (.ofNat 1))]])],[(.tsl 0 1 [[(.int .i64 (.ofNat 1))],[(.int .i64 (.ofNat 3))]])]])]])]),(.tsl 5 1 [[(.int .i64 (.ofNat 1))],[(.int .i64 (.negSucc 0))],[(.int .i64 (.ofNat 1))]])]
noncomputable def v91_4:AV:=(.tup [(.int .i64 (.ofNat 24)),(.int .i64 (.ofNat 0))])
theorem r91_4:aH 5 ((sem Rea.cfgR 20000).call 6 91 a91_4 G.empty)=some v91_4:=by kernel_rfl
noncomputable def a91_5:List AV:=[(.agg [(.int .i64 (.ofNat 4)),(.tsl 0 3 [[(.int .i64 (.ofNat 2)),.nils,(.tsl 0 1 [[(.tsl 0 1 [[(.int .i64 (.ofNat 2))],[(.int .i64 (.ofNat 2))]])]])],[(.int .i64 (.ofNat 2)),(.tsl 0 1 [[(.int .i64 (.ofNat 0))]]),(.tsl 0 1 [[(.tsl 0 1 [[(.int .i64 (.ofNat 3))],[(.int .i64 (.ofNat 1))]])],[(.tsl 0 1 [[(.int .i64 (.ofNat 1))],[(.int .i64 (.ofNat 3))]])]])],[(.int .i64 (.ofNat 2)),(.tsl 0 1 [[(.int .i64 (.ofNat 0))]]),(.tsl 0 1 [[(.tsl 0 1 [[(.int .i64 (.ofNat 3))],[(.int .i64 (.ofNat 1))]])],[(.tsl 0 1 [[(.int .i64 (.ofNat 1))],[(.int .i64 (.ofNat 3))]])]])]])]),(.tsl 5 1 [[(.int .i64 (.ofNat 0))],[(.int .i64 (.ofNat 1))],[(.int .i64 (.negSucc 0))]])]
noncomputable def v91_5:AV:=(.tup [(.int .i64 (.ofNat 8)),(.int .i64 (.ofNat 0))])
theorem r91_5:aH 5 ((sem Rea.cfgR 20000).call 6 91 a91_5 G.empty)=some v91_5:=by kernel_rfl
noncomputable def a91_6:List AV:=[(.agg [(.int .i64 (.ofNat 4)),(.tsl 0 3 [[(.int .i64 (.ofNat 2)),.nils,(.tsl 0 1 [[(.tsl 0 1 [[(.int .i64 (.ofNat 2))],[(.int .i64 (.ofNat 2))]])]])],[(.int .i64 (.ofNat 2)),(.tsl 0 1 [[(.int .i64 (.ofNat 0))]]),(.tsl 0 1 [[(.tsl 0 1 [[(.int .i64 (.ofNat 3))],[(.int .i64 (.ofNat 1))]])],[(.tsl 0 1 [[(.int .i64 (.ofNat 1))],[(.int .i64 (.ofNat 3))]])]])],[(.int .i64 (.ofNat 2)),(.tsl 0 1 [[(.int .i64 (.ofNat 0))]]),(.tsl 0 1 [[(.tsl 0 1 [[(.int .i64 (.ofNat 3))],[(.int .i64 (.ofNat 1))]])],[(.tsl 0 1 [[(.int .i64 (.ofNat 1))],[(.int .i64 (.ofNat 3))]])]])]])]),(.tsl 5 1 [[(.int .i64 (.ofNat 1))],[(.int .i64 (.ofNat 1))],[(.int .i64 (.negSucc 0))]])]
noncomputable def v91_6:AV:=(.tup [(.int .i64 (.ofNat 24)),(.int .i64 (.ofNat 0))])
theorem r91_6:aH 5 ((sem Rea.cfgR 20000).call 6 91 a91_6 G.empty)=some v91_6:=by kernel_rfl
noncomputable def a91_7:List AV:=[(.agg [(.int .i64 (.ofNat 4)),(.tsl 0 3 [[(.int .i64 (.ofNat 2)),.nils,(.tsl 0 1 [[(.tsl 0 1 [[(.int .i64 (.ofNat 2))],[(.int .i64 (.ofNat 2))]])]])],[(.int .i64 (.ofNat 2)),(.tsl 0 1 [[(.int .i64 (.ofNat 0))]]),(.tsl 0 1 [[(.tsl 0 1 [[(.int .i64 (.ofNat 3))],[(.int .i64 (.ofNat 1))]])],[(.tsl 0 1 [[(.int .i64 (.ofNat 1))],[(.int .i64 (.ofNat 3))]])]])],[(.int .i64 (.ofNat 2)),(.tsl 0 1 [[(.int .i64 (.ofNat 0))]]),(.tsl 0 1 [[(.tsl 0 1 [[(.int .i64 (.ofNat 3))],[(.int .i64 (.ofNat 1))]])],[(.tsl 0 1 [[(.int .i64 (.ofNat 1))],[(.int .i64 (.ofNat 3))]])]])]])]),(.tsl 2 1 [[(.int .i64 (.negSucc 0))],[(.int .i64 (.ofNat 1))],[(.int .i64 (.ofNat 0))]])]
noncomputable def v91_7:AV:=(.tup [(.int .i64 (.ofNat 12)),(.int .i64 (.ofNat 0))])
theorem r91_7:aH 5 ((sem Rea.cfgR 20000).call 6 91 a91_7 G.empty)=some v91_7:=by kernel_rfl
noncomputable def a91_8:List AV:=[(.agg [(.int .i64 (.ofNat 4)),(.tsl 0 3 [[(.int .i64 (.ofNat 2)),.nils,(.tsl 0 1 [[(.tsl 0 1 [[(.int .i64 (.ofNat 2))],[(.int .i64 (.ofNat 2))]])]])],[(.int .i64 (.ofNat 2)),(.tsl 0 1 [[(.int .i64 (.ofNat 0))]]),(.tsl 0 1 [[(.tsl 0 1 [[(.int .i64 (.ofNat 3))],[(.int .i64 (.ofNat 1))]])],[(.tsl 0 1 [[(.int .i64 (.ofNat 1))],[(.int .i64 (.ofNat 3))]])]])],[(.int .i64 (.ofNat 2)),(.tsl 0 1 [[(.int .i64 (.ofNat 0))]]),(.tsl 0 1 [[(.tsl 0 1 [[(.int .i64 (.ofNat 3))],[(.int .i64 (.ofNat 1))]])],[(.tsl 0 1 [[(.int .i64 (.ofNat 1))],[(.int .i64 (.ofNat 3))]])]])]])]),(.tsl 5 1 [[(.int .i64 (.ofNat 1))],[(.int .i64 (.ofNat 1))],[(.int .i64 (.ofNat 0))]])]
noncomputable def v91_8:AV:=(.tup [(.int .i64 (.ofNat 6)),(.int .i64 (.ofNat 0))])
theorem r91_8:aH 5 ((sem Rea.cfgR 20000).call 6 91 a91_8 G.empty)=some v91_8:=by kernel_rfl
noncomputable def a91_9:List AV:=[(.agg [(.int .i64 (.ofNat 4)),(.tsl 0 3 [[(.int .i64 (.ofNat 2)),.nils,(.tsl 0 1 [[(.tsl 0 1 [[(.int .i64 (.ofNat 2))],[(.int .i64 (.ofNat 2))]])]])],[(.int .i64 (.ofNat 2)),(.tsl 0 1 [[(.int .i64 (.ofNat 0))]]),(.tsl 0 1 [[(.tsl 0 1 [[(.int .i64 (.ofNat 3))],[(.int .i64 (.ofNat 1))]])],[(.tsl 0 1 [[(.int .i64 (.ofNat 1))],[(.int .i64 (.ofNat 3))]])]])],[(.int .i64 (.ofNat 2)),(.tsl 0 1 [[(.int .i64 (.ofNat 0))]]),(.tsl 0 1 [[(.tsl 0 1 [[(.int .i64 (.ofNat 3))],[(.int .i64 (.ofNat 1))]])],[(.tsl 0 1 [[(.int .i64 (.ofNat 1))],[(.int .i64 (.ofNat 3))]])]])]])]),(.tsl 5 1 [[(.int .i64 (.ofNat 0))],[(.int .i64 (.ofNat 1))],[(.int .i64 (.ofNat 0))]])]
noncomputable def v91_9:AV:=(.tup [(.int .i64 (.ofNat 6)),(.int .i64 (.ofNat 0))])
theorem r91_9:aH 5 ((sem Rea.cfgR 20000).call 6 91 a91_9 G.empty)=some v91_9:=by kernel_rfl
noncomputable def a91_10:List AV:=[(.agg [(.int .i64 (.ofNat 4)),(.tsl 0 3 [[(.int .i64 (.ofNat 2)),.nils,(.tsl 0 1 [[(.tsl 0 1 [[(.int .i64 (.ofNat 2))],[(.int .i64 (.ofNat 2))]])]])],[(.int .i64 (.ofNat 2)),(.tsl 0 1 [[(.int .i64 (.ofNat 0))]]),(.tsl 0 1 [[(.tsl 0 1 [[(.int .i64 (.ofNat 3))],[(.int .i64 (.ofNat 1))]])],[(.tsl 0 1 [[(.int .i64 (.ofNat 1))],[(.int .i64 (.ofNat 3))]])]])],[(.int .i64 (.ofNat 2)),(.tsl 0 1 [[(.int .i64 (.ofNat 0))]]),(.tsl 0 1 [[(.tsl 0 1 [[(.int .i64 (.ofNat 3))],[(.int .i64 (.ofNat 1))]])],[(.tsl 0 1 [[(.int .i64 (.ofNat 1))],[(.int .i64 (.ofNat 3))]])]])]])]),(.tsl 5 1 [[(.int .i64 (.ofNat 0))],[(.int .i64 (.negSucc 0))],[(.int .i64 (.ofNat 0))]])]
noncomputable def v91_10:AV:=(.tup [(.int .i64 (.ofNat 24)),(.int .i64 (.ofNat 0))])
theorem r91_10:aH 5 ((sem Rea.cfgR 20000).call 6 91 a91_10 G.empty)=some v91_10:=by kernel_rfl
noncomputable def a91_11:List AV:=[(.agg [(.int .i64 (.ofNat 4)),(.tsl 0 3 [[(.int .i64 (.ofNat 2)),.nils,(.tsl 0 1 [[(.tsl 0 1 [[(.int .i64 (.ofNat 2))],[(.int .i64 (.ofNat 2))]])]])],[(.int .i64 (.ofNat 2)),(.tsl 0 1 [[(.int .i64 (.ofNat 0))]]),(.tsl 0 1 [[(.tsl 0 1 [[(.int .i64 (.ofNat 3))],[(.int .i64 (.ofNat 1))]])],[(.tsl 0 1 [[(.int .i64 (.ofNat 1))],[(.int .i64 (.ofNat 3))]])]])],[(.int .i64 (.ofNat 2)),(.tsl 0 1 [[(.int .i64 (.ofNat 0))]]),(.tsl 0 1 [[(.tsl 0 1 [[(.int .i64 (.ofNat 3))],[(.int .i64 (.ofNat 1))]])],[(.tsl 0 1 [[(.int .i64 (.ofNat 1))],[(.int .i64 (.ofNat 3))]])]])]])]),(.tsl 5 1 [[(.int .i64 (.ofNat 1))],[(.int .i64 (.negSucc 0))],[(.int .i64 (.ofNat 0))]])]
noncomputable def v91_11:AV:=(.tup [(.int .i64 (.ofNat 8)),(.int .i64 (.ofNat 0))])
theorem r91_11:aH 5 ((sem Rea.cfgR 20000).call 6 91 a91_11 G.empty)=some v91_11:=by kernel_rfl
noncomputable def tab91:List (List AV×AV):=[(a91_0,v91_0),(a91_1,v91_1),(a91_2,v91_2),(a91_3,v91_3),(a91_4,v91_4),(a91_5,v91_5),(a91_6,v91_6),(a91_7,v91_7),(a91_8,v91_8),(a91_9,v91_9),(a91_10,v91_10),(a91_11,v91_11)]
theorem tab91_ok:∀e∈tab91,aH 5 ((sem Rea.cfgR 20000).call 6 91 e.1 G.empty)=some e.2:=by
 intro e he
 simp only[tab91,List.mem_cons,List.not_mem_nil,or_false] at he
 rcases he with rfl | rfl | rfl | rfl | rfl | rfl | rfl | rfl | rfl | rfl | rfl | rfl
 ·exact r91_0
 ·exact r91_1
 ·exact r91_2
 ·exact r91_3
 ·exact r91_4
 ·exact r91_5
 ·exact r91_6
 ·exact r91_7
 ·exact r91_8
 ·exact r91_9
 ·exact r91_10
 ·exact r91_11
noncomputable def a92_0:List AV:=[(.agg [(.int .i64 (.ofNat 4)),(.tsl 0 3 [[(.int .i64 (.ofNat 2)),.nils,(.tsl 0 1 [[(.tsl 0 1 [[(.int .i64 (.ofNat 2))],[(.int .i64 (.ofNat 2))]])]])],[(.int .i64 (.ofNat 2)),(.tsl 0 1 [[(.int .i64 (.ofNat 0))]]),(.tsl 0 1 [[(.tsl 0 1 [[(.int .i64 (.ofNat 3))],[(.int .i64 (.ofNat 1))]])],[(.tsl 0 1 [[(.int .i64 (.ofNat 1))],[(.int .i64 (.ofNat 3))]])]])],[(.int .i64 (.ofNat 2)),(.tsl 0 1 [[(.int .i64 (.ofNat 0))]]),(.tsl 0 1 [[(.tsl 0 1 [[(.int .i64 (.ofNat 3))],[(.int .i64 (.ofNat 1))]])],[(.tsl 0 1 [[(.int .i64 (.ofNat 1))],[(.int .i64 (.ofNat 3))]])]])]])]),(.tsl 5 1 [[(.int .i64 (.negSucc 0))],[(.int .i64 (.ofNat 1))],[(.int .i64 (.ofNat 1))]]),(.int .i64 (.ofNat 0))]
noncomputable def v92_0:AV:=(.tup [(.tsl 0 2 [[(.int .i64 (.ofNat 1)),(.int .i64 (.ofNat 10))],[(.int .i64 (.ofNat 9)),(.int .i64 (.ofNat 10))]]),(.int .i64 (.ofNat 0))])
theorem r92_0:aH 5 ((sem Rea.cfgR 20000).call 6 92 a92_0 G.empty)=some v92_0:=by kernel_rfl
noncomputable def a92_1:List AV:=[(.agg [(.int .i64 (.ofNat 4)),(.tsl 0 3 [[(.int .i64 (.ofNat 2)),.nils,(.tsl 0 1 [[(.tsl 0 1 [[(.int .i64 (.ofNat 2))],[(.int .i64 (.ofNat 2))]])]])],[(.int .i64 (.ofNat 2)),(.tsl 0 1 [[(.int .i64 (.ofNat 0))]]),(.tsl 0 1 [[(.tsl 0 1 [[(.int .i64 (.ofNat 3))],[(.int .i64 (.ofNat 1))]])],[(.tsl 0 1 [[(.int .i64 (.ofNat 1))],[(.int .i64 (.ofNat 3))]])]])],[(.int .i64 (.ofNat 2)),(.tsl 0 1 [[(.int .i64 (.ofNat 0))]]),(.tsl 0 1 [[(.tsl 0 1 [[(.int .i64 (.ofNat 3))],[(.int .i64 (.ofNat 1))]])],[(.tsl 0 1 [[(.int .i64 (.ofNat 1))],[(.int .i64 (.ofNat 3))]])]])]])]),(.tsl 5 1 [[(.int .i64 (.negSucc 0))],[(.int .i64 (.negSucc 0))],[(.int .i64 (.ofNat 1))]]),(.int .i64 (.ofNat 0))]
noncomputable def v92_1:AV:=(.tup [(.tsl 0 2 [[(.int .i64 (.ofNat 1)),(.int .i64 (.ofNat 4))],[(.int .i64 (.ofNat 3)),(.int .i64 (.ofNat 4))]]),(.int .i64 (.ofNat 0))])
theorem r92_1:aH 5 ((sem Rea.cfgR 20000).call 6 92 a92_1 G.empty)=some v92_1:=by kernel_rfl
noncomputable def a92_2:List AV:=[(.agg [(.int .i64 (.ofNat 4)),(.tsl 0 3 [[(.int .i64 (.ofNat 2)),.nils,(.tsl 0 1 [[(.tsl 0 1 [[(.int .i64 (.ofNat 2))],[(.int .i64 (.ofNat 2))]])]])],[(.int .i64 (.ofNat 2)),(.tsl 0 1 [[(.int .i64 (.ofNat 0))]]),(.tsl 0 1 [[(.tsl 0 1 [[(.int .i64 (.ofNat 3))],[(.int .i64 (.ofNat 1))]])],[(.tsl 0 1 [[(.int .i64 (.ofNat 1))],[(.int .i64 (.ofNat 3))]])]])],[(.int .i64 (.ofNat 2)),(.tsl 0 1 [[(.int .i64 (.ofNat 0))]]),(.tsl 0 1 [[(.tsl 0 1 [[(.int .i64 (.ofNat 3))],[(.int .i64 (.ofNat 1))]])],[(.tsl 0 1 [[(.int .i64 (.ofNat 1))],[(.int .i64 (.ofNat 3))]])]])]])]),(.tsl 5 1 [[(.int .i64 (.negSucc 0))],[(.int .i64 (.ofNat 1))],[(.int .i64 (.negSucc 0))]]),(.int .i64 (.ofNat 0))]
noncomputable def v92_2:AV:=(.tup [(.tsl 0 2 [[(.int .i64 (.ofNat 1)),(.int .i64 (.ofNat 4))],[(.int .i64 (.ofNat 3)),(.int .i64 (.ofNat 4))]]),(.int .i64 (.ofNat 0))])
theorem r92_2:aH 5 ((sem Rea.cfgR 20000).call 6 92 a92_2 G.empty)=some v92_2:=by kernel_rfl
noncomputable def a92_3:List AV:=[(.agg [(.int .i64 (.ofNat 4)),(.tsl 0 3 [[(.int .i64 (.ofNat 2)),.nils,(.tsl 0 1 [[(.tsl 0 1 [[(.int .i64 (.ofNat 2))],[(.int .i64 (.ofNat 2))]])]])],[(.int .i64 (.ofNat 2)),(.tsl 0 1 [[(.int .i64 (.ofNat 0))]]),(.tsl 0 1 [[(.tsl 0 1 [[(.int .i64 (.ofNat 3))],[(.int .i64 (.ofNat 1))]])],[(.tsl 0 1 [[(.int .i64 (.ofNat 1))],[(.int .i64 (.ofNat 3))]])]])],[(.int .i64 (.ofNat 2)),(.tsl 0 1 [[(.int .i64 (.ofNat 0))]]),(.tsl 0 1 [[(.tsl 0 1 [[(.int .i64 (.ofNat 3))],[(.int .i64 (.ofNat 1))]])],[(.tsl 0 1 [[(.int .i64 (.ofNat 1))],[(.int .i64 (.ofNat 3))]])]])]])]),(.tsl 5 1 [[(.int .i64 (.negSucc 0))],[(.int .i64 (.negSucc 0))],[(.int .i64 (.negSucc 0))]]),(.int .i64 (.ofNat 0))]
noncomputable def v92_3:AV:=(.tup [(.tsl 0 2 [[(.int .i64 (.ofNat 1)),(.int .i64 (.ofNat 2))],[(.int .i64 (.ofNat 1)),(.int .i64 (.ofNat 2))]]),(.int .i64 (.ofNat 0))])
theorem r92_3:aH 5 ((sem Rea.cfgR 20000).call 6 92 a92_3 G.empty)=some v92_3:=by kernel_rfl
noncomputable def tab92:List (List AV×AV):=[(a92_0,v92_0),(a92_1,v92_1),(a92_2,v92_2),(a92_3,v92_3)]
theorem tab92_ok:∀e∈tab92,aH 5 ((sem Rea.cfgR 20000).call 6 92 e.1 G.empty)=some e.2:=by
 intro e he
 simp only[tab92,List.mem_cons,List.not_mem_nil,or_false] at he
 rcases he with rfl | rfl | rfl | rfl
 ·exact r92_0
 ·exact r92_1
 ·exact r92_2
 ·exact r92_3
end D5
end
end Go.Proofs.YtahabidkdanicaaGreat.TabR
end
