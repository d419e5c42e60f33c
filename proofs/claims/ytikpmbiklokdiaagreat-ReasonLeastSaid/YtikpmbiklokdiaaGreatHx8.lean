/- A part of the proof: what the functions of the chapter compute. -/
import Derived.Test.YtikpmbiklokdiaaGreatHx7
set_option linter.all false
set_option maxRecDepth 20000
set_option maxHeartbeats 8000000
namespace Hx
open Go
noncomputable section
end
end Hx
section
namespace Go.Proofs.YtikpmbiklokdiaaGreat.Tab
open Hx
noncomputable section
namespace D3
noncomputable def a69_0:List AV:=[(.agg [(.int .i64 (.ofNat 4)),(.tsl 0 3 [[(.int .i64 (.ofNat 2)),.nils,(.tsl 0 1 [[(.tsl 0 1 [[(.int .i64 (.ofNat 2))],[(.int .i64 (.ofNat 2))]])]])],[(.int .i64 (.ofNat 2)),(.tsl 0 1 [[(.int .i64 (.ofNat 0))]]),(.tsl 0 1 [[(.tsl 0 1 [[(.int .i64 (.ofNat 3))],[(.int .i64 (.ofNat 1))]])],[(.tsl 0 1 [[(.int .i64 (.ofNat 1))],[(.int .i64 (.ofNat 3))]])]])],[(.int .i64 (.ofNat 2)),(.tsl 0 1 [[(.int .i64 (.ofNat 0))]]),(.tsl 0 1 [[(.tsl 0 1 [[(.int .i64 (.ofNat 3))],[(.int .i64 (.ofNat 1))]])],[(.tsl 0 1 [[(.int .i64 (.ofNat 1))],[(.int .i64 (.ofNat 3))]])]])]])]),(.tsl 3 1 [[(.int .i64 (.negSucc 0))],[(.int .i64 (.ofNat 1))],[(.int .i64 (.ofNat 1))]]),(.int .i64 (.ofNat 0))]
noncomputable def v69_0:AV:=(.tup [(.tsl 0 2 [[(.int .i64 (.ofNat 1)),(.int .i64 (.ofNat 10))],[(.int .i64 (.ofNat 9)),(.int .i64 (.ofNat 10))]]),(.int .i64 (.ofNat 0))])
theorem r69_0:l8 3 ((sem Gen.q0 20000).call 4 69 a69_0 G.empty)=some v69_0:=by kernel_rfl
noncomputable def tab69:List (List AV×AV):=[(a69_0,v69_0)]
theorem tab69_ok:∀e∈tab69,l8 3 ((sem Gen.q0 20000).call 4 69 e.1 G.empty)=some e.2:=by
 intro e he;simp only[tab69,List.mem_cons,List.not_mem_nil,or_false] at he;rcases he with rfl
 ·exact r69_0
noncomputable def a78_0:List AV:=[(.agg [(.int .i64 (.ofNat 4)),(.tsl 0 3 [[(.int .i64 (.ofNat 2)),.nils,(.tsl 0 1 [[(.tsl 0 1 [[(.int .i64 (.ofNat 2))],[(.int .i64 (.ofNat 2))]])]])],[(.int .i64 (.ofNat 2)),(.tsl 0 1 [[(.int .i64 (.ofNat 0))]]),(.tsl 0 1 [[(.tsl 0 1 [[(.int .i64 (.ofNat 3))],[(.int .i64 (.ofNat 1))]])],[(.tsl 0 1 [[(.int .i64 (.ofNat 1))],[(.int .i64 (.ofNat 3))]])]])],[(.int .i64 (.ofNat 2)),(.tsl 0 1 [[(.int .i64 (.ofNat 0))]]),(.tsl 0 1 [[(.tsl 0 1 [[(.int .i64 (.ofNat 3))],[(.int .i64 (.ofNat 1))]])],[(.tsl 0 1 [[(.int .i64 (.ofNat 1))],[(.int .i64 (.ofNat 3))]])]])]])]),(.tsl 0 1 [[(.int .i64 (.negSucc 0))],[(.int .i64 (.ofNat 1))],[(.int .i64 (.ofNat 1))]])]
noncomputable def v78_0:AV:=(.tup [(.int .i64 (.ofNat 20)),(.int .i64 (.ofNat 0))])
theorem r78_0:l8 3 ((sem Gen.q0 20000).call 4 78 a78_0 G.empty)=some v78_0:=by kernel_rfl
noncomputable def tab78:List (List AV×AV):=[(a78_0,v78_0)]
theorem tab78_ok:∀e∈tab78,l8 3 ((sem Gen.q0 20000).call 4 78 e.1 G.empty)=some e.2:=by
 intro e he;simp only[tab78,List.mem_cons,List.not_mem_nil,or_false] at he;rcases he with rfl
 ·exact r78_0
end D3
namespace D4
noncomputable def a69_0:List AV:=[(.agg [(.int .i64 (.ofNat 4)),(.tsl 0 3 [[(.int .i64 (.ofNat 2)),.nils,(.tsl 0 1 [[(.tsl 0 1 [[(.int .i64 (.ofNat 2))],[(.int .i64 (.ofNat 2))]])]])],[(.int .i64 (.ofNat 2)),(.tsl 0 1 [[(.int .i64 (.ofNat 0))]]),(.tsl 0 1 [[(.tsl 0 1 [[(.int .i64 (.ofNat 3))],[(.int .i64 (.ofNat 1))]])],[(.tsl 0 1 [[(.int .i64 (.ofNat 1))],[(.int .i64 (.ofNat 3))]])]])],[(.int .i64 (.ofNat 2)),(.tsl 0 1 [[(.int .i64 (.ofNat 0))]]),(.tsl 0 1 [[(.tsl 0 1 [[(.int .i64 (.ofNat 3))],[(.int .i64 (.ofNat 1))]])],[(.tsl 0 1 [[(.int .i64 (.ofNat 1))],[(.int .i64 (.ofNat 3))]])]])]])]),(.tsl 4 1 [[(.int .i64 (.negSucc 0))],[(.int .i64 (.ofNat 1))],[(.int .i64 (.ofNat 1))]]),(.int .i64 (.ofNat 0))]
noncomputable def v69_0:AV:=(.tup [(.tsl 0 2 [[(.int .i64 (.ofNat 1)),(.int .i64 (.ofNat 10))],[(.int .i64 (.ofNat 9)),(.int .i64 (.ofNat 10))]]),(.int .i64 (.ofNat 0))])
theorem r69_0:l8 4 ((sem Gen.q0 20000).call 5 69 a69_0 G.empty)=some v69_0:=by kernel_rfl
noncomputable def a69_1:List AV:=[(.agg [(.int .i64 (.ofNat 4)),(.tsl 0 3 [[(.int .i64 (.ofNat 2)),.nils,(.tsl 0 1 [[(.tsl 0 1 [[(.int .i64 (.ofNat 2))],[(.int .i64 (.ofNat 2))]])]])],[(.int .i64 (.ofNat 2)),(.tsl 0 1 [[(.int .i64 (.ofNat 0))]]),(.tsl 0 1 [[(.tsl 0 1 [[(.int .i64 (.ofNat 3))],[(.int .i64 (.ofNat 1))]])],[(.tsl 0 1 [[(.int .i64 (.ofNat 1))],[(.int .i64 (.ofNat 3))]])]])],[(.int .i64 (.ofNat 2)),(.tsl 0 1 [[(.int .i64 (.ofNat 0))]]),(.tsl 0 1 [[(.tsl 0 1 [[(.int .i64 (.ofNat 3))],[(.int .i64 (.ofNat 1))]])],[(.tsl 0 1 [[(.int .i64 (.ofNat 1))],[(.int .i64 (.ofNat 3))]])]])]])]),(.tsl 4 1 [[(.int .i64 (.negSucc 0))],[(.int .i64 (.negSucc 0))],[(.int .i64 (.ofNat 1))]]),(.int .i64 (.ofNat 0))]
noncomputable def v69_1:AV:=(.tup [(.tsl 0 2 [[(.int .i64 (.ofNat 1)),(.int .i64 (.ofNat 4))],[(.int .i64 (.ofNat 3)),(.int .i64 (.ofNat 4))]]),(.int .i64 (.ofNat 0))])
theorem r69_1:l8 4 ((sem Gen.q0 20000).call 5 69 a69_1 G.empty)=some v69_1:=by kernel_rfl
noncomputable def a69_2:List AV:=[(.agg [(.int .i64 (.ofNat 4)),(.tsl 0 3 [[(.int .i64 (.ofNat 2)),.nils,(.tsl 0 1 [[(.tsl 0 1 [[(.int .i64 (.ofNat 2))],[(.int .i64 (.ofNat 2))]])]])],[(.int .i64 (.ofNat 2)),(.tsl 0 1 [[(.int .i64 (.ofNat 0))]]),(.tsl 0 1 [[(.tsl 0 1 [[(.int .i64 (.ofNat 3))],[(.int .i64 (.ofNat 1))]])],[(.tsl 0 1 [[(.int .i64 (.ofNat 1))],[(.int .i64 (.ofNat 3))]])]])],[(.int .i64 (.ofNat 2)),(.tsl 0 1 [[(.int .i64 (.ofNat 0))]]),(.tsl 0 1 [[(.tsl 0 1 [[(.int .i64 (.ofNat 3))],[(.int .i64 (.ofNat 1))]])],[(.tsl 0 1 [[(.int .i64 (.ofNat 1))],[(.int .i64 (.ofNat 3))]])]])]])]),(.tsl 4 1 [[(.int .i64 (.negSucc 0))],[(.int .i64 (.ofNat 1))],[(.int .i64 (.negSucc 0))]]),(.int .i64 (.ofNat 0))]
noncomputable def v69_2:AV:=(.tup [(.tsl 0 2 [[(.int .i64 (.ofNat 1)),(.int .i64 (.ofNat 4))],[(.int .i64 (.ofNat 3)),(.int .i64 (.ofNat 4))]]),(.int .i64 (.ofNat 0))])
theorem r69_2:l8 4 ((sem Gen.q0 20000).call 5 69 a69_2 G.empty)=some v69_2:=by kernel_rfl
noncomputable def a69_3:List AV:=[(.agg [(.int .i64 (.ofNat 4)),(.tsl 0 3 [[(.int .i64 (.ofNat 2)),.nils,(.tsl 0 1 [[(.tsl 0 1 [[(.int .i64 (.ofNat 2))],[(.int .i64 (.ofNat 2))]])]])],[(.int .i64 (.ofNat 2)),(.tsl 0 1 [[(.int .i64 (.ofNat 0))]]),(.tsl 0 1 [[(.tsl 0 1 [[(.int .i64 (.ofNat 3))],[(.int .i64 (.ofNat 1))]])],[(.tsl 0 1 [[(.int .i64 (.ofNat 1))],[(.int .i64 (.ofNat 3))]])]])],[(.int .i64 (.ofNat 2)),(.tsl 0 1 [[(.int .i64 (.ofNat 0))]]),(.tsl 0 1 [[(.tsl 0 1 [[(.int .i64 (.ofNat 3))],[(.int .i64 (.ofNat 1))]])],[(.tsl 0 1 [[(.int .i64 (.ofNat 1))],[(.int .i64 (.ofNat 3))]])]])]])]),(.tsl 4 1 [[(.int .i64 (.negSucc 0))],[(.int .i64 (.negSucc 0))],[(.int .i64 (.negSucc 0))]]),(.int .i64 (.ofNat 0))]
noncomputable def v69_3:AV:=(.tup [(.tsl 0 2 [[(.int .i64 (.ofNat 1)),(.int .i64 (.ofNat 2))],[(.int .i64 (.ofNat 1)),(.int .i64 (.ofNat 2))]]),(.int .i64 (.ofNat 0))])
theorem r69_3:l8 4 ((sem Gen.q0 20000).call 5 69 a69_3 G.empty)=some v69_3:=by kernel_rfl
noncomputable def tab69:List (List AV×AV):=[(a69_0,v69_0),(a69_1,v69_1),(a69_2,v69_2),(a69_3,v69_3)]
theorem tab69_ok:∀e∈tab69,l8 4 ((sem Gen.q0 20000).call 5 69 e.1 G.empty)=some e.2:=by
 intro e he;simp only[tab69,List.mem_cons,List.not_mem_nil,or_false] at he;rcases he with rfl | rfl | rfl | rfl
 ·exact r69_0
 ·exact r69_1
 ·exact r69_2
 ·exact r69_3
noncomputable def a78_0:List AV:=[(.agg [(.int .i64 (.ofNat 4)),(.tsl 0 3 [[(.int .i64 (.ofNat 2)),.nils,(.tsl 0 1 [[(.tsl 0 1 [[(.int .i64 (.ofNat 2))],[(.int .i64 (.ofNat 2))]])]])],[(.int .i64 (.ofNat 2)),(.tsl 0 1 [[(.int .i64 (.ofNat 0))]]),(.tsl 0 1 [[(.tsl 0 1 [[(.int .i64 (.ofNat 3))],[(.int .i64 (.ofNat 1))]])],[(.tsl 0 1 [[(.int .i64 (.ofNat 1))],[(.int .i64 (.ofNat 3))]])]])],[(.int .i64 (.ofNat 2)),(.tsl 0 1 [[(.int .i64 (.ofNat 0))]]),(.tsl 0 1 [[(.tsl 0 1 [[(.int .i64 (.ofNat 3))],[(.int .i64 (.ofNat 1))]])],[(.tsl 0 1 [[(.int .i64 (.ofNat 1))],[(.int .i64 (.ofNat 3))]])]])]])]),(.tsl 0 1 [[(.int .i64 (.negSucc 0))],[(.int .i64 (.ofNat 1))],[(.int .i64 (.ofNat 1))]])]
noncomputable def v78_0:AV:=(.tup [(.int .i64 (.ofNat 20)),(.int .i64 (.ofNat 0))])
theorem r78_0:l8 4 ((sem Gen.q0 20000).call 5 78 a78_0 G.empty)=some v78_0:=by kernel_rfl
noncomputable def a78_1:List AV:=[(.agg [(.int .i64 (.ofNat 4)),(.tsl 0 3 [[(.int .i64 (.ofNat 2)),.nils,(.tsl 0 1 [[(.tsl 0 1 [[(.int .i64 (.ofNat 2))],[(.int .i64 (.ofNat 2))]])]])],[(.int .i64 (.ofNat 2)),(.tsl 0 1 [[(.int .i64 (.ofNat 0))]]),(.tsl 0 1 [[(.tsl 0 1 [[(.int .i64 (.ofNat 3))],[(.int .i64 (.ofNat 1))]])],[(.tsl 0 1 [[(.int .i64 (.ofNat 1))],[(.int .i64 (.ofNat 3))]])]])],[(.int .i64 (.ofNat 2)),(.tsl 0 1 [[(.int .i64 (.ofNat 0))]]),(.tsl 0 1 [[(.tsl 0 1 [[(.int .i64 (.ofNat 3))],[(.int .i64 (.ofNat 1))]])],[(.tsl 0 1 [[(.int .i64 (.ofNat 1))],[(.int .i64 (.ofNat 3))]])]])]])]),(.tsl 4 1 [[(.int .i64 (.ofNat 1))],[(.int .i64 (.ofNat 1))],[(.int .i64 (.ofNat 1))]])]
noncomputable def v78_1:AV:=(.tup [(.int .i64 (.ofNat 18)),(.int .i64 (.ofNat 0))])
theorem r78_1:l8 4 ((sem Gen.q0 20000).call 5 78 a78_1 G.empty)=some v78_1:=by kernel_rfl
noncomputable def a78_2:List AV:=[(.agg [(.int .i64 (.ofNat 4)),(.tsl 0 3 [[(.int .i64 (.ofNat 2)),.nils,(.tsl 0 1 [[(.tsl 0 1 [[(.int .i64 (.ofNat 2))],[(.int .i64 (.ofNat 2))]])]])],[(.int .i64 (.ofNat 2)),(.tsl 0 1 [[(.int .i64 (.ofNat 0))]]),(.tsl 0 1 [[(.tsl 0 1 [[(.int .i64 (.ofNat 3))],[(.int .i64 (.ofNat 1))]])],[(.tsl 0 1 [[(.int .i64 (.ofNat 1))],[(.int .i64 (.ofNat 3))]])]])],[(.int .i64 (.ofNat 2)),(.tsl 0 1 [[(.int .i64 (.ofNat 0))]]),(.tsl 0 1 [[(.tsl 0 1 [[(.int .i64 (.ofNat 3))],[(.int .i64 (.ofNat 1))]])],[(.tsl 0 1 [[(.int .i64 (.ofNat 1))],[(.int .i64 (.ofNat 3))]])]])]])]),(.tsl 4 1 [[(.int .i64 (.ofNat 0))],[(.int .i64 (.ofNat 1))],[(.int .i64 (.ofNat 1))]])]
noncomputable def v78_2:AV:=(.tup [(.int .i64 (.ofNat 2)),(.int .i64 (.ofNat 0))])
theorem r78_2:l8 4 ((sem Gen.q0 20000).call 5 78 a78_2 G.empty)=some v78_2:=by kernel_rfl
noncomputable def a78_3:List AV:=[(.agg [(.int .i64 (.ofNat 4)),(.tsl 0 3 [[(.int .i64 (.ofNat 2)),.nils,(.tsl 0 1 [[(.tsl 0 1 [[(.int .i64 (.ofNat 2))],[(.int .i64 (.ofNat 2))]])]])],[(.int .i64 (.ofNat 2)),(.tsl 0 1 [[(.int .i64 (.ofNat 0))]]),(.tsl 0 1 [[(.tsl 0 1 [[(.int .i64 (.ofNat 3))],[(.int .i64 (.ofNat 1))]])],[(.tsl 0 1 [[(.int .i64 (.ofNat 1))],[(.int .i64 (.ofNat 3))]])]])],[(.int .i64 (.ofNat 2)),(.tsl 0 1 [[(.int .i64 (.ofNat 0))]]),(.tsl 0 1 [[(.tsl 0 1 [[(.int .i64 (.ofNat 3))],[(.int .i64 (.ofNat 1))]])],[(.tsl 0 1 [[(.int .i64 (.ofNat 1))],[(.int .i64 (.ofNat 3))]])]])]])]),(.tsl 4 1 [[(.int .i64 (.ofNat 0))],[(.int .i64 (.negSucc 0))],[(.int .i64 (.ofNat 1))]])]
noncomputable def v78_3:AV:=(.tup [(.int .i64 (.ofNat 8)),(.int .i64 (.ofNat 0))])
theorem r78_3:l8 4 ((sem Gen.q0 20000).call 5 78 a78_3 G.empty)=some v78_3:=by kernel_rfl
noncomputable def a78_4:List AV:=[(.agg [(.int .i64 (.ofNat 4)),(.tsl 0 3 [[(.int .i64 (.ofNat 2)),.nils,(.tsl 0 1 [[(.tsl 0 1 [[(.int .i64 (.ofNat 2))],[(.int .i64 (.ofNat 2))]])]])],[(.int .i64 (.ofNat 2)),(.tsl 0 1 [[(.int .i64 (.ofNat 0))]]),(.tsl 0 1 [[(.tsl 0 1 [[(.int .i64 (.ofNat 3))],[(.int .i64 (.ofNat 1))]])],[(.tsl 0 1 [[(.int .i64 (.ofNat 1))],[(.int .i64 (.ofNat 3))]])]])],[(.int .i64 (.ofNat 2)),(.tsl 0 1 [[(.int .i64 (.ofNat 0))]]),(.tsl 0 1 [[(.tsl 0 1 [[(.int .i64 (.ofNat 3))],[(.int .i64 (.ofNat 1))]])],[(.tsl 0 1 [[(.int .i64 (.ofNat 1))],[(.int .i64 (.ofNat 3))]])]])]])]),(.tsl 4 1 [[(.int .i64 (.ofNat 1))],[(.int .i64 (.negSucc 0))],[(.int .i64 (.ofNat 1))]])]
noncomputable def v78_4:AV:=(.tup [(.int .i64 (.ofNat 24)),(.int .i64 (.ofNat 0))])
theorem r78_4:l8 4 ((sem Gen.q0 20000).call 5 78 a78_4 G.empty)=some v78_4:=by kernel_rfl
noncomputable def a78_5:List AV:=[(.agg [(.int .i64 (.ofNat 4)),(.tsl 0 3 [[(.int .i64 (.ofNat 2)),.nils,(.tsl 0 1 [[(.tsl 0 1 [[(.int .i64 (.ofNat 2))],[(.int .i64 (.ofNat 2))]])]])],[(.int .i64 (.ofNat 2)),(.tsl 0 1 [[(.int .i64 (.ofNat 0))]]),(.tsl 0 1 [[(.tsl 0 1 [[(.int .i64 (.ofNat 3))],[(.int .i64 (.ofNat 1))]])],[(.tsl 0 1 [[(.int .i64 (.ofNat 1))],[(.int .i64 (.ofNat 3))]])]])],[(.int .i64 (.ofNat 2)),(.tsl 0 1 [[(.int .i64 (.ofNat 0))]]),(.tsl 0 1 [[(.tsl 0 1 [[(.int .i64 (.ofNat 3))],[(.int .i64 (.ofNat 1))]])],[(.tsl 0 1 [[(.int .i64 (.ofNat 1))],[(.int .i64 (.ofNat 3))]])]])]])]),(.tsl 4 1 [[(.int .i64 (.ofNat 0))],[(.int .i64 (.ofNat 1))],[(.int .i64 (.negSucc 0))]])]
noncomputable def v78_5:AV:=(.tup [(.int .i64 (.ofNat 8)),(.int .i64 (.ofNat 0))])
theorem r78_5:l8 4 ((sem Gen.q0 20000).call 5 78 a78_5 G.empty)=some v78_5:=by kernel_rfl
noncomputable def a78_6:List AV:=[(.agg [(.int .i64 (.ofNat 4)),(.tsl 0 3 [[(.int .i64 (.ofNat 2)),.nils,(.tsl 0 1 [[(.tsl 0 1 [[(.int .i64 (.ofNat 2))],[(.int .i64 (.ofNat 2))]])]])],[(.int .i64 (.ofNat 2)),(.tsl 0 1 [[(.int .i64 (.ofNat 0))]]),(.tsl 0 1 [[(.tsl 0 1 [[(.int .i64 (.ofNat 3))],[(.int .i64 (.ofNat 1))]])],[(.tsl 0 1 [[(.int .i64 (.ofNat 1))],[(.int .i64 (.ofNat 3))]])]])],[(.int .i64 (.ofNat 2)),(.tsl 0 1 [[(.int .i64 (.ofNat 0))]]),(.tsl 0 1 [[(.tsl 0 1 [[(.int .i64 (.ofNat 3))],[(.int .i64 (.ofNat 1))]])],[(.tsl 0 1 [[(.int .i64 (.ofNat 1))],[(.int .i64 (.ofNat 3))]])]])]])]),(.tsl 4 1 [[(.int .i64 (.ofNat 1))],[(.int .i64 (.ofNat 1))],[(.int .i64 (.negSucc 0))]])]
noncomputable def v78_6:AV:=(.tup [(.int .i64 (.ofNat 24)),(.int .i64 (.ofNat 0))])
theorem r78_6:l8 4 ((sem Gen.q0 20000).call 5 78 a78_6 G.empty)=some v78_6:=by kernel_rfl
noncomputable def a78_7:List AV:=[(.agg [(.int .i64 (.ofNat 4)),(.tsl 0 3 [[(.int .i64 (.ofNat 2)),.nils,(.tsl 0 1 [[(.tsl 0 1 [[(.int .i64 (.ofNat 2))],[(.int .i64 (.ofNat 2))]])]])],[(.int .i64 (.ofNat 2)),(.tsl 0 1 [[(.int .i64 (.ofNat 0))]]),(.tsl 0 1 [[(.tsl 0 1 [[(.int .i64 (.ofNat 3))],[(.int .i64 (.ofNat 1))]])],[(.tsl 0 1 [[(.int .i64 (.ofNat 1))],[(.int .i64 (.ofNat 3))]])]])],[(.int .i64 (.ofNat 2)),(.tsl 0 1 [[(.int .i64 (.ofNat 0))]]),(.tsl 0 1 [[(.tsl 0 1 [[(.int .i64 (.ofNat 3))],[(.int .i64 (.ofNat 1))]])],[(.tsl 0 1 [[(.int .i64 (.ofNat 1))],[(.int .i64 (.ofNat 3))]])]])]])]),(.tsl 2 1 [[(.int .i64 (.negSucc 0))],[(.int .i64 (.ofNat 1))],[(.int .i64 (.ofNat 0))]])]
noncomputable def v78_7:AV:=(.tup [(.int .i64 (.ofNat 12)),(.int .i64 (.ofNat 0))])
theorem r78_7:l8 4 ((sem Gen.q0 20000).call 5 78 a78_7 G.empty)=some v78_7:=by kernel_rfl
noncomputable def a78_8:List AV:=[(.agg [(.int .i64 (.ofNat 4)),(.tsl 0 3 [[(.int .i64 (.ofNat 2)),.nils,(.tsl 0 1 [[(.tsl 0 1 [[(.int .i64 (.ofNat 2))],[(.int .i64 (.ofNat 2))]])]])],[(.int .i64 (.ofNat 2)),(.tsl 0 1 [[(.int .i64 (.ofNat 0))]]),(.tsl 0 1 [[(.tsl 0 1 [[(.int .i64 (.ofNat 3))],[(.int .i64 (.ofNat 1))]])],[(.tsl 0 1 [[(.int .i64 (.ofNat 1))],[(.int .i64 (.ofNat 3))]])]])],[(.int .i64 (.ofNat 2)),(.tsl 0 1 [[(.int .i64 (.ofNat 0))]]),(.tsl 0 1 [[(.tsl 0 1 [[(.int .i64 (.ofNat 3))],[(.int .i64 (.ofNat 1))]])],[(.tsl 0 1 [[(.int .i64 (.ofNat 1))],[(.int .i64 (.ofNat 3))]])]])]])]),(.tsl 4 1 [[(.int .i64 (.ofNat 1))],[(.int .i64 (.ofNat 1))],[(.int .i64 (.ofNat 0))]])]
noncomputable def v78_8:AV:=(.tup [(.int .i64 (.ofNat 6)),(.int .i64 (.ofNat 0))])
theorem r78_8:l8 4 ((sem Gen.q0 20000).call 5 78 a78_8 G.empty)=some v78_8:=by kernel_rfl
noncomputable def a78_9:List AV:=[(.agg [(.int .i64 (.ofNat 4)),(.tsl 0 3 [[(.int .i64 (.ofNat 2)),.nils,(.tsl 0 1 [[(.tsl 0 1 [[(.int .i64 (.ofNat 2))],[(.int .i64 (.ofNat 2))]])]])],[(.int .i64 (.ofNat 2)),(.tsl 0 1 [[(.int .i64 (.ofNat 0))]]),(.tsl 0 1 [[(.tsl 0 1 [[(.int .i64 (.ofNat 3))],[(.int .i64 (.ofNat 1))]])],[(.tsl 0 1 [[(.int .i64 (.ofNat 1))],[(.int .i64 (.ofNat 3))]])]])],[(.int .i64 (.ofNat 2)),(.tsl 0 1 [[(.int .i64 (.ofNat 0))]]),(.tsl 0 1 [[(.tsl 0 1 [[(.int .i64 (.ofNat 3))],[(.int .i64 (.ofNat 1))]])],[(.tsl 0 1 [[(.int .i64 (.ofNat 1))],[(.int .i64 (.ofNat 3))]])]])]])]),(.tsl 4 1 [[(.int .i64 (.ofNat 0))],[(.int .i64 (.ofNat 1))],[(.int .i64 (.ofNat 0))]])]
noncomputable def v78_9:AV:=(.tup [(.int .i64 (.ofNat 6)),(.int .i64 (.ofNat 0))])
theorem r78_9:l8 4 ((sem Gen.q0 20000).call 5 78 a78_9 G.empty)=some v78_9:=by kernel_rfl
noncomputable def a78_10:List AV:=[(.agg [(.int .i64 (.ofNat 4)),(.tsl 0 3 [[(.int .i64 (.ofNat 2)),.nils,(.tsl 0 1 [[(.tsl 0 1 [[(.int .i64 (.ofNat 2))],[(.int .i64 (.ofNat 2))]])]])],[(.int .i64 (.ofNat 2)),(.tsl 0 1 [[(.int .i64 (.ofNat 0))]]),(.tsl 0 1 [[(.tsl 0 1 [[(.int .i64 (.ofNat 3))],[(.int .i64 (.ofNat 1))]])],[(.tsl 0 1 [[(.int .i64 (.ofNat 1))],[(.int .i64 (.ofNat 3))]])]])],[(.int .i64 (.ofNat 2)),(.tsl 0 1 [[(.int .i64 (.ofNat 0))]]),(.tsl 0 1 [[(.tsl 0 1 [[(.int .i64 (.ofNat 3))],[(.int .i64 (.ofNat 1))]])],[(.tsl 0 1 [[(.int .i64 (.ofNat 1))],[(.int .i64 (.ofNat 3))]])]])]])]),(.tsl 4 1 [[(.int .i64 (.ofNat 0))],[(.int .i64 (.negSucc 0))],[(.int .i64 (.ofNat 0))]])]
noncomputable def v78_10:AV:=(.tup [(.int .i64 (.ofNat 24)),(.int .i64 (.ofNat 0))])
theorem r78_10:l8 4 ((sem Gen.q0 20000).call 5 78 a78_10 G.empty)=some v78_10:=by kernel_rfl
noncomputable def a78_11:List AV:=[(.agg [(.int .i64 (.ofNat 4)),(.tsl 0 3 [[(.int .i64 (.ofNat 2)),.nils,(.tsl 0 1 [[(.tsl 0 1 [[(.int .i64 (.ofNat 2))],[(.int .i64 (.ofNat 2))]])]])],[(.int .i64 (.ofNat 2)),(.tsl 0 1 [[(.int .i64 (.ofNat 0))]]),(.tsl 0 1 [[(.tsl 0 1 [[(.int .i64 (.ofNat 3))],[(.int .i64 (.ofNat 1))]])],[(.tsl 0 1 [[(.int .i64 (.ofNat 1))],[(.int .i64 (.ofNat 3))]])]])],[(.int .i64 (.ofNat 2)),(.tsl 0 1 [[(.int .i64 (.ofNat 0))]]),(.tsl 0 1 [[(.tsl 0 1 [[(.int .i64 (.ofNat 3))],[(.int .i64 (.ofNat 1))]])],[(.tsl 0 1 [[(.int .i64 (.ofNat 1))],[(.int .i64 (.ofNat 3))]])]])]])]),(.tsl 4 1 [[(.int .i64 (.ofNat 1))],[(.int .i64 (.negSucc 0))],[(.int .i64 (.ofNat 0))]])]
noncomputable def v78_11:AV:=(.tup [(.int .i64 (.ofNat 8)),(.int .i64 (.ofNat 0))])
theorem r78_11:l8 4 ((sem Gen.q0 20000).call 5 78 a78_11 G.empty)=some v78_11:=by kernel_rfl
noncomputable def tab78:List (List AV×AV):=[(a78_0,v78_0),(a78_1,v78_1),(a78_2,v78_2),(a78_3,v78_3),(a78_4,v78_4),(a78_5,v78_5),(a78_6,v78_6),(a78_7,v78_7),(a78_8,v78_8),(a78_9,v78_9),(a78_10,v78_10),(a78_11,v78_11)]
theorem tab78_ok:∀e∈tab78,l8 4 ((sem Gen.q0 20000).call 5 78 e.1 G.empty)=some e.2:=by
 intro e he;simp only[tab78,List.mem_cons,List.not_mem_nil,or_false] at he;rcases he with rfl | rfl | rfl | rfl | rfl | rfl | rfl | rfl | rfl | rfl | rfl | rfl
 ·exact r78_0
 ·exact r78_1
 ·exact r78_2
 ·exact r78_3
 ·exact r78_4
 ·exact r78_5
 ·exact r78_6
 ·exact r78_7
 ·exact r78_8
 ·exact r78_9
 ·exact r78_10
 ·exact r78_11
end D4
end
end Go.Proofs.YtikpmbiklokdiaaGreat.Tab
end
namespace Hx
open Go
noncomputable section
end
end Hx
