/- A part of the proof. -/
import Derived.Test.YtikpmbiklokdiaaGreatHx7
set_option linter.all false
set_option maxRecDepth 20000
set_option maxHeartbeats 8000000
namespace Hx
open Go
noncomputable section
end
end Hx
section
namespace Go.Proofs.YtikpmbiklokdiaaGreat.Tab
open Hx
noncomputable section
def I (x:Int):AV:=.int .i64 x
def L (t:Nat)(l:List Int):AV:=.Zs t 1 (l.map λx=>[I x])
def W (l:List (List Int)):AV:=.Zs 0 1 (l.map λr=>[L 0 r])
def net:AV:=.agg [I 4,.Zs 0 3 [[I 2,.Z6,W [[2,2]]],[I 2,L 0 [0],W [[3,1],[1,3]]],[I 2,L 0 [0],W [[3,1],[1,3]]]]]
def A (t:Nat)(l:List Int):List AV:=[net,L t l,I 0]
def B (t:Nat)(l:List Int):List AV:=[net,L t l]
def P (a b c d:Int):AV:=.Zz [.Zs 0 2 [[I a,I b],[I c,I d]],I 0]
def M (m:Int):AV:=.Zz [I m,I 0]
abbrev E (d f:Nat)(a:List AV):Option AV:=V9 d ((Qu Gen.q0 20000).call (Nat.succ d) f a G.empty)
namespace D3
theorem QF:E 3 69 (A 3 [-1,1,1])=some (P 1 10 9 10):=by kernel_rfl
def VI:List (List AV×AV):=[(A 3 [-1,1,1],P 1 10 9 10)]
theorem XS:∀e∈VI,E 3 69 e.1=some e.2:=by intro e he;simp only[VI,List.mem_cons,List.not_mem_nil,or_false] at he;rcases he with rfl;exact QF
theorem SD:E 3 78 (B 0 [-1,1,1])=some (M 20):=by kernel_rfl
def XT:List (List AV×AV):=[(B 0 [-1,1,1],M 20)]
theorem VJ:∀e∈XT,E 3 78 e.1=some e.2:=by intro e he;simp only[XT,List.mem_cons,List.not_mem_nil,or_false] at he;rcases he with rfl;exact SD
end D3
namespace D4
theorem QF:E 4 69 (A 4 [-1,1,1])=some (P 1 10 9 10):=by kernel_rfl
theorem r69_1:E 4 69 (A 4 [-1,-1,1])=some (P 1 4 3 4):=by kernel_rfl
theorem r69_2:E 4 69 (A 4 [-1,1,-1])=some (P 1 4 3 4):=by kernel_rfl
theorem r69_3:E 4 69 (A 4 [-1,-1,-1])=some (P 1 2 1 2):=by kernel_rfl
def VI:List (List AV×AV):=[(A 4 [-1,1,1],P 1 10 9 10),(A 4 [-1,-1,1],P 1 4 3 4),(A 4 [-1,1,-1],P 1 4 3 4),(A 4 [-1,-1,-1],P 1 2 1 2)]
theorem XS:∀e∈VI,E 4 69 e.1=some e.2:=by
 intro e he;simp only[VI,List.mem_cons,List.not_mem_nil,or_false] at he;rcases he with rfl | rfl | rfl | rfl
 ·exact QF
 ·exact r69_1
 ·exact r69_2
 ·exact r69_3
theorem SD:E 4 78 (B 0 [-1,1,1])=some (M 20):=by kernel_rfl
theorem r78_1:E 4 78 (B 4 [1,1,1])=some (M 18):=by kernel_rfl
theorem r78_2:E 4 78 (B 4 [0,1,1])=some (M 2):=by kernel_rfl
theorem r78_3:E 4 78 (B 4 [0,-1,1])=some (M 8):=by kernel_rfl
theorem r78_4:E 4 78 (B 4 [1,-1,1])=some (M 24):=by kernel_rfl
theorem r78_5:E 4 78 (B 4 [0,1,-1])=some (M 8):=by kernel_rfl
theorem r78_6:E 4 78 (B 4 [1,1,-1])=some (M 24):=by kernel_rfl
theorem r78_7:E 4 78 (B 2 [-1,1,0])=some (M 12):=by kernel_rfl
theorem r78_8:E 4 78 (B 4 [1,1,0])=some (M 6):=by kernel_rfl
theorem r78_9:E 4 78 (B 4 [0,1,0])=some (M 6):=by kernel_rfl
theorem RT:E 4 78 (B 4 [0,-1,0])=some (M 24):=by kernel_rfl
theorem U_:E 4 78 (B 4 [1,-1,0])=some (M 8):=by kernel_rfl
def XT:List (List AV×AV):=[(B 0 [-1,1,1],M 20),(B 4 [1,1,1],M 18),(B 4 [0,1,1],M 2),(B 4 [0,-1,1],M 8),(B 4 [1,-1,1],M 24),(B 4 [0,1,-1],M 8),(B 4 [1,1,-1],M 24),(B 2 [-1,1,0],M 12),(B 4 [1,1,0],M 6),(B 4 [0,1,0],M 6),(B 4 [0,-1,0],M 24),(B 4 [1,-1,0],M 8)]
theorem VJ:∀e∈XT,E 4 78 e.1=some e.2:=by
 intro e he;simp only[XT,List.mem_cons,List.not_mem_nil,or_false] at he;rcases he with rfl | rfl | rfl | rfl | rfl | rfl | rfl | rfl | rfl | rfl | rfl | rfl
 ·exact SD
 ·exact r78_1
 ·exact r78_2
 ·exact r78_3
 ·exact r78_4
 ·exact r78_5
 ·exact r78_6
 ·exact r78_7
 ·exact r78_8
 ·exact r78_9
 ·exact RT
 ·exact U_
end D4
end
end Go.Proofs.YtikpmbiklokdiaaGreat.Tab
end
namespace Hx
open Go
noncomputable section
end
end Hx
