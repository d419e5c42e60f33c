/- A part of the proof. -/
import Derived.Test.YteaikmdilmfbeaaGreatRows
import Derived.KernelRfl
import Derived.Test.YteaikmdilmfbeaaGreatHx5
set_option linter.all false
set_option maxRecDepth 20000
set_option maxHeartbeats 8000000
namespace Hx
open Go
noncomputable section
variable {g:G}{v:AV}
end
end Hx
section
namespace Go.Proofs.YteaikmdilmfbeaaGreat.Gen
open Hx
noncomputable def Oc:Xg:={ P:=Tryz.prog,ON:=λf=>Nat.testBit 1474260566420002459681004656182214504914697923220056571903 f,ext:=λ_=>none,V_:=λ_=>none }
def MW:Xa Oc:=Xa.plain (by kernel_rfl) (by kernel_rfl)
noncomputable def R3:Xg:=Oc.add 27 (U_ Oc 1000 1000 27)
def P5:Xa R3:=MW.add (Sg MW)
def Rb:aj (OU R3 20000) 1 G.empty 12 []=.val (.bool true):=by kernel_rfl
noncomputable def Sc:Xg:=Oc.add 12 (C7 (.bool true))
def Jy:Xa Sc:=MW.add (T3.Oc (C:=R3) (C':=Oc) rfl rfl (Nd P5 Rb))
end Go.Proofs.YteaikmdilmfbeaaGreat.Gen
end
namespace Hx
open Go
noncomputable section
variable {g:G}{v:AV}
@[match_pattern,reducible] def XE(x:Int):AV:=.int .i64 x
@[match_pattern,reducible] def Xq(i:Nat):AV:=.W9 i 0 0 0
@[match_pattern,reducible] def R7(x:Int):AV:=.int .u64 x
@[reducible] def Xk (d:Nat)(p:BinOp)(a b:Nat):SI:=o d (.bin p (.t a) (.t b))
@[reducible] def W0 (d:Nat)(p:BinOp)(a:Nat)(z:Int):SI:=o d (.bin p (.t a) (qI z))
@[reducible] def WR (d n a:Nat):SI:=o d (.load true n (.t a))
@[reducible] def OJ (d a i:Nat):SI:=o d (.ext (.t a) i)
@[reducible] def W8 (n a b:Nat):SI:=oz (.store n (.t a) (.t b))
@[reducible] def Ww (d a:Nat):SI:=o d (.Te (.t a))
@[reducible] def SD (d a b:Nat):SI:=o d (.pick (.t a) (.k (.bool true)) (.t b))
@[reducible] def Of (d a b:Nat):SI:=o d (.pick (.t a) (.t b) (.k (.bool false)))
@[reducible] def Wb (d n a b:Nat):SI:=o d (.NQ n (.t a) (.t b))
@[reducible] def WW (d s:Nat)(w:Bool)(a:Nat):SI:=og d s w (.mv (.t a))
@[reducible] def Wc (d s:Nat)(w:Bool)(a:Nat):SI:=og d s w (.load false 1 (.t a))
@[reducible] def Sd (d s:Nat)(w:Bool)(n a:Nat):SI:=og d s w (.fad n (.t a))
@[reducible] def Jb (d s:Nat)(w:Bool)(p:BinOp)(a b:Nat):SI:=og d s w (.bin p (.t a) (.t b))
@[reducible] def Oo (d s:Nat)(w:Bool)(p:BinOp)(a:Nat)(z:Int):SI:=og d s w (.bin p (.t a) (qI z))
@[reducible] def Tc (d s:Nat)(w:Bool)(a:Nat):SI:=og d s w (.len .slice (.t a))
@[reducible] def Wf(d f a:Nat):SI:=o d (.call f [.t a])
@[reducible] def WD(d f a b:Nat):SI:=o d (.call f [.t a,.t b])
@[reducible] def RK(d f a b c:Nat):SI:=o d (.call f [.t a,.t b,.t c])
@[reducible] def QG(d f a b c e:Nat):SI:=o d (.call f [.t a,.t b,.t c,.t e])
@[reducible] def acq(d m n a b:Nat):SI:=o d (.app m n (.t a) (.t b))
@[reducible] def WE(d:Nat)(b:Bool):SI:=o d (.mv (.k (.bool b)))
@[reducible] def Wu(d:Nat):SI:=o d (.mv (.k .XC))
@[reducible] def KF(d:Nat)(p:BinOp)(a:Nat)(k:IntKind)(z:Int):SI:=o d (.bin p (.t a) (.k (.int k z)))
@[reducible] def RH(d a:Nat):SI:=o d (.not (.t a))
@[reducible] def M_(d:Nat)(k:IntKind)(a:Nat):SI:=o d (.conv k (.t a))
@[reducible] def Oj(d s:Nat)(w:Bool)(n a b:Nat):SI:=og d s w (.NQ n (.t a) (.t b))
@[reducible] def KA(d a:Nat):SI:=o d (.NF 1 1 [XE 0] [0] [.t a])
@[reducible] def PL(d a:Nat):SI:=o d (.NF 1 1 [.XC] [0] [.t a])
@[reducible] def Wp(d a:Nat):SI:=o d (.box (.t a))
@[reducible] def acB(d m n a b:Nat):SI:=o d (.Ka m n (.t a) (.t b))
@[reducible] def Wi(a b c d e f:Nat):SC:=.ops [oM a b,oA c d,oM e f]
@[reducible] def WX(a b:Nat):SC:=.cond (.t a) .skip (.exit b)
@[reducible] def Xf(a:Nat)(x y:SC):SC:=.cond (.t a) x y
@[reducible] def Xw(x y:SC):SC:=.seq x y
class Xr where
 xo:Option (Nat->List AV->G->OR)
def C0[i:Xr]:Xg:={ Go.Proofs.YteaikmdilmfbeaaGreat.Gen.Sc with ext:=λk=>ax (Nat.beq k 27) i.xo (Go.Proofs.YteaikmdilmfbeaaGreat.Gen.Sc.ext k) }
def vQ:SC:=sQ [WR 6 3 2,Wf 7 15 6,o 5 (.alloc [XE 0,.XC]),W8 2 5 7] (Xw (.W6 [0,0,0,6,15,31] [WR 8 2 5,WR 9 4 3,WR 10 2 5,WD 11 46 9 10,o 12 (.build [XE 0,.XC,XE 0,.XC] [(0,2),(2,2)] [.t 8,.t 11]),W8 4 4 12]) (.ret))
def tQ:SF:=⟨13,[.cell true 4 4],sQ [Wp 2 0,Wp 3 1,o 4 (.alloc [XE 0,.XC,XE 0,.XC])] vQ⟩
def nk:SC:=Xw (.quiet [oF 7 0 2,WR 8 9 7,WR 9 2 3,WD 10 31 8 9,oF 11 9 2,oL 12 11,oF 13 1 3,oL 14 13,oN 15 14,WD 16 32 12 15,oM 5 10,oM 6 16]) (Xw (.W6 [0,0,3,0,8,0,32,96,224,504,0,2040,0,0,8192,0,32768,98304,229376,516096,1044480,2097151,4194303] [oM 17 5,oM 18 6,o 19 (.build [.XC,.XC] [(0,1),(1,1)] [.t 17,.t 18]),oF 20 10 2,oL 21 20,oF 22 10 2,oL 23 22,oN 24 23,o 25 (.mn (.t 24) (qI 10)),o 26 (.OK 1 (.t 21) [] [.t 25]),oM 27 6,o 28 (.build [.XC,.XC] [(0,1),(1,1)] [.t 26,.t 27]),oM 29 5,oF 30 11 2,oL 31 30,oF 32 11 2,oL 33 32,oN 34 33,o 35 (.mn (.t 34) (qI 10)),o 36 (.OK 1 (.t 31) [] [.t 35]),o 37 (.build [.XC,.XC] [(0,1),(1,1)] [.t 29,.t 36]),o 38 (.build [.XC,.XC,.XC,.XC,.XC,.XC] [(0,2),(2,2),(4,2)] [.t 19,.t 28,.t 37]),W8 6 4 38]) (.ret))
def jY:SF:=⟨39,[.cell true 6 4],sQ [Wp 2 0,Wp 3 1,o 4 (.alloc [.XC,.XC,.XC,.XC,.XC,.XC])] nk⟩
def vZ:SC:=sQ [oM 65 6,oM 66 9,Xk 67 .mul 65 66,oM 6 67] (.W6 [0,1,0,0,12,28,0,127,255,511] [oF 68 1 4,oL 69 68,oM 70 5,oM 71 7,oX 72 70 71,oL 73 72,oM 74 9,Wb 75 3 69 73,oF 76 0 75,W8 1 76 74])
def v_:SC:=sQ [oF 50 0 8,oL 51 50,KF 52 .rem 51 .u8 2,M_ 53 .i64 52,o 54 (.bin .add (qI 2) (.t 53)),oM 9 54] (Xw (sQ [oM 55 6,oM 56 9,Xk 57 .mul 55 56,oM 58 3,W0 59 .sub 58 1,oM 60 7,Xk 61 .sub 59 60,M_ 62 .u64 61,Xk 63 .shl 57 62,W0 64 .gtr 63 100] (Xf 64 (.ops [oK 9 2]) (.skip))) vZ)
def mm:SC:=Wi 38 7 39 38 7 39
def fS:SC:=Xw (sQ [oM 35 7,oM 36 3,Xk 37 .lss 35 36] (WX 37 0)) (Xw (.blk 1 (sQ [o 8 (.alloc [.int .u8 0,.int .u8 0,.XC])] (Xw (sQ [oM 40 7,oF 41 1 1,oL 42 41,oN 43 42,Xk 44 .lss 40 43] (Xf 44 (.ops [oF 45 1 1,oL 46 45,oM 47 7,Wb 48 3 46 47,WR 49 3 48,W8 3 8 49]) (.skip))) v_))) mm)
def mo:SC:=Wi 104 14 105 104 14 105
def fT:SC:=Xw (sQ [oM 101 14,oM 102 10,Xk 103 .lss 101 102] (WX 103 6)) (Xw (.blk 7 (sQ [oM 106 5,oM 107 14,oX 108 106 107,oL 109 108,oM 110 13,Xk 111 .eql 109 110,oM 112 111,Sd 113 112 true 1 11,Wc 114 112 true 113,WW 115 112 true 14,og 116 112 true (.conv .u64 (.t 115)),Jb 117 112 true .shr 114 116,og 118 112 true (.bin .and (.t 117) (.k (.int .u8 1))),og 119 112 true (.bin .eql (.t 118) (.k (.int .u8 1))),Of 120 112 119,oM 121 120,Sd 122 121 true 1 4,Wc 123 121 true 122,WW 124 121 true 12,Oj 125 121 true 3 123 124,Sd 126 121 true 1 125,Wc 127 121 true 126,Tc 128 121 true 127,Oo 129 121 true .lss 128 3,Of 130 121 129] (Xf 130 (.W6 [0,1,0,0,8,0,56,120,248,0,512,2040,4095,8191,16383] [oF 131 1 4,oL 132 131,oM 133 12,oF 134 1 4,oL 135 134,oM 136 12,Wb 137 3 135 136,oF 138 1 137,oL 139 138,oM 140 13,KA 141 140,acq 142 1 8 139 141,Wb 143 3 132 133,oF 144 1 143,W8 1 144 142]) (.skip)))) mo)
def mq:SC:=Wi 99 13 100 99 13 100
def fU:SC:=Xw (sQ [oM 96 13,oM 97 3,Xk 98 .lss 96 97] (WX 98 4)) (Xw (.blk 5 (sQ [oK 14 0] (.blk 6 (.loop fT)))) mq)
def fV:SC:=Xw (sQ [oM 145 15,WR 146 2 4,oM 147 12,WD 148 49 146 147,Wf 149 48 148,Xk 150 .lss 145 149] (WX 150 8)) (Xw (.blk 9 (.W6 [0,1,0,0,8,0,56,120,248,0,512,0,2048,0,14336,30720,63488,0,131072,0,0,1048576,0,7340032,15728640,32505856,66060288,133693440,268434944,536870400,1073741816,2147483647,4294967295,8589934591] [oF 153 1 4,oL 154 153,oM 155 12,oF 156 1 4,oL 157 156,oM 158 12,Wb 159 3 157 158,oF 160 2 159,oL 161 160,oF 162 0 4,oL 163 162,oF 164 1 4,oL 165 164,oM 166 12,Wb 167 3 165 166,oF 168 0 167,oL 169 168,oF 170 2 11,oL 171 170,oM 172 15,oF 173 1 4,oL 174 173,oM 175 12,Wb 176 3 174 175,oF 177 0 176,oL 178 177,oA 179 178,Xk 180 .mul 172 179,QG 181 50 163 169 171 180,PL 182 181,acq 183 1 24 161 182,Wb 184 3 154 155,oF 185 2 184,W8 1 185 183])) (Wi 151 15 152 151 15 152))
def mr:SC:=sQ [oK 15 0] (.blk 8 (.loop fV))
def kW:SC:=sQ [oM 92 5,oM 93 10,oX 94 92 93,oL 95 94,oM 12 95] (Xw (sQ [oK 13 0] (.blk 4 (.loop fU))) mr)
def kX:SC:=Wi 80 10 81 80 10 81
def fC:SC:=Xw (sQ [oM 77 10,oM 78 3,Xk 79 .lss 77 78] (WX 79 2)) (Xw (.blk 3 (sQ [o 11 (.alloc [.int .u8 0,.int .u8 0,.XC])] (Xw (sQ [oM 82 10,oF 83 1 1,oL 84 83,oN 85 84,Xk 86 .lss 82 85] (Xf 86 (.ops [oF 87 1 1,oL 88 87,oM 89 10,Wb 90 3 88 89,WR 91 3 90,W8 3 11 91]) (.skip))) kW))) kX)
def kY:SC:=sQ [WR 186 2 4,W8 2 2 186] (.ret)
def kZ:SC:=Xw (sQ [oK 10 0] (.blk 2 (.loop fC))) kY
def nm:SC:=sQ [oF 16 1 1,oL 17 16,oN 18 17,o 19 (.mx (.t 18) (qI 1)),o 20 (.mn (.t 19) (qI 5)),oM 3 20] (Xw (.W6 [0,1,3,7,15,0,32,127,0,511] [oF 21 0 1,oL 22 21,KF 23 .rem 22 .u8 60,M_ 24 .i64 23,o 25 (.bin .add (qI 1) (.t 24)),oM 26 3,o 27 (.VF 3 56 [XE 0,.XC,.XC] (.t 26) (.t 26)),o 28 (.build [XE 0,.XC] [(0,1),(1,1)] [.t 25,.t 27]),o 4 (.alloc [XE 0,.XC]),W8 2 4 28]) (Xw (.W6 [0,1,0,4,15,31,63] [oM 29 3,o 30 (.VF 1 1 [.int .u8 0] (.t 29) (.t 29)),oF 31 2 1,oL 32 31,o 33 (.build [.XC,.int .u16 0,.XC] [(0,1),(2,1)] [.t 30,.t 32]),Wf 34 47 33,oM 5 34]) (sQ [oK 6 1] (Xw (sQ [oK 7 0] (.blk 0 (.loop fS))) kZ))))
def kj:SF:=⟨187,[.cell true 2 2],sQ [Wp 1 0,o 2 (.alloc [XE 0,.XC])] nm⟩
def l8:SC:=Xw (sQ [WR 12 2 3,oM 13 1,oM 14 2,RK 15 20 12 13 14,oM 9 15] (sQ [oM 16 9,W0 17 .neq 16 0] (Xf 17 (sQ [o 18 (.build [XE 0,XE 0] [] []),oM 19 9,Wu 6,W8 2 7 18,oM 8 19] (.ret)) (.skip)))) (sQ [WR 20 2 3,oM 21 1,WD 22 54 20 21,oM 10 22] (Xw (sQ [oM 23 10,W0 24 .eql 23 0] (Xf 24 (sQ [o 25 (.build [XE 0,XE 0] [] []),Wu 6,W8 2 7 25,oK 8 7] (.ret)) (.skip))) (sQ [WR 26 2 3,oM 27 1,oM 28 2,RK 29 55 26 27 28,oM 11 29] (sQ [oM 30 11,WR 31 2 3,oM 32 1,oM 33 2,oM 34 11,QG 35 56 31 32 33 34,oM 36 10,WD 37 40 35 36,oM 6 30,W8 2 7 37,oK 8 0] (.ret)))))
def my:SF:=⟨38,[.tm 6,.cell true 2 7,.tm 8],sQ [Wp 3 0,Wu 6,o 7 (.alloc [XE 0,XE 0]),oK 8 0] l8⟩
def jE:SC:=sQ [Xk 14 .lss 13 12] (Xw (WX 14 0) (Xw (.blk 1 (sQ [oM 15 13,oM 5 15] (Xw (.quiet [oM 16 0,oM 17 5,oX 18 16 17,oL 19 18,oM 20 1,oM 21 5,oX 22 20 21,oL 23 22,Xk 24 .neq 19 23]) (Xf 24 (sQ [WE 4 false] (.ret)) (.skip))))) (.ops [oA 25 13,oM 13 25])))
def jF:SC:=sQ [WE 4 true] (.ret)
def dU:SF:=⟨26,[.tm 4],sQ [WE 4 false] (Xw (sQ [oM 6 0,oN 7 6,oM 8 1,oN 9 8,Xk 10 .neq 7 9] (Xf 10 (sQ [WE 4 false] (.ret)) (.skip))) (Xw (sQ [oM 11 0,oN 12 11,oK 13 0] (.blk 0 (.loop jE))) jF))⟩
def gw:SC:=Xw (sQ [WR 8 2 3,oM 9 1,WD 10 59 8 9,oM 7 10] (sQ [oM 11 7,W0 12 .neq 11 0] (Xf 12 (sQ [oM 13 7,oM 6 13] (.ret)) (.skip)))) (Xw (sQ [oM 14 2,oF 15 1 3,oL 16 15,oN 17 16,WD 18 60 14 17,RH 19 18] (Xf 19 (sQ [oK 6 2] (.ret)) (.skip))) (sQ [oK 6 0] (.ret)))
def fW:SF:=⟨20,[.tm 6],sQ [Wp 3 0,oK 6 0] gw⟩
def ig:SC:=Xw (sQ [oM 7 2,oN 8 7,oM 9 1,oN 10 9,Xk 11 .gtr 8 10] (Xf 11 (sQ [WE 6 false] (.ret)) (.skip))) (Xw (.quiet [WR 12 2 3,oM 13 1,oM 14 2,oN 15 14,o 16 (.OK 1 (.t 13) [] [.t 15]),WD 17 62 12 16,oM 18 2,WD 19 61 17 18,oM 6 19]) (.ret))
def fJ:SF:=⟨20,[.tm 6],sQ [Wp 3 0,WE 6 false] ig⟩
def sG:SC:=Xw (sQ [oM 26 12,oM 27 2,oN 28 27,Xk 29 .lss 26 28] (WX 29 2)) (Xw (.blk 3 (.ops [oM 32 11,oM 33 32,WW 34 33 false 2,WW 35 33 false 12,Oj 36 33 false 1 34 35,Wc 37 33 false 36,WW 38 33 false 10,Jb 39 33 false .eql 37 38,SD 40 33 39,oM 11 40])) (Wi 30 12 31 30 12 31))
def lP:SC:=sQ [oM 41 11,RH 42 41] (Xf 42 (.ops [oM 43 9,oM 44 10,KA 45 44,acq 46 1 8 43 45,oM 9 46]) (.skip))
def sJ:SC:=Wi 24 10 25 24 10 25
def lM:SC:=Xw (sQ [oM 19 10,oF 20 1 4,oL 21 20,oN 22 21,Xk 23 .lss 19 22] (WX 23 0)) (Xw (.blk 1 (sQ [WE 11 false] (Xw (sQ [oK 12 0] (.blk 2 (.loop sG))) lP))) sJ)
def sK:SC:=Wi 56 14 57 56 14 57
def sH:SC:=Xw (sQ [oM 52 14,WR 53 2 4,Wf 54 63 53,Xk 55 .lss 52 54] (WX 55 4)) (Xw (.blk 5 (sQ [WR 58 2 4,oM 59 14,WD 60 64 58 59,oM 15 60] (sQ [oM 61 15,oM 62 1,WD 63 65 61 62,oM 64 63,WW 65 64 true 15,WW 66 64 true 2,WW 67 64 true 3,og 68 64 true (.call 66 [.t 65,.t 66,.t 67]),Of 69 64 68] (Xf 69 (sQ [WR 70 2 4,oM 71 9,WD 72 62 70 71,oM 73 15,oM 74 9,WD 75 68 73 74,WD 76 67 72 75,oM 16 76] (.W6 [0,0,0,0,12,28,0,0,192,508,1023,2047] [oM 77 13,oM 78 16,oM 79 13,oM 80 16,oX 81 79 80,oL 82 81,WR 83 2 4,oM 84 14,WD 85 69 83 84,o 86 (.mx (.t 82) (.t 85)),oX 87 77 78,W8 1 87 86])) (.skip))))) sK)
def sI:SC:=Xw (sQ [oM 88 18,oM 89 13,oN 90 89,Xk 91 .lss 88 90] (WX 91 6)) (Xw (.blk 7 (.ops [oM 94 17,oM 95 13,oM 96 18,oX 97 95 96,oL 98 97,Xk 99 .add 94 98,oM 17 99])) (Wi 92 18 93 92 18 93))
def sL:SC:=sQ [oM 100 17,oM 8 100] (.ret)
def sM:SC:=sQ [oK 17 0] (Xw (sQ [oK 18 0] (.blk 6 (.loop sI))) sL)
def sN:SC:=sQ [WR 47 2 4,oM 48 9,WD 49 62 47 48,Wf 50 48 49,o 51 (.VF 1 8 [XE 0] (.t 50) (.t 50)),oM 13 51] (Xw (sQ [oK 14 0] (.blk 4 (.loop sH))) sM)
def uQ:SC:=sQ [Wu 9] (Xw (sQ [oK 10 0] (.blk 0 (.loop lM))) sN)
def qU:SF:=⟨101,[.tm 8],sQ [Wp 4 0,oK 8 0] uQ⟩
def dK:SC:=Xw (sQ [WR 12 2 5,oM 13 1,oM 14 2,RK 15 20 12 13 14,oM 11 15] (sQ [oM 16 11,W0 17 .neq 16 0] (Xf 17 (sQ [oM 18 11,oM 10 18] (.ret)) (.skip)))) (Xw (sQ [oM 19 3,oN 20 19,oM 21 2,oN 22 21,Xk 23 .neq 20 22,oM 24 23,og 25 24 false (.load true 2 (.t 5)),WW 26 24 false 2,WW 27 24 false 3,og 28 24 false (.call 21 [.t 25,.t 26,.t 27]),og 29 24 false (.not (.t 28)),SD 30 24 29] (Xf 30 (sQ [oK 10 2] (.ret)) (.skip))) (Xw (sQ [WR 31 2 5,oM 32 1,oM 33 2,oM 34 3,oM 35 4,o 36 (.call 45 [.t 31,.t 32,.t 33,.t 34,.t 35]),RH 37 36] (Xf 37 (sQ [oK 10 190] (.ret)) (.skip))) (sQ [oK 10 0] (.ret))))
def d0:SF:=⟨38,[.tm 10],sQ [Wp 5 0,oK 10 0] dK⟩
def oQ:SC:=Xw (Xw (.quiet [oM 59 11,oF 60 1 3,oL 61 60,oM 62 1,oM 63 8,oX 64 62 63,oL 65 64,Wb 66 3 61 65,oF 67 0 66,oL 68 67,Xk 69 .lss 59 68]) (WX 69 4)) (Xw (.blk 5 (sQ [Wu 12] (.ops [oM 72 9,oM 73 12,oM 74 7,oM 75 10,oX 76 74 75,oL 77 76,acq 78 1 8 73 77,oM 79 11,KA 80 79,acq 81 1 8 78 80,PL 82 81,acq 83 1 24 72 82,oM 9 83]))) (Wi 70 11 71 70 11 71))
def wz:SC:=Wi 24 10 25 24 10 25
def oR:SC:=Xw (sQ [oM 20 10,oM 21 7,oN 22 21,Xk 23 .lss 20 22] (WX 23 2)) (Xw (.blk 3 (Xw (sQ [oM 26 7,oM 27 10,oX 28 26 27,oL 29 28,oN 30 29,oM 31 8,Xk 32 .lss 30 31,oM 33 32,WW 34 33 false 2,Tc 35 33 false 34,Oo 36 33 false .gtr 35 0,WW 37 33 false 36,WW 38 37 true 2,WW 39 37 true 10,WW 40 37 true 8,og 41 37 true (.bin .mul (qI 3) (.t 40)),Jb 42 37 true .add 39 41,WW 43 37 true 2,Tc 44 37 true 43,Jb 45 37 true .rem 42 44,Oj 46 37 true 1 38 45,Wc 47 37 true 46,og 48 37 true (.bin .rem (.t 47) (.k (.int .u8 4))),og 49 37 true (.bin .eql (.t 48) (.k (.int .u8 0))),og 50 33 false (.pick (.t 37) (.t 49) (.k (.bool false))),SD 51 33 50] (Xf 51 (sQ [oM 52 9,oM 53 7,oM 54 10,oX 55 53 54,oL 56 55,PL 57 56,acq 58 1 24 52 57,oM 9 58] (.exit 3)) (.skip))) (sQ [oK 11 0] (.blk 4 (.loop oQ))))) wz)
def wA:SC:=.ops [oM 84 9,oM 7 84]
def wB:SC:=Wi 18 8 19 18 8 19
def wy:SC:=Xw (sQ [oM 14 8,oM 15 1,oN 16 15,Xk 17 .lss 14 16] (WX 17 0)) (Xw (.blk 1 (sQ [Wu 9] (Xw (sQ [oK 10 0] (.blk 2 (.loop oR))) wA))) wB)
def wC:SC:=sQ [oM 85 7,oM 6 85] (.ret)
def xY:SC:=sQ [o 13 (.NF 1 1 [.XC] [0] [.k (.XC)]),oM 7 13] (Xw (sQ [oK 8 0] (.blk 0 (.loop wy))) wC)
def wx:SF:=⟨86,[.tm 6],sQ [Wp 3 0,Wu 6] xY⟩
def jm:SC:=Xw (sQ [oM 9 6,oM 10 1,oN 11 10,Xk 12 .lss 9 11] (WX 12 0)) (Xw (.blk 1 (sQ [Wu 7] (.ops [oM 15 5,oM 16 7,oM 17 1,oM 18 6,oX 19 17 18,oL 20 19,acq 21 1 8 16 20,PL 22 21,acq 23 1 24 15 22,oM 5 23]))) (Wi 13 6 14 13 6 14))
def bL:SC:=sQ [oM 115 5,oM 4 115] (.ret)
def oP:SC:=Xw (sQ [oM 24 5,oN 25 24,W0 26 .eql 25 0] (Xf 26 (sQ [oM 27 5,oM 4 27] (.ret)) (.skip))) (sQ [oF 28 1 2,oL 29 28,M_ 30 .i64 29,oM 31 5,oN 32 31,Xk 33 .rem 30 32,oM 8 33] (Xw (sQ [oF 34 0 2,oL 35 34,KF 36 .rem 35 .u8 6] (.blk 2 (sQ [KF 38 .eql 36 .u8 0,oM 37 38] (Xf 37 (.ops [oM 39 5,oM 40 5,oM 41 8,oX 42 40 41,oL 43 42,PL 44 43,acq 45 1 24 39 44,oM 5 45]) (sQ [KF 47 .eql 36 .u8 1,oM 46 47] (Xf 46 (.W6 [0,0,3,0,0,16,56,127,255] [oM 48 5,oM 49 8,o 50 (.OK 1 (.t 48) [] [.t 49]),oM 51 5,oM 52 8,oA 53 52,o 54 (.OK 1 (.t 51) [.t 53] []),acq 55 1 24 50 54,oM 5 55]) (sQ [KF 57 .eql 36 .u8 2,oM 56 57] (Xf 56 (sQ [oM 58 5,oM 59 8,oX 60 58 59,oL 61 60,oN 62 61,W0 63 .gtr 62 0] (Xf 63 (.W6 [0,0,0,0,12,28,0,0,192,448,960,1984,4092,8191,16383] [oM 64 5,oM 65 8,oM 66 5,oM 67 8,oX 68 66 67,oL 69 68,oM 70 5,oM 71 8,oX 72 70 71,oL 73 72,oN 74 73,W0 75 .sub 74 1,o 76 (.OK 1 (.t 69) [] [.t 75]),oX 77 64 65,W8 1 77 76]) (.skip))) (sQ [KF 79 .eql 36 .u8 3,oM 78 79] (Xf 78 (.W6 [0,0,0,0,12,28,0,64,192,508,1023,2047] [oM 80 5,oM 81 8,oM 82 5,oM 83 8,oX 84 82 83,oL 85 84,oF 86 3 2,oL 87 86,KA 88 87,acq 89 1 8 85 88,oX 90 80 81,W8 1 90 89]) (sQ [KF 92 .eql 36 .u8 4,oM 91 92] (Xf 91 (sQ [oM 93 5,oM 94 8,oX 95 93 94,oL 96 95,oN 97 96,W0 98 .gtr 97 0] (Xf 98 (.W6 [0,0,3,7,0,16,48,0,0,384,896,1920,4080,0,8192,32767,65535] [oM 99 5,oM 100 8,oX 101 99 100,oL 102 101,oF 103 2 2,oL 104 103,M_ 105 .i64 104,oM 106 5,oM 107 8,oX 108 106 107,oL 109 108,oN 110 109,Xk 111 .rem 105 110,oF 112 3 2,oL 113 112,oX 114 102 111,W8 1 114 113]) (.skip))) (.ops [Wu 5]))))))))))))) bL))
def pZ:SC:=sQ [Wu 5] (Xw (sQ [oK 6 0] (.blk 0 (.loop jm))) oP)
def mX:SF:=⟨116,[.tm 4],sQ [Wp 2 0,Wu 4] pZ⟩
def ic:SC:=.ops [oM 34 5,oM 35 7,KA 36 35,acq 37 1 8 34 36,oM 5 37]
def xP:SC:=Wi 13 6 14 13 6 14
def xO:SC:=Xw (sQ [oM 8 6,oF 9 1 3,oL 10 9,oN 11 10,Xk 12 .lss 8 11] (WX 12 0)) (Xw (.blk 1 (sQ [oK 7 (-1)] (Xw (sQ [oF 15 0 2,oL 16 15,oM 17 6,M_ 18 .u64 17,Xk 19 .shr 16 18,KF 20 .and 19 .u8 1,KF 21 .eql 20 .u8 1] (Xf 21 (.quiet [oM 22 6,oF 23 1 2,acB 24 8 1 23 22,oL 25 24,M_ 26 .i64 25,oF 27 1 3,oL 28 27,oM 29 6,Wb 30 3 28 29,oF 31 0 30,oL 32 31,Xk 33 .rem 26 32,oM 7 33]) (.skip))) ic))) xP)
def ny:SC:=sQ [oM 38 5,oM 4 38] (.ret)
def oB:SC:=sQ [Wu 5] (Xw (sQ [oK 6 0] (.blk 0 (.loop xO))) ny)
def lI:SF:=⟨39,[.tm 4],sQ [Wp 2 0,Wp 3 1,Wu 4] oB⟩
def sP:SC:=Wi 14 6 15 14 6 15
def sO:SC:=Xw (sQ [oM 7 6,oM 8 1,Xk 9 .lss 7 8,oM 10 9,WW 11 10 true 6,Oo 12 10 true .lss 11 8,Of 13 10 12] (WX 13 0)) (Xw (.blk 1 (sQ [oM 16 0,oM 17 6,M_ 18 .u64 17,Xk 19 .shr 16 18,KF 20 .and 19 .u8 1,KF 21 .eql 20 .u8 1] (Xf 21 (.ops [oM 22 5,oM 23 6,KA 24 23,acq 25 1 8 22 24,oM 5 25]) (.skip)))) sP)
def sR:SC:=sQ [oM 26 5,oM 4 26] (.ret)
def qV:SF:=⟨27,[.tm 4],sQ [Wu 4] (sQ [Wu 5] (Xw (sQ [oK 6 0] (.blk 0 (.loop sO))) sR))⟩
def dT:SF:=⟨8,[.tm 2],sQ [Wu 2] (Xw (sQ [oM 3 0,o 4 (.eq false .slice (.t 3) (.k (.XC)))] (Xf 4 (sQ [Wu 2] (.ret)) (.skip))) (sQ [o 5 (.NF 1 0 [XE 0] [] []),oM 6 0,acq 7 1 8 5 6,oM 2 7] (.ret)))⟩
def zH:SC:=sQ [oM 8 0,oM 9 1,WD 10 85 8 9,oM 7 10,OJ 11 7 0,OJ 12 7 1,o 5 (.alloc [XE 0,XE 0]),W8 2 5 11,oM 6 12] (sQ [WR 13 2 5,W8 2 4 13] (.ret))
def yF:SF:=⟨14,[.cell true 2 4],sQ [o 4 (.alloc [XE 0,XE 0])] zH⟩
def ko:SC:=Xw (sQ [oM 25 12,oM 26 4,oN 27 26,Xk 28 .lss 25 27] (WX 28 0)) (Xw (.blk 1 (Xw (.quiet [WR 31 2 5,oM 32 2,oM 33 4,oM 34 12,oX 35 33 34,oL 36 35,RK 37 21 31 32 36,RH 38 37]) (Xf 38 (sQ [WE 10 false] (.ret)) (.skip)))) (Wi 29 12 30 29 12 30))
def p_:SC:=Wi 53 16 54 53 16 54
def ku:SC:=Xw (sQ [oM 49 16,oM 50 4,oN 51 50,Xk 52 .lss 49 51] (WX 52 4)) (Xw (.blk 5 (Xw (.quiet [oM 55 4,oM 56 16,oX 57 55 56,oL 58 57,oM 59 13,oM 60 14,oX 61 59 60,oL 62 61,oM 63 4,oM 64 16,oX 65 63 64,oL 66 65,oN 67 66,o 68 (.OK 1 (.t 62) [] [.t 67]),WD 69 90 58 68,W0 70 .eql 69 0]) (Xf 70 (Wi 71 15 72 71 15 72) (.skip)))) p_)
def kC:SC:=sQ [oM 73 15,W0 74 .neq 73 1] (Xf 74 (sQ [WE 10 false] (.ret)) (.skip))
def qa:SC:=Wi 47 14 48 47 14 48
def ky:SC:=Xw (sQ [oM 43 14,oM 44 13,oN 45 44,Xk 46 .lss 43 45] (WX 46 2)) (Xw (.blk 3 (sQ [oK 15 0] (Xw (sQ [oK 16 0] (.blk 4 (.loop ku))) kC))) qa)
def kA:SC:=Xw (sQ [oM 75 17,oM 76 4,oN 77 76,Xk 78 .lss 75 77] (WX 78 6)) (Xw (.blk 7 (sQ [oM 81 4,oM 82 17,oX 83 81 82,oL 84 83,oM 18 84] (Xw (sQ [oM 85 18,oN 86 85,oM 87 3,oN 88 87,Xk 89 .eql 86 88,oM 90 89,WW 91 90 true 18,WW 92 90 true 3,og 93 90 true (.call 90 [.t 91,.t 92]),Oo 94 90 true .eql 93 0,Of 95 90 94] (Xf 95 (.exit 7) (.skip))) (sQ [WR 96 2 5,oM 97 1,oM 98 2,oM 99 18,QG 100 22 96 97 98 99,oM 19 100] (sQ [oM 101 19,oM 102 11,Xk 103 .gtr 101 102,oM 104 103,WW 105 104 false 19,WW 106 104 false 11,Jb 107 104 false .eql 105 106,WW 108 104 false 107,WW 109 108 true 18,WW 110 108 true 3,WW 111 108 true 18,Tc 112 108 true 111,og 113 108 true (.OK 1 (.t 110) [] [.t 112]),og 114 108 true (.call 90 [.t 109,.t 113]),Oo 115 108 true .leq 114 0,og 116 104 false (.pick (.t 108) (.t 115) (.k (.bool false))),SD 117 104 116] (Xf 117 (sQ [WE 10 false] (.ret)) (.skip))))))) (Wi 79 17 80 79 17 80))
def qb:SC:=sQ [WE 10 true] (.ret)
def qc:SC:=Xw (sQ [oK 17 0] (.blk 6 (.loop kA))) qb
def qd:SC:=sQ [WR 39 2 5,oM 40 2,WD 41 62 39 40,Wf 42 89 41,oM 13 42] (Xw (sQ [oK 14 0] (.blk 2 (.loop ky))) qc)
def sS:SC:=sQ [WR 20 2 5,oM 21 1,oM 22 2,oM 23 3,QG 24 56 20 21 22 23,oM 11 24] (Xw (sQ [oK 12 0] (.blk 0 (.loop ko))) qd)
def oS:SF:=⟨118,[.tm 10],sQ [Wp 5 0,WE 10 false] sS⟩
def jg:SC:=Xw (sQ [oM 39 8,oF 40 1 3,oL 41 40,oM 42 6,Wb 43 3 41 42,oF 44 2 43,oL 45 44,oN 46 45,Xk 47 .lss 39 46] (WX 47 2)) (Xw (.blk 3 (sQ [Wu 9] (.W6 [0,1,0,0,8,0,56,120,248,0,1016,2040,4092,8188,16383,32767,65535] [oF 50 2 7,oL 51 50,oM 52 9,oF 53 1 3,oL 54 53,oM 55 6,Wb 56 3 54 55,oF 57 2 56,oL 58 57,oM 59 8,oX 60 58 59,oL 61 60,acq 62 1 8 52 61,PL 63 62,acq 64 1 24 51 63,oF 65 2 7,W8 1 65 64]))) (Wi 48 8 49 48 8 49))
def ox:SC:=.ops [oM 66 5,WR 67 3 7,o 68 (.NF 3 1 [XE 0,.XC,.XC] [0] [.t 67]),acq 69 3 56 66 68,oM 5 69]
def oy:SC:=Wi 20 6 21 20 6 21
def jh:SC:=Xw (sQ [oM 15 6,oF 16 1 3,oL 17 16,oN 18 17,Xk 19 .lss 15 18] (WX 19 0)) (Xw (.blk 1 (sQ [oF 22 1 3,oL 23 22,oM 24 6,Wb 25 3 23 24,oF 26 0 25,oL 27 26,o 28 (.build [XE 0,.XC,.XC] [(0,1)] [.t 27]),o 7 (.alloc [XE 0,.XC,.XC]),W8 3 7 28] (Xw (.W6 [0,1,0,4,0,28,60,124,255,511,1023] [oF 29 1 7,oL 30 29,oF 31 1 3,oL 32 31,oM 33 6,Wb 34 3 32 33,oF 35 1 34,oL 36 35,acq 37 1 8 30 36,oF 38 1 7,W8 1 38 37]) (Xw (sQ [oK 8 0] (.blk 2 (.loop jg))) ox)))) oy)
def eQ:SC:=Xw (sQ [oM 264 12,oM 265 13,Xk 266 .lss 264 265] (WX 266 5)) (Xw (.blk 6 (sQ [oM 269 10,Ww 270 269,oF 271 2 270,oL 272 271,oM 273 11,oX 274 272 273,oL 275 274,oM 276 12,oX 277 275 276,oL 278 277,oM 14 278] (Xw (.W6 [0,1,3,7,0,31,63,0,0,256,768,1792,0,7936,16128,0,65280,130816,262143,524287] [oM 279 10,Ww 280 279,oF 281 2 280,oL 282 281,oM 283 11,oX 284 282 283,oL 285 284,oM 286 12,oM 287 10,Ww 288 287,oF 289 2 288,oL 290 289,oM 291 11,oX 292 290 291,oL 293 292,oM 294 13,oX 295 293 294,oL 296 295,oX 297 285 286,W8 1 297 296]) (sQ [oM 298 10,Ww 299 298,oF 300 2 299,oL 301 300,oM 302 11,oX 303 301 302,oL 304 303,oM 305 13,oM 306 14,oX 307 304 305,W8 1 307 306] (.ops [oM 308 13,W0 309 .sub 308 1,oM 13 309]))))) (Wi 267 12 268 267 12 268))
def eR:SC:=sQ [WR 322 2 3,W8 2 4 322] (.ret)
def ji:SC:=Xw (sQ [oF 99 0 2,oL 100 99,KF 101 .rem 100 .u8 12] (.blk 4 (sQ [KF 111 .eql 101 .u8 0,oM 110 111] (Xf 110 (.ops [oF 112 3 2,oL 113 112,oF 114 0 3,W8 1 114 113]) (sQ [KF 116 .eql 101 .u8 1,oM 115 116] (Xf 115 (.ops [oM 117 10,oF 118 3 2,oL 119 118,Ww 120 117,oF 121 0 120,W8 1 121 119]) (sQ [KF 123 .eql 101 .u8 2,oM 122 123] (Xf 122 (.W6 [0,0,2,6,14,0,32,96,254,511,1023,2047] [oM 124 10,oM 125 10,Ww 126 125,oF 127 1 126,oL 128 127,oF 129 3 2,oL 130 129,KA 131 130,acq 132 1 8 128 131,Ww 133 124,oF 134 1 133,W8 1 134 132]) (sQ [KF 136 .eql 101 .u8 3,oM 135 136] (Xf 135 (.ops [oM 137 10,Ww 138 137,oF 139 1 138,oz (.store 1 (.t 139) (.k (.XC)))]) (sQ [KF 141 .eql 101 .u8 4,oM 140 141] (Xf 140 (.W6 [0,0,2,6,14,0,32,96,224,510,1023,2047,4095] [oM 142 10,oM 143 10,Ww 144 143,oF 145 2 144,oL 146 145,oF 147 3 2,oL 148 147,KA 149 148,PL 150 149,acq 151 1 24 146 150,Ww 152 142,oF 153 2 152,W8 1 153 151]) (sQ [KF 155 .eql 101 .u8 5,oM 154 155] (Xf 154 (sQ [oM 156 11,W0 157 .geq 156 0] (Xf 157 (.ops [oM 158 10,oM 159 10,Ww 160 159,oF 161 2 160,oL 162 161,oM 163 11,o 164 (.OK 1 (.t 162) [] [.t 163]),Ww 165 158,oF 166 2 165,W8 1 166 164]) (.skip))) (sQ [KF 168 .eql 101 .u8 6,oM 167 168] (Xf 167 (sQ [oM 169 11,W0 170 .geq 169 0,oM 171 170,WW 172 171 true 10,og 173 171 true (.Te (.t 172)),Sd 174 171 true 2 173,Wc 175 171 true 174,WW 176 171 true 11,Oj 177 171 true 1 175 176,Wc 178 171 true 177,Tc 179 171 true 178,Oo 180 171 true .gtr 179 0,Of 181 171 180] (Xf 181 (.W6 [0,1,3,7,0,31,63,0,128,511,1023] [oM 182 10,Ww 183 182,oF 184 2 183,oL 185 184,oM 186 11,oX 187 185 186,oL 188 187,oF 189 3 2,oL 190 189,o 191 (.NQ 1 (.t 188) (qI 0)),W8 1 191 190]) (.skip))) (sQ [KF 193 .eql 101 .u8 7,oM 192 193] (Xf 192 (sQ [oM 194 11,W0 195 .geq 194 0] (Xf 195 (.W6 [0,1,3,7,0,0,32,96,224,0,992,2016,0,8160,16383,32767] [oM 196 10,Ww 197 196,oF 198 2 197,oL 199 198,oM 200 11,oM 201 10,Ww 202 201,oF 203 2 202,oL 204 203,oM 205 11,oX 206 204 205,oL 207 206,o 208 (.NF 1 1 [XE 0] [0] [.k (XE 0)]),acq 209 1 8 207 208,oX 210 199 200,W8 1 210 209]) (.skip))) (sQ [KF 212 .eql 101 .u8 8,oM 211 212] (Xf 211 (sQ [oM 213 11,W0 214 .geq 213 0,oM 215 214,WW 216 215 true 10,og 217 215 true (.Te (.t 216)),Sd 218 215 true 2 217,Wc 219 215 true 218,WW 220 215 true 11,Oj 221 215 true 1 219 220,Wc 222 215 true 221,Tc 223 215 true 222,Oo 224 215 true .gtr 223 0,Of 225 215 224] (Xf 225 (Xw (.W6 [0,1,3,7,0,0,32,96,224,0,992,2016,4064,8160,16383,32767] [oM 226 10,Ww 227 226,oF 228 2 227,oL 229 228,oM 230 11,oM 231 10,Ww 232 231,oF 233 2 232,oL 234 233,oM 235 11,oX 236 234 235,oL 237 236,oN 238 237,o 239 (.VF 1 8 [XE 0] (.t 238) (.t 238)),oX 240 229 230,W8 1 240 239]) (.W6 [0,1,3,7,0,31,63,0,128,511,1023] [oM 241 10,Ww 242 241,oF 243 2 242,oL 244 243,oM 245 11,oX 246 244 245,oL 247 246,oF 248 0 3,oL 249 248,o 250 (.NQ 1 (.t 247) (qI 0)),W8 1 250 249])) (.skip))) (sQ [KF 252 .eql 101 .u8 9,oM 251 252] (Xf 251 (sQ [oM 253 11,W0 254 .geq 253 0] (Xf 254 (Xw (.quiet [oM 255 10,Ww 256 255,oF 257 2 256,oL 258 257,oM 259 11,oX 260 258 259,oL 261 260,oN 262 261,W0 263 .sub 262 1,oK 12 0,oM 13 263]) (.blk 5 (.loop eQ))) (.skip))) (sQ [KF 311 .eql 101 .u8 10,oM 310 311] (Xf 310 (.ops [oF 312 1 3,oL 313 312,oF 314 0 3,oL 315 314,KA 316 315,PL 317 316,o 318 (.build [XE 0,.XC,.XC] [(0,1),(2,1)] [.k (XE 1),.t 317]),o 319 (.NF 3 1 [XE 0,.XC,.XC] [0] [.t 318]),acq 320 3 56 313 319,oF 321 1 3,W8 1 321 320]) (.ops [oF 102 1 3,oL 103 102,oF 104 1 3,oL 105 104,oN 106 105,W0 107 .sub 106 1,o 108 (.OK 3 (.t 103) [] [.t 107]),oF 109 1 3,W8 1 109 108]))))))))))))))))))))))))) eR
def jj:SC:=sQ [oM 70 5,oF 71 1 3,W8 1 71 70] (Xw (sQ [oM 72 5,oN 73 72,W0 74 .eql 73 0] (Xf 74 (sQ [WR 75 2 3,W8 2 4 75] (.ret)) (.skip))) (sQ [oM 76 5,oF 77 1 2,oL 78 77,M_ 79 .i64 78,oM 80 5,oN 81 80,Xk 82 .rem 79 81,Wb 83 3 76 82,oM 10 83] (sQ [oK 11 (-1)] (Xw (sQ [oM 84 10,Ww 85 84,oF 86 2 85,oL 87 86,oN 88 87,W0 89 .gtr 88 0] (Xf 89 (.quiet [oF 90 2 2,oL 91 90,M_ 92 .i64 91,oM 93 10,Ww 94 93,oF 95 2 94,oL 96 95,oN 97 96,Xk 98 .rem 92 97,oM 11 98]) (.skip))) ji))))
def pW:SC:=sQ [Wu 5] (Xw (sQ [oK 6 0] (.blk 0 (.loop jh))) jj)
def mV:SF:=⟨323,[.cell true 2 4],sQ [Wp 2 0,Wp 3 1,o 4 (.alloc [XE 0,.XC])] pW⟩
def cW:SC:=sQ [Wu 6] (sQ [oM 28 6,oM 29 3,oM 30 5,o 31 (.OK 1 (.t 29) [] [.t 30]),acq 32 1 8 28 31,oM 33 4,KA 34 33,acq 35 1 8 32 34,oM 6 35] (.ops [oM 36 6,oM 37 3,oM 38 5,o 39 (.OK 1 (.t 37) [.t 38] []),acq 40 1 8 36 39,oM 3 40]))
def mT:SC:=Wi 12 4 13 12 4 13
def mS:SC:=Xw (sQ [oM 7 4,WR 8 3 1,Wf 9 91 8,oN 10 9,Xk 11 .lss 7 10] (WX 11 0)) (Xw (.blk 1 (sQ [oK 5 0] (Xw (sQ [oM 14 4,oF 15 2 1,oL 16 15,oN 17 16,Xk 18 .lss 14 17] (Xf 18 (.ops [oF 19 2 1,oL 20 19,oM 21 4,oX 22 20 21,oL 23 22,M_ 24 .i64 23,oM 25 4,oA 26 25,Xk 27 .rem 24 26,oM 5 27]) (.skip))) cW))) mT)
def e_:SC:=sQ [oM 41 3,oM 2 41] (.ret)
def fI:SC:=sQ [Wu 3] (Xw (sQ [oK 4 0] (.blk 0 (.loop mS))) e_)
def dG:SF:=⟨42,[.tm 2],sQ [Wp 1 0,Wu 2] fI⟩
def B9:SC:=Xw (sQ [oM 5 4,oM 6 0,oN 7 6,Xk 8 .lss 5 7] (WX 8 0)) (Xw (.blk 1 (.ops [oM 11 3,oM 12 0,oM 13 4,oX 14 12 13,oL 15 14,Xk 16 .mul 11 15,oM 3 16])) (Wi 9 4 10 9 4 10))
def uJ:SC:=sQ [oM 17 3,oM 2 17] (.ret)
def tW:SF:=⟨18,[.tm 2],sQ [oK 2 0] (sQ [oK 3 1] (Xw (sQ [oK 4 0] (.blk 0 (.loop B9))) uJ))⟩
def k_:SC:=Xw (.quiet [WR 5 2 2,Wf 6 92 5,oF 7 1 2,oL 8 7,oM 9 1,Wb 10 3 8 9,oF 11 1 10,oL 12 11,WD 13 68 6 12,oM 4 13]) (.ret)
def ie:SF:=⟨14,[.tm 4],sQ [Wp 2 0,Wu 4] k_⟩
def wi:SC:=.ops [oM 39 10,oM 40 9,oM 41 11,oX 42 40 41,oL 43 42,Xk 44 .add 39 43,oM 10 44]
def wj:SC:=Wi 20 11 21 20 11 21
def oJ:SC:=Xw (sQ [oM 17 11,oM 18 1,Xk 19 .lss 17 18] (WX 19 0)) (Xw (.blk 1 (Xw (sQ [oM 22 2,oN 23 22,W0 24 .gtr 23 0] (Xf 24 (.ops [oM 25 9,oM 26 11,oM 27 2,oM 28 3,oM 29 11,Xk 30 .add 28 29,oM 31 2,oN 32 31,Xk 33 .rem 30 32,oX 34 27 33,oL 35 34,KF 36 .rem 35 .u8 8,M_ 37 .i64 36,oX 38 25 26,W8 1 38 37]) (.skip))) wi)) wj)
def wk:SC:=.ops [oM 68 12,oM 69 9,oM 70 14,oX 71 69 70,oL 72 71,Xk 73 .sub 68 72,oM 12 73]
def wm:SC:=Wi 49 14 50 49 14 50
def oO:SC:=Xw (sQ [oM 46 14,oM 47 1,Xk 48 .lss 46 47] (WX 48 2)) (Xw (.blk 3 (Xw (sQ [oM 51 9,oM 52 14,oX 53 51 52,oL 54 53,W0 55 .gtr 54 0] (Xf 55 (sQ [oM 56 9,oM 57 14,oM 58 0,oM 59 9,oM 60 14,oX 61 59 60,oL 62 61,Xk 63 .mul 58 62,oM 64 10,Xk 65 .quo 63 64,oX 66 56 57,W8 1 66 65] (.ops [oM 67 14,oM 13 67])) (.skip))) wk)) wm)
def wn:SC:=sQ [oM 74 9,oM 75 13,oM 76 9,oM 77 13,oX 78 76 77,oL 79 78,oM 80 12,Xk 81 .add 79 80,oX 82 74 75,W8 1 82 81] (sQ [oM 83 9,oM 8 83] (.ret))
def wo:SC:=sQ [oM 45 0,oM 12 45,oK 13 0] (Xw (sQ [oK 14 0] (.blk 2 (.loop oO))) wn)
def wh:SF:=⟨84,[.tm 8],sQ [Wu 8] (sQ [oM 15 1,o 16 (.VF 1 8 [XE 0] (.t 15) (.t 15)),oM 9 16] (sQ [oK 10 0] (Xw (sQ [oK 11 0] (.blk 0 (.loop oJ))) wo)))⟩
def c_:SC:=sQ [Xk 31 .lss 30 29] (Xw (WX 31 0) (Xw (.blk 1 (sQ [oX 32 28 30,oL 33 32,oM 12 33] (Xw (sQ [oM 34 12,oM 35 10,Xk 36 .leq 34 35,oM 37 36,WW 38 37 false 12,Sd 39 37 false 1 3,Wc 40 37 false 39,Tc 41 37 false 40,Jb 42 37 false .geq 38 41,SD 43 37 42] (Xf 43 (sQ [o 6 (.mv (.k (.WQ))),oK 7 2] (.ret)) (.skip))) (.ops [oM 44 12,oM 10 44])))) (.ops [oA 45 30,oM 30 45])))
def tP:SC:=.ops [oA 66 49,oM 49 66]
def eL:SC:=sQ [Xk 50 .lss 49 48] (Xw (WX 50 2) (Xw (.blk 3 (sQ [oM 51 49,oM 13 51] (sQ [oM 52 2,oM 53 13,WD 54 94 52 53,RH 55 54] (Xf 55 (.W6 [0,0,2,6,14,0,32,126,255,511,1023] [oL 56 9,oL 57 9,Ww 58 57,oF 59 3 58,oL 60 59,oM 61 13,KA 62 61,acq 63 1 8 60 62,Ww 64 56,oF 65 3 64,W8 1 65 63]) (.skip))))) tP))
def jT:SC:=sQ [oM 14 76] (.ops [oM 15 77])
def eM:SC:=sQ [Xk 81 .lss 80 79] (Xw (WX 81 6) (Xw (.blk 7 (sQ [oM 82 80,oX 83 78 80,oL 84 83,oM 16 82,oM 17 84] (sQ [oM 85 17,W0 86 .geq 85 0,oM 87 86,WW 88 87 true 17,WW 89 87 true 15,WW 90 87 true 16,Oj 91 87 true 1 89 90,Wc 92 87 true 91,Jb 93 87 true .neq 88 92,Of 94 87 93] (Xf 94 (sQ [oL 95 9,Ww 96 95,oF 97 4 96,oL 98 97,oM 99 14,oX 100 98 99,oz (.store 1 (.t 100) (qI 0))] (.exit 5)) (.skip))))) (.ops [oA 101 80,oM 80 101])))
def jV:SC:=.W6 [0,1,3,7,0,16,48,112,0,496,1008,2047,4095,8191,16383] [oL 102 9,Ww 103 102,oF 104 5 103,oL 105 104,oL 106 9,Ww 107 106,oF 108 4 107,oL 109 108,oM 110 14,oX 111 109 110,oL 112 111,Xk 113 .add 105 112,Ww 114 102,oF 115 5 114,W8 1 115 113]
def jU:SC:=.blk 5 (Xw (sQ [oL 78 4,oN 79 78,oK 80 0] (.blk 6 (.loop eM))) jV)
def jW:SC:=sQ [oL 116 9,oM 6 116,oK 7 0] (.ret)
def eN:SC:=Xw (.W6 [0,0,2,7,15,31] [oL 67 9,WR 68 2 3,Wf 69 95 68,Ww 70 67,oF 71 4 70,W8 1 71 69]) (Xw (.skip) (Xw (sQ [oF 72 1 3,oL 73 72,Wf 74 97 73,Wf 75 96 74] (.blk 4 (.SL 117 (.t 75) [76,77] jT jU))) jW))
def jX:SC:=Xw (sQ [oF 46 1 3,oL 47 46,oN 48 47,oK 49 0] (.blk 2 (.loop eL))) eN
def fq:SC:=Xw (sQ [WR 18 2 3,oL 19 4,WD 20 93 18 19,oM 8 20] (sQ [oM 21 8,W0 22 .neq 21 0] (Xf 22 (sQ [oM 23 8,o 6 (.mv (.k (.WQ))),oM 7 23] (.ret)) (.skip)))) (sQ [WR 24 2 3,oM 25 2,o 26 (.build [XE 0,.XC,.XC,.XC,.XC,XE 0] [(0,2),(2,1)] [.t 24,.t 25]),Wp 27 26,o 9 (.alloc [.WQ]),W8 1 9 27] (sQ [oK 10 (-1)] (Xw (sQ [oM 28 2,oN 29 28,oK 30 0] (.blk 0 (.loop c_))) jX)))
def eg:SF:=⟨117,[.tm 6,.tm 7],sQ [Wp 3 0,Wp 4 1,o 6 (.mv (.k (.WQ))),oK 7 0] fq⟩
def iE:SC:=sQ [o 5 (.alloc [XE 0,XE 0]),W8 2 5 21] (.ops [oM 6 22])
def iG:SC:=.blk 1 (.W6 [0,0,0,6,15,31,0,64,255,511,1023] [oL 23 4,oL 24 1,oM 25 6,WD 26 101 24 25,oX 27 23 26,oL 28 27,oF 29 1 5,oL 30 29,Xk 31 .add 28 30,oX 32 23 26,W8 1 32 31])
def iF:SC:=sQ [oM 9 40] (.ops [oM 10 41])
def dW:SC:=.blk 3 (Xw (.quiet [oL 42 4,oM 43 9,oX 44 42 43,oL 45 44,oL 46 8,Xk 47 .gtr 45 46]) (Xf 47 (.W6 [0,1,0,0,12,28,3,127] [oM 48 10,Wf 49 37 48,oL 50 4,oM 51 9,oX 52 50 51,oL 53 52,W8 1 7 49,W8 1 8 53]) (.skip)))
def iH:SC:=Xw (.quiet [oL 54 7,oL 55 8,oM 2 54,oM 3 55]) (.ret)
def iI:SC:=sQ [o 7 (.alloc [.XC]),o 8 (.alloc [XE 0]),oz (.store 1 (.t 7) (.k (.XC))),oz (.store 1 (.t 8) (qI (-1)))] (Xw (Xw (.quiet [oL 33 1,oL 34 1,Ww 35 34,oF 36 2 35,oL 37 36,WD 38 99 33 37,Wf 39 96 38]) (.blk 2 (.SL 56 (.t 39) [40,41] iF dW))) iH)
def jx:SC:=Xw (.W6 [0,0,2,6,14,31,63,127,0,511] [oL 11 1,oL 12 1,Ww 13 12,oF 14 2 13,oL 15 14,WD 16 99 11 15,Wf 17 98 16,o 18 (.VF 1 8 [XE 0] (.t 17) (.t 17)),o 4 (.alloc [.XC]),W8 1 4 18]) (Xw (sQ [oL 19 1,Wf 20 100 19] (.blk 0 (.SL 56 (.t 20) [21,22] iE iG))) iI)
def fu:SF:=⟨56,[.tm 2,.tm 3],sQ [Wp 1 0,Wu 2,oK 3 0] jx⟩
def uM:SC:=Wi 11 6 12 11 6 12
def uL:SC:=Xw (sQ [oM 7 6,WR 8 2 2,Wf 9 63 8,Xk 10 .lss 7 9] (WX 10 0)) (Xw (.blk 1 (sQ [WR 13 2 2,oM 14 6,WD 15 64 13 14,oM 16 1,WD 17 65 15 16] (Xf 17 (.ops [oM 18 5,WR 19 2 2,oM 20 6,WD 21 69 19 20,Xk 22 .add 18 21,oM 5 22]) (.skip)))) uM)
def uN:SC:=sQ [oM 23 5,oM 4 23] (.ret)
def we:SC:=sQ [oK 5 0] (Xw (sQ [oK 6 0] (.blk 0 (.loop uL))) uN)
def tX:SF:=⟨24,[.tm 4],sQ [Wp 2 0,oK 4 0] we⟩
def mY:SC:=Wi 21 9 22 21 9 22
def je:SC:=Xw (sQ [oM 17 9,oM 18 7,oN 19 18,Xk 20 .lss 17 19] (WX 20 0)) (Xw (.blk 1 (Xw (.quiet [WR 23 2 3,oM 24 1,oM 25 2,oM 26 7,oM 27 9,oX 28 26 27,oL 29 28,QG 30 56 23 24 25 29,WR 31 2 3,oM 32 1,oM 33 2,oM 34 8,QG 35 56 31 32 33 34,Xk 36 .gtr 30 35]) (Xf 36 (.ops [oM 37 7,oM 38 9,oX 39 37 38,oL 40 39,oM 8 40]) (.skip)))) mY)
def uP:SC:=sQ [oM 41 8,oM 6 41] (.ret)
def wu:SC:=sQ [WR 10 2 3,oM 11 2,WD 12 62 10 11,Wf 13 89 12,oM 7 13] (sQ [oM 14 7,o 15 (.NQ 1 (.t 14) (qI 0)),oL 16 15,oM 8 16] (Xw (sQ [oK 9 1] (.blk 0 (.loop je))) uP))
def tY:SF:=⟨42,[.tm 6],sQ [Wp 3 0,Wu 6] wu⟩
def qg:SC:=Wi 16 10 17 16 10 17
def qf:SC:=Xw (sQ [oM 12 10,WR 13 2 4,Wf 14 63 13,Xk 15 .lss 12 14] (WX 15 0)) (Xw (.blk 1 (sQ [WR 18 2 4,oM 19 10,WD 20 64 18 19,oM 11 20] (sQ [oM 21 11,oM 22 1,WD 23 65 21 22,oM 24 23,WW 25 24 true 11,WW 26 24 true 2,WW 27 24 true 3,og 28 24 true (.call 66 [.t 25,.t 26,.t 27]),Of 29 24 28] (Xf 29 (.ops [oM 30 9,WR 31 2 4,oM 32 10,WD 33 69 31 32,Xk 34 .add 30 33,oM 9 34]) (.skip))))) qg)
def qh:SC:=sQ [oM 35 9,oM 8 35] (.ret)
def sT:SC:=sQ [oK 9 0] (Xw (sQ [oK 10 0] (.blk 0 (.loop qf))) qh)
def oT:SF:=⟨36,[.tm 8],sQ [Wp 4 0,oK 8 0] sT⟩
def d8:SC:=sQ [Xk 18 .lss 17 16] (Xw (WX 18 0) (Xw (.blk 1 (sQ [oM 19 17,oX 20 15 17,oL 21 20,oM 5 19,oM 6 21] (Xw (.quiet [oM 22 6,W0 23 .lss 22 0,oM 24 23,WW 25 24 false 6,WW 26 24 false 0,og 27 24 false (.Te (.t 26)),Sd 28 24 false 0 27,Sd 29 24 false 1 28,Wc 30 24 false 29,WW 31 24 false 0,og 32 24 false (.Te (.t 31)),Sd 33 24 false 2 32,Wc 34 24 false 33,WW 35 24 false 5,Oj 36 24 false 1 34 35,Wc 37 24 false 36,Oj 38 24 false 3 30 37,Sd 39 24 false 0 38,Wc 40 24 false 39,Jb 41 24 false .geq 25 40,SD 42 24 41]) (Xf 42 (sQ [WE 4 false] (.ret)) (.skip))))) (.ops [oA 43 17,oM 17 43])))
def d9:SC:=sQ [WE 4 true] (.ret)
def bW:SF:=⟨44,[.tm 4],sQ [WE 4 false] (Xw (sQ [oM 7 1,oN 8 7,oM 9 0,Ww 10 9,oF 11 2 10,oL 12 11,oN 13 12,Xk 14 .gtr 8 13] (Xf 14 (sQ [WE 4 false] (.ret)) (.skip))) (Xw (sQ [oM 15 1,oN 16 15,oK 17 0] (.blk 0 (.loop d8))) d9))⟩
def gM:SC:=sQ [o 6 (.alloc [XE 0,XE 0]),W8 2 6 21] (.ops [oM 7 22])
def cA:SC:=.blk 1 (Xw (.quiet [oM 23 7,oL 24 3,oN 25 24,o 26 (.OK 1 (.t 23) [] [.t 25]),oL 27 3,WD 28 18 26 27]) (Xf 28 (.W6 [0,0,2,0,0,16,56,120,0,256,1016,2047,4095] [oL 29 5,oF 30 0 6,oL 31 30,oL 32 5,oF 33 0 6,oL 34 33,oX 35 32 34,oL 36 35,oF 37 1 6,oL 38 37,o 39 (.mx (.t 36) (.t 38)),oX 40 29 31,W8 1 40 39]) (.skip)))
def gN:SC:=sQ [Xk 44 .lss 43 42] (Xw (WX 44 2) (Xw (.blk 3 (sQ [oX 45 41 43,oL 46 45,oM 10 46] (.ops [oM 47 8,oM 48 10,Xk 49 .add 47 48,oM 8 49]))) (.ops [oA 50 43,oM 43 50])))
def gO:SC:=sQ [oM 51 8,oM 4 51] (.ret)
def gP:SC:=sQ [oK 8 0] (Xw (sQ [oL 41 5,oN 42 41,oK 43 0] (.blk 2 (.loop gN))) gO)
def iJ:SC:=sQ [oM 11 0,oM 12 0,Ww 13 12,oF 14 3 13,oL 15 14,WD 16 99 11 15,Wf 17 98 16,o 18 (.VF 1 8 [XE 0] (.t 17) (.t 17)),o 5 (.alloc [.XC]),W8 1 5 18] (Xw (sQ [oM 19 0,Wf 20 100 19] (.blk 0 (.SL 52 (.t 20) [21,22] gM cA))) gP)
def eO:SF:=⟨52,[.tm 4],sQ [Wp 3 1,oK 4 0] iJ⟩
def jd:SC:=Xw (sQ [WR 5 2 2,Wf 6 102 5,RH 7 6] (Xf 7 (sQ [oK 4 50] (.ret)) (.skip))) (Xw (sQ [WR 8 2 2,oM 9 1,WD 10 103 8 9,RH 11 10] (Xf 11 (sQ [oK 4 2] (.ret)) (.skip))) (sQ [oK 4 0] (.ret)))
def iS:SF:=⟨12,[.tm 4],sQ [Wp 2 0,oK 4 0] jd⟩
def zI:SC:=Xw (sQ [oM 6 5,oM 7 0,oN 8 7,Xk 9 .lss 6 8] (WX 9 0)) (Xw (.blk 1 (Xw (.quiet [oM 12 0,oM 13 5,oX 14 12 13,oL 15 14,W0 16 .lss 15 0,oM 17 16,WW 18 17 false 0,WW 19 17 false 5,Oj 20 17 false 1 18 19,Wc 21 17 false 20,WW 22 17 false 1,Jb 23 17 false .geq 21 22,SD 24 17 23,oM 25 24,WW 26 25 false 5,Oo 27 25 false .gtr 26 0,WW 28 25 false 27,WW 29 28 true 0,WW 30 28 true 5,Oj 31 28 true 1 29 30,Wc 32 28 true 31,WW 33 28 true 0,WW 34 28 true 5,Oo 35 28 true .sub 34 1,Oj 36 28 true 1 33 35,Wc 37 28 true 36,Jb 38 28 true .leq 32 37,og 39 25 false (.pick (.t 28) (.t 38) (.k (.bool false))),SD 40 25 39]) (Xf 40 (sQ [WE 4 false] (.ret)) (.skip)))) (Wi 10 5 11 10 5 11))
def pU:SC:=sQ [WE 4 true] (.ret)
def oo:SF:=⟨41,[.tm 4],sQ [WE 4 false] (Xw (sQ [oK 5 0] (.blk 0 (.loop zI))) pU)⟩
def j_:SC:=Xw (sQ [oM 11 5,oM 12 1,oN 13 12,Xk 14 .lss 11 13] (WX 14 0)) (Xw (.blk 1 (Xw (.quiet [oM 17 1,oM 18 5,oX 19 17 18,oL 20 19,W0 21 .lss 20 0,oM 22 21,WW 23 22 false 1,WW 24 22 false 5,Oj 25 22 false 1 23 24,Wc 26 22 false 25,WW 27 22 false 0,WW 28 22 false 5,Oj 29 22 false 1 27 28,Wc 30 22 false 29,Jb 31 22 false .geq 26 30,SD 32 22 31]) (Xf 32 (sQ [WE 4 false] (.ret)) (.skip)))) (Wi 15 5 16 15 5 16))
def kg:SC:=sQ [WE 4 true] (.ret)
def eh:SF:=⟨33,[.tm 4],sQ [WE 4 false] (Xw (sQ [oM 6 1,oN 7 6,oM 8 0,oN 9 8,Xk 10 .neq 7 9] (Xf 10 (sQ [WE 4 false] (.ret)) (.skip))) (Xw (sQ [oK 5 0] (.blk 0 (.loop j_))) kg))⟩
def uR:SC:=sQ [WR 5 2 2,Wf 6 92 5,oM 7 1,WD 8 68 6 7,oM 4 8] (.ret)
def qW:SF:=⟨9,[.tm 4],sQ [Wp 2 0,Wu 4] uR⟩
def sF:SC:=sQ [WR 3 2 1,Wf 4 92 3,Wf 5 48 4,oM 2 5] (.ret)
def oI:SF:=⟨6,[.tm 2],sQ [Wp 1 0,oK 2 0] sF⟩
def sD:SC:=sQ [WR 5 2 2,Wf 6 92 5,oM 7 1,WD 8 104 6 7,oM 4 8] (.ret)
def oG:SF:=⟨9,[.tm 4],sQ [Wp 2 0,Wu 4] sD⟩
def oD:SC:=Xw (sQ [oM 6 5,oM 7 0,oN 8 7,Xk 9 .lss 6 8] (WX 9 0)) (Xw (.blk 1 (Xw (.quiet [oM 12 1,oM 13 5,oX 14 12 13,oL 15 14,W0 16 .geq 15 0,oM 17 16,WW 18 17 true 1,WW 19 17 true 5,Oj 20 17 true 1 18 19,Wc 21 17 true 20,WW 22 17 true 0,WW 23 17 true 5,Oj 24 17 true 1 22 23,Wc 25 17 true 24,Jb 26 17 true .neq 21 25,Of 27 17 26]) (Xf 27 (sQ [WE 4 false] (.ret)) (.skip)))) (Wi 10 5 11 10 5 11))
def oE:SC:=sQ [WE 4 true] (.ret)
def mW:SF:=⟨28,[.tm 4],sQ [WE 4 false] (Xw (sQ [oK 5 0] (.blk 0 (.loop oD))) oE)⟩
def qi:SC:=Xw (sQ [oM 8 7,oM 9 2,oN 10 9,Xk 11 .lss 8 10] (WX 11 0)) (Xw (.blk 1 (Xw (.quiet [oM 14 0,oM 15 1,oM 16 7,oX 17 15 16,oL 18 17,oX 19 14 18,oL 20 19,oM 21 2,oM 22 7,oX 23 21 22,oL 24 23,Xk 25 .neq 20 24]) (Xf 25 (sQ [WE 6 false] (.ret)) (.skip)))) (Wi 12 7 13 12 7 13))
def qj:SC:=sQ [WE 6 true] (.ret)
def oU:SF:=⟨26,[.tm 6],sQ [WE 6 false] (Xw (sQ [oK 7 0] (.blk 0 (.loop qi))) qj)⟩
def A4:SC:=Xw (sQ [oM 11 7,W0 12 .geq 11 0] (WX 12 0)) (Xw (.blk 1 (sQ [oM 15 5,oM 16 1,oM 17 7,oX 18 16 17,oL 19 18,oM 20 6,Xk 21 .mul 19 20,Xk 22 .add 15 21,oM 5 22] (.ops [oM 23 6,oM 24 0,oM 25 7,oX 26 24 25,oL 27 26,Xk 28 .mul 23 27,oM 6 28]))) (.ops [oM 13 7,W0 14 .sub 13 1,oM 7 14]))
def sg:SC:=sQ [oM 29 5,oM 4 29] (.ret)
def qR:SF:=⟨30,[.tm 4],sQ [oK 4 0] (sQ [oK 5 0,oK 6 1] (Xw (sQ [oM 8 0,oN 9 8,W0 10 .sub 9 1,oM 7 10] (.blk 0 (.loop A4))) sg))⟩
def E8:SC:=Xw (sQ [oM 7 6,oM 8 1,oN 9 8,Xk 10 .lss 7 9] (WX 10 0)) (Xw (.blk 1 (.ops [oM 13 5,oM 14 0,oM 15 1,oM 16 6,oX 17 15 16,oL 18 17,oX 19 14 18,oL 20 19,KA 21 20,acq 22 1 8 13 21,oM 5 22])) (Wi 11 6 12 11 6 12))
def xV:SC:=sQ [oM 23 5,oM 4 23] (.ret)
def yG:SF:=⟨24,[.tm 4],sQ [Wu 4] (sQ [Wu 5] (Xw (sQ [oK 6 0] (.blk 0 (.loop E8))) xV))⟩
def pX:SC:=Xw (sQ [oM 11 7,oF 12 1 2,oL 13 12,oN 14 13,Xk 15 .lss 11 14] (WX 15 0)) (Xw (.blk 1 (.quiet [oM 18 6,WR 19 2 2,oM 20 7,oM 21 5,RK 22 105 19 20 21,oM 23 5,oM 24 7,oX 25 23 24,oL 26 25,oX 27 22 26,oL 28 27,Xk 29 .mul 18 28,oM 6 29])) (Wi 16 7 17 16 7 17))
def pY:SC:=sQ [oM 30 6,oM 4 30] (.ret)
def sE:SC:=sQ [WR 8 2 2,oM 9 1,WD 10 64 8 9,oM 5 10] (sQ [oK 6 1] (Xw (sQ [oK 7 0] (.blk 0 (.loop pX))) pY))
def oH:SF:=⟨31,[.tm 4],sQ [Wp 2 0,oK 4 0] sE⟩
def be:SF:=⟨33,[.tm 8],sQ [WE 8 false] (Xw (sQ [oM 10 1,oM 11 2,WD 12 18 10 11] (Xf 12 (sQ [WE 8 true] (.ret)) (.skip))) (sQ [oM 13 0,oM 14 1,WD 15 58 13 14,oM 9 15] (sQ [oM 16 9,oM 17 3,Xk 18 .lss 16 17,oM 19 18,WW 20 19 false 9,WW 21 19 false 3,Jb 22 19 false .eql 20 21,WW 23 19 false 22,WW 24 23 true 1,WW 25 23 true 2,WW 26 23 true 1,Tc 27 23 true 26,og 28 23 true (.OK 1 (.t 25) [] [.t 27]),og 29 23 true (.call 106 [.t 24,.t 28]),Oo 30 23 true .gtr 29 0,og 31 19 false (.pick (.t 23) (.t 30) (.k (.bool false))),SD 32 19 31,oM 8 32] (.ret))))⟩
def ei:SF:=⟨20,[.tm 4],sQ [oK 4 0] (sQ [oM 7 0,Wf 8 111 7,oM 5 8] (sQ [oM 9 1,Wf 10 111 9,oM 6 10] (Xw (sQ [oM 11 5] (Xf 11 (Xw (sQ [oM 12 6] (Xf 12 (sQ [oK 4 0] (.ret)) (.skip))) (sQ [oK 4 (-1)] (.ret))) (.skip))) (Xw (sQ [oM 13 6] (Xf 13 (sQ [oK 4 1] (.ret)) (.skip))) (Xw (sQ [oM 14 0,oM 15 1,Xk 16 .lss 14 15] (Xf 16 (sQ [oK 4 (-1)] (.ret)) (.skip))) (Xw (sQ [oM 17 0,oM 18 1,Xk 19 .gtr 17 18] (Xf 19 (sQ [oK 4 1] (.ret)) (.skip))) (sQ [oK 4 0] (.ret))))))))⟩
def vR:SC:=sQ [oM 6 0,W0 7 .lss 6 0,oM 8 1,W0 9 .lss 8 0,o 10 (.eq true .bool (.t 7) (.t 9)),oM 11 0,Wf 12 117 11,oM 13 1,Wf 14 117 13,RK 15 116 10 12 14,OJ 16 15 0,OJ 17 15 1,W8 2 4 16,oM 5 17] (.ret)
def tS:SF:=⟨18,[.cell true 2 4,.tm 5],sQ [o 4 (.alloc [XE 0,XE 0]),WE 5 false] vR⟩
def qJ:SC:=sQ [Xk 51 .lss 50 49] (Xw (WX 51 0) (Xw (.blk 1 (sQ [oM 52 50,Wb 53 3 48 50,WR 54 3 53,o 7 (.alloc [XE 0,.XC,.XC]),oM 6 52,W8 3 7 54] (Xw (sQ [oF 55 0 7,oL 56 55,W0 57 .lss 56 1,oM 58 57,Sd 59 58 false 0 7,Wc 60 58 false 59,Oo 61 58 false .gtr 60 4,SD 62 58 61] (Xf 62 (sQ [o 63 (.build [XE 0,.XC,.XC,.XC,.XC] [] []),W8 5 2 63,oK 3 50] (.ret)) (.skip))) (sQ [oF 64 2 4,oL 65 64,oM 66 6,oF 67 0 7,oL 68 67,oX 69 65 66,W8 1 69 68] (.ops [oM 70 5,oF 71 0 7,oL 72 71,Xk 73 .mul 70 72,oM 5 73]))))) (.ops [oA 74 50,oM 50 74])))
def qK:SC:=sQ [Xk 91 .lss 90 89] (Xw (WX 91 4) (Xw (.blk 5 (sQ [oX 92 88 90,oL 93 92,oM 12 93] (Xw (sQ [oM 94 12,oM 95 10,Xk 96 .leq 94 95,oM 97 96,WW 98 97 false 12,Sd 99 97 false 0 4,Sd 100 97 false 1 99,Wc 101 97 false 100,Tc 102 97 false 101,Jb 103 97 false .geq 98 102,SD 104 97 103,oM 105 104,WW 106 105 false 12,WW 107 105 false 8,Jb 108 105 false .eql 106 107,SD 109 105 108] (Xf 109 (sQ [o 110 (.build [XE 0,.XC,.XC,.XC,.XC] [] []),W8 5 2 110,oK 3 50] (.ret)) (.skip))) (sQ [oM 111 12,oM 10 111] (.W6 [0,1,0,7,15,0,32,127,255,511] [oF 112 3 4,oL 113 112,oM 114 8,oX 115 113 114,oL 116 115,oM 117 12,o 118 (.bin .shl (.k (R7 1)) (.t 117)),Xk 119 .or 116 118,oX 120 113 114,W8 1 120 119]))))) (.ops [oA 121 90,oM 90 121])))
def qM:SC:=sQ [WR 122 5 4,WR 123 3 9,WD 124 123 122 123,RH 125 124] (Xf 125 (sQ [o 126 (.build [XE 0,.XC,.XC,.XC,.XC] [] []),W8 5 2 126,oK 3 50] (.ret)) (.skip))
def xT:SC:=.ops [oA 127 82,oM 82 127]
def qL:SC:=sQ [Xk 83 .lss 82 81] (Xw (WX 83 2) (Xw (.blk 3 (sQ [oM 84 82,Wb 85 3 80 82,WR 86 3 85,o 9 (.alloc [XE 0,.XC,.XC]),oM 8 84,W8 3 9 86] (sQ [oK 10 (-1)] (Xw (sQ [oF 87 1 9,oL 88 87,oN 89 88,oK 90 0] (.blk 4 (.loop qK))) qM)))) xT))
def qN:SC:=sQ [oF 129 3 4,oL 130 129,Wf 131 124 130,oM 128 131,OJ 132 128 0,OJ 133 128 1,oM 13 132,oM 14 133] (Xw (sQ [oM 134 14,RH 135 134] (Xf 135 (sQ [o 136 (.build [XE 0,.XC,.XC,.XC,.XC] [] []),W8 5 2 136,oK 3 50] (.ret)) (.skip))) (sQ [oM 137 13,oF 138 4 4,W8 1 138 137] (sQ [WR 139 5 4,W8 5 2 139,oK 3 0] (.ret))))
def xU:SC:=Xw (sQ [oM 75 5,W0 76 .gtr 75 1024] (Xf 76 (sQ [o 77 (.build [XE 0,.XC,.XC,.XC,.XC] [] []),W8 5 2 77,oK 3 50] (.ret)) (.skip))) (Xw (sQ [oF 78 0 4,oF 79 1 78,oL 80 79,oN 81 80,oK 82 0] (.blk 2 (.loop qL))) qN)
def zF:SC:=Xw (sQ [oF 15 0 1,oL 16 15,W0 17 .lss 16 1,oM 18 17,Sd 19 18 false 0 1,Wc 20 18 false 19,Oo 21 18 false .gtr 20 60,SD 22 18 21,oM 23 22,Sd 24 23 false 1 1,Wc 25 23 false 24,Tc 26 23 false 25,Oo 27 23 false .lss 26 1,SD 28 23 27,oM 29 28,Sd 30 29 false 1 1,Wc 31 29 false 30,Tc 32 29 false 31,Oo 33 29 false .gtr 32 8,SD 34 29 33] (Xf 34 (sQ [o 35 (.build [XE 0,.XC,.XC,.XC,.XC] [] []),W8 5 2 35,oK 3 50] (.ret)) (.skip))) (Xw (.W6 [0,0,2,6,14,0,32,96,224,511,0,2047] [WR 36 2 1,oF 37 1 1,oL 38 37,oN 39 38,o 40 (.VF 1 8 [XE 0] (.t 39) (.t 39)),oF 41 1 1,oL 42 41,oN 43 42,o 44 (.VF 1 8 [R7 0] (.t 43) (.t 43)),o 45 (.build [XE 0,.XC,.XC,.XC,.XC] [(0,2),(2,1),(3,1)] [.t 36,.t 40,.t 44]),o 4 (.alloc [XE 0,.XC,.XC,.XC,.XC]),W8 5 4 45]) (sQ [oK 5 1] (Xw (sQ [oF 46 0 4,oF 47 1 46,oL 48 47,oN 49 48,oK 50 0] (.blk 0 (.loop qJ))) xU)))
def oa:SF:=⟨140,[.cell true 5 2,.tm 3],sQ [Wp 1 0,o 2 (.alloc [XE 0,.XC,.XC,.XC,.XC]),oK 3 0] zF⟩
def fR:SC:=Xw (sQ [oM 9 5] (WX 9 0)) (.blk 1 (sQ [oM 10 3,oM 11 4,PL 12 11,acq 13 1 24 10 12,oM 3 13] (.ops [oM 15 0,oM 16 4,WD 17 128 15 16,oM 14 17,OJ 18 14 0,OJ 19 14 1,oM 4 18,oM 5 19])))
def om:SC:=sQ [oM 20 3,oM 2 20] (.ret)
def mj:SF:=⟨21,[.tm 2],sQ [Wu 2] (sQ [Wu 3] (sQ [oM 6 0,oN 7 6,o 8 (.VF 1 8 [XE 0] (.t 7) (.t 7)),oM 4 8] (sQ [WE 5 true] (Xw (.blk 0 (.loop fR)) om))))⟩
def oV:SC:=Xw (sQ [oM 6 5,oM 7 0,oN 8 7,Xk 9 .lss 6 8] (WX 9 0)) (Xw (.blk 1 (Xw (.quiet [oM 12 0,oM 13 5,oX 14 12 13,oL 15 14,oM 16 1,oM 17 5,oX 18 16 17,oL 19 18,Xk 20 .neq 15 19]) (Xf 20 (Xw (Xw (.quiet [oM 21 0,oM 22 5,oX 23 21 22,oL 24 23,oM 25 1,oM 26 5,oX 27 25 26,oL 28 27,Xk 29 .lss 24 28]) (Xf 29 (sQ [oK 4 (-1)] (.ret)) (.skip))) (sQ [oK 4 1] (.ret))) (.skip)))) (Wi 10 5 11 10 5 11))
def oW:SC:=sQ [oK 4 0] (.ret)
def mZ:SF:=⟨30,[.tm 4],sQ [oK 4 0] (Xw (sQ [oK 5 0] (.blk 0 (.loop oV))) oW)⟩
def tU:SC:=Xw (sQ [oM 5 4,oF 6 0 1,oL 7 6,oN 8 7,Xk 9 .lss 5 8,oM 10 9,WW 11 10 true 4,Oo 12 10 true .lss 11 5,Of 13 10 12] (WX 13 0)) (Xw (.blk 1 (.ops [oM 16 3,oF 17 0 1,oL 18 17,oM 19 4,oX 20 18 19,oL 21 20,KF 22 .rem 21 .u8 4,M_ 23 .i64 22,o 24 (.bin .add (qI 1) (.t 23)),KA 25 24,acq 26 1 8 16 25,oM 3 26])) (Wi 14 4 15 14 4 15))
def kh:SC:=sQ [oM 27 3,oM 2 27] (.ret)
def kV:SC:=sQ [Wu 3] (Xw (sQ [oK 4 0] (.blk 0 (.loop tU))) kh)
def ib:SF:=⟨28,[.tm 2],sQ [Wp 1 0,Wu 2] kV⟩
def si:SC:=Xw (sQ [oM 5 4,oF 6 1 1,oL 7 6,oN 8 7,Xk 9 .lss 5 8] (WX 9 0)) (Xw (.blk 1 (.ops [oM 12 3,oF 13 1 1,oL 14 13,oM 15 4,Wb 16 3 14 15,oF 17 0 16,oL 18 17,KA 19 18,acq 20 1 8 12 19,oM 3 20])) (Wi 10 4 11 10 4 11))
def sj:SC:=sQ [oM 21 3,oM 2 21] (.ret)
def uK:SC:=sQ [Wu 3] (Xw (sQ [oK 4 0] (.blk 0 (.loop si))) sj)
def qS:SF:=⟨22,[.tm 2],sQ [Wp 1 0,Wu 2] uK⟩
def jZ:SC:=sQ [Xk 27 .lss 26 25] (Xw (WX 27 0) (Xw (.blk 1 (sQ [oM 28 26,oX 29 24 26,oL 30 29,oM 7 28,oM 8 30] (sQ [oM 31 8,W0 32 .lss 31 (-1),oM 33 32,WW 34 33 false 8,Sd 35 33 false 2 5,Wc 36 33 false 35,WW 37 33 false 7,Oj 38 33 false 1 36 37,Wc 39 33 false 38,Jb 40 33 false .geq 34 39,SD 41 33 40] (Xf 41 (sQ [oK 4 2] (.ret)) (.skip))))) (.ops [oA 42 26,oM 26 42])))
def j4:SC:=sQ [oK 4 0] (.ret)
def kU:SC:=sQ [WR 10 2 2,Wf 11 87 10,oM 9 11,OJ 12 9 0,OJ 13 9 1,o 5 (.alloc [XE 0,.XC,.XC,.XC,.XC]),W8 5 5 12,oM 6 13] (Xw (sQ [oM 14 6,W0 15 .neq 14 0] (Xf 15 (sQ [oM 16 6,oM 4 16] (.ret)) (.skip))) (Xw (sQ [oM 17 1,oN 18 17,oF 19 0 5,oF 20 1 19,oL 21 20,oN 22 21,Xk 23 .neq 18 22] (Xf 23 (sQ [oK 4 2] (.ret)) (.skip))) (Xw (sQ [oM 24 1,oN 25 24,oK 26 0] (.blk 0 (.loop jZ))) j4)))
def ia:SF:=⟨43,[.tm 4],sQ [Wp 2 0,oK 4 0] kU⟩
def eB:SF:=⟨9,[.tm 4],sQ [WE 4 false] (sQ [oM 5 0,oM 6 1,WD 7 129 5 6,W0 8 .geq 7 0,oM 4 8] (.ret))⟩
def oY:SC:=.ops [oM 6 19]
def jn:SC:=sQ [Xk 24 .lss 23 22] (Xw (WX 24 2) (Xw (.blk 3 (sQ [oM 25 23,Wb 26 3 21 23,WR 27 3 26,o 9 (.alloc [XE 0,.XC,.XC]),oM 8 25,W8 3 9 27] (.quiet [oM 28 7,oF 29 2 9,oL 30 29,oF 31 1 1,oL 32 31,oM 33 8,oM 34 6,RK 35 130 32 33 34,oX 36 30 35,oL 37 36,oM 38 6,oM 39 8,oX 40 38 39,oL 41 40,oX 42 37 41,oL 43 42,Xk 44 .mul 28 43,oM 7 44]))) (.ops [oA 45 23,oM 23 45])))
def o9:SC:=.ops [oL 46 4,oM 47 7,KA 48 47,acq 49 1 8 46 48,W8 1 4 49]
def oZ:SC:=.blk 1 (sQ [oK 7 1] (Xw (sQ [oF 20 1 1,oL 21 20,oN 22 21,oK 23 0] (.blk 2 (.loop jn))) o9))
def o_:SC:=sQ [oL 50 4,oM 2 50] (.ret)
def qk:SC:=sQ [oF 10 1 1,oL 11 10,Wf 12 97 11,oM 3 12] (sQ [oM 13 3,Wf 14 98 13,o 15 (.VF 1 8 [XE 0] (qI 0) (.t 14)),o 4 (.alloc [.XC]),W8 1 4 15] (Xw (sQ [oM 16 3,Wf 17 96 16] (.blk 0 (.SL 51 (.t 17) [18,19] oY oZ))) o_))
def m7:SF:=⟨51,[.tm 2],sQ [Wp 1 0,Wu 2] qk⟩
def kG:SC:=sQ [o 3 (.HN 131 [] [.t 1]),oM 2 3] (.ret)
def fY:SF:=⟨4,[.tm 2],sQ [Wp 1 0,o 2 (.mv (.k (.WT)))] kG⟩
def sW:SC:=sQ [Xk 12 .lss 11 10] (Xw (WX 12 0) (Xw (.blk 1 (sQ [oM 13 11,Wb 14 3 9 11,WR 15 3 14,o 5 (.alloc [XE 0,.XC,.XC]),oM 4 13,W8 3 5 15] (.ops [oM 16 3,oM 17 4,oF 18 0 5,oL 19 18,oX 20 16 17,W8 1 20 19]))) (.ops [oA 21 11,oM 11 21])))
def sX:SC:=sQ [oM 22 3,oM 2 22] (.ret)
def qY:SF:=⟨23,[.tm 2],sQ [Wu 2] (sQ [oM 6 0,oN 7 6,o 8 (.VF 1 8 [XE 0] (.t 7) (.t 7)),oM 3 8] (Xw (sQ [oM 9 0,oN 10 9,oK 11 0] (.blk 0 (.loop sW))) sX))⟩
def uT:SC:=sQ [Xk 9 .lss 8 7] (Xw (WX 9 0) (Xw (.blk 1 (sQ [oX 10 6 8,oL 11 10,oM 5 11] (.ops [oM 12 3,oM 13 5,Xk 14 .mul 12 13,oM 3 14]))) (.ops [oA 15 8,oM 8 15])))
def uU:SC:=sQ [oM 16 3,oM 2 16] (.ret)
def tZ:SF:=⟨17,[.tm 2],sQ [oK 2 0] (sQ [oK 3 1] (Xw (sQ [oM 6 0,oN 7 6,oK 8 0] (.blk 0 (.loop uT))) uU))⟩
def gQ:SC:=sQ [Xk 14 .lss 13 12] (Xw (WX 14 0) (Xw (.blk 1 (sQ [oM 15 13,oX 16 11 13,oL 17 16,oM 6 15,oM 7 17] (.ops [oM 18 5,oM 19 6,oM 20 0,Ww 21 20,oF 22 0 21,oF 23 1 22,oL 24 23,oM 25 7,Wb 26 3 24 25,oF 27 0 26,oL 28 27,oX 29 18 19,W8 1 29 28]))) (.ops [oA 30 13,oM 13 30])))
def gR:SC:=sQ [oM 31 5,oM 4 31] (.ret)
def eP:SF:=⟨32,[.tm 4],sQ [Wu 4] (sQ [oM 8 1,oN 9 8,o 10 (.VF 1 8 [XE 0] (.t 9) (.t 9)),oM 5 10] (Xw (sQ [oM 11 1,oN 12 11,oK 13 0] (.blk 0 (.loop gQ))) gR))⟩
def gU:SC:=sQ [o 3 (.HN 132 [] [.t 1]),oM 2 3] (.ret)
def el:SF:=⟨4,[.tm 2],sQ [Wp 1 0,o 2 (.mv (.k (.WT)))] gU⟩
def dx:SC:=sQ [Xk 11 .lss 10 9] (Xw (WX 11 0) (Xw (.blk 1 (sQ [oM 12 10,oX 13 8 10,oL 14 13,oM 6 12,oM 7 14] (.quiet [oM 15 5,oM 16 0,Ww 17 16,oF 18 0 17,oF 19 1 18,oL 20 19,oM 21 0,Ww 22 21,oF 23 2 22,oL 24 23,oM 25 6,oX 26 24 25,oL 27 26,Wb 28 3 20 27,oF 29 0 28,oL 30 29,Xk 31 .mul 15 30,oM 32 7,Xk 33 .add 31 32,oM 5 33]))) (.ops [oA 34 10,oM 10 34])))
def dy:SC:=sQ [oM 35 5,oM 4 35] (.ret)
def bY:SF:=⟨36,[.tm 4],sQ [oK 4 0] (sQ [oK 5 0] (Xw (sQ [oM 8 1,oN 9 8,oK 10 0] (.blk 0 (.loop dx))) dy))⟩
def sn:SC:=Xw (sQ [oM 31 4,oF 32 1 1,oL 33 32,oN 34 33,Xk 35 .lss 31 34] (WX 35 0)) (Xw (.blk 1 (sQ [oF 38 1 1,oL 39 38,oM 40 4,Wb 41 3 39 40,WR 42 3 41,o 5 (.alloc [XE 0,.XC,.XC]),W8 3 5 42] (Xw (sQ [oF 43 0 5,oL 44 43,W0 45 .lss 44 1,oM 46 45,Sd 47 46 false 0 5,Wc 48 46 false 47,Oo 49 46 false .gtr 48 4,SD 50 46 49,oM 51 50,Sd 52 51 false 1 5,Wc 53 51 false 52,Sd 54 51 false 1 1,Wc 55 51 false 54,Tc 56 51 false 55,og 57 51 false (.call 60 [.t 53,.t 56]),og 58 51 false (.not (.t 57)),SD 59 51 58] (Xf 59 (sQ [WE 2 false] (.ret)) (.skip))) (.ops [oM 60 3,oF 61 0 5,oL 62 61,Xk 63 .mul 60 62,oM 3 63])))) (Wi 36 4 37 36 4 37))
def lJ:SC:=Xw (sQ [oM 108 10,oF 109 2 7,oL 110 109,oM 111 8,oX 112 110 111,oL 113 112,oN 114 113,Xk 115 .lss 108 114] (WX 115 6)) (Xw (.blk 7 (Xw (Xw (.quiet [oF 118 2 7,oL 119 118,oM 120 8,oX 121 119 120,oL 122 121,oM 123 10,oX 124 122 123,oL 125 124,W0 126 .lss 125 0,oM 127 126,Sd 128 127 false 2 7,Wc 129 127 false 128,WW 130 127 false 8,Oj 131 127 false 1 129 130,Wc 132 127 false 131,WW 133 127 false 10,Oj 134 127 false 1 132 133,Wc 135 127 false 134,Sd 136 127 false 0 1,Wc 137 127 false 136,Jb 138 127 false .gtr 135 137,SD 139 127 138]) (Xf 139 (sQ [WE 2 false] (.ret)) (.skip))) (.ops [oM 140 9,oF 141 2 7,oL 142 141,oM 143 8,oX 144 142 143,oL 145 144,oM 146 10,oX 147 145 146,oL 148 147,Xk 149 .add 140 148,oM 9 149]))) (Wi 116 10 117 116 10 117))
def lL:SC:=sQ [oM 150 9,oF 151 0 1,oL 152 151,Xk 153 .neq 150 152] (Xf 153 (sQ [WE 2 false] (.ret)) (.skip))
def su:SC:=Wi 97 8 98 97 8 98
def lK:SC:=Xw (sQ [oM 92 8,oF 93 2 7,oL 94 93,oN 95 94,Xk 96 .lss 92 95] (WX 96 4)) (Xw (.blk 5 (Xw (Xw (.quiet [oF 99 2 7,oL 100 99,oM 101 8,oX 102 100 101,oL 103 102,oN 104 103,oF 105 0 7,oL 106 105,Xk 107 .neq 104 106]) (Xf 107 (sQ [WE 2 false] (.ret)) (.skip))) (sQ [oK 9 0] (Xw (sQ [oK 10 0] (.blk 6 (.loop lJ))) lL)))) su)
def sA:SC:=Wi 77 6 78 77 6 78
def so:SC:=Xw (sQ [oM 72 6,oF 73 1 1,oL 74 73,oN 75 74,Xk 76 .lss 72 75] (WX 76 2)) (Xw (.blk 3 (sQ [oF 79 1 1,oL 80 79,oM 81 6,Wb 82 3 80 81,WR 83 3 82,o 7 (.alloc [XE 0,.XC,.XC]),W8 3 7 83] (Xw (Xw (.quiet [oF 84 2 7,oL 85 84,oN 86 85,WR 87 2 1,oM 88 6,WD 89 49 87 88,Wf 90 48 89,Xk 91 .neq 86 90]) (Xf 91 (sQ [WE 2 false] (.ret)) (.skip))) (sQ [oK 8 0] (.blk 4 (.loop lK)))))) sA)
def sB:SC:=sQ [WE 2 true] (.ret)
def sC:SC:=Xw (sQ [oM 64 3,W0 65 .gtr 64 1024,oM 66 65,og 67 66 false (.load true 2 (.t 1)),og 68 66 false (.call 134 [.t 67]),og 69 66 false (.call 133 [.t 68]),og 70 66 false (.not (.t 69)),SD 71 66 70] (Xf 71 (sQ [WE 2 false] (.ret)) (.skip))) (Xw (sQ [oK 6 0] (.blk 2 (.loop so))) sB)
def uO:SC:=Xw (sQ [oF 11 0 1,oL 12 11,W0 13 .lss 12 1,oM 14 13,Sd 15 14 false 0 1,Wc 16 14 false 15,Oo 17 14 false .gtr 16 60,SD 18 14 17,oM 19 18,Sd 20 19 false 1 1,Wc 21 19 false 20,Tc 22 19 false 21,Oo 23 19 false .lss 22 1,SD 24 19 23,oM 25 24,Sd 26 25 false 1 1,Wc 27 25 false 26,Tc 28 25 false 27,Oo 29 25 false .gtr 28 8,SD 30 25 29] (Xf 30 (sQ [WE 2 false] (.ret)) (.skip))) (sQ [oK 3 1] (Xw (sQ [oK 4 0] (.blk 0 (.loop sn))) sC))
def qT:SF:=⟨154,[.tm 2],sQ [Wp 1 0,WE 2 false] uO⟩
def nq:SC:=Xw (sQ [oM 12 5,oM 13 1,oN 14 13,Xk 15 .lss 12 14] (WX 15 0)) (Xw (.blk 1 (Xw (.quiet [oM 18 1,oM 19 5,oX 20 18 19,oL 21 20,W0 22 .lss 21 (-1),oM 23 22,WW 24 23 false 1,WW 25 23 false 5,Oj 26 23 false 1 24 25,Wc 27 23 false 26,Sd 28 23 false 1 2,Wc 29 23 false 28,WW 30 23 false 5,Oj 31 23 false 3 29 30,Sd 32 23 false 0 31,Wc 33 23 false 32,Jb 34 23 false .geq 27 33,SD 35 23 34]) (Xf 35 (sQ [WE 4 false] (.ret)) (.skip)))) (Wi 16 5 17 16 5 17))
def nu:SC:=sQ [WE 4 true] (.ret)
def jk:SC:=Xw (sQ [oM 6 1,oN 7 6,oF 8 1 2,oL 9 8,oN 10 9,Xk 11 .neq 7 10] (Xf 11 (sQ [WE 4 false] (.ret)) (.skip))) (Xw (sQ [oK 5 0] (.blk 0 (.loop nq))) nu)
def gu:SF:=⟨36,[.tm 4],sQ [Wp 2 0,WE 4 false] jk⟩
def zJ:SC:=Xw (sQ [oM 13 6,W0 14 .geq 13 0] (WX 14 0)) (Xw (.blk 1 (sQ [oM 17 5,oM 18 6,oM 19 1,oM 20 0,oM 21 6,oX 22 20 21,oL 23 22,Xk 24 .rem 19 23,oX 25 17 18,W8 1 25 24] (.ops [oM 26 1,oM 27 0,oM 28 6,oX 29 27 28,oL 30 29,Xk 31 .quo 26 30,oM 1 31]))) (.ops [oM 15 6,W0 16 .sub 15 1,oM 6 16]))
def pV:SC:=sQ [oM 32 5,oM 4 32] (.ret)
def oq:SF:=⟨33,[.tm 4],sQ [Wu 4] (sQ [oM 7 0,oN 8 7,o 9 (.VF 1 8 [XE 0] (.t 8) (.t 8)),oM 5 9] (Xw (sQ [oM 10 0,oN 11 10,W0 12 .sub 11 1,oM 6 12] (.blk 0 (.loop zJ))) pV))⟩
def xW:SC:=Xw (.quiet [oF 7 1 3,oL 8 7,oM 9 1,Wb 10 3 8 9,oF 11 2 10,oL 12 11,WR 13 2 3,oM 14 1,WD 15 49 13 14,oM 16 2,oF 17 1 3,oL 18 17,oM 19 1,Wb 20 3 18 19,oF 21 1 20,oL 22 21,WD 23 68 16 22,WD 24 67 15 23,oX 25 12 24,oL 26 25,oM 6 26]) (.ret)
def wg:SF:=⟨27,[.tm 6],sQ [Wp 3 0,Wu 6] xW⟩
def gX:SC:=sQ [Xk 12 .lss 11 10] (Xw (WX 12 0) (Xw (.blk 1 (sQ [oM 13 11,oX 14 9 11,oL 15 14,oM 5 13,oM 6 15] (Xw (sQ [oM 16 5,oM 17 1,oN 18 17,Xk 19 .geq 16 18] (Xf 19 (sQ [oK 4 1] (.ret)) (.skip))) (sQ [oM 20 1,oM 21 5,oX 22 20 21,oL 23 22,oM 7 23] (sQ [oM 24 6,oM 25 7,WD 26 80 24 25,oM 8 26] (sQ [oM 27 8,W0 28 .neq 27 0] (Xf 28 (sQ [oM 29 8,oM 4 29] (.ret)) (.skip)))))))) (.ops [oA 30 11,oM 11 30])))
def gY:SC:=Xw (sQ [oM 31 0,oN 32 31,oM 33 1,oN 34 33,Xk 35 .lss 32 34] (Xf 35 (sQ [oK 4 (-1)] (.ret)) (.skip))) (sQ [oK 4 0] (.ret))
def eS:SF:=⟨36,[.tm 4],sQ [oK 4 0] (Xw (sQ [oM 9 0,oN 10 9,oK 11 0] (.blk 0 (.loop gX))) gY)⟩
def fO:SC:=sQ [o 6 (.alloc [XE 0,XE 0]),W8 2 6 10] (.ops [oM 7 11])
def dz:SC:=.blk 1 (sQ [oM 12 7,oL 13 3,WD 14 18 12 13] (Xf 14 (.ops [oL 15 5,oF 16 1 6,oL 17 16,Xk 18 .add 15 17,W8 1 5 18]) (.skip)))
def fP:SC:=sQ [oL 19 5,oM 4 19] (.ret)
def gT:SC:=sQ [o 5 (.alloc [XE 0]),oz (.store 1 (.t 5) (qI 0))] (Xw (sQ [oM 8 0,Wf 9 100 8] (.blk 0 (.SL 20 (.t 9) [10,11] fO dz))) fP)
def ej:SF:=⟨20,[.tm 4],sQ [Wp 3 1,oK 4 0] gT⟩
def n_:SF:=⟨6,[.tm 2],sQ [WE 2 false] (sQ [oM 3 0,oM 4 0,Xk 5 .neq 3 4,oM 2 5] (.ret))⟩
def uH:SC:=sQ [oM 48 9,oM 49 11,o 50 (.build [XE 0,XE 0] [(0,1),(1,1)] [.t 48,.t 49]),W8 2 6 50,WE 7 true] (.ret)
def vY:SC:=sQ [oM 13 1,oM 14 2,WD 15 146 13 14,oM 8 15] (sQ [oM 17 1,oM 18 8,WD 19 147 17 18,oM 16 19,OJ 20 16 0,OJ 21 16 1,oM 1 20] (sQ [oM 23 2,oM 24 8,WD 25 147 23 24,oM 22 25,OJ 26 22 0,OJ 27 22 1,oM 2 26] (sQ [oM 29 1,Wf 30 148 29,oM 28 30,OJ 31 28 0,OJ 32 28 1,oM 9 31,oM 10 32] (sQ [oM 34 2,Wf 35 148 34,oM 33 35,OJ 36 33 0,OJ 37 33 1,oM 11 36,oM 12 37] (Xw (sQ [oM 38 10,RH 39 38,oM 40 39,WW 41 40 false 12,og 42 40 false (.not (.t 41)),SD 43 40 42] (Xf 43 (sQ [o 44 (.build [XE 0,XE 0] [] []),W8 2 6 44,WE 7 false] (.ret)) (.skip))) (Xw (sQ [oM 45 0] (Xf 45 (.ops [oM 46 9,o 47 (.un .neg (.t 46)),oM 9 47]) (.skip))) uH))))))
def tT:SF:=⟨51,[.cell true 2 6,.tm 7],sQ [o 6 (.alloc [XE 0,XE 0]),WE 7 false] vY⟩
def pO:SC:=Xw (sQ [oM 5 0,W0 6 .neq 5 0] (WX 6 0)) (.blk 1 (sQ [oM 7 0,W0 8 .rem 7 10000,oM 4 8] (sQ [oM 9 3,oM 10 4,oM 11 4,o 12 (.un .neg (.t 11)),o 13 (.mx (.t 10) (.t 12)),KA 14 13,acq 15 1 8 9 14,oM 3 15] (.ops [oM 16 0,W0 17 .quo 16 10000,oM 0 17]))))
def pP:SC:=sQ [oM 18 3,oM 2 18] (.ret)
def oh:SF:=⟨19,[.tm 2],sQ [Wu 2] (sQ [Wu 3] (Xw (.blk 0 (.loop pO)) pP))⟩
def jA:SC:=sQ [Xk 17 .lss 16 15] (Xw (WX 17 0) (Xw (.blk 1 (sQ [oX 18 14 16,oL 19 18,oM 7 19] (.ops [oM 20 5,oF 21 2 2,oL 22 21,oM 23 7,oX 24 22 23,oL 25 24,Xk 26 .mul 20 25,oM 5 26]))) (.ops [oA 27 16,oM 16 27])))
def jz:SC:=.ops [oM 9 36]
def eo:SC:=sQ [Xk 43 .lss 42 41] (Xw (WX 43 4) (Xw (.blk 5 (sQ [oX 44 40 42,oL 45 44,oM 12 45] (Xw (sQ [oM 46 12,W0 47 .lss 46 0,oM 48 47,WW 49 48 false 12,WW 50 48 false 10,Jb 51 48 false .gtr 49 50,SD 52 48 51] (Xf 52 (sQ [oz (.store 1 (.t 4) (.k (.bool false)))] (.ret)) (.skip))) (.ops [oM 53 10,oM 54 12,Xk 55 .sub 53 54,oM 10 55])))) (.ops [oA 56 42,oM 42 56])))
def cQ:SC:=sQ [oM 57 9,oN 58 57,oF 59 0 3,oL 60 59,Xk 61 .neq 58 60,oM 62 61,WW 63 62 false 10,Oo 64 62 false .neq 63 0,SD 65 62 64] (Xf 65 (sQ [oz (.store 1 (.t 4) (.k (.bool false)))] (.ret)) (.skip))
def jB:SC:=.blk 3 (sQ [oF 37 0 2,oF 38 0 37,oL 39 38,oM 10 39] (Xw (sQ [oM 40 9,oN 41 40,oK 42 0] (.blk 4 (.loop eo))) cQ))
def jC:SC:=sQ [oz (.store 1 (.t 4) (.k (.bool true)))] (.ret)
def jD:SC:=Xw (sQ [oF 28 2 3,oL 29 28,oN 30 29,oM 31 5,Xk 32 .neq 30 31] (Xf 32 (sQ [oz (.store 1 (.t 4) (.k (.bool false)))] (.ret)) (.skip))) (Xw (sQ [WR 33 3 3,Wf 34 150 33] (.blk 2 (.SL 66 (.t 34) [35,36] jz jB))) jC)
def j5:SC:=sQ [oK 5 1] (Xw (sQ [oF 13 1 3,oL 14 13,oN 15 14,oK 16 0] (.blk 0 (.loop jA))) jD)
def fQ:SF:=⟨66,[.cell false 1 4],sQ [Wp 2 0,Wp 3 1,o 4 (.alloc [.bool false])] j5⟩
def uD:SC:=sQ [Xk 19 .lss 18 17] (Xw (WX 19 2) (Xw (.blk 3 (sQ [oM 20 18,oX 21 16 18,oL 22 21,oM 6 20,oM 7 22] (sQ [oM 23 5,oM 24 6,Xk 25 .shr 23 24,KF 26 .and 25 .u64 1,KF 27 .eql 26 .u64 0,oM 28 27,WW 29 28 true 7,WW 30 28 true 5,Jb 31 28 true .andNot 29 30,og 32 28 true (.bin .eql (.t 31) (.k (R7 0))),Of 33 28 32] (Xf 33 (sQ [oM 34 4,oM 35 6,KA 36 35,acq 37 1 8 34 36,oM 4 37] (sQ [oM 38 5,oM 39 6,o 40 (.bin .shl (.k (R7 1)) (.t 39)),Xk 41 .or 38 40,oM 5 41] (.exit 1))) (.skip))))) (.ops [oA 42 18,oM 18 42])))
def uF:SC:=sQ [Wu 2,WE 3 false] (.ret)
def uE:SC:=Xw (sQ [oM 11 4,oN 12 11,oM 13 0,oN 14 13,Xk 15 .lss 12 14] (WX 15 0)) (.blk 1 (Xw (sQ [oM 16 0,oN 17 16,oK 18 0] (.blk 2 (.loop uD))) uF))
def uG:SC:=sQ [oM 43 4,oM 2 43,WE 3 true] (.ret)
def tR:SF:=⟨44,[.tm 2,.tm 3],sQ [Wu 2,WE 3 false] (sQ [oM 8 0,oN 9 8,o 10 (.VF 1 8 [XE 0] (qI 0) (.t 9)),oM 4 10,o 5 (.mv (.k (R7 0)))] (Xw (.skip) (Xw (.blk 0 (.loop uE)) uG)))⟩
def B8:SC:=Xw (sQ [oM 14 7,W0 15 .geq 14 0] (WX 15 0)) (Xw (.blk 1 (sQ [oM 18 6,oM 19 7,oM 20 6,oM 21 7,oX 22 20 21,oL 23 22,oA 24 23,oX 25 18 19,W8 1 25 24] (Xw (Xw (.quiet [oM 26 6,oM 27 7,oX 28 26 27,oL 29 28,oM 30 0,oM 31 7,oX 32 30 31,oL 33 32,Xk 34 .lss 29 33]) (Xf 34 (sQ [oM 35 6,oM 4 35,WE 5 true] (.ret)) (.skip))) (.ops [oM 36 6,oM 37 7,oX 38 36 37,oz (.store 1 (.t 38) (qI 0))])))) (.ops [oM 16 7,W0 17 .sub 16 1,oM 7 17]))
def uI:SC:=sQ [oM 39 6,oM 4 39,WE 5 false] (.ret)
def tV:SF:=⟨40,[.tm 4,.tm 5],sQ [Wu 4,WE 5 false] (sQ [Wu 6] (sQ [oM 8 6,oM 9 1,acq 10 1 8 8 9,oM 6 10] (Xw (sQ [oM 11 6,oN 12 11,W0 13 .sub 12 1,oM 7 13] (.blk 0 (.loop B8))) uI)))⟩
def jG:SC:=sQ [Xk 9 .lss 8 7] (Xw (WX 9 0) (Xw (.blk 1 (sQ [oM 10 8,oM 5 10] (sQ [oM 11 1,oM 12 0,oM 13 5,oX 14 12 13,oL 15 14,Xk 16 .eql 11 15] (Xf 16 (sQ [oM 17 5,oM 4 17] (.ret)) (.skip))))) (.ops [oA 18 8,oM 8 18])))
def jH:SC:=sQ [oK 4 (-1)] (.ret)
def fX:SF:=⟨19,[.tm 4],sQ [oK 4 0] (Xw (sQ [oM 6 0,oN 7 6,oK 8 0] (.blk 0 (.loop jG))) jH)⟩
def wE:SC:=sQ [Xk 17 .lss 16 15] (Xw (WX 17 0) (Xw (.blk 1 (sQ [oX 18 14 16,oL 19 18,oM 9 19] (.quiet [oM 20 7,oM 21 0,oM 22 9,Wb 23 3 21 22,oF 24 0 23,oL 25 24,Xk 26 .mul 20 25,oM 27 2,oM 28 9,oX 29 27 28,oL 30 29,Xk 31 .add 26 30,oM 7 31]))) (.ops [oA 32 16,oM 16 32])))
def wF:SC:=sQ [oM 33 7,oM 6 33] (.ret)
def wD:SF:=⟨34,[.tm 6],sQ [oK 6 0] (sQ [oK 7 0] (Xw (sQ [oM 10 0,oM 11 1,Wb 12 3 10 11,oF 13 1 12,oL 14 13,oN 15 14,oK 16 0] (.blk 0 (.loop wE))) wF))⟩
def cB:SC:=Xw (Xw (.quiet [oM 18 5,W0 19 .geq 18 0,oM 20 19,WW 21 20 true 3,WW 22 20 true 5,Oj 23 20 true 1 21 22,Wc 24 20 true 23,Wc 25 20 true 1,WW 26 20 true 5,Oj 27 20 true 1 25 26,Wc 28 20 true 27,Oo 29 20 true .sub 28 1,Jb 30 20 true .eql 24 29,Of 31 20 30]) (WX 31 2)) (.blk 3 (sQ [oM 32 3,oM 33 5,oX 34 32 33,oz (.store 1 (.t 34) (qI 0))] (.ops [oM 35 5,W0 36 .sub 35 1,oM 5 36])))
def cC:SC:=Xw (sQ [oM 37 5,W0 38 .lss 37 0] (Xf 38 (.ret) (.skip))) (.ops [oM 39 3,oM 40 5,oX 41 39 40,oL 42 41,oA 43 42,oX 44 39 40,W8 1 44 43])
def dH:SC:=Wi 13 4 14 13 4 14
def gZ:SC:=Xw (sQ [oM 9 0,oM 10 4,oM 11 3,o 12 (.dyn (.t 9) [.t 10,.t 11])] (WX 12 0)) (Xw (.blk 1 (sQ [oL 15 1,oN 16 15,W0 17 .sub 16 1,oM 5 17] (Xw (.blk 2 (.loop cB)) cC))) dH)
def aX:SF:=⟨45,[],sQ [oL 6 1,oN 7 6,o 8 (.VF 1 8 [XE 0] (.t 7) (.t 7)),oM 3 8] (sQ [oK 4 0] (.blk 0 (.loop gZ)))⟩
def eV:SC:=sQ [oM 4 24] (.ops [oM 5 25])
def cU:SC:=sQ [Xk 32 .lss 31 30] (Xw (WX 32 2) (Xw (.blk 3 (sQ [oM 33 31,oX 34 29 31,oL 35 34,oM 6 33,oM 7 35] (.W6 [0,0,0,0,12,28,63,127] [oL 36 3,oM 37 6,oM 38 5,oM 39 7,oX 40 38 39,oL 41 40,oX 42 36 37,W8 1 42 41]))) (.ops [oA 43 31,oM 31 43])))
def cV:SC:=sQ [Xk 50 .lss 49 48] (Xw (WX 50 4) (Xw (.blk 5 (sQ [oX 51 47 49,oL 52 51,oM 10 52] (.quiet [oM 53 8,oL 54 1,Ww 55 54,oF 56 0 55,oF 57 1 56,oL 58 57,oM 59 10,Wb 60 3 58 59,oF 61 0 60,oL 62 61,Xk 63 .mul 53 62,oM 64 5,oM 65 10,oX 66 64 65,oL 67 66,Xk 68 .add 63 67,oM 8 68]))) (.ops [oA 69 49,oM 49 69])))
def eX:SC:=Xw (.W6 [0,0,0,4,12,28,0,124,252,510,0,2047,4095] [oL 70 2,oM 71 8,oL 72 1,Ww 73 72,oF 74 4 73,oL 75 74,oM 76 4,oX 77 75 76,oL 78 77,o 79 (.build [XE 0,XE 0] [(0,1),(1,1)] [.t 71,.t 78]),oL 80 3,o 81 (.dyn (.t 70) [.t 79,.t 80]),RH 82 81]) (Xf 82 (.ret) (.skip))
def eZ:SC:=sQ [oK 8 0] (Xw (sQ [oL 44 1,Ww 45 44,oF 46 3 45,oL 47 46,oN 48 47,oK 49 0] (.blk 4 (.loop cV))) eX)
def eW:SC:=.blk 1 (Xw (sQ [oL 26 1,Ww 27 26,oF 28 2 27,oL 29 28,oN 30 29,oK 31 0] (.blk 2 (.loop cU))) eZ)
def fF:SC:=sQ [oL 11 1,Ww 12 11,oF 13 2 12,oL 14 13,oN 15 14,o 16 (.VF 1 8 [XE 0] (.t 15) (.t 15)),o 3 (.alloc [.XC]),W8 1 3 16] (sQ [oL 17 1,Ww 18 17,oF 19 0 18,oF 20 1 19,oL 21 20,Wf 22 97 21,Wf 23 96 22] (.blk 0 (.SL 83 (.t 23) [24,25] eV eW)))
def bh:SF:=⟨83,[],sQ [Wp 2 0] fF⟩
def yH:SC:=Xw (sQ [oM 4 3,oM 5 0,oN 6 5,Xk 7 .lss 4 6] (WX 7 0)) (Xw (.blk 1 (sQ [oM 10 0,oM 11 0,oM 12 3,oX 13 11 12,oL 14 13,WD 15 153 10 14,oM 16 3,WD 17 152 15 16] (Xf 17 (sQ [WE 2 false] (.ret)) (.skip)))) (Wi 8 3 9 8 3 9))
def ou:SC:=sQ [WE 2 true] (.ret)
def mU:SF:=⟨18,[.tm 2],sQ [WE 2 false] (Xw (sQ [oK 3 0] (.blk 0 (.loop yH))) ou)⟩
def vd:SC:=Xw (sQ [oM 14 6,oF 15 1 1,oL 16 15,oM 17 4,Wb 18 3 16 17,oF 19 1 18,oL 20 19,oN 21 20,Xk 22 .lss 14 21] (WX 22 2)) (Xw (.blk 3 (.ops [oM 25 5,oF 26 1 1,oL 27 26,oM 28 4,Wb 29 3 27 28,oF 30 1 29,oL 31 30,oM 32 6,oX 33 31 32,oL 34 33,M_ 35 .u64 34,o 36 (.bin .shl (.k (R7 1)) (.t 35)),Xk 37 .or 25 36,oM 5 37])) (Wi 23 6 24 23 6 24))
def lf:SC:=.ops [oM 38 3,oM 39 5,o 40 (.NF 1 1 [R7 0] [0] [.t 39]),acq 41 1 8 38 40,oM 3 41]
def vg:SC:=Wi 12 4 13 12 4 13
def ve:SC:=Xw (sQ [oM 7 4,oF 8 1 1,oL 9 8,oN 10 9,Xk 11 .lss 7 10] (WX 11 0)) (Xw (.blk 1 (sQ [o 5 (.mv (.k (R7 0)))] (Xw (sQ [oK 6 0] (.blk 2 (.loop vd))) lf))) vg)
def li:SC:=sQ [oM 42 3,oM 2 42] (.ret)
def mu:SC:=sQ [Wu 3] (Xw (sQ [oK 4 0] (.blk 0 (.loop ve))) li)
def jl:SF:=⟨43,[.tm 2],sQ [Wp 1 0,Wu 2] mu⟩
def ol:SC:=Xw (sQ [oM 7 1,oN 8 7,W0 9 .gtr 8 0] (WX 9 0)) (.blk 1 (sQ [oM 11 0,oM 12 1,WD 13 147 11 12,oM 10 13,OJ 14 10 0,OJ 15 10 1,oM 5 14,oM 6 15] (sQ [oM 16 1,oM 0 16] (.ops [oM 17 6,oM 1 17]))))
def vX:SC:=sQ [oM 18 0,oM 4 18] (.ret)
def vV:SF:=⟨19,[.tm 4],sQ [Wu 4] (Xw (.blk 0 (.loop ol)) vX)⟩
def fH:SC:=sQ [oM 75 12,oM 76 6,Xk 77 .leq 75 76] (Xf 77 (.ops [oM 78 10,W0 79 .mul 78 10000,oM 80 1,oM 81 12,oX 82 80 81,oL 83 82,Xk 84 .add 79 83,oM 10 84]) (.skip))
def j8:SC:=.ops [oM 61 12,W0 62 .sub 61 1,oM 12 62]
def dS:SC:=Xw (sQ [oM 56 12,oM 57 6,W0 58 .sub 57 1,o 59 (.mx (qI 0) (.t 58)),Xk 60 .geq 56 59] (WX 60 2)) (Xw (.blk 3 (sQ [oM 63 11,W0 64 .mul 63 10000,oM 11 64] (Xw (sQ [oM 65 12,oM 66 8,oN 67 66,Xk 68 .lss 65 67] (Xf 68 (.ops [oM 69 11,oM 70 8,oM 71 12,oX 72 70 71,oL 73 72,Xk 74 .add 69 73,oM 11 74]) (.skip))) fH))) j8)
def fG:SC:=Xw (sQ [oM 92 13,oM 93 14,Xk 94 .lss 92 93] (WX 94 4)) (.blk 5 (sQ [oM 95 13,oM 96 14,Xk 97 .add 95 96,oA 98 97,W0 99 .quo 98 2,oM 15 99] (sQ [oM 100 1,oM 101 15,KA 102 101,WD 103 163 100 102,oM 104 8,WD 105 162 103 104,W0 106 .leq 105 0] (Xf 106 (.ops [oM 107 15,oM 13 107]) (.ops [oM 108 15,W0 109 .sub 108 1,oM 14 109])))))
def j9:SC:=sQ [oM 110 7,oM 111 9,oM 112 13,oX 113 110 111,W8 1 113 112] (.ops [oM 114 8,oM 115 1,oM 116 13,KA 117 116,Wf 118 161 117,WD 119 163 115 118,WD 120 164 114 119,oM 8 120])
def pR:SC:=Xw (.quiet [oM 85 11,oM 86 10,oA 87 86,Xk 88 .quo 85 87,oM 89 11,oM 90 10,Xk 91 .quo 89 90,oM 13 88,oM 14 91]) (Xw (.blk 4 (.loop fG)) j9)
def pS:SC:=.ops [oM 44 9,W0 45 .sub 44 1,oM 9 45]
def pQ:SC:=Xw (sQ [oM 42 9,W0 43 .geq 42 0] (WX 43 0)) (Xw (.blk 1 (sQ [oM 46 0,oM 47 9,oX 48 46 47,oL 49 48,KA 50 49,oM 51 8,acq 52 1 8 50 51,Wf 53 161 52,oM 8 53] (sQ [oK 10 0,oK 11 0] (Xw (sQ [oM 54 6,oA 55 54,oM 12 55] (.blk 2 (.loop dS))) pR)))) pS)
def pT:SC:=sQ [oM 121 7,Wf 122 161 121,oM 123 8,oM 4 122,oM 5 123] (.ret)
def j7:SF:=⟨124,[.tm 4,.tm 5],sQ [Wu 4,Wu 5] (sQ [oM 16 1,oN 17 16,W0 18 .sub 17 1,oM 6 18] (Xw (sQ [oM 19 0,oN 20 19,oM 21 6,Xk 22 .leq 20 21] (Xf 22 (sQ [o 23 (.NF 1 0 [XE 0] [] []),oM 24 0,acq 25 1 8 23 24,Wu 4,oM 5 25] (.ret)) (.skip))) (sQ [oM 26 0,oN 27 26,oM 28 6,Xk 29 .sub 27 28,o 30 (.VF 1 8 [XE 0] (.t 29) (.t 29)),oM 7 30] (sQ [o 31 (.NF 1 0 [XE 0] [] []),oM 32 0,oM 33 0,oN 34 33,oM 35 6,Xk 36 .sub 34 35,o 37 (.OK 1 (.t 32) [.t 36] []),acq 38 1 8 31 37,oM 8 38] (Xw (sQ [oM 39 7,oN 40 39,W0 41 .sub 40 1,oM 9 41] (.blk 0 (.loop pQ))) pT)))))⟩
def r_:SC:=Xw (sQ [oM 13 5,W0 14 .geq 13 0] (WX 14 0)) (Xw (.blk 1 (.ops [oM 17 4,o 18 (.bin .mul (qI 10000) (.t 17)),oM 19 0,oM 20 5,oX 21 19 20,oL 22 21,Xk 23 .add 18 22,oM 4 23])) (.ops [oM 15 5,W0 16 .sub 15 1,oM 5 16]))
def se:SC:=sQ [oM 24 4,oM 2 24,WE 3 true] (.ret)
def qQ:SF:=⟨25,[.tm 2,.tm 3],sQ [oK 2 0,WE 3 false] (Xw (sQ [oM 6 0,o 7 (.call 117 [.k (XE 4611686018427387903)]),WD 8 162 6 7,W0 9 .gtr 8 0] (Xf 9 (sQ [oK 2 0,WE 3 false] (.ret)) (.skip))) (sQ [oK 4 0] (Xw (sQ [oM 10 0,oN 11 10,W0 12 .sub 11 1,oM 5 12] (.blk 0 (.loop r_))) se)))⟩
def zG:SC:=sQ [o 3 (.HN 165 [] [.t 1]),oM 2 3] (.ret)
def yE:SF:=⟨4,[.tm 2],sQ [Wp 1 0,o 2 (.mv (.k (.WT)))] zG⟩
def yI:SF:=⟨11,[.tm 4],sQ [WE 4 false] (sQ [oM 5 0,oM 6 1,M_ 7 .u64 6,Xk 8 .shr 5 7,KF 9 .and 8 .u64 1,KF 10 .eql 9 .u64 1,oM 4 10] (.ret))⟩
def Fa:SC:=Wi 17 6 18 17 6 18
def E9:SC:=Xw (sQ [oM 13 6,oM 14 0,oN 15 14,Xk 16 .lss 13 15] (WX 16 2)) (Xw (.blk 3 (sQ [oM 19 1,oM 20 6,WD 21 152 19 20] (Xf 21 (.ops [oM 22 1,oM 23 0,oM 24 6,oX 25 23 24,oL 26 25,Xk 27 .or 22 26,oM 1 27]) (.skip)))) Fa)
def Fb:SC:=Wi 11 5 12 11 5 12
def E_:SC:=Xw (sQ [oM 7 5,oM 8 0,oN 9 8,Xk 10 .lss 7 9] (WX 10 0)) (Xw (.blk 1 (sQ [oK 6 0] (.blk 2 (.loop E9)))) Fb)
def xX:SC:=sQ [oM 28 1,oM 4 28] (.ret)
def yJ:SF:=⟨29,[.tm 4],sQ [o 4 (.mv (.k (R7 0)))] (Xw (sQ [oK 5 0] (.blk 0 (.loop E_))) xX)⟩
def vT:SC:=Xw (sQ [oM 3 0,oN 4 3,W0 5 .gtr 4 0,oM 6 5,WW 7 6 true 0,WW 8 6 true 0,Tc 9 6 true 8,Oo 10 6 true .sub 9 1,Oj 11 6 true 1 7 10,Wc 12 6 true 11,Oo 13 6 true .eql 12 0,Of 14 6 13] (WX 14 0)) (.blk 1 (.ops [oM 15 0,oM 16 0,oN 17 16,W0 18 .sub 17 1,o 19 (.OK 1 (.t 15) [] [.t 18]),oM 0 19]))
def j6:SC:=sQ [oM 20 0,oM 2 20] (.ret)
def vS:SF:=⟨21,[.tm 2],sQ [Wu 2] (Xw (.blk 0 (.loop vT)) j6)⟩
def od:SC:=Xw (sQ [oM 19 5,W0 20 .geq 19 0] (WX 20 0)) (Xw (.blk 1 (Xw (.quiet [oM 23 0,oM 24 5,oX 25 23 24,oL 26 25,oM 27 1,oM 28 5,oX 29 27 28,oL 30 29,Xk 31 .neq 26 30]) (Xf 31 (Xw (Xw (.quiet [oM 32 0,oM 33 5,oX 34 32 33,oL 35 34,oM 36 1,oM 37 5,oX 38 36 37,oL 39 38,Xk 40 .lss 35 39]) (Xf 40 (sQ [oK 4 (-1)] (.ret)) (.skip))) (sQ [oK 4 1] (.ret))) (.skip)))) (.ops [oM 21 5,W0 22 .sub 21 1,oM 5 22]))
def oe:SC:=sQ [oK 4 0] (.ret)
def mQ:SF:=⟨41,[.tm 4],sQ [oK 4 0] (Xw (sQ [oM 6 0,oN 7 6,oM 8 1,oN 9 8,Xk 10 .neq 7 9] (Xf 10 (Xw (sQ [oM 11 0,oN 12 11,oM 13 1,oN 14 13,Xk 15 .lss 12 14] (Xf 15 (sQ [oK 4 (-1)] (.ret)) (.skip))) (sQ [oK 4 1] (.ret))) (.skip))) (Xw (sQ [oM 16 0,oN 17 16,W0 18 .sub 17 1,oM 5 18] (.blk 0 (.loop od))) oe))⟩
def lF:SC:=sQ [oM 54 5,oM 55 6,oM 56 8,Xk 57 .add 55 56,oM 58 7,W0 59 .rem 58 10000,oX 60 54 57,W8 1 60 59] (.ops [oM 61 7,W0 62 .quo 61 10000,oM 7 62])
def lH:SC:=Wi 29 8 30 29 8 30
def eA:SC:=Xw (sQ [oM 21 8,oM 22 1,oN 23 22,Xk 24 .lss 21 23,oM 25 24,WW 26 25 false 7,Oo 27 25 false .gtr 26 0,SD 28 25 27] (WX 28 2)) (Xw (.blk 3 (sQ [oM 31 7,oM 32 5,oM 33 6,oM 34 8,Xk 35 .add 33 34,oX 36 32 35,oL 37 36,Xk 38 .add 31 37,oM 7 38] (Xw (sQ [oM 39 8,oM 40 1,oN 41 40,Xk 42 .lss 39 41] (Xf 42 (.quiet [oM 43 7,oM 44 0,oM 45 6,oX 46 44 45,oL 47 46,oM 48 1,oM 49 8,oX 50 48 49,oL 51 50,Xk 52 .mul 47 51,Xk 53 .add 43 52,oM 7 53]) (.skip))) lF))) lH)
def A3:SC:=Wi 19 6 20 19 6 20
def rY:SC:=Xw (sQ [oM 15 6,oM 16 0,oN 17 16,Xk 18 .lss 15 17] (WX 18 0)) (Xw (.blk 1 (sQ [oK 7 0] (sQ [oK 8 0] (.blk 2 (.loop eA))))) A3)
def rZ:SC:=sQ [oM 63 5,Wf 64 161 63,oM 4 64] (.ret)
def qP:SF:=⟨65,[.tm 4],sQ [Wu 4] (sQ [oM 9 0,oN 10 9,oM 11 1,oN 12 11,Xk 13 .add 10 12,o 14 (.VF 1 8 [XE 0] (.t 13) (.t 13)),oM 5 14] (Xw (sQ [oK 6 0] (.blk 0 (.loop rY))) rZ))⟩
def lD:SC:=.ops [oM 35 5,oM 36 8,KA 37 36,acq 38 1 8 35 37,oM 5 38]
def gt:SC:=sQ [oK 6 0] (Xw (sQ [oM 31 8,W0 32 .lss 31 0] (Xf 32 (sQ [oM 33 8,W0 34 .add 33 10000,oM 8 34] (.ops [oK 6 1])) (.skip))) lD)
def A2:SC:=Wi 13 7 14 13 7 14
def rV:SC:=Xw (sQ [oM 9 7,oM 10 0,oN 11 10,Xk 12 .lss 9 11] (WX 12 0)) (Xw (.blk 1 (sQ [oM 15 0,oM 16 7,oX 17 15 16,oL 18 17,oM 19 6,Xk 20 .sub 18 19,oM 8 20] (Xw (sQ [oM 21 7,oM 22 1,oN 23 22,Xk 24 .lss 21 23] (Xf 24 (.ops [oM 25 8,oM 26 1,oM 27 7,oX 28 26 27,oL 29 28,Xk 30 .sub 25 29,oM 8 30]) (.skip))) gt))) A2)
def rW:SC:=sQ [oM 39 5,Wf 40 161 39,oM 4 40] (.ret)
def qO:SF:=⟨41,[.tm 4],sQ [Wu 4] (sQ [Wu 5] (sQ [oK 6 0] (Xw (sQ [oK 7 0] (.blk 0 (.loop rV))) rW)))⟩
def uC:SC:=sQ [Xk 9 .lss 8 7] (Xw (WX 9 0) (Xw (.blk 1 (sQ [oM 10 8,oX 11 6 8,oL 12 11,oM 3 10,oM 4 12] (sQ [oM 13 0,oM 14 3,oM 15 4,o 16 (.dyn (.t 13) [.t 14,.t 15]),RH 17 16] (Xf 17 (.ret) (.skip))))) (.ops [oA 18 8,oM 8 18])))
def gq:SF:=⟨19,[],sQ [oF 5 2 1,oL 6 5,oN 7 6,oK 8 0] (.blk 0 (.loop uC))⟩
def ES[Xr]:WY C0 13=some tQ:=by kernel_rfl
@[reducible] def ack[Xr](f:Nat):Prop:=∀(d:Nat)(xs:List AV)(g:G),ah C0 d f xs g=aj (I C0) d g f xs
@[reducible] def Tg[Xr](f:Nat):Prop:=∀(t:T)(g:G)(xs:List Od),SO.foot C0 t g (.call f xs)=am ((fe t xs).flatMap (aL g.h aF))
theorem WL[Xr]{f:Nat}(h:ack f:=by intro _ _ _;kernel_rfl):ack f:=h
def yB[Xr]:WY C0 14=some jY:=by kernel_rfl
def yC[Xr]:WY C0 15=some kj:=by kernel_rfl
def GM[Xr]:WY C0 17=some my:=by kernel_rfl
def u7[Xr]:WY C0 18=some dU:=by kernel_rfl
def B4[Xr]:WY C0 20=some fW:=by kernel_rfl
def yD[Xr]:WY C0 21=some fJ:=by kernel_rfl
def Dl[Xr]:WY C0 22=some qU:=by kernel_rfl
def Dn[Xr]:WY C0 24=some d0:=by kernel_rfl
def GL[Xr]:WY C0 25=some wx:=by kernel_rfl
def AZ[Xr]:WY C0 26=some mX:=by kernel_rfl
def yM[Xr]:Tg 26:=λ_ _ _=>by kernel_rfl
def zE[Xr]:WY C0 31=some lI:=by kernel_rfl
def Dm[Xr]:WY C0 32=some qV:=by kernel_rfl
def uZ[Xr]:WY C0 37=some dT:=by kernel_rfl
def sY[Xr](t:T)(g:G)(xs:List Od):SO.foot C0 t g (.call 37 xs)=cz:=by kernel_rfl
def rI[Xr](d:Nat)(xs:List AV)(g:G):ah C0 d 37 xs g=K3 ((I C0).call d 37 xs g):=by kernel_rfl
def Ie[Xr]:WY C0 40=some yF:=by kernel_rfl
def B5[Xr]:WY C0 45=some oS:=by kernel_rfl
def AX[Xr]:WY C0 46=some mV:=by kernel_rfl
def yL[Xr]:Tg 46:=λ_ _ _=>by kernel_rfl
def n9[Xr]:WY C0 47=some dG:=by kernel_rfl
def m8[Xr]:Tg 47:=λ_ _ _=>by kernel_rfl
def EY[Xr]:WY C0 48=some tW:=by kernel_rfl
def vO[Xr]:WY C0 49=some ie:=by kernel_rfl
def GK[Xr]:WY C0 50=some wh:=by kernel_rfl
def Dy[Xr]:Tg 50:=λ_ _ _=>by kernel_rfl
def vK[Xr]:WY C0 51=some eg:=by kernel_rfl
def tL[Xr]:WY C0 52=some fu:=by kernel_rfl
def EZ[Xr]:WY C0 54=some tX:=by kernel_rfl
def E6[Xr]:WY C0 55=some tY:=by kernel_rfl
def B6[Xr]:WY C0 56=some oT:=by kernel_rfl
def mh[Xr]:WY C0 57=some bW:=by kernel_rfl
def rR[Xr]:WY C0 58=some eO:=by kernel_rfl
def Dk[Xr]:WY C0 59=some iS:=by kernel_rfl
def BZ[Xr]:WY C0 60=some oo:=by kernel_rfl
def vM[Xr]:WY C0 61=some eh:=by kernel_rfl
def Do[Xr]:WY C0 62=some qW:=by kernel_rfl
def B3[Xr]:WY C0 63=some oI:=by kernel_rfl
def B1[Xr]:WY C0 64=some oG:=by kernel_rfl
def AY[Xr]:WY C0 65=some mW:=by kernel_rfl
def B7[Xr]:WY C0 66=some oU:=by kernel_rfl
def Dh[Xr]:WY C0 67=some qR:=by kernel_rfl
def If[Xr]:WY C0 68=some yG:=by kernel_rfl
def B2[Xr]:WY C0 69=some oH:=by kernel_rfl
def zN[Xr]:Tg 69:=λ_ _ _=>by kernel_rfl
def iy[Xr]:WY C0 71=some be:=by kernel_rfl
def zB[Xr]:WY C0 80=some ei:=by kernel_rfl
def EV[Xr]:WY C0 85=some tS:=by kernel_rfl
def Ic[Xr]:WY C0 87=some oa:=by kernel_rfl
def zC[Xr]:WY C0 89=some mj:=by kernel_rfl
def A0[Xr]:WY C0 90=some mZ:=by kernel_rfl
def vN[Xr]:WY C0 91=some ib:=by kernel_rfl
def Di[Xr]:WY C0 92=some qS:=by kernel_rfl
def vL[Xr]:WY C0 93=some ia:=by kernel_rfl
def qH[Xr]:WY C0 94=some eB:=by kernel_rfl
def A1[Xr]:WY C0 95=some m7:=by kernel_rfl
def yN[Xr](t:T)(g:G)(xs:List Od):SO.foot C0 t g (.call 95 xs)=cz:=by kernel_rfl
def yv[Xr](d:Nat)(xs:List AV)(g:G):ah C0 d 95 xs g=K3 ((I C0).call d 95 xs g):=by kernel_rfl
def u_[Xr]:WY C0 96=some fY:=by kernel_rfl
def Dq[Xr]:WY C0 97=some qY:=by kernel_rfl
def E7[Xr]:WY C0 98=some tZ:=by kernel_rfl
def uV[Xr]:Tg 98:=λ_ _ _=>by kernel_rfl
def rS[Xr]:WY C0 99=some eP:=by kernel_rfl
def g_[Xr]:Tg 99:=λ_ _ _=>by kernel_rfl
def qG[Xr]:WY C0 100=some el:=by kernel_rfl
def iz[Xr]:WY C0 101=some bY:=by kernel_rfl
def pd[Xr]:Tg 101:=λ_ _ _=>by kernel_rfl
def Dj[Xr]:WY C0 102=some qT:=by kernel_rfl
def zD[Xr]:WY C0 103=some gu:=by kernel_rfl
def B0[Xr]:WY C0 104=some oq:=by kernel_rfl
def GJ[Xr]:WY C0 105=some wg:=by kernel_rfl
def rT[Xr]:WY C0 106=some eS:=by kernel_rfl
def qF[Xr]:WY C0 108=some ej:=by kernel_rfl
def BV[Xr]:WY C0 111=some n_:=by kernel_rfl
def EW[Xr]:WY C0 116=some tT:=by kernel_rfl
def BX[Xr]:WY C0 117=some oh:=by kernel_rfl
def uY[Xr]:WY C0 123=some fQ:=by kernel_rfl
def EU[Xr]:WY C0 124=some tR:=by kernel_rfl
def EX[Xr]:WY C0 128=some tV:=by kernel_rfl
def u9[Xr]:WY C0 129=some fX:=by kernel_rfl
def GN[Xr]:WY C0 130=some wD:=by kernel_rfl
def rU[Xr]:WY C0 131=some aX:=by kernel_rfl
def nZ[Xr]:WY C0 132=some bh:=by kernel_rfl
def AW[Xr]:WY C0 133=some mU:=by kernel_rfl
def xN[Xr]:WY C0 134=some jl:=by kernel_rfl
def GI[Xr]:WY C0 146=some vV:=by kernel_rfl
def BY[Xr]:WY C0 147=some j7:=by kernel_rfl
def Dg[Xr]:WY C0 148=some qQ:=by kernel_rfl
def Id[Xr]:WY C0 150=some yE:=by kernel_rfl
def Ig[Xr]:WY C0 152=some yI:=by kernel_rfl
def Ih[Xr]:WY C0 153=some yJ:=by kernel_rfl
def GG[Xr]:WY C0 161=some vS:=by kernel_rfl
def CV[Xr](d:Nat)(xs:List AV)(g:G):ah C0 d 161 xs g=K3 ((I C0).call d 161 xs g):=by kernel_rfl
def AU[Xr]:WY C0 162=some mQ:=by kernel_rfl
def Df[Xr]:WY C0 163=some qP:=by kernel_rfl
def De[Xr]:WY C0 164=some qO:=by kernel_rfl
def ET[Xr]:WY C0 165=some gq:=by kernel_rfl
def gwX[Xr]:SC:=match WY C0 107 with|some ⟨_,_,.seq _ (@SC.seq (.seq _ (.cond _ x _)) _)⟩=>x|_=>.skip
def ccX[Xr]:SC:=match WY C0 72 with|some ⟨_,_,.seq _ (.seq _ (@SC.seq (.seq _ (.blk _ (.loop (.seq _ (.seq _ (@SC.seq (.blk _ (.seq _ (.seq _ (.seq _ (.cond _ x _))))) _)))))) _))⟩=>x|_=>.skip
def sU:SC:=sQ [oM 26 0,oM 4 26] (.ret)
def uS:SC:=.ops [oM 17 0,oM 18 0,o 19 (.raw (.call ⟨.builtin .cap,#[.tmp 18],#[31]⟩)),o 20 (.OK 1 (.t 17) [] [.t 19]),oM 21 1,o 22 (.raw (.call ⟨.builtin .append,#[.tmp 20,.tmp 21],#[31,3]⟩)),oM 23 0,oN 24 23,o 25 (.OK 1 (.t 22) [] [.t 24]),oM 0 25]
def sV:SC:=Xw (sQ [oM 8 1,oM 9 0,o 10 (.raw (.call ⟨.builtin .cap,#[.tmp 9],#[31]⟩)),oM 11 0,oN 12 11,Xk 13 .sub 10 12,Xk 14 .sub 8 13,oM 1 14] (sQ [oM 15 1,W0 16 .gtr 15 0] (Xf 16 uS (.skip)))) sU
def qX[Xr]:SF:=⟨27,[.tm 4],sQ [Wu 4] (Xw (sQ [oM 5 1,W0 6 .lss 5 0] (Xf 6 gwX (.skip))) sV)⟩
def iV:SC:=.ops [oA 22 11,oM 11 22]
def iT[Xr]:SC:=sQ [Xk 12 .lss 11 10] (Xw (WX 12 0) (Xw (.blk 1 (sQ [oX 13 9 11,oL 14 13,oM 5 14] (sQ [oM 15 3,oM 16 5,oN 17 16,Xk 18 .add 15 17,oM 3 18] (sQ [oM 19 3,W0 20 .lss 19 0] (Xf 20 ccX (.skip)))))) iV))
def iU:SC:=sQ [Xk 28 .lss 27 26] (Xw (WX 28 2) (Xw (.blk 3 (sQ [oX 29 25 27,oL 30 29,oM 8 30] (.ops [oM 31 6,oM 32 8,acq 33 1 8 31 32,oM 6 33]))) (.ops [oA 34 27,oM 27 34])))
def iW:SC:=sQ [oM 35 6,oM 2 35] (.ret)
def iX:SC:=sQ [oM 23 3,o 24 (.call 107 [.k (.XC),.t 23]),oM 6 24] (Xw (sQ [oM 25 0,oN 26 25,oK 27 0] (.blk 2 (.loop iU))) iW)
def fD[Xr]:SF:=⟨36,[.tm 2],sQ [Wu 2] (sQ [oK 3 0] (Xw (sQ [oM 9 0,oN 10 9,oK 11 0] (.blk 0 (.loop iT))) iX))⟩
def Dp[Xr]:WY C0 107=some qX:=by kernel_rfl
def AN[Xr](d:Nat)(xs:List AV)(g:G):ah C0 d 107 xs g=K3 ((I C0).call d 107 xs g):=by kernel_rfl
def tN[Xr]:WY C0 72=some fD:=by kernel_rfl
def q8[Xr](t:T)(g:G)(xs:List Od):SO.foot C0 t g (.call 72 xs)=am ((fe t xs).flatMap (aL g.h aF)):=by kernel_rfl
def qE[Xr](d:Nat)(xs:List AV)(g:G):ah C0 d 72 xs g=aj (I C0) d g 72 xs:=by kernel_rfl
def NZ[Xr]{d n:Nat}{rd:Option Nat}{t:T}:(cI C0 (.call ⟨.builtin .cap,#[.tmp n],#[31]⟩)).run (I C0) d rd t g=HX (Xs t n) g:=by
 have h:(cI C0 (.call ⟨.builtin .cap,#[.tmp n],#[31]⟩)).run (I C0) d rd t g=HX ((gp AV.undef n).run t) g:=by kernel_rfl
 rw[h,Wz];rfl
def KN[Xr]{d n m:Nat}{rd:Option Nat}{t:T}:(cI C0 (.call ⟨.builtin .append,#[.tmp n,.tmp m],#[31,3]⟩)).run (I C0) d rd t g=nA 1 8 [XE 0] (Xs t n) (Xs t m) g:=by
 have h:(cI C0 (.call ⟨.builtin .append,#[.tmp n,.tmp m],#[31,3]⟩)).run (I C0) d rd t g=nA 1 8 [XE 0] ((gp AV.undef n).run t) ((gp AV.undef m).run t) g:=by kernel_rfl
 rw[h,Wz,Wz];rfl
def pM:SC:=sQ [WR 13 2 3,oM 14 1,oL 15 5,RK 16 51 13 14 15,oM 12 16,OJ 17 12 0,OJ 18 12 1,o 9 (.alloc [.WQ]),W8 1 9 17,oM 8 18] (Xw (sQ [oM 19 8,W0 20 .neq 19 0] (Xf 20 (sQ [oM 21 8,oz (.store 1 (.t 6) (.k (.XC))),oz (.store 1 (.t 7) (.k (.XC))),oM 8 21] (.ret)) (.skip))) (Xw (sQ [oL 22 9,Ww 23 22,oF 24 5 23,oL 25 24,W0 26 .eql 25 0] (Xf 26 (sQ [oz (.store 1 (.t 6) (.k (.XC))),oz (.store 1 (.t 7) (.k (.XC))),oK 8 7] (.ret)) (.skip))) (sQ [oL 28 9,Wf 29 52 28,oM 27 29,OJ 30 27 0,OJ 31 27 1,o 10 (.alloc [XE 0]),W8 1 6 30,W8 1 10 31] (sQ [o 11 (.alloc [.WT])] (sQ [o 32 (.HN 70 [] [.t 9,.t 6,.t 10,.t 7,.t 5,.t 11]),W8 1 11 32] (sQ [oL 33 11,o 34 (.dyn (.t 33) [.k (.XC)])] (Xw (.W6 [0,0,1,7,15] [oL 35 6,oL 36 7,W8 1 6 35,W8 1 7 36,oK 8 0]) (.ret))))))))
def mO:SF:=⟨37,[.cell false 1 6,.cell false 1 7,.tm 8],sQ [Wp 3 0,Wp 5 2,o 6 (.alloc [.XC]),o 7 (.alloc [.XC]),oK 8 0] pM⟩
def eH:SC:=sQ [W0 49 .lss 48 3] (Xw (WX 49 0) (Xw (.blk 1 (sQ [o 50 (.ix false 3 1 (.t 47) (.t 48)),oM 14 50] (.ops [oM 51 14,o 52 (.dyn (.t 51) [])]))) (.ops [oA 53 48,oM 48 53])))
def eI:SC:=sQ [oz (.store 1 (.t 10) (qI 0))] (.ret)
def pN:SC:=sQ [WR 16 2 5,oM 17 1,oM 18 2,RK 19 51 16 17 18,oM 15 19,OJ 20 15 0,OJ 21 15 1,oM 11 20,W8 1 10 21] (Xw (sQ [oL 22 10,W0 23 .neq 22 0] (Xf 23 (sQ [oL 24 10,W8 1 10 24] (.ret)) (.skip))) (Xw (sQ [oM 25 3,oN 26 25,oM 27 2,oN 28 27,Xk 29 .neq 26 28,oM 30 29,WW 31 30 false 11,WW 32 30 false 3,og 33 30 false (.call 57 [.t 31,.t 32]),og 34 30 false (.not (.t 33)),SD 35 30 34] (Xf 35 (sQ [oz (.store 1 (.t 10) (qI 2))] (.ret)) (.skip))) (sQ [o 36 (.HN 73 [] [.t 10]),oz (.raw (.defer ⟨.value (.tmp 36),#[],#[]⟩))] (sQ [oM 37 11,oM 38 3,oM 39 4,o 40 (.build [.WQ,.XC,.XC] [(0,1),(1,1),(2,1)] [.t 37,.t 38,.t 39]),o 12 (.alloc [.WQ,.XC,.XC]),W8 3 12 40] (Xw (sQ [WR 41 3 12,o 42 (.HN 74 [.t 41] []),WR 43 3 12,o 44 (.HN 75 [.t 43] []),WR 45 3 12,o 46 (.HN 76 [.t 45] []),o 47 (.build [.WT,.WT,.WT] [(0,1),(1,1),(2,1)] [.t 42,.t 44,.t 46]),oK 48 0] (.blk 0 (.loop eH))) eI)))))
def mP:SF:=⟨54,[.cell false 1 10],sQ [Wp 5 0,o 10 (.alloc [XE 0])] pN⟩
def mi:SC:=sQ [Xk 32 .lss 31 30] (Xw (WX 32 0) (Xw (.blk 1 (sQ [oM 33 31,oM 8 33] (.W6 [0,0,0,4,14,30,63] [oL 34 6,oM 35 0,oM 36 8,KA 37 36,o 38 (.NF 1 2 [.XC] [0,1] [.t 35,.t 37]),Wf 39 72 38,o 40 (.dyn (.t 34) [.t 39])]))) (.ops [oA 41 31,oM 31 41])))
def dQ:SF:=⟨42,[],.seq (sQ [oL 9 1,oM 10 0,oL 11 2,oL 12 3,QG 13 71 9 10 11 12] (Xf 13 (sQ [oL 14 4,oM 15 0,PL 16 15,acq 17 1 24 14 16,W8 1 4 17] (.ret)) (.skip))) (Xw (.quiet [oL 18 1,Ww 19 18,oF 20 0 19,oF 21 1 20,oL 22 21,oL 23 5,oM 24 0,oN 25 24,oX 26 23 25,oL 27 26,Wb 28 3 22 27,oF 29 0 28,oL 30 29,oK 31 0]) (.blk 0 (.loop mi)))⟩
def dR:SF:=⟨3,[],sQ [o 1 (.raw (.call ⟨.builtin .recover,#[],#[]⟩)),o 2 (.eq true (.iface true) (.t 1) (.k (.WB)))] (Xf 2 (.ops [oz (.store 1 (.t 0) (qI 190))]) (.skip))⟩
def iD:SC:=.ops [oA 20 7,oM 7 20]
def iC:SC:=sQ [Xk 8 .lss 7 6] (Xw (WX 8 0) (Xw (.blk 1 (sQ [oM 9 7,oX 10 5 7,oL 11 10,oM 2 9,oM 3 11] (sQ [oF 12 0 1,oL 13 12,oM 14 3,WD 15 57 13 14,RH 16 15] (Xf 16 (.ops [oM 17 2,o 18 (.build [XE 0] [(0,1)] [.t 17]),o 19 (.raw (.makeInterface 175 (.tmp 18))),oz (.raw (.panic (.tmp 19)))]) (.skip))))) iD))
def jv:SC:=sQ [oF 4 2 1,oL 5 4,oN 6 5,oK 7 0] (.blk 0 (.loop iC))
def fm:SF:=⟨21,[],sQ [Wp 1 0] jv⟩
def pI:SC:=.ops [oA 59 34,oM 34 59]
def dF:SC:=sQ [Xk 35 .lss 34 33] (Xw (WX 35 2) (Xw (.blk 3 (sQ [oM 36 34,oM 7 36] (sQ [oF 37 0 1,oL 38 37,oM 39 5,WD 40 101 38 39,oM 41 6,Xk 42 .mul 40 41,oM 43 7,Xk 44 .add 42 43,oM 8 44] (sQ [oM 45 3,oM 46 8,oX 47 45 46,oL 48 47,oA 49 48,oX 50 45 46,W8 1 50 49] (sQ [oM 51 3,oM 52 8,oX 53 51 52,oL 54 53,W0 55 .gtr 54 1] (Xf 55 (.ops [oM 56 4,o 57 (.build [XE 0] [(0,1)] [.t 56]),o 58 (.raw (.makeInterface 175 (.tmp 57))),oz (.raw (.panic (.tmp 58)))]) (.skip))))))) pI))
def gK:SC:=.ops [oA 60 23,oM 23 60]
def gJ:SC:=sQ [Xk 24 .lss 23 22] (Xw (WX 24 0) (Xw (.blk 1 (sQ [oM 25 23,oX 26 21 23,oL 27 26,oM 4 25,oM 5 27] (sQ [oM 28 2,oM 29 5,oN 30 29,o 31 (.OK 1 (.t 28) [.t 30] []),Wf 32 98 31,oM 6 32] (sQ [oM 33 6,oK 34 0] (.blk 2 (.loop dF)))))) gK))
def gL:SC:=sQ [oM 61 3,o 62 (.call 94 [.t 61,.k (XE 0)])] (Xf 62 (.ops [oF 63 2 1,oL 64 63,oN 65 64,o 66 (.build [XE 0] [(0,1)] [.t 65]),o 67 (.raw (.makeInterface 175 (.tmp 66))),oz (.raw (.panic (.tmp 67)))]) (.skip))
def iB:SC:=Xw (.quiet [oF 9 0 1,oL 10 9,oF 11 0 1,oL 12 11,Ww 13 12,oF 14 2 13,oL 15 14,WD 16 99 10 15,oM 2 16]) (sQ [oM 17 2,Wf 18 98 17,o 19 (.VF 1 8 [XE 0] (.t 18) (.t 18)),oM 3 19] (Xw (sQ [oF 20 2 1,oL 21 20,oN 22 21,oK 23 0] (.blk 0 (.loop gJ))) gL))
def eK:SF:=⟨68,[],sQ [Wp 1 0] iB⟩
def gI:SC:=.ops [oA 29 13,oM 13 29]
def gH:SC:=sQ [Xk 14 .lss 13 12] (Xw (WX 14 0) (Xw (.blk 1 (sQ [oM 15 13,oX 16 11 13,oL 17 16,oM 3 15,oM 4 17] (sQ [oF 18 0 1,oL 19 18,oM 20 4,oF 21 1 1,oL 22 21,oM 23 2,QG 24 71 19 20 22 23,RH 25 24] (Xf 25 (.ops [oM 26 3,o 27 (.build [XE 0] [(0,1)] [.t 26]),o 28 (.raw (.makeInterface 175 (.tmp 27))),oz (.raw (.panic (.tmp 28)))]) (.skip))))) gI))
def iA:SC:=sQ [oF 5 0 1,oL 6 5,oF 7 1 1,oL 8 7,WD 9 108 6 8,oM 2 9] (sQ [oF 10 2 1,oL 11 10,oN 12 11,oK 13 0] (.blk 0 (.loop gH)))
def eJ:SF:=⟨30,[],sQ [Wp 1 0] iA⟩
def AS[Xr]:WY C0 23=some mO:=by kernel_rfl
def yj[Xr](d:Nat)(xs:List AV)(g:G):ah C0 d 23 xs g=aj (I C0) d g 23 xs:=by kernel_rfl
def AT[Xr]:WY C0 27=some mP:=by kernel_rfl
def nX[Xr]:WY C0 70=some dQ:=by kernel_rfl
def nY[Xr]:WY C0 73=some dR:=by kernel_rfl
def tK[Xr]:WY C0 74=some fm:=by kernel_rfl
def rQ[Xr]:WY C0 75=some eK:=by kernel_rfl
def rP[Xr]:WY C0 76=some eJ:=by kernel_rfl
@[reducible] def OQ(l:List Bool):List Bool:=false::false::l
@[reducible] def KI(l:List Bool):List Bool:=false::false::false::false::l
@[reducible] def OO(l:List Bool):List Bool:=false::false::false::false::false::false::false::false::l
def uB{α:Type}{f:Nat->α->Nat->α->Bool}{i:Nat}{x:α}:∀{l:List α} {j:Nat},(∀b y,l[b]?=some y->f i x (j+b) y=true)->gk f i x j l=true
 |[],_,_=>rfl
 | y::r,j,h=>by simp only[gk,XM];refine⟨by simpa using h 0 y rfl,uB λb z hb=>?_⟩;have:=h (b+1) z (by simpa using hb);rwa [show j+(b+1)=j+1+b by omega]at this
def Bn{α:Type}{f:Nat->α->Nat->α->Bool}:∀{l:List α} {i:Nat},(∀a b x y,a<b->l[a]?=some x->l[b]?=some y->f (i+a) x (i+b) y=true)->mf f i l=true
 |[],_,_=>rfl
 | x::r,i,h=>by
  simp only[mf,XM];refine⟨uB λb y hb=>?_,Bn λa b x' y hab ha hb=>?_⟩
  ·have:=h 0 (b+1) x y (by omega) rfl (by simpa using hb);rwa [Zf,show i+(b+1)=i+1+b by omega]at this
  ·have:=h (a+1) (b+1) x' y (by omega) (by simpa using ha) (by simpa using hb);rwa [show i+(a+1)=i+1+a by omega,show i+(b+1)=i+1+b by omega]at this
def BG{pm:List Nat}:∀{l:List W7} {i:Nat},(∀f∈l,f.lk.sr=[])->wZ pm i l=true
 |[],_,_=>rfl
 | x::r,i,h=>by simp only[wZ,h x (by simp)];exact BG λf hf=>h f (by simp[hf])
def Qt(pm:List Nat)(ws:List Bool)(L:List (Nat×Nat))(i j:Nat):Bool:=(pm.getD j 0).testBit i || (!(ws.getD i false)&&!(ws.getD j false)) || L.contains (i,j)
def SE(pm:List Nat)(ws:List Bool)(L:List (Nat×Nat)):Bool:=(List.range ws.length).all λj=>(List.range j).all λi=>Qt pm ws L i j
def aE{pm:List Nat}{fs:List W7}(ws:List Bool)(L:List (Nat×Nat))(hw:Xl (λ(f:W7) (w:Bool)=>f.lk.sr=[]/\(w=false->f.wr=[])) fs ws)(hd:SE pm ws L=true)
  (hL:∀p∈L,∀x y,fs[p.1]?=some x->fs[p.2]?=some y->bX x y=true):t9 pm fs=true:=by
 unfold t9;rw[aa,XO]
 ·exact BG λf hf=>by obtain⟨i,hi,rfl⟩:=Y7.1 hf;obtain⟨w,-,h⟩:=hw.get (XJ hi);exact h.1
 ·refine Bn λa b x y hab ha hb=>?_;simp only[YT];let⟨wa,d,ka⟩:=hw.get ha;let⟨wb,k,kb⟩:=hw.get hb;have c:=(XI.1 k).1;have:=XQ.1 (XQ.1 hd b (X0.2 c)) a (X0.2 hab);simp only[Qt,YE]at this;rcases this with (h|h)|h
  ·rw[h,ZV]
  ·simp only[Zs,d,k,XP,XM,Zk]at h;have ex:=ka.2 h.1;have ey:=kb.2 h.2;simp only[bX,kH,gx,ex,ey,VT,abq]
  ·rw[hL (a,b) (aad.1 h) x y ha hb,abq]
def HI{x y:W7}{b:Nat}(hx:∀i∈x.wr,b<=i)(hy:y.wr=[])(hb:y.lk.big=false)(hr:∀i∈y.lk.rd,i<b)(hs:y.lk.sr=[]):bX x y=true:=by
 have k:meets x.wr []=false:=by simp[meets]
 have a:meets x.wr y.lk.rd=false:=by simp only[meets,abT];intro i hi h;have h1:=hx i hi;have h2:=hr i (aad.1 h);omega
 simp only[bX,kH,gx,hy,hb,hs,k,a,Uf,Zl,ZK,VT,aa1]
 split<;>rfl
section
variable {l:List Nat}
structure NO where
 Xx:Int
 frm:List Int
 Rl:List Int
 out:List Int
structure WJ where
 Xz:Int
 roots:List (List Int)
 XD:List NO
structure Node where
 Xx:Int
 XA:List Int
 rows:List (List Int)
structure Xb where
 Xz:Int
 XD:List Node
structure Wl where
 XF:List Int
 Xv:List Int
 w:List Int
instance : Rp NO:=Rp.via λm:NO=>(m.Xx,m.frm,m.Rl,m.out)
instance : Rp WJ:=Rp.via λm:WJ=>(m.Xz,m.roots,m.XD)
instance : Rp Node:=Rp.via λm:Node=>(m.Xx,m.XA,m.rows)
instance : Rp Xb:=Rp.via λm:Xb=>(m.Xz,m.XD)
instance : Rp Wl:=Rp.via λm:Wl=>(m.XF,m.Xv,m.w)
section
variable {P:Nat->Prop}{k:Nat}{h:H}{cs:List AV}
def cE{m:Node}:Rp.rp P k h m cs↔∃a b,cs=[XE m.Xx,a,b]/\Xu P k h m.XA a/\Xu P k h m.rows b:=by
 constructor
 ·rintro⟨c1,c,rfl,h1,d1,d2,rfl,⟨a,rfl,h2⟩,⟨b,rfl,h3⟩⟩;rw[aK.1 h1];exact⟨a,b,rfl,h2,h3⟩
 ·rintro⟨a,b,rfl,h2,h3⟩;exact⟨[XE m.Xx],[a,b],rfl,aK.2 rfl,[a],[b],rfl,⟨a,rfl,h2⟩,⟨b,rfl,h3⟩⟩
def dh{m:Xb}:Rp.rp P k h m cs↔∃a,cs=[XE m.Xz,a]/\Xu P k h m.XD a:=by
 constructor
 ·rintro⟨c1,b,rfl,h1,⟨a,rfl,h2⟩⟩;rw[aK.1 h1];exact⟨a,rfl,h2⟩
 ·rintro⟨a,rfl,h2⟩;exact⟨[XE m.Xz],[a],rfl,aK.2 rfl,⟨a,rfl,h2⟩⟩
end
def Xu.len{α:Type} [Rp α]{P:Nat->Prop}{k:Nat}{h:H}{l:List α}{v:AV}(r:Xu P k h l v)(g:G):bC .slice v g=.val (XE (l.length:Int)):=by let⟨rows,h1,h2⟩:=r.rows;rw[bQ h1,h2.len]
def Xu.tree{α:Type} [Rp α]{k k':Nat}{h h':H}{l:List α}{v:AV}(r:Xu Xt k h l v)(hk:k<=k'):Xu Xt k' h' l v:=by let⟨w,hw,q⟩:=Rp.tree (P:=Xt) (k':=k') (h':=h') (show Rp.rp Xt k h l [v] from ⟨v,rfl,r⟩) hk;cases hw;exact q
def aB{α:Type} [Rp α]{P:Nat->Prop}{k:Nat}{h:H}{l:List α}(r:Xu P k h l v)(d:Nat)(hd:Rp.dp (List α)<=20:=by decide) :
  ∃v',Hx.Xm h d aF v=some v'/\∀h',Xu Xt (max k d) h' l v':=by
 let⟨v',e,w,hw,q⟩:=mK (aI l hd) (by decide) d (show One l P k h v from ⟨v,rfl,r⟩);cases hw;exact⟨v',e,λh'=>q.tree (XH _)⟩
theorem Xu.all{α:Type} [Rp α]{k:Nat}{h:H}{l:List α}(r:Xu Xt k h l v) :
  ∃rows:List (List AV),(∀h',ak h' (Rp.sz α) v=some rows)/\rows.length=l.length/\(∀(i:Nat) (x:α),l[i]?=some x->∃row,rows[i]?=some row/\Rp.rp Xt k .nil x row)/\(0<l.length->px v=true):=by
 have r0:=(r.tree (h':=.nil) (XH _));obtain⟨rows,h1,h2⟩:=r0.rows;refine⟨rows,λh'=>?_,h2.len.symm,λi x hi=>h2.get hi,λhl=>Cz h1 (i:=0) (by rw[<-h2.len];exact hl)⟩;rw[<-h1];exact BA λid ep off len lim e=>by subst e;exact r.2.1.elim
abbrev UT (k:Nat)(l:List Nat)(r:AV):Prop:=One l Xt k .nil r
def UT.sl{k:Nat}{r:AV}(h:UT k l r)(h':H):Xu Xt k h' l r:=by let⟨w,hw,q⟩:=h;cases hw;exact q.tree (XH _)
def tk{P:Nat->Prop}{k:Nat}{h:H}(r:Xu P k h l v):∀x∈l,x<2^64:=by let⟨rows,h1,h2⟩:=r.rows;intro x hx;let⟨i,hi,e⟩:=Y7.1 hx;let⟨row,h3,h4⟩:=h2.get (i:=i) (a:=x) (by rw[XJ hi,e]);exact (Hj.1 h4).2
def Own.nats{b:Nat}{k:Nat}(h:Own g b v 1 (l.map cu))(hl:l.length<2^63)(hb:∀x∈l,x<2^64):One l (λ_=>True) k g.h v:=by
 refine⟨v,rfl,Own.sl h hl ?_ λ_ _=>trivial⟩;clear h hl
 induction l with
 |nil=>trivial
 |cons a l ih=>exact⟨Hj.2 ⟨rfl,hb a (by simp)⟩,ih λx hx=>hb x (by simp[hx])⟩
def bS(p:Nat->Bool)(j:Nat):(List.range (j+1)).all p=((List.range j).all p&&p j):=by rw[YF,abw];simp
def dI{p:Nat->Bool}{j n:Nat}(h:j<n)(hp:p j=false):(List.range n).all p=false:=by rw[List.all_eq_false];exact⟨j,X0.2 h,by rw[hp];decide⟩
end
section
def Tb(g:G)(b:Nat)(v:AV):Nat->Prop:=λi=>b<=i/\i<g.nx/\W5 v≠some i
def rq{α:Type} [Rp α](g:G)(b:Nat)(k:Nat)(v:AV)(l:List α):Prop:=∃rows,Own g b v (Rp.sz α) rows/\Xl (Rp.rp (Tb g b v) k g.h) l rows
variable {α:Type} [Rp α]{g g':G}{b k:Nat}{v:AV}{l:List α}
def rq.XC:rq g b k .XC ([]:List α):=⟨[],.inl ⟨rfl,rfl⟩,trivial⟩
def rq.sl(h:rq g b k v l)(hl:l.length<2^63):Xu (λi=>b<=i/\i<g.nx) k g.h l v:=by let⟨rows,h1,h2⟩:=h;exact Own.sl h1 hl (h2.mono λx cs r=>Rp.mono r (λi hi=>⟨⟨hi.1,hi.2.1⟩,rfl⟩) (XH _)) λi hi=>h1.lt hi
def rq.fr(h:rq g b k v l)(hn:g.nx<=g'.nx)(hf:∀i,b<=i->i<g.nx->g'.h.get i=g.h.get i):rq g' b k v l:=by let⟨rows,h1,h2⟩:=h;exact⟨rows,h1.fr hn λi hi=>hf i (h1.lt hi).1 (h1.lt hi).2,h2.mono λx cs r=>Rp.mono r (λi hi=>⟨⟨hi.1,XX hi.2.1 hn,hi.2.2⟩,hf i hi.1 hi.2.1⟩) (XH _)⟩
def rq.step(h:rq g b k v l)(f:Fr g g'):rq g' b k v l:=h.fr f.1 λi _ hi=>f.2 i hi
def rq.lt(h:rq g b k v l){i:Nat}(hi:W5 v=some i):b<=i/\i<g.nx:=by obtain⟨rows,h1,-⟩:=h;exact h1.lt hi
def vC{x:AV}{y:α}{cs:List AV}{bytes:Nat}{K:AV->G->Prop}{D:Xo->Prop}(hv:rq g b k v l)(hx:ak g.h (Rp.sz α) x=some [cs])(hy:Rp.rp (Tb g b v) k g.h y cs)(hb:b<=g.nx)
  (hr:(l.length+1)*bytes<=aH)
  (kk:∀v' g',rq g' b k v' (l++[y])->g.nx<=g'.nx->(∀i,i<g.nx->W5 v≠some i->g'.h.get i=g.h.get i)->(W5 v'=W5 v\/∃i,W5 v'=some i/\g.nx<=i)->(∀i∈g'.lg,i∈g.lg\/b<=i)->K v' g') :
  (cZ (Rp.sz α) bytes v x g).sat K g D:=by
 let⟨rows,h1,h2⟩:=hv;refine aM h1 hx hb (by rw[<-h2.len];exact hr) λv' g' hv' hn hf hvid hlg=>kk v' g' ⟨rows++[cs],hv',?_⟩ hn hf hvid hlg;have up:∀(z:α) (c:List AV),Rp.rp (Tb g b v) k g.h z c->Rp.rp (Tb g' b v') k g'.h z c:=λz c r=>Rp.mono r (λi hi=>⟨⟨hi.1,XX hi.2.1 hn,λe=>by
  rcases hvid with e2|⟨j,e2,a⟩
  ·rw[e2]at e;exact hi.2.2 e
  ·rw[e2]at e;cases e;have:=hi.2.1;omega⟩,hf i hi.2.1 hi.2.2⟩) (XH _)
 exact (h2.mono up).append ⟨up y cs hy,trivial⟩
end
def xh{C:Xg}{nt d:Nat}{rd:Option Nat}{c:Code}{t:T}{df:List Xo}{Q:QT}(h:wp C d rd (cF C nt c) Q t df g):((I C).code nt d rd c t df g).sat Q:=by rw[JP];exact Ry _ _ _ _ _ h
end
end Hx
