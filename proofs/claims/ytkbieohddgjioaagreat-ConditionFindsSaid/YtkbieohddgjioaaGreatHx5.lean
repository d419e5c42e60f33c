/- A part of the proof: what the functions of the chapter compute. -/
import Derived.Test.YtkbieohddgjioaaGreatRows
import Derived.KernelRfl
import Derived.Test.YtkbieohddgjioaaGreatHx4
set_option linter.all false
set_option maxRecDepth 20000
set_option maxHeartbeats 8000000
namespace Hx
open Go
noncomputable section
variable {v:AV}
end
end Hx
section
namespace Go.Proofs.YtkbieohddgjioaaGreat.Gen
open Hx
noncomputable def cfg0:Cfg:={ P:=Tryz.prog,iso:=λf=>Nat.testBit 85813053817982002381904034765232832929400356863 f,ext:=λ_=>none,glob:=λ_=>none }
theorem cfg0Ok:CfgOk cfg0:=CfgOk.plain (by kernel_rfl) (by kernel_rfl)
noncomputable def cfgA:Cfg:=cfg0.add 55 (K3 cfg0 1000 55)
theorem cfgAOk:CfgOk cfgA:=cfg0Ok.add (Jy cfg0Ok)
noncomputable def cfg:Cfg:=cfgA.add 18 (K3 cfgA 1000 18)
theorem cfgOk:CfgOk cfg:=cfgAOk.add (Jy cfgAOk)
theorem wakes_run:an (sem cfg 20000) 1 G.empty 5 []=.val (.bool true):=by kernel_rfl
noncomputable def cfgW:Cfg:=cfg0.add 5 (Av (.bool true))
theorem cfgWOk:CfgOk cfgW:=cfg0Ok.add (ExtOk.cfg (C:=cfg) (C':=cfg0) rfl rfl (KM cfgOk wakes_run))
theorem inl55:ExtOk cfg0 55 (Cp cfg0 55):=PS cfg0Ok
noncomputable def cfg1:Cfg:=cfgW.add 55 (Cp cfg0 55)
theorem cfg1Ok:CfgOk cfg1:=cfgWOk.add (ExtOk.cfg (C:=cfg0) (C':=cfgW) rfl rfl inl55)
end Go.Proofs.YtkbieohddgjioaaGreat.Gen
end
namespace Hx
open Go
noncomputable section
variable {v:AV}
@[match_pattern,reducible] def ZJ(x:Int):AV:=.int .i64 x
@[match_pattern,reducible] def ZK(i:Nat):AV:=.hptr i 0 0 0
@[match_pattern,reducible] def ZL(x:Int):AV:=.int .u64 x
@[reducible] def Y7 (d:Nat)(p:BinOp)(a b:Nat):SI:=o d (.bin p (.t a) (.t b))
@[reducible] def Y8 (d:Nat)(p:BinOp)(a:Nat)(z:Int):SI:=o d (.bin p (.t a) (qI z))
@[reducible] def Y9 (d n a:Nat):SI:=o d (.load true n (.t a))
@[reducible] def Y_ (d a i:Nat):SI:=o d (.ext (.t a) i)
@[reducible] def Za (n a b:Nat):SI:=oz (.store n (.t a) (.t b))
@[reducible] def Zb (d a:Nat):SI:=o d (.nilc (.t a))
@[reducible] def Zc (d a b:Nat):SI:=o d (.pick (.t a) (.k (.bool true)) (.t b))
@[reducible] def Zd (d a b:Nat):SI:=o d (.pick (.t a) (.t b) (.k (.bool false)))
@[reducible] def Ze (d n a b:Nat):SI:=o d (.ixs n (.t a) (.t b))
@[reducible] def Zf (d s:Nat)(w:Bool)(a:Nat):SI:=og d s w (.mv (.t a))
@[reducible] def Zg (d s:Nat)(w:Bool)(a:Nat):SI:=og d s w (.load false 1 (.t a))
@[reducible] def Zh (d s:Nat)(w:Bool)(n a:Nat):SI:=og d s w (.fad n (.t a))
@[reducible] def Zi (d s:Nat)(w:Bool)(p:BinOp)(a b:Nat):SI:=og d s w (.bin p (.t a) (.t b))
@[reducible] def Zj (d s:Nat)(w:Bool)(p:BinOp)(a:Nat)(z:Int):SI:=og d s w (.bin p (.t a) (qI z))
@[reducible] def Zk (d s:Nat)(w:Bool)(a:Nat):SI:=og d s w (.len .slice (.t a))
@[reducible] def Zq(d f a:Nat):SI:=o d (.call f [.t a])
@[reducible] def Zr(d f a b:Nat):SI:=o d (.call f [.t a,.t b])
@[reducible] def Zs(d f a b c:Nat):SI:=o d (.call f [.t a,.t b,.t c])
@[reducible] def Zt(d f a b c e:Nat):SI:=o d (.call f [.t a,.t b,.t c,.t e])
@[reducible] def Zu(d m n a b:Nat):SI:=o d (.app m n (.t a) (.t b))
@[reducible] def Zv(d:Nat)(b:Bool):SI:=o d (.mv (.k (.bool b)))
@[reducible] def Zw(d:Nat):SI:=o d (.mv (.k .nils))
@[reducible] def Zx(d:Nat)(p:BinOp)(a:Nat)(k:IntKind)(z:Int):SI:=o d (.bin p (.t a) (.k (.int k z)))
@[reducible] def Zy(d a:Nat):SI:=o d (.not (.t a))
@[reducible] def Zz(d:Nat)(k:IntKind)(a:Nat):SI:=o d (.conv k (.t a))
@[reducible] def ZA(d s:Nat)(w:Bool)(n a b:Nat):SI:=og d s w (.ixs n (.t a) (.t b))
@[reducible] def ZB(d a:Nat):SI:=o d (.bsl 1 1 [ZJ 0] [0] [.t a])
@[reducible] def ZC(d a:Nat):SI:=o d (.bsl 1 1 [.nils] [0] [.t a])
@[reducible] def ZD(d a:Nat):SI:=o d (.box (.t a))
@[reducible] def ZE(d m n a b:Nat):SI:=o d (.ixa m n (.t a) (.t b))
@[reducible] def ZF(a b c d e f:Nat):SC:=.ops [oM a b,oA c d,oM e f]
@[reducible] def ZG(a b:Nat):SC:=.cond (.t a) .skip (.exit b)
@[reducible] def ZH(a:Nat)(x y:SC):SC:=.cond (.t a) x y
@[reducible] def ZI(x y:SC):SC:=.seq x y
def C0:Cfg:=Go.Proofs.YtkbieohddgjioaaGreat.Gen.cfg1
def LR:Cfg:=Go.Proofs.YtkbieohddgjioaaGreat.Gen.cfg0
theorem RD:CfgOk LR:=Go.Proofs.YtkbieohddgjioaaGreat.Gen.cfg0Ok
def da:SC:=sQ [Y8 73 .lss 72 3] (ZI (ZG 73 6) (ZI (.blk 7 (sQ [o 74 (.ix false 3 1 (.t 71) (.t 72)),oM 24 74] (sQ [Y9 76 2 18,oM 77 20,oM 78 22,oM 79 24,Zt 80 11 76 77 78 79,oM 75 80,Y_ 81 75 0,Y_ 82 75 1,Y_ 83 75 2,o 25 (.alloc [ZJ 0,ZJ 0]),Za 2 25 81,oM 26 82,oM 27 83] (sQ [Y9 85 2 18,oM 86 20,oM 87 22,oM 88 24,Zt 89 12 85 86 87 88,oM 84 89,Y_ 90 84 0,Y_ 91 84 1,Y_ 92 84 2,o 28 (.alloc [ZJ 0,ZJ 0]),Za 2 28 90,oM 29 91,oM 30 92] (sQ [Y9 93 2 25,Y9 94 2 28,o 95 (.eq true (.flat [.int .i64,.int .i64]) (.t 93) (.t 94)),oM 96 95,Zf 97 96 false 26,Zf 98 96 false 29,Zi 99 96 false .neq 97 98,Zc 100 96 99,oM 101 100,Zf 102 101 false 27,Zf 103 101 false 30,Zi 104 101 false .neq 102 103,Zc 105 101 104] (ZH 105 (sQ [Zv 14 false] (.ret)) (.skip))))))) (.ops [oA 106 72,oM 72 106])))
def gq:SC:=.ops [oA 107 63,oM 63 107]
def dh:SC:=sQ [Y8 64 .lss 63 2] (ZI (ZG 64 4) (ZI (.blk 5 (sQ [o 65 (.ix false 2 1 (.t 62) (.t 63)),oM 22 65] (sQ [oM 66 6,oM 67 6,Zz 68 .u64 67,Zx 69 .rem 68 .u64 40,Zz 70 .i64 69,o 71 (.build [ZJ 0,ZJ 0,ZJ 0] [(0,1),(1,1),(2,1)] [.t 66,.k (ZJ 0),.t 70]),oK 72 0] (.blk 6 (.loop da))))) gq))
def gt:SC:=.ops [oA 108 55,oM 55 108]
def bT:SC:=sQ [Y8 56 .lss 55 2] (ZI (ZG 56 2) (ZI (.blk 3 (sQ [o 57 (.ix false 2 1 (.t 54) (.t 55)),oM 20 57] (sQ [oM 58 16,Y9 59 3 11,oM 60 16,Zr 61 10 59 60,o 62 (.build [.nils,.nils] [(0,1),(1,1)] [.t 58,.t 61]),oK 63 0] (.blk 4 (.loop dh))))) gt))
def gu:SC:=.ops [oA 109 43,oM 43 109]
def gm:SC:=sQ [Y8 44 .lss 43 2] (ZI (ZG 44 0) (ZI (.blk 1 (sQ [o 45 (.ix true 2 2 (.t 42) (.t 43)),o 18 (.alloc [ZJ 0,.nils]),Za 2 18 45] (ZI (.quiet [Y9 46 9 9,Y9 47 2 15,Zr 48 9 46 47,oM 49 5,oM 50 5,oN 51 50,o 52 (.mn (.t 51) (qI 10)),o 53 (.slc 1 (.t 49) [] [.t 52]),o 54 (.build [.nils,.nils] [(0,1),(1,1)] [.t 48,.t 53]),oK 55 0]) (.blk 2 (.loop bT))))) gu))
def gv:SC:=sQ [Zv 14 true] (.ret)
def gR:SC:=ZI (sQ [o 31 (.call 5 []),Zy 32 31] (ZH 32 (sQ [Zv 14 false] (.ret)) (.skip))) (sQ [Y9 33 3 7,Zq 34 6 33,o 15 (.alloc [ZJ 0,.nils]),Za 2 15 34] (sQ [oF 35 1 15,oL 36 35,oN 37 36,Y9 38 8 10,Zr 39 7 37 38,oM 16 39] (ZI (sQ [Y9 40 3 7,Y9 41 4 8,Zr 42 8 40 41,oK 43 0] (.blk 0 (.loop gm))) gv)))
def eo:SF:=⟨110,[.tm 14],sQ [ZD 7 0,ZD 8 1,ZD 9 2,ZD 10 3,ZD 11 4,Zv 14 false] gR⟩
def th:SC:=sQ [oM 65 6,oM 66 9,Y7 67 .mul 65 66,oM 6 67] (.feet [0,1,0,0,12,28,0,127,255,511] [oF 68 1 4,oL 69 68,oM 70 5,oM 71 7,oX 72 70 71,oL 73 72,oM 74 9,Ze 75 3 69 73,oF 76 0 75,Za 1 76 74])
def tj:SC:=sQ [oF 50 0 8,oL 51 50,Zx 52 .rem 51 .u8 2,Zz 53 .i64 52,o 54 (.bin .add (qI 2) (.t 53)),oM 9 54] (ZI (sQ [oM 55 6,oM 56 9,Y7 57 .mul 55 56,oM 58 3,Y8 59 .sub 58 1,oM 60 7,Y7 61 .sub 59 60,Zz 62 .u64 61,Y7 63 .shl 57 62,Y8 64 .gtr 63 100] (ZH 64 (.ops [oK 9 2]) (.skip))) th)
def j_:SC:=ZF 38 7 39 38 7 39
def fG:SC:=ZI (sQ [oM 35 7,oM 36 3,Y7 37 .lss 35 36] (ZG 37 0)) (ZI (.blk 1 (sQ [o 8 (.alloc [.int .u8 0,.int .u8 0,.nils])] (ZI (sQ [oM 40 7,oF 41 1 1,oL 42 41,oN 43 42,Y7 44 .lss 40 43] (ZH 44 (.ops [oF 45 1 1,oL 46 45,oM 47 7,Ze 48 3 46 47,Y9 49 3 48,Za 3 8 49]) (.skip))) tj))) j_)
def ke:SC:=ZF 104 14 105 104 14 105
def fH:SC:=ZI (sQ [oM 101 14,oM 102 10,Y7 103 .lss 101 102] (ZG 103 6)) (ZI (.blk 7 (sQ [oM 106 5,oM 107 14,oX 108 106 107,oL 109 108,oM 110 13,Y7 111 .eql 109 110,oM 112 111,Zh 113 112 true 1 11,Zg 114 112 true 113,Zf 115 112 true 14,og 116 112 true (.conv .u64 (.t 115)),Zi 117 112 true .shr 114 116,og 118 112 true (.bin .and (.t 117) (.k (.int .u8 1))),og 119 112 true (.bin .eql (.t 118) (.k (.int .u8 1))),Zd 120 112 119,oM 121 120,Zh 122 121 true 1 4,Zg 123 121 true 122,Zf 124 121 true 12,ZA 125 121 true 3 123 124,Zh 126 121 true 1 125,Zg 127 121 true 126,Zk 128 121 true 127,Zj 129 121 true .lss 128 3,Zd 130 121 129] (ZH 130 (.feet [0,1,0,0,8,0,56,120,248,0,512,2040,4095,8191,16383] [oF 131 1 4,oL 132 131,oM 133 12,oF 134 1 4,oL 135 134,oM 136 12,Ze 137 3 135 136,oF 138 1 137,oL 139 138,oM 140 13,ZB 141 140,Zu 142 1 8 139 141,Ze 143 3 132 133,oF 144 1 143,Za 1 144 142]) (.skip)))) ke)
def kg:SC:=ZF 99 13 100 99 13 100
def fI:SC:=ZI (sQ [oM 96 13,oM 97 3,Y7 98 .lss 96 97] (ZG 98 4)) (ZI (.blk 5 (sQ [oK 14 0] (.blk 6 (.loop fH)))) kg)
def fJ:SC:=ZI (sQ [oM 145 15,Y9 146 2 4,oM 147 12,Zr 148 23 146 147,Zq 149 22 148,Y7 150 .lss 145 149] (ZG 150 8)) (ZI (.blk 9 (.feet [0,1,0,0,8,0,56,120,248,0,512,0,2048,0,14336,30720,63488,0,131072,0,0,1048576,0,7340032,15728640,32505856,66060288,133693440,268434944,536870400,1073741816,2147483647,4294967295,8589934591] [oF 153 1 4,oL 154 153,oM 155 12,oF 156 1 4,oL 157 156,oM 158 12,Ze 159 3 157 158,oF 160 2 159,oL 161 160,oF 162 0 4,oL 163 162,oF 164 1 4,oL 165 164,oM 166 12,Ze 167 3 165 166,oF 168 0 167,oL 169 168,oF 170 2 11,oL 171 170,oM 172 15,oF 173 1 4,oL 174 173,oM 175 12,Ze 176 3 174 175,oF 177 0 176,oL 178 177,oA 179 178,Y7 180 .mul 172 179,Zt 181 24 163 169 171 180,ZC 182 181,Zu 183 1 24 161 182,Ze 184 3 154 155,oF 185 2 184,Za 1 185 183])) (ZF 151 15 152 151 15 152))
def kh:SC:=sQ [oK 15 0] (.blk 8 (.loop fJ))
def jq:SC:=sQ [oM 92 5,oM 93 10,oX 94 92 93,oL 95 94,oM 12 95] (ZI (sQ [oK 13 0] (.blk 4 (.loop fI))) kh)
def jr:SC:=ZF 80 10 81 80 10 81
def eV:SC:=ZI (sQ [oM 77 10,oM 78 3,Y7 79 .lss 77 78] (ZG 79 2)) (ZI (.blk 3 (sQ [o 11 (.alloc [.int .u8 0,.int .u8 0,.nils])] (ZI (sQ [oM 82 10,oF 83 1 1,oL 84 83,oN 85 84,Y7 86 .lss 82 85] (ZH 86 (.ops [oF 87 1 1,oL 88 87,oM 89 10,Ze 90 3 88 89,Y9 91 3 90,Za 3 11 91]) (.skip))) jq))) jr)
def js:SC:=sQ [Y9 186 2 4,Za 2 2 186] (.ret)
def jt:SC:=ZI (sQ [oK 10 0] (.blk 2 (.loop eV))) js
def lL:SC:=sQ [oF 16 1 1,oL 17 16,oN 18 17,o 19 (.mx (.t 18) (qI 1)),o 20 (.mn (.t 19) (qI 5)),oM 3 20] (ZI (.feet [0,1,3,7,15,0,32,127,0,511] [oF 21 0 1,oL 22 21,Zx 23 .rem 22 .u8 60,Zz 24 .i64 23,o 25 (.bin .add (qI 1) (.t 24)),oM 26 3,o 27 (.mks 3 56 [ZJ 0,.nils,.nils] (.t 26) (.t 26)),o 28 (.build [ZJ 0,.nils] [(0,1),(1,1)] [.t 25,.t 27]),o 4 (.alloc [ZJ 0,.nils]),Za 2 4 28]) (ZI (.feet [0,1,0,4,15,31,63] [oM 29 3,o 30 (.mks 1 1 [.int .u8 0] (.t 29) (.t 29)),oF 31 2 1,oL 32 31,o 33 (.build [.nils,.int .u16 0,.nils] [(0,1),(2,1)] [.t 30,.t 32]),Zq 34 21 33,oM 5 34]) (sQ [oK 6 1] (ZI (sQ [oK 7 0] (.blk 0 (.loop fG))) jt))))
def i_:SF:=⟨187,[.cell true 2 2],sQ [ZD 1 0,o 2 (.alloc [ZJ 0,.nils])] lL⟩
def n9:SC:=ZI (sQ [oM 13 7,oM 14 0,Y7 15 .lss 13 14] (ZG 15 0)) (ZI (.blk 1 (sQ [oM 18 5,oM 19 7,o 20 (.ixa 8 1 (.t 3) (qI 7)),oL 21 20,Zz 22 .i64 21,Y7 23 .add 19 22,oM 24 0,Y7 25 .rem 23 24,o 26 (.build [ZJ 0,ZJ 0,ZJ 0] [(0,1),(1,1),(2,1)] [.t 25,.k (ZJ (-1)),.k (ZJ (-1))]),o 27 (.bsl 3 1 [ZJ 0,ZJ 0,ZJ 0] [0] [.t 26]),Zu 28 3 24 18 27,oM 5 28] (.ops [oM 29 6,oM 30 7,ZB 31 30,Zu 32 1 8 29 31,oM 6 32]))) (ZF 16 7 17 16 7 17))
def oa:SC:=ZF 77 12 78 77 12 78
def ja:SC:=ZI (sQ [oM 73 12,oM 74 6,oN 75 74,Y7 76 .lss 73 75] (ZG 76 4)) (ZI (.blk 5 (sQ [oM 79 12,oM 80 9,Y7 81 .neq 79 80,oM 82 81,Zf 83 82 true 12,Zf 84 82 true 10,Zi 85 82 true .neq 83 84,Zd 86 82 85] (ZH 86 (.ops [oM 87 11,oM 88 6,oM 89 12,oX 90 88 89,oL 91 90,ZB 92 91,Zu 93 1 8 87 92,oM 11 93]) (.skip)))) oa)
def od:SC:=.ops [oM 94 11,oM 95 5,oN 96 95,Y8 97 .sub 96 1,ZB 98 97,Zu 99 1 8 94 98,oM 6 99]
def oe:SC:=ZF 37 8 38 37 8 38
def n_:SC:=ZI (sQ [oM 33 8,oM 34 0,Y8 35 .sub 34 1,Y7 36 .lss 33 35] (ZG 36 2)) (ZI (.blk 3 (sQ [oM 39 8,ZE 40 8 1 3 39,oL 41 40,Zz 42 .i64 41,oM 43 6,oN 44 43,Y7 45 .rem 42 44,oM 9 45] (sQ [oM 46 9,oA 47 46,oM 48 8,ZE 49 8 1 3 48,oL 50 49,Zx 51 .quo 50 .u8 8,Zz 52 .i64 51,oM 53 6,oN 54 53,Y8 55 .sub 54 1,Y7 56 .rem 52 55,Y7 57 .add 47 56,oM 58 6,oN 59 58,Y7 60 .rem 57 59,oM 10 60] (ZI (.feet [0,0,0,6,14,0,0,96,224,510,1022,2047,4095] [oM 61 5,oM 62 6,oM 63 9,oX 64 62 63,oL 65 64,oM 66 6,oM 67 10,oX 68 66 67,oL 69 68,o 70 (.build [ZJ 0,ZJ 0,ZJ 0] [(0,1),(1,1),(2,1)] [.k (ZJ (-1)),.t 65,.t 69]),o 71 (.bsl 3 1 [ZJ 0,ZJ 0,ZJ 0] [0] [.t 70]),Zu 72 3 24 61 71,oM 5 72]) (sQ [Zw 11] (ZI (sQ [oK 12 0] (.blk 4 (.loop ja))) od)))))) oe)
def oh:SC:=sQ [oM 100 5,oM 4 100] (.ret)
def om:SC:=ZI (sQ [oK 8 0] (.blk 2 (.loop n_))) oh
def qi:SC:=sQ [Zw 5] (sQ [Zw 6] (ZI (sQ [oK 7 0] (.blk 0 (.loop n9))) om))
def mZ:SF:=⟨101,[.tm 4],sQ [ZD 3 1,Zw 4] qi⟩
def s_:SC:=sQ [Y9 6 3 2,Zq 7 6 6,o 5 (.alloc [ZJ 0,.nils]),Za 2 5 7] (ZI (.feet [0,0,0,6,15,31] [Y9 8 2 5,Y9 9 4 3,Y9 10 2 5,Zr 11 25 9 10,o 12 (.build [ZJ 0,.nils,ZJ 0,.nils] [(0,2),(2,2)] [.t 8,.t 11]),Za 4 4 12]) (.ret))
def qQ:SF:=⟨13,[.cell true 4 4],sQ [ZD 2 0,ZD 3 1,o 4 (.alloc [ZJ 0,.nils,ZJ 0,.nils])] s_⟩
def gG:SC:=.ops [oM 34 5,oM 35 7,ZB 36 35,Zu 37 1 8 34 36,oM 5 37]
def uB:SC:=ZF 13 6 14 13 6 14
def uA:SC:=ZI (sQ [oM 8 6,oF 9 1 3,oL 10 9,oN 11 10,Y7 12 .lss 8 11] (ZG 12 0)) (ZI (.blk 1 (sQ [oK 7 (-1)] (ZI (sQ [oF 15 0 2,oL 16 15,oM 17 6,Zz 18 .u64 17,Y7 19 .shr 16 18,Zx 20 .and 19 .u8 1,Zx 21 .eql 20 .u8 1] (ZH 21 (.quiet [oM 22 6,oF 23 1 2,ZE 24 8 1 23 22,oL 25 24,Zz 26 .i64 25,oF 27 1 3,oL 28 27,oM 29 6,Ze 30 3 28 29,oF 31 0 30,oL 32 31,Y7 33 .rem 26 32,oM 7 33]) (.skip))) gG))) uB)
def lO:SC:=sQ [oM 38 5,oM 4 38] (.ret)
def mP:SC:=sQ [Zw 5] (ZI (sQ [oK 6 0] (.blk 0 (.loop uA))) lO)
def jJ:SF:=⟨39,[.tm 4],sQ [ZD 2 0,ZD 3 1,Zw 4] mP⟩
def eC:SC:=sQ [oM 80 5,oM 4 80] (.ret)
def n7:SC:=sQ [Zw 5] (sQ [oM 8 5,oM 9 1,Zu 10 3 24 8 9,oM 5 10] (ZI (sQ [oM 11 5,oN 12 11,Y8 13 .eql 12 0] (ZH 13 (sQ [oM 14 5,oM 4 14] (.ret)) (.skip))) (sQ [oM 15 5,oF 16 1 2,oL 17 16,Zz 18 .i64 17,oM 19 5,oN 20 19,Y7 21 .rem 18 20,Ze 22 3 15 21,oM 6 22] (ZI (sQ [oF 23 0 2,oL 24 23,Zx 25 .rem 24 .u8 6] (.blk 0 (sQ [Zx 42 .eql 25 .u8 0,oM 41 42] (ZH 41 (.ops [oM 43 6,oF 44 2 2,oL 45 44,Zb 46 43,oF 47 0 46,Za 1 47 45]) (sQ [Zx 49 .eql 25 .u8 1,oM 48 49] (ZH 48 (.ops [oM 50 6,oF 51 2 2,oL 52 51,Zb 53 50,oF 54 1 53,Za 1 54 52]) (sQ [Zx 56 .eql 25 .u8 2,oM 55 56] (ZH 55 (.ops [oM 57 6,oF 58 2 2,oL 59 58,Zb 60 57,oF 61 2 60,Za 1 61 59]) (sQ [Zx 63 .eql 25 .u8 3,oM 62 63] (ZH 62 (.ops [oM 64 5,oM 65 5,oN 66 65,Y8 67 .sub 66 1,o 68 (.slc 3 (.t 64) [] [.t 67]),oM 5 68]) (sQ [Zx 70 .eql 25 .u8 4,oM 69 70] (ZH 69 (.ops [oM 71 5,oM 72 5,oN 73 72,Y8 74 .sub 73 1,oF 75 2 2,oL 76 75,o 77 (.build [ZJ 0,ZJ 0,ZJ 0] [(0,1),(1,1),(2,1)] [.k (ZJ (-1)),.t 74,.t 76]),o 78 (.bsl 3 1 [ZJ 0,ZJ 0,ZJ 0] [0] [.t 77]),Zu 79 3 24 71 78,oM 5 79]) (sQ [oM 26 6,Zb 27 26,oF 28 1 27,oL 29 28,oM 7 29] (sQ [oM 30 6,oM 31 6,Zb 32 31,oF 33 2 32,oL 34 33,Zb 35 30,oF 36 1 35,Za 1 36 34] (.ops [oM 37 6,oM 38 7,Zb 39 37,oF 40 2 39,Za 1 40 38]))))))))))))))) eC))))
def lA:SF:=⟨81,[.tm 4],sQ [ZD 2 0,Zw 4] n7⟩
def mD:SC:=ZI (sQ [Y9 15 2 4,oM 16 1,Zr 17 26 15 16,oM 11 17] (sQ [oM 18 11,Y8 19 .neq 18 0] (ZH 19 (sQ [o 20 (.build [ZJ 0,ZJ 0] [] []),oM 21 11,Za 2 8 20,oK 9 0,oM 10 21] (.ret)) (.skip)))) (ZI (sQ [Y9 22 2 4,oM 23 2,Zr 24 20 22 23,oM 12 24] (sQ [oM 25 12,Y8 26 .neq 25 0] (ZH 26 (sQ [o 27 (.build [ZJ 0,ZJ 0] [] []),oM 28 12,Za 2 8 27,oK 9 0,oM 10 28] (.ret)) (.skip)))) (ZI (sQ [oM 29 3,Y8 30 .lss 29 0,oM 31 30,Zf 32 31 false 3,Zj 33 31 false .gtr 32 1000,Zc 34 31 33] (ZH 34 (sQ [o 35 (.build [ZJ 0,ZJ 0] [] []),Za 2 8 35,oK 9 0,oK 10 2] (.ret)) (.skip))) (sQ [Y9 36 2 4,oM 37 1,oM 38 2,oM 39 3,Zt 40 27 36 37 38 39,oM 13 40] (sQ [oM 41 13,Zq 42 28 41,oM 14 42] (ZI (.feet [0,0,2,6,14,30,0,64,192,448,960,1984,4094,8191,0,16384,49152,114688,16383,524287,1048575] [oM 43 14,oM 44 13,Zb 45 44,oF 46 0 45,oF 47 0 46,oL 48 47,oM 49 13,Zb 50 49,oF 51 0 50,oF 52 1 51,oL 53 52,oN 54 53,Zr 55 30 48 54,Zr 56 29 43 55,oM 57 13,Zb 58 57,oF 59 8 58,oL 60 59,Za 2 8 56,oM 9 60,oK 10 0]) (.ret))))))
def jF:SF:=⟨61,[.cell true 2 8,.tm 9,.tm 10],sQ [ZD 4 0,o 8 (.alloc [ZJ 0,ZJ 0]),oK 9 0,oK 10 0] mD⟩
def lB:SC:=ZI (sQ [oM 41 13,oM 42 2,oN 43 42,Y7 44 .lss 41 43] (ZG 44 0)) (ZI (.blk 1 (.feet [0,0,2,6,14,0,0,96,224,510,1023,2047,4095] [oM 47 12,oM 48 12,Zb 49 48,oF 50 4 49,oL 51 50,oM 52 12,oM 53 13,Zr 54 33 52 53,o 55 (.bsl 1 1 [ZL 0] [0] [.t 54]),Zu 56 1 8 51 55,Zb 57 47,oF 58 4 57,Za 1 58 56])) (ZF 45 13 46 45 13 46))
def su:SC:=sQ [oM 59 12,oM 60 2,oN 61 60,Y8 62 .sub 61 1,oM 63 1,o 64 (.call 34 [.t 59,.t 62,.t 63,.k (ZL 0)])] (ZI (.feet [0,0,3,0,15,31,0,64,192,448,63,2047,4095] [Y9 65 2 4,oM 66 1,Zr 67 36 65 66,Y9 68 2 4,Zq 69 37 68,Zr 70 35 67 69,oM 71 12,Zb 72 71,oF 73 7 72,oL 74 73,Za 2 8 70,oM 9 74,oK 10 0]) (.ret))
def tB:SC:=ZI (sQ [Y9 14 2 4,oM 15 1,Zr 16 31 14 15,oM 11 16] (sQ [oM 17 11,Y8 18 .neq 17 0] (ZH 18 (sQ [o 19 (.build [ZJ 0,ZJ 0] [] []),oM 20 11,Za 2 8 19,oK 9 0,oM 10 20] (.ret)) (.skip)))) (ZI (sQ [oM 21 2,oF 22 1 4,oL 23 22,oN 24 23,Zr 25 32 21 24,Zy 26 25] (ZH 26 (sQ [o 27 (.build [ZJ 0,ZJ 0] [] []),Za 2 8 27,oK 9 0,oK 10 130] (.ret)) (.skip))) (ZI (sQ [oM 28 3,Y8 29 .lss 28 0,oM 30 29,Zf 31 30 false 3,Zj 32 30 false .gtr 31 1000,Zc 33 30 32] (ZH 33 (sQ [o 34 (.build [ZJ 0,ZJ 0] [] []),Za 2 8 34,oK 9 0,oK 10 2] (.ret)) (.skip))) (sQ [Y9 35 2 4,oM 36 2,oM 37 1,oM 38 3,o 39 (.build [ZJ 0,.nils,.nils,.nils,.nils,.nils,ZJ 0,ZJ 0] [(0,2),(2,1),(3,1),(6,1)] [.t 35,.t 36,.t 37,.t 38]),ZD 40 39,oM 12 40] (ZI (sQ [oK 13 0] (.blk 0 (.loop lB))) su))))
def qY:SF:=⟨75,[.cell true 2 8,.tm 9,.tm 10],sQ [ZD 4 0,o 8 (.alloc [ZJ 0,ZJ 0]),oK 9 0,oK 10 0] tB⟩
def sZ:SC:=.ops [oA 121 32,oM 32 121]
def j9:SC:=sQ [Y7 33 .lss 32 31] (ZI (ZG 33 0) (ZI (.blk 1 (sQ [oM 34 32,Ze 35 3 30 32,Y9 36 3 35,o 10 (.alloc [ZJ 0,ZJ 0,ZJ 0]),oM 9 34,Za 3 10 36] (.blk 2 (sQ [oF 42 0 10,oL 43 42,Y8 44 .eql 43 (-1),oM 41 44] (ZH 41 (ZI (sQ [oF 45 1 10,oL 46 45,Y8 47 .lss 46 0,oM 48 47,Zh 49 48 false 1 10,Zg 50 48 false 49,Zf 51 48 false 9,Zi 52 48 false .geq 50 51,Zc 53 48 52,oM 54 53,Zh 55 54 false 2 10,Zg 56 54 false 55,Zj 57 54 false .lss 56 0,Zc 58 54 57,oM 59 58,Zh 60 59 false 2 10,Zg 61 59 false 60,Zf 62 59 false 9,Zi 63 59 false .geq 61 62,Zc 64 59 63,oM 65 64,Zh 66 65 false 1 10,Zg 67 65 false 66,Zh 68 65 false 2 10,Zg 69 65 false 68,Zi 70 65 false .eql 67 69,Zc 71 65 70,oM 72 71,Zf 73 72 false 8,Zh 74 72 false 1 10,Zg 75 72 false 74,ZA 76 72 false 1 73 75,Zg 77 72 false 76,Zc 78 72 77,oM 79 78,Zf 80 79 false 8,Zh 81 79 false 2 10,Zg 82 79 false 81,ZA 83 79 false 1 80 82,Zg 84 79 false 83,Zc 85 79 84] (ZH 85 (sQ [oK 4 130] (.ret)) (.skip))) (.feet [0,0,2,0,0,16,7,71,255,511] [oM 86 8,oF 87 1 10,oL 88 87,oM 89 8,oF 90 2 10,oL 91 90,oX 92 86 88,oz (.store 1 (.t 92) (.k (.bool true))),oX 93 89 91,oz (.store 1 (.t 93) (.k (.bool true)))])) (sQ [oF 95 0 10,oL 96 95,Y8 97 .lss 96 0,oM 98 97,Zh 99 98 false 0 10,Zg 100 98 false 99,Zf 101 98 false 6,Zi 102 98 false .geq 100 101,Zc 103 98 102,oM 104 103,Zh 105 104 false 1 10,Zg 106 104 false 105,Zj 107 104 false .neq 106 (-1),Zc 108 104 107,oM 109 108,Zh 110 109 false 2 10,Zg 111 109 false 110,Zj 112 109 false .neq 111 (-1),Zc 113 109 112,oM 114 113,Zf 115 114 false 7,Zh 116 114 false 0 10,Zg 117 114 false 116,ZA 118 114 false 1 115 117,Zg 119 114 false 118,Zc 120 114 119,oM 94 120] (ZH 94 (sQ [oK 4 130] (.ret)) (.ops [oM 37 7,oF 38 0 10,oL 39 38,oX 40 37 39,oz (.store 1 (.t 40) (.k (.bool true)))])))))))) sZ))
def du:SC:=ZI (sQ [oM 122 7,o 123 (.call 50 [.t 122,.k (.bool false)]),oM 124 123,Zf 125 124 false 8,Zf 126 124 false 1,Zk 127 124 false 126,Zj 128 124 false .sub 127 1,og 129 124 false (.slc 1 (.t 125) [] [.t 128]),og 130 124 false (.call 50 [.t 129,.k (.bool false)]),Zc 131 124 130] (ZH 131 (sQ [oK 4 130] (.ret)) (.skip))) (sQ [oK 4 0] (.ret))
def lK:SC:=ZI (sQ [Y9 11 2 2,Zq 12 49 11,oM 5 12] (sQ [oM 13 5,Y8 14 .neq 13 0] (ZH 14 (sQ [oM 15 5,oM 4 15] (.ret)) (.skip)))) (sQ [oF 16 1 2,oL 17 16,oN 18 17,oM 6 18] (ZI (sQ [oM 19 1,oN 20 19,oM 21 6,o 22 (.bin .mul (qI 2) (.t 21)),Y8 23 .sub 22 1,Y7 24 .neq 20 23] (ZH 24 (sQ [oK 4 130] (.ret)) (.skip))) (ZI (.feet [0,1,0,4,12,3,63] [oM 25 6,o 26 (.mks 1 1 [.bool false] (.t 25) (.t 25)),oM 27 1,oN 28 27,o 29 (.mks 1 1 [.bool false] (.t 28) (.t 28)),oM 7 26,oM 8 29]) (ZI (sQ [oM 30 1,oN 31 30,oK 32 0] (.blk 0 (.loop j9))) du))))
def iP:SF:=⟨132,[.tm 4],sQ [ZD 2 0,oK 4 0] lK⟩
def cz:SC:=sQ [Zw 6] (sQ [oM 28 6,oM 29 3,oM 30 5,o 31 (.slc 1 (.t 29) [] [.t 30]),Zu 32 1 8 28 31,oM 33 4,ZB 34 33,Zu 35 1 8 32 34,oM 6 35] (.ops [oM 36 6,oM 37 3,oM 38 5,o 39 (.slc 1 (.t 37) [.t 38] []),Zu 40 1 8 36 39,oM 3 40]))
def lq:SC:=ZF 12 4 13 12 4 13
def lp:SC:=ZI (sQ [oM 7 4,Y9 8 3 1,Zq 9 51 8,oN 10 9,Y7 11 .lss 7 10] (ZG 11 0)) (ZI (.blk 1 (sQ [oK 5 0] (ZI (sQ [oM 14 4,oF 15 2 1,oL 16 15,oN 17 16,Y7 18 .lss 14 17] (ZH 18 (.ops [oF 19 2 1,oL 20 19,oM 21 4,oX 22 20 21,oL 23 22,Zz 24 .i64 23,oM 25 4,oA 26 25,Y7 27 .rem 24 26,oM 5 27]) (.skip))) cz))) lq)
def eL:SC:=sQ [oM 41 3,oM 2 41] (.ret)
def fq:SC:=sQ [Zw 3] (ZI (sQ [oK 4 0] (.blk 0 (.loop lp))) eL)
def di:SF:=⟨42,[.tm 2],sQ [ZD 1 0,Zw 2] fq⟩
def zq:SC:=ZI (sQ [oM 5 4,oM 6 0,oN 7 6,Y7 8 .lss 5 7] (ZG 8 0)) (ZI (.blk 1 (.ops [oM 11 3,oM 12 0,oM 13 4,oX 14 12 13,oL 15 14,Y7 16 .mul 11 15,oM 3 16])) (ZF 9 4 10 9 4 10))
def rZ:SC:=sQ [oM 17 3,oM 2 17] (.ret)
def qV:SF:=⟨18,[.tm 2],sQ [oK 2 0] (sQ [oK 3 1] (ZI (sQ [oK 4 0] (.blk 0 (.loop zq))) rZ))⟩
def ju:SC:=ZI (.quiet [Y9 5 2 2,Zq 6 53 5,oF 7 1 2,oL 8 7,oM 9 1,Ze 10 3 8 9,oF 11 1 10,oL 12 11,Zr 13 52 6 12,oM 4 13]) (.ret)
def gH:SF:=⟨14,[.tm 4],sQ [ZD 2 0,Zw 4] ju⟩
def tu:SC:=.ops [oM 39 10,oM 40 9,oM 41 11,oX 42 40 41,oL 43 42,Y7 44 .add 39 43,oM 10 44]
def tv:SC:=ZF 20 11 21 20 11 21
def mW:SC:=ZI (sQ [oM 17 11,oM 18 1,Y7 19 .lss 17 18] (ZG 19 0)) (ZI (.blk 1 (ZI (sQ [oM 22 2,oN 23 22,Y8 24 .gtr 23 0] (ZH 24 (.ops [oM 25 9,oM 26 11,oM 27 2,oM 28 3,oM 29 11,Y7 30 .add 28 29,oM 31 2,oN 32 31,Y7 33 .rem 30 32,oX 34 27 33,oL 35 34,Zx 36 .rem 35 .u8 8,Zz 37 .i64 36,oX 38 25 26,Za 1 38 37]) (.skip))) tu)) tv)
def tw:SC:=.ops [oM 68 12,oM 69 9,oM 70 14,oX 71 69 70,oL 72 71,Y7 73 .sub 68 72,oM 12 73]
def tx:SC:=ZF 49 14 50 49 14 50
def mX:SC:=ZI (sQ [oM 46 14,oM 47 1,Y7 48 .lss 46 47] (ZG 48 2)) (ZI (.blk 3 (ZI (sQ [oM 51 9,oM 52 14,oX 53 51 52,oL 54 53,Y8 55 .gtr 54 0] (ZH 55 (sQ [oM 56 9,oM 57 14,oM 58 0,oM 59 9,oM 60 14,oX 61 59 60,oL 62 61,Y7 63 .mul 58 62,oM 64 10,Y7 65 .quo 63 64,oX 66 56 57,Za 1 66 65] (.ops [oM 67 14,oM 13 67])) (.skip))) tw)) tx)
def tz:SC:=sQ [oM 74 9,oM 75 13,oM 76 9,oM 77 13,oX 78 76 77,oL 79 78,oM 80 12,Y7 81 .add 79 80,oX 82 74 75,Za 1 82 81] (sQ [oM 83 9,oM 8 83] (.ret))
def tA:SC:=sQ [oM 45 0,oM 12 45,oK 13 0] (ZI (sQ [oK 14 0] (.blk 2 (.loop mX))) tz)
def tp:SF:=⟨84,[.tm 8],sQ [Zw 8] (sQ [oM 15 1,o 16 (.mks 1 8 [ZJ 0] (.t 15) (.t 15)),oM 9 16] (sQ [oK 10 0] (ZI (sQ [oK 11 0] (.blk 0 (.loop mW))) tA)))⟩
def ic:SC:=ZI (sQ [oM 39 8,oF 40 1 3,oL 41 40,oM 42 6,Ze 43 3 41 42,oF 44 2 43,oL 45 44,oN 46 45,Y7 47 .lss 39 46] (ZG 47 2)) (ZI (.blk 3 (sQ [Zw 9] (.feet [0,1,0,0,8,0,56,120,248,0,1016,2040,4092,8188,16383,32767,65535] [oF 50 2 7,oL 51 50,oM 52 9,oF 53 1 3,oL 54 53,oM 55 6,Ze 56 3 54 55,oF 57 2 56,oL 58 57,oM 59 8,oX 60 58 59,oL 61 60,Zu 62 1 8 52 61,ZC 63 62,Zu 64 1 24 51 63,oF 65 2 7,Za 1 65 64]))) (ZF 48 8 49 48 8 49))
def mN:SC:=.ops [oM 66 5,Y9 67 3 7,o 68 (.bsl 3 1 [ZJ 0,.nils,.nils] [0] [.t 67]),Zu 69 3 56 66 68,oM 5 69]
def mO:SC:=ZF 20 6 21 20 6 21
def ie:SC:=ZI (sQ [oM 15 6,oF 16 1 3,oL 17 16,oN 18 17,Y7 19 .lss 15 18] (ZG 19 0)) (ZI (.blk 1 (sQ [oF 22 1 3,oL 23 22,oM 24 6,Ze 25 3 23 24,oF 26 0 25,oL 27 26,o 28 (.build [ZJ 0,.nils,.nils] [(0,1)] [.t 27]),o 7 (.alloc [ZJ 0,.nils,.nils]),Za 3 7 28] (ZI (.feet [0,1,0,4,0,28,60,124,255,511,1023] [oF 29 1 7,oL 30 29,oF 31 1 3,oL 32 31,oM 33 6,Ze 34 3 32 33,oF 35 1 34,oL 36 35,Zu 37 1 8 30 36,oF 38 1 7,Za 1 38 37]) (ZI (sQ [oK 8 0] (.blk 2 (.loop ic))) mN)))) mO)
def eA:SC:=ZI (sQ [oM 264 12,oM 265 13,Y7 266 .lss 264 265] (ZG 266 5)) (ZI (.blk 6 (sQ [oM 269 10,Zb 270 269,oF 271 2 270,oL 272 271,oM 273 11,oX 274 272 273,oL 275 274,oM 276 12,oX 277 275 276,oL 278 277,oM 14 278] (ZI (.feet [0,1,3,7,0,31,63,0,0,256,768,1792,0,7936,16128,0,65280,130816,262143,524287] [oM 279 10,Zb 280 279,oF 281 2 280,oL 282 281,oM 283 11,oX 284 282 283,oL 285 284,oM 286 12,oM 287 10,Zb 288 287,oF 289 2 288,oL 290 289,oM 291 11,oX 292 290 291,oL 293 292,oM 294 13,oX 295 293 294,oL 296 295,oX 297 285 286,Za 1 297 296]) (sQ [oM 298 10,Zb 299 298,oF 300 2 299,oL 301 300,oM 302 11,oX 303 301 302,oL 304 303,oM 305 13,oM 306 14,oX 307 304 305,Za 1 307 306] (.ops [oM 308 13,Y8 309 .sub 308 1,oM 13 309]))))) (ZF 267 12 268 267 12 268))
def eB:SC:=sQ [Y9 322 2 3,Za 2 4 322] (.ret)
def ig:SC:=ZI (sQ [oF 99 0 2,oL 100 99,Zx 101 .rem 100 .u8 12] (.blk 4 (sQ [Zx 111 .eql 101 .u8 0,oM 110 111] (ZH 110 (.ops [oF 112 3 2,oL 113 112,oF 114 0 3,Za 1 114 113]) (sQ [Zx 116 .eql 101 .u8 1,oM 115 116] (ZH 115 (.ops [oM 117 10,oF 118 3 2,oL 119 118,Zb 120 117,oF 121 0 120,Za 1 121 119]) (sQ [Zx 123 .eql 101 .u8 2,oM 122 123] (ZH 122 (.feet [0,0,2,6,14,0,32,96,254,511,1023,2047] [oM 124 10,oM 125 10,Zb 126 125,oF 127 1 126,oL 128 127,oF 129 3 2,oL 130 129,ZB 131 130,Zu 132 1 8 128 131,Zb 133 124,oF 134 1 133,Za 1 134 132]) (sQ [Zx 136 .eql 101 .u8 3,oM 135 136] (ZH 135 (.ops [oM 137 10,Zb 138 137,oF 139 1 138,oz (.store 1 (.t 139) (.k (.nils)))]) (sQ [Zx 141 .eql 101 .u8 4,oM 140 141] (ZH 140 (.feet [0,0,2,6,14,0,32,96,224,510,1023,2047,4095] [oM 142 10,oM 143 10,Zb 144 143,oF 145 2 144,oL 146 145,oF 147 3 2,oL 148 147,ZB 149 148,ZC 150 149,Zu 151 1 24 146 150,Zb 152 142,oF 153 2 152,Za 1 153 151]) (sQ [Zx 155 .eql 101 .u8 5,oM 154 155] (ZH 154 (sQ [oM 156 11,Y8 157 .geq 156 0] (ZH 157 (.ops [oM 158 10,oM 159 10,Zb 160 159,oF 161 2 160,oL 162 161,oM 163 11,o 164 (.slc 1 (.t 162) [] [.t 163]),Zb 165 158,oF 166 2 165,Za 1 166 164]) (.skip))) (sQ [Zx 168 .eql 101 .u8 6,oM 167 168] (ZH 167 (sQ [oM 169 11,Y8 170 .geq 169 0,oM 171 170,Zf 172 171 true 10,og 173 171 true (.nilc (.t 172)),Zh 174 171 true 2 173,Zg 175 171 true 174,Zf 176 171 true 11,ZA 177 171 true 1 175 176,Zg 178 171 true 177,Zk 179 171 true 178,Zj 180 171 true .gtr 179 0,Zd 181 171 180] (ZH 181 (.feet [0,1,3,7,0,31,63,0,128,511,1023] [oM 182 10,Zb 183 182,oF 184 2 183,oL 185 184,oM 186 11,oX 187 185 186,oL 188 187,oF 189 3 2,oL 190 189,o 191 (.ixs 1 (.t 188) (qI 0)),Za 1 191 190]) (.skip))) (sQ [Zx 193 .eql 101 .u8 7,oM 192 193] (ZH 192 (sQ [oM 194 11,Y8 195 .geq 194 0] (ZH 195 (.feet [0,1,3,7,0,0,32,96,224,0,992,2016,0,8160,16383,32767] [oM 196 10,Zb 197 196,oF 198 2 197,oL 199 198,oM 200 11,oM 201 10,Zb 202 201,oF 203 2 202,oL 204 203,oM 205 11,oX 206 204 205,oL 207 206,o 208 (.bsl 1 1 [ZJ 0] [0] [.k (ZJ 0)]),Zu 209 1 8 207 208,oX 210 199 200,Za 1 210 209]) (.skip))) (sQ [Zx 212 .eql 101 .u8 8,oM 211 212] (ZH 211 (sQ [oM 213 11,Y8 214 .geq 213 0,oM 215 214,Zf 216 215 true 10,og 217 215 true (.nilc (.t 216)),Zh 218 215 true 2 217,Zg 219 215 true 218,Zf 220 215 true 11,ZA 221 215 true 1 219 220,Zg 222 215 true 221,Zk 223 215 true 222,Zj 224 215 true .gtr 223 0,Zd 225 215 224] (ZH 225 (ZI (.feet [0,1,3,7,0,0,32,96,224,0,992,2016,4064,8160,16383,32767] [oM 226 10,Zb 227 226,oF 228 2 227,oL 229 228,oM 230 11,oM 231 10,Zb 232 231,oF 233 2 232,oL 234 233,oM 235 11,oX 236 234 235,oL 237 236,oN 238 237,o 239 (.mks 1 8 [ZJ 0] (.t 238) (.t 238)),oX 240 229 230,Za 1 240 239]) (.feet [0,1,3,7,0,31,63,0,128,511,1023] [oM 241 10,Zb 242 241,oF 243 2 242,oL 244 243,oM 245 11,oX 246 244 245,oL 247 246,oF 248 0 3,oL 249 248,o 250 (.ixs 1 (.t 247) (qI 0)),Za 1 250 249])) (.skip))) (sQ [Zx 252 .eql 101 .u8 9,oM 251 252] (ZH 251 (sQ [oM 253 11,Y8 254 .geq 253 0] (ZH 254 (ZI (.quiet [oM 255 10,Zb 256 255,oF 257 2 256,oL 258 257,oM 259 11,oX 260 258 259,oL 261 260,oN 262 261,Y8 263 .sub 262 1,oK 12 0,oM 13 263]) (.blk 5 (.loop eA))) (.skip))) (sQ [Zx 311 .eql 101 .u8 10,oM 310 311] (ZH 310 (.ops [oF 312 1 3,oL 313 312,oF 314 0 3,oL 315 314,ZB 316 315,ZC 317 316,o 318 (.build [ZJ 0,.nils,.nils] [(0,1),(2,1)] [.k (ZJ 1),.t 317]),o 319 (.bsl 3 1 [ZJ 0,.nils,.nils] [0] [.t 318]),Zu 320 3 56 313 319,oF 321 1 3,Za 1 321 320]) (.ops [oF 102 1 3,oL 103 102,oF 104 1 3,oL 105 104,oN 106 105,Y8 107 .sub 106 1,o 108 (.slc 3 (.t 103) [] [.t 107]),oF 109 1 3,Za 1 109 108]))))))))))))))))))))))))) eB
def ii:SC:=sQ [oM 70 5,oF 71 1 3,Za 1 71 70] (ZI (sQ [oM 72 5,oN 73 72,Y8 74 .eql 73 0] (ZH 74 (sQ [Y9 75 2 3,Za 2 4 75] (.ret)) (.skip))) (sQ [oM 76 5,oF 77 1 2,oL 78 77,Zz 79 .i64 78,oM 80 5,oN 81 80,Y7 82 .rem 79 81,Ze 83 3 76 82,oM 10 83] (sQ [oK 11 (-1)] (ZI (sQ [oM 84 10,Zb 85 84,oF 86 2 85,oL 87 86,oN 88 87,Y8 89 .gtr 88 0] (ZH 89 (.quiet [oF 90 2 2,oL 91 90,Zz 92 .i64 91,oM 93 10,Zb 94 93,oF 95 2 94,oL 96 95,oN 97 96,Y7 98 .rem 92 97,oM 11 98]) (.skip))) ig))))
def nX:SC:=sQ [Zw 5] (ZI (sQ [oK 6 0] (.blk 0 (.loop ie))) ii)
def lw:SF:=⟨323,[.cell true 2 4],sQ [ZD 2 0,ZD 3 1,o 4 (.alloc [ZJ 0,.nils])] nX⟩
def iQ:SC:=sQ [Y7 27 .lss 26 25] (ZI (ZG 27 0) (ZI (.blk 1 (sQ [oM 28 26,oX 29 24 26,oL 30 29,oM 7 28,oM 8 30] (sQ [oM 31 8,Y8 32 .lss 31 (-1),oM 33 32,Zf 34 33 false 8,Zh 35 33 false 2 5,Zg 36 33 false 35,Zf 37 33 false 7,ZA 38 33 false 1 36 37,Zg 39 33 false 38,Zi 40 33 false .geq 34 39,Zc 41 33 40] (ZH 41 (sQ [oK 4 2] (.ret)) (.skip))))) (.ops [oA 42 26,oM 26 42])))
def iS:SC:=sQ [oK 4 0] (.ret)
def jo:SC:=sQ [Y9 10 2 2,Zq 11 54 10,oM 9 11,Y_ 12 9 0,Y_ 13 9 1,o 5 (.alloc [ZJ 0,.nils,.nils,.nils,.nils]),Za 5 5 12,oM 6 13] (ZI (sQ [oM 14 6,Y8 15 .neq 14 0] (ZH 15 (sQ [oM 16 6,oM 4 16] (.ret)) (.skip))) (ZI (sQ [oM 17 1,oN 18 17,oF 19 0 5,oF 20 1 19,oL 21 20,oN 22 21,Y7 23 .neq 18 22] (ZH 23 (sQ [oK 4 2] (.ret)) (.skip))) (ZI (sQ [oM 24 1,oN 25 24,oK 26 0] (.blk 0 (.loop iQ))) iS)))
def gE:SF:=⟨43,[.tm 4],sQ [ZD 2 0,oK 4 0] jo⟩
def gL:SC:=.ops [oA 101 84,oM 84 101]
def dD:SC:=sQ [Y7 85 .lss 84 83] (ZI (ZG 85 2) (ZI (.blk 3 (sQ [oX 86 82 84,oL 87 86,oM 15 87] (sQ [oM 88 1,oM 89 15,oX 90 88 89,oL 91 90,Y8 92 .eql 91 (-1)] (ZH 92 (.feet [0,0,3,7,0,16,63,127,255] [oM 93 10,oM 94 12,oX 95 93 94,oL 96 95,oM 97 15,o 98 (.bin .shl (.k (ZL 1)) (.t 97)),Y7 99 .or 96 98,oX 100 93 94,Za 1 100 99]) (.skip))))) gL))
def gM:SC:=.ops [oA 102 46,oM 46 102]
def dE:SC:=sQ [Y7 47 .lss 46 45] (ZI (ZG 47 0) (ZI (.blk 1 (sQ [oM 48 46,Ze 49 3 44 46,Y9 50 3 49,o 13 (.alloc [ZJ 0,ZJ 0,ZJ 0]),oM 12 48,Za 3 13 50] (ZI (sQ [oF 51 0 13,oL 52 51,Y8 53 .eql 52 (-1)] (ZH 53 (ZI (.feet [0,0,0,0,8,28,60,0,0,256,896,1920,4092,8191,16383] [oM 54 10,oM 55 12,oM 56 10,oF 57 1 13,oL 58 57,oX 59 56 58,oL 60 59,oM 61 10,oF 62 2 13,oL 63 62,oX 64 61 63,oL 65 64,Y7 66 .or 60 65,oX 67 54 55,Za 1 67 66]) (.exit 1)) (.skip))) (ZI (.feet [0,1,3,7,15,0,32,127,255,511,1023,0,2048,6144,16383,32767,0] [oM 68 9,Zb 69 68,oF 70 0 69,oF 71 1 70,oL 72 71,oF 73 0 13,oL 74 73,Ze 75 3 72 74,oF 76 1 75,oL 77 76,Zq 78 55 77,oF 79 0 13,oL 80 79,ZB 81 80,Zu 82 1 8 78 81,oN 83 82,oK 84 0]) (.blk 2 (.loop dD)))))) gM))
def gN:SC:=.ops [oM 108 16,Y8 109 .sub 108 1,oM 16 109]
def dF:SC:=ZI (sQ [oM 106 16,Y8 107 .geq 106 0] (ZG 107 4)) (ZI (.blk 5 (ZI (.feet [0,1,3,7,0,0,0,96,224,0,0,1536,3584,8160,16383,32767] [oM 110 9,Zb 111 110,oF 112 5 111,oL 113 112,oM 114 16,oM 115 10,oM 116 16,oX 117 115 116,oL 118 117,oM 119 11,oM 120 16,oX 121 119 120,oL 122 121,Y7 123 .and 118 122,oX 124 113 114,Za 1 124 123]) (sQ [oM 125 2,oM 126 16,Ze 127 3 125 126,Y9 128 3 127,o 17 (.alloc [ZJ 0,ZJ 0,ZJ 0]),Za 3 17 128] (sQ [oF 129 0 17,oL 130 129,Y8 131 .eql 130 (-1)] (ZH 131 (ZI (.feet [0,1,3,7,0,0,0,64,224,480,0,0,2048,7168,15360,32736,0,0,196608,458752,1048544,2097151,4194303] [oM 132 9,Zb 133 132,oF 134 4 133,oL 135 134,oM 136 16,oM 137 10,oF 138 1 17,oL 139 138,oX 140 137 139,oL 141 140,oM 142 10,oF 143 2 17,oL 144 143,oX 145 142 144,oL 146 145,Y7 147 .and 141 146,oM 148 11,oM 149 16,oX 150 148 149,oL 151 150,Y7 152 .andNot 147 151,oX 153 135 136,Za 1 153 152]) (ZI (.feet [0,0,2,0,0,24,56,0,128,384,896,0,3968,8064,16376,32767,65535] [oM 154 11,oF 155 1 17,oL 156 155,oM 157 11,oM 158 16,oX 159 157 158,oL 160 159,oM 161 9,Zb 162 161,oF 163 4 162,oL 164 163,oM 165 16,oX 166 164 165,oL 167 166,Y7 168 .or 160 167,oX 169 154 156,Za 1 169 168]) (.feet [0,0,2,0,0,16,56,120,255,511] [oM 170 11,oF 171 2 17,oL 172 171,oM 173 11,oF 174 1 17,oL 175 174,oX 176 173 175,oL 177 176,oX 178 170 172,Za 1 178 177]))) (.skip)))))) gN)
def gO:SC:=sQ [oM 179 9,oM 8 179] (.ret)
def gP:SC:=ZI (sQ [oM 103 2,oN 104 103,Y8 105 .sub 104 1,oM 16 105] (.blk 4 (.loop dF))) gO
def iA:SC:=ZI (.feet [0,0,0,4,0,0,63,127,255] [Y9 18 2 4,oM 19 2,oM 20 1,Zq 21 55 20,o 22 (.raw (.makeMap 88 none)),oM 23 3,o 24 (.build [ZJ 0,.nils,.nils,.nils,.nils,.nils,.nilm,ZJ 0,ZJ 0] [(0,2),(2,1),(3,1),(6,1),(7,1)] [.t 18,.t 19,.t 21,.t 22,.t 23]),ZD 25 24,oM 9 25]) (ZI (.feet [0,0,0,4,12,0,32,96,29,285,797,2047,4095,8191] [oM 26 9,oM 27 9,oM 28 2,oN 29 28,o 30 (.mks 1 8 [ZL 0] (.t 29) (.t 29)),oM 31 2,oN 32 31,o 33 (.mks 1 8 [ZL 0] (.t 32) (.t 32)),Zb 34 26,oF 35 4 34,Za 1 35 30,Zb 36 27,oF 37 5 36,Za 1 37 33]) (ZI (.feet [0,1,3,0,8,24,7,127] [oM 38 2,oN 39 38,o 40 (.mks 1 8 [ZL 0] (.t 39) (.t 39)),oM 41 2,oN 42 41,o 43 (.mks 1 8 [ZL 0] (.t 42) (.t 42)),oM 10 40,oM 11 43]) (ZI (sQ [oM 44 2,oN 45 44,oK 46 0] (.blk 0 (.loop dE))) gP)))
def eU:SF:=⟨180,[.tm 8],sQ [ZD 4 0,o 8 (.mv (.k (.nilp)))] iA⟩
def gQ:SC:=sQ [o 3 (.alloc [.nilf])] (sQ [o 4 (.mkf 56 [] [.t 1,.t 3]),Za 1 3 4] (ZI (.feet [0,0,2,6,14,30,62,127,255] [oL 5 3,oL 6 1,Zb 7 6,oF 8 2 7,oL 9 8,oN 10 9,Y8 11 .sub 10 1,o 12 (.dyn (.t 5) [.t 11]),oM 2 12]) (.ret)))
def ej:SF:=⟨13,[.tm 2],sQ [ZD 1 0,oK 2 0] gQ⟩
def jO:SC:=ZI (sQ [oM 12 6,Y8 13 .neq 12 0] (ZG 13 0)) (.blk 1 (.quiet [oM 14 6,oM 15 5,oM 16 6,Y7 17 .rem 15 16,oM 5 14,oM 6 17]))
def qp:SC:=ZI (.feet [0,0,3,0,0,24,63,127] [oM 18 0,oM 19 5,Y7 20 .quo 18 19,oM 21 1,oM 22 5,Y7 23 .quo 21 22,o 24 (.build [ZJ 0,ZJ 0] [(0,1),(1,1)] [.t 20,.t 23]),Za 2 4 24]) (.ret)
def sA:SC:=sQ [oM 7 0,oM 8 0,o 9 (.un .neg (.t 8)),o 10 (.mx (.t 7) (.t 9)),oM 11 1,oM 5 10,oM 6 11] (ZI (.blk 0 (.loop jO)) qp)
def pe:SF:=⟨25,[.cell true 2 4],sQ [o 4 (.alloc [ZJ 0,ZJ 0])] sA⟩
def qq:SC:=sQ [Y7 8 .lss 7 6] (ZI (ZG 8 0) (ZI (.blk 1 (.ops [oM 9 5,oM 10 0,Y7 11 .mul 9 10,oM 5 11])) (.ops [oA 12 7,oM 7 12])))
def qr:SC:=sQ [oM 13 5,oM 4 13] (.ret)
def pf:SF:=⟨14,[.tm 4],sQ [oK 4 0] (sQ [oK 5 1] (ZI (sQ [oM 6 1,oK 7 0] (.blk 0 (.loop qq))) qr))⟩
def ib:SC:=ZI (sQ [Y9 5 2 2,Zq 6 60 5,Zy 7 6] (ZH 7 (sQ [oK 4 50] (.ret)) (.skip))) (ZI (sQ [Y9 8 2 2,oM 9 1,Zr 10 61 8 9,Zy 11 10] (ZH 11 (sQ [oK 4 2] (.ret)) (.skip))) (sQ [oK 4 0] (.ret)))
def gS:SF:=⟨12,[.tm 4],sQ [ZD 2 0,oK 4 0] ib⟩
def qk:SC:=ZF 88 10 89 88 10 89
def jN:SC:=ZI (sQ [oM 84 10,oM 85 0,oN 86 85,Y7 87 .lss 84 86] (ZG 87 2)) (ZI (.blk 3 (ZI (ZI (.quiet [oM 90 10,oM 91 5,Y7 92 .neq 90 91,oM 93 92,Zf 94 93 true 7,Zd 95 93 94,oM 96 95,Zf 97 96 true 0,Zf 98 96 true 10,ZA 99 96 true 3 97 98,Zh 100 96 true 0 99,Zg 101 96 true 100,Zh 102 96 true 0 6,Zg 103 96 true 102,Zi 104 96 true .eql 101 103,Zd 105 96 104]) (ZH 105 (sQ [Zv 4 false] (.ret)) (.skip))) (sQ [oM 106 0,oM 107 10,Ze 108 3 106 107,oF 109 0 108,oL 110 109,Y8 111 .eql 110 (-1),oM 112 111,Zf 113 112 true 0,Zf 114 112 true 10,ZA 115 112 true 3 113 114,Zh 116 112 true 1 115,Zg 117 112 true 116,Zf 118 112 true 5,Zi 119 112 true .eql 117 118,Zf 120 112 true 119,Zf 121 120 false 0,Zf 122 120 false 10,ZA 123 120 false 3 121 122,Zh 124 120 false 2 123,Zg 125 120 false 124,Zf 126 120 false 5,Zi 127 120 false .eql 125 126,og 128 112 true (.pick (.t 120) (.k (.bool true)) (.t 127)),Zd 129 112 128] (ZH 129 (ZF 130 9 131 130 9 131) (.skip))))) qk)
def dV:SC:=sQ [oM 132 5,oM 133 0,oN 134 133,Y8 135 .sub 134 1,Y7 136 .lss 132 135,oM 137 136,Zf 138 137 true 9,Zj 139 137 true .neq 138 1,Zd 140 137 139,oM 141 140,Zf 142 141 false 5,Zf 143 141 false 0,Zk 144 141 false 143,Zj 145 141 false .sub 144 1,Zi 146 141 false .eql 142 145,Zf 147 141 false 146,Zf 148 147 true 9,Zj 149 147 true .neq 148 0,og 150 141 false (.pick (.t 147) (.t 149) (.k (.bool false))),Zc 151 141 150] (ZH 151 (sQ [Zv 4 false] (.ret)) (.skip))
def qm:SC:=ZF 21 5 22 21 5 22
def qj:SC:=ZI (sQ [oM 17 5,oM 18 0,oN 19 18,Y7 20 .lss 17 19] (ZG 20 0)) (ZI (.blk 1 (sQ [oM 23 0,oM 24 5,Ze 25 3 23 24,Y9 26 3 25,o 6 (.alloc [ZJ 0,ZJ 0,ZJ 0]),Za 3 6 26] (sQ [oF 27 0 6,oL 28 27,Y8 29 .geq 28 0,oM 30 29,Zh 31 30 true 0 6,Zg 32 30 true 31,Zf 33 30 true 1,Zi 34 30 true .lss 32 33,Zd 35 30 34,oM 36 35,Zh 37 36 true 1 6,Zg 38 36 true 37,Zj 39 36 true .eql 38 (-1),Zd 40 36 39,oM 41 40,Zh 42 41 true 2 6,Zg 43 41 true 42,Zj 44 41 true .eql 43 (-1),Zd 45 41 44,oM 7 45] (sQ [oF 46 0 6,oL 47 46,Y8 48 .eql 47 (-1),oM 49 48,Zh 50 49 true 1 6,Zg 51 49 true 50,Zj 52 49 true .geq 51 0,Zd 53 49 52,oM 54 53,Zh 55 54 true 1 6,Zg 56 54 true 55,Zf 57 54 true 5,Zi 58 54 true .lss 56 57,Zd 59 54 58,oM 60 59,Zh 61 60 true 2 6,Zg 62 60 true 61,Zj 63 60 true .geq 62 0,Zd 64 60 63,oM 65 64,Zh 66 65 true 2 6,Zg 67 65 true 66,Zf 68 65 true 5,Zi 69 65 true .lss 67 68,Zd 70 65 69,oM 71 70,Zh 72 71 true 1 6,Zg 73 71 true 72,Zh 74 71 true 2 6,Zg 75 71 true 74,Zi 76 71 true .neq 73 75,Zd 77 71 76,oM 8 77] (ZI (sQ [oM 78 7,Zy 79 78,oM 80 79,Zf 81 80 true 8,og 82 80 true (.not (.t 81)),Zd 83 80 82] (ZH 83 (sQ [Zv 4 false] (.ret)) (.skip))) (sQ [oK 9 0] (ZI (sQ [oK 10 0] (.blk 2 (.loop jN))) dV))))))) qm)
def qo:SC:=sQ [Zv 4 true] (.ret)
def jW:SF:=⟨152,[.tm 4],sQ [Zv 4 false] (ZI (sQ [oM 11 0,oN 12 11,oM 13 1,o 14 (.bin .mul (qI 2) (.t 13)),Y8 15 .sub 14 1,Y7 16 .neq 12 15] (ZH 16 (sQ [Zv 4 false] (.ret)) (.skip))) (ZI (sQ [oK 5 0] (.blk 0 (.loop qj))) qo))⟩
def gU:SC:=ZF 41 7 42 41 7 42
def gT:SC:=ZI (sQ [oM 34 7,oM 35 0,Zb 36 35,oF 37 3 36,oL 38 37,oN 39 38,Y7 40 .lss 34 39] (ZG 40 0)) (ZI (.blk 1 (sQ [oM 43 0,Zb 44 43,oF 45 3 44,oL 46 45,oM 47 7,oX 48 46 47,oL 49 48,Y8 50 .geq 49 0] (ZH 50 (.ops [oM 51 6,oM 52 7,Zz 53 .u64 52,o 54 (.bin .shl (.k (ZL 1)) (.t 53)),Y7 55 .andNot 51 54,oM 6 55]) (.skip)))) gU)
def gV:SC:=sQ [oM 56 6,oM 4 56] (.ret)
def e8:SF:=⟨57,[.tm 4],sQ [o 4 (.mv (.k (ZL 0)))] (sQ [oM 8 0,Zb 9 8,oF 10 2 9,oL 11 10,oM 12 1,Ze 13 3 11 12,Y9 14 3 13,o 5 (.alloc [ZJ 0,ZJ 0,ZJ 0]),Za 3 5 14] (ZI (sQ [oF 15 0 5,oL 16 15,Y8 17 .eql 16 (-1)] (ZH 17 (ZI (.feet [0,0,2,7,0,0,32,127,255,511] [oM 18 0,oF 19 1 5,oL 20 19,Zr 21 33 18 20,oM 22 0,oF 23 2 5,oL 24 23,Zr 25 33 22 24,Y7 26 .or 21 25,oM 4 26]) (.ret)) (.skip))) (ZI (.quiet [oM 27 0,Zb 28 27,oF 29 0 28,Y9 30 2 29,oF 31 0 5,oL 32 31,Zr 33 62 30 32,oM 6 33]) (ZI (sQ [oK 7 0] (.blk 0 (.loop gT))) gV))))⟩
def eW:SC:=ZI (sQ [oM 37 11,oM 38 0,Zb 39 38,oF 40 5 39,oL 41 40,oN 42 41,Y7 43 .lss 37 42] (ZG 43 0)) (ZI (.blk 1 (sQ [oM 46 0,Zb 47 46,oF 48 5 47,oL 49 48,oM 50 11,Ze 51 3 49 50,oF 52 0 51,oL 53 52,oM 54 1,Y7 55 .eql 53 54,oM 56 55,Zf 57 56 true 0,og 58 56 true (.nilc (.t 57)),Zh 59 56 true 5 58,Zg 60 56 true 59,Zf 61 56 true 11,ZA 62 56 true 3 60 61,Zh 63 56 true 1 62,Zg 64 56 true 63,Zf 65 56 true 10,og 66 56 true (.call 64 [.t 64,.t 65]),Zd 67 56 66] (ZH 67 (sQ [oM 68 0,Zb 69 68,oF 70 5 69,oL 71 70,oM 72 11,Ze 73 3 71 72,oF 74 2 73,oL 75 74,oM 8 75] (.ret)) (.skip)))) (ZF 44 11 45 44 11 45))
def eX:SC:=ZI (sQ [oM 98 14,oM 99 13,oN 100 99,Y7 101 .lss 98 100] (ZG 101 2)) (ZI (.blk 3 (.quiet [oM 104 12,oM 105 0,Zb 106 105,oF 107 0 106,Y9 108 2 107,oF 109 0 9,oL 110 109,oM 111 13,oM 112 14,oX 113 111 112,oL 114 113,Zs 115 66 108 110 114,oM 116 13,oM 117 14,oX 118 116 117,oL 119 118,oF 120 0 9,oL 121 120,oX 122 119 121,oL 123 122,oX 124 115 123,oL 125 124,Y7 126 .add 104 125,oM 12 126])) (ZF 102 14 103 102 14 103))
def jz:SC:=sQ [oM 127 12,oM 8 127] (.ret)
def eZ:SC:=ZI (sQ [oM 151 17,oM 152 16,oN 153 152,Y7 154 .lss 151 153] (ZG 154 4)) (ZI (.blk 5 (ZI (.feet [0,0,2,0,0,24,56,0,0,384,1023,2047] [oM 157 0,oF 158 1 9,oL 159 158,oM 160 16,oM 161 17,oX 162 160 161,oL 163 162,oM 164 3,oM 165 15,Y7 166 .or 164 165,Zt 167 34 157 159 163 166,oM 18 167]) (.feet [0,0,0,0,8,0,0,96,224,0,0,1536,4092,8190,16383,32767] [oM 168 12,oM 169 18,oM 170 0,oF 171 2 9,oL 172 171,oM 173 16,oM 174 17,oX 175 173 174,oL 176 175,oM 177 3,oM 178 15,Y7 179 .or 177 178,Zt 180 34 170 172 176 179,Y7 181 .mul 169 180,Y7 182 .add 168 181,oM 12 182]))) (ZF 155 17 156 155 17 156))
def e6:SC:=sQ [oM 206 12,oM 8 206] (.ret)
def cY:SC:=ZI (ZI (.quiet [oM 183 0,Zb 184 183,oF 185 5 184,oL 186 185,oN 187 186,oM 188 0,Zb 189 188,oF 190 6 189,oL 191 190,Y7 192 .lss 187 191]) (ZH 192 (.ops [oM 193 0,oM 194 0,Zb 195 194,oF 196 5 195,oL 197 196,oM 198 1,oM 199 10,oM 200 12,o 201 (.build [ZJ 0,.nils,ZJ 0] [(0,1),(1,1),(2,1)] [.t 198,.t 199,.t 200]),o 202 (.bsl 3 1 [ZJ 0,.nils,ZJ 0] [0] [.t 201]),Zu 203 3 40 197 202,Zb 204 193,oF 205 5 204,Za 1 205 203]) (.skip))) e6
def jA:SC:=ZI (.quiet [oM 128 0,Zb 129 128,oF 130 4 129,oL 131 130,oF 132 1 9,oL 133 132,oX 134 131 133,oL 135 134,oM 136 0,Zb 137 136,oF 138 4 137,oL 139 138,oF 140 2 9,oL 141 140,oX 142 139 141,oL 143 142,Y7 144 .and 135 143,oM 145 3,Y7 146 .andNot 144 145,oM 15 146]) (sQ [oM 147 0,oM 148 2,oM 149 15,Zs 150 65 147 148 149,oM 16 150] (ZI (sQ [oK 17 0] (.blk 4 (.loop eZ))) cY))
def cZ:SC:=sQ [oM 76 0,Zb 77 76,oF 78 7 77,oL 79 78,oA 80 79,Zb 81 76,oF 82 7 81,Za 1 82 80] (sQ [oK 12 0] (ZI (sQ [oF 83 0 9,oL 84 83,Y8 85 .geq 84 0] (ZH 85 (sQ [oM 86 0,oM 87 2,oM 88 0,Zb 89 88,oF 90 4 89,oL 91 90,oM 92 1,oX 93 91 92,oL 94 93,oM 95 3,Y7 96 .andNot 94 95,Zs 97 65 86 87 96,oM 13 97] (ZI (sQ [oK 14 0] (.blk 2 (.loop eX))) jz)) (.skip))) jA))
def il:SF:=⟨207,[.tm 8],sQ [oK 8 0] (sQ [oM 19 0,Zb 20 19,oF 21 2 20,oL 22 21,oM 23 1,Ze 24 3 22 23,Y9 25 3 24,o 9 (.alloc [ZJ 0,ZJ 0,ZJ 0]),Za 3 9 25] (sQ [oM 26 2,oM 27 0,Zb 28 27,oF 29 4 28,oL 30 29,oM 31 1,oX 32 30 31,oL 33 32,oM 34 3,Y7 35 .and 33 34,Zr 36 63 26 35,oM 10 36] (ZI (sQ [oK 11 0] (.blk 0 (.loop eW))) cZ)))⟩
def wO:SC:=sQ [oM 8 0,oM 9 1,Zr 10 67 8 9,oM 7 10,Y_ 11 7 0,Y_ 12 7 1,o 5 (.alloc [ZJ 0,ZJ 0]),Za 2 5 11,oM 6 12] (sQ [Y9 13 2 5,Za 2 4 13] (.ret))
def vq:SF:=⟨14,[.cell true 2 4],sQ [o 4 (.alloc [ZJ 0,ZJ 0])] wO⟩
def sg:SC:=ZF 11 6 12 11 6 12
def se:SC:=ZI (sQ [oM 7 6,Y9 8 2 2,Zq 9 68 8,Y7 10 .lss 7 9] (ZG 10 0)) (ZI (.blk 1 (sQ [Y9 13 2 2,oM 14 6,Zr 15 70 13 14,oM 16 1,Zr 17 69 15 16] (ZH 17 (.ops [oM 18 5,Y9 19 2 2,oM 20 6,Zr 21 71 19 20,Y7 22 .add 18 21,oM 5 22]) (.skip)))) sg)
def si:SC:=sQ [oM 23 5,oM 4 23] (.ret)
def tk:SC:=sQ [oK 5 0] (ZI (sQ [oK 6 0] (.blk 0 (.loop se))) si)
def qW:SF:=⟨24,[.tm 4],sQ [ZD 2 0,oK 4 0] tk⟩
def qd:SC:=ZI (sQ [oM 5 4,oF 6 1 1,oL 7 6,oN 8 7,Y7 9 .lss 5 8] (ZG 9 0)) (ZI (.blk 1 (.ops [oM 12 3,oF 13 0 1,oL 14 13,Y7 15 .mul 12 14,oM 3 15])) (ZF 10 4 11 10 4 11))
def qf:SC:=sQ [oM 16 3,oM 2 16] (.ret)
def sn:SC:=sQ [oK 3 1] (ZI (sQ [oK 4 0] (.blk 0 (.loop qd))) qf)
def pd:SF:=⟨17,[.tm 2],sQ [ZD 1 0,oK 2 0] sn⟩
def uF:SC:=sQ [Y9 6 2 1,Zq 7 54 6,oM 5 7,Y_ 8 5 0,Y_ 9 5 1,o 3 (.alloc [ZJ 0,.nils,.nils,.nils,.nils]),Za 5 3 8,oM 4 9] (sQ [oM 10 4,oM 2 10] (.ret))
def ta:SF:=⟨11,[.tm 2],sQ [ZD 1 0,oK 2 0] uF⟩
def dj:SF:=⟨9,[.tm 4],sQ [Zv 4 false] (sQ [oM 5 0,oM 6 1,Zr 7 81 5 6,Y8 8 .geq 7 0,oM 4 8] (.ret))⟩
def qU:SC:=ZI (sQ [oM 5 4,oF 6 0 1,oL 7 6,oN 8 7,Y7 9 .lss 5 8,oM 10 9,Zf 11 10 true 4,Zj 12 10 true .lss 11 5,Zd 13 10 12] (ZG 13 0)) (ZI (.blk 1 (.ops [oM 16 3,oF 17 0 1,oL 18 17,oM 19 4,oX 20 18 19,oL 21 20,Zx 22 .rem 21 .u8 4,Zz 23 .i64 22,o 24 (.bin .add (qI 1) (.t 23)),ZB 25 24,Zu 26 1 8 16 25,oM 3 26])) (ZF 14 4 15 14 4 15))
def iZ:SC:=sQ [oM 27 3,oM 2 27] (.ret)
def jp:SC:=sQ [Zw 3] (ZI (sQ [oK 4 0] (.blk 0 (.loop qU))) iZ)
def gF:SF:=⟨28,[.tm 2],sQ [ZD 1 0,Zw 2] jp⟩
def Cd:SC:=ZI (sQ [oM 7 6,oM 8 1,oN 9 8,Y7 10 .lss 7 9] (ZG 10 0)) (ZI (.blk 1 (.ops [oM 13 5,oM 14 0,oM 15 1,oM 16 6,oX 17 15 16,oL 18 17,oX 19 14 18,oL 20 19,ZB 21 20,Zu 22 1 8 13 21,oM 5 22])) (ZF 11 6 12 11 6 12))
def uI:SC:=sQ [oM 23 5,oM 4 23] (.ret)
def vy:SF:=⟨24,[.tm 4],sQ [Zw 4] (sQ [Zw 5] (ZI (sQ [oK 6 0] (.blk 0 (.loop Cd))) uI))⟩
def pS:SC:=ZI (sQ [oM 5 4,oF 6 1 1,oL 7 6,oN 8 7,Y7 9 .lss 5 8] (ZG 9 0)) (ZI (.blk 1 (.ops [oM 12 3,oF 13 1 1,oL 14 13,oM 15 4,Ze 16 3 14 15,oF 17 0 16,oL 18 17,ZB 19 18,Zu 20 1 8 12 19,oM 3 20])) (ZF 10 4 11 10 4 11))
def pT:SC:=sQ [oM 21 3,oM 2 21] (.ret)
def r_:SC:=sQ [Zw 3] (ZI (sQ [oK 4 0] (.blk 0 (.loop pS))) pT)
def o8:SF:=⟨22,[.tm 2],sQ [ZD 1 0,Zw 2] r_⟩
def oJ:SC:=sQ [Y7 51 .lss 50 49] (ZI (ZG 51 0) (ZI (.blk 1 (sQ [oM 52 50,Ze 53 3 48 50,Y9 54 3 53,o 7 (.alloc [ZJ 0,.nils,.nils]),oM 6 52,Za 3 7 54] (ZI (sQ [oF 55 0 7,oL 56 55,Y8 57 .lss 56 1,oM 58 57,Zh 59 58 false 0 7,Zg 60 58 false 59,Zj 61 58 false .gtr 60 4,Zc 62 58 61] (ZH 62 (sQ [o 63 (.build [ZJ 0,.nils,.nils,.nils,.nils] [] []),Za 5 2 63,oK 3 50] (.ret)) (.skip))) (sQ [oF 64 2 4,oL 65 64,oM 66 6,oF 67 0 7,oL 68 67,oX 69 65 66,Za 1 69 68] (.ops [oM 70 5,oF 71 0 7,oL 72 71,Y7 73 .mul 70 72,oM 5 73]))))) (.ops [oA 74 50,oM 50 74])))
def oP:SC:=sQ [Y7 91 .lss 90 89] (ZI (ZG 91 4) (ZI (.blk 5 (sQ [oX 92 88 90,oL 93 92,oM 12 93] (ZI (sQ [oM 94 12,oM 95 10,Y7 96 .leq 94 95,oM 97 96,Zf 98 97 false 12,Zh 99 97 false 0 4,Zh 100 97 false 1 99,Zg 101 97 false 100,Zk 102 97 false 101,Zi 103 97 false .geq 98 102,Zc 104 97 103,oM 105 104,Zf 106 105 false 12,Zf 107 105 false 8,Zi 108 105 false .eql 106 107,Zc 109 105 108] (ZH 109 (sQ [o 110 (.build [ZJ 0,.nils,.nils,.nils,.nils] [] []),Za 5 2 110,oK 3 50] (.ret)) (.skip))) (sQ [oM 111 12,oM 10 111] (.feet [0,1,0,7,15,0,32,127,255,511] [oF 112 3 4,oL 113 112,oM 114 8,oX 115 113 114,oL 116 115,oM 117 12,o 118 (.bin .shl (.k (ZL 1)) (.t 117)),Y7 119 .or 116 118,oX 120 113 114,Za 1 120 119]))))) (.ops [oA 121 90,oM 90 121])))
def oR:SC:=sQ [Y9 122 5 4,Y9 123 3 9,Zr 124 82 122 123,Zy 125 124] (ZH 125 (sQ [o 126 (.build [ZJ 0,.nils,.nils,.nils,.nils] [] []),Za 5 2 126,oK 3 50] (.ret)) (.skip))
def uG:SC:=.ops [oA 127 82,oM 82 127]
def oQ:SC:=sQ [Y7 83 .lss 82 81] (ZI (ZG 83 2) (ZI (.blk 3 (sQ [oM 84 82,Ze 85 3 80 82,Y9 86 3 85,o 9 (.alloc [ZJ 0,.nils,.nils]),oM 8 84,Za 3 9 86] (sQ [oK 10 (-1)] (ZI (sQ [oF 87 1 9,oL 88 87,oN 89 88,oK 90 0] (.blk 4 (.loop oP))) oR)))) uG))
def oS:SC:=sQ [oF 129 3 4,oL 130 129,Zq 131 83 130,oM 128 131,Y_ 132 128 0,Y_ 133 128 1,oM 13 132,oM 14 133] (ZI (sQ [oM 134 14,Zy 135 134] (ZH 135 (sQ [o 136 (.build [ZJ 0,.nils,.nils,.nils,.nils] [] []),Za 5 2 136,oK 3 50] (.ret)) (.skip))) (sQ [oM 137 13,oF 138 4 4,Za 1 138 137] (sQ [Y9 139 5 4,Za 5 2 139,oK 3 0] (.ret))))
def uH:SC:=ZI (sQ [oM 75 5,Y8 76 .gtr 75 1024] (ZH 76 (sQ [o 77 (.build [ZJ 0,.nils,.nils,.nils,.nils] [] []),Za 5 2 77,oK 3 50] (.ret)) (.skip))) (ZI (sQ [oF 78 0 4,oF 79 1 78,oL 80 79,oN 81 80,oK 82 0] (.blk 2 (.loop oQ))) oS)
def wM:SC:=ZI (sQ [oF 15 0 1,oL 16 15,Y8 17 .lss 16 1,oM 18 17,Zh 19 18 false 0 1,Zg 20 18 false 19,Zj 21 18 false .gtr 20 60,Zc 22 18 21,oM 23 22,Zh 24 23 false 1 1,Zg 25 23 false 24,Zk 26 23 false 25,Zj 27 23 false .lss 26 1,Zc 28 23 27,oM 29 28,Zh 30 29 false 1 1,Zg 31 29 false 30,Zk 32 29 false 31,Zj 33 29 false .gtr 32 8,Zc 34 29 33] (ZH 34 (sQ [o 35 (.build [ZJ 0,.nils,.nils,.nils,.nils] [] []),Za 5 2 35,oK 3 50] (.ret)) (.skip))) (ZI (.feet [0,0,2,6,14,0,32,96,224,511,0,2047] [Y9 36 2 1,oF 37 1 1,oL 38 37,oN 39 38,o 40 (.mks 1 8 [ZJ 0] (.t 39) (.t 39)),oF 41 1 1,oL 42 41,oN 43 42,o 44 (.mks 1 8 [ZL 0] (.t 43) (.t 43)),o 45 (.build [ZJ 0,.nils,.nils,.nils,.nils] [(0,2),(2,1),(3,1)] [.t 36,.t 40,.t 44]),o 4 (.alloc [ZJ 0,.nils,.nils,.nils,.nils]),Za 5 4 45]) (sQ [oK 5 1] (ZI (sQ [oF 46 0 4,oF 47 1 46,oL 48 47,oN 49 48,oK 50 0] (.blk 0 (.loop oJ))) uH)))
def mE:SF:=⟨140,[.cell true 5 2,.tm 3],sQ [ZD 1 0,o 2 (.alloc [ZJ 0,.nils,.nils,.nils,.nils]),oK 3 0] wM⟩
def dy:SF:=⟨8,[.tm 2],sQ [Zw 2] (ZI (sQ [oM 3 0,o 4 (.eq false .slice (.t 3) (.k (.nils)))] (ZH 4 (sQ [Zw 2] (.ret)) (.skip))) (sQ [o 5 (.bsl 1 0 [ZJ 0] [] []),oM 6 0,Zu 7 1 8 5 6,oM 2 7] (.ret)))⟩
def fc:SC:=.skip
def cF:SC:=.blk 1 (sQ [oL 63 2,oF 64 1 5,oL 65 64,o 66 (.dyn (.t 63) [.t 65]),oM 10 66] (.feet [0,0,0,0,8,28,62,127,255] [oL 67 9,oM 68 10,oL 69 2,oF 70 2 5,oL 71 70,o 72 (.dyn (.t 69) [.t 71]),Y7 73 .mul 68 72,Y7 74 .add 67 73,Za 1 9 74]))
def fd:SC:=sQ [oL 91 9,oM 4 91] (.ret)
def cG:SC:=ZI (ZI (.quiet [oL 75 1,Zb 76 75,oF 77 6 76,oL 78 77,o 79 (.len .map (.t 78)),oL 80 1,Zb 81 80,oF 82 7 81,oL 83 82,Y7 84 .lss 79 83]) (ZH 84 (.feet [0,1,3,7,0,0,63] [oL 85 1,Zb 86 85,oF 87 6 86,oL 88 87,Y9 89 9 6,oL 90 9,oz (.raw (.mapUpdate 88 (.tmp 88) (.tmp 89) (.tmp 90)))]) (.skip))) fd
def bE:SF:=⟨92,[.tm 4],sQ [oK 4 0] (sQ [oL 11 1,Zb 12 11,oF 13 2 12,oL 14 13,oM 15 0,Ze 16 3 14 15,Y9 17 3 16,o 5 (.alloc [ZJ 0,ZJ 0,ZJ 0]),Za 3 5 17] (ZI (sQ [oF 18 0 5,oL 19 18,Y8 20 .neq 19 (-1)] (ZH 20 (sQ [oL 21 1,Zb 22 21,oF 23 8 22,oL 24 23,oA 25 24,Zb 26 21,oF 27 8 26,Za 1 27 25] (sQ [oL 28 1,oF 29 0 5,oL 30 29,Zr 31 57 28 30,oM 4 31] (.ret))) (.skip))) (sQ [oL 32 1,oM 33 0,Zr 34 58 32 33,o 6 (.alloc [ZJ 0,ZJ 0,ZJ 0,ZJ 0,ZJ 0,ZJ 0,ZJ 0,ZJ 0,ZJ 0]),Za 9 6 34] (ZI (ZI (.quiet [oL 36 1,Zb 37 36,oF 38 6 37,oL 39 38,Y9 40 9 6,o 41 (.raw (.lookup 88 (.tmp 39) (.tmp 40) true)),oM 35 41,Y_ 42 35 0,Y_ 43 35 1,oM 7 42,oM 8 43]) (sQ [oM 44 8] (ZH 44 (sQ [oM 45 7,oM 4 45] (.ret)) (.skip)))) (sQ [oL 46 1,Zb 47 46,oF 48 8 47,oL 49 48,oA 50 49,Zb 51 46,oF 52 8 51,Za 1 52 50] (sQ [o 9 (.alloc [ZJ 0]),oz (.store 1 (.t 9) (qI 0))] (ZI (ZI (.feet [0,0,2,6,14,0,62,126,255] [oL 53 1,oL 54 1,Zb 55 54,oF 56 4 55,oL 57 56,oM 58 0,oX 59 57 58,oL 60 59,Zr 61 59 53 60]) (.blk 0 (.rng 92 (.t 61) [62] fc cF))) cG)))))))⟩
def fB:SC:=.ops [oA 39 23,oM 23 39]
def cQ:SC:=sQ [Y7 24 .lss 23 22] (ZI (ZG 24 0) (ZI (.blk 1 (sQ [oX 25 21 23,oL 26 25,oM 7 26] (sQ [oL 27 2,Zb 28 27,oF 29 3 28,oL 30 29,oM 31 7,oX 32 30 31,oL 33 32,Y8 34 .eql 33 (-1)] (ZH 34 (.ops [oM 35 5,oM 36 7,o 37 (.bin .shl (.k (ZL 1)) (.t 36)),Y7 38 .or 35 37,oM 5 38]) (.skip))))) fB))
def fA:SC:=.skip
def bN:SC:=.blk 3 (.feet [0,0,2,6,14,30,0,126,254,510,0,1024,3072,7168,15360,0,0,65536,196608,458752,1047552,2097150,4194302,0,8388608,25165824,58720256,0,260046848,528482304,1073741822,2147483646,4294967295,8589934591] [oL 44 8,oL 45 2,Zb 46 45,oF 47 0 46,oF 48 1 47,oL 49 48,oL 50 3,Ze 51 3 49 50,oF 52 2 51,oL 53 52,oL 54 2,Zb 55 54,oF 56 0 55,oF 57 1 56,oL 58 57,oL 59 3,oL 60 2,Zb 61 60,oF 62 3 61,oL 63 62,Zs 64 84 58 59 63,oX 65 53 64,oL 66 65,oL 67 2,Zb 68 67,oF 69 3 68,oL 70 69,oL 71 3,oX 72 70 71,oL 73 72,oX 74 66 73,oL 75 74,Y7 76 .add 44 75,Za 1 8 76])
def fC:SC:=sQ [oL 77 8,oM 4 77] (.ret)
def fD:SC:=sQ [o 8 (.alloc [ZJ 0]),oz (.store 1 (.t 8) (qI 0))] (ZI (sQ [oL 40 2,oM 41 5,Zr 42 59 40 41] (.blk 2 (.rng 78 (.t 42) [43] fA bN))) fC)
def gk:SC:=sQ [o 5 (.mv (.k (ZL 0)))] (ZI (ZI (.feet [0,1,3,7,15,0,63,127,255,511,0,1024,4095,8191,0] [oL 9 2,Zb 10 9,oF 11 0 10,oF 12 1 11,oL 13 12,oL 14 3,Ze 15 3 13 14,oF 16 1 15,oL 17 16,Zq 18 55 17,oL 19 3,ZB 20 19,Zu 21 1 8 18 20,oN 22 21,oK 23 0]) (.blk 0 (.loop cQ))) fD)
def dS:SF:=⟨78,[.tm 4],sQ [ZD 2 0,ZD 3 1,oK 4 0] gk⟩
def fj:SC:=.ops [oA 36 9,oM 9 36]
def fe:SC:=sQ [Y8 10 .lss 9 8] (ZI (ZG 10 0) (ZI (.blk 1 (sQ [oM 11 9,oM 6 11] (sQ [oM 12 6,oF 13 1 5,ZE 14 8 1 13 12,oz (.store 1 (.t 14) (qI (-1)))] (sQ [oM 15 0,Zb 16 15,oF 17 5 16,oL 18 17,oM 19 1,oX 20 18 19,oL 21 20,oM 22 6,Y7 23 .shr 21 22,Zx 24 .and 23 .u64 1,Zx 25 .eql 24 .u64 1] (ZH 25 (.ops [oM 26 6,oM 27 0,Zb 28 27,oF 29 3 28,oL 30 29,oM 31 6,oX 32 30 31,oL 33 32,oF 34 1 5,ZE 35 8 1 34 26,Za 1 35 33]) (.skip)))))) fj))
def fk:SC:=sQ [Y9 37 9 5,Za 9 4 37] (.ret)
def fE:SC:=sQ [oM 7 1,o 8 (.build [ZJ 0,ZJ 0,ZJ 0,ZJ 0,ZJ 0,ZJ 0,ZJ 0,ZJ 0,ZJ 0] [(0,1)] [.t 7]),o 5 (.alloc [ZJ 0,ZJ 0,ZJ 0,ZJ 0,ZJ 0,ZJ 0,ZJ 0,ZJ 0,ZJ 0]),Za 9 5 8] (ZI (sQ [oK 9 0] (.blk 0 (.loop fe))) fk)
def dG:SF:=⟨38,[.cell true 9 4],sQ [o 4 (.alloc [ZJ 0,ZJ 0,ZJ 0,ZJ 0,ZJ 0,ZJ 0,ZJ 0,ZJ 0,ZJ 0])] fE⟩
def e_:SC:=sQ [o 5 (.mkf 85 [] [.t 2,.t 3]),oM 4 5] (.ret)
def c_:SF:=⟨6,[.tm 4],sQ [ZD 2 0,ZD 3 1,o 4 (.mv (.k (.nilf)))] e_⟩
def pU:SC:=ZI (sQ [oM 31 4,oF 32 1 1,oL 33 32,oN 34 33,Y7 35 .lss 31 34] (ZG 35 0)) (ZI (.blk 1 (sQ [oF 38 1 1,oL 39 38,oM 40 4,Ze 41 3 39 40,Y9 42 3 41,o 5 (.alloc [ZJ 0,.nils,.nils]),Za 3 5 42] (ZI (sQ [oF 43 0 5,oL 44 43,Y8 45 .lss 44 1,oM 46 45,Zh 47 46 false 0 5,Zg 48 46 false 47,Zj 49 46 false .gtr 48 4,Zc 50 46 49,oM 51 50,Zh 52 51 false 1 5,Zg 53 51 false 52,Zh 54 51 false 1 1,Zg 55 51 false 54,Zk 56 51 false 55,og 57 51 false (.call 87 [.t 53,.t 56]),og 58 51 false (.not (.t 57)),Zc 59 51 58] (ZH 59 (sQ [Zv 2 false] (.ret)) (.skip))) (.ops [oM 60 3,oF 61 0 5,oL 62 61,Y7 63 .mul 60 62,oM 3 63])))) (ZF 36 4 37 36 4 37))
def jK:SC:=ZI (sQ [oM 108 10,oF 109 2 7,oL 110 109,oM 111 8,oX 112 110 111,oL 113 112,oN 114 113,Y7 115 .lss 108 114] (ZG 115 6)) (ZI (.blk 7 (ZI (ZI (.quiet [oF 118 2 7,oL 119 118,oM 120 8,oX 121 119 120,oL 122 121,oM 123 10,oX 124 122 123,oL 125 124,Y8 126 .lss 125 0,oM 127 126,Zh 128 127 false 2 7,Zg 129 127 false 128,Zf 130 127 false 8,ZA 131 127 false 1 129 130,Zg 132 127 false 131,Zf 133 127 false 10,ZA 134 127 false 1 132 133,Zg 135 127 false 134,Zh 136 127 false 0 1,Zg 137 127 false 136,Zi 138 127 false .gtr 135 137,Zc 139 127 138]) (ZH 139 (sQ [Zv 2 false] (.ret)) (.skip))) (.ops [oM 140 9,oF 141 2 7,oL 142 141,oM 143 8,oX 144 142 143,oL 145 144,oM 146 10,oX 147 145 146,oL 148 147,Y7 149 .add 140 148,oM 9 149]))) (ZF 116 10 117 116 10 117))
def jM:SC:=sQ [oM 150 9,oF 151 0 1,oL 152 151,Y7 153 .neq 150 152] (ZH 153 (sQ [Zv 2 false] (.ret)) (.skip))
def pW:SC:=ZF 97 8 98 97 8 98
def jL:SC:=ZI (sQ [oM 92 8,oF 93 2 7,oL 94 93,oN 95 94,Y7 96 .lss 92 95] (ZG 96 4)) (ZI (.blk 5 (ZI (ZI (.quiet [oF 99 2 7,oL 100 99,oM 101 8,oX 102 100 101,oL 103 102,oN 104 103,oF 105 0 7,oL 106 105,Y7 107 .neq 104 106]) (ZH 107 (sQ [Zv 2 false] (.ret)) (.skip))) (sQ [oK 9 0] (ZI (sQ [oK 10 0] (.blk 6 (.loop jK))) jM)))) pW)
def pX:SC:=ZF 77 6 78 77 6 78
def pV:SC:=ZI (sQ [oM 72 6,oF 73 1 1,oL 74 73,oN 75 74,Y7 76 .lss 72 75] (ZG 76 2)) (ZI (.blk 3 (sQ [oF 79 1 1,oL 80 79,oM 81 6,Ze 82 3 80 81,Y9 83 3 82,o 7 (.alloc [ZJ 0,.nils,.nils]),Za 3 7 83] (ZI (ZI (.quiet [oF 84 2 7,oL 85 84,oN 86 85,Y9 87 2 1,oM 88 6,Zr 89 23 87 88,Zq 90 22 89,Y7 91 .neq 86 90]) (ZH 91 (sQ [Zv 2 false] (.ret)) (.skip))) (sQ [oK 8 0] (.blk 4 (.loop jL)))))) pX)
def pY:SC:=sQ [Zv 2 true] (.ret)
def pZ:SC:=ZI (sQ [oM 64 3,Y8 65 .gtr 64 1024,oM 66 65,og 67 66 false (.load true 2 (.t 1)),og 68 66 false (.call 89 [.t 67]),og 69 66 false (.call 88 [.t 68]),og 70 66 false (.not (.t 69)),Zc 71 66 70] (ZH 71 (sQ [Zv 2 false] (.ret)) (.skip))) (ZI (sQ [oK 6 0] (.blk 2 (.loop pV))) pY)
def sj:SC:=ZI (sQ [oF 11 0 1,oL 12 11,Y8 13 .lss 12 1,oM 14 13,Zh 15 14 false 0 1,Zg 16 14 false 15,Zj 17 14 false .gtr 16 60,Zc 18 14 17,oM 19 18,Zh 20 19 false 1 1,Zg 21 19 false 20,Zk 22 19 false 21,Zj 23 19 false .lss 22 1,Zc 24 19 23,oM 25 24,Zh 26 25 false 1 1,Zg 27 25 false 26,Zk 28 25 false 27,Zj 29 25 false .gtr 28 8,Zc 30 25 29] (ZH 30 (sQ [Zv 2 false] (.ret)) (.skip))) (sQ [oK 3 1] (ZI (sQ [oK 4 0] (.blk 0 (.loop pU))) pZ))
def o9:SF:=⟨154,[.tm 2],sQ [ZD 1 0,Zv 2 false] sj⟩
def lM:SC:=ZI (sQ [oM 12 5,oM 13 1,oN 14 13,Y7 15 .lss 12 14] (ZG 15 0)) (ZI (.blk 1 (ZI (.quiet [oM 18 1,oM 19 5,oX 20 18 19,oL 21 20,Y8 22 .lss 21 (-1),oM 23 22,Zf 24 23 false 1,Zf 25 23 false 5,ZA 26 23 false 1 24 25,Zg 27 23 false 26,Zh 28 23 false 1 2,Zg 29 23 false 28,Zf 30 23 false 5,ZA 31 23 false 3 29 30,Zh 32 23 false 0 31,Zg 33 23 false 32,Zi 34 23 false .geq 27 33,Zc 35 23 34]) (ZH 35 (sQ [Zv 4 false] (.ret)) (.skip)))) (ZF 16 5 17 16 5 17))
def lN:SC:=sQ [Zv 4 true] (.ret)
def ij:SC:=ZI (sQ [oM 6 1,oN 7 6,oF 8 1 2,oL 9 8,oN 10 9,Y7 11 .neq 7 10] (ZH 11 (sQ [Zv 4 false] (.ret)) (.skip))) (ZI (sQ [oK 5 0] (.blk 0 (.loop lM))) lN)
def f_:SF:=⟨36,[.tm 4],sQ [ZD 2 0,Zv 4 false] ij⟩
def qh:SC:=sQ [Y9 5 2 2,Zq 6 89 5,oM 7 1,oX 8 6 7,oL 9 8,oM 10 1,Zz 11 .u64 10,o 12 (.bin .shl (.k (ZL 1)) (.t 11)),Y7 13 .or 9 12,oM 4 13] (.ret)
def mY:SF:=⟨14,[.tm 4],sQ [ZD 2 0,o 4 (.mv (.k (ZL 0)))] qh⟩
def lC:SC:=.ops [oM 21 5,oM 22 7,ZB 23 22,Zu 24 1 8 21 23,oM 5 24]
def zu:SC:=ZF 12 6 13 12 6 13
def zt:SC:=ZI (sQ [oM 8 6,oM 9 0,oN 10 9,Y7 11 .lss 8 10] (ZG 11 0)) (ZI (.blk 1 (sQ [oK 7 (-1)] (ZI (sQ [oM 14 1,oM 15 6,Zr 16 90 14 15] (ZH 16 (.ops [oM 17 0,oM 18 6,oX 19 17 18,oL 20 19,oM 7 20]) (.skip))) lC))) zu)
def sw:SC:=sQ [oM 25 5,oM 4 25] (.ret)
def qZ:SF:=⟨26,[.tm 4],sQ [Zw 4] (sQ [Zw 5] (ZI (sQ [oK 6 0] (.blk 0 (.loop zt))) sw))⟩
def rV:SC:=ZI (sQ [oM 11 5,oM 12 0,oN 13 12,Y7 14 .lss 11 13] (ZG 14 0)) (ZI (.blk 1 (ZI (.quiet [oM 17 0,oM 18 5,oX 19 17 18,oL 20 19,oM 21 1,oM 22 5,oX 23 21 22,oL 24 23,Y7 25 .neq 20 24]) (ZH 25 (sQ [Zv 4 false] (.ret)) (.skip)))) (ZF 15 5 16 15 5 16))
def rY:SC:=sQ [Zv 4 true] (.ret)
def lX:SF:=⟨26,[.tm 4],sQ [Zv 4 false] (ZI (sQ [oM 6 0,oN 7 6,oM 8 1,oN 9 8,Y7 10 .neq 7 9] (ZH 10 (sQ [Zv 4 false] (.ret)) (.skip))) (ZI (sQ [oK 5 0] (.blk 0 (.loop rV))) rY))⟩
def fK:SC:=ZI (sQ [oM 30 11,oM 31 0,Zb 32 31,oF 33 0 32,oF 34 1 33,oL 35 34,oM 36 8,Ze 37 3 35 36,oF 38 0 37,oL 39 38,Y7 40 .lss 30 39] (ZG 40 4)) (ZI (.blk 5 (.ops [oM 43 9,oM 44 7,oM 45 10,oX 46 44 45,oL 47 46,oM 48 8,oM 49 11,Zs 50 91 47 48 49,ZC 51 50,Zu 52 1 24 43 51,oM 9 52])) (ZF 41 11 42 41 11 42))
def kC:SC:=ZF 28 10 29 28 10 29
def fL:SC:=ZI (sQ [oM 24 10,oM 25 7,oN 26 25,Y7 27 .lss 24 26] (ZG 27 2)) (ZI (.blk 3 (sQ [oK 11 0] (.blk 4 (.loop fK)))) kC)
def kG:SC:=.ops [oM 53 9,oM 7 53]
def kH:SC:=ZF 18 8 19 18 8 19
def kA:SC:=ZI (sQ [oM 14 8,oM 15 1,oN 16 15,Y7 17 .lss 14 16] (ZG 17 0)) (ZI (.blk 1 (ZI (sQ [oM 20 2,oM 21 8,Zr 22 90 20 21,Zy 23 22] (ZH 23 (.exit 1) (.skip))) (sQ [Zw 9] (ZI (sQ [oK 10 0] (.blk 2 (.loop fL))) kG)))) kH)
def kI:SC:=sQ [oM 54 7,oM 6 54] (.ret)
def jc:SF:=⟨55,[.tm 6],sQ [Zw 6] (sQ [oM 12 1,ZC 13 12,oM 7 13] (ZI (sQ [oK 8 0] (.blk 0 (.loop kA))) kI))⟩
def o_:SC:=ZI (.quiet [oF 7 1 3,oL 8 7,oM 9 1,Ze 10 3 8 9,oF 11 2 10,oL 12 11,Y9 13 2 3,oM 14 1,Zr 15 23 13 14,oM 16 2,oF 17 1 3,oL 18 17,oM 19 1,Ze 20 3 18 19,oF 21 1 20,oL 22 21,Zr 23 52 16 22,Zr 24 92 15 23,oX 25 12 24,oL 26 25,oM 6 26]) (.ret)
def kz:SF:=⟨27,[.tm 6],sQ [ZD 3 0,Zw 6] o_⟩
def tb:SC:=sQ [oM 6 0,Y8 7 .lss 6 0,oM 8 1,Y8 9 .lss 8 0,o 10 (.eq true .bool (.t 7) (.t 9)),oM 11 0,Zq 12 94 11,oM 13 1,Zq 14 94 13,Zs 15 93 10 12 14,Y_ 16 15 0,Y_ 17 15 1,Za 2 4 16,oM 5 17] (.ret)
def qS:SF:=⟨18,[.cell true 2 4,.tm 5],sQ [o 4 (.alloc [ZJ 0,ZJ 0]),Zv 5 false] tb⟩
def qg:SC:=sQ [Y9 3 2 1,Zq 4 53 3,Zq 5 22 4,oM 2 5] (.ret)
def mV:SF:=⟨6,[.tm 2],sQ [ZD 1 0,oK 2 0] qg⟩
def mQ:SC:=ZI (sQ [oM 6 5,oM 7 0,oN 8 7,Y7 9 .lss 6 8] (ZG 9 0)) (ZI (.blk 1 (ZI (.quiet [oM 12 1,oM 13 5,oX 14 12 13,oL 15 14,Y8 16 .geq 15 0,oM 17 16,Zf 18 17 true 1,Zf 19 17 true 5,ZA 20 17 true 1 18 19,Zg 21 17 true 20,Zf 22 17 true 0,Zf 23 17 true 5,ZA 24 17 true 1 22 23,Zg 25 17 true 24,Zi 26 17 true .neq 21 25,Zd 27 17 26]) (ZH 27 (sQ [Zv 4 false] (.ret)) (.skip)))) (ZF 10 5 11 10 5 11))
def mS:SC:=sQ [Zv 4 true] (.ret)
def lz:SF:=⟨28,[.tm 4],sQ [Zv 4 false] (ZI (sQ [oK 5 0] (.blk 0 (.loop mQ))) mS)⟩
def p_:SC:=sQ [Y9 5 2 2,Zq 6 53 5,oM 7 1,Zr 8 95 6 7,oM 4 8] (.ret)
def mT:SF:=⟨9,[.tm 4],sQ [ZD 2 0,Zw 4] p_⟩
def nY:SC:=ZI (sQ [oM 11 7,oF 12 1 2,oL 13 12,oN 14 13,Y7 15 .lss 11 14] (ZG 15 0)) (ZI (.blk 1 (.quiet [oM 18 6,Y9 19 2 2,oM 20 7,oM 21 5,Zs 22 66 19 20 21,oM 23 5,oM 24 7,oX 25 23 24,oL 26 25,oX 27 22 26,oL 28 27,Y7 29 .mul 18 28,oM 6 29])) (ZF 16 7 17 16 7 17))
def nZ:SC:=sQ [oM 30 6,oM 4 30] (.ret)
def qc:SC:=sQ [Y9 8 2 2,oM 9 1,Zr 10 70 8 9,oM 5 10] (sQ [oK 6 1] (ZI (sQ [oK 7 0] (.blk 0 (.loop nY))) nZ))
def mU:SF:=⟨31,[.tm 4],sQ [ZD 2 0,oK 4 0] qc⟩
def gx:SC:=sQ [Y7 9 .lss 8 7] (ZI (ZG 9 0) (ZI (.blk 1 (sQ [oM 10 8,oM 5 10] (sQ [oM 11 1,oM 12 0,oM 13 5,oX 14 12 13,oL 15 14,o 16 (.eq false .bool (.t 11) (.t 15))] (ZH 16 (sQ [oM 17 5,oM 4 17] (.ret)) (.skip))))) (.ops [oA 18 8,oM 8 18])))
def gy:SC:=sQ [oK 4 (-1)] (.ret)
def eD:SF:=⟨19,[.tm 4],sQ [oK 4 0] (ZI (sQ [oM 6 0,oN 7 6,oK 8 0] (.blk 0 (.loop gx))) gy)⟩
def iC:SC:=sQ [Y7 17 .lss 16 15] (ZI (ZG 17 0) (ZI (.blk 1 (sQ [oX 18 14 16,oL 19 18,oM 7 19] (.ops [oM 20 5,oF 21 2 2,oL 22 21,oM 23 7,oX 24 22 23,oL 25 24,Y7 26 .mul 20 25,oM 5 26]))) (.ops [oA 27 16,oM 16 27])))
def iB:SC:=.ops [oM 9 36]
def dT:SC:=sQ [Y7 43 .lss 42 41] (ZI (ZG 43 4) (ZI (.blk 5 (sQ [oX 44 40 42,oL 45 44,oM 12 45] (ZI (sQ [oM 46 12,Y8 47 .lss 46 0,oM 48 47,Zf 49 48 false 12,Zf 50 48 false 10,Zi 51 48 false .gtr 49 50,Zc 52 48 51] (ZH 52 (sQ [oz (.store 1 (.t 4) (.k (.bool false)))] (.ret)) (.skip))) (.ops [oM 53 10,oM 54 12,Y7 55 .sub 53 54,oM 10 55])))) (.ops [oA 56 42,oM 42 56])))
def ct:SC:=sQ [oM 57 9,oN 58 57,oF 59 0 3,oL 60 59,Y7 61 .neq 58 60,oM 62 61,Zf 63 62 false 10,Zj 64 62 false .neq 63 0,Zc 65 62 64] (ZH 65 (sQ [oz (.store 1 (.t 4) (.k (.bool false)))] (.ret)) (.skip))
def iD:SC:=.blk 3 (sQ [oF 37 0 2,oF 38 0 37,oL 39 38,oM 10 39] (ZI (sQ [oM 40 9,oN 41 40,oK 42 0] (.blk 4 (.loop dT))) ct))
def iE:SC:=sQ [oz (.store 1 (.t 4) (.k (.bool true)))] (.ret)
def iF:SC:=ZI (sQ [oF 28 2 3,oL 29 28,oN 30 29,oM 31 5,Y7 32 .neq 30 31] (ZH 32 (sQ [oz (.store 1 (.t 4) (.k (.bool false)))] (.ret)) (.skip))) (ZI (sQ [Y9 33 3 3,Zq 34 103 33] (.blk 2 (.rng 66 (.t 34) [35,36] iB iD))) iE)
def iT:SC:=sQ [oK 5 1] (ZI (sQ [oF 13 1 3,oL 14 13,oN 15 14,oK 16 0] (.blk 0 (.loop iC))) iF)
def fF:SF:=⟨66,[.cell false 1 4],sQ [ZD 2 0,ZD 3 1,o 4 (.alloc [.bool false])] iT⟩
def rQ:SC:=sQ [Y7 19 .lss 18 17] (ZI (ZG 19 2) (ZI (.blk 3 (sQ [oM 20 18,oX 21 16 18,oL 22 21,oM 6 20,oM 7 22] (sQ [oM 23 5,oM 24 6,Y7 25 .shr 23 24,Zx 26 .and 25 .u64 1,Zx 27 .eql 26 .u64 0,oM 28 27,Zf 29 28 true 7,Zf 30 28 true 5,Zi 31 28 true .andNot 29 30,og 32 28 true (.bin .eql (.t 31) (.k (ZL 0))),Zd 33 28 32] (ZH 33 (sQ [oM 34 4,oM 35 6,ZB 36 35,Zu 37 1 8 34 36,oM 4 37] (sQ [oM 38 5,oM 39 6,o 40 (.bin .shl (.k (ZL 1)) (.t 39)),Y7 41 .or 38 40,oM 5 41] (.exit 1))) (.skip))))) (.ops [oA 42 18,oM 18 42])))
def rS:SC:=sQ [Zw 2,Zv 3 false] (.ret)
def rR:SC:=ZI (sQ [oM 11 4,oN 12 11,oM 13 0,oN 14 13,Y7 15 .lss 12 14] (ZG 15 0)) (.blk 1 (ZI (sQ [oM 16 0,oN 17 16,oK 18 0] (.blk 2 (.loop rQ))) rS))
def rT:SC:=sQ [oM 43 4,oM 2 43,Zv 3 true] (.ret)
def qR:SF:=⟨44,[.tm 2,.tm 3],sQ [Zw 2,Zv 3 false] (sQ [oM 8 0,oN 9 8,o 10 (.mks 1 8 [ZJ 0] (qI 0) (.t 9)),oM 4 10,o 5 (.mv (.k (ZL 0)))] (ZI (.skip) (ZI (.blk 0 (.loop rR)) rT)))⟩
def tD:SC:=sQ [Y7 17 .lss 16 15] (ZI (ZG 17 0) (ZI (.blk 1 (sQ [oX 18 14 16,oL 19 18,oM 9 19] (.quiet [oM 20 7,oM 21 0,oM 22 9,Ze 23 3 21 22,oF 24 0 23,oL 25 24,Y7 26 .mul 20 25,oM 27 2,oM 28 9,oX 29 27 28,oL 30 29,Y7 31 .add 26 30,oM 7 31]))) (.ops [oA 32 16,oM 16 32])))
def tE:SC:=sQ [oM 33 7,oM 6 33] (.ret)
def tC:SF:=⟨34,[.tm 6],sQ [oK 6 0] (sQ [oK 7 0] (ZI (sQ [oM 10 0,oM 11 1,Ze 12 3 10 11,oF 13 1 12,oL 14 13,oN 15 14,oK 16 0] (.blk 0 (.loop tD))) tE))⟩
def dO:SC:=.ops [oA 39 20,oM 20 39]
def bZ:SC:=sQ [Y7 21 .lss 20 19] (ZI (ZG 21 0) (ZI (.blk 1 (sQ [oM 22 20,Ze 23 3 18 20,Y9 24 3 23,o 7 (.alloc [ZJ 0,.nils,.nils]),oM 6 22,Za 3 7 24] (sQ [oL 25 2,oM 26 6,Y7 27 .shr 25 26,Zx 28 .and 27 .u64 1,Zx 29 .eql 28 .u64 1] (ZH 29 (.feet [0,0,2,7,0,0,32,96,255,511,1023] [oL 30 4,oM 31 6,ZB 32 31,Zu 33 1 8 30 32,oM 34 5,oF 35 0 7,oL 36 35,ZB 37 36,Zu 38 1 8 34 37,Za 1 4 33,oM 5 38]) (.skip))))) dO))
def dM:SC:=sQ [oM 8 42] (.ops [oM 9 43])
def b_:SC:=sQ [Y7 47 .lss 46 45] (ZI (ZG 47 4) (ZI (.blk 5 (sQ [oM 48 46,oX 49 44 46,oL 50 49,oM 10 48,oM 11 50] (.feet [0,1,3,7,0,0,0,96,224,511,1023] [oL 51 1,Zb 52 51,oF 53 3 52,oL 54 53,oM 55 11,oM 56 9,oM 57 10,oX 58 56 57,oL 59 58,oX 60 54 55,Za 1 60 59]))) (.ops [oA 61 46,oM 46 61])))
def dP:SC:=sQ [oL 62 3,oM 63 8,o 64 (.dyn (.t 62) [.t 63]),Zy 65 64] (ZH 65 (.exit 2) (.skip))
def dN:SC:=.blk 3 (ZI (sQ [oL 44 4,oN 45 44,oK 46 0] (.blk 4 (.loop b_))) dP)
def cg:SC:=sQ [Y7 69 .lss 68 67] (ZI (ZG 69 6) (ZI (.blk 7 (sQ [oX 70 66 68,oL 71 70,oM 13 71] (.ops [oL 72 1,Zb 73 72,oF 74 3 73,oL 75 74,oM 76 13,oX 77 75 76,oz (.store 1 (.t 77) (qI (-1)))]))) (.ops [oA 78 68,oM 68 78])))
def dQ:SC:=sQ [oL 66 4,oN 67 66,oK 68 0] (.blk 6 (.loop cg))
def dR:SC:=ZI (sQ [oM 40 5,Zq 41 86 40] (.blk 2 (.rng 79 (.t 41) [42,43] dM dN))) dQ
def eg:SC:=sQ [o 4 (.alloc [.nils]),Zw 5] (ZI (sQ [oL 14 1,Zb 15 14,oF 16 0 15,oF 17 1 16,oL 18 17,oN 19 18,oK 20 0] (.blk 0 (.loop bZ))) dR)
def aR:SF:=⟨79,[],sQ [ZD 3 0] eg⟩
def jd:SC:=sQ [o 3 (.mkf 104 [] [.t 1]),oM 2 3] (.ret)
def fM:SF:=⟨4,[.tm 2],sQ [ZD 1 0,o 2 (.mv (.k (.nilf)))] jd⟩
def wP:SC:=ZI (sQ [oM 6 5,oM 7 0,oN 8 7,Y7 9 .lss 6 8] (ZG 9 0)) (ZI (.blk 1 (ZI (.quiet [oM 12 0,oM 13 5,oX 14 12 13,oL 15 14,Y8 16 .lss 15 0,oM 17 16,Zf 18 17 false 0,Zf 19 17 false 5,ZA 20 17 false 1 18 19,Zg 21 17 false 20,Zf 22 17 false 1,Zi 23 17 false .geq 21 22,Zc 24 17 23,oM 25 24,Zf 26 25 false 5,Zj 27 25 false .gtr 26 0,Zf 28 25 false 27,Zf 29 28 true 0,Zf 30 28 true 5,ZA 31 28 true 1 29 30,Zg 32 28 true 31,Zf 33 28 true 0,Zf 34 28 true 5,Zj 35 28 true .sub 34 1,ZA 36 28 true 1 33 35,Zg 37 28 true 36,Zi 38 28 true .leq 32 37,og 39 25 false (.pick (.t 28) (.t 38) (.k (.bool false))),Zc 40 25 39]) (ZH 40 (sQ [Zv 4 false] (.ret)) (.skip)))) (ZF 10 5 11 10 5 11))
def nV:SC:=sQ [Zv 4 true] (.ret)
def mK:SF:=⟨41,[.tm 4],sQ [Zv 4 false] (ZI (sQ [oK 5 0] (.blk 0 (.loop wP))) nV)⟩
def vz:SC:=ZI (sQ [oM 4 3,oM 5 0,oN 6 5,Y7 7 .lss 4 6] (ZG 7 0)) (ZI (.blk 1 (sQ [oM 10 0,oM 11 0,oM 12 3,oX 13 11 12,oL 14 13,Zr 15 105 10 14,oM 16 3,Zr 17 90 15 16] (ZH 17 (sQ [Zv 2 false] (.ret)) (.skip)))) (ZF 8 3 9 8 3 9))
def mM:SC:=sQ [Zv 2 true] (.ret)
def lu:SF:=⟨18,[.tm 2],sQ [Zv 2 false] (ZI (sQ [oK 3 0] (.blk 0 (.loop vz))) mM)⟩
def sH:SC:=ZI (sQ [oM 14 6,oF 15 1 1,oL 16 15,oM 17 4,Ze 18 3 16 17,oF 19 1 18,oL 20 19,oN 21 20,Y7 22 .lss 14 21] (ZG 22 2)) (ZI (.blk 3 (.ops [oM 25 5,oF 26 1 1,oL 27 26,oM 28 4,Ze 29 3 27 28,oF 30 1 29,oL 31 30,oM 32 6,oX 33 31 32,oL 34 33,Zz 35 .u64 34,o 36 (.bin .shl (.k (ZL 1)) (.t 35)),Y7 37 .or 25 36,oM 5 37])) (ZF 23 6 24 23 6 24))
def jx:SC:=.ops [oM 38 3,oM 39 5,o 40 (.bsl 1 1 [ZL 0] [0] [.t 39]),Zu 41 1 8 38 40,oM 3 41]
def sJ:SC:=ZF 12 4 13 12 4 13
def sI:SC:=ZI (sQ [oM 7 4,oF 8 1 1,oL 9 8,oN 10 9,Y7 11 .lss 7 10] (ZG 11 0)) (ZI (.blk 1 (sQ [o 5 (.mv (.k (ZL 0)))] (ZI (sQ [oK 6 0] (.blk 2 (.loop sH))) jx))) sJ)
def jy:SC:=sQ [oM 42 3,oM 2 42] (.ret)
def ku:SC:=sQ [Zw 3] (ZI (sQ [oK 4 0] (.blk 0 (.loop sI))) jy)
def ik:SF:=⟨43,[.tm 2],sQ [ZD 1 0,Zw 2] ku⟩
def vA:SF:=⟨11,[.tm 4],sQ [Zv 4 false] (sQ [oM 5 0,oM 6 1,Zz 7 .u64 6,Y7 8 .shr 5 7,Zx 9 .and 8 .u64 1,Zx 10 .eql 9 .u64 1,oM 4 10] (.ret))⟩
def qX:SF:=⟨16,[.tm 6],sQ [Zw 6] (sQ [Zw 7] (sQ [oM 8 7,oM 9 0,Zu 10 1 8 8 9,oM 7 10] (sQ [oM 11 7,oM 12 1,oM 13 2,oX 14 11 12,Za 1 14 13] (sQ [oM 15 7,oM 6 15] (.ret)))))⟩
def yc:SC:=ZI (sQ [oM 11 7,Y8 12 .geq 11 0] (ZG 12 0)) (ZI (.blk 1 (sQ [oM 15 5,oM 16 1,oM 17 7,oX 18 16 17,oL 19 18,oM 20 6,Y7 21 .mul 19 20,Y7 22 .add 15 21,oM 5 22] (.ops [oM 23 6,oM 24 0,oM 25 7,oX 26 24 25,oL 27 26,Y7 28 .mul 23 27,oM 6 28]))) (.ops [oM 13 7,Y8 14 .sub 13 1,oM 7 14]))
def pR:SC:=sQ [oM 29 5,oM 4 29] (.ret)
def o4:SF:=⟨30,[.tm 4],sQ [oK 4 0] (sQ [oK 5 0,oK 6 1] (ZI (sQ [oM 8 0,oN 9 8,Y8 10 .sub 9 1,oM 7 10] (.blk 0 (.loop yc))) pR))⟩
def rU:SC:=sQ [oM 48 9,oM 49 11,o 50 (.build [ZJ 0,ZJ 0] [(0,1),(1,1)] [.t 48,.t 49]),Za 2 6 50,Zv 7 true] (.ret)
def tg:SC:=sQ [oM 13 1,oM 14 2,Zr 15 106 13 14,oM 8 15] (sQ [oM 17 1,oM 18 8,Zr 19 107 17 18,oM 16 19,Y_ 20 16 0,Y_ 21 16 1,oM 1 20] (sQ [oM 23 2,oM 24 8,Zr 25 107 23 24,oM 22 25,Y_ 26 22 0,Y_ 27 22 1,oM 2 26] (sQ [oM 29 1,Zq 30 108 29,oM 28 30,Y_ 31 28 0,Y_ 32 28 1,oM 9 31,oM 10 32] (sQ [oM 34 2,Zq 35 108 34,oM 33 35,Y_ 36 33 0,Y_ 37 33 1,oM 11 36,oM 12 37] (ZI (sQ [oM 38 10,Zy 39 38,oM 40 39,Zf 41 40 false 12,og 42 40 false (.not (.t 41)),Zc 43 40 42] (ZH 43 (sQ [o 44 (.build [ZJ 0,ZJ 0] [] []),Za 2 6 44,Zv 7 false] (.ret)) (.skip))) (ZI (sQ [oM 45 0] (ZH 45 (.ops [oM 46 9,o 47 (.un .neg (.t 46)),oM 9 47]) (.skip))) rU))))))
def qT:SF:=⟨51,[.cell true 2 6,.tm 7],sQ [o 6 (.alloc [ZJ 0,ZJ 0]),Zv 7 false] tg⟩
def nP:SC:=ZI (sQ [oM 5 0,Y8 6 .neq 5 0] (ZG 6 0)) (.blk 1 (sQ [oM 7 0,Y8 8 .rem 7 10000,oM 4 8] (sQ [oM 9 3,oM 10 4,oM 11 4,o 12 (.un .neg (.t 11)),o 13 (.mx (.t 10) (.t 12)),ZB 14 13,Zu 15 1 8 9 14,oM 3 15] (.ops [oM 16 0,Y8 17 .quo 16 10000,oM 0 17]))))
def nQ:SC:=sQ [oM 18 3,oM 2 18] (.ret)
def mH:SF:=⟨19,[.tm 2],sQ [Zw 2] (sQ [Zw 3] (ZI (.blk 0 (.loop nP)) nQ))⟩
def wQ:SC:=ZI (sQ [oM 13 6,Y8 14 .geq 13 0] (ZG 14 0)) (ZI (.blk 1 (sQ [oM 17 5,oM 18 6,oM 19 1,oM 20 0,oM 21 6,oX 22 20 21,oL 23 22,Y7 24 .rem 19 23,oX 25 17 18,Za 1 25 24] (.ops [oM 26 1,oM 27 0,oM 28 6,oX 29 27 28,oL 30 29,Y7 31 .quo 26 30,oM 1 31]))) (.ops [oM 15 6,Y8 16 .sub 15 1,oM 6 16]))
def nW:SC:=sQ [oM 32 5,oM 4 32] (.ret)
def mL:SF:=⟨33,[.tm 4],sQ [Zw 4] (sQ [oM 7 0,oN 8 7,o 9 (.mks 1 8 [ZJ 0] (.t 8) (.t 8)),oM 5 9] (ZI (sQ [oM 10 0,oN 11 10,Y8 12 .sub 11 1,oM 6 12] (.blk 0 (.loop wQ))) nW))⟩
def wN:SC:=sQ [o 3 (.mkf 121 [] [.t 1]),oM 2 3] (.ret)
def vp:SF:=⟨4,[.tm 2],sQ [ZD 1 0,o 2 (.mv (.k (.nilf)))] wN⟩
def bU:SC:=ZI (ZI (.quiet [oM 18 5,Y8 19 .geq 18 0,oM 20 19,Zf 21 20 true 3,Zf 22 20 true 5,ZA 23 20 true 1 21 22,Zg 24 20 true 23,Zg 25 20 true 1,Zf 26 20 true 5,ZA 27 20 true 1 25 26,Zg 28 20 true 27,Zj 29 20 true .sub 28 1,Zi 30 20 true .eql 24 29,Zd 31 20 30]) (ZG 31 2)) (.blk 3 (sQ [oM 32 3,oM 33 5,oX 34 32 33,oz (.store 1 (.t 34) (qI 0))] (.ops [oM 35 5,Y8 36 .sub 35 1,oM 5 36])))
def bV:SC:=ZI (sQ [oM 37 5,Y8 38 .lss 37 0] (ZH 38 (.ret) (.skip))) (.ops [oM 39 3,oM 40 5,oX 41 39 40,oL 42 41,oA 43 42,oX 44 39 40,Za 1 44 43])
def dk:SC:=ZF 13 4 14 13 4 14
def gz:SC:=ZI (sQ [oM 9 0,oM 10 4,oM 11 3,o 12 (.dyn (.t 9) [.t 10,.t 11])] (ZG 12 0)) (ZI (.blk 1 (sQ [oL 15 1,oN 16 15,Y8 17 .sub 16 1,oM 5 17] (ZI (.blk 2 (.loop bU)) bV))) dk)
def aS:SF:=⟨45,[],sQ [oL 6 1,oN 7 6,o 8 (.mks 1 8 [ZJ 0] (.t 7) (.t 7)),oM 3 8] (sQ [oK 4 0] (.blk 0 (.loop gz)))⟩
def Cg:SC:=ZF 17 6 18 17 6 18
def Ce:SC:=ZI (sQ [oM 13 6,oM 14 0,oN 15 14,Y7 16 .lss 13 15] (ZG 16 2)) (ZI (.blk 3 (sQ [oM 19 1,oM 20 6,Zr 21 90 19 20] (ZH 21 (.ops [oM 22 1,oM 23 0,oM 24 6,oX 25 23 24,oL 26 25,Y7 27 .or 22 26,oM 1 27]) (.skip)))) Cg)
def Ch:SC:=ZF 11 5 12 11 5 12
def Cf:SC:=ZI (sQ [oM 7 5,oM 8 0,oN 9 8,Y7 10 .lss 7 9] (ZG 10 0)) (ZI (.blk 1 (sQ [oK 6 0] (.blk 2 (.loop Ce)))) Ch)
def uJ:SC:=sQ [oM 28 1,oM 4 28] (.ret)
def vB:SF:=⟨29,[.tm 4],sQ [o 4 (.mv (.k (ZL 0)))] (ZI (sQ [oK 5 0] (.blk 0 (.loop Cf))) uJ)⟩
def mJ:SC:=ZI (sQ [oM 7 1,oN 8 7,Y8 9 .gtr 8 0] (ZG 9 0)) (.blk 1 (sQ [oM 11 0,oM 12 1,Zr 13 107 11 12,oM 10 13,Y_ 14 10 0,Y_ 15 10 1,oM 5 14,oM 6 15] (sQ [oM 16 1,oM 0 16] (.ops [oM 17 6,oM 1 17]))))
def tf:SC:=sQ [oM 18 0,oM 4 18] (.ret)
def te:SF:=⟨19,[.tm 4],sQ [Zw 4] (ZI (.blk 0 (.loop mJ)) tf)⟩
def fp:SC:=sQ [oM 75 12,oM 76 6,Y7 77 .leq 75 76] (ZH 77 (.ops [oM 78 10,Y8 79 .mul 78 10000,oM 80 1,oM 81 12,oX 82 80 81,oL 83 82,Y7 84 .add 79 83,oM 10 84]) (.skip))
def iX:SC:=.ops [oM 61 12,Y8 62 .sub 61 1,oM 12 62]
def dx:SC:=ZI (sQ [oM 56 12,oM 57 6,Y8 58 .sub 57 1,o 59 (.mx (qI 0) (.t 58)),Y7 60 .geq 56 59] (ZG 60 2)) (ZI (.blk 3 (sQ [oM 63 11,Y8 64 .mul 63 10000,oM 11 64] (ZI (sQ [oM 65 12,oM 66 8,oN 67 66,Y7 68 .lss 65 67] (ZH 68 (.ops [oM 69 11,oM 70 8,oM 71 12,oX 72 70 71,oL 73 72,Y7 74 .add 69 73,oM 11 74]) (.skip))) fp))) iX)
def fm:SC:=ZI (sQ [oM 92 13,oM 93 14,Y7 94 .lss 92 93] (ZG 94 4)) (.blk 5 (sQ [oM 95 13,oM 96 14,Y7 97 .add 95 96,oA 98 97,Y8 99 .quo 98 2,oM 15 99] (sQ [oM 100 1,oM 101 15,ZB 102 101,Zr 103 124 100 102,oM 104 8,Zr 105 123 103 104,Y8 106 .leq 105 0] (ZH 106 (.ops [oM 107 15,oM 13 107]) (.ops [oM 108 15,Y8 109 .sub 108 1,oM 14 109])))))
def iY:SC:=sQ [oM 110 7,oM 111 9,oM 112 13,oX 113 110 111,Za 1 113 112] (.ops [oM 114 8,oM 115 1,oM 116 13,ZB 117 116,Zq 118 122 117,Zr 119 124 115 118,Zr 120 125 114 119,oM 8 120])
def nS:SC:=ZI (.quiet [oM 85 11,oM 86 10,oA 87 86,Y7 88 .quo 85 87,oM 89 11,oM 90 10,Y7 91 .quo 89 90,oM 13 88,oM 14 91]) (ZI (.blk 4 (.loop fm)) iY)
def nT:SC:=.ops [oM 44 9,Y8 45 .sub 44 1,oM 9 45]
def nR:SC:=ZI (sQ [oM 42 9,Y8 43 .geq 42 0] (ZG 43 0)) (ZI (.blk 1 (sQ [oM 46 0,oM 47 9,oX 48 46 47,oL 49 48,ZB 50 49,oM 51 8,Zu 52 1 8 50 51,Zq 53 122 52,oM 8 53] (sQ [oK 10 0,oK 11 0] (ZI (sQ [oM 54 6,oA 55 54,oM 12 55] (.blk 2 (.loop dx))) nS)))) nT)
def nU:SC:=sQ [oM 121 7,Zq 122 122 121,oM 123 8,oM 4 122,oM 5 123] (.ret)
def iW:SF:=⟨124,[.tm 4,.tm 5],sQ [Zw 4,Zw 5] (sQ [oM 16 1,oN 17 16,Y8 18 .sub 17 1,oM 6 18] (ZI (sQ [oM 19 0,oN 20 19,oM 21 6,Y7 22 .leq 20 21] (ZH 22 (sQ [o 23 (.bsl 1 0 [ZJ 0] [] []),oM 24 0,Zu 25 1 8 23 24,Zw 4,oM 5 25] (.ret)) (.skip))) (sQ [oM 26 0,oN 27 26,oM 28 6,Y7 29 .sub 27 28,o 30 (.mks 1 8 [ZJ 0] (.t 29) (.t 29)),oM 7 30] (sQ [o 31 (.bsl 1 0 [ZJ 0] [] []),oM 32 0,oM 33 0,oN 34 33,oM 35 6,Y7 36 .sub 34 35,o 37 (.slc 1 (.t 32) [.t 36] []),Zu 38 1 8 31 37,oM 8 38] (ZI (sQ [oM 39 7,oN 40 39,Y8 41 .sub 40 1,oM 9 41] (.blk 0 (.loop nR))) nU)))))⟩
def pP:SC:=ZI (sQ [oM 13 5,Y8 14 .geq 13 0] (ZG 14 0)) (ZI (.blk 1 (.ops [oM 17 4,o 18 (.bin .mul (qI 10000) (.t 17)),oM 19 0,oM 20 5,oX 21 19 20,oL 22 21,Y7 23 .add 18 22,oM 4 23])) (.ops [oM 15 5,Y8 16 .sub 15 1,oM 5 16]))
def pQ:SC:=sQ [oM 24 4,oM 2 24,Zv 3 true] (.ret)
def oZ:SF:=⟨25,[.tm 2,.tm 3],sQ [oK 2 0,Zv 3 false] (ZI (sQ [oM 6 0,o 7 (.call 94 [.k (ZJ 4611686018427387903)]),Zr 8 123 6 7,Y8 9 .gtr 8 0] (ZH 9 (sQ [oK 2 0,Zv 3 false] (.ret)) (.skip))) (sQ [oK 4 0] (ZI (sQ [oM 10 0,oN 11 10,Y8 12 .sub 11 1,oM 5 12] (.blk 0 (.loop pP))) pQ)))⟩
def rP:SC:=sQ [Y7 9 .lss 8 7] (ZI (ZG 9 0) (ZI (.blk 1 (sQ [oM 10 8,oX 11 6 8,oL 12 11,oM 3 10,oM 4 12] (sQ [oM 13 0,oM 14 3,oM 15 4,o 16 (.dyn (.t 13) [.t 14,.t 15]),Zy 17 16] (ZH 17 (.ret) (.skip))))) (.ops [oA 18 8,oM 8 18])))
def fY:SF:=⟨19,[],sQ [oF 5 2 1,oL 6 5,oN 7 6,oK 8 0] (.blk 0 (.loop rP))⟩
def td:SC:=ZI (sQ [oM 3 0,oN 4 3,Y8 5 .gtr 4 0,oM 6 5,Zf 7 6 true 0,Zf 8 6 true 0,Zk 9 6 true 8,Zj 10 6 true .sub 9 1,ZA 11 6 true 1 7 10,Zg 12 6 true 11,Zj 13 6 true .eql 12 0,Zd 14 6 13] (ZG 14 0)) (.blk 1 (.ops [oM 15 0,oM 16 0,oN 17 16,Y8 18 .sub 17 1,o 19 (.slc 1 (.t 15) [] [.t 18]),oM 0 19]))
def iV:SC:=sQ [oM 20 0,oM 2 20] (.ret)
def tc:SF:=⟨21,[.tm 2],sQ [Zw 2] (ZI (.blk 0 (.loop td)) iV)⟩
def mF:SC:=ZI (sQ [oM 19 5,Y8 20 .geq 19 0] (ZG 20 0)) (ZI (.blk 1 (ZI (.quiet [oM 23 0,oM 24 5,oX 25 23 24,oL 26 25,oM 27 1,oM 28 5,oX 29 27 28,oL 30 29,Y7 31 .neq 26 30]) (ZH 31 (ZI (ZI (.quiet [oM 32 0,oM 33 5,oX 34 32 33,oL 35 34,oM 36 1,oM 37 5,oX 38 36 37,oL 39 38,Y7 40 .lss 35 39]) (ZH 40 (sQ [oK 4 (-1)] (.ret)) (.skip))) (sQ [oK 4 1] (.ret))) (.skip)))) (.ops [oM 21 5,Y8 22 .sub 21 1,oM 5 22]))
def mG:SC:=sQ [oK 4 0] (.ret)
def lj:SF:=⟨41,[.tm 4],sQ [oK 4 0] (ZI (sQ [oM 6 0,oN 7 6,oM 8 1,oN 9 8,Y7 10 .neq 7 9] (ZH 10 (ZI (sQ [oM 11 0,oN 12 11,oM 13 1,oN 14 13,Y7 15 .lss 12 14] (ZH 15 (sQ [oK 4 (-1)] (.ret)) (.skip))) (sQ [oK 4 1] (.ret))) (.skip))) (ZI (sQ [oM 16 0,oN 17 16,Y8 18 .sub 17 1,oM 5 18] (.blk 0 (.loop mF))) mG))⟩
def jH:SC:=sQ [oM 54 5,oM 55 6,oM 56 8,Y7 57 .add 55 56,oM 58 7,Y8 59 .rem 58 10000,oX 60 54 57,Za 1 60 59] (.ops [oM 61 7,Y8 62 .quo 61 10000,oM 7 62])
def jI:SC:=ZF 29 8 30 29 8 30
def dU:SC:=ZI (sQ [oM 21 8,oM 22 1,oN 23 22,Y7 24 .lss 21 23,oM 25 24,Zf 26 25 false 7,Zj 27 25 false .gtr 26 0,Zc 28 25 27] (ZG 28 2)) (ZI (.blk 3 (sQ [oM 31 7,oM 32 5,oM 33 6,oM 34 8,Y7 35 .add 33 34,oX 36 32 35,oL 37 36,Y7 38 .add 31 37,oM 7 38] (ZI (sQ [oM 39 8,oM 40 1,oN 41 40,Y7 42 .lss 39 41] (ZH 42 (.quiet [oM 43 7,oM 44 0,oM 45 6,oX 46 44 45,oL 47 46,oM 48 1,oM 49 8,oX 50 48 49,oL 51 50,Y7 52 .mul 47 51,Y7 53 .add 43 52,oM 7 53]) (.skip))) jH))) jI)
def ya:SC:=ZF 19 6 20 19 6 20
def pN:SC:=ZI (sQ [oM 15 6,oM 16 0,oN 17 16,Y7 18 .lss 15 17] (ZG 18 0)) (ZI (.blk 1 (sQ [oK 7 0] (sQ [oK 8 0] (.blk 2 (.loop dU))))) ya)
def pO:SC:=sQ [oM 63 5,Zq 64 122 63,oM 4 64] (.ret)
def oY:SF:=⟨65,[.tm 4],sQ [Zw 4] (sQ [oM 9 0,oN 10 9,oM 11 1,oN 12 11,Y7 13 .add 10 12,o 14 (.mks 1 8 [ZJ 0] (.t 13) (.t 13)),oM 5 14] (ZI (sQ [oK 6 0] (.blk 0 (.loop pN))) pO))⟩
def jG:SC:=.ops [oM 35 5,oM 36 8,ZB 37 36,Zu 38 1 8 35 37,oM 5 38]
def fZ:SC:=sQ [oK 6 0] (ZI (sQ [oM 31 8,Y8 32 .lss 31 0] (ZH 32 (sQ [oM 33 8,Y8 34 .add 33 10000,oM 8 34] (.ops [oK 6 1])) (.skip))) jG)
def x_:SC:=ZF 13 7 14 13 7 14
def pL:SC:=ZI (sQ [oM 9 7,oM 10 0,oN 11 10,Y7 12 .lss 9 11] (ZG 12 0)) (ZI (.blk 1 (sQ [oM 15 0,oM 16 7,oX 17 15 16,oL 18 17,oM 19 6,Y7 20 .sub 18 19,oM 8 20] (ZI (sQ [oM 21 7,oM 22 1,oN 23 22,Y7 24 .lss 21 23] (ZH 24 (.ops [oM 25 8,oM 26 1,oM 27 7,oX 28 26 27,oL 29 28,Y7 30 .sub 25 29,oM 8 30]) (.skip))) fZ))) x_)
def pM:SC:=sQ [oM 39 5,Zq 40 122 39,oM 4 40] (.ret)
def oT:SF:=⟨41,[.tm 4],sQ [Zw 4] (sQ [Zw 5] (sQ [oK 6 0] (ZI (sQ [oK 7 0] (.blk 0 (.loop pL))) pM)))⟩
theorem pI:nFn C0 3=some eo:=by kernel_rfl
theorem vg:nFn C0 6=some i_:=by kernel_rfl
@[reducible] def Zo(f:Nat):Prop:=∀(d:Nat)(xs:List AV)(g:G),am C0 d f xs g=an (I C0) d g f xs
@[reducible] def Zp(f:Nat):Prop:=∀(t:T)(g:G)(xs:List Od),SO.foot C0 t g (.call f xs)=ah ((gI t xs).flatMap (aD g.h aE))
theorem sR:Zo 6:=λ_ _ _=>by kernel_rfl
theorem zp:nFn C0 7=some mZ:=by kernel_rfl
theorem wD:Zo 7:=λ_ _ _=>by kernel_rfl
theorem B0:nFn C0 8=some qQ:=by kernel_rfl
theorem y7:Zo 8:=λ_ _ _=>by kernel_rfl
theorem wK:nFn C0 9=some jJ:=by kernel_rfl
theorem ux:Zo 9:=λ_ _ _=>by kernel_rfl
theorem xZ:nFn C0 10=some lA:=by kernel_rfl
theorem uW:Zo 10:=λ_ _ _=>by kernel_rfl
theorem wI:nFn C0 11=some jF:=by kernel_rfl
theorem uv:Zo 11:=λ_ _ _=>by kernel_rfl
theorem Cb:nFn C0 12=some qY:=by kernel_rfl
theorem ze:Zo 12:=λ_ _ _=>by kernel_rfl
theorem ve:nFn C0 20=some iP:=by kernel_rfl
theorem sP:Zo 20:=λ_ _ _=>by kernel_rfl
theorem mA:nFn C0 21=some di:=by kernel_rfl
theorem lE:Zp 21:=λ_ _ _=>by kernel_rfl
theorem kY:Zo 21:=λ_ _ _=>by kernel_rfl
theorem B9:nFn C0 22=some qV:=by kernel_rfl
theorem zb:Zo 22:=λ_ _ _=>by kernel_rfl
theorem sY:nFn C0 23=some gH:=by kernel_rfl
theorem qJ:Zo 23:=λ_ _ _=>by kernel_rfl
theorem DZ:nFn C0 24=some tp:=by kernel_rfl
theorem AQ:Zp 24:=λ_ _ _=>by kernel_rfl
theorem Ap:Zo 24:=λ_ _ _=>by kernel_rfl
theorem xX:nFn C0 25=some lw:=by kernel_rfl
theorem vE:Zp 25:=λ_ _ _=>by kernel_rfl
theorem uU:Zo 25:=λ_ _ _=>by kernel_rfl
theorem sW:nFn C0 26=some gE:=by kernel_rfl
theorem qG:Zo 26:=λ_ _ _=>by kernel_rfl
theorem qO:nFn C0 27=some eU:=by kernel_rfl
theorem oG(d:Nat)(xs:List AV)(g:G):am C0 d 27 xs g=orF ((I C0).call d 27 xs g):=by kernel_rfl
theorem pH:nFn C0 28=some ej:=by kernel_rfl
theorem nG(d:Nat)(xs:List AV)(g:G):am C0 d 28 xs g=orF ((I C0).call d 28 xs g):=by kernel_rfl
theorem AK:nFn C0 29=some pe:=by kernel_rfl
theorem yf:Zp 29:=λ_ _ _=>by kernel_rfl
theorem xN:Zo 29:=λ_ _ _=>by kernel_rfl
theorem AL:nFn C0 30=some pf:=by kernel_rfl
theorem yg:Zp 30:=λ_ _ _=>by kernel_rfl
theorem xO:Zo 30:=λ_ _ _=>by kernel_rfl
theorem AI:nFn C0 31=some gS:=by kernel_rfl
theorem xL:Zo 31:=λ_ _ _=>by kernel_rfl
theorem AJ:nFn C0 32=some jW:=by kernel_rfl
theorem xM:Zo 32:=λ_ _ _=>by kernel_rfl
theorem qP:nFn C0 33=some e8:=by kernel_rfl
theorem gX(t:T)(g:G)(xs:List Od):SO.foot C0 t g (.call 33 xs)=bL:=by kernel_rfl
theorem oH(d:Nat)(xs:List AV)(g:G):am C0 d 33 xs g=orF ((I C0).call d 33 xs g):=by kernel_rfl
theorem uz:nFn C0 34=some il:=by kernel_rfl
theorem jB(t:T)(g:G)(xs:List Od):SO.foot C0 t g (.call 34 xs)=bL:=by kernel_rfl
theorem sE(d:Nat)(xs:List AV)(g:G):am C0 d 34 xs g=orF ((I C0).call d 34 xs g):=by kernel_rfl
theorem FI:nFn C0 35=some vq:=by kernel_rfl
theorem Ck:Zp 35:=λ_ _ _=>by kernel_rfl
theorem BQ:Zo 35:=λ_ _ _=>by kernel_rfl
theorem B_:nFn C0 36=some qW:=by kernel_rfl
theorem zw:Zp 36:=λ_ _ _=>by kernel_rfl
theorem zc:Zo 36:=λ_ _ _=>by kernel_rfl
theorem AH:nFn C0 37=some pd:=by kernel_rfl
theorem yd:Zp 37:=λ_ _ _=>by kernel_rfl
theorem xK:Zo 37:=λ_ _ _=>by kernel_rfl
theorem DW:nFn C0 49=some ta:=by kernel_rfl
theorem Am:Zo 49:=λ_ _ _=>by kernel_rfl
theorem mB:nFn C0 50=some dj:=by kernel_rfl
theorem kZ:Zo 50:=λ_ _ _=>by kernel_rfl
theorem sX:nFn C0 51=some gF:=by kernel_rfl
theorem qH:Zo 51:=λ_ _ _=>by kernel_rfl
theorem FK:nFn C0 52=some vy:=by kernel_rfl
theorem BU:Zo 52:=λ_ _ _=>by kernel_rfl
theorem AF:nFn C0 53=some o8:=by kernel_rfl
theorem xI:Zo 53:=λ_ _ _=>by kernel_rfl
theorem FG:nFn C0 54=some mE:=by kernel_rfl
theorem BO:Zo 54:=λ_ _ _=>by kernel_rfl
theorem qM:nFn LR 55=some dy:=by kernel_rfl
theorem dW:Zp 55:=λ_ _ _=>by kernel_rfl
theorem pC(d:Nat)(xs:List AV)(g:G):am C0 d 55 xs g=Cp LR 55 d xs g:=by kernel_rfl
theorem gi:nFn C0 56=some bE:=by kernel_rfl
theorem oI:nFn C0 57=some dS:=by kernel_rfl
theorem mu(d:Nat)(xs:List AV)(g:G):am C0 d 57 xs g=orF ((I C0).call d 57 xs g):=by kernel_rfl
theorem nJ:nFn C0 58=some dG:=by kernel_rfl
theorem lV(d:Nat)(xs:List AV)(g:G):am C0 d 58 xs g=orF ((I C0).call d 58 xs g):=by kernel_rfl
theorem mz:nFn C0 59=some c_:=by kernel_rfl
theorem lD(t:T)(g:G)(xs:List Od):SO.foot C0 t g (.call 59 xs)=bL:=by kernel_rfl
theorem kX(d:Nat)(xs:List AV)(g:G):am C0 d 59 xs g=orF ((I C0).call d 59 xs g):=by kernel_rfl
theorem AG:nFn C0 60=some o9:=by kernel_rfl
theorem xJ:Zo 60:=λ_ _ _=>by kernel_rfl
theorem wJ:nFn C0 61=some f_:=by kernel_rfl
theorem uw:Zo 61:=λ_ _ _=>by kernel_rfl
theorem zo:nFn C0 62=some mY:=by kernel_rfl
theorem wC:Zo 62:=λ_ _ _=>by kernel_rfl
theorem Cc:nFn C0 63=some qZ:=by kernel_rfl
theorem zf:Zo 63:=λ_ _ _=>by kernel_rfl
theorem B8:nFn C0 64=some lX:=by kernel_rfl
theorem za:Zo 64:=λ_ _ _=>by kernel_rfl
theorem vo:nFn C0 65=some jc:=by kernel_rfl
theorem sT(d:Nat)(xs:List AV)(g:G):am C0 d 65 xs g=orF ((I C0).call d 65 xs g):=by kernel_rfl
theorem wL:nFn C0 66=some kz:=by kernel_rfl
theorem sS:Zo 66:=λ_ _ _=>by kernel_rfl
theorem B4:nFn C0 67=some qS:=by kernel_rfl
theorem y9:Zo 67:=λ_ _ _=>by kernel_rfl
theorem zn:nFn C0 68=some mV:=by kernel_rfl
theorem wA:Zo 68:=λ_ _ _=>by kernel_rfl
theorem xY:nFn C0 69=some lz:=by kernel_rfl
theorem uV:Zo 69:=λ_ _ _=>by kernel_rfl
theorem zl:nFn C0 70=some mT:=by kernel_rfl
theorem wy:Zo 70:=λ_ _ _=>by kernel_rfl
theorem zm:nFn C0 71=some mU:=by kernel_rfl
theorem wz:Zo 71:=λ_ _ _=>by kernel_rfl
theorem pJ:nFn C0 81=some eD:=by kernel_rfl
theorem nH:Zo 81:=λ_ _ _=>by kernel_rfl
theorem sF:nFn C0 82=some fF:=by kernel_rfl
theorem pB:Zo 82:=λ_ _ _=>by kernel_rfl
theorem B3:nFn C0 83=some qR:=by kernel_rfl
theorem y8:Zo 83:=λ_ _ _=>by kernel_rfl
theorem D1:nFn C0 84=some tC:=by kernel_rfl
theorem AR:Zp 84:=λ_ _ _=>by kernel_rfl
theorem Aq:Zo 84:=λ_ _ _=>by kernel_rfl
theorem li:nFn C0 85=some aR:=by kernel_rfl
theorem sG:nFn C0 86=some fM:=by kernel_rfl
theorem pD(d:Nat)(xs:List AV)(g:G):am C0 d 86 xs g=orF ((I C0).call d 86 xs g):=by kernel_rfl
theorem zi:nFn C0 87=some mK:=by kernel_rfl
theorem ww:Zo 87:=λ_ _ _=>by kernel_rfl
theorem xW:nFn C0 88=some lu:=by kernel_rfl
theorem uT:Zo 88:=λ_ _ _=>by kernel_rfl
theorem uy:nFn C0 89=some ik:=by kernel_rfl
theorem sD:Zo 89:=λ_ _ _=>by kernel_rfl
theorem FL:nFn C0 90=some vA:=by kernel_rfl
theorem BV:Zo 90:=λ_ _ _=>by kernel_rfl
theorem Ca:nFn C0 91=some qX:=by kernel_rfl
theorem zd:Zo 91:=λ_ _ _=>by kernel_rfl
theorem AE:nFn C0 92=some o4:=by kernel_rfl
theorem xH:Zo 92:=λ_ _ _=>by kernel_rfl
theorem B7:nFn C0 93=some qT:=by kernel_rfl
theorem y_:Zo 93:=λ_ _ _=>by kernel_rfl
theorem zg:nFn C0 94=some mH:=by kernel_rfl
theorem wn:Zo 94:=λ_ _ _=>by kernel_rfl
theorem zk:nFn C0 95=some mL:=by kernel_rfl
theorem wx:Zo 95:=λ_ _ _=>by kernel_rfl
theorem FH:nFn C0 103=some vp:=by kernel_rfl
theorem BP:Zo 103:=λ_ _ _=>by kernel_rfl
theorem pK:nFn C0 104=some aS:=by kernel_rfl
theorem FM:nFn C0 105=some vB:=by kernel_rfl
theorem BX:Zo 105:=λ_ _ _=>by kernel_rfl
theorem DY:nFn C0 106=some te:=by kernel_rfl
theorem Ao:Zo 106:=λ_ _ _=>by kernel_rfl
theorem zh:nFn C0 107=some iW:=by kernel_rfl
theorem wo:Zo 107:=λ_ _ _=>by kernel_rfl
theorem AD:nFn C0 108=some oZ:=by kernel_rfl
theorem xG:Zo 108:=λ_ _ _=>by kernel_rfl
theorem B2:nFn C0 121=some fY:=by kernel_rfl
theorem DX:nFn C0 122=some tc:=by kernel_rfl
theorem An(d:Nat)(xs:List AV)(g:G):am C0 d 122 xs g=orF ((I C0).call d 122 xs g):=by kernel_rfl
theorem xV:nFn C0 123=some lj:=by kernel_rfl
theorem uS:Zo 123:=λ_ _ _=>by kernel_rfl
theorem AC:nFn C0 124=some oY:=by kernel_rfl
theorem xF:Zo 124:=λ_ _ _=>by kernel_rfl
theorem AB:nFn C0 125=some oT:=by kernel_rfl
theorem xE:Zo 125:=λ_ _ _=>by kernel_rfl
@[reducible] def Zn(l:List Bool):List Bool:=false::false::l
@[reducible] def Zm(l:List Bool):List Bool:=false::false::false::false::l
@[reducible] def Zl(l:List Bool):List Bool:=false::false::false::false::false::false::false::false::l
theorem rO{α:Type}{f:Nat->α->Nat->α->Bool}{i:Nat}{x:α}:∀{l:List α} {j:Nat},(∀b y,l[b]?=some y->f i x (j+b) y=true)->fV f i x j l=true
 |[],_,_=>rfl
 | y::r,j,h=>by simp only[fV,Vx];refine⟨by simpa using h 0 y rfl,rO λb z hb=>?_⟩;have:=h (b+1) z (by simpa using hb);rwa [show j+(b+1)=j+1+b by omega]at this
theorem yG{α:Type}{f:Nat->α->Nat->α->Bool}:∀{l:List α} {i:Nat},(∀a b x y,a<b->l[a]?=some x->l[b]?=some y->f (i+a) x (i+b) y=true)->j6 f i l=true
 |[],_,_=>rfl
 | x::r,i,h=>by
  simp only[j6,Vx];refine⟨rO λb y hb=>?_,yG λa b x' y hab ha hb=>?_⟩
  ·have:=h 0 (b+1) x y (by omega) rfl (by simpa using hb);rwa [Xv,show i+(b+1)=i+1+b by omega]at this
  ·have:=h (a+1) (b+1) x' y (by omega) (by simpa using ha) (by simpa using hb);rwa [show i+(a+1)=i+1+a by omega,show i+(b+1)=i+1+b by omega]at this
theorem yZ{pm:List Nat}:∀{l:List Foot} {i:Nat},(∀f∈l,f.lk.sr=[])->tS pm i l=true
 |[],_,_=>rfl
 | x::r,i,h=>by simp only[tS,h x (by simp)];exact yZ λf hf=>h f (by simp[hf])
def Oa(pm:List Nat)(ws:List Bool)(L:List (Nat×Nat))(i j:Nat):Bool:=(pm.getD j 0).testBit i || (!(ws.getD i false)&&!(ws.getD j false)) || L.contains (i,j)
def Qq(pm:List Nat)(ws:List Bool)(L:List (Nat×Nat)):Bool:=(List.range ws.length).all λj=>(List.range j).all λi=>Oa pm ws L i j
theorem aA{pm:List Nat}{fs:List Foot}(ws:List Bool)(L:List (Nat×Nat))(hw:All2 (λ(f:Foot) (w:Bool)=>f.lk.sr=[]/\(w=false->f.wr=[])) fs ws)(hd:Qq pm ws L=true)
  (hL:∀p∈L,∀x y,fs[p.1]?=some x->fs[p.2]?=some y->bO x y=true):q9 pm fs=true:=by
 unfold q9;rw[aa,VC]
 ·exact yZ λf hf=>by obtain⟨i,hi,rfl⟩:=XQ.1 hf;obtain⟨w,-,h⟩:=hw.get (Vt hi);exact h.1
 ·refine yG λa b x y hab ha hb=>?_;simp only[WE];obtain⟨wa,d,ka⟩:=hw.get ha;obtain⟨wb,k,kb⟩:=hw.get hb;have c:=(Vv.1 k).1;have:=VQ.1 (VQ.1 hd b (VM.2 c)) a (VM.2 hab);simp only[Oa,Wh]at this;rcases this with (h|h)|h
  ·rw[h,Yl]
  ·simp only[Xq,d,k,VB,Vx,Wl]at h;have ex:=ka.2 h.1;have ey:=kb.2 h.2;simp only[bO,je,gc,ex,ey,Yd,YH]
  ·rw[hL (a,b) (X0.1 h) x y ha hb,YH]
section
variable {l:List Nat}
structure Mech where
 card:Int
 frm:List Int
 noise:List Int
 out:List Int
structure Causal where
 grain:Int
 roots:List (List Int)
 nodes:List Mech
structure Node where
 card:Int
 parents:List Int
 rows:List (List Int)
structure Net where
 grain:Int
 nodes:List Node
structure Factor where
 vars:List Int
 cards:List Int
 w:List Int
instance : Rp Mech:=Rp.via λm:Mech=>(m.card,m.frm,m.noise,m.out)
instance : Rp Causal:=Rp.via λm:Causal=>(m.grain,m.roots,m.nodes)
instance : Rp Node:=Rp.via λm:Node=>(m.card,m.parents,m.rows)
instance : Rp Net:=Rp.via λm:Net=>(m.grain,m.nodes)
instance : Rp Factor:=Rp.via λm:Factor=>(m.vars,m.cards,m.w)
section
variable {P:Nat->Prop}{k:Nat}{h:H}{cs:List AV}
theorem bM{m:Node}:Rp.rp P k h m cs↔∃a b,cs=[ZJ m.card,a,b]/\SlR P k h m.parents a/\SlR P k h m.rows b:=by
 constructor
 ·rintro⟨c1,d,rfl,h1,d1,d2,rfl,⟨a,rfl,h2⟩,⟨b,rfl,c⟩⟩;rw[aW.1 h1];exact⟨a,b,rfl,h2,c⟩
 ·rintro⟨a,b,rfl,h2,c⟩;exact⟨[ZJ m.card],[a,b],rfl,aW.2 rfl,[a],[b],rfl,⟨a,rfl,h2⟩,⟨b,rfl,c⟩⟩
theorem dI{m:Net}:Rp.rp P k h m cs↔∃a,cs=[ZJ m.grain,a]/\SlR P k h m.nodes a:=by
 constructor
 ·rintro⟨c1,b,rfl,h1,⟨a,rfl,h2⟩⟩;rw[aW.1 h1];exact⟨a,rfl,h2⟩
 ·rintro⟨a,rfl,h2⟩;exact⟨[ZJ m.grain],[a],rfl,aW.2 rfl,⟨a,rfl,h2⟩⟩
end
theorem SlR.len{α:Type} [Rp α]{P:Nat->Prop}{k:Nat}{h:H}{l:List α}{v:AV}(r:SlR P k h l v)(g:G):dH .slice v g=.val (ZJ (l.length:Int)):=by obtain⟨rows,h1,h2⟩:=r.rows;rw[dl h1,h2.len]
theorem SlR.tree{α:Type} [Rp α]{k k':Nat}{h h':H}{l:List α}{v:AV}(r:SlR NoP k h l v)(hk:k<=k'):SlR NoP k' h' l v:=by obtain⟨w,hw,q⟩:=Rp.tree (P:=NoP) (k':=k') (h':=h') (show Rp.rp NoP k h l [v] from ⟨v,rfl,r⟩) hk;injection hw with hw;subst hw;exact q
theorem bm{α:Type} [Rp α]{P:Nat->Prop}{k:Nat}{h:H}{l:List α}(r:SlR P k h l v)(d:Nat)(hd:Rp.dp (List α)<=20:=by decide) :
  ∃v',Hx.snap h d aE v=some v'/\∀h',SlR NoP (max k d) h' l v':=by
 obtain⟨v',e,w,hw,q⟩:=jC (aY l hd) (by decide) d (show One l P k h v from ⟨v,rfl,r⟩);injection hw with hw;subst hw;exact⟨v',e,λh'=>q.tree (Vu _)⟩
theorem SlR.all{α:Type} [Rp α]{k:Nat}{h:H}{l:List α}(r:SlR NoP k h l v) :
  ∃rows:List (List AV),(∀h',ak h' (Rp.sz α) v=some rows)/\rows.length=l.length/\(∀(i:Nat) (x:α),l[i]?=some x->∃row,rows[i]?=some row/\Rp.rp NoP k .nil x row)/\(0<l.length->nA v=true):=by
 have r0:=(r.tree (h':=.nil) (Vu _));obtain⟨rows,h1,h2⟩:=r0.rows;refine⟨rows,λh'=>?_,h2.len.symm,λi x hi=>h2.get hi,λhl=>xi h1 (i:=0) (by rw[<-h2.len];exact hl)⟩;rw[<-h1];exact yW λid ep off len lim e=>by subst e;exact r.2.1.elim
abbrev UT (k:Nat)(l:List Nat)(r:AV):Prop:=One l NoP k .nil r
theorem UT.sl{k:Nat}{r:AV}(h:UT k l r)(h':H):SlR NoP k h' l r:=by obtain⟨w,hw,q⟩:=h;injection hw with hw;subst hw;exact q.tree (Vu _)
theorem qE{P:Nat->Prop}{k:Nat}{h:H}(r:SlR P k h l v):∀x∈l,x<18446744073709551616:=by obtain⟨rows,h1,h2⟩:=r.rows;intro x hx;obtain⟨i,hi,e⟩:=XQ.1 hx;obtain⟨row,b,h4⟩:=h2.get (i:=i) (a:=x) (by rw[Vt hi,e]);exact (yu.1 h4).2
theorem Own.nats{g:G}{b:Nat}{k:Nat}(h:Own g b v 1 (l.map cu))(hl:l.length<9223372036854775808)(hb:∀x∈l,x<18446744073709551616):One l (λ_=>True) k g.h v:=by
 refine⟨v,rfl,Own.sl (α:=Nat) h hl ?_ λ_ _=>trivial⟩;clear h hl
 induction l with
 |nil=>trivial
 |cons a l ih=>exact⟨yu.2 ⟨rfl,hb a (by simp)⟩,ih λx hx=>hb x (by simp[hx])⟩
theorem iM(p:Nat->Bool)(j:Nat):(List.range (j+1)).all p=((List.range j).all p&&p j):=by rw[WC,List.all_append];simp
theorem kV{p:Nat->Bool}{j n:Nat}(h:j<n)(hp:p j=false):(List.range n).all p=false:=by rw[List.all_eq_false];exact⟨j,VM.2 h,by rw[hp];decide⟩
end
theorem tX{C:Cfg}{nt d:Nat}{rd:Option Nat}{c:Code}{t:T}{df:List ADf}{g:G}{Q:QT}(h:wp C d rd (eN C nt c) Q t df g):((I C).code nt d rd c t df g).sat Q:=by rw[Hm];exact RC _ _ _ _ _ h
end
end Hx
