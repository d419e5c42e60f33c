/- A part of the proof: what the functions of the chapter compute. -/
import Derived.KernelRfl
import Derived.Test.YtikpmbiklokdiaaGreatHx8
set_option linter.all false
set_option maxRecDepth 20000
set_option maxHeartbeats 8000000
namespace Hx
open Go
noncomputable section
variable {v:AV}
end
end Hx
section
namespace Go.Proofs.YtikpmbiklokdiaaGreat.Gen
open Hx
noncomputable def t69:=CG 3 Tab.D3.tab69 (CG 4 Tab.D4.tab69 (NU q0 20000 69))
theorem e69:ExtOk q0 69 t69:=xY q0Ok Tab.D3.tab69_ok (xY q0Ok Tab.D4.tab69_ok (B8 q0Ok))
noncomputable def t78:=CG 3 Tab.D3.tab78 (CG 4 Tab.D4.tab78 (NU q0 20000 78))
theorem e78:ExtOk q0 78 t78:=xY q0Ok Tab.D3.tab78_ok (xY q0Ok Tab.D4.tab78_ok (B8 q0Ok))
noncomputable def q1:Cfg:=q0.add 69 t69
theorem q1Ok:CfgOk q1:=q0Ok.add e69
noncomputable def q2:Cfg:=q1.add 78 t78
theorem q2Ok:CfgOk q2:=q1Ok.add (ExtOk.cfg (C:=q0) (C':=q1) rfl rfl e78)
noncomputable def p1:Cfg:=q2.add 11 (J8 q2 1000 1000 11)
theorem p1Ok:CfgOk p1:=q2Ok.add (xN q2Ok)
noncomputable def p2:Cfg:=p1.add 13 (J8 q2 1000 1000 13)
theorem p2Ok:CfgOk p2:=p1Ok.add (ExtOk.cfg (C:=q2) (C':=p1) rfl rfl (xN q2Ok))
noncomputable def p3:Cfg:=p2.add 15 (J8 q2 1000 1000 15)
theorem p3Ok:CfgOk p3:=p2Ok.add (ExtOk.cfg (C:=q2) (C':=p2) rfl rfl (xN q2Ok))
noncomputable def p4:Cfg:=p3.add 19 (J8 q2 1000 1000 19)
theorem p4Ok:CfgOk p4:=p3Ok.add (ExtOk.cfg (C:=q2) (C':=p3) rfl rfl (xN q2Ok))
theorem works_run:ah (sem p4 20000) 1 G.empty 18 []=.val (.bool true):=by kernel_rfl
noncomputable def cfg1:Cfg:=cfg.add 18 (yH (.bool true))
theorem cfg1Ok:CfgOk cfg1:=cfgOk.add (ExtOk.cfg (C:=p4) (C':=cfg) rfl rfl (HV p4Ok works_run))
end Go.Proofs.YtikpmbiklokdiaaGreat.Gen
end
namespace Hx
open Go
noncomputable section
variable {v:AV}
@[match_pattern,reducible] def Uk(x:Int):AV:=.int .i64 x
@[match_pattern,reducible] def Ul(i:Nat):AV:=.hptr i 0 0 0
@[match_pattern,reducible] def Um(x:Int):AV:=.int .u64 x
@[reducible] def TE (d:Nat)(p:BinOp)(a b:Nat):SI:=o d (.bin p (.t a) (.t b))
@[reducible] def TF (d:Nat)(p:BinOp)(a:Nat)(z:Int):SI:=o d (.bin p (.t a) (qI z))
@[reducible] def TG (d n a:Nat):SI:=o d (.load true n (.t a))
@[reducible] def TH (d a i:Nat):SI:=o d (.ext (.t a) i)
@[reducible] def TJ (n a b:Nat):SI:=oz (.store n (.t a) (.t b))
@[reducible] def TK (d a:Nat):SI:=o d (.nilc (.t a))
@[reducible] def TL (d a b:Nat):SI:=o d (.pick (.t a) (.k (.bool true)) (.t b))
@[reducible] def TM (d a b:Nat):SI:=o d (.pick (.t a) (.t b) (.k (.bool false)))
@[reducible] def TN (d n a b:Nat):SI:=o d (.ixs n (.t a) (.t b))
@[reducible] def TO (d s:Nat)(w:Bool)(a:Nat):SI:=og d s w (.mv (.t a))
@[reducible] def TP (d s:Nat)(w:Bool)(a:Nat):SI:=og d s w (.load false 1 (.t a))
@[reducible] def TQ (d s:Nat)(w:Bool)(n a:Nat):SI:=og d s w (.fad n (.t a))
@[reducible] def TS (d s:Nat)(w:Bool)(p:BinOp)(a b:Nat):SI:=og d s w (.bin p (.t a) (.t b))
@[reducible] def TT (d s:Nat)(w:Bool)(p:BinOp)(a:Nat)(z:Int):SI:=og d s w (.bin p (.t a) (qI z))
@[reducible] def TU (d s:Nat)(w:Bool)(a:Nat):SI:=og d s w (.len .slice (.t a))
@[reducible] def T0(d f a:Nat):SI:=o d (.call f [.t a])
@[reducible] def T2(d f a b:Nat):SI:=o d (.call f [.t a,.t b])
@[reducible] def T3(d f a b c:Nat):SI:=o d (.call f [.t a,.t b,.t c])
@[reducible] def T4(d f a b c e:Nat):SI:=o d (.call f [.t a,.t b,.t c,.t e])
@[reducible] def T5(d m n a b:Nat):SI:=o d (.app m n (.t a) (.t b))
@[reducible] def T6(d:Nat)(b:Bool):SI:=o d (.mv (.k (.bool b)))
@[reducible] def T7(d:Nat):SI:=o d (.mv (.k .nils))
@[reducible] def T8(d:Nat)(p:BinOp)(a:Nat)(k:IntKind)(z:Int):SI:=o d (.bin p (.t a) (.k (.int k z)))
@[reducible] def T9(d a:Nat):SI:=o d (.not (.t a))
@[reducible] def T_(d:Nat)(k:IntKind)(a:Nat):SI:=o d (.conv k (.t a))
@[reducible] def Ua(d s:Nat)(w:Bool)(n a b:Nat):SI:=og d s w (.ixs n (.t a) (.t b))
@[reducible] def Ub(d a:Nat):SI:=o d (.bsl 1 1 [Uk 0] [0] [.t a])
@[reducible] def Uc(d a:Nat):SI:=o d (.bsl 1 1 [.nils] [0] [.t a])
@[reducible] def Ud(d a:Nat):SI:=o d (.box (.t a))
@[reducible] def Ue(d m n a b:Nat):SI:=o d (.ixa m n (.t a) (.t b))
@[reducible] def Uf(a b c d e f:Nat):SC:=.ops [oM a b,oA c d,oM e f]
@[reducible] def Uh(a b:Nat):SC:=.cond (.t a) .skip (.exit b)
@[reducible] def Ui(a:Nat)(x y:SC):SC:=.cond (.t a) x y
@[reducible] def Uj(x y:SC):SC:=.seq x y
class XOc where
 xo:Option (Nat->List AV->G->OR)
def C0[i:XOc]:Cfg:={ Go.Proofs.YtikpmbiklokdiaaGreat.Gen.cfg1 with ext:=λk=>ap (Nat.beq k 19) i.xo (Go.Proofs.YtikpmbiklokdiaaGreat.Gen.cfg1.ext k) }
def dq:SC:=sQ [TF 87 .lss 86 4] (Uj (Uh 87 4) (Uj (.blk 5 (sQ [o 88 (.ix true 4 3 (.t 85) (.t 86)),o 22 (.alloc [Uk 0,Uk 0,Uk 0]),TJ 3 22 88] (sQ [TG 90 2 18,oM 91 20,o 92 (.ixa 3 1 (.t 22) (qI 0)),oL 93 92,o 94 (.ixa 3 1 (.t 22) (qI 1)),oL 95 94,o 96 (.ixa 3 1 (.t 22) (qI 2)),oL 97 96,o 98 (.call 19 [.t 90,.t 91,.t 93,.t 95,.t 97]),oM 89 98,TH 99 89 0,TH 100 89 1,oM 23 99,oM 24 100] (sQ [TG 102 2 18,oM 103 20,o 104 (.ixa 3 1 (.t 22) (qI 0)),oL 105 104,o 106 (.ixa 3 1 (.t 22) (qI 1)),oL 107 106,o 108 (.ixa 3 1 (.t 22) (qI 2)),oL 109 108,o 110 (.call 20 [.t 102,.t 103,.t 105,.t 107,.t 109]),oM 101 110,TH 111 101 0,TH 112 101 1,oM 25 111,oM 26 112] (sQ [oM 113 24,oM 114 26,TE 115 .neq 113 114,oM 116 115,TO 117 116 false 23,TO 118 116 false 25,og 119 116 false (.call 21 [.t 117,.t 118]),og 120 116 false (.not (.t 119)),TL 121 116 120] (Ui 121 (sQ [T6 12 false] (.ret)) (.skip))))))) (.ops [oA 122 86,oM 86 122])))
def gL:SC:=.ops [oA 123 63,oM 63 123]
def dt:SC:=sQ [TF 64 .lss 63 3] (Uj (Uh 64 2) (Uj (.blk 3 (sQ [o 65 (.ix false 3 1 (.t 62) (.t 63)),oM 20 65] (sQ [oM 66 16,o 67 (.build [Uk 0,Uk 0,Uk 0] [(0,1),(1,1),(2,1)] [.t 66,.k (Uk 0),.k (Uk 1)]),oM 68 16,oM 69 14,T_ 70 .u64 69,T8 71 .rem 70 .u64 3,T_ 72 .i64 71,oM 73 15,T_ 74 .u64 73,T8 75 .rem 74 .u64 3,T_ 76 .i64 75,o 77 (.build [Uk 0,Uk 0,Uk 0] [(0,1),(1,1),(2,1)] [.t 68,.t 72,.t 76]),oM 78 4,oM 79 14,oM 80 15,o 81 (.build [Uk 0,Uk 0,Uk 0] [(0,1),(1,1),(2,1)] [.t 78,.t 79,.t 80]),oM 82 16,oM 83 14,o 84 (.build [Uk 0,Uk 0,Uk 0] [(0,1),(1,1),(2,1)] [.t 82,.t 83,.k (Uk 0)]),o 85 (.build [Uk 0,Uk 0,Uk 0,Uk 0,Uk 0,Uk 0,Uk 0,Uk 0,Uk 0,Uk 0,Uk 0,Uk 0] [(0,3),(3,3),(6,3),(9,3)] [.t 67,.t 77,.t 81,.t 84]),oK 86 0] (.blk 4 (.loop dq))))) gL))
def gM:SC:=.ops [oA 124 46,oM 46 124]
def gK:SC:=sQ [TF 47 .lss 46 2] (Uj (Uh 47 0) (Uj (.blk 1 (sQ [o 48 (.ix true 2 2 (.t 45) (.t 46)),o 18 (.alloc [Uk 0,.nils]),TJ 2 18 48] (Uj (.quiet [TG 49 9 8,TG 50 2 13,T2 51 9 49 50,oM 52 16,T2 53 8 51 52,TG 54 9 8,TG 55 2 13,T2 56 9 54 55,oM 57 3,oM 58 3,oN 59 58,o 60 (.mn (.t 59) (qI 9)),o 61 (.slc 1 (.t 57) [] [.t 60]),o 62 (.build [.nils,.nils,.nils] [(0,1),(1,1),(2,1)] [.t 53,.t 56,.t 61]),oK 63 0]) (.blk 2 (.loop dt))))) gM))
def gN:SC:=sQ [o 125 (.call 18 []),oM 12 125] (.ret)
def ic:SC:=sQ [TG 27 3 6,T0 28 7 27,o 13 (.alloc [Uk 0,.nils]),TJ 2 13 28] (Uj (.quiet [o 29 (.ixa 2 1 (.t 11) (qI 0)),oL 30 29,o 31 (.ixa 2 1 (.t 11) (qI 1)),oL 32 31,oM 14 30,oM 15 32]) (sQ [oM 33 4,T_ 34 .u64 33,oF 35 1 13,oL 36 35,oN 37 36,T_ 38 .u64 37,TE 39 .rem 34 38,T_ 40 .i64 39,oM 16 40] (Uj (Uj (.quiet [TG 41 2 13,TG 42 4 7,TG 43 2 13,T2 44 10 42 43,o 45 (.build [Uk 0,.nils,Uk 0,.nils] [(0,2),(2,2)] [.t 41,.t 44]),oK 46 0]) (.blk 0 (.loop gK))) gN)))
def eP:SF:=⟨126,[.tm 12],sQ [Ud 6 0,Ud 7 1,Ud 8 2,Ud 11 5,T6 12 false] ic⟩
def qY:SC:=sQ [oM 65 6,oM 66 9,TE 67 .mul 65 66,oM 6 67] (.feet [0,1,0,0,12,28,0,127,255,511] [oF 68 1 4,oL 69 68,oM 70 5,oM 71 7,oX 72 70 71,oL 73 72,oM 74 9,TN 75 3 69 73,oF 76 0 75,TJ 1 76 74])
def qZ:SC:=sQ [oF 50 0 8,oL 51 50,T8 52 .rem 51 .u8 2,T_ 53 .i64 52,o 54 (.bin .add (qI 2) (.t 53)),oM 9 54] (Uj (sQ [oM 55 6,oM 56 9,TE 57 .mul 55 56,oM 58 3,TF 59 .sub 58 1,oM 60 7,TE 61 .sub 59 60,T_ 62 .u64 61,TE 63 .shl 57 62,TF 64 .gtr 63 100] (Ui 64 (.ops [oK 9 2]) (.skip))) qY)
def jx:SC:=Uf 38 7 39 38 7 39
def eT:SC:=Uj (sQ [oM 35 7,oM 36 3,TE 37 .lss 35 36] (Uh 37 0)) (Uj (.blk 1 (sQ [o 8 (.alloc [.int .u8 0,.int .u8 0,.nils])] (Uj (sQ [oM 40 7,oF 41 1 1,oL 42 41,oN 43 42,TE 44 .lss 40 43] (Ui 44 (.ops [oF 45 1 1,oL 46 45,oM 47 7,TN 48 3 46 47,TG 49 3 48,TJ 3 8 49]) (.skip))) qZ))) jx)
def jy:SC:=Uf 104 14 105 104 14 105
def eU:SC:=Uj (sQ [oM 101 14,oM 102 10,TE 103 .lss 101 102] (Uh 103 6)) (Uj (.blk 7 (sQ [oM 106 5,oM 107 14,oX 108 106 107,oL 109 108,oM 110 13,TE 111 .eql 109 110,oM 112 111,TQ 113 112 true 1 11,TP 114 112 true 113,TO 115 112 true 14,og 116 112 true (.conv .u64 (.t 115)),TS 117 112 true .shr 114 116,og 118 112 true (.bin .and (.t 117) (.k (.int .u8 1))),og 119 112 true (.bin .eql (.t 118) (.k (.int .u8 1))),TM 120 112 119,oM 121 120,TQ 122 121 true 1 4,TP 123 121 true 122,TO 124 121 true 12,Ua 125 121 true 3 123 124,TQ 126 121 true 1 125,TP 127 121 true 126,TU 128 121 true 127,TT 129 121 true .lss 128 3,TM 130 121 129] (Ui 130 (.feet [0,1,0,0,8,0,56,120,248,0,512,2040,4095,8191,16383] [oF 131 1 4,oL 132 131,oM 133 12,oF 134 1 4,oL 135 134,oM 136 12,TN 137 3 135 136,oF 138 1 137,oL 139 138,oM 140 13,Ub 141 140,T5 142 1 8 139 141,TN 143 3 132 133,oF 144 1 143,TJ 1 144 142]) (.skip)))) jy)
def jz:SC:=Uf 99 13 100 99 13 100
def eV:SC:=Uj (sQ [oM 96 13,oM 97 3,TE 98 .lss 96 97] (Uh 98 4)) (Uj (.blk 5 (sQ [oK 14 0] (.blk 6 (.loop eU)))) jz)
def eW:SC:=Uj (sQ [oM 145 15,TG 146 2 4,oM 147 12,T2 148 31 146 147,T0 149 30 148,TE 150 .lss 145 149] (Uh 150 8)) (Uj (.blk 9 (.feet [0,1,0,0,8,0,56,120,248,0,512,0,2048,0,14336,30720,63488,0,131072,0,0,1048576,0,7340032,15728640,32505856,66060288,133693440,268434944,536870400,1073741816,2147483647,4294967295,8589934591] [oF 153 1 4,oL 154 153,oM 155 12,oF 156 1 4,oL 157 156,oM 158 12,TN 159 3 157 158,oF 160 2 159,oL 161 160,oF 162 0 4,oL 163 162,oF 164 1 4,oL 165 164,oM 166 12,TN 167 3 165 166,oF 168 0 167,oL 169 168,oF 170 2 11,oL 171 170,oM 172 15,oF 173 1 4,oL 174 173,oM 175 12,TN 176 3 174 175,oF 177 0 176,oL 178 177,oA 179 178,TE 180 .mul 172 179,T4 181 32 163 169 171 180,Uc 182 181,T5 183 1 24 161 182,TN 184 3 154 155,oF 185 2 184,TJ 1 185 183])) (Uf 151 15 152 151 15 152))
def jA:SC:=sQ [oK 15 0] (.blk 8 (.loop eW))
def iK:SC:=sQ [oM 92 5,oM 93 10,oX 94 92 93,oL 95 94,oM 12 95] (Uj (sQ [oK 13 0] (.blk 4 (.loop eV))) jA)
def iL:SC:=Uf 80 10 81 80 10 81
def eB:SC:=Uj (sQ [oM 77 10,oM 78 3,TE 79 .lss 77 78] (Uh 79 2)) (Uj (.blk 3 (sQ [o 11 (.alloc [.int .u8 0,.int .u8 0,.nils])] (Uj (sQ [oM 82 10,oF 83 1 1,oL 84 83,oN 85 84,TE 86 .lss 82 85] (Ui 86 (.ops [oF 87 1 1,oL 88 87,oM 89 10,TN 90 3 88 89,TG 91 3 90,TJ 3 11 91]) (.skip))) iK))) iL)
def iM:SC:=sQ [TG 186 2 4,TJ 2 2 186] (.ret)
def iO:SC:=Uj (sQ [oK 10 0] (.blk 2 (.loop eB))) iM
def kg:SC:=sQ [oF 16 1 1,oL 17 16,oN 18 17,o 19 (.mx (.t 18) (qI 1)),o 20 (.mn (.t 19) (qI 5)),oM 3 20] (Uj (.feet [0,1,3,7,15,0,32,127,0,511] [oF 21 0 1,oL 22 21,T8 23 .rem 22 .u8 60,T_ 24 .i64 23,o 25 (.bin .add (qI 1) (.t 24)),oM 26 3,o 27 (.mks 3 56 [Uk 0,.nils,.nils] (.t 26) (.t 26)),o 28 (.build [Uk 0,.nils] [(0,1),(1,1)] [.t 25,.t 27]),o 4 (.alloc [Uk 0,.nils]),TJ 2 4 28]) (Uj (.feet [0,1,0,4,15,31,63] [oM 29 3,o 30 (.mks 1 1 [.int .u8 0] (.t 29) (.t 29)),oF 31 2 1,oL 32 31,o 33 (.build [.nils,.int .u16 0,.nils] [(0,1),(2,1)] [.t 30,.t 32]),T0 34 29 33,oM 5 34]) (sQ [oK 6 1] (Uj (sQ [oK 7 0] (.blk 0 (.loop eT))) iO))))
def iq:SF:=⟨187,[.cell true 2 2],sQ [Ud 1 0,o 2 (.alloc [Uk 0,.nils])] kg⟩
def nz:SF:=⟨8,[.tm 4],sQ [T7 4] (sQ [oM 5 0,oM 6 1,o 7 (.call 33 [.t 5,.t 6,.k (Uk (-1))]),oM 4 7] (.ret))⟩
def fM:SC:=.ops [oM 34 5,oM 35 7,Ub 36 35,T5 37 1 8 34 36,oM 5 37]
def s7:SC:=Uf 13 6 14 13 6 14
def sZ:SC:=Uj (sQ [oM 8 6,oF 9 1 3,oL 10 9,oN 11 10,TE 12 .lss 8 11] (Uh 12 0)) (Uj (.blk 1 (sQ [oK 7 (-1)] (Uj (sQ [oF 15 0 2,oL 16 15,oM 17 6,T_ 18 .u64 17,TE 19 .shr 16 18,T8 20 .and 19 .u8 1,T8 21 .eql 20 .u8 1] (Ui 21 (.quiet [oM 22 6,oF 23 1 2,Ue 24 8 1 23 22,oL 25 24,T_ 26 .i64 25,oF 27 1 3,oL 28 27,oM 29 6,TN 30 3 28 29,oF 31 0 30,oL 32 31,TE 33 .rem 26 32,oM 7 33]) (.skip))) fM))) s7)
def ku:SC:=sQ [oM 38 5,oM 4 38] (.ret)
def lL:SC:=sQ [T7 5] (Uj (sQ [oK 6 0] (.blk 0 (.loop sZ))) ku)
def i4:SF:=⟨39,[.tm 4],sQ [Ud 2 0,Ud 3 1,T7 4] lL⟩
def gq:SC:=Uj (sQ [oM 39 8,oF 40 1 3,oL 41 40,oM 42 6,TN 43 3 41 42,oF 44 2 43,oL 45 44,oN 46 45,TE 47 .lss 39 46] (Uh 47 2)) (Uj (.blk 3 (sQ [T7 9] (.feet [0,1,0,0,8,0,56,120,248,0,1016,2040,4092,8188,16383,32767,65535] [oF 50 2 7,oL 51 50,oM 52 9,oF 53 1 3,oL 54 53,oM 55 6,TN 56 3 54 55,oF 57 2 56,oL 58 57,oM 59 8,oX 60 58 59,oL 61 60,T5 62 1 8 52 61,Uc 63 62,T5 64 1 24 51 63,oF 65 2 7,TJ 1 65 64]))) (Uf 48 8 49 48 8 49))
def lJ:SC:=.ops [oM 66 5,TG 67 3 7,o 68 (.bsl 3 1 [Uk 0,.nils,.nils] [0] [.t 67]),T5 69 3 56 66 68,oM 5 69]
def lK:SC:=Uf 20 6 21 20 6 21
def gt:SC:=Uj (sQ [oM 15 6,oF 16 1 3,oL 17 16,oN 18 17,TE 19 .lss 15 18] (Uh 19 0)) (Uj (.blk 1 (sQ [oF 22 1 3,oL 23 22,oM 24 6,TN 25 3 23 24,oF 26 0 25,oL 27 26,o 28 (.build [Uk 0,.nils,.nils] [(0,1)] [.t 27]),o 7 (.alloc [Uk 0,.nils,.nils]),TJ 3 7 28] (Uj (.feet [0,1,0,4,0,28,60,124,255,511,1023] [oF 29 1 7,oL 30 29,oF 31 1 3,oL 32 31,oM 33 6,TN 34 3 32 33,oF 35 1 34,oL 36 35,T5 37 1 8 30 36,oF 38 1 7,TJ 1 38 37]) (Uj (sQ [oK 8 0] (.blk 2 (.loop gq))) lJ)))) lK)
def dO:SC:=Uj (sQ [oM 264 12,oM 265 13,TE 266 .lss 264 265] (Uh 266 5)) (Uj (.blk 6 (sQ [oM 269 10,TK 270 269,oF 271 2 270,oL 272 271,oM 273 11,oX 274 272 273,oL 275 274,oM 276 12,oX 277 275 276,oL 278 277,oM 14 278] (Uj (.feet [0,1,3,7,0,31,63,0,0,256,768,1792,0,7936,16128,0,65280,130816,262143,524287] [oM 279 10,TK 280 279,oF 281 2 280,oL 282 281,oM 283 11,oX 284 282 283,oL 285 284,oM 286 12,oM 287 10,TK 288 287,oF 289 2 288,oL 290 289,oM 291 11,oX 292 290 291,oL 293 292,oM 294 13,oX 295 293 294,oL 296 295,oX 297 285 286,TJ 1 297 296]) (sQ [oM 298 10,TK 299 298,oF 300 2 299,oL 301 300,oM 302 11,oX 303 301 302,oL 304 303,oM 305 13,oM 306 14,oX 307 304 305,TJ 1 307 306] (.ops [oM 308 13,TF 309 .sub 308 1,oM 13 309]))))) (Uf 267 12 268 267 12 268))
def dP:SC:=sQ [TG 322 2 3,TJ 2 4 322] (.ret)
def gu:SC:=Uj (sQ [oF 99 0 2,oL 100 99,T8 101 .rem 100 .u8 12] (.blk 4 (sQ [T8 111 .eql 101 .u8 0,oM 110 111] (Ui 110 (.ops [oF 112 3 2,oL 113 112,oF 114 0 3,TJ 1 114 113]) (sQ [T8 116 .eql 101 .u8 1,oM 115 116] (Ui 115 (.ops [oM 117 10,oF 118 3 2,oL 119 118,TK 120 117,oF 121 0 120,TJ 1 121 119]) (sQ [T8 123 .eql 101 .u8 2,oM 122 123] (Ui 122 (.feet [0,0,2,6,14,0,32,96,254,511,1023,2047] [oM 124 10,oM 125 10,TK 126 125,oF 127 1 126,oL 128 127,oF 129 3 2,oL 130 129,Ub 131 130,T5 132 1 8 128 131,TK 133 124,oF 134 1 133,TJ 1 134 132]) (sQ [T8 136 .eql 101 .u8 3,oM 135 136] (Ui 135 (.ops [oM 137 10,TK 138 137,oF 139 1 138,oz (.store 1 (.t 139) (.k (.nils)))]) (sQ [T8 141 .eql 101 .u8 4,oM 140 141] (Ui 140 (.feet [0,0,2,6,14,0,32,96,224,510,1023,2047,4095] [oM 142 10,oM 143 10,TK 144 143,oF 145 2 144,oL 146 145,oF 147 3 2,oL 148 147,Ub 149 148,Uc 150 149,T5 151 1 24 146 150,TK 152 142,oF 153 2 152,TJ 1 153 151]) (sQ [T8 155 .eql 101 .u8 5,oM 154 155] (Ui 154 (sQ [oM 156 11,TF 157 .geq 156 0] (Ui 157 (.ops [oM 158 10,oM 159 10,TK 160 159,oF 161 2 160,oL 162 161,oM 163 11,o 164 (.slc 1 (.t 162) [] [.t 163]),TK 165 158,oF 166 2 165,TJ 1 166 164]) (.skip))) (sQ [T8 168 .eql 101 .u8 6,oM 167 168] (Ui 167 (sQ [oM 169 11,TF 170 .geq 169 0,oM 171 170,TO 172 171 true 10,og 173 171 true (.nilc (.t 172)),TQ 174 171 true 2 173,TP 175 171 true 174,TO 176 171 true 11,Ua 177 171 true 1 175 176,TP 178 171 true 177,TU 179 171 true 178,TT 180 171 true .gtr 179 0,TM 181 171 180] (Ui 181 (.feet [0,1,3,7,0,31,63,0,128,511,1023] [oM 182 10,TK 183 182,oF 184 2 183,oL 185 184,oM 186 11,oX 187 185 186,oL 188 187,oF 189 3 2,oL 190 189,o 191 (.ixs 1 (.t 188) (qI 0)),TJ 1 191 190]) (.skip))) (sQ [T8 193 .eql 101 .u8 7,oM 192 193] (Ui 192 (sQ [oM 194 11,TF 195 .geq 194 0] (Ui 195 (.feet [0,1,3,7,0,0,32,96,224,0,992,2016,0,8160,16383,32767] [oM 196 10,TK 197 196,oF 198 2 197,oL 199 198,oM 200 11,oM 201 10,TK 202 201,oF 203 2 202,oL 204 203,oM 205 11,oX 206 204 205,oL 207 206,o 208 (.bsl 1 1 [Uk 0] [0] [.k (Uk 0)]),T5 209 1 8 207 208,oX 210 199 200,TJ 1 210 209]) (.skip))) (sQ [T8 212 .eql 101 .u8 8,oM 211 212] (Ui 211 (sQ [oM 213 11,TF 214 .geq 213 0,oM 215 214,TO 216 215 true 10,og 217 215 true (.nilc (.t 216)),TQ 218 215 true 2 217,TP 219 215 true 218,TO 220 215 true 11,Ua 221 215 true 1 219 220,TP 222 215 true 221,TU 223 215 true 222,TT 224 215 true .gtr 223 0,TM 225 215 224] (Ui 225 (Uj (.feet [0,1,3,7,0,0,32,96,224,0,992,2016,4064,8160,16383,32767] [oM 226 10,TK 227 226,oF 228 2 227,oL 229 228,oM 230 11,oM 231 10,TK 232 231,oF 233 2 232,oL 234 233,oM 235 11,oX 236 234 235,oL 237 236,oN 238 237,o 239 (.mks 1 8 [Uk 0] (.t 238) (.t 238)),oX 240 229 230,TJ 1 240 239]) (.feet [0,1,3,7,0,31,63,0,128,511,1023] [oM 241 10,TK 242 241,oF 243 2 242,oL 244 243,oM 245 11,oX 246 244 245,oL 247 246,oF 248 0 3,oL 249 248,o 250 (.ixs 1 (.t 247) (qI 0)),TJ 1 250 249])) (.skip))) (sQ [T8 252 .eql 101 .u8 9,oM 251 252] (Ui 251 (sQ [oM 253 11,TF 254 .geq 253 0] (Ui 254 (Uj (.quiet [oM 255 10,TK 256 255,oF 257 2 256,oL 258 257,oM 259 11,oX 260 258 259,oL 261 260,oN 262 261,TF 263 .sub 262 1,oK 12 0,oM 13 263]) (.blk 5 (.loop dO))) (.skip))) (sQ [T8 311 .eql 101 .u8 10,oM 310 311] (Ui 310 (.ops [oF 312 1 3,oL 313 312,oF 314 0 3,oL 315 314,Ub 316 315,Uc 317 316,o 318 (.build [Uk 0,.nils,.nils] [(0,1),(2,1)] [.k (Uk 1),.t 317]),o 319 (.bsl 3 1 [Uk 0,.nils,.nils] [0] [.t 318]),T5 320 3 56 313 319,oF 321 1 3,TJ 1 321 320]) (.ops [oF 102 1 3,oL 103 102,oF 104 1 3,oL 105 104,oN 106 105,TF 107 .sub 106 1,o 108 (.slc 3 (.t 103) [] [.t 107]),oF 109 1 3,TJ 1 109 108]))))))))))))))))))))))))) dP
def gv:SC:=sQ [oM 70 5,oF 71 1 3,TJ 1 71 70] (Uj (sQ [oM 72 5,oN 73 72,TF 74 .eql 73 0] (Ui 74 (sQ [TG 75 2 3,TJ 2 4 75] (.ret)) (.skip))) (sQ [oM 76 5,oF 77 1 2,oL 78 77,T_ 79 .i64 78,oM 80 5,oN 81 80,TE 82 .rem 79 81,TN 83 3 76 82,oM 10 83] (sQ [oK 11 (-1)] (Uj (sQ [oM 84 10,TK 85 84,oF 86 2 85,oL 87 86,oN 88 87,TF 89 .gtr 88 0] (Ui 89 (.quiet [oF 90 2 2,oL 91 90,T_ 92 .i64 91,oM 93 10,TK 94 93,oF 95 2 94,oL 96 95,oN 97 96,TE 98 .rem 92 97,oM 11 98]) (.skip))) gu))))
def mC:SC:=sQ [T7 5] (Uj (sQ [oK 6 0] (.blk 0 (.loop gt))) gv)
def jU:SF:=⟨323,[.cell true 2 4],sQ [Ud 2 0,Ud 3 1,o 4 (.alloc [Uk 0,.nils])] mC⟩
def mz:SC:=sQ [o 12 (.mkf 57 [] [.t 5,.t 6,.t 7,.t 8,.t 9]),T0 13 56 12,TH 14 13 0,TH 15 13 1,oM 10 14,oM 11 15] (.ret)
def jQ:SF:=⟨16,[.tm 10,.tm 11],sQ [Ud 5 0,Ud 6 1,Ud 7 2,Ud 8 3,Ud 9 4,T7 10,oK 11 0] mz⟩
def mF:SC:=Uj (sQ [oM 33 14,oM 34 1,oN 35 34,TE 36 .lss 33 35] (Uh 36 0)) (Uj (.blk 1 (Uj (sQ [oM 39 1,oM 40 14,oX 41 39 40,oL 42 41,TF 43 .lss 42 0] (Ui 43 (sQ [oM 44 13,o 45 (.bsl 1 1 [Uk 0] [0] [.k (Uk 0)]),T5 46 1 8 44 45,oM 13 46] (.exit 1)) (.skip))) (sQ [oM 47 1,oM 48 1,T0 49 43 48,oM 50 14,T_ 51 .u64 50,o 52 (.bin .shl (.k (Um 1)) (.t 51)),TE 53 .andNot 49 52,T2 54 62 47 53,oM 15 54] (.feet [0,0,0,0,0,28,62,0,0,0,0,1918,4094,0,0,0,0,122878,262142,0,0,0,0,7864318,16777214,33554430,67108862,134217727,268435455] [oM 55 13,TG 56 2 5,oM 57 1,oM 58 2,oM 59 3,T3 60 33 57 58 59,T2 61 61 56 60,TG 62 2 5,oM 63 1,oM 64 2,oM 65 4,T3 66 33 63 64 65,T2 67 61 62 66,TG 68 2 5,oM 69 15,oM 70 2,oM 71 3,T3 72 33 69 70 71,T2 73 61 68 72,TG 74 2 5,oM 75 15,oM 76 2,oM 77 4,T3 78 33 75 76 77,T2 79 61 74 78,T4 80 63 61 67 73 79,Ub 81 80,T5 82 1 8 55 81,oM 13 82])))) (Uf 37 14 38 37 14 38))
def mG:SC:=sQ [oM 83 13,oM 10 83,oK 11 0] (.ret)
def oI:SC:=Uj (sQ [TG 16 2 5,oM 17 1,oM 18 2,oM 19 3,oM 20 4,o 21 (.bsl 1 2 [Uk 0] [0,1] [.t 19,.t 20]),T4 22 60 16 17 18 21,oM 12 22] (sQ [oM 23 12,TF 24 .neq 23 0] (Ui 24 (sQ [oM 25 12,T7 10,oM 11 25] (.ret)) (.skip)))) (Uj (sQ [oM 26 3,oM 27 4,TE 28 .eql 26 27] (Ui 28 (sQ [T7 10,oK 11 2] (.ret)) (.skip))) (Uj (sQ [TG 29 2 5,oM 30 1,T2 31 61 29 30,TF 32 .eql 31 0] (Ui 32 (sQ [T7 10,oK 11 7] (.ret)) (.skip))) (sQ [T7 13] (Uj (sQ [oK 14 0] (.blk 0 (.loop mF))) mG))))
def lU:SF:=⟨84,[.tm 10,.tm 11],sQ [Ud 5 0,T7 10,oK 11 0] oI⟩
def pW:SC:=sQ [TE 14 .lss 13 12] (Uj (Uh 14 0) (Uj (.blk 1 (sQ [oM 15 13,oM 5 15] (Uj (.quiet [oM 16 0,oM 17 5,oX 18 16 17,oL 19 18,oM 20 1,oM 21 5,oX 22 20 21,oL 23 22,TE 24 .neq 19 23]) (Ui 24 (sQ [T6 4 false] (.ret)) (.skip))))) (.ops [oA 25 13,oM 13 25])))
def pX:SC:=sQ [T6 4 true] (.ret)
def pq:SF:=⟨26,[.tm 4],sQ [T6 4 false] (Uj (sQ [oM 6 0,oN 7 6,oM 8 1,oN 9 8,TE 10 .neq 7 9] (Ui 10 (sQ [T6 4 false] (.ret)) (.skip))) (Uj (sQ [oM 11 0,oN 12 11,oK 13 0] (.blk 0 (.loop pW))) pX))⟩
def co:SC:=sQ [T7 6] (sQ [oM 28 6,oM 29 3,oM 30 5,o 31 (.slc 1 (.t 29) [] [.t 30]),T5 32 1 8 28 31,oM 33 4,Ub 34 33,T5 35 1 8 32 34,oM 6 35] (.ops [oM 36 6,oM 37 3,oM 38 5,o 39 (.slc 1 (.t 37) [.t 38] []),T5 40 1 8 36 39,oM 3 40]))
def jS:SC:=Uf 12 4 13 12 4 13
def jR:SC:=Uj (sQ [oM 7 4,TG 8 3 1,T0 9 71 8,oN 10 9,TE 11 .lss 7 10] (Uh 11 0)) (Uj (.blk 1 (sQ [oK 5 0] (Uj (sQ [oM 14 4,oF 15 2 1,oL 16 15,oN 17 16,TE 18 .lss 14 17] (Ui 18 (.ops [oF 19 2 1,oL 20 19,oM 21 4,oX 22 20 21,oL 23 22,T_ 24 .i64 23,oM 25 4,oA 26 25,TE 27 .rem 24 26,oM 5 27]) (.skip))) co))) jS)
def dZ:SC:=sQ [oM 41 3,oM 2 41] (.ret)
def eE:SC:=sQ [T7 3] (Uj (sQ [oK 4 0] (.blk 0 (.loop jR))) dZ)
def cP:SF:=⟨42,[.tm 2],sQ [Ud 1 0,T7 2] eE⟩
def xr:SC:=Uj (sQ [oM 5 4,oM 6 0,oN 7 6,TE 8 .lss 5 7] (Uh 8 0)) (Uj (.blk 1 (.ops [oM 11 3,oM 12 0,oM 13 4,oX 14 12 13,oL 15 14,TE 16 .mul 11 15,oM 3 16])) (Uf 9 4 10 9 4 10))
def qd:SC:=sQ [oM 17 3,oM 2 17] (.ret)
def px:SF:=⟨18,[.tm 2],sQ [oK 2 0] (sQ [oK 3 1] (Uj (sQ [oK 4 0] (.blk 0 (.loop xr))) qd))⟩
def iP:SC:=Uj (.quiet [TG 5 2 2,T0 6 73 5,oF 7 1 2,oL 8 7,oM 9 1,TN 10 3 8 9,oF 11 1 10,oL 12 11,T2 13 72 6 12,oM 4 13]) (.ret)
def fN:SF:=⟨14,[.tm 4],sQ [Ud 2 0,T7 4] iP⟩
def q_:SC:=.ops [oM 39 10,oM 40 9,oM 41 11,oX 42 40 41,oL 43 42,TE 44 .add 39 43,oM 10 44]
def rf:SC:=Uf 20 11 21 20 11 21
def lR:SC:=Uj (sQ [oM 17 11,oM 18 1,TE 19 .lss 17 18] (Uh 19 0)) (Uj (.blk 1 (Uj (sQ [oM 22 2,oN 23 22,TF 24 .gtr 23 0] (Ui 24 (.ops [oM 25 9,oM 26 11,oM 27 2,oM 28 3,oM 29 11,TE 30 .add 28 29,oM 31 2,oN 32 31,TE 33 .rem 30 32,oX 34 27 33,oL 35 34,T8 36 .rem 35 .u8 8,T_ 37 .i64 36,oX 38 25 26,TJ 1 38 37]) (.skip))) q_)) rf)
def rg:SC:=.ops [oM 68 12,oM 69 9,oM 70 14,oX 71 69 70,oL 72 71,TE 73 .sub 68 72,oM 12 73]
def rh:SC:=Uf 49 14 50 49 14 50
def lT:SC:=Uj (sQ [oM 46 14,oM 47 1,TE 48 .lss 46 47] (Uh 48 2)) (Uj (.blk 3 (Uj (sQ [oM 51 9,oM 52 14,oX 53 51 52,oL 54 53,TF 55 .gtr 54 0] (Ui 55 (sQ [oM 56 9,oM 57 14,oM 58 0,oM 59 9,oM 60 14,oX 61 59 60,oL 62 61,TE 63 .mul 58 62,oM 64 10,TE 65 .quo 63 64,oX 66 56 57,TJ 1 66 65] (.ops [oM 67 14,oM 13 67])) (.skip))) rg)) rh)
def rk:SC:=sQ [oM 74 9,oM 75 13,oM 76 9,oM 77 13,oX 78 76 77,oL 79 78,oM 80 12,TE 81 .add 79 80,oX 82 74 75,TJ 1 82 81] (sQ [oM 83 9,oM 8 83] (.ret))
def rm:SC:=sQ [oM 45 0,oM 12 45,oK 13 0] (Uj (sQ [oK 14 0] (.blk 2 (.loop lT))) rk)
def q9:SF:=⟨84,[.tm 8],sQ [T7 8] (sQ [oM 15 1,o 16 (.mks 1 8 [Uk 0] (.t 15) (.t 15)),oM 9 16] (sQ [oK 10 0] (Uj (sQ [oK 11 0] (.blk 0 (.loop lR))) rm)))⟩
def pB:SF:=⟨16,[.tm 6],sQ [T7 6] (sQ [o 8 (.bsl 1 0 [Uk 0] [] []),oM 9 0,T5 10 1 8 8 9,oM 7 10] (sQ [oM 11 7,oM 12 1,oM 13 2,oX 14 11 12,TJ 1 14 13] (sQ [oM 15 7,oM 6 15] (.ret))))⟩
def j7:SC:=sQ [oM 69 10,TF 70 .eql 69 0] (Ui 70 (.ops [oM 71 9,oM 72 11,TK 73 71,oF 74 4 73,TJ 1 74 72]) (.skip))
def sX:SC:=.ops [oA 75 48,oM 48 75]
def j5:SC:=sQ [TE 49 .lss 48 47] (Uj (Uh 49 0) (Uj (.blk 1 (sQ [oM 50 48,oX 51 46 48,oL 52 51,oM 10 50,oM 11 52] (Uj (sQ [oM 53 11,TF 54 .lss 53 0,oM 55 54,TO 56 55 false 11,TO 57 55 false 9,og 58 55 false (.nilc (.t 57)),TQ 59 55 false 0 58,TQ 60 55 false 1 59,TP 61 55 false 60,TO 62 55 false 2,Ua 63 55 false 3 61 62,TQ 64 55 false 0 63,TP 65 55 false 64,TS 66 55 false .geq 56 65,TL 67 55 66] (Ui 67 (.ops [o 68 (.raw (.makeInterface 47 (.const (.int .i64 2)))),oz (.raw (.panic (.tmp 68)))]) (.skip))) j7))) sX))
def sY:SC:=.ops [oA 94 78,oM 78 94]
def j6:SC:=sQ [TE 79 .lss 78 77] (Uj (Uh 79 2) (Uj (.blk 3 (sQ [oM 80 78,oX 81 76 78,oL 82 81,oM 12 80,oM 13 82] (sQ [oM 83 13,TF 84 .geq 83 0] (Ui 84 (.feet [0,1,3,7,0,16,63,127,255,511] [oM 85 9,TK 86 85,oF 87 7 86,oL 88 87,oM 89 12,o 90 (.bin .shl (.k (Um 1)) (.t 89)),TE 91 .or 88 90,TK 92 85,oF 93 7 92,TJ 1 93 91]) (.skip))))) sY))
def j8:SC:=sQ [oM 95 9,oM 8 95] (.ret)
def j9:SC:=Uj (sQ [oM 76 1,oN 77 76,oK 78 0] (.blk 2 (.loop j6))) j8
def fK:SC:=sQ [TG 41 2 4,oM 42 1,oM 43 2,o 44 (.build [Uk 0,.nils,.nils,Uk 0,Uk 0,Uk 0,Uk 0,Um 0] [(0,2),(2,1),(3,1)] [.t 41,.t 42,.t 43]),Ud 45 44,oM 9 45] (Uj (sQ [oM 46 3,oN 47 46,oK 48 0] (.blk 0 (.loop j5))) j9)
def j_:SC:=Uj (sQ [TG 18 2 4,oM 19 1,T2 20 76 18 19,TF 21 .neq 20 0,oM 22 21,TO 23 22 false 2,TT 24 22 false .lss 23 0,TL 25 22 24,oM 26 25,TO 27 26 false 2,TQ 28 26 false 1 4,TP 29 26 false 28,TU 30 26 false 29,TS 31 26 false .geq 27 30,TL 32 26 31,oM 33 32,TO 34 33 false 1,TO 35 33 false 2,Ua 36 33 false 1 34 35,TP 37 33 false 36,TT 38 33 false .geq 37 0,TL 39 33 38] (Ui 39 (.ops [o 40 (.raw (.makeInterface 47 (.const (.int .i64 2)))),oz (.raw (.panic (.tmp 40)))]) (.skip))) fK
def lF:SC:=Uj (sQ [TG 14 2 4,T0 15 75 14,TF 16 .neq 15 0] (Ui 16 (.ops [o 17 (.raw (.makeInterface 47 (.const (.int .i64 50)))),oz (.raw (.panic (.tmp 17)))]) (.skip))) j_
def iZ:SF:=⟨96,[.tm 8],sQ [Ud 4 0,o 8 (.mv (.k (.nilp)))] lF⟩
def dY:SC:=sQ [oM 20 2,TF 21 .eql 20 0] (Ui 21 (.ops [o 22 (.raw (.makeInterface 47 (.const (.int .i64 7)))),oz (.raw (.panic (.tmp 22)))]) (.skip))
def cO:SF:=⟨23,[],.seq (.quiet [oM 5 0,TK 6 5,oF 7 0 6,TG 8 2 7,oM 9 0,TK 10 9,oF 11 2 10,oL 12 11,T2 13 78 8 12,oM 4 13,TH 14 4 0,TH 15 4 1,oM 2 14,oM 3 15]) (Uj (sQ [oM 16 3,TF 17 .neq 16 0] (Ui 17 (.ops [oM 18 3,o 19 (.raw (.makeInterface 47 (.tmp 18))),oz (.raw (.panic (.tmp 19)))]) (.skip))) dY)⟩
def oG:SC:=Uf 9 4 10 9 4 10
def oE:SC:=Uj (sQ [oM 5 4,oM 6 0,oN 7 6,TE 8 .lss 5 7] (Uh 8 0)) (Uj (.blk 1 (sQ [oM 11 0,oM 12 4,oX 13 11 12,oL 14 13,TF 15 .geq 14 0] (Ui 15 (.ops [oM 16 3,oM 17 4,T_ 18 .u64 17,o 19 (.bin .shl (.k (Um 1)) (.t 18)),TE 20 .or 16 19,oM 3 20]) (.skip)))) oG)
def oH:SC:=sQ [oM 21 3,oM 2 21] (.ret)
def nA:SF:=⟨22,[.tm 2],sQ [o 2 (.mv (.k (Um 0)))] (sQ [o 3 (.mv (.k (Um 0)))] (Uj (sQ [oK 4 0] (.blk 0 (.loop oE))) oH))⟩
def j4:SC:=sQ [o 4 (.mkf 89 [] [.t 2,.t 3]),oz (.raw (.defer ⟨.value (.tmp 4),#[],#[]⟩))] (sQ [oM 5 0,o 6 (.dyn (.t 5) []),TJ 1 2 6,oz (.store 1 (.t 3) (qI 0))] (.ret))
def im:SF:=⟨7,[.cell false 1 2,.cell false 1 3],sQ [o 2 (.alloc [.nils]),o 3 (.alloc [Uk 0])] j4⟩
def jt:SC:=.ops [oA 77 45,oM 45 77]
def eS:SC:=sQ [TE 46 .lss 45 44] (Uj (Uh 46 0) (Uj (.blk 1 (sQ [oM 47 45,oM 10 47] (sQ [oM 48 6,TK 49 48,oF 50 7 49,oL 51 50,oM 52 10,TE 53 .shr 51 52,T8 54 .and 53 .u64 1,T8 55 .eql 54 .u64 1] (Ui 55 (Uj (.quiet [oM 56 6,TK 57 56,oF 58 7 57,oL 59 58,oM 60 10,o 61 (.bin .shl (.k (Um 1)) (.t 60)),TE 62 .andNot 59 61,oM 11 62]) (.feet [0,0,0,0,0,0,56,0,0,0,0,1912,4092,8191,16383] [oM 63 9,oM 64 10,oM 65 7,oM 66 6,oM 67 11,oL 68 4,T3 69 58 66 67 68,oM 70 8,oM 71 6,oM 72 11,oL 73 3,T3 74 58 71 72 73,T4 75 59 65 69 70 74,oX 76 63 64,TJ 1 76 75])) (.skip))))) jt))
def ju:SC:=sQ [oM 78 9,oM 5 78] (.ret)
def jv:SC:=sQ [oM 23 6,T0 24 38 23] (Uj (.feet [0,0,2,6,14,0,63,0,0,256,768,1792,0,8191,16383,32767] [oM 25 6,oM 26 6,TK 27 26,oF 28 7 27,oL 29 28,oL 30 3,T3 31 58 25 29 30,oM 32 6,oM 33 6,TK 34 33,oF 35 7 34,oL 36 35,oL 37 4,T3 38 58 32 36 37,oM 7 31,oM 8 38]) (sQ [oF 39 1 0,oL 40 39,oN 41 40,o 42 (.mks 1 8 [Uk 0] (.t 41) (.t 41)),oM 9 42] (Uj (sQ [oM 43 9,oN 44 43,oK 45 0] (.blk 0 (.loop eS))) ju)))
def il:SF:=⟨79,[.tm 5],sQ [T7 5] (sQ [TG 12 2 0,oL 13 1,oL 14 2,oL 15 3,oL 16 4,o 17 (.bsl 1 2 [Uk 0] [0,1] [.t 15,.t 16]),T4 18 36 12 13 14 17,oM 6 18] (Uj (sQ [oL 19 3,oL 20 4,TE 21 .eql 19 20] (Ui 21 (.ops [o 22 (.raw (.makeInterface 47 (.const (.int .i64 2)))),oz (.raw (.panic (.tmp 22)))]) (.skip))) jv))⟩
def fS:SC:=sQ [oM 33 8,oM 6 33] (.ret)
def eo:SF:=⟨34,[.tm 6],sQ [oK 6 0] (sQ [oM 10 0,oM 11 1,T2 12 79 10 11,oM 7 12] (sQ [oM 13 7,oM 14 0,TK 15 14,oF 16 3 15,oL 17 16,oM 18 2,oX 19 13 17,TJ 1 19 18] (sQ [oM 21 0,TK 22 21,oF 23 0 22,TG 24 2 23,oM 25 7,T2 26 78 24 25,oM 20 26,TH 27 20 0,TH 28 20 1,oM 8 27,oM 9 28] (Uj (sQ [oM 29 9,TF 30 .neq 29 0] (Ui 30 (.ops [oM 31 9,o 32 (.raw (.makeInterface 47 (.tmp 31))),oz (.raw (.panic (.tmp 32)))]) (.skip))) fS))))⟩
def bS:SF:=⟨52,[.tm 8],sQ [oK 8 0] (sQ [oM 14 0,T_ 15 .u64 14,oM 16 1,T_ 17 .u64 16,T2 18 90 15 17,oM 13 18,TH 19 13 0,TH 20 13 1,oM 9 19,oM 10 20] (sQ [oM 22 2,T_ 23 .u64 22,oM 24 3,T_ 25 .u64 24,T2 26 90 23 25,oM 21 26,TH 27 21 0,TH 28 21 1,oM 11 27,oM 12 28] (Uj (.blk 0 (sQ [oM 30 9,oM 31 11,TE 32 .gtr 30 31,oM 33 32,TO 34 33 false 9,TO 35 33 false 11,TS 36 33 false .eql 34 35,TO 37 33 false 36,TO 38 37 true 10,TO 39 37 true 12,TS 40 37 true .gtr 38 39,og 41 33 false (.pick (.t 37) (.t 40) (.k (.bool false))),TL 42 33 41,oM 29 42] (Ui 29 (sQ [oK 8 1] (.ret)) (sQ [oM 44 9,oM 45 11,TE 46 .lss 44 45,oM 47 46,TO 48 47 false 10,TO 49 47 false 12,TS 50 47 false .lss 48 49,TL 51 47 50,oM 43 51] (Ui 43 (sQ [oK 8 (-1)] (.ret)) (.skip)))))) (sQ [oK 8 0] (.ret)))))⟩
def qm:SC:=Uj (sQ [oM 35 9,oM 36 3,oN 37 36,TE 38 .lss 35 37] (Uh 38 0)) (Uj (.blk 1 (Uj (.quiet [oM 41 3,oM 42 9,oX 43 41 42,oL 44 43,TF 45 .lss 44 0,oM 46 45,TO 47 46 false 3,TO 48 46 false 9,Ua 49 46 false 1 47 48,TP 50 46 false 49,TQ 51 46 false 1 4,TP 52 46 false 51,TO 53 46 false 2,Ua 54 46 false 3 52 53,TQ 55 46 false 0 54,TP 56 46 false 55,TS 57 46 false .geq 50 56,TL 58 46 57]) (Ui 58 (sQ [oK 8 2] (.ret)) (.skip)))) (Uf 39 9 40 39 9 40))
def qo:SC:=sQ [oK 8 0] (.ret)
def cI:SC:=Uj (sQ [TG 10 2 4,T0 11 91 10,T9 12 11] (Ui 12 (sQ [oK 8 50] (.ret)) (.skip))) (Uj (sQ [TG 13 2 4,oM 14 1,T2 15 92 13 14,T9 16 15,oM 17 16,TO 18 17 false 2,TT 19 17 false .lss 18 0,TL 20 17 19,oM 21 20,TO 22 21 false 2,TQ 23 21 false 1 4,TP 24 21 false 23,TU 25 21 false 24,TS 26 21 false .geq 22 25,TL 27 21 26,oM 28 27,TO 29 28 false 1,TO 30 28 false 2,Ua 31 28 false 1 29 30,TP 32 28 false 31,TT 33 28 false .geq 32 0,TL 34 28 33] (Ui 34 (sQ [oK 8 2] (.ret)) (.skip))) (Uj (sQ [oK 9 0] (.blk 0 (.loop qm))) qo))
def cV:SF:=⟨59,[.tm 8],sQ [Ud 4 0,oK 8 0] cI⟩
def qg:SC:=Uf 11 6 12 11 6 12
def qf:SC:=Uj (sQ [oM 7 6,TG 8 2 2,T0 9 93 8,TE 10 .lss 7 9] (Uh 10 0)) (Uj (.blk 1 (sQ [TG 13 2 2,oM 14 6,T2 15 95 13 14,oM 16 1,T2 17 94 15 16] (Ui 17 (.ops [oM 18 5,TG 19 2 2,oM 20 6,T2 21 96 19 20,TE 22 .add 18 21,oM 5 22]) (.skip)))) qg)
def qh:SC:=sQ [oM 23 5,oM 4 23] (.ret)
def q7:SC:=sQ [oK 5 0] (Uj (sQ [oK 6 0] (.blk 0 (.loop qf))) qh)
def py:SF:=⟨24,[.tm 4],sQ [Ud 2 0,oK 4 0] q7⟩
def qk:SC:=Uf 11 6 12 11 6 12
def qj:SC:=Uj (sQ [oM 7 6,oM 8 0,oN 9 8,TE 10 .lss 7 9] (Uh 10 0)) (Uj (.blk 1 (sQ [oM 13 1,oM 14 6,T2 15 97 13 14] (Ui 15 (.ops [oM 16 5,oM 17 0,oM 18 6,oX 19 17 18,oL 20 19,Ub 21 20,T5 22 1 8 16 21,oM 5 22]) (.ops [oM 23 5,o 24 (.bsl 1 1 [Uk 0] [0] [.k (Uk (-1))]),T5 25 1 8 23 24,oM 5 25])))) qk)
def ql:SC:=sQ [oM 26 5,oM 4 26] (.ret)
def pz:SF:=⟨27,[.tm 4],sQ [T7 4] (sQ [T7 5] (Uj (sQ [oK 6 0] (.blk 0 (.loop qj))) ql))⟩
def qp:SC:=Uj (sQ [oM 18 11,TF 19 .geq 18 0] (Uh 19 0)) (Uj (.blk 1 (Uj (.quiet [oM 22 11,Ue 23 5 1 9 22,oL 24 23,oM 25 11,Ue 26 5 1 10 25,oL 27 26,TE 28 .neq 24 27]) (Ui 28 (Uj (Uj (.quiet [oM 29 11,Ue 30 5 1 9 29,oL 31 30,oM 32 11,Ue 33 5 1 10 32,oL 34 33,TE 35 .gtr 31 34]) (Ui 35 (sQ [oK 8 1] (.ret)) (.skip))) (sQ [oK 8 (-1)] (.ret))) (.skip)))) (.ops [oM 20 11,TF 21 .sub 20 1,oM 11 21]))
def qq:SC:=sQ [oK 8 0] (.ret)
def pA:SF:=⟨36,[.tm 8],sQ [oK 8 0] (sQ [oM 12 0,oM 13 3,T2 14 98 12 13,oM 15 1,oM 16 2,T2 17 98 15 16,o 9 (.alloc [Uk 0,Uk 0,Uk 0,Uk 0,Uk 0]),o 10 (.alloc [Uk 0,Uk 0,Uk 0,Uk 0,Uk 0]),TJ 5 9 14,TJ 5 10 17] (Uj (sQ [oK 11 4] (.blk 0 (.loop qp))) qq))⟩
def qT:SC:=sQ [TE 28 .lss 27 26] (Uj (Uh 28 0) (Uj (.blk 1 (sQ [oX 29 25 27,oL 30 29,oM 9 30] (sQ [TG 31 2 2,oM 32 9,T2 33 76 31 32,oM 10 33] (sQ [oM 34 10,TF 35 .neq 34 0] (Ui 35 (sQ [o 36 (.build [Uk 0,.nils,.nils,.nils] [] []),oM 37 10,TJ 4 4 36,oM 5 37] (.ret)) (.skip)))))) (.ops [oA 38 27,oM 27 38])))
def lB:SC:=Uj (sQ [oM 64 15,TF 65 .geq 64 0] (Uh 65 4)) (Uj (.blk 5 (Uj (.feet [0,1,0,7,15,0,32,0,224,480,0,2047,4095] [oF 68 3 11,oL 69 68,oM 70 12,oX 71 69 70,oL 72 71,oF 73 0 13,oL 74 73,oM 75 15,oX 76 74 75,oL 77 76,oM 78 14,oX 79 72 77,TJ 1 79 78]) (.ops [oM 80 14,oF 81 1 13,oL 82 81,oM 83 15,oX 84 82 83,oL 85 84,TE 86 .mul 80 85,oM 14 86]))) (.ops [oM 66 15,TF 67 .sub 66 1,oM 15 67]))
def qU:SC:=.ops [oA 87 47,oM 47 87]
def lC:SC:=sQ [TE 48 .lss 47 46] (Uj (Uh 48 2) (Uj (.blk 3 (sQ [oM 49 47,TN 50 3 45 47,TG 51 3 50,o 13 (.alloc [.nils,.nils,.nils]),oM 12 49,TJ 3 13 51] (Uj (.feet [0,1,0,0,8,24,56,127,255] [oF 52 3 11,oL 53 52,oM 54 12,oF 55 1 2,oL 56 55,oN 57 56,o 58 (.mks 1 8 [Uk 0] (.t 57) (.t 57)),oX 59 53 54,TJ 1 59 58]) (sQ [oK 14 1] (sQ [oF 60 0 13,oL 61 60,oN 62 61,TF 63 .sub 62 1,oM 15 63] (.blk 4 (.loop lB))))))) qU))
def qV:SC:=sQ [TG 88 4 11,TJ 4 4 88,oK 5 0] (.ret)
def qW:SC:=Uj (.feet [0,0,0,4,12,31,0,127] [TG 39 2 2,oM 40 6,oM 41 6,oN 42 41,o 43 (.mks 1 24 [.nils] (.t 42) (.t 42)),o 44 (.build [Uk 0,.nils,.nils,.nils] [(0,2),(2,1),(3,1)] [.t 39,.t 40,.t 43]),o 11 (.alloc [Uk 0,.nils,.nils,.nils]),TJ 4 11 44]) (Uj (sQ [oM 45 6,oN 46 45,oK 47 0] (.blk 2 (.loop lC))) qV)
def td:SC:=sQ [TG 17 2 2,T0 18 104 17,oM 16 18,TH 19 16 0,TH 20 16 1,oM 6 19,oM 7 20] (Uj (sQ [oM 21 7,TF 22 .neq 21 0] (Ui 22 (sQ [o 23 (.build [Uk 0,.nils,.nils,.nils] [] []),oM 24 7,TJ 4 4 23,oM 5 24] (.ret)) (.skip))) (Uj (sQ [oM 25 1,oN 26 25,oK 27 0] (.blk 0 (.loop qT))) qW))
def qS:SF:=⟨89,[.cell true 4 4,.tm 5],sQ [Ud 2 0,o 4 (.alloc [Uk 0,.nils,.nils,.nils]),oK 5 0] td⟩
def fP:SC:=.ops [o 6 (.alloc [Uk 0,Uk 0,.nils]),TJ 3 6 10]
def fQ:SC:=.blk 1 (.ops [oL 11 5,oF 12 1 6,oL 13 12,TE 14 .add 11 13,TJ 1 5 14])
def fR:SC:=sQ [oL 15 5,oM 4 15] (.ret)
def gJ:SC:=sQ [o 5 (.alloc [Uk 0]),oz (.store 1 (.t 5) (qI 0))] (Uj (sQ [TG 7 4 2,oM 8 1,T2 9 106 7 8] (.blk 0 (.rng 16 (.t 9) [10] fP fQ))) fR)
def ej:SF:=⟨16,[.tm 4],sQ [Ud 2 0,oK 4 0] gJ⟩
def pu:SC:=Uj (sQ [oM 5 4,oF 6 0 1,oL 7 6,oN 8 7,TE 9 .lss 5 8,oM 10 9,TO 11 10 true 4,TT 12 10 true .lss 11 5,TM 13 10 12] (Uh 13 0)) (Uj (.blk 1 (.ops [oM 16 3,oF 17 0 1,oL 18 17,oM 19 4,oX 20 18 19,oL 21 20,T8 22 .rem 21 .u8 4,T_ 23 .i64 22,o 24 (.bin .add (qI 1) (.t 23)),Ub 25 24,T5 26 1 8 16 25,oM 3 26])) (Uf 14 4 15 14 4 15))
def ip:SC:=sQ [oM 27 3,oM 2 27] (.ret)
def iJ:SC:=sQ [T7 3] (Uj (sQ [oK 4 0] (.blk 0 (.loop pu))) ip)
def fL:SF:=⟨28,[.tm 2],sQ [Ud 1 0,T7 2] iJ⟩
def Av:SC:=Uj (sQ [oM 7 6,oM 8 1,oN 9 8,TE 10 .lss 7 9] (Uh 10 0)) (Uj (.blk 1 (.ops [oM 13 5,oM 14 0,oM 15 1,oM 16 6,oX 17 15 16,oL 18 17,oX 19 14 18,oL 20 19,Ub 21 20,T5 22 1 8 13 21,oM 5 22])) (Uf 11 6 12 11 6 12))
def th:SC:=sQ [oM 23 5,oM 4 23] (.ret)
def tQ:SF:=⟨24,[.tm 4],sQ [T7 4] (sQ [T7 5] (Uj (sQ [oK 6 0] (.blk 0 (.loop Av))) th))⟩
def oe:SC:=Uj (sQ [oM 5 4,oF 6 1 1,oL 7 6,oN 8 7,TE 9 .lss 5 8] (Uh 9 0)) (Uj (.blk 1 (.ops [oM 12 3,oF 13 1 1,oL 14 13,oM 15 4,TN 16 3 14 15,oF 17 0 16,oL 18 17,Ub 19 18,T5 20 1 8 12 19,oM 3 20])) (Uf 10 4 11 10 4 11))
def oh:SC:=sQ [oM 21 3,oM 2 21] (.ret)
def qe:SC:=sQ [T7 3] (Uj (sQ [oK 4 0] (.blk 0 (.loop oe))) oh)
def np:SF:=⟨22,[.tm 2],sQ [Ud 1 0,T7 2] qe⟩
def te:SC:=sQ [TG 6 2 1,T0 7 105 6,oM 5 7,TH 8 5 0,TH 9 5 1,o 3 (.alloc [Uk 0,.nils,.nils,.nils,.nils]),TJ 5 3 8,oM 4 9] (sQ [oM 10 4,oM 2 10] (.ret))
def qX:SF:=⟨11,[.tm 2],sQ [Ud 1 0,oK 2 0] te⟩
def ie:SC:=sQ [TE 27 .lss 26 25] (Uj (Uh 27 0) (Uj (.blk 1 (sQ [oM 28 26,oX 29 24 26,oL 30 29,oM 7 28,oM 8 30] (sQ [oM 31 8,TF 32 .lss 31 (-1),oM 33 32,TO 34 33 false 8,TQ 35 33 false 2 5,TP 36 33 false 35,TO 37 33 false 7,Ua 38 33 false 1 36 37,TP 39 33 false 38,TS 40 33 false .geq 34 39,TL 41 33 40] (Ui 41 (sQ [oK 4 2] (.ret)) (.skip))))) (.ops [oA 42 26,oM 26 42])))
def ig:SC:=sQ [oK 4 0] (.ret)
def iI:SC:=sQ [TG 10 2 2,T0 11 105 10,oM 9 11,TH 12 9 0,TH 13 9 1,o 5 (.alloc [Uk 0,.nils,.nils,.nils,.nils]),TJ 5 5 12,oM 6 13] (Uj (sQ [oM 14 6,TF 15 .neq 14 0] (Ui 15 (sQ [oM 16 6,oM 4 16] (.ret)) (.skip))) (Uj (sQ [oM 17 1,oN 18 17,oF 19 0 5,oF 20 1 19,oL 21 20,oN 22 21,TE 23 .neq 18 22] (Ui 23 (sQ [oK 4 2] (.ret)) (.skip))) (Uj (sQ [oM 24 1,oN 25 24,oK 26 0] (.blk 0 (.loop ie))) ig)))
def fJ:SF:=⟨43,[.tm 4],sQ [Ud 2 0,oK 4 0] iI⟩
def qR:SC:=sQ [TG 9 2 2,oM 10 1,Uc 11 10,T2 12 66 9 11,oM 8 12,TH 13 8 0,TH 14 8 1,o 6 (.alloc [Uk 0,.nils,.nils,.nils]),TJ 4 6 13,oM 7 14] (Uj (sQ [oM 15 7,TF 16 .neq 15 0] (Ui 16 (sQ [oM 17 7,oK 4 0,oM 5 17] (.ret)) (.skip))) (sQ [TG 18 4 6,oM 19 1,T2 20 68 18 19,oM 4 20,oK 5 0] (.ret)))
def po:SF:=⟨21,[.tm 4,.tm 5],sQ [Ud 2 0,oK 4 0,oK 5 0] qR⟩
def fU:SC:=.ops [oA 36 15,oM 15 36]
def fT:SC:=sQ [TE 16 .lss 15 14] (Uj (Uh 16 0) (Uj (.blk 1 (sQ [oM 17 15,oM 6 17] (sQ [oM 18 5,oM 19 6,oX 20 18 19,oz (.store 1 (.t 20) (qI (-1)))] (sQ [oM 21 1,oM 22 6,TE 23 .shr 21 22,T8 24 .and 23 .u64 1,T8 25 .eql 24 .u64 1] (Ui 25 (.ops [oM 26 5,oM 27 6,oM 28 0,TK 29 28,oF 30 2 29,oL 31 30,oM 32 6,oX 33 31 32,oL 34 33,oX 35 26 27,TJ 1 35 34]) (.skip)))))) fU))
def fV:SC:=sQ [oM 37 5,oM 4 37] (.ret)
def eA:SF:=⟨38,[.tm 4],sQ [T7 4] (sQ [oM 7 0,TK 8 7,oF 9 2 8,oL 10 9,oN 11 10,o 12 (.mks 1 8 [Uk 0] (.t 11) (.t 11)),oM 5 12] (Uj (sQ [oM 13 5,oN 14 13,oK 15 0] (.blk 0 (.loop fT))) fV))⟩
def io:SC:=sQ [T7 5] (.ops [oM 16 5,oM 17 3,TJ 1 0 16,TJ 1 1 17])
def cx:SF:=⟨18,[],sQ [o 6 (.raw (.call ⟨.builtin .recover,#[],#[]⟩)),oM 2 6] (sQ [oM 7 2,o 8 (.eq true (.iface true) (.t 7) (.k (.nili)))] (Ui 8 (sQ [oM 10 2,o 11 (.raw (.typeAssert (.tmp 10) 20 47 true)),oM 9 11,TH 12 9 0,TH 13 9 1,oM 3 12,oM 4 13] (Uj (sQ [oM 14 4,T9 15 14] (Ui 15 (.ops [oK 3 2]) (.skip))) io)) (.skip)))⟩
def iY:SF:=⟨51,[.tm 4,.tm 5],sQ [o 4 (.mv (.k (Um 0))),o 5 (.mv (.k (Um 0)))] (sQ [oM 14 0,T8 15 .and 14 .u64 4294967295,oM 6 15] (sQ [oM 16 0,T8 17 .shr 16 .u64 32,oM 7 17] (sQ [oM 18 1,T8 19 .and 18 .u64 4294967295,oM 8 19] (sQ [oM 20 1,T8 21 .shr 20 .u64 32,oM 9 21] (sQ [oM 22 6,oM 23 8,TE 24 .mul 22 23,oM 10 24] (sQ [oM 25 7,oM 26 8,TE 27 .mul 25 26,oM 28 10,T8 29 .shr 28 .u64 32,TE 30 .add 27 29,oM 11 30] (sQ [oM 31 11,T8 32 .and 31 .u64 4294967295,oM 12 32] (sQ [oM 33 11,T8 34 .shr 33 .u64 32,oM 13 34] (sQ [oM 35 12,oM 36 6,oM 37 9,TE 38 .mul 36 37,TE 39 .add 35 38,oM 12 39] (sQ [oM 40 7,oM 41 9,TE 42 .mul 40 41,oM 43 13,TE 44 .add 42 43,oM 45 12,T8 46 .shr 45 .u64 32,TE 47 .add 44 46,oM 4 47] (sQ [oM 48 0,oM 49 1,TE 50 .mul 48 49,oM 5 50] (.ret))))))))))))⟩
def ol:SC:=Uj (sQ [oM 31 4,oF 32 1 1,oL 33 32,oN 34 33,TE 35 .lss 31 34] (Uh 35 0)) (Uj (.blk 1 (sQ [oF 38 1 1,oL 39 38,oM 40 4,TN 41 3 39 40,TG 42 3 41,o 5 (.alloc [Uk 0,.nils,.nils]),TJ 3 5 42] (Uj (sQ [oF 43 0 5,oL 44 43,TF 45 .lss 44 1,oM 46 45,TQ 47 46 false 0 5,TP 48 46 false 47,TT 49 46 false .gtr 48 4,TL 50 46 49,oM 51 50,TQ 52 51 false 1 5,TP 53 51 false 52,TQ 54 51 false 1 1,TP 55 51 false 54,TU 56 51 false 55,og 57 51 false (.call 123 [.t 53,.t 56]),og 58 51 false (.not (.t 57)),TL 59 51 58] (Ui 59 (sQ [T6 2 false] (.ret)) (.skip))) (.ops [oM 60 3,oF 61 0 5,oL 62 61,TE 63 .mul 60 62,oM 3 63])))) (Uf 36 4 37 36 4 37))
def i6:SC:=Uj (sQ [oM 108 10,oF 109 2 7,oL 110 109,oM 111 8,oX 112 110 111,oL 113 112,oN 114 113,TE 115 .lss 108 114] (Uh 115 6)) (Uj (.blk 7 (Uj (Uj (.quiet [oF 118 2 7,oL 119 118,oM 120 8,oX 121 119 120,oL 122 121,oM 123 10,oX 124 122 123,oL 125 124,TF 126 .lss 125 0,oM 127 126,TQ 128 127 false 2 7,TP 129 127 false 128,TO 130 127 false 8,Ua 131 127 false 1 129 130,TP 132 127 false 131,TO 133 127 false 10,Ua 134 127 false 1 132 133,TP 135 127 false 134,TQ 136 127 false 0 1,TP 137 127 false 136,TS 138 127 false .gtr 135 137,TL 139 127 138]) (Ui 139 (sQ [T6 2 false] (.ret)) (.skip))) (.ops [oM 140 9,oF 141 2 7,oL 142 141,oM 143 8,oX 144 142 143,oL 145 144,oM 146 10,oX 147 145 146,oL 148 147,TE 149 .add 140 148,oM 9 149]))) (Uf 116 10 117 116 10 117))
def i8:SC:=sQ [oM 150 9,oF 151 0 1,oL 152 151,TE 153 .neq 150 152] (Ui 153 (sQ [T6 2 false] (.ret)) (.skip))
def oo:SC:=Uf 97 8 98 97 8 98
def i7:SC:=Uj (sQ [oM 92 8,oF 93 2 7,oL 94 93,oN 95 94,TE 96 .lss 92 95] (Uh 96 4)) (Uj (.blk 5 (Uj (Uj (.quiet [oF 99 2 7,oL 100 99,oM 101 8,oX 102 100 101,oL 103 102,oN 104 103,oF 105 0 7,oL 106 105,TE 107 .neq 104 106]) (Ui 107 (sQ [T6 2 false] (.ret)) (.skip))) (sQ [oK 9 0] (Uj (sQ [oK 10 0] (.blk 6 (.loop i6))) i8)))) oo)
def oq:SC:=Uf 77 6 78 77 6 78
def om:SC:=Uj (sQ [oM 72 6,oF 73 1 1,oL 74 73,oN 75 74,TE 76 .lss 72 75] (Uh 76 2)) (Uj (.blk 3 (sQ [oF 79 1 1,oL 80 79,oM 81 6,TN 82 3 80 81,TG 83 3 82,o 7 (.alloc [Uk 0,.nils,.nils]),TJ 3 7 83] (Uj (Uj (.quiet [oF 84 2 7,oL 85 84,oN 86 85,TG 87 2 1,oM 88 6,T2 89 31 87 88,T0 90 30 89,TE 91 .neq 86 90]) (Ui 91 (sQ [T6 2 false] (.ret)) (.skip))) (sQ [oK 8 0] (.blk 4 (.loop i7)))))) oq)
def ox:SC:=sQ [T6 2 true] (.ret)
def oy:SC:=Uj (sQ [oM 64 3,TF 65 .gtr 64 1024,oM 66 65,og 67 66 false (.load true 2 (.t 1)),og 68 66 false (.call 125 [.t 67]),og 69 66 false (.call 124 [.t 68]),og 70 66 false (.not (.t 69)),TL 71 66 70] (Ui 71 (sQ [T6 2 false] (.ret)) (.skip))) (Uj (sQ [oK 6 0] (.blk 2 (.loop om))) ox)
def qi:SC:=Uj (sQ [oF 11 0 1,oL 12 11,TF 13 .lss 12 1,oM 14 13,TQ 15 14 false 0 1,TP 16 14 false 15,TT 17 14 false .gtr 16 60,TL 18 14 17,oM 19 18,TQ 20 19 false 1 1,TP 21 19 false 20,TU 22 19 false 21,TT 23 19 false .lss 22 1,TL 24 19 23,oM 25 24,TQ 26 25 false 1 1,TP 27 25 false 26,TU 28 25 false 27,TT 29 25 false .gtr 28 8,TL 30 25 29] (Ui 30 (sQ [T6 2 false] (.ret)) (.skip))) (sQ [oK 3 1] (Uj (sQ [oK 4 0] (.blk 0 (.loop ol))) oy))
def nq:SF:=⟨154,[.tm 2],sQ [Ud 1 0,T6 2 false] qi⟩
def kh:SC:=Uj (sQ [oM 12 5,oM 13 1,oN 14 13,TE 15 .lss 12 14] (Uh 15 0)) (Uj (.blk 1 (Uj (.quiet [oM 18 1,oM 19 5,oX 20 18 19,oL 21 20,TF 22 .lss 21 (-1),oM 23 22,TO 24 23 false 1,TO 25 23 false 5,Ua 26 23 false 1 24 25,TP 27 23 false 26,TQ 28 23 false 1 2,TP 29 23 false 28,TO 30 23 false 5,Ua 31 23 false 3 29 30,TQ 32 23 false 0 31,TP 33 23 false 32,TS 34 23 false .geq 27 33,TL 35 23 34]) (Ui 35 (sQ [T6 4 false] (.ret)) (.skip)))) (Uf 16 5 17 16 5 17))
def ko:SC:=sQ [T6 4 true] (.ret)
def gw:SC:=Uj (sQ [oM 6 1,oN 7 6,oF 8 1 2,oL 9 8,oN 10 9,TE 11 .neq 7 10] (Ui 11 (sQ [T6 4 false] (.ret)) (.skip))) (Uj (sQ [oK 5 0] (.blk 0 (.loop kh))) ko)
def fC:SF:=⟨36,[.tm 4],sQ [Ud 2 0,T6 4 false] gw⟩
def oD:SC:=sQ [TG 3 2 1,T0 4 73 3,T0 5 30 4,oM 2 5] (.ret)
def lQ:SF:=⟨6,[.tm 2],sQ [Ud 1 0,oK 2 0] oD⟩
def lM:SC:=Uj (sQ [oM 6 5,oM 7 0,oN 8 7,TE 9 .lss 6 8] (Uh 9 0)) (Uj (.blk 1 (Uj (.quiet [oM 12 1,oM 13 5,oX 14 12 13,oL 15 14,TF 16 .geq 15 0,oM 17 16,TO 18 17 true 1,TO 19 17 true 5,Ua 20 17 true 1 18 19,TP 21 17 true 20,TO 22 17 true 0,TO 23 17 true 5,Ua 24 17 true 1 22 23,TP 25 17 true 24,TS 26 17 true .neq 21 25,TM 27 17 26]) (Ui 27 (sQ [T6 4 false] (.ret)) (.skip)))) (Uf 10 5 11 10 5 11))
def lN:SC:=sQ [T6 4 true] (.ret)
def jV:SF:=⟨28,[.tm 4],sQ [T6 4 false] (Uj (sQ [oK 5 0] (.blk 0 (.loop lM))) lN)⟩
def oB:SC:=sQ [TG 5 2 2,T0 6 73 5,oM 7 1,T2 8 126 6 7,oM 4 8] (.ret)
def lO:SF:=⟨9,[.tm 4],sQ [Ud 2 0,T7 4] oB⟩
def mD:SC:=Uj (sQ [oM 11 7,oF 12 1 2,oL 13 12,oN 14 13,TE 15 .lss 11 14] (Uh 15 0)) (Uj (.blk 1 (.quiet [oM 18 6,TG 19 2 2,oM 20 7,oM 21 5,T3 22 127 19 20 21,oM 23 5,oM 24 7,oX 25 23 24,oL 26 25,oX 27 22 26,oL 28 27,TE 29 .mul 18 28,oM 6 29])) (Uf 16 7 17 16 7 17))
def mE:SC:=sQ [oM 30 6,oM 4 30] (.ret)
def oC:SC:=sQ [TG 8 2 2,oM 9 1,T2 10 95 8 9,oM 5 10] (sQ [oK 6 1] (Uj (sQ [oK 7 0] (.blk 0 (.loop mD))) mE))
def lP:SF:=⟨31,[.tm 4],sQ [Ud 2 0,oK 4 0] oC⟩
def tS:SF:=⟨11,[.tm 4],sQ [T6 4 false] (sQ [oM 5 0,oM 6 1,T_ 7 .u64 6,TE 8 .shr 5 7,T8 9 .and 8 .u64 1,T8 10 .eql 9 .u64 1,oM 4 10] (.ret))⟩
def ir:SC:=Uj (sQ [oM 26 9,TF 27 .lss 26 2] (Uh 27 2)) (Uj (.blk 3 (Uj (.quiet [oM 30 8,Ue 31 2 1 5 30,oL 32 31,oM 33 9,Ue 34 2 1 6 33,oL 35 34,TE 36 .mul 32 35,oM 10 36]) (sQ [oM 37 8,oM 38 9,TE 39 .add 37 38,oM 40 8,oM 41 9,TE 42 .add 40 41,Ue 43 5 1 7 42,oL 44 43,oM 45 10,TF 46 .rem 45 2147483648,TE 47 .add 44 46,Ue 48 5 1 7 39,TJ 1 48 47] (.ops [oM 49 8,oM 50 9,TE 51 .add 49 50,oA 52 51,oM 53 8,oM 54 9,TE 55 .add 53 54,oA 56 55,Ue 57 5 1 7 56,oL 58 57,oM 59 10,TF 60 .quo 59 2147483648,TE 61 .add 58 60,Ue 62 5 1 7 52,TJ 1 62 61])))) (Uf 28 9 29 28 9 29))
def mJ:SC:=Uf 24 8 25 24 8 25
def mH:SC:=Uj (sQ [oM 22 8,TF 23 .lss 22 2] (Uh 23 0)) (Uj (.blk 1 (sQ [oK 9 0] (.blk 2 (.loop ir)))) mJ)
def it:SC:=Uj (sQ [oM 63 11,TF 64 .lss 63 4] (Uh 64 4)) (Uj (.blk 5 (Uj (.feet [0,1,0,4,12,28,0,64,192,448,1020,2047,4095] [oM 67 11,oA 68 67,oM 69 11,oA 70 69,Ue 71 5 1 7 70,oL 72 71,oM 73 11,Ue 74 5 1 7 73,oL 75 74,TF 76 .quo 75 2147483648,TE 77 .add 72 76,Ue 78 5 1 7 68,TJ 1 78 77]) (.ops [oM 79 11,oM 80 11,Ue 81 5 1 7 80,oL 82 81,TF 83 .rem 82 2147483648,Ue 84 5 1 7 79,TJ 1 84 83]))) (Uf 65 11 66 65 11 66))
def mK:SC:=sQ [TG 85 5 7,TJ 5 4 85] (.ret)
def mL:SC:=Uj (sQ [oK 11 0] (.blk 4 (.loop it))) mK
def oJ:SC:=sQ [oM 12 0,TF 13 .rem 12 2147483648,oM 14 0,TF 15 .quo 14 2147483648,o 16 (.build [Uk 0,Uk 0] [(0,1),(1,1)] [.t 13,.t 15]),oM 17 1,TF 18 .rem 17 2147483648,oM 19 1,TF 20 .quo 19 2147483648,o 21 (.build [Uk 0,Uk 0] [(0,1),(1,1)] [.t 18,.t 20]),o 5 (.alloc [Uk 0,Uk 0]),o 6 (.alloc [Uk 0,Uk 0]),TJ 2 5 16,TJ 2 6 21] (sQ [o 7 (.alloc [Uk 0,Uk 0,Uk 0,Uk 0,Uk 0])] (Uj (sQ [oK 8 0] (.blk 0 (.loop mH))) mL))
def lV:SF:=⟨86,[.cell true 5 4],sQ [o 4 (.alloc [Uk 0,Uk 0,Uk 0,Uk 0,Uk 0])] oJ⟩
def n_:SC:=sQ [TE 24 .lss 23 22] (Uj (Uh 24 0) (Uj (.blk 1 (sQ [oM 25 23,oM 7 25] (.ops [oM 26 6,oM 27 7,TG 28 5 4,oM 29 7,T2 30 129 28 29,TN 31 3 26 27,TJ 3 31 30]))) (.ops [oA 32 23,oM 23 32])))
def oa:SC:=sQ [oM 33 6,oM 2 33,oK 3 0] (.ret)
def pY:SC:=sQ [TG 9 2 1,T0 10 105 9,oM 8 10,TH 11 8 0,TH 12 8 1,o 4 (.alloc [Uk 0,.nils,.nils,.nils,.nils]),TJ 5 4 11,oM 5 12] (Uj (sQ [oM 13 5,TF 14 .neq 13 0] (Ui 14 (sQ [oM 15 5,T7 2,oM 3 15] (.ret)) (.skip))) (sQ [oF 16 0 4,oF 17 1 16,oL 18 17,oN 19 18,o 20 (.mks 3 72 [.nils,.nils,.nils] (.t 19) (.t 19)),oM 6 20] (Uj (sQ [oM 21 6,oN 22 21,oK 23 0] (.blk 0 (.loop n_))) oa)))
def nc:SF:=⟨34,[.tm 2,.tm 3],sQ [Ud 1 0,T7 2,oK 3 0] pY⟩
def nf:SC:=sQ [TE 51 .lss 50 49] (Uj (Uh 51 0) (Uj (.blk 1 (sQ [oM 52 50,TN 53 3 48 50,TG 54 3 53,o 7 (.alloc [Uk 0,.nils,.nils]),oM 6 52,TJ 3 7 54] (Uj (sQ [oF 55 0 7,oL 56 55,TF 57 .lss 56 1,oM 58 57,TQ 59 58 false 0 7,TP 60 58 false 59,TT 61 58 false .gtr 60 4,TL 62 58 61] (Ui 62 (sQ [o 63 (.build [Uk 0,.nils,.nils,.nils,.nils] [] []),TJ 5 2 63,oK 3 50] (.ret)) (.skip))) (sQ [oF 64 2 4,oL 65 64,oM 66 6,oF 67 0 7,oL 68 67,oX 69 65 66,TJ 1 69 68] (.ops [oM 70 5,oF 71 0 7,oL 72 71,TE 73 .mul 70 72,oM 5 73]))))) (.ops [oA 74 50,oM 50 74])))
def nh:SC:=sQ [TE 91 .lss 90 89] (Uj (Uh 91 4) (Uj (.blk 5 (sQ [oX 92 88 90,oL 93 92,oM 12 93] (Uj (sQ [oM 94 12,oM 95 10,TE 96 .leq 94 95,oM 97 96,TO 98 97 false 12,TQ 99 97 false 0 4,TQ 100 97 false 1 99,TP 101 97 false 100,TU 102 97 false 101,TS 103 97 false .geq 98 102,TL 104 97 103,oM 105 104,TO 106 105 false 12,TO 107 105 false 8,TS 108 105 false .eql 106 107,TL 109 105 108] (Ui 109 (sQ [o 110 (.build [Uk 0,.nils,.nils,.nils,.nils] [] []),TJ 5 2 110,oK 3 50] (.ret)) (.skip))) (sQ [oM 111 12,oM 10 111] (.feet [0,1,0,7,15,0,32,127,255,511] [oF 112 3 4,oL 113 112,oM 114 8,oX 115 113 114,oL 116 115,oM 117 12,o 118 (.bin .shl (.k (Um 1)) (.t 117)),TE 119 .or 116 118,oX 120 113 114,TJ 1 120 119]))))) (.ops [oA 121 90,oM 90 121])))
def nj:SC:=sQ [TG 122 5 4,TG 123 3 9,T2 124 130 122 123,T9 125 124] (Ui 125 (sQ [o 126 (.build [Uk 0,.nils,.nils,.nils,.nils] [] []),TJ 5 2 126,oK 3 50] (.ret)) (.skip))
def tf:SC:=.ops [oA 127 82,oM 82 127]
def ni:SC:=sQ [TE 83 .lss 82 81] (Uj (Uh 83 2) (Uj (.blk 3 (sQ [oM 84 82,TN 85 3 80 82,TG 86 3 85,o 9 (.alloc [Uk 0,.nils,.nils]),oM 8 84,TJ 3 9 86] (sQ [oK 10 (-1)] (Uj (sQ [oF 87 1 9,oL 88 87,oN 89 88,oK 90 0] (.blk 4 (.loop nh))) nj)))) tf))
def nk:SC:=sQ [oF 129 3 4,oL 130 129,T0 131 131 130,oM 128 131,TH 132 128 0,TH 133 128 1,oM 13 132,oM 14 133] (Uj (sQ [oM 134 14,T9 135 134] (Ui 135 (sQ [o 136 (.build [Uk 0,.nils,.nils,.nils,.nils] [] []),TJ 5 2 136,oK 3 50] (.ret)) (.skip))) (sQ [oM 137 13,oF 138 4 4,TJ 1 138 137] (sQ [TG 139 5 4,TJ 5 2 139,oK 3 0] (.ret))))
def tg:SC:=Uj (sQ [oM 75 5,TF 76 .gtr 75 1024] (Ui 76 (sQ [o 77 (.build [Uk 0,.nils,.nils,.nils,.nils] [] []),TJ 5 2 77,oK 3 50] (.ret)) (.skip))) (Uj (sQ [oF 78 0 4,oF 79 1 78,oL 80 79,oN 81 80,oK 82 0] (.blk 2 (.loop ni))) nk)
def uM:SC:=Uj (sQ [oF 15 0 1,oL 16 15,TF 17 .lss 16 1,oM 18 17,TQ 19 18 false 0 1,TP 20 18 false 19,TT 21 18 false .gtr 20 60,TL 22 18 21,oM 23 22,TQ 24 23 false 1 1,TP 25 23 false 24,TU 26 23 false 25,TT 27 23 false .lss 26 1,TL 28 23 27,oM 29 28,TQ 30 29 false 1 1,TP 31 29 false 30,TU 32 29 false 31,TT 33 29 false .gtr 32 8,TL 34 29 33] (Ui 34 (sQ [o 35 (.build [Uk 0,.nils,.nils,.nils,.nils] [] []),TJ 5 2 35,oK 3 50] (.ret)) (.skip))) (Uj (.feet [0,0,2,6,14,0,32,96,224,511,0,2047] [TG 36 2 1,oF 37 1 1,oL 38 37,oN 39 38,o 40 (.mks 1 8 [Uk 0] (.t 39) (.t 39)),oF 41 1 1,oL 42 41,oN 43 42,o 44 (.mks 1 8 [Um 0] (.t 43) (.t 43)),o 45 (.build [Uk 0,.nils,.nils,.nils,.nils] [(0,2),(2,1),(3,1)] [.t 36,.t 40,.t 44]),o 4 (.alloc [Uk 0,.nils,.nils,.nils,.nils]),TJ 5 4 45]) (sQ [oK 5 1] (Uj (sQ [oF 46 0 4,oF 47 1 46,oL 48 47,oN 49 48,oK 50 0] (.blk 0 (.loop nf))) tg)))
def lE:SF:=⟨140,[.cell true 5 2,.tm 3],sQ [Ud 1 0,o 2 (.alloc [Uk 0,.nils,.nils,.nils,.nils]),oK 3 0] uM⟩
def eD:SC:=sQ [o 5 (.mkf 132 [] [.t 2,.t 3]),oM 4 5] (.ret)
def cN:SF:=⟨6,[.tm 4],sQ [Ud 2 0,Ud 3 1,o 4 (.mv (.k (.nilf)))] eD⟩
def uO:SC:=Uj (sQ [oM 6 5,oM 7 0,oN 8 7,TE 9 .lss 6 8] (Uh 9 0)) (Uj (.blk 1 (Uj (.quiet [oM 12 0,oM 13 5,oX 14 12 13,oL 15 14,TF 16 .lss 15 0,oM 17 16,TO 18 17 false 0,TO 19 17 false 5,Ua 20 17 false 1 18 19,TP 21 17 false 20,TO 22 17 false 1,TS 23 17 false .geq 21 22,TL 24 17 23,oM 25 24,TO 26 25 false 5,TT 27 25 false .gtr 26 0,TO 28 25 false 27,TO 29 28 true 0,TO 30 28 true 5,Ua 31 28 true 1 29 30,TP 32 28 true 31,TO 33 28 true 0,TO 34 28 true 5,TT 35 28 true .sub 34 1,Ua 36 28 true 1 33 35,TP 37 28 true 36,TS 38 28 true .leq 32 37,og 39 25 false (.pick (.t 28) (.t 38) (.k (.bool false))),TL 40 25 39]) (Ui 40 (sQ [T6 4 false] (.ret)) (.skip)))) (Uf 10 5 11 10 5 11))
def mA:SC:=sQ [T6 4 true] (.ret)
def lG:SF:=⟨41,[.tm 4],sQ [T6 4 false] (Uj (sQ [oK 5 0] (.blk 0 (.loop uO))) mA)⟩
def tR:SC:=Uj (sQ [oM 4 3,oM 5 0,oN 6 5,TE 7 .lss 4 6] (Uh 7 0)) (Uj (.blk 1 (sQ [oM 10 0,oM 11 0,oM 12 3,oX 13 11 12,oL 14 13,T2 15 151 10 14,oM 16 3,T2 17 97 15 16] (Ui 17 (sQ [T6 2 false] (.ret)) (.skip)))) (Uf 8 3 9 8 3 9))
def lI:SC:=sQ [T6 2 true] (.ret)
def jT:SF:=⟨18,[.tm 2],sQ [T6 2 false] (Uj (sQ [oK 3 0] (.blk 0 (.loop tR))) lI)⟩
def qA:SC:=Uj (sQ [oM 14 6,oF 15 1 1,oL 16 15,oM 17 4,TN 18 3 16 17,oF 19 1 18,oL 20 19,oN 21 20,TE 22 .lss 14 21] (Uh 22 2)) (Uj (.blk 3 (.ops [oM 25 5,oF 26 1 1,oL 27 26,oM 28 4,TN 29 3 27 28,oF 30 1 29,oL 31 30,oM 32 6,oX 33 31 32,oL 34 33,T_ 35 .u64 34,o 36 (.bin .shl (.k (Um 1)) (.t 35)),TE 37 .or 25 36,oM 5 37])) (Uf 23 6 24 23 6 24))
def iQ:SC:=.ops [oM 38 3,oM 39 5,o 40 (.bsl 1 1 [Um 0] [0] [.t 39]),T5 41 1 8 38 40,oM 3 41]
def qD:SC:=Uf 12 4 13 12 4 13
def qC:SC:=Uj (sQ [oM 7 4,oF 8 1 1,oL 9 8,oN 10 9,TE 11 .lss 7 10] (Uh 11 0)) (Uj (.blk 1 (sQ [o 5 (.mv (.k (Um 0)))] (Uj (sQ [oK 6 0] (.blk 2 (.loop qA))) iQ))) qD)
def iS:SC:=sQ [oM 42 3,oM 2 42] (.ret)
def jB:SC:=sQ [T7 3] (Uj (sQ [oK 4 0] (.blk 0 (.loop qC))) iS)
def gx:SF:=⟨43,[.tm 2],sQ [Ud 1 0,T7 2] jB⟩
def uP:SC:=Uj (sQ [oM 13 6,TF 14 .geq 13 0] (Uh 14 0)) (Uj (.blk 1 (sQ [oM 17 5,oM 18 6,oM 19 1,oM 20 0,oM 21 6,oX 22 20 21,oL 23 22,TE 24 .rem 19 23,oX 25 17 18,TJ 1 25 24] (.ops [oM 26 1,oM 27 0,oM 28 6,oX 29 27 28,oL 30 29,TE 31 .quo 26 30,oM 1 31]))) (.ops [oM 15 6,TF 16 .sub 15 1,oM 6 16]))
def mB:SC:=sQ [oM 32 5,oM 4 32] (.ret)
def lH:SF:=⟨33,[.tm 4],sQ [T7 4] (sQ [oM 7 0,oN 8 7,o 9 (.mks 1 8 [Uk 0] (.t 8) (.t 8)),oM 5 9] (Uj (sQ [oM 10 0,oN 11 10,TF 12 .sub 11 1,oM 6 12] (.blk 0 (.loop uP))) mB))⟩
def tj:SC:=Uj (.quiet [oF 7 1 3,oL 8 7,oM 9 1,TN 10 3 8 9,oF 11 2 10,oL 12 11,TG 13 2 3,oM 14 1,T2 15 31 13 14,oM 16 2,oF 17 1 3,oL 18 17,oM 19 1,TN 20 3 18 19,oF 21 1 20,oL 22 21,T2 23 72 16 22,T2 24 152 15 23,oX 25 12 24,oL 26 25,oM 6 26]) (.ret)
def q8:SF:=⟨27,[.tm 6],sQ [Ud 3 0,T7 6] tj⟩
def gO:SC:=.ops [oA 65 40,oM 40 65]
def dw:SC:=sQ [TE 41 .lss 40 39] (Uj (Uh 41 0) (Uj (.blk 1 (sQ [oM 42 40,oX 43 38 40,oL 44 43,oM 10 42,oM 11 44] (Uj (.feet [0,1,0,4,0,28,60,124,255,511,1023] [oF 45 1 8,oL 46 45,oF 47 2 2,oL 48 47,oM 49 11,oX 50 48 49,oL 51 50,Ub 52 51,T5 53 1 8 46 52,oF 54 1 8,TJ 1 54 53]) (sQ [oM 55 10,oM 56 6,TE 57 .gtr 55 56] (Ui 57 (.feet [0,0,2,0,14,30,63,127] [oL 58 9,oF 59 2 2,oL 60 59,oM 61 11,oX 62 60 61,oL 63 62,TE 64 .mul 58 63,TJ 1 9 64]) (.skip)))))) gO))
def du:SC:=sQ [oM 12 76] (.ops [oM 13 77])
def dz:SC:=sQ [TE 81 .lss 80 79] (Uj (Uh 81 4) (Uj (.blk 5 (sQ [oM 82 80,oX 83 78 80,oL 84 83,oM 14 82,oM 15 84] (.feet [0,1,0,0,12,0,32,124,0,508,0,2044,0,0,12288,32764,0,131071,262143] [oF 85 2 8,oL 86 85,oM 87 12,oL 88 9,TE 89 .quo 87 88,oF 90 0 5,oL 91 90,TE 92 .mul 89 91,oM 93 14,TE 94 .add 92 93,oL 95 9,TE 96 .mul 94 95,oM 97 12,oL 98 9,TE 99 .rem 97 98,TE 100 .add 96 99,oM 101 15,oX 102 86 100,TJ 1 102 101]))) (.ops [oA 103 80,oM 80 103])))
def dA:SC:=.blk 3 (sQ [oM 78 13,oN 79 78,oK 80 0] (.blk 4 (.loop dz)))
def gP:SC:=sQ [TG 104 3 8,TJ 3 4 104] (.ret)
def gQ:SC:=sQ [oF 66 2 5,oL 67 66,oN 68 67,oF 69 0 5,oL 70 69,TE 71 .mul 68 70,o 72 (.mks 1 8 [Uk 0] (.t 71) (.t 71)),oF 73 2 8,TJ 1 73 72] (Uj (sQ [TG 74 3 5,T0 75 156 74] (.blk 2 (.rng 105 (.t 75) [76,77] du dA))) gP)
def ii:SC:=sQ [oF 16 0 2,oF 17 1 16,oL 18 17,oM 19 1,TN 20 3 18 19,TG 21 3 20,o 5 (.alloc [Uk 0,.nils,.nils]),TJ 3 5 21] (sQ [oF 23 1 5,oL 24 23,oM 25 1,T2 26 153 24 25,oM 22 26,TH 27 22 0,TH 28 22 1,oM 6 27,oM 7 28] (sQ [oF 29 1 5,oL 30 29,T0 31 155 30,oM 32 6,oM 33 1,Ub 34 33,T3 35 154 31 32 34,o 36 (.build [.nils,.nils,.nils] [(0,1)] [.t 35]),o 8 (.alloc [.nils,.nils,.nils]),TJ 3 8 36] (sQ [o 9 (.alloc [Uk 0]),oz (.store 1 (.t 9) (qI 1))] (Uj (sQ [oF 37 0 8,oL 38 37,oN 39 38,oK 40 0] (.blk 0 (.loop dw))) gQ))))
def eQ:SF:=⟨105,[.cell true 3 4],sQ [Ud 2 0,o 4 (.alloc [.nils,.nils,.nils])] ii⟩
def gS:SC:=sQ [TE 17 .lss 16 15] (Uj (Uh 17 0) (Uj (.blk 1 (sQ [oX 18 14 16,oL 19 18,oM 7 19] (.ops [oM 20 5,oF 21 2 2,oL 22 21,oM 23 7,oX 24 22 23,oL 25 24,TE 26 .mul 20 25,oM 5 26]))) (.ops [oA 27 16,oM 16 27])))
def gR:SC:=.ops [oM 9 36]
def dB:SC:=sQ [TE 43 .lss 42 41] (Uj (Uh 43 4) (Uj (.blk 5 (sQ [oX 44 40 42,oL 45 44,oM 12 45] (Uj (sQ [oM 46 12,TF 47 .lss 46 0,oM 48 47,TO 49 48 false 12,TO 50 48 false 10,TS 51 48 false .gtr 49 50,TL 52 48 51] (Ui 52 (sQ [oz (.store 1 (.t 4) (.k (.bool false)))] (.ret)) (.skip))) (.ops [oM 53 10,oM 54 12,TE 55 .sub 53 54,oM 10 55])))) (.ops [oA 56 42,oM 42 56])))
def cg:SC:=sQ [oM 57 9,oN 58 57,oF 59 0 3,oL 60 59,TE 61 .neq 58 60,oM 62 61,TO 63 62 false 10,TT 64 62 false .neq 63 0,TL 65 62 64] (Ui 65 (sQ [oz (.store 1 (.t 4) (.k (.bool false)))] (.ret)) (.skip))
def gT:SC:=.blk 3 (sQ [oF 37 0 2,oF 38 0 37,oL 39 38,oM 10 39] (Uj (sQ [oM 40 9,oN 41 40,oK 42 0] (.blk 4 (.loop dB))) cg))
def gU:SC:=sQ [oz (.store 1 (.t 4) (.k (.bool true)))] (.ret)
def gV:SC:=Uj (sQ [oF 28 2 3,oL 29 28,oN 30 29,oM 31 5,TE 32 .neq 30 31] (Ui 32 (sQ [oz (.store 1 (.t 4) (.k (.bool false)))] (.ret)) (.skip))) (Uj (sQ [TG 33 3 3,T0 34 156 33] (.blk 2 (.rng 66 (.t 34) [35,36] gR gT))) gU)
def ij:SC:=sQ [oK 5 1] (Uj (sQ [oF 13 1 3,oL 14 13,oN 15 14,oK 16 0] (.blk 0 (.loop gS))) gV)
def eR:SF:=⟨66,[.cell false 1 4],sQ [Ud 2 0,Ud 3 1,o 4 (.alloc [.bool false])] ij⟩
def p_:SC:=sQ [TE 19 .lss 18 17] (Uj (Uh 19 2) (Uj (.blk 3 (sQ [oM 20 18,oX 21 16 18,oL 22 21,oM 6 20,oM 7 22] (sQ [oM 23 5,oM 24 6,TE 25 .shr 23 24,T8 26 .and 25 .u64 1,T8 27 .eql 26 .u64 0,oM 28 27,TO 29 28 true 7,TO 30 28 true 5,TS 31 28 true .andNot 29 30,og 32 28 true (.bin .eql (.t 31) (.k (Um 0))),TM 33 28 32] (Ui 33 (sQ [oM 34 4,oM 35 6,Ub 36 35,T5 37 1 8 34 36,oM 4 37] (sQ [oM 38 5,oM 39 6,o 40 (.bin .shl (.k (Um 1)) (.t 39)),TE 41 .or 38 40,oM 5 41] (.exit 1))) (.skip))))) (.ops [oA 42 18,oM 18 42])))
def qb:SC:=sQ [T7 2,T6 3 false] (.ret)
def qa:SC:=Uj (sQ [oM 11 4,oN 12 11,oM 13 0,oN 14 13,TE 15 .lss 12 14] (Uh 15 0)) (.blk 1 (Uj (sQ [oM 16 0,oN 17 16,oK 18 0] (.blk 2 (.loop p_))) qb))
def qc:SC:=sQ [oM 43 4,oM 2 43,T6 3 true] (.ret)
def pt:SF:=⟨44,[.tm 2,.tm 3],sQ [T7 2,T6 3 false] (sQ [oM 8 0,oN 9 8,o 10 (.mks 1 8 [Uk 0] (qI 0) (.t 9)),oM 4 10,o 5 (.mv (.k (Um 0)))] (Uj (.skip) (Uj (.blk 0 (.loop qa)) qc)))⟩
def bo:SC:=Uj (Uj (.quiet [oM 31 6,TF 32 .geq 31 0,oM 33 32,TO 34 33 true 4,TO 35 33 true 6,Ua 36 33 true 1 34 35,TP 37 33 true 36,TQ 38 33 true 0 1,TQ 39 33 true 1 38,TP 40 33 true 39,TO 41 33 true 6,Ua 42 33 true 3 40 41,TQ 43 33 true 0 42,TP 44 33 true 43,TT 45 33 true .sub 44 1,TS 46 33 true .eql 37 45,TM 47 33 46]) (Uh 47 2)) (.blk 3 (sQ [oM 48 4,oM 49 6,oX 50 48 49,oz (.store 1 (.t 50) (qI 0))] (.ops [oM 51 6,TF 52 .sub 51 1,oM 6 52])))
def bp:SC:=Uj (sQ [oM 53 6,TF 54 .lss 53 0] (Ui 54 (.ret) (.skip))) (.ops [oM 55 4,oM 56 6,oX 57 55 56,oL 58 57,oA 59 58,oX 60 55 56,TJ 1 60 59])
def bQ:SC:=Uf 12 5 13 12 5 13
def dl:SC:=Uj (.blk 1 (Uj (sQ [oM 14 4,oL 15 2,T2 16 133 14 15,oM 17 16,TO 18 17 true 0,TO 19 17 true 5,og 20 17 true (.load true 4 (.t 1)),TO 21 17 true 4,og 22 17 true (.call 134 [.t 20,.t 21]),TO 23 17 true 4,og 24 17 true (.build [Uk 0,Uk 0,.nils] [(0,1),(1,1),(2,1)] [.t 19,.t 22,.t 23]),og 25 17 true (.dyn (.t 18) [.t 24]),og 26 17 true (.not (.t 25)),TM 27 17 26] (Ui 27 (.ret) (.skip))) (sQ [oM 28 4,oN 29 28,TF 30 .sub 29 1,oM 6 30] (Uj (.blk 2 (.loop bo)) bp)))) bQ
def aG:SF:=⟨61,[],sQ [oF 7 0 1,oF 8 1 7,oL 9 8,oN 10 9,o 11 (.mks 1 8 [Uk 0] (.t 10) (.t 10)),oM 4 11] (sQ [oK 5 0] (.blk 0 (.loop dl)))⟩
def lD:SC:=sQ [TE 11 .lss 10 9] (Uj (Uh 11 0) (Uj (.blk 1 (sQ [oM 12 10,oX 13 8 10,oL 14 13,oM 6 12,oM 7 14] (sQ [oM 15 7] (.blk 2 (Uj (sQ [TF 17 .eql 15 (-1),oM 16 17] (Ui 16 (.skip) (.ops [oM 18 0,oM 19 6,oX 20 18 19,oL 21 20,TE 22 .eql 15 21,oM 16 22]))) (Ui 16 (.skip) (sQ [T6 5 false] (.exit 0)))))))) (.ops [oA 23 10,oM 10 23])))
def gn:SC:=sQ [oM 24 5,oM 4 24] (.ret)
def jP:SF:=⟨25,[.tm 4],sQ [T6 4 false] (sQ [T6 5 true] (Uj (.skip) (Uj (sQ [oM 8 1,oN 9 8,oK 10 0] (.blk 0 (.loop lD))) gn)))⟩
def cH:SC:=sQ [TE 23 .lss 22 21] (Uj (Uh 23 2) (Uj (.blk 3 (sQ [oX 24 20 22,oL 25 24,oM 10 25] (.quiet [oM 26 8,oM 27 1,oM 28 10,oX 29 27 28,oL 30 29,oF 31 3 2,oL 32 31,oM 33 6,oX 34 32 33,oL 35 34,oM 36 10,oX 37 35 36,oL 38 37,TE 39 .mul 30 38,TE 40 .add 26 39,oM 8 40]))) (.ops [oA 41 22,oM 22 41])))
def eM:SC:=.ops [oM 42 5,oF 43 2 7,oL 44 43,oM 45 8,oX 46 44 45,oL 47 46,TE 48 .mul 42 47,oM 5 48]
def eN:SC:=.ops [oA 49 14,oM 14 49]
def eL:SC:=sQ [TE 15 .lss 14 13] (Uj (Uh 15 0) (Uj (.blk 1 (sQ [oM 16 14,TN 17 3 12 14,TG 18 3 17,o 7 (.alloc [.nils,.nils,.nils]),oM 6 16,TJ 3 7 18] (sQ [oK 8 0] (Uj (sQ [oF 19 0 7,oL 20 19,oN 21 20,oK 22 0] (.blk 2 (.loop cH))) eM)))) eN))
def eO:SC:=sQ [oM 50 5,oM 4 50] (.ret)
def fI:SC:=sQ [oK 5 1] (Uj (sQ [oF 11 2 2,oL 12 11,oN 13 12,oK 14 0] (.blk 0 (.loop eL))) eO)
def dm:SF:=⟨51,[.tm 4],sQ [Ud 2 0,oK 4 0] fI⟩
def Ay:SC:=Uf 17 6 18 17 6 18
def Aw:SC:=Uj (sQ [oM 13 6,oM 14 0,oN 15 14,TE 16 .lss 13 15] (Uh 16 2)) (Uj (.blk 3 (sQ [oM 19 1,oM 20 6,T2 21 97 19 20] (Ui 21 (.ops [oM 22 1,oM 23 0,oM 24 6,oX 25 23 24,oL 26 25,TE 27 .or 22 26,oM 1 27]) (.skip)))) Ay)
def Az:SC:=Uf 11 5 12 11 5 12
def Ax:SC:=Uj (sQ [oM 7 5,oM 8 0,oN 9 8,TE 10 .lss 7 9] (Uh 10 0)) (Uj (.blk 1 (sQ [oK 6 0] (.blk 2 (.loop Aw)))) Az)
def tk:SC:=sQ [oM 28 1,oM 4 28] (.ret)
def tT:SF:=⟨29,[.tm 4],sQ [o 4 (.mv (.k (Um 0)))] (Uj (sQ [oK 5 0] (.blk 0 (.loop Ax))) tk)⟩
def v_:SC:=Uj (sQ [oM 11 7,TF 12 .geq 11 0] (Uh 12 0)) (Uj (.blk 1 (sQ [oM 15 5,oM 16 1,oM 17 7,oX 18 16 17,oL 19 18,oM 20 6,TE 21 .mul 19 20,TE 22 .add 15 21,oM 5 22] (.ops [oM 23 6,oM 24 0,oM 25 7,oX 26 24 25,oL 27 26,TE 28 .mul 23 27,oM 6 28]))) (.ops [oM 13 7,TF 14 .sub 13 1,oM 7 14]))
def od:SC:=sQ [oM 29 5,oM 4 29] (.ret)
def nm:SF:=⟨30,[.tm 4],sQ [oK 4 0] (sQ [oK 5 0,oK 6 1] (Uj (sQ [oM 8 0,oN 9 8,TF 10 .sub 9 1,oM 7 10] (.blk 0 (.loop v_))) od))⟩
def dC:SC:=Uj (sQ [oM 13 7,oM 14 8,TE 15 .lss 13 14] (Uh 15 0)) (.blk 1 (sQ [oM 16 7,oM 17 8,TE 18 .add 16 17,T_ 19 .u64 18,T8 20 .shr 19 .u64 1,T_ 21 .i64 20,oM 9 21] (sQ [oM 22 0,oM 23 9,oX 24 22 23,oL 25 24,oM 26 1,T2 27 165 25 26] (Ui 27 (Uf 28 9 29 28 7 29) (.ops [oM 30 9,oM 8 30])))))
def dD:SC:=sQ [oM 31 7,oM 32 7,oM 33 6,TE 34 .lss 32 33,oM 35 34,TO 36 35 true 0,TO 37 35 true 7,Ua 38 35 true 1 36 37,TP 39 35 true 38,TO 40 35 true 1,TS 41 35 true .eql 39 40,TO 42 35 true 41,TO 43 42 false 0,TO 44 42 false 7,Ua 45 42 false 1 43 44,TP 46 42 false 45,og 47 42 false (.call 166 [.t 46]),TO 48 42 false 47,TO 49 48 true 1,og 50 48 true (.call 166 [.t 49]),og 51 42 false (.pick (.t 48) (.t 50) (.k (.bool false))),og 52 35 true (.pick (.t 42) (.k (.bool true)) (.t 51)),TM 53 35 52,oM 4 31,oM 5 53] (.ret)
def cB:SF:=⟨54,[.tm 4,.tm 5],sQ [oK 4 0,T6 5 false] (sQ [oM 10 0,oN 11 10,oM 6 11] (sQ [oM 12 6,oK 7 0,oM 8 12] (Uj (.blk 0 (.loop dC)) dD)))⟩
def cW:SF:=⟨8,[.tm 2],sQ [T7 2] (Uj (sQ [oM 3 0,o 4 (.eq false .slice (.t 3) (.k (.nils)))] (Ui 4 (sQ [T7 2] (.ret)) (.skip))) (sQ [o 5 (.bsl 1 0 [Uk 0] [] []),oM 6 0,T5 7 1 8 5 6,oM 2 7] (.ret)))⟩
def uN:SC:=sQ [o 3 (.mkf 169 [] [.t 1]),oM 2 3] (.ret)
def tP:SF:=⟨4,[.tm 2],sQ [Ud 1 0,o 2 (.mv (.k (.nilf)))] uN⟩
def m_:SF:=⟨17,[.tm 4],sQ [T6 4 false] (sQ [oM 5 0,T0 6 172 5,oM 7 6,TO 8 7 true 1,og 9 7 true (.call 172 [.t 8]),og 10 7 true (.not (.t 9)),TM 11 7 10,oM 12 11,TO 13 12 false 0,TO 14 12 false 1,TS 15 12 false .lss 13 14,TL 16 12 15,oM 4 16] (.ret))⟩
def iv:SF:=⟨6,[.tm 2],sQ [T6 2 false] (sQ [oM 3 0,oM 4 0,TE 5 .neq 3 4,oM 2 5] (.ret))⟩
def pZ:SC:=sQ [TE 9 .lss 8 7] (Uj (Uh 9 0) (Uj (.blk 1 (sQ [oM 10 8,oX 11 6 8,oL 12 11,oM 3 10,oM 4 12] (sQ [oM 13 0,oM 14 3,oM 15 4,o 16 (.dyn (.t 13) [.t 14,.t 15]),T9 17 16] (Ui 17 (.ret) (.skip))))) (.ops [oA 18 8,oM 8 18])))
def fB:SF:=⟨19,[],sQ [oF 5 2 1,oL 6 5,oN 7 6,oK 8 0] (.blk 0 (.loop pZ))⟩
def lA:SF:=⟨6,[.tm 2],sQ [T6 2 false] (sQ [oM 3 0,oM 4 0,TE 5 .neq 3 4,oM 2 5] (.ret))⟩
theorem qu[XOc]:nFn C0 4=some eP:=by kernel_rfl
theorem tM[XOc]:nFn C0 7=some iq:=by kernel_rfl
@[reducible] def TY[XOc](f:Nat):Prop:=∀(d:Nat)(xs:List AV)(g:G),aq C0 d f xs g=ah (I C0) d g f xs
@[reducible] def TZ[XOc](f:Nat):Prop:=∀(t:T)(g:G)(xs:List Od),SO.foot C0 t g (.call f xs)=ak ((eI t xs).flatMap (aH g.h aD))
theorem qJ[XOc]:TY 7:=λ_ _ _=>by kernel_rfl
theorem yV[XOc]:nFn C0 8=some nz:=by kernel_rfl
theorem vP[XOc]:TY 8:=λ_ _ _=>by kernel_rfl
theorem uL[XOc]:nFn C0 9=some i4:=by kernel_rfl
theorem sV[XOc]:TY 9:=λ_ _ _=>by kernel_rfl
theorem v7[XOc]:nFn C0 10=some jU:=by kernel_rfl
theorem tD[XOc]:TY 10:=λ_ _ _=>by kernel_rfl
theorem vY[XOc]:nFn C0 19=some jQ:=by kernel_rfl
theorem xp[XOc]:nFn C0 20=some lU:=by kernel_rfl
theorem uC[XOc]:TY 20:=λ_ _ _=>by kernel_rfl
theorem Am[XOc]:nFn C0 21=some pq:=by kernel_rfl
theorem wW[XOc]:TY 21:=λ_ _ _=>by kernel_rfl
theorem lz[XOc]:nFn C0 29=some cP:=by kernel_rfl
theorem jW[XOc]:TZ 29:=λ_ _ _=>by kernel_rfl
theorem jM[XOc]:TY 29:=λ_ _ _=>by kernel_rfl
theorem Ap[XOc]:nFn C0 30=some px:=by kernel_rfl
theorem wY[XOc]:TY 30:=λ_ _ _=>by kernel_rfl
theorem qQ[XOc]:nFn C0 31=some fN:=by kernel_rfl
theorem pc[XOc]:TY 31:=λ_ _ _=>by kernel_rfl
theorem B1[XOc]:nFn C0 32=some q9:=by kernel_rfl
theorem y6[XOc]:TZ 32:=λ_ _ _=>by kernel_rfl
theorem yB[XOc]:TY 32:=λ_ _ _=>by kernel_rfl
theorem Au[XOc]:nFn C0 33=some pB:=by kernel_rfl
theorem xx[XOc]:TZ 33:=λ_ _ _=>by kernel_rfl
theorem xe[XOc]:TY 33:=λ_ _ _=>by kernel_rfl
theorem uJ[XOc]:nFn C0 36=some iZ:=by kernel_rfl
theorem lr[XOc]:nFn C0 38=some cO:=by kernel_rfl
theorem yW[XOc]:nFn C0 43=some nA:=by kernel_rfl
theorem vQ[XOc]:TY 43:=λ_ _ _=>by kernel_rfl
theorem tL[XOc]:nFn C0 56=some im:=by kernel_rfl
theorem tK[XOc]:nFn C0 57=some il:=by kernel_rfl
theorem pj[XOc]:nFn C0 58=some eo:=by kernel_rfl
theorem fX[XOc](t:T)(g:G)(xs:List Od):SO.foot C0 t g (.call 58 xs)=cA:=by kernel_rfl
theorem m6[XOc](d:Nat)(xs:List AV)(g:G):aq C0 d 58 xs g=orF ((I C0).call d 58 xs g):=by kernel_rfl
theorem uI[XOc]:nFn C0 59=some bS:=by kernel_rfl
theorem s8[XOc]:TZ 59:=λ_ _ _=>by kernel_rfl
theorem sT[XOc]:TY 59:=λ_ _ _=>by kernel_rfl
theorem As[XOc]:nFn C0 60=some cV:=by kernel_rfl
theorem xa[XOc]:TY 60:=λ_ _ _=>by kernel_rfl
theorem Aq[XOc]:nFn C0 61=some py:=by kernel_rfl
theorem xu[XOc]:TZ 61:=λ_ _ _=>by kernel_rfl
theorem wZ[XOc]:TY 61:=λ_ _ _=>by kernel_rfl
theorem Ar[XOc]:nFn C0 62=some pz:=by kernel_rfl
theorem w_[XOc]:TY 62:=λ_ _ _=>by kernel_rfl
theorem At[XOc]:nFn C0 63=some pA:=by kernel_rfl
theorem xw[XOc]:TZ 63:=λ_ _ _=>by kernel_rfl
theorem xd[XOc]:TY 63:=λ_ _ _=>by kernel_rfl
theorem BY[XOc]:nFn C0 66=some qS:=by kernel_rfl
theorem yy[XOc]:TY 66:=λ_ _ _=>by kernel_rfl
theorem pi[XOc]:nFn C0 68=some ej:=by kernel_rfl
theorem mZ[XOc]:TY 68:=λ_ _ _=>by kernel_rfl
theorem qP[XOc]:nFn C0 71=some fL:=by kernel_rfl
theorem o_[XOc]:TY 71:=λ_ _ _=>by kernel_rfl
theorem De[XOc]:nFn C0 72=some tQ:=by kernel_rfl
theorem Ag[XOc]:TY 72:=λ_ _ _=>by kernel_rfl
theorem yT[XOc]:nFn C0 73=some np:=by kernel_rfl
theorem vN[XOc]:TY 73:=λ_ _ _=>by kernel_rfl
theorem BZ[XOc]:nFn C0 75=some qX:=by kernel_rfl
theorem yz[XOc]:TY 75:=λ_ _ _=>by kernel_rfl
theorem qO[XOc]:nFn C0 76=some fJ:=by kernel_rfl
theorem o8[XOc]:TY 76:=λ_ _ _=>by kernel_rfl
theorem Al[XOc]:nFn C0 78=some po:=by kernel_rfl
theorem wV[XOc]:TY 78:=λ_ _ _=>by kernel_rfl
theorem pk[XOc]:nFn C0 79=some eA:=by kernel_rfl
theorem m7[XOc](d:Nat)(xs:List AV)(g:G):aq C0 d 79 xs g=orF ((I C0).call d 79 xs g):=by kernel_rfl
theorem js[XOc]:nFn C0 89=some cx:=by kernel_rfl
theorem uH[XOc]:nFn C0 90=some iY:=by kernel_rfl
theorem sS[XOc]:TY 90:=λ_ _ _=>by kernel_rfl
theorem yU[XOc]:nFn C0 91=some nq:=by kernel_rfl
theorem vO[XOc]:TY 91:=λ_ _ _=>by kernel_rfl
theorem uK[XOc]:nFn C0 92=some fC:=by kernel_rfl
theorem sU[XOc]:TY 92:=λ_ _ _=>by kernel_rfl
theorem xn[XOc]:nFn C0 93=some lQ:=by kernel_rfl
theorem uB[XOc]:TY 93:=λ_ _ _=>by kernel_rfl
theorem v8[XOc]:nFn C0 94=some jV:=by kernel_rfl
theorem tE[XOc]:TY 94:=λ_ _ _=>by kernel_rfl
theorem xk[XOc]:nFn C0 95=some lO:=by kernel_rfl
theorem uz[XOc]:TY 95:=λ_ _ _=>by kernel_rfl
theorem xl[XOc]:nFn C0 96=some lP:=by kernel_rfl
theorem uA[XOc]:TY 96:=λ_ _ _=>by kernel_rfl
theorem Df[XOc]:nFn C0 97=some tS:=by kernel_rfl
theorem Ah[XOc]:TY 97:=λ_ _ _=>by kernel_rfl
theorem xq[XOc]:nFn C0 98=some lV:=by kernel_rfl
theorem uD[XOc]:TY 98:=λ_ _ _=>by kernel_rfl
theorem yR[XOc]:nFn C0 104=some nc:=by kernel_rfl
theorem vL[XOc]:TY 104:=λ_ _ _=>by kernel_rfl
theorem Dc[XOc]:nFn C0 105=some lE:=by kernel_rfl
theorem Ae[XOc]:TY 105:=λ_ _ _=>by kernel_rfl
theorem lq[XOc]:nFn C0 106=some cN:=by kernel_rfl
theorem jL[XOc]:TY 106:=λ_ _ _=>by kernel_rfl
theorem xh[XOc]:nFn C0 123=some lG:=by kernel_rfl
theorem ux[XOc]:TY 123:=λ_ _ _=>by kernel_rfl
theorem vZ[XOc]:nFn C0 124=some jT:=by kernel_rfl
theorem tC[XOc]:TY 124:=λ_ _ _=>by kernel_rfl
theorem sW[XOc]:nFn C0 125=some gx:=by kernel_rfl
theorem qt[XOc]:TY 125:=λ_ _ _=>by kernel_rfl
theorem xi[XOc]:nFn C0 126=some lH:=by kernel_rfl
theorem uy[XOc]:TY 126:=λ_ _ _=>by kernel_rfl
theorem B0[XOc]:nFn C0 127=some q8:=by kernel_rfl
theorem yA[XOc]:TY 127:=λ_ _ _=>by kernel_rfl
theorem qv[XOc]:nFn C0 129=some eQ:=by kernel_rfl
theorem nS[XOc]:TY 129:=λ_ _ _=>by kernel_rfl
theorem qw[XOc]:nFn C0 130=some eR:=by kernel_rfl
theorem nT[XOc]:TY 130:=λ_ _ _=>by kernel_rfl
theorem Ao[XOc]:nFn C0 131=some pt:=by kernel_rfl
theorem wX[XOc]:TY 131:=λ_ _ _=>by kernel_rfl
theorem jN[XOc]:nFn C0 132=some aG:=by kernel_rfl
theorem vX[XOc]:nFn C0 133=some jP:=by kernel_rfl
theorem tB[XOc]:TY 133:=λ_ _ _=>by kernel_rfl
theorem m9[XOc]:nFn C0 134=some dm:=by kernel_rfl
theorem lp[XOc]:TY 134:=λ_ _ _=>by kernel_rfl
theorem Dg[XOc]:nFn C0 151=some tT:=by kernel_rfl
theorem Ai[XOc]:TY 151:=λ_ _ _=>by kernel_rfl
theorem yS[XOc]:nFn C0 152=some nm:=by kernel_rfl
theorem vM[XOc]:TY 152:=λ_ _ _=>by kernel_rfl
theorem jO[XOc]:nFn C0 153=some cB:=by kernel_rfl
theorem iW[XOc]:TY 153:=λ_ _ _=>by kernel_rfl
theorem qz[XOc]:nFn C0 155=some cW:=by kernel_rfl
theorem nU[XOc](d:Nat)(xs:List AV)(g:G):aq C0 d 155 xs g=orF ((I C0).call d 155 xs g):=by kernel_rfl
theorem Dd[XOc]:nFn C0 156=some tP:=by kernel_rfl
theorem Af[XOc]:TY 156:=λ_ _ _=>by kernel_rfl
theorem yQ[XOc]:nFn C0 165=some m_:=by kernel_rfl
theorem vK[XOc]:TY 165:=λ_ _ _=>by kernel_rfl
theorem tN[XOc]:nFn C0 166=some iv:=by kernel_rfl
theorem qK[XOc]:TY 166:=λ_ _ _=>by kernel_rfl
theorem An[XOc]:nFn C0 169=some fB:=by kernel_rfl
theorem xg[XOc]:nFn C0 172=some lA:=by kernel_rfl
theorem uw[XOc]:TY 172:=λ_ _ _=>by kernel_rfl
@[reducible] def TX(l:List Bool):List Bool:=false::false::l
@[reducible] def TW(l:List Bool):List Bool:=false::false::false::false::l
@[reducible] def TV(l:List Bool):List Bool:=false::false::false::false::false::false::false::false::l
theorem pV{α:Type}{f:Nat->α->Nat->α->Bool}{i:Nat}{x:α}:∀{l:List α} {j:Nat},(∀b y,l[b]?=some y->f i x (j+b) y=true)->fq f i x j l=true
 |[],_,_=>rfl
 | y::r,j,h=>by simp only[fq,Qy];refine⟨by simpa using h 0 y rfl,pV λb z hb=>?_⟩;have:=h (b+1) z (by simpa using hb);rwa [show j+(b+1)=j+1+b by omega]at this
theorem wC{α:Type}{f:Nat->α->Nat->α->Bool}:∀{l:List α} {i:Nat},(∀a b x y,a<b->l[a]?=some x->l[b]?=some y->f (i+a) x (i+b) y=true)->jr f i l=true
 |[],_,_=>rfl
 | x::r,i,h=>by
  simp only[jr,Qy];refine⟨pV λb y hb=>?_,wC λa b x' y hab ha hb=>?_⟩
  ·have:=h 0 (b+1) x y (by omega) rfl (by simpa using hb);rwa [R7,show i+(b+1)=i+1+b by omega]at this
  ·have:=h (a+1) (b+1) x' y (by omega) (by simpa using ha) (by simpa using hb);rwa [show i+(a+1)=i+1+a by omega,show i+(b+1)=i+1+b by omega]at this
theorem wS{pm:List Nat}:∀{l:List Foot} {i:Nat},(∀f∈l,f.lk.sr=[])->rV pm i l=true
 |[],_,_=>rfl
 | x::r,i,h=>by simp only[rV,h x (by simp)];exact wS λf hf=>h f (by simp[hf])
def Kz(pm:List Nat)(ws:List Bool)(L:List (Nat×Nat))(i j:Nat):Bool:=(pm.getD j 0).testBit i || (!(ws.getD i false)&&!(ws.getD j false)) || L.contains (i,j)
def Ml(pm:List Nat)(ws:List Bool)(L:List (Nat×Nat)):Bool:=(List.range ws.length).all λj=>(List.range j).all λi=>Kz pm ws L i j
theorem aJ{pm:List Nat}{fs:List Foot}(ws:List Bool)(L:List (Nat×Nat))(hw:All2 (λ(f:Foot) (w:Bool)=>f.lk.sr=[]/\(w=false->f.wr=[])) fs ws)(hd:Ml pm ws L=true)
  (hL:∀p∈L,∀x y,fs[p.1]?=some x->fs[p.2]?=some y->bM x y=true):mN pm fs=true:=by
 unfold mN;rw[aa,QA]
 ·exact wS λf hf=>by obtain⟨i,hi,rfl⟩:=RU.1 hf;obtain⟨w,-,h⟩:=hw.get (Qu hi);exact h.1
 ·refine wC λa b x y hab ha hb=>?_;simp only[Rc];obtain⟨wa,d,ka⟩:=hw.get ha;obtain⟨wb,k,kb⟩:=hw.get hb;have c:=(Qt.1 k).1;have:=QS.1 (QS.1 hd b (QX.2 c)) a (QX.2 hab);simp only[Kz,Rk]at this;rcases this with (h|h)|h
  ·rw[h,Tx]
  ·simp only[R5,d,k,QC,Qy,RQ]at h;have ex:=ka.2 h.1;have ey:=kb.2 h.2;simp only[bM,iz,fD,ex,ey,S0,Bool.or_true]
  ·rw[hL (a,b) (Sp.1 h) x y ha hb,Bool.or_true]
section
variable {l:List Nat}
structure Mech where
 card:Int
 frm:List Int
 noise:List Int
 out:List Int
structure Causal where
 grain:Int
 roots:List (List Int)
 nodes:List Mech
structure Node where
 card:Int
 parents:List Int
 rows:List (List Int)
structure Net where
 grain:Int
 nodes:List Node
structure Factor where
 vars:List Int
 cards:List Int
 w:List Int
instance : Rp Mech:=Rp.via λm:Mech=>(m.card,m.frm,m.noise,m.out)
instance : Rp Causal:=Rp.via λm:Causal=>(m.grain,m.roots,m.nodes)
instance : Rp Node:=Rp.via λm:Node=>(m.card,m.parents,m.rows)
instance : Rp Net:=Rp.via λm:Net=>(m.grain,m.nodes)
instance : Rp Factor:=Rp.via λm:Factor=>(m.vars,m.cards,m.w)
section
variable {P:Nat->Prop}{k:Nat}{h:H}{cs:List AV}
theorem bV{m:Node}:Rp.rp P k h m cs↔∃a b,cs=[Uk m.card,a,b]/\SlR P k h m.parents a/\SlR P k h m.rows b:=by
 constructor
 ·rintro⟨c1,d,rfl,h1,d1,d2,rfl,⟨a,rfl,h2⟩,⟨b,rfl,c⟩⟩;rw[aI.1 h1];exact⟨a,b,rfl,h2,c⟩
 ·rintro⟨a,b,rfl,h2,c⟩;exact⟨[Uk m.card],[a,b],rfl,aI.2 rfl,[a],[b],rfl,⟨a,rfl,h2⟩,⟨b,rfl,c⟩⟩
theorem dT{m:Net}:Rp.rp P k h m cs↔∃a,cs=[Uk m.grain,a]/\SlR P k h m.nodes a:=by
 constructor
 ·rintro⟨c1,b,rfl,h1,⟨a,rfl,h2⟩⟩;rw[aI.1 h1];exact⟨a,rfl,h2⟩
 ·rintro⟨a,rfl,h2⟩;exact⟨[Uk m.grain],[a],rfl,aI.2 rfl,⟨a,rfl,h2⟩⟩
theorem oY{m:Factor}:Rp.rp P k h m cs↔∃a b c,cs=[a,b,c]/\SlR P k h m.vars a/\SlR P k h m.cards b/\SlR P k h m.w c:=by
 constructor
 ·rintro⟨c1,e,rfl,⟨a,rfl,h2⟩,e1,f,rfl,⟨b,rfl,d⟩,⟨c,rfl,h4⟩⟩;exact⟨a,b,c,rfl,h2,d,h4⟩
 ·rintro⟨a,b,c,rfl,h2,d,h4⟩;exact⟨[a],[b,c],rfl,⟨a,rfl,h2⟩,[b],[c],rfl,⟨b,rfl,d⟩,⟨c,rfl,h4⟩⟩
end
theorem SlR.len{α:Type} [Rp α]{P:Nat->Prop}{k:Nat}{h:H}{l:List α}{v:AV}(r:SlR P k h l v)(g:G):gz .slice v g=.val (Uk (l.length:Int)):=by obtain⟨rows,h1,h2⟩:=r.rows;rw[dG h1,h2.len]
theorem SlR.tree{α:Type} [Rp α]{k k':Nat}{h h':H}{l:List α}{v:AV}(r:SlR NoP k h l v)(hk:k<=k'):SlR NoP k' h' l v:=by obtain⟨w,hw,q⟩:=Rp.tree (P:=NoP) (k':=k') (h':=h') (show Rp.rp NoP k h l [v] from ⟨v,rfl,r⟩) hk;injection hw with hw;subst hw;exact q
theorem bE{α:Type} [Rp α]{P:Nat->Prop}{k:Nat}{h:H}{l:List α}(r:SlR P k h l v)(d:Nat)(hd:Rp.dp (List α)<=20:=by decide) :
  ∃v',Hx.snap h d aD v=some v'/\∀h',SlR NoP (max k d) h' l v':=by
 obtain⟨v',e,w,hw,q⟩:=jK (aU l hd) (by decide) d (show One l P k h v from ⟨v,rfl,r⟩);injection hw with hw;subst hw;exact⟨v',e,λh'=>q.tree (Qv _)⟩
theorem SlR.all{α:Type} [Rp α]{k:Nat}{h:H}{l:List α}(r:SlR NoP k h l v) :
  ∃rows:List (List AV),(∀h',af h' (Rp.sz α) v=some rows)/\rows.length=l.length/\(∀(i:Nat) (x:α),l[i]?=some x->∃row,rows[i]?=some row/\Rp.rp NoP k .nil x row)/\(0<l.length->md v=true):=by
 have r0:=(r.tree (h':=.nil) (Qv _));obtain⟨rows,h1,h2⟩:=r0.rows;refine⟨rows,λh'=>?_,h2.len.symm,λi x hi=>h2.get hi,λhl=>xU h1 (i:=0) (by rw[<-h2.len];exact hl)⟩;rw[<-h1];exact rP λid ep off len lim e=>by subst e;exact r.2.1.elim
abbrev UT (k:Nat)(l:List Nat)(r:AV):Prop:=One l NoP k .nil r
theorem UT.sl{k:Nat}{r:AV}(h:UT k l r)(h':H):SlR NoP k h' l r:=by obtain⟨w,hw,q⟩:=h;injection hw with hw;subst hw;exact q.tree (Qv _)
theorem o5{P:Nat->Prop}{k:Nat}{h:H}(r:SlR P k h l v):∀x∈l,x<18446744073709551616:=by obtain⟨rows,h1,h2⟩:=r.rows;intro x hx;obtain⟨i,hi,e⟩:=RU.1 hx;obtain⟨row,b,h4⟩:=h2.get (i:=i) (a:=x) (by rw[Qu hi,e]);exact (rQ.1 h4).2
theorem Own.nats{g:G}{b:Nat}{k:Nat}(h:Own g b v 1 (l.map cu))(hl:l.length<9223372036854775808)(hb:∀x∈l,x<18446744073709551616):One l (λ_=>True) k g.h v:=by
 refine⟨v,rfl,Own.sl (α:=Nat) h hl ?_ λ_ _=>trivial⟩;clear h hl
 induction l with
 |nil=>trivial
 |cons a l ih=>exact⟨rQ.2 ⟨rfl,hb a (by simp)⟩,ih λx hx=>hb x (by simp[hx])⟩
theorem dj(p:Nat->Bool)(j:Nat):(List.range (j+1)).all p=((List.range j).all p&&p j):=by rw[Sd,List.all_append];simp
theorem gk{p:Nat->Bool}{j n:Nat}(h:j<n)(hp:p j=false):(List.range n).all p=false:=by rw[List.all_eq_false];exact⟨j,QX.2 h,by rw[hp];decide⟩
end
theorem si{C:Cfg}{nt d:Nat}{rd:Option Nat}{c:Code}{t:T}{df:List ADf}{g:G}{Q:QT}(h:wp C d rd (bP C nt c) Q t df g):((I C).code nt d rd c t df g).sat Q:=by rw[EM];exact Lp _ _ _ _ _ h
end
end Hx
