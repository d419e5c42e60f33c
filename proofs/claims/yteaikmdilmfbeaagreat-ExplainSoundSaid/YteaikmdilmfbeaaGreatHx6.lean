/- A part of the proof: what the functions of the chapter compute. -/
import Derived.Test.YteaikmdilmfbeaaGreatRows
import Derived.KernelRfl
import Derived.Test.YteaikmdilmfbeaaGreatHx5
set_option linter.all false
set_option maxRecDepth 20000
set_option maxHeartbeats 8000000
namespace Hx
open Go
noncomputable section
variable {k d:Nat}{g:G}{v:AV}{P:Nat->Prop}{l vals:List Int}
end
end Hx
section
namespace Go.Proofs.YteaikmdilmfbeaaGreat.Gen
open Hx
noncomputable def cfg:Cfg:={ P:=Tryz.prog,iso:=λf=>Nat.testBit 1474260566420002459681004656182214504914697923220056571903 f,ext:=λ_=>none,glob:=λ_=>none }
theorem cfgOk:CfgOk cfg:=CfgOk.plain (by kernel_rfl) (by kernel_rfl)
noncomputable def cfgP:Cfg:=cfg.add 27 (NZ cfg 1000 1000 27)
theorem cfgPOk:CfgOk cfgP:=cfgOk.add (LA cfgOk)
theorem wakes_run:ap (sem cfgP 20000) 1 G.empty 12 []=.val (.bool true):=by kernel_rfl
noncomputable def cfg1:Cfg:=cfg.add 12 (xG (.bool true))
theorem cfg1Ok:CfgOk cfg1:=cfgOk.add (ExtOk.cfg (C:=cfgP) (C':=cfg) rfl rfl (G9 cfgPOk wakes_run))
end Go.Proofs.YteaikmdilmfbeaaGreat.Gen
end
namespace Hx
open Go
noncomputable section
variable {k d:Nat}{g:G}{v:AV}{P:Nat->Prop}{l vals:List Int}
@[match_pattern,reducible] def T8(x:Int):AV:=.int .i64 x
@[match_pattern,reducible] def T9(i:Nat):AV:=.hptr i 0 0 0
@[match_pattern,reducible] def T_(x:Int):AV:=.int .u64 x
@[reducible] def Ts (d:Nat)(p:BinOp)(a b:Nat):SI:=o d (.bin p (.t a) (.t b))
@[reducible] def Tt (d:Nat)(p:BinOp)(a:Nat)(z:Int):SI:=o d (.bin p (.t a) (qI z))
@[reducible] def Tu (d n a:Nat):SI:=o d (.load true n (.t a))
@[reducible] def Tv (d a i:Nat):SI:=o d (.ext (.t a) i)
@[reducible] def Tw (n a b:Nat):SI:=oz (.store n (.t a) (.t b))
@[reducible] def Tx (d a:Nat):SI:=o d (.nilc (.t a))
@[reducible] def Ty (d a b:Nat):SI:=o d (.pick (.t a) (.k (.bool true)) (.t b))
@[reducible] def Tz (d a b:Nat):SI:=o d (.pick (.t a) (.t b) (.k (.bool false)))
@[reducible] def TA (d n a b:Nat):SI:=o d (.ixs n (.t a) (.t b))
@[reducible] def TB (d s:Nat)(w:Bool)(a:Nat):SI:=og d s w (.mv (.t a))
@[reducible] def TC (d s:Nat)(w:Bool)(a:Nat):SI:=og d s w (.load false 1 (.t a))
@[reducible] def TD (d s:Nat)(w:Bool)(n a:Nat):SI:=og d s w (.fad n (.t a))
@[reducible] def TE (d s:Nat)(w:Bool)(p:BinOp)(a b:Nat):SI:=og d s w (.bin p (.t a) (.t b))
@[reducible] def TF (d s:Nat)(w:Bool)(p:BinOp)(a:Nat)(z:Int):SI:=og d s w (.bin p (.t a) (qI z))
@[reducible] def TG (d s:Nat)(w:Bool)(a:Nat):SI:=og d s w (.len .slice (.t a))
@[reducible] def TN(d f a:Nat):SI:=o d (.call f [.t a])
@[reducible] def TO(d f a b:Nat):SI:=o d (.call f [.t a,.t b])
@[reducible] def TP(d f a b c:Nat):SI:=o d (.call f [.t a,.t b,.t c])
@[reducible] def TQ(d f a b c e:Nat):SI:=o d (.call f [.t a,.t b,.t c,.t e])
@[reducible] def TS(d m n a b:Nat):SI:=o d (.app m n (.t a) (.t b))
@[reducible] def TT(d:Nat)(b:Bool):SI:=o d (.mv (.k (.bool b)))
@[reducible] def TU(d:Nat):SI:=o d (.mv (.k .nils))
@[reducible] def TV(d:Nat)(p:BinOp)(a:Nat)(k:IntKind)(z:Int):SI:=o d (.bin p (.t a) (.k (.int k z)))
@[reducible] def TW(d a:Nat):SI:=o d (.not (.t a))
@[reducible] def TX(d:Nat)(k:IntKind)(a:Nat):SI:=o d (.conv k (.t a))
@[reducible] def TY(d s:Nat)(w:Bool)(n a b:Nat):SI:=og d s w (.ixs n (.t a) (.t b))
@[reducible] def TZ(d a:Nat):SI:=o d (.bsl 1 1 [T8 0] [0] [.t a])
@[reducible] def T0(d a:Nat):SI:=o d (.bsl 1 1 [.nils] [0] [.t a])
@[reducible] def T2(d a:Nat):SI:=o d (.box (.t a))
@[reducible] def T3(d m n a b:Nat):SI:=o d (.ixa m n (.t a) (.t b))
@[reducible] def T4(a b c d e f:Nat):SC:=.ops [oM a b,oA c d,oM e f]
@[reducible] def T5(a b:Nat):SC:=.cond (.t a) .skip (.exit b)
@[reducible] def T6(a:Nat)(x y:SC):SC:=.cond (.t a) x y
@[reducible] def T7(x y:SC):SC:=.seq x y
class XOc where
 xo:Option (Nat->List AV->G->OR)
def C0[i:XOc]:Cfg:={ Go.Proofs.YteaikmdilmfbeaaGreat.Gen.cfg1 with ext:=λk=>ak (Nat.beq k 27) i.xo (Go.Proofs.YteaikmdilmfbeaaGreat.Gen.cfg1.ext k) }
def qH:SC:=sQ [oM 65 6,oM 66 9,Ts 67 .mul 65 66,oM 6 67] (.feet [0,1,0,0,12,28,0,127,255,511] [oF 68 1 4,oL 69 68,oM 70 5,oM 71 7,oX 72 70 71,oL 73 72,oM 74 9,TA 75 3 69 73,oF 76 0 75,Tw 1 76 74])
def qJ:SC:=sQ [oF 50 0 8,oL 51 50,TV 52 .rem 51 .u8 2,TX 53 .i64 52,o 54 (.bin .add (qI 2) (.t 53)),oM 9 54] (T7 (sQ [oM 55 6,oM 56 9,Ts 57 .mul 55 56,oM 58 3,Tt 59 .sub 58 1,oM 60 7,Ts 61 .sub 59 60,TX 62 .u64 61,Ts 63 .shl 57 62,Tt 64 .gtr 63 100] (T6 64 (.ops [oK 9 2]) (.skip))) qH)
def jW:SC:=T4 38 7 39 38 7 39
def eW:SC:=T7 (sQ [oM 35 7,oM 36 3,Ts 37 .lss 35 36] (T5 37 0)) (T7 (.blk 1 (sQ [o 8 (.alloc [.int .u8 0,.int .u8 0,.nils])] (T7 (sQ [oM 40 7,oF 41 1 1,oL 42 41,oN 43 42,Ts 44 .lss 40 43] (T6 44 (.ops [oF 45 1 1,oL 46 45,oM 47 7,TA 48 3 46 47,Tu 49 3 48,Tw 3 8 49]) (.skip))) qJ))) jW)
def jX:SC:=T4 104 14 105 104 14 105
def eX:SC:=T7 (sQ [oM 101 14,oM 102 10,Ts 103 .lss 101 102] (T5 103 6)) (T7 (.blk 7 (sQ [oM 106 5,oM 107 14,oX 108 106 107,oL 109 108,oM 110 13,Ts 111 .eql 109 110,oM 112 111,TD 113 112 true 1 11,TC 114 112 true 113,TB 115 112 true 14,og 116 112 true (.conv .u64 (.t 115)),TE 117 112 true .shr 114 116,og 118 112 true (.bin .and (.t 117) (.k (.int .u8 1))),og 119 112 true (.bin .eql (.t 118) (.k (.int .u8 1))),Tz 120 112 119,oM 121 120,TD 122 121 true 1 4,TC 123 121 true 122,TB 124 121 true 12,TY 125 121 true 3 123 124,TD 126 121 true 1 125,TC 127 121 true 126,TG 128 121 true 127,TF 129 121 true .lss 128 3,Tz 130 121 129] (T6 130 (.feet [0,1,0,0,8,0,56,120,248,0,512,2040,4095,8191,16383] [oF 131 1 4,oL 132 131,oM 133 12,oF 134 1 4,oL 135 134,oM 136 12,TA 137 3 135 136,oF 138 1 137,oL 139 138,oM 140 13,TZ 141 140,TS 142 1 8 139 141,TA 143 3 132 133,oF 144 1 143,Tw 1 144 142]) (.skip)))) jX)
def jY:SC:=T4 99 13 100 99 13 100
def eZ:SC:=T7 (sQ [oM 96 13,oM 97 3,Ts 98 .lss 96 97] (T5 98 4)) (T7 (.blk 5 (sQ [oK 14 0] (.blk 6 (.loop eX)))) jY)
def e6:SC:=T7 (sQ [oM 145 15,Tu 146 2 4,oM 147 12,TO 148 49 146 147,TN 149 48 148,Ts 150 .lss 145 149] (T5 150 8)) (T7 (.blk 9 (.feet [0,1,0,0,8,0,56,120,248,0,512,0,2048,0,14336,30720,63488,0,131072,0,0,1048576,0,7340032,15728640,32505856,66060288,133693440,268434944,536870400,1073741816,2147483647,4294967295,8589934591] [oF 153 1 4,oL 154 153,oM 155 12,oF 156 1 4,oL 157 156,oM 158 12,TA 159 3 157 158,oF 160 2 159,oL 161 160,oF 162 0 4,oL 163 162,oF 164 1 4,oL 165 164,oM 166 12,TA 167 3 165 166,oF 168 0 167,oL 169 168,oF 170 2 11,oL 171 170,oM 172 15,oF 173 1 4,oL 174 173,oM 175 12,TA 176 3 174 175,oF 177 0 176,oL 178 177,oA 179 178,Ts 180 .mul 172 179,TQ 181 50 163 169 171 180,T0 182 181,TS 183 1 24 161 182,TA 184 3 154 155,oF 185 2 184,Tw 1 185 183])) (T4 151 15 152 151 15 152))
def jZ:SC:=sQ [oK 15 0] (.blk 8 (.loop e6))
def js:SC:=sQ [oM 92 5,oM 93 10,oX 94 92 93,oL 95 94,oM 12 95] (T7 (sQ [oK 13 0] (.blk 4 (.loop eZ))) jZ)
def jt:SC:=T4 80 10 81 80 10 81
def eF:SC:=T7 (sQ [oM 77 10,oM 78 3,Ts 79 .lss 77 78] (T5 79 2)) (T7 (.blk 3 (sQ [o 11 (.alloc [.int .u8 0,.int .u8 0,.nils])] (T7 (sQ [oM 82 10,oF 83 1 1,oL 84 83,oN 85 84,Ts 86 .lss 82 85] (T6 86 (.ops [oF 87 1 1,oL 88 87,oM 89 10,TA 90 3 88 89,Tu 91 3 90,Tw 3 11 91]) (.skip))) js))) jt)
def ju:SC:=sQ [Tu 186 2 4,Tw 2 2 186] (.ret)
def jv:SC:=T7 (sQ [oK 10 0] (.blk 2 (.loop eF))) ju
def kM:SC:=sQ [oF 16 1 1,oL 17 16,oN 18 17,o 19 (.mx (.t 18) (qI 1)),o 20 (.mn (.t 19) (qI 5)),oM 3 20] (T7 (.feet [0,1,3,7,15,0,32,127,0,511] [oF 21 0 1,oL 22 21,TV 23 .rem 22 .u8 60,TX 24 .i64 23,o 25 (.bin .add (qI 1) (.t 24)),oM 26 3,o 27 (.mks 3 56 [T8 0,.nils,.nils] (.t 26) (.t 26)),o 28 (.build [T8 0,.nils] [(0,1),(1,1)] [.t 25,.t 27]),o 4 (.alloc [T8 0,.nils]),Tw 2 4 28]) (T7 (.feet [0,1,0,4,15,31,63] [oM 29 3,o 30 (.mks 1 1 [.int .u8 0] (.t 29) (.t 29)),oF 31 2 1,oL 32 31,o 33 (.build [.nils,.int .u16 0,.nils] [(0,1),(2,1)] [.t 30,.t 32]),TN 34 47 33,oM 5 34]) (sQ [oK 6 1] (T7 (sQ [oK 7 0] (.blk 0 (.loop eW))) jv))))
def jb:SF:=⟨187,[.cell true 2 2],sQ [T2 1 0,o 2 (.alloc [T8 0,.nils])] kM⟩
def pU:SC:=sQ [Tu 14 2 3,oM 15 1,oM 16 2,TP 17 51 14 15 16,oM 13 17,Tv 18 13 0,Tv 19 13 1,oM 9 18,oM 10 19] (T7 (sQ [oM 20 10,Tt 21 .neq 20 0] (T6 21 (sQ [o 22 (.build [T8 0,T8 0] [] []),oM 23 10,TU 6,Tw 2 7 22,oM 8 23] (.ret)) (.skip))) (T7 (sQ [oM 24 9,Tx 25 24,oF 26 5 25,oL 27 26,Tt 28 .eql 27 0] (T6 28 (sQ [o 29 (.build [T8 0,T8 0] [] []),TU 6,Tw 2 7 29,oK 8 7] (.ret)) (.skip))) (sQ [oM 31 9,TN 32 52 31,oM 30 32,Tv 33 30 0,Tv 34 30 1,oM 11 33,oM 12 34] (sQ [oM 35 11,oM 36 12,oM 37 9,Tx 38 37,oF 39 5 38,oL 40 39,TO 41 53 36 40,oM 6 35,Tw 2 7 41,oK 8 0] (.ret)))))
def m6:SF:=⟨42,[.tm 6,.cell true 2 7,.tm 8],sQ [T2 3 0,TU 6,o 7 (.alloc [T8 0,T8 0]),oK 8 0] pU⟩
def iB:SC:=sQ [Ts 14 .lss 13 12] (T7 (T5 14 0) (T7 (.blk 1 (sQ [oM 15 13,oM 5 15] (T7 (.quiet [oM 16 0,oM 17 5,oX 18 16 17,oL 19 18,oM 20 1,oM 21 5,oX 22 20 21,oL 23 22,Ts 24 .neq 19 23]) (T6 24 (sQ [TT 4 false] (.ret)) (.skip))))) (.ops [oA 25 13,oM 13 25])))
def iC:SC:=sQ [TT 4 true] (.ret)
def dg:SF:=⟨26,[.tm 4],sQ [TT 4 false] (T7 (sQ [oM 6 0,oN 7 6,oM 8 1,oN 9 8,Ts 10 .neq 7 9] (T6 10 (sQ [TT 4 false] (.ret)) (.skip))) (T7 (sQ [oM 11 0,oN 12 11,oK 13 0] (.blk 0 (.loop iB))) iC))⟩
def lP:SC:=T7 (T7 (.quiet [oM 59 11,oF 60 1 3,oL 61 60,oM 62 1,oM 63 8,oX 64 62 63,oL 65 64,TA 66 3 61 65,oF 67 0 66,oL 68 67,Ts 69 .lss 59 68]) (T5 69 4)) (T7 (.blk 5 (sQ [TU 12] (.ops [oM 72 9,oM 73 12,oM 74 7,oM 75 10,oX 76 74 75,oL 77 76,TS 78 1 8 73 77,oM 79 11,TZ 80 79,TS 81 1 8 78 80,T0 82 81,TS 83 1 24 72 82,oM 9 83]))) (T4 70 11 71 70 11 71))
def qT:SC:=T4 24 10 25 24 10 25
def lQ:SC:=T7 (sQ [oM 20 10,oM 21 7,oN 22 21,Ts 23 .lss 20 22] (T5 23 2)) (T7 (.blk 3 (T7 (sQ [oM 26 7,oM 27 10,oX 28 26 27,oL 29 28,oN 30 29,oM 31 8,Ts 32 .lss 30 31,oM 33 32,TB 34 33 false 2,TG 35 33 false 34,TF 36 33 false .gtr 35 0,TB 37 33 false 36,TB 38 37 true 2,TB 39 37 true 10,TB 40 37 true 8,og 41 37 true (.bin .mul (qI 3) (.t 40)),TE 42 37 true .add 39 41,TB 43 37 true 2,TG 44 37 true 43,TE 45 37 true .rem 42 44,TY 46 37 true 1 38 45,TC 47 37 true 46,og 48 37 true (.bin .rem (.t 47) (.k (.int .u8 4))),og 49 37 true (.bin .eql (.t 48) (.k (.int .u8 0))),og 50 33 false (.pick (.t 37) (.t 49) (.k (.bool false))),Ty 51 33 50] (T6 51 (sQ [oM 52 9,oM 53 7,oM 54 10,oX 55 53 54,oL 56 55,T0 57 56,TS 58 1 24 52 57,oM 9 58] (.exit 3)) (.skip))) (sQ [oK 11 0] (.blk 4 (.loop lP))))) qT)
def qU:SC:=.ops [oM 84 9,oM 7 84]
def qV:SC:=T4 18 8 19 18 8 19
def qS:SC:=T7 (sQ [oM 14 8,oM 15 1,oN 16 15,Ts 17 .lss 14 16] (T5 17 0)) (T7 (.blk 1 (sQ [TU 9] (T7 (sQ [oK 10 0] (.blk 2 (.loop lQ))) qU))) qV)
def qW:SC:=sQ [oM 85 7,oM 6 85] (.ret)
def sL:SC:=sQ [o 13 (.bsl 1 1 [.nils] [0] [.k (.nils)]),oM 7 13] (T7 (sQ [oK 8 0] (.blk 0 (.loop qS))) qW)
def qR:SF:=⟨86,[.tm 6],sQ [T2 3 0,TU 6] sL⟩
def gU:SC:=T7 (sQ [oM 9 6,oM 10 1,oN 11 10,Ts 12 .lss 9 11] (T5 12 0)) (T7 (.blk 1 (sQ [TU 7] (.ops [oM 15 5,oM 16 7,oM 17 1,oM 18 6,oX 19 17 18,oL 20 19,TS 21 1 8 16 20,T0 22 21,TS 23 1 24 15 22,oM 5 23]))) (T4 13 6 14 13 6 14))
def bo:SC:=sQ [oM 115 5,oM 4 115] (.ret)
def lO:SC:=T7 (sQ [oM 24 5,oN 25 24,Tt 26 .eql 25 0] (T6 26 (sQ [oM 27 5,oM 4 27] (.ret)) (.skip))) (sQ [oF 28 1 2,oL 29 28,TX 30 .i64 29,oM 31 5,oN 32 31,Ts 33 .rem 30 32,oM 8 33] (T7 (sQ [oF 34 0 2,oL 35 34,TV 36 .rem 35 .u8 6] (.blk 2 (sQ [TV 38 .eql 36 .u8 0,oM 37 38] (T6 37 (.ops [oM 39 5,oM 40 5,oM 41 8,oX 42 40 41,oL 43 42,T0 44 43,TS 45 1 24 39 44,oM 5 45]) (sQ [TV 47 .eql 36 .u8 1,oM 46 47] (T6 46 (.feet [0,0,3,0,0,16,56,127,255] [oM 48 5,oM 49 8,o 50 (.slc 1 (.t 48) [] [.t 49]),oM 51 5,oM 52 8,oA 53 52,o 54 (.slc 1 (.t 51) [.t 53] []),TS 55 1 24 50 54,oM 5 55]) (sQ [TV 57 .eql 36 .u8 2,oM 56 57] (T6 56 (sQ [oM 58 5,oM 59 8,oX 60 58 59,oL 61 60,oN 62 61,Tt 63 .gtr 62 0] (T6 63 (.feet [0,0,0,0,12,28,0,0,192,448,960,1984,4092,8191,16383] [oM 64 5,oM 65 8,oM 66 5,oM 67 8,oX 68 66 67,oL 69 68,oM 70 5,oM 71 8,oX 72 70 71,oL 73 72,oN 74 73,Tt 75 .sub 74 1,o 76 (.slc 1 (.t 69) [] [.t 75]),oX 77 64 65,Tw 1 77 76]) (.skip))) (sQ [TV 79 .eql 36 .u8 3,oM 78 79] (T6 78 (.feet [0,0,0,0,12,28,0,64,192,508,1023,2047] [oM 80 5,oM 81 8,oM 82 5,oM 83 8,oX 84 82 83,oL 85 84,oF 86 3 2,oL 87 86,TZ 88 87,TS 89 1 8 85 88,oX 90 80 81,Tw 1 90 89]) (sQ [TV 92 .eql 36 .u8 4,oM 91 92] (T6 91 (sQ [oM 93 5,oM 94 8,oX 95 93 94,oL 96 95,oN 97 96,Tt 98 .gtr 97 0] (T6 98 (.feet [0,0,3,7,0,16,48,0,0,384,896,1920,4080,0,8192,32767,65535] [oM 99 5,oM 100 8,oX 101 99 100,oL 102 101,oF 103 2 2,oL 104 103,TX 105 .i64 104,oM 106 5,oM 107 8,oX 108 106 107,oL 109 108,oN 110 109,Ts 111 .rem 105 110,oF 112 3 2,oL 113 112,oX 114 102 111,Tw 1 114 113]) (.skip))) (.ops [TU 5]))))))))))))) bo))
def mJ:SC:=sQ [TU 5] (T7 (sQ [oK 6 0] (.blk 0 (.loop gU))) lO)
def ky:SF:=⟨116,[.tm 4],sQ [T2 2 0,TU 4] mJ⟩
def ga:SC:=.ops [oM 34 5,oM 35 7,TZ 36 35,TS 37 1 8 34 36,oM 5 37]
def sC:SC:=T4 13 6 14 13 6 14
def sB:SC:=T7 (sQ [oM 8 6,oF 9 1 3,oL 10 9,oN 11 10,Ts 12 .lss 8 11] (T5 12 0)) (T7 (.blk 1 (sQ [oK 7 (-1)] (T7 (sQ [oF 15 0 2,oL 16 15,oM 17 6,TX 18 .u64 17,Ts 19 .shr 16 18,TV 20 .and 19 .u8 1,TV 21 .eql 20 .u8 1] (T6 21 (.quiet [oM 22 6,oF 23 1 2,T3 24 8 1 23 22,oL 25 24,TX 26 .i64 25,oF 27 1 3,oL 28 27,oM 29 6,TA 30 3 28 29,oF 31 0 30,oL 32 31,Ts 33 .rem 26 32,oM 7 33]) (.skip))) ga))) sC)
def kN:SC:=sQ [oM 38 5,oM 4 38] (.ret)
def lK:SC:=sQ [TU 5] (T7 (sQ [oK 6 0] (.blk 0 (.loop sB))) kN)
def jD:SF:=⟨39,[.tm 4],sQ [T2 2 0,T2 3 1,TU 4] lK⟩
def oe:SC:=T4 14 6 15 14 6 15
def od:SC:=T7 (sQ [oM 7 6,oM 8 1,Ts 9 .lss 7 8,oM 10 9,TB 11 10 true 6,TF 12 10 true .lss 11 8,Tz 13 10 12] (T5 13 0)) (T7 (.blk 1 (sQ [oM 16 0,oM 17 6,TX 18 .u64 17,Ts 19 .shr 16 18,TV 20 .and 19 .u8 1,TV 21 .eql 20 .u8 1] (T6 21 (.ops [oM 22 5,oM 23 6,TZ 24 23,TS 25 1 8 22 24,oM 5 25]) (.skip)))) oe)
def oh:SC:=sQ [oM 26 5,oM 4 26] (.ret)
def nh:SF:=⟨27,[.tm 4],sQ [TU 4] (sQ [TU 5] (T7 (sQ [oK 6 0] (.blk 0 (.loop od))) oh))⟩
def dc:SF:=⟨8,[.tm 2],sQ [TU 2] (T7 (sQ [oM 3 0,o 4 (.eq false .slice (.t 3) (.k (.nils)))] (T6 4 (sQ [TU 2] (.ret)) (.skip))) (sQ [o 5 (.bsl 1 0 [T8 0] [] []),oM 6 0,TS 7 1 8 5 6,oM 2 7] (.ret)))⟩
def cA:SC:=sQ [TU 6] (sQ [oM 28 6,oM 29 3,oM 30 5,o 31 (.slc 1 (.t 29) [] [.t 30]),TS 32 1 8 28 31,oM 33 4,TZ 34 33,TS 35 1 8 32 34,oM 6 35] (.ops [oM 36 6,oM 37 3,oM 38 5,o 39 (.slc 1 (.t 37) [.t 38] []),TS 40 1 8 36 39,oM 3 40]))
def ku:SC:=T4 12 4 13 12 4 13
def ko:SC:=T7 (sQ [oM 7 4,Tu 8 3 1,TN 9 91 8,oN 10 9,Ts 11 .lss 7 10] (T5 11 0)) (T7 (.blk 1 (sQ [oK 5 0] (T7 (sQ [oM 14 4,oF 15 2 1,oL 16 15,oN 17 16,Ts 18 .lss 14 17] (T6 18 (.ops [oF 19 2 1,oL 20 19,oM 21 4,oX 22 20 21,oL 23 22,TX 24 .i64 23,oM 25 4,oA 26 25,Ts 27 .rem 24 26,oM 5 27]) (.skip))) cA))) ku)
def ed:SC:=sQ [oM 41 3,oM 2 41] (.ret)
def eK:SC:=sQ [TU 3] (T7 (sQ [oK 4 0] (.blk 0 (.loop ko))) ed)
def cT:SF:=⟨42,[.tm 2],sQ [T2 1 0,TU 2] eK⟩
def wm:SC:=T7 (sQ [oM 5 4,oM 6 0,oN 7 6,Ts 8 .lss 5 7] (T5 8 0)) (T7 (.blk 1 (.ops [oM 11 3,oM 12 0,oM 13 4,oX 14 12 13,oL 15 14,Ts 16 .mul 11 15,oM 3 16])) (T4 9 4 10 9 4 10))
def p6:SC:=sQ [oM 17 3,oM 2 17] (.ret)
def py:SF:=⟨18,[.tm 2],sQ [oK 2 0] (sQ [oK 3 1] (T7 (sQ [oK 4 0] (.blk 0 (.loop wm))) p6))⟩
def jx:SC:=T7 (.quiet [Tu 5 2 2,TN 6 92 5,oF 7 1 2,oL 8 7,oM 9 1,TA 10 3 8 9,oF 11 1 10,oL 12 11,TO 13 68 6 12,oM 4 13]) (.ret)
def gc:SF:=⟨14,[.tm 4],sQ [T2 2 0,TU 4] jx⟩
def qL:SC:=.ops [oM 39 10,oM 40 9,oM 41 11,oX 42 40 41,oL 43 42,Ts 44 .add 39 43,oM 10 44]
def qM:SC:=T4 20 11 21 20 11 21
def lL:SC:=T7 (sQ [oM 17 11,oM 18 1,Ts 19 .lss 17 18] (T5 19 0)) (T7 (.blk 1 (T7 (sQ [oM 22 2,oN 23 22,Tt 24 .gtr 23 0] (T6 24 (.ops [oM 25 9,oM 26 11,oM 27 2,oM 28 3,oM 29 11,Ts 30 .add 28 29,oM 31 2,oN 32 31,Ts 33 .rem 30 32,oX 34 27 33,oL 35 34,TV 36 .rem 35 .u8 8,TX 37 .i64 36,oX 38 25 26,Tw 1 38 37]) (.skip))) qL)) qM)
def qN:SC:=.ops [oM 68 12,oM 69 9,oM 70 14,oX 71 69 70,oL 72 71,Ts 73 .sub 68 72,oM 12 73]
def qO:SC:=T4 49 14 50 49 14 50
def lM:SC:=T7 (sQ [oM 46 14,oM 47 1,Ts 48 .lss 46 47] (T5 48 2)) (T7 (.blk 3 (T7 (sQ [oM 51 9,oM 52 14,oX 53 51 52,oL 54 53,Tt 55 .gtr 54 0] (T6 55 (sQ [oM 56 9,oM 57 14,oM 58 0,oM 59 9,oM 60 14,oX 61 59 60,oL 62 61,Ts 63 .mul 58 62,oM 64 10,Ts 65 .quo 63 64,oX 66 56 57,Tw 1 66 65] (.ops [oM 67 14,oM 13 67])) (.skip))) qN)) qO)
def qP:SC:=sQ [oM 74 9,oM 75 13,oM 76 9,oM 77 13,oX 78 76 77,oL 79 78,oM 80 12,Ts 81 .add 79 80,oX 82 74 75,Tw 1 82 81] (sQ [oM 83 9,oM 8 83] (.ret))
def qQ:SC:=sQ [oM 45 0,oM 12 45,oK 13 0] (T7 (sQ [oK 14 0] (.blk 2 (.loop lM))) qP)
def qK:SF:=⟨84,[.tm 8],sQ [TU 8] (sQ [oM 15 1,o 16 (.mks 1 8 [T8 0] (.t 15) (.t 15)),oM 9 16] (sQ [oK 10 0] (T7 (sQ [oK 11 0] (.blk 0 (.loop lL))) qQ)))⟩
def cD:SC:=sQ [Ts 31 .lss 30 29] (T7 (T5 31 0) (T7 (.blk 1 (sQ [oX 32 28 30,oL 33 32,oM 12 33] (T7 (sQ [oM 34 12,oM 35 10,Ts 36 .leq 34 35,oM 37 36,TB 38 37 false 12,TD 39 37 false 1 3,TC 40 37 false 39,TG 41 37 false 40,TE 42 37 false .geq 38 41,Ty 43 37 42] (T6 43 (sQ [o 6 (.mv (.k (.nilp))),oK 7 2] (.ret)) (.skip))) (.ops [oM 44 12,oM 10 44])))) (.ops [oA 45 30,oM 30 45])))
def pt:SC:=.ops [oA 66 49,oM 49 66]
def dS:SC:=sQ [Ts 50 .lss 49 48] (T7 (T5 50 2) (T7 (.blk 3 (sQ [oM 51 49,oM 13 51] (sQ [oM 52 2,oM 53 13,TO 54 94 52 53,TW 55 54] (T6 55 (.feet [0,0,2,6,14,0,32,126,255,511,1023] [oL 56 9,oL 57 9,Tx 58 57,oF 59 3 58,oL 60 59,oM 61 13,TZ 62 61,TS 63 1 8 60 62,Tx 64 56,oF 65 3 64,Tw 1 65 63]) (.skip))))) pt))
def iS:SC:=sQ [oM 14 76] (.ops [oM 15 77])
def dT:SC:=sQ [Ts 81 .lss 80 79] (T7 (T5 81 6) (T7 (.blk 7 (sQ [oM 82 80,oX 83 78 80,oL 84 83,oM 16 82,oM 17 84] (sQ [oM 85 17,Tt 86 .geq 85 0,oM 87 86,TB 88 87 true 17,TB 89 87 true 15,TB 90 87 true 16,TY 91 87 true 1 89 90,TC 92 87 true 91,TE 93 87 true .neq 88 92,Tz 94 87 93] (T6 94 (sQ [oL 95 9,Tx 96 95,oF 97 4 96,oL 98 97,oM 99 14,oX 100 98 99,oz (.store 1 (.t 100) (qI 0))] (.exit 5)) (.skip))))) (.ops [oA 101 80,oM 80 101])))
def iU:SC:=.feet [0,1,3,7,0,16,48,112,0,496,1008,2047,4095,8191,16383] [oL 102 9,Tx 103 102,oF 104 5 103,oL 105 104,oL 106 9,Tx 107 106,oF 108 4 107,oL 109 108,oM 110 14,oX 111 109 110,oL 112 111,Ts 113 .add 105 112,Tx 114 102,oF 115 5 114,Tw 1 115 113]
def iT:SC:=.blk 5 (T7 (sQ [oL 78 4,oN 79 78,oK 80 0] (.blk 6 (.loop dT))) iU)
def iV:SC:=sQ [oL 116 9,oM 6 116,oK 7 0] (.ret)
def dU:SC:=T7 (.feet [0,0,2,7,15,31] [oL 67 9,Tu 68 2 3,TN 69 95 68,Tx 70 67,oF 71 4 70,Tw 1 71 69]) (T7 (.skip) (T7 (sQ [oF 72 1 3,oL 73 72,TN 74 97 73,TN 75 96 74] (.blk 4 (.rng 117 (.t 75) [76,77] iS iT))) iV))
def iW:SC:=T7 (sQ [oF 46 1 3,oL 47 46,oN 48 47,oK 49 0] (.blk 2 (.loop dS))) dU
def eD:SC:=T7 (sQ [Tu 18 2 3,oL 19 4,TO 20 93 18 19,oM 8 20] (sQ [oM 21 8,Tt 22 .neq 21 0] (T6 22 (sQ [oM 23 8,o 6 (.mv (.k (.nilp))),oM 7 23] (.ret)) (.skip)))) (sQ [Tu 24 2 3,oM 25 2,o 26 (.build [T8 0,.nils,.nils,.nils,.nils,T8 0] [(0,2),(2,1)] [.t 24,.t 25]),T2 27 26,o 9 (.alloc [.nilp]),Tw 1 9 27] (sQ [oK 10 (-1)] (T7 (sQ [oM 28 2,oN 29 28,oK 30 0] (.blk 0 (.loop cD))) iW)))
def dw:SF:=⟨117,[.tm 6,.tm 7],sQ [T2 3 0,T2 4 1,o 6 (.mv (.k (.nilp))),oK 7 0] eD⟩
def gu:SC:=sQ [o 5 (.alloc [T8 0,T8 0]),Tw 2 5 21] (.ops [oM 6 22])
def gx:SC:=.blk 1 (.feet [0,0,0,6,15,31,0,64,255,511,1023] [oL 23 4,oL 24 1,oM 25 6,TO 26 101 24 25,oX 27 23 26,oL 28 27,oF 29 1 5,oL 30 29,Ts 31 .add 28 30,oX 32 23 26,Tw 1 32 31])
def gw:SC:=sQ [oM 9 40] (.ops [oM 10 41])
def dl:SC:=.blk 3 (T7 (.quiet [oL 42 4,oM 43 9,oX 44 42 43,oL 45 44,oL 46 8,Ts 47 .gtr 45 46]) (T6 47 (.feet [0,1,0,0,12,28,3,127] [oM 48 10,TN 49 37 48,oL 50 4,oM 51 9,oX 52 50 51,oL 53 52,Tw 1 7 49,Tw 1 8 53]) (.skip)))
def gy:SC:=T7 (.quiet [oL 54 7,oL 55 8,oM 2 54,oM 3 55]) (.ret)
def gz:SC:=sQ [o 7 (.alloc [.nils]),o 8 (.alloc [T8 0]),oz (.store 1 (.t 7) (.k (.nils))),oz (.store 1 (.t 8) (qI (-1)))] (T7 (T7 (.quiet [oL 33 1,oL 34 1,Tx 35 34,oF 36 2 35,oL 37 36,TO 38 99 33 37,TN 39 96 38]) (.blk 2 (.rng 56 (.t 39) [40,41] gw dl))) gy)
def ie:SC:=T7 (.feet [0,0,2,6,14,31,63,127,0,511] [oL 11 1,oL 12 1,Tx 13 12,oF 14 2 13,oL 15 14,TO 16 99 11 15,TN 17 98 16,o 18 (.mks 1 8 [T8 0] (.t 17) (.t 17)),o 4 (.alloc [.nils]),Tw 1 4 18]) (T7 (sQ [oL 19 1,TN 20 100 19] (.blk 0 (.rng 56 (.t 20) [21,22] gu gx))) gz)
def eE:SF:=⟨56,[.tm 2,.tm 3],sQ [T2 1 0,TU 2,oK 3 0] ie⟩
def jE:SC:=T7 (sQ [oM 12 6,Tt 13 .neq 12 0] (T5 13 0)) (.blk 1 (.quiet [oM 14 6,oM 15 5,oM 16 6,Ts 17 .rem 15 16,oM 5 14,oM 6 17]))
def ou:SC:=T7 (.feet [0,0,3,0,0,24,63,127] [oM 18 0,oM 19 5,Ts 20 .quo 18 19,oM 21 1,oM 22 5,Ts 23 .quo 21 22,o 24 (.build [T8 0,T8 0] [(0,1),(1,1)] [.t 20,.t 23]),Tw 2 4 24]) (.ret)
def qb:SC:=sQ [oM 7 0,oM 8 0,o 9 (.un .neg (.t 8)),o 10 (.mx (.t 7) (.t 9)),oM 11 1,oM 5 10,oM 6 11] (T7 (.blk 0 (.loop jE)) ou)
def nk:SF:=⟨25,[.cell true 2 4],sQ [o 4 (.alloc [T8 0,T8 0])] qb⟩
def du:SC:=sQ [Ts 18 .lss 17 16] (T7 (T5 18 0) (T7 (.blk 1 (sQ [oM 19 17,oX 20 15 17,oL 21 20,oM 5 19,oM 6 21] (T7 (.quiet [oM 22 6,Tt 23 .lss 22 0,oM 24 23,TB 25 24 false 6,TB 26 24 false 0,og 27 24 false (.nilc (.t 26)),TD 28 24 false 0 27,TD 29 24 false 1 28,TC 30 24 false 29,TB 31 24 false 0,og 32 24 false (.nilc (.t 31)),TD 33 24 false 2 32,TC 34 24 false 33,TB 35 24 false 5,TY 36 24 false 1 34 35,TC 37 24 false 36,TY 38 24 false 3 30 37,TD 39 24 false 0 38,TC 40 24 false 39,TE 41 24 false .geq 25 40,Ty 42 24 41]) (T6 42 (sQ [TT 4 false] (.ret)) (.skip))))) (.ops [oA 43 17,oM 17 43])))
def dv:SC:=sQ [TT 4 true] (.ret)
def bE:SF:=⟨44,[.tm 4],sQ [TT 4 false] (T7 (sQ [oM 7 1,oN 8 7,oM 9 0,Tx 10 9,oF 11 2 10,oL 12 11,oN 13 12,Ts 14 .gtr 8 13] (T6 14 (sQ [TT 4 false] (.ret)) (.skip))) (T7 (sQ [oM 15 1,oN 16 15,oK 17 0] (.blk 0 (.loop du))) dv))⟩
def fM:SC:=sQ [o 6 (.alloc [T8 0,T8 0]),Tw 2 6 21] (.ops [oM 7 22])
def bU:SC:=.blk 1 (T7 (.quiet [oM 23 7,oL 24 3,oN 25 24,o 26 (.slc 1 (.t 23) [] [.t 25]),oL 27 3,TO 28 18 26 27]) (T6 28 (.feet [0,0,2,0,0,16,56,120,0,256,1016,2047,4095] [oL 29 5,oF 30 0 6,oL 31 30,oL 32 5,oF 33 0 6,oL 34 33,oX 35 32 34,oL 36 35,oF 37 1 6,oL 38 37,o 39 (.mx (.t 36) (.t 38)),oX 40 29 31,Tw 1 40 39]) (.skip)))
def fN:SC:=sQ [Ts 44 .lss 43 42] (T7 (T5 44 2) (T7 (.blk 3 (sQ [oX 45 41 43,oL 46 45,oM 10 46] (.ops [oM 47 8,oM 48 10,Ts 49 .add 47 48,oM 8 49]))) (.ops [oA 50 43,oM 43 50])))
def fO:SC:=sQ [oM 51 8,oM 4 51] (.ret)
def fP:SC:=sQ [oK 8 0] (T7 (sQ [oL 41 5,oN 42 41,oK 43 0] (.blk 2 (.loop fN))) fO)
def gC:SC:=sQ [oM 11 0,oM 12 0,Tx 13 12,oF 14 3 13,oL 15 14,TO 16 99 11 15,TN 17 98 16,o 18 (.mks 1 8 [T8 0] (.t 17) (.t 17)),o 5 (.alloc [.nils]),Tw 1 5 18] (T7 (sQ [oM 19 0,TN 20 100 19] (.blk 0 (.rng 52 (.t 20) [21,22] fM bU))) fP)
def dV:SF:=⟨52,[.tm 4],sQ [T2 3 1,oK 4 0] gC⟩
def zd:SC:=T7 (sQ [oM 7 6,oM 8 1,oN 9 8,Ts 10 .lss 7 9] (T5 10 0)) (T7 (.blk 1 (.ops [oM 13 5,oM 14 0,oM 15 1,oM 16 6,oX 17 15 16,oL 18 17,oX 19 14 18,oL 20 19,TZ 21 20,TS 22 1 8 13 21,oM 5 22])) (T4 11 6 12 11 6 12))
def sK:SC:=sQ [oM 23 5,oM 4 23] (.ret)
def ta:SF:=⟨24,[.tm 4],sQ [TU 4] (sQ [TU 5] (T7 (sQ [oK 6 0] (.blk 0 (.loop zd))) sK))⟩
def aU:SF:=⟨33,[.tm 8],sQ [TT 8 false] (T7 (sQ [oM 10 1,oM 11 2,TO 12 18 10 11] (T6 12 (sQ [TT 8 true] (.ret)) (.skip))) (sQ [oM 13 0,oM 14 1,TO 15 58 13 14,oM 9 15] (sQ [oM 16 9,oM 17 3,Ts 18 .lss 16 17,oM 19 18,TB 20 19 false 9,TB 21 19 false 3,TE 22 19 false .eql 20 21,TB 23 19 false 22,TB 24 23 true 1,TB 25 23 true 2,TB 26 23 true 1,TG 27 23 true 26,og 28 23 true (.slc 1 (.t 25) [] [.t 27]),og 29 23 true (.call 106 [.t 24,.t 28]),TF 30 23 true .gtr 29 0,og 31 19 false (.pick (.t 23) (.t 30) (.k (.bool false))),Ty 32 19 31,oM 8 32] (.ret))))⟩
def dz:SF:=⟨20,[.tm 4],sQ [oK 4 0] (sQ [oM 7 0,TN 8 111 7,oM 5 8] (sQ [oM 9 1,TN 10 111 9,oM 6 10] (T7 (sQ [oM 11 5] (T6 11 (T7 (sQ [oM 12 6] (T6 12 (sQ [oK 4 0] (.ret)) (.skip))) (sQ [oK 4 (-1)] (.ret))) (.skip))) (T7 (sQ [oM 13 6] (T6 13 (sQ [oK 4 1] (.ret)) (.skip))) (T7 (sQ [oM 14 0,oM 15 1,Ts 16 .lss 14 15] (T6 16 (sQ [oK 4 (-1)] (.ret)) (.skip))) (T7 (sQ [oM 17 0,oM 18 1,Ts 19 .gtr 17 18] (T6 19 (sQ [oK 4 1] (.ret)) (.skip))) (sQ [oK 4 0] (.ret))))))))⟩
def m7:SC:=sQ [Ts 51 .lss 50 49] (T7 (T5 51 0) (T7 (.blk 1 (sQ [oM 52 50,TA 53 3 48 50,Tu 54 3 53,o 7 (.alloc [T8 0,.nils,.nils]),oM 6 52,Tw 3 7 54] (T7 (sQ [oF 55 0 7,oL 56 55,Tt 57 .lss 56 1,oM 58 57,TD 59 58 false 0 7,TC 60 58 false 59,TF 61 58 false .gtr 60 4,Ty 62 58 61] (T6 62 (sQ [o 63 (.build [T8 0,.nils,.nils,.nils,.nils] [] []),Tw 5 2 63,oK 3 50] (.ret)) (.skip))) (sQ [oF 64 2 4,oL 65 64,oM 66 6,oF 67 0 7,oL 68 67,oX 69 65 66,Tw 1 69 68] (.ops [oM 70 5,oF 71 0 7,oL 72 71,Ts 73 .mul 70 72,oM 5 73]))))) (.ops [oA 74 50,oM 50 74])))
def m8:SC:=sQ [Ts 91 .lss 90 89] (T7 (T5 91 4) (T7 (.blk 5 (sQ [oX 92 88 90,oL 93 92,oM 12 93] (T7 (sQ [oM 94 12,oM 95 10,Ts 96 .leq 94 95,oM 97 96,TB 98 97 false 12,TD 99 97 false 0 4,TD 100 97 false 1 99,TC 101 97 false 100,TG 102 97 false 101,TE 103 97 false .geq 98 102,Ty 104 97 103,oM 105 104,TB 106 105 false 12,TB 107 105 false 8,TE 108 105 false .eql 106 107,Ty 109 105 108] (T6 109 (sQ [o 110 (.build [T8 0,.nils,.nils,.nils,.nils] [] []),Tw 5 2 110,oK 3 50] (.ret)) (.skip))) (sQ [oM 111 12,oM 10 111] (.feet [0,1,0,7,15,0,32,127,255,511] [oF 112 3 4,oL 113 112,oM 114 8,oX 115 113 114,oL 116 115,oM 117 12,o 118 (.bin .shl (.k (T_ 1)) (.t 117)),Ts 119 .or 116 118,oX 120 113 114,Tw 1 120 119]))))) (.ops [oA 121 90,oM 90 121])))
def m_:SC:=sQ [Tu 122 5 4,Tu 123 3 9,TO 124 123 122 123,TW 125 124] (T6 125 (sQ [o 126 (.build [T8 0,.nils,.nils,.nils,.nils] [] []),Tw 5 2 126,oK 3 50] (.ret)) (.skip))
def sI:SC:=.ops [oA 127 82,oM 82 127]
def m9:SC:=sQ [Ts 83 .lss 82 81] (T7 (T5 83 2) (T7 (.blk 3 (sQ [oM 84 82,TA 85 3 80 82,Tu 86 3 85,o 9 (.alloc [T8 0,.nils,.nils]),oM 8 84,Tw 3 9 86] (sQ [oK 10 (-1)] (T7 (sQ [oF 87 1 9,oL 88 87,oN 89 88,oK 90 0] (.blk 4 (.loop m8))) m_)))) sI))
def na:SC:=sQ [oF 129 3 4,oL 130 129,TN 131 124 130,oM 128 131,Tv 132 128 0,Tv 133 128 1,oM 13 132,oM 14 133] (T7 (sQ [oM 134 14,TW 135 134] (T6 135 (sQ [o 136 (.build [T8 0,.nils,.nils,.nils,.nils] [] []),Tw 5 2 136,oK 3 50] (.ret)) (.skip))) (sQ [oM 137 13,oF 138 4 4,Tw 1 138 137] (sQ [Tu 139 5 4,Tw 5 2 139,oK 3 0] (.ret))))
def sJ:SC:=T7 (sQ [oM 75 5,Tt 76 .gtr 75 1024] (T6 76 (sQ [o 77 (.build [T8 0,.nils,.nils,.nils,.nils] [] []),Tw 5 2 77,oK 3 50] (.ret)) (.skip))) (T7 (sQ [oF 78 0 4,oF 79 1 78,oL 80 79,oN 81 80,oK 82 0] (.blk 2 (.loop m9))) na)
def tU:SC:=T7 (sQ [oF 15 0 1,oL 16 15,Tt 17 .lss 16 1,oM 18 17,TD 19 18 false 0 1,TC 20 18 false 19,TF 21 18 false .gtr 20 60,Ty 22 18 21,oM 23 22,TD 24 23 false 1 1,TC 25 23 false 24,TG 26 23 false 25,TF 27 23 false .lss 26 1,Ty 28 23 27,oM 29 28,TD 30 29 false 1 1,TC 31 29 false 30,TG 32 29 false 31,TF 33 29 false .gtr 32 8,Ty 34 29 33] (T6 34 (sQ [o 35 (.build [T8 0,.nils,.nils,.nils,.nils] [] []),Tw 5 2 35,oK 3 50] (.ret)) (.skip))) (T7 (.feet [0,0,2,6,14,0,32,96,224,511,0,2047] [Tu 36 2 1,oF 37 1 1,oL 38 37,oN 39 38,o 40 (.mks 1 8 [T8 0] (.t 39) (.t 39)),oF 41 1 1,oL 42 41,oN 43 42,o 44 (.mks 1 8 [T_ 0] (.t 43) (.t 43)),o 45 (.build [T8 0,.nils,.nils,.nils,.nils] [(0,2),(2,1),(3,1)] [.t 36,.t 40,.t 44]),o 4 (.alloc [T8 0,.nils,.nils,.nils,.nils]),Tw 5 4 45]) (sQ [oK 5 1] (T7 (sQ [oF 46 0 4,oF 47 1 46,oL 48 47,oN 49 48,oK 50 0] (.blk 0 (.loop m7))) sJ)))
def lJ:SF:=⟨140,[.cell true 5 2,.tm 3],sQ [T2 1 0,o 2 (.alloc [T8 0,.nils,.nils,.nils,.nils]),oK 3 0] tU⟩
def px:SC:=T7 (sQ [oM 5 4,oF 6 0 1,oL 7 6,oN 8 7,Ts 9 .lss 5 8,oM 10 9,TB 11 10 true 4,TF 12 10 true .lss 11 5,Tz 13 10 12] (T5 13 0)) (T7 (.blk 1 (.ops [oM 16 3,oF 17 0 1,oL 18 17,oM 19 4,oX 20 18 19,oL 21 20,TV 22 .rem 21 .u8 4,TX 23 .i64 22,o 24 (.bin .add (qI 1) (.t 23)),TZ 25 24,TS 26 1 8 16 25,oM 3 26])) (T4 14 4 15 14 4 15))
def ja:SC:=sQ [oM 27 3,oM 2 27] (.ret)
def jr:SC:=sQ [TU 3] (T7 (sQ [oK 4 0] (.blk 0 (.loop px))) ja)
def f_:SF:=⟨28,[.tm 2],sQ [T2 1 0,TU 2] jr⟩
def n_:SC:=T7 (sQ [oM 5 4,oF 6 1 1,oL 7 6,oN 8 7,Ts 9 .lss 5 8] (T5 9 0)) (T7 (.blk 1 (.ops [oM 12 3,oF 13 1 1,oL 14 13,oM 15 4,TA 16 3 14 15,oF 17 0 16,oL 18 17,TZ 19 18,TS 20 1 8 12 19,oM 3 20])) (T4 10 4 11 10 4 11))
def oa:SC:=sQ [oM 21 3,oM 2 21] (.ret)
def p_:SC:=sQ [TU 3] (T7 (sQ [oK 4 0] (.blk 0 (.loop n_))) oa)
def nf:SF:=⟨22,[.tm 2],sQ [T2 1 0,TU 2] p_⟩
def iY:SC:=sQ [Ts 27 .lss 26 25] (T7 (T5 27 0) (T7 (.blk 1 (sQ [oM 28 26,oX 29 24 26,oL 30 29,oM 7 28,oM 8 30] (sQ [oM 31 8,Tt 32 .lss 31 (-1),oM 33 32,TB 34 33 false 8,TD 35 33 false 2 5,TC 36 33 false 35,TB 37 33 false 7,TY 38 33 false 1 36 37,TC 39 33 false 38,TE 40 33 false .geq 34 39,Ty 41 33 40] (T6 41 (sQ [oK 4 2] (.ret)) (.skip))))) (.ops [oA 42 26,oM 26 42])))
def iZ:SC:=sQ [oK 4 0] (.ret)
def jq:SC:=sQ [Tu 10 2 2,TN 11 87 10,oM 9 11,Tv 12 9 0,Tv 13 9 1,o 5 (.alloc [T8 0,.nils,.nils,.nils,.nils]),Tw 5 5 12,oM 6 13] (T7 (sQ [oM 14 6,Tt 15 .neq 14 0] (T6 15 (sQ [oM 16 6,oM 4 16] (.ret)) (.skip))) (T7 (sQ [oM 17 1,oN 18 17,oF 19 0 5,oF 20 1 19,oL 21 20,oN 22 21,Ts 23 .neq 18 22] (T6 23 (sQ [oK 4 2] (.ret)) (.skip))) (T7 (sQ [oM 24 1,oN 25 24,oK 26 0] (.blk 0 (.loop iY))) iZ)))
def fZ:SF:=⟨43,[.tm 4],sQ [T2 2 0,oK 4 0] jq⟩
def dG:SF:=⟨9,[.tm 4],sQ [TT 4 false] (sQ [oM 5 0,oM 6 1,TO 7 129 5 6,Tt 8 .geq 7 0,oM 4 8] (.ret))⟩
def lR:SC:=.ops [oM 6 19]
def gX:SC:=sQ [Ts 24 .lss 23 22] (T7 (T5 24 2) (T7 (.blk 3 (sQ [oM 25 23,TA 26 3 21 23,Tu 27 3 26,o 9 (.alloc [T8 0,.nils,.nils]),oM 8 25,Tw 3 9 27] (.quiet [oM 28 7,oF 29 2 9,oL 30 29,oF 31 1 1,oL 32 31,oM 33 8,oM 34 6,TP 35 130 32 33 34,oX 36 30 35,oL 37 36,oM 38 6,oM 39 8,oX 40 38 39,oL 41 40,oX 42 37 41,oL 43 42,Ts 44 .mul 28 43,oM 7 44]))) (.ops [oA 45 23,oM 23 45])))
def lT:SC:=.ops [oL 46 4,oM 47 7,TZ 48 47,TS 49 1 8 46 48,Tw 1 4 49]
def lS:SC:=.blk 1 (sQ [oK 7 1] (T7 (sQ [oF 20 1 1,oL 21 20,oN 22 21,oK 23 0] (.blk 2 (.loop gX))) lT))
def lV:SC:=sQ [oL 50 4,oM 2 50] (.ret)
def mK:SC:=sQ [oF 10 1 1,oL 11 10,TN 12 97 11,oM 3 12] (sQ [oM 13 3,TN 14 98 13,o 15 (.mks 1 8 [T8 0] (qI 0) (.t 14)),o 4 (.alloc [.nils]),Tw 1 4 15] (T7 (sQ [oM 16 3,TN 17 96 16] (.blk 0 (.rng 51 (.t 17) [18,19] lR lS))) lV))
def kA:SF:=⟨51,[.tm 2],sQ [T2 1 0,TU 2] mK⟩
def jc:SC:=sQ [o 3 (.mkf 131 [] [.t 1]),oM 2 3] (.ret)
def fc:SF:=⟨4,[.tm 2],sQ [T2 1 0,o 2 (.mv (.k (.nilf)))] jc⟩
def oo:SC:=sQ [Ts 12 .lss 11 10] (T7 (T5 12 0) (T7 (.blk 1 (sQ [oM 13 11,TA 14 3 9 11,Tu 15 3 14,o 5 (.alloc [T8 0,.nils,.nils]),oM 4 13,Tw 3 5 15] (.ops [oM 16 3,oM 17 4,oF 18 0 5,oL 19 18,oX 20 16 17,Tw 1 20 19]))) (.ops [oA 21 11,oM 11 21])))
def oq:SC:=sQ [oM 22 3,oM 2 22] (.ret)
def nj:SF:=⟨23,[.tm 2],sQ [TU 2] (sQ [oM 6 0,oN 7 6,o 8 (.mks 1 8 [T8 0] (.t 7) (.t 7)),oM 3 8] (T7 (sQ [oM 9 0,oN 10 9,oK 11 0] (.blk 0 (.loop oo))) oq))⟩
def qc:SC:=sQ [Ts 9 .lss 8 7] (T7 (T5 9 0) (T7 (.blk 1 (sQ [oX 10 6 8,oL 11 10,oM 5 11] (.ops [oM 12 3,oM 13 5,Ts 14 .mul 12 13,oM 3 14]))) (.ops [oA 15 8,oM 8 15])))
def qd:SC:=sQ [oM 16 3,oM 2 16] (.ret)
def pz:SF:=⟨17,[.tm 2],sQ [oK 2 0] (sQ [oK 3 1] (T7 (sQ [oM 6 0,oN 7 6,oK 8 0] (.blk 0 (.loop qc))) qd))⟩
def fQ:SC:=sQ [Ts 14 .lss 13 12] (T7 (T5 14 0) (T7 (.blk 1 (sQ [oM 15 13,oX 16 11 13,oL 17 16,oM 6 15,oM 7 17] (.ops [oM 18 5,oM 19 6,oM 20 0,Tx 21 20,oF 22 0 21,oF 23 1 22,oL 24 23,oM 25 7,TA 26 3 24 25,oF 27 0 26,oL 28 27,oX 29 18 19,Tw 1 29 28]))) (.ops [oA 30 13,oM 13 30])))
def fR:SC:=sQ [oM 31 5,oM 4 31] (.ret)
def dW:SF:=⟨32,[.tm 4],sQ [TU 4] (sQ [oM 8 1,oN 9 8,o 10 (.mks 1 8 [T8 0] (.t 9) (.t 9)),oM 5 10] (T7 (sQ [oM 11 1,oN 12 11,oK 13 0] (.blk 0 (.loop fQ))) fR))⟩
def fT:SC:=sQ [o 3 (.mkf 132 [] [.t 1]),oM 2 3] (.ret)
def dB:SF:=⟨4,[.tm 2],sQ [T2 1 0,o 2 (.mv (.k (.nilf)))] fT⟩
def cK:SC:=sQ [Ts 11 .lss 10 9] (T7 (T5 11 0) (T7 (.blk 1 (sQ [oM 12 10,oX 13 8 10,oL 14 13,oM 6 12,oM 7 14] (.quiet [oM 15 5,oM 16 0,Tx 17 16,oF 18 0 17,oF 19 1 18,oL 20 19,oM 21 0,Tx 22 21,oF 23 2 22,oL 24 23,oM 25 6,oX 26 24 25,oL 27 26,TA 28 3 20 27,oF 29 0 28,oL 30 29,Ts 31 .mul 15 30,oM 32 7,Ts 33 .add 31 32,oM 5 33]))) (.ops [oA 34 10,oM 10 34])))
def cL:SC:=sQ [oM 35 5,oM 4 35] (.ret)
def bI:SF:=⟨36,[.tm 4],sQ [oK 4 0] (sQ [oK 5 0] (T7 (sQ [oM 8 1,oN 9 8,oK 10 0] (.blk 0 (.loop cK))) cL))⟩
def fU:SC:=sQ [Ts 12 .lss 11 10] (T7 (T5 12 0) (T7 (.blk 1 (sQ [oM 13 11,oX 14 9 11,oL 15 14,oM 5 13,oM 6 15] (T7 (sQ [oM 16 5,oM 17 1,oN 18 17,Ts 19 .geq 16 18] (T6 19 (sQ [oK 4 1] (.ret)) (.skip))) (sQ [oM 20 1,oM 21 5,oX 22 20 21,oL 23 22,oM 7 23] (sQ [oM 24 6,oM 25 7,TO 26 80 24 25,oM 8 26] (sQ [oM 27 8,Tt 28 .neq 27 0] (T6 28 (sQ [oM 29 8,oM 4 29] (.ret)) (.skip)))))))) (.ops [oA 30 11,oM 11 30])))
def fV:SC:=T7 (sQ [oM 31 0,oN 32 31,oM 33 1,oN 34 33,Ts 35 .lss 32 34] (T6 35 (sQ [oK 4 (-1)] (.ret)) (.skip))) (sQ [oK 4 0] (.ret))
def dX:SF:=⟨36,[.tm 4],sQ [oK 4 0] (T7 (sQ [oM 9 0,oN 10 9,oK 11 0] (.blk 0 (.loop fU))) fV)⟩
def eS:SC:=sQ [o 6 (.alloc [T8 0,T8 0]),Tw 2 6 10] (.ops [oM 7 11])
def cM:SC:=.blk 1 (sQ [oM 12 7,oL 13 3,TO 14 18 12 13] (T6 14 (.ops [oL 15 5,oF 16 1 6,oL 17 16,Ts 18 .add 15 17,Tw 1 5 18]) (.skip)))
def eT:SC:=sQ [oL 19 5,oM 4 19] (.ret)
def fS:SC:=sQ [o 5 (.alloc [T8 0]),oz (.store 1 (.t 5) (qI 0))] (T7 (sQ [oM 8 0,TN 9 100 8] (.blk 0 (.rng 20 (.t 9) [10,11] eS cM))) eT)
def dA:SF:=⟨20,[.tm 4],sQ [T2 3 1,oK 4 0] fS⟩
def lI:SF:=⟨6,[.tm 2],sQ [TT 2 false] (sQ [oM 3 0,oM 4 0,Ts 5 .neq 3 4,oM 2 5] (.ret))⟩
def ip:SC:=sQ [Ts 17 .lss 16 15] (T7 (T5 17 0) (T7 (.blk 1 (sQ [oX 18 14 16,oL 19 18,oM 7 19] (.ops [oM 20 5,oF 21 2 2,oL 22 21,oM 23 7,oX 24 22 23,oL 25 24,Ts 26 .mul 20 25,oM 5 26]))) (.ops [oA 27 16,oM 16 27])))
def im:SC:=.ops [oM 9 36]
def dF:SC:=sQ [Ts 43 .lss 42 41] (T7 (T5 43 4) (T7 (.blk 5 (sQ [oX 44 40 42,oL 45 44,oM 12 45] (T7 (sQ [oM 46 12,Tt 47 .lss 46 0,oM 48 47,TB 49 48 false 12,TB 50 48 false 10,TE 51 48 false .gtr 49 50,Ty 52 48 51] (T6 52 (sQ [oz (.store 1 (.t 4) (.k (.bool false)))] (.ret)) (.skip))) (.ops [oM 53 10,oM 54 12,Ts 55 .sub 53 54,oM 10 55])))) (.ops [oA 56 42,oM 42 56])))
def co:SC:=sQ [oM 57 9,oN 58 57,oF 59 0 3,oL 60 59,Ts 61 .neq 58 60,oM 62 61,TB 63 62 false 10,TF 64 62 false .neq 63 0,Ty 65 62 64] (T6 65 (sQ [oz (.store 1 (.t 4) (.k (.bool false)))] (.ret)) (.skip))
def iy:SC:=.blk 3 (sQ [oF 37 0 2,oF 38 0 37,oL 39 38,oM 10 39] (T7 (sQ [oM 40 9,oN 41 40,oK 42 0] (.blk 4 (.loop dF))) co))
def iz:SC:=sQ [oz (.store 1 (.t 4) (.k (.bool true)))] (.ret)
def iA:SC:=T7 (sQ [oF 28 2 3,oL 29 28,oN 30 29,oM 31 5,Ts 32 .neq 30 31] (T6 32 (sQ [oz (.store 1 (.t 4) (.k (.bool false)))] (.ret)) (.skip))) (T7 (sQ [Tu 33 3 3,TN 34 150 33] (.blk 2 (.rng 66 (.t 34) [35,36] im iy))) iz)
def i_:SC:=sQ [oK 5 1] (T7 (sQ [oF 13 1 3,oL 14 13,oN 15 14,oK 16 0] (.blk 0 (.loop ip))) iA)
def eV:SF:=⟨66,[.cell false 1 4],sQ [T2 2 0,T2 3 1,o 4 (.alloc [.bool false])] i_⟩
def pW:SC:=sQ [Ts 19 .lss 18 17] (T7 (T5 19 2) (T7 (.blk 3 (sQ [oM 20 18,oX 21 16 18,oL 22 21,oM 6 20,oM 7 22] (sQ [oM 23 5,oM 24 6,Ts 25 .shr 23 24,TV 26 .and 25 .u64 1,TV 27 .eql 26 .u64 0,oM 28 27,TB 29 28 true 7,TB 30 28 true 5,TE 31 28 true .andNot 29 30,og 32 28 true (.bin .eql (.t 31) (.k (T_ 0))),Tz 33 28 32] (T6 33 (sQ [oM 34 4,oM 35 6,TZ 36 35,TS 37 1 8 34 36,oM 4 37] (sQ [oM 38 5,oM 39 6,o 40 (.bin .shl (.k (T_ 1)) (.t 39)),Ts 41 .or 38 40,oM 5 41] (.exit 1))) (.skip))))) (.ops [oA 42 18,oM 18 42])))
def pY:SC:=sQ [TU 2,TT 3 false] (.ret)
def pX:SC:=T7 (sQ [oM 11 4,oN 12 11,oM 13 0,oN 14 13,Ts 15 .lss 12 14] (T5 15 0)) (.blk 1 (T7 (sQ [oM 16 0,oN 17 16,oK 18 0] (.blk 2 (.loop pW))) pY))
def pZ:SC:=sQ [oM 43 4,oM 2 43,TT 3 true] (.ret)
def pu:SF:=⟨44,[.tm 2,.tm 3],sQ [TU 2,TT 3 false] (sQ [oM 8 0,oN 9 8,o 10 (.mks 1 8 [T8 0] (qI 0) (.t 9)),oM 4 10,o 5 (.mv (.k (T_ 0)))] (T7 (.skip) (T7 (.blk 0 (.loop pX)) pZ)))⟩
def iD:SC:=sQ [Ts 9 .lss 8 7] (T7 (T5 9 0) (T7 (.blk 1 (sQ [oM 10 8,oM 5 10] (sQ [oM 11 1,oM 12 0,oM 13 5,oX 14 12 13,oL 15 14,Ts 16 .eql 11 15] (T6 16 (sQ [oM 17 5,oM 4 17] (.ret)) (.skip))))) (.ops [oA 18 8,oM 8 18])))
def iE:SC:=sQ [oK 4 (-1)] (.ret)
def e_:SF:=⟨19,[.tm 4],sQ [oK 4 0] (T7 (sQ [oM 6 0,oN 7 6,oK 8 0] (.blk 0 (.loop iD))) iE)⟩
def qY:SC:=sQ [Ts 17 .lss 16 15] (T7 (T5 17 0) (T7 (.blk 1 (sQ [oX 18 14 16,oL 19 18,oM 9 19] (.quiet [oM 20 7,oM 21 0,oM 22 9,TA 23 3 21 22,oF 24 0 23,oL 25 24,Ts 26 .mul 20 25,oM 27 2,oM 28 9,oX 29 27 28,oL 30 29,Ts 31 .add 26 30,oM 7 31]))) (.ops [oA 32 16,oM 16 32])))
def qZ:SC:=sQ [oM 33 7,oM 6 33] (.ret)
def qX:SF:=⟨34,[.tm 6],sQ [oK 6 0] (sQ [oK 7 0] (T7 (sQ [oM 10 0,oM 11 1,TA 12 3 10 11,oF 13 1 12,oL 14 13,oN 15 14,oK 16 0] (.blk 0 (.loop qY))) qZ))⟩
def bV:SC:=T7 (T7 (.quiet [oM 18 5,Tt 19 .geq 18 0,oM 20 19,TB 21 20 true 3,TB 22 20 true 5,TY 23 20 true 1 21 22,TC 24 20 true 23,TC 25 20 true 1,TB 26 20 true 5,TY 27 20 true 1 25 26,TC 28 20 true 27,TF 29 20 true .sub 28 1,TE 30 20 true .eql 24 29,Tz 31 20 30]) (T5 31 2)) (.blk 3 (sQ [oM 32 3,oM 33 5,oX 34 32 33,oz (.store 1 (.t 34) (qI 0))] (.ops [oM 35 5,Tt 36 .sub 35 1,oM 5 36])))
def bW:SC:=T7 (sQ [oM 37 5,Tt 38 .lss 37 0] (T6 38 (.ret) (.skip))) (.ops [oM 39 3,oM 40 5,oX 41 39 40,oL 42 41,oA 43 42,oX 44 39 40,Tw 1 44 43])
def cU:SC:=T4 13 4 14 13 4 14
def fW:SC:=T7 (sQ [oM 9 0,oM 10 4,oM 11 3,o 12 (.dyn (.t 9) [.t 10,.t 11])] (T5 12 0)) (T7 (.blk 1 (sQ [oL 15 1,oN 16 15,Tt 17 .sub 16 1,oM 5 17] (T7 (.blk 2 (.loop bV)) bW))) cU)
def aR:SF:=⟨45,[],sQ [oL 6 1,oN 7 6,o 8 (.mks 1 8 [T8 0] (.t 7) (.t 7)),oM 3 8] (sQ [oK 4 0] (.blk 0 (.loop fW)))⟩
def d9:SC:=sQ [oM 4 24] (.ops [oM 5 25])
def cy:SC:=sQ [Ts 32 .lss 31 30] (T7 (T5 32 2) (T7 (.blk 3 (sQ [oM 33 31,oX 34 29 31,oL 35 34,oM 6 33,oM 7 35] (.feet [0,0,0,0,12,28,63,127] [oL 36 3,oM 37 6,oM 38 5,oM 39 7,oX 40 38 39,oL 41 40,oX 42 36 37,Tw 1 42 41]))) (.ops [oA 43 31,oM 31 43])))
def cz:SC:=sQ [Ts 50 .lss 49 48] (T7 (T5 50 4) (T7 (.blk 5 (sQ [oX 51 47 49,oL 52 51,oM 10 52] (.quiet [oM 53 8,oL 54 1,Tx 55 54,oF 56 0 55,oF 57 1 56,oL 58 57,oM 59 10,TA 60 3 58 59,oF 61 0 60,oL 62 61,Ts 63 .mul 53 62,oM 64 5,oM 65 10,oX 66 64 65,oL 67 66,Ts 68 .add 63 67,oM 8 68]))) (.ops [oA 69 49,oM 49 69])))
def ea:SC:=T7 (.feet [0,0,0,4,12,28,0,124,252,510,0,2047,4095] [oL 70 2,oM 71 8,oL 72 1,Tx 73 72,oF 74 4 73,oL 75 74,oM 76 4,oX 77 75 76,oL 78 77,o 79 (.build [T8 0,T8 0] [(0,1),(1,1)] [.t 71,.t 78]),oL 80 3,o 81 (.dyn (.t 70) [.t 79,.t 80]),TW 82 81]) (T6 82 (.ret) (.skip))
def ec:SC:=sQ [oK 8 0] (T7 (sQ [oL 44 1,Tx 45 44,oF 46 3 45,oL 47 46,oN 48 47,oK 49 0] (.blk 4 (.loop cz))) ea)
def d_:SC:=.blk 1 (T7 (sQ [oL 26 1,Tx 27 26,oF 28 2 27,oL 29 28,oN 30 29,oK 31 0] (.blk 2 (.loop cy))) ec)
def eJ:SC:=sQ [oL 11 1,Tx 12 11,oF 13 2 12,oL 14 13,oN 15 14,o 16 (.mks 1 8 [T8 0] (.t 15) (.t 15)),o 3 (.alloc [.nils]),Tw 1 3 16] (sQ [oL 17 1,Tx 18 17,oF 19 0 18,oF 20 1 19,oL 21 20,TN 22 97 21,TN 23 96 22] (.blk 0 (.rng 83 (.t 23) [24,25] d9 d_)))
def aW:SF:=⟨83,[],sQ [T2 2 0] eJ⟩
def tV:SC:=sQ [o 3 (.mkf 165 [] [.t 1]),oM 2 3] (.ret)
def s_:SF:=⟨4,[.tm 2],sQ [T2 1 0,o 2 (.mv (.k (.nilf)))] tV⟩
def pV:SC:=sQ [Ts 9 .lss 8 7] (T7 (T5 9 0) (T7 (.blk 1 (sQ [oM 10 8,oX 11 6 8,oL 12 11,oM 3 10,oM 4 12] (sQ [oM 13 0,oM 14 3,oM 15 4,o 16 (.dyn (.t 13) [.t 14,.t 15]),TW 17 16] (T6 17 (.ret) (.skip))))) (.ops [oA 18 8,oM 8 18])))
def fC:SF:=⟨19,[],sQ [oF 5 2 1,oL 6 5,oN 7 6,oK 8 0] (.blk 0 (.loop pV))⟩
theorem s8[XOc]:nFn C0 15=some jb:=by kernel_rfl
@[reducible] def TL[XOc](f:Nat):Prop:=∀(d:Nat)(xs:List AV)(g:G),ay C0 d f xs g=ap (I C0) d g f xs
@[reducible] def TM[XOc](f:Nat):Prop:=∀(t:T)(g:G)(xs:List Od),SO.foot C0 t g (.call f xs)=ah ((ff t xs).flatMap (aE g.h aD))
theorem qz[XOc]:TL 15:=λ_ _ _=>by kernel_rfl
theorem xM[XOc]:nFn C0 16=some m6:=by kernel_rfl
theorem uM[XOc]:TL 16:=λ_ _ _=>by kernel_rfl
theorem qj[XOc]:nFn C0 18=some dg:=by kernel_rfl
theorem nP[XOc]:TL 18:=λ_ _ _=>by kernel_rfl
theorem AQ[XOc]:nFn C0 25=some qR:=by kernel_rfl
theorem xz[XOc]:TL 25:=λ_ _ _=>by kernel_rfl
theorem uV[XOc]:nFn C0 26=some ky:=by kernel_rfl
theorem sW[XOc]:TL 26:=λ_ _ _=>by kernel_rfl
theorem tT[XOc]:nFn C0 31=some jD:=by kernel_rfl
theorem sA[XOc]:TL 31:=λ_ _ _=>by kernel_rfl
theorem xO[XOc]:nFn C0 32=some nh:=by kernel_rfl
theorem uO[XOc]:TL 32:=λ_ _ _=>by kernel_rfl
theorem qi[XOc]:nFn C0 37=some dc:=by kernel_rfl
theorem ox[XOc](t:T)(g:G)(xs:List Od):SO.foot C0 t g (.call 37 xs)=bT:=by kernel_rfl
theorem nO[XOc](d:Nat)(xs:List AV)(g:G):ay C0 d 37 xs g=orF ((I C0).call d 37 xs g):=by kernel_rfl
theorem lH[XOc]:nFn C0 47=some cT:=by kernel_rfl
theorem kC[XOc]:TM 47:=λ_ _ _=>by kernel_rfl
theorem j_[XOc]:TL 47:=λ_ _ _=>by kernel_rfl
theorem za[XOc]:nFn C0 48=some py:=by kernel_rfl
theorem wh[XOc]:TL 48:=λ_ _ _=>by kernel_rfl
theorem qF[XOc]:nFn C0 49=some gc:=by kernel_rfl
theorem pd[XOc]:TL 49:=λ_ _ _=>by kernel_rfl
theorem AP[XOc]:nFn C0 50=some qK:=by kernel_rfl
theorem xV[XOc]:TM 50:=λ_ _ _=>by kernel_rfl
theorem xy[XOc]:TL 50:=λ_ _ _=>by kernel_rfl
theorem qC[XOc]:nFn C0 51=some dw:=by kernel_rfl
theorem oY[XOc]:TL 51:=λ_ _ _=>by kernel_rfl
theorem pp[XOc]:nFn C0 52=some eE:=by kernel_rfl
theorem mV[XOc]:TL 52:=λ_ _ _=>by kernel_rfl
theorem xR[XOc]:nFn C0 53=some nk:=by kernel_rfl
theorem uR[XOc]:TL 53:=λ_ _ _=>by kernel_rfl
theorem jU[XOc]:nFn C0 57=some bE:=by kernel_rfl
theorem jn[XOc]:TL 57:=λ_ _ _=>by kernel_rfl
theorem nX[XOc]:nFn C0 58=some dV:=by kernel_rfl
theorem my[XOc]:TL 58:=λ_ _ _=>by kernel_rfl
theorem Ch[XOc]:nFn C0 68=some ta:=by kernel_rfl
theorem y6[XOc]:TL 68:=λ_ _ _=>by kernel_rfl
theorem gg[XOc]:nFn C0 71=some aU:=by kernel_rfl
theorem eP[XOc]:TL 71:=λ_ _ _=>by kernel_rfl
theorem tS[XOc]:nFn C0 80=some dz:=by kernel_rfl
theorem su[XOc]:TL 80:=λ_ _ _=>by kernel_rfl
theorem Cf[XOc]:nFn C0 87=some lJ:=by kernel_rfl
theorem yZ[XOc]:TL 87:=λ_ _ _=>by kernel_rfl
theorem qE[XOc]:nFn C0 91=some f_:=by kernel_rfl
theorem o_[XOc]:TL 91:=λ_ _ _=>by kernel_rfl
theorem xN[XOc]:nFn C0 92=some nf:=by kernel_rfl
theorem uN[XOc]:TL 92:=λ_ _ _=>by kernel_rfl
theorem qD[XOc]:nFn C0 93=some fZ:=by kernel_rfl
theorem oZ[XOc]:TL 93:=λ_ _ _=>by kernel_rfl
theorem mZ[XOc]:nFn C0 94=some dG:=by kernel_rfl
theorem lC[XOc]:TL 94:=λ_ _ _=>by kernel_rfl
theorem uW[XOc]:nFn C0 95=some kA:=by kernel_rfl
theorem tc[XOc](t:T)(g:G)(xs:List Od):SO.foot C0 t g (.call 95 xs)=bT:=by kernel_rfl
theorem sX[XOc](d:Nat)(xs:List AV)(g:G):ay C0 d 95 xs g=orF ((I C0).call d 95 xs g):=by kernel_rfl
theorem ql[XOc]:nFn C0 96=some fc:=by kernel_rfl
theorem nR[XOc]:TL 96:=λ_ _ _=>by kernel_rfl
theorem xQ[XOc]:nFn C0 97=some nj:=by kernel_rfl
theorem uQ[XOc]:TL 97:=λ_ _ _=>by kernel_rfl
theorem zb[XOc]:nFn C0 98=some pz:=by kernel_rfl
theorem qe[XOc]:TM 98:=λ_ _ _=>by kernel_rfl
theorem wi[XOc]:TL 98:=λ_ _ _=>by kernel_rfl
theorem nY[XOc]:nFn C0 99=some dW:=by kernel_rfl
theorem fX[XOc]:TM 99:=λ_ _ _=>by kernel_rfl
theorem mz[XOc]:TL 99:=λ_ _ _=>by kernel_rfl
theorem mY[XOc]:nFn C0 100=some dB:=by kernel_rfl
theorem lB[XOc]:TL 100:=λ_ _ _=>by kernel_rfl
theorem gi[XOc]:nFn C0 101=some bI:=by kernel_rfl
theorem lY[XOc]:TM 101:=λ_ _ _=>by kernel_rfl
theorem eQ[XOc]:TL 101:=λ_ _ _=>by kernel_rfl
theorem nZ[XOc]:nFn C0 106=some dX:=by kernel_rfl
theorem mA[XOc]:TL 106:=λ_ _ _=>by kernel_rfl
theorem mX[XOc]:nFn C0 108=some dA:=by kernel_rfl
theorem lA[XOc]:TL 108:=λ_ _ _=>by kernel_rfl
theorem wk[XOc]:nFn C0 111=some lI:=by kernel_rfl
theorem tL[XOc]:TL 111:=λ_ _ _=>by kernel_rfl
theorem qh[XOc]:nFn C0 123=some eV:=by kernel_rfl
theorem nN[XOc]:TL 123:=λ_ _ _=>by kernel_rfl
theorem y_[XOc]:nFn C0 124=some pu:=by kernel_rfl
theorem wg[XOc]:TL 124:=λ_ _ _=>by kernel_rfl
theorem qk[XOc]:nFn C0 129=some e_:=by kernel_rfl
theorem nQ[XOc]:TL 129:=λ_ _ _=>by kernel_rfl
theorem AR[XOc]:nFn C0 130=some qX:=by kernel_rfl
theorem xA[XOc]:TL 130:=λ_ _ _=>by kernel_rfl
theorem n7[XOc]:nFn C0 131=some aR:=by kernel_rfl
theorem lF[XOc]:nFn C0 132=some aW:=by kernel_rfl
theorem Cg[XOc]:nFn C0 150=some s_:=by kernel_rfl
theorem y5[XOc]:TL 150:=λ_ _ _=>by kernel_rfl
theorem y9[XOc]:nFn C0 165=some fC:=by kernel_rfl
def gwX[XOc]:SC:=match nFn C0 107 with|some ⟨_,_,.seq _ (@SC.seq (.seq _ (.cond _ x _)) _)⟩=>x|_=>.skip
def ccX[XOc]:SC:=match nFn C0 72 with|some ⟨_,_,.seq _ (.seq _ (@SC.seq (.seq _ (.blk _ (.loop (.seq _ (.seq _ (@SC.seq (.blk _ (.seq _ (.seq _ (.seq _ (.cond _ x _))))) _)))))) _))⟩=>x|_=>.skip
def ol:SC:=sQ [oM 26 0,oM 4 26] (.ret)
def qa:SC:=.ops [oM 17 0,oM 18 0,o 19 (.raw (.call ⟨.builtin .cap,#[.tmp 18],#[31]⟩)),o 20 (.slc 1 (.t 17) [] [.t 19]),oM 21 1,o 22 (.raw (.call ⟨.builtin .append,#[.tmp 20,.tmp 21],#[31,3]⟩)),oM 23 0,oN 24 23,o 25 (.slc 1 (.t 22) [] [.t 24]),oM 0 25]
def om:SC:=T7 (sQ [oM 8 1,oM 9 0,o 10 (.raw (.call ⟨.builtin .cap,#[.tmp 9],#[31]⟩)),oM 11 0,oN 12 11,Ts 13 .sub 10 12,Ts 14 .sub 8 13,oM 1 14] (sQ [oM 15 1,Tt 16 .gtr 15 0] (T6 16 qa (.skip)))) ol
def ni[XOc]:SF:=⟨27,[.tm 4],sQ [TU 4] (T7 (sQ [oM 5 1,Tt 6 .lss 5 0] (T6 6 gwX (.skip))) om)⟩
def gF:SC:=.ops [oA 22 11,oM 11 22]
def gD[XOc]:SC:=sQ [Ts 12 .lss 11 10] (T7 (T5 12 0) (T7 (.blk 1 (sQ [oX 13 9 11,oL 14 13,oM 5 14] (sQ [oM 15 3,oM 16 5,oN 17 16,Ts 18 .add 15 17,oM 3 18] (sQ [oM 19 3,Tt 20 .lss 19 0] (T6 20 ccX (.skip)))))) gF))
def gE:SC:=sQ [Ts 28 .lss 27 26] (T7 (T5 28 2) (T7 (.blk 3 (sQ [oX 29 25 27,oL 30 29,oM 8 30] (.ops [oM 31 6,oM 32 8,TS 33 1 8 31 32,oM 6 33]))) (.ops [oA 34 27,oM 27 34])))
def gG:SC:=sQ [oM 35 6,oM 2 35] (.ret)
def gH:SC:=sQ [oM 23 3,o 24 (.call 107 [.k (.nils),.t 23]),oM 6 24] (T7 (sQ [oM 25 0,oN 26 25,oK 27 0] (.blk 2 (.loop gE))) gG)
def eG[XOc]:SF:=⟨36,[.tm 2],sQ [TU 2] (sQ [oK 3 0] (T7 (sQ [oM 9 0,oN 10 9,oK 11 0] (.blk 0 (.loop gD))) gH))⟩
theorem xP[XOc]:nFn C0 107=some ni:=by kernel_rfl
theorem uP[XOc](d:Nat)(xs:List AV)(g:G):ay C0 d 107 xs g=orF ((I C0).call d 107 xs g):=by kernel_rfl
theorem pq[XOc]:nFn C0 72=some eG:=by kernel_rfl
theorem nm[XOc](t:T)(g:G)(xs:List Od):SO.foot C0 t g (.call 72 xs)=ah ((ff t xs).flatMap (aE g.h aD)):=by kernel_rfl
theorem mW[XOc](d:Nat)(xs:List AV)(g:G):ay C0 d 72 xs g=ap (I C0) d g 72 xs:=by kernel_rfl
theorem HW[XOc]{n:Nat}{rd:Option Nat}{t:T}:(bS C0 (.call ⟨.builtin .cap,#[.tmp n],#[31]⟩)).run (I C0) d rd t g=B5 (tat t n) g:=by
 have h:(bS C0 (.call ⟨.builtin .cap,#[.tmp n],#[31]⟩)).run (I C0) d rd t g=B5 ((gp AV.undef n).run t) g:=by kernel_rfl
 rw[h,gp_run];rfl
theorem EU[XOc]{n m:Nat}{rd:Option Nat}{t:T}:(bS C0 (.call ⟨.builtin .append,#[.tmp n,.tmp m],#[31,3]⟩)).run (I C0) d rd t g=kT 1 8 [T8 0] (tat t n) (tat t m) g:=by
 have h:(bS C0 (.call ⟨.builtin .append,#[.tmp n,.tmp m],#[31,3]⟩)).run (I C0) d rd t g=kT 1 8 [T8 0] ((gp AV.undef n).run t) ((gp AV.undef m).run t) g:=by kernel_rfl
 rw[h,gp_run,gp_run];rfl
def mG:SC:=sQ [Tu 13 2 3,oM 14 1,oL 15 5,TP 16 51 13 14 15,oM 12 16,Tv 17 12 0,Tv 18 12 1,o 9 (.alloc [.nilp]),Tw 1 9 17,oM 8 18] (T7 (sQ [oM 19 8,Tt 20 .neq 19 0] (T6 20 (sQ [oM 21 8,oz (.store 1 (.t 6) (.k (.nils))),oz (.store 1 (.t 7) (.k (.nils))),oM 8 21] (.ret)) (.skip))) (T7 (sQ [oL 22 9,Tx 23 22,oF 24 5 23,oL 25 24,Tt 26 .eql 25 0] (T6 26 (sQ [oz (.store 1 (.t 6) (.k (.nils))),oz (.store 1 (.t 7) (.k (.nils))),oK 8 7] (.ret)) (.skip))) (sQ [oL 28 9,TN 29 52 28,oM 27 29,Tv 30 27 0,Tv 31 27 1,o 10 (.alloc [T8 0]),Tw 1 6 30,Tw 1 10 31] (sQ [o 11 (.alloc [.nilf])] (sQ [o 32 (.mkf 70 [] [.t 9,.t 6,.t 10,.t 7,.t 5,.t 11]),Tw 1 11 32] (sQ [oL 33 11,o 34 (.dyn (.t 33) [.k (.nils)])] (T7 (.feet [0,0,1,7,15] [oL 35 6,oL 36 7,Tw 1 6 35,Tw 1 7 36,oK 8 0]) (.ret))))))))
def kh:SF:=⟨37,[.cell false 1 6,.cell false 1 7,.tm 8],sQ [T2 3 0,T2 5 2,o 6 (.alloc [.nils]),o 7 (.alloc [.nils]),oK 8 0] mG⟩
def dO:SC:=sQ [Tt 49 .lss 48 3] (T7 (T5 49 0) (T7 (.blk 1 (sQ [o 50 (.ix false 3 1 (.t 47) (.t 48)),oM 14 50] (.ops [oM 51 14,o 52 (.dyn (.t 51) [])]))) (.ops [oA 53 48,oM 48 53])))
def dP:SC:=sQ [oz (.store 1 (.t 10) (qI 0))] (.ret)
def mH:SC:=sQ [Tu 16 2 5,oM 17 1,oM 18 2,TP 19 51 16 17 18,oM 15 19,Tv 20 15 0,Tv 21 15 1,oM 11 20,Tw 1 10 21] (T7 (sQ [oL 22 10,Tt 23 .neq 22 0] (T6 23 (sQ [oL 24 10,Tw 1 10 24] (.ret)) (.skip))) (T7 (sQ [oM 25 3,oN 26 25,oM 27 2,oN 28 27,Ts 29 .neq 26 28,oM 30 29,TB 31 30 false 11,TB 32 30 false 3,og 33 30 false (.call 57 [.t 31,.t 32]),og 34 30 false (.not (.t 33)),Ty 35 30 34] (T6 35 (sQ [oz (.store 1 (.t 10) (qI 2))] (.ret)) (.skip))) (sQ [o 36 (.mkf 73 [] [.t 10]),oz (.raw (.defer ⟨.value (.tmp 36),#[],#[]⟩))] (sQ [oM 37 11,oM 38 3,oM 39 4,o 40 (.build [.nilp,.nils,.nils] [(0,1),(1,1),(2,1)] [.t 37,.t 38,.t 39]),o 12 (.alloc [.nilp,.nils,.nils]),Tw 3 12 40] (T7 (sQ [Tu 41 3 12,o 42 (.mkf 74 [.t 41] []),Tu 43 3 12,o 44 (.mkf 75 [.t 43] []),Tu 45 3 12,o 46 (.mkf 76 [.t 45] []),o 47 (.build [.nilf,.nilf,.nilf] [(0,1),(1,1),(2,1)] [.t 42,.t 44,.t 46]),oK 48 0] (.blk 0 (.loop dO))) dP)))))
def km:SF:=⟨54,[.cell false 1 10],sQ [T2 5 0,o 10 (.alloc [T8 0])] mH⟩
def jV:SC:=sQ [Ts 32 .lss 31 30] (T7 (T5 32 0) (T7 (.blk 1 (sQ [oM 33 31,oM 8 33] (.feet [0,0,0,4,14,30,63] [oL 34 6,oM 35 0,oM 36 8,TZ 37 36,o 38 (.bsl 1 2 [.nils] [0,1] [.t 35,.t 37]),TN 39 72 38,o 40 (.dyn (.t 34) [.t 39])]))) (.ops [oA 41 31,oM 31 41])))
def c_:SF:=⟨42,[],.seq (sQ [oL 9 1,oM 10 0,oL 11 2,oL 12 3,TQ 13 71 9 10 11 12] (T6 13 (sQ [oL 14 4,oM 15 0,T0 16 15,TS 17 1 24 14 16,Tw 1 4 17] (.ret)) (.skip))) (T7 (.quiet [oL 18 1,Tx 19 18,oF 20 0 19,oF 21 1 20,oL 22 21,oL 23 5,oM 24 0,oN 25 24,oX 26 23 25,oL 27 26,TA 28 3 22 27,oF 29 0 28,oL 30 29,oK 31 0]) (.blk 0 (.loop jV)))⟩
def da:SF:=⟨3,[],sQ [o 1 (.raw (.call ⟨.builtin .recover,#[],#[]⟩)),o 2 (.eq true (.iface true) (.t 1) (.k (.nili)))] (T6 2 (.ops [oz (.store 1 (.t 0) (qI 190))]) (.skip))⟩
def gt:SC:=.ops [oA 20 7,oM 7 20]
def gq:SC:=sQ [Ts 8 .lss 7 6] (T7 (T5 8 0) (T7 (.blk 1 (sQ [oM 9 7,oX 10 5 7,oL 11 10,oM 2 9,oM 3 11] (sQ [oF 12 0 1,oL 13 12,oM 14 3,TO 15 57 13 14,TW 16 15] (T6 16 (.ops [oM 17 2,o 18 (.build [T8 0] [(0,1)] [.t 17]),o 19 (.raw (.makeInterface 175 (.tmp 18))),oz (.raw (.panic (.tmp 19)))]) (.skip))))) gt))
def ic:SC:=sQ [oF 4 2 1,oL 5 4,oN 6 5,oK 7 0] (.blk 0 (.loop gq))
def eC:SF:=⟨21,[],sQ [T2 1 0] ic⟩
def mC:SC:=.ops [oA 59 34,oM 34 59]
def cS:SC:=sQ [Ts 35 .lss 34 33] (T7 (T5 35 2) (T7 (.blk 3 (sQ [oM 36 34,oM 7 36] (sQ [oF 37 0 1,oL 38 37,oM 39 5,TO 40 101 38 39,oM 41 6,Ts 42 .mul 40 41,oM 43 7,Ts 44 .add 42 43,oM 8 44] (sQ [oM 45 3,oM 46 8,oX 47 45 46,oL 48 47,oA 49 48,oX 50 45 46,Tw 1 50 49] (sQ [oM 51 3,oM 52 8,oX 53 51 52,oL 54 53,Tt 55 .gtr 54 1] (T6 55 (.ops [oM 56 4,o 57 (.build [T8 0] [(0,1)] [.t 56]),o 58 (.raw (.makeInterface 175 (.tmp 57))),oz (.raw (.panic (.tmp 58)))]) (.skip))))))) mC))
def fK:SC:=.ops [oA 60 23,oM 23 60]
def fJ:SC:=sQ [Ts 24 .lss 23 22] (T7 (T5 24 0) (T7 (.blk 1 (sQ [oM 25 23,oX 26 21 23,oL 27 26,oM 4 25,oM 5 27] (sQ [oM 28 2,oM 29 5,oN 30 29,o 31 (.slc 1 (.t 28) [.t 30] []),TN 32 98 31,oM 6 32] (sQ [oM 33 6,oK 34 0] (.blk 2 (.loop cS)))))) fK))
def fL:SC:=sQ [oM 61 3,o 62 (.call 94 [.t 61,.k (T8 0)])] (T6 62 (.ops [oF 63 2 1,oL 64 63,oN 65 64,o 66 (.build [T8 0] [(0,1)] [.t 65]),o 67 (.raw (.makeInterface 175 (.tmp 66))),oz (.raw (.panic (.tmp 67)))]) (.skip))
def gm:SC:=T7 (.quiet [oF 9 0 1,oL 10 9,oF 11 0 1,oL 12 11,Tx 13 12,oF 14 2 13,oL 15 14,TO 16 99 10 15,oM 2 16]) (sQ [oM 17 2,TN 18 98 17,o 19 (.mks 1 8 [T8 0] (.t 18) (.t 18)),oM 3 19] (T7 (sQ [oF 20 2 1,oL 21 20,oN 22 21,oK 23 0] (.blk 0 (.loop fJ))) fL))
def dR:SF:=⟨68,[],sQ [T2 1 0] gm⟩
def fI:SC:=.ops [oA 29 13,oM 13 29]
def fH:SC:=sQ [Ts 14 .lss 13 12] (T7 (T5 14 0) (T7 (.blk 1 (sQ [oM 15 13,oX 16 11 13,oL 17 16,oM 3 15,oM 4 17] (sQ [oF 18 0 1,oL 19 18,oM 20 4,oF 21 1 1,oL 22 21,oM 23 2,TQ 24 71 19 20 22 23,TW 25 24] (T6 25 (.ops [oM 26 3,o 27 (.build [T8 0] [(0,1)] [.t 26]),o 28 (.raw (.makeInterface 175 (.tmp 27))),oz (.raw (.panic (.tmp 28)))]) (.skip))))) fI))
def gk:SC:=sQ [oF 5 0 1,oL 6 5,oF 7 1 1,oL 8 7,TO 9 108 6 8,oM 2 9] (sQ [oF 10 2 1,oL 11 10,oN 12 11,oK 13 0] (.blk 0 (.loop fH)))
def dQ:SF:=⟨30,[],sQ [T2 1 0] gk⟩
theorem uT[XOc]:nFn C0 23=some kh:=by kernel_rfl
theorem sV[XOc](d:Nat)(xs:List AV)(g:G):ay C0 d 23 xs g=ap (I C0) d g 23 xs:=by kernel_rfl
theorem uU[XOc]:nFn C0 27=some km:=by kernel_rfl
theorem lD[XOc]:nFn C0 70=some c_:=by kernel_rfl
theorem lE[XOc]:nFn C0 73=some da:=by kernel_rfl
theorem po[XOc]:nFn C0 74=some eC:=by kernel_rfl
theorem nW[XOc]:nFn C0 75=some dR:=by kernel_rfl
theorem nV[XOc]:nFn C0 76=some dQ:=by kernel_rfl
@[reducible] def TK(l:List Bool):List Bool:=false::false::l
@[reducible] def TJ(l:List Bool):List Bool:=false::false::false::false::l
@[reducible] def TH(l:List Bool):List Bool:=false::false::false::false::false::false::false::false::l
theorem pT{α:Type}{f:Nat->α->Nat->α->Bool}{i:Nat}{x:α}:∀{l:List α} {j:Nat},(∀b y,l[b]?=some y->f i x (j+b) y=true)->fy f i x j l=true
 |[],_,_=>rfl
 | y::r,j,h=>by simp only[fy,Qt];refine⟨by simpa using h 0 y rfl,pT λb z hb=>?_⟩;have:=h (b+1) z (by simpa using hb);rwa [show j+(b+1)=j+1+b by omega]at this
theorem vE{α:Type}{f:Nat->α->Nat->α->Bool}:∀{l:List α} {i:Nat},(∀a b x y,a<b->l[a]?=some x->l[b]?=some y->f (i+a) x (i+b) y=true)->jT f i l=true
 |[],_,_=>rfl
 | x::r,i,h=>by
  simp only[jT,Qt];refine⟨pT λb y hb=>?_,vE λa b x' y hab ha hb=>?_⟩
  ·have:=h 0 (b+1) x y (by omega) rfl (by simpa using hb);rwa [RY,show i+(b+1)=i+1+b by omega]at this
  ·have:=h (a+1) (b+1) x' y (by omega) (by simpa using ha) (by simpa using hb);rwa [show i+(a+1)=i+1+a by omega,show i+(b+1)=i+1+b by omega]at this
theorem vZ{pm:List Nat}:∀{l:List Foot} {i:Nat},(∀f∈l,f.lk.sr=[])->rK pm i l=true
 |[],_,_=>rfl
 | x::r,i,h=>by simp only[rK,h x (by simp)];exact vZ λf hf=>h f (by simp[hf])
def J8(pm:List Nat)(ws:List Bool)(L:List (Nat×Nat))(i j:Nat):Bool:=(pm.getD j 0).testBit i || (!(ws.getD i false)&&!(ws.getD j false)) || L.contains (i,j)
def LZ(pm:List Nat)(ws:List Bool)(L:List (Nat×Nat)):Bool:=(List.range ws.length).all λj=>(List.range j).all λi=>J8 pm ws L i j
theorem aT{pm:List Nat}{fs:List Foot}(ws:List Bool)(L:List (Nat×Nat))(hw:All2 (λ(f:Foot) (w:Bool)=>f.lk.sr=[]/\(w=false->f.wr=[])) fs ws)(hd:LZ pm ws L=true)
  (hL:∀p∈L,∀x y,fs[p.1]?=some x->fs[p.2]?=some y->bG x y=true):pA pm fs=true:=by
 unfold pA;rw[aa,Qw]
 ·exact vZ λf hf=>by obtain⟨i,hi,rfl⟩:=RP.1 hf;obtain⟨w,-,h⟩:=hw.get (Qr hi);exact h.1
 ·refine vE λa b x y hab ha hb=>?_;simp only[Rn];obtain⟨wa,d,ka⟩:=hw.get ha;obtain⟨wb,k,kb⟩:=hw.get hb;have c:=(Qs.1 k).1;have:=QB.1 (QB.1 hd b (QE.2 c)) a (QE.2 hab);simp only[J8,Rg]at this;rcases this with (h|h)|h
  ·rw[h,SG]
  ·simp only[R1,d,k,Qz,Qt,RL]at h;have ex:=ka.2 h.1;have ey:=kb.2 h.2;simp only[bG,je,fD,ex,ey,SU,Bool.or_true]
  ·rw[hL (a,b) (SL.1 h) x y ha hb,Bool.or_true]
theorem BK{x y:Foot}{b:Nat}(hx:∀i∈x.wr,b<=i)(hy:y.wr=[])(hb:y.lk.big=false)(hr:∀i∈y.lk.rd,i<b)(hs:y.lk.sr=[]):bG x y=true:=by
 have k:meets x.wr []=false:=by simp[meets]
 have a:meets x.wr y.lk.rd=false:=by simp only[meets,List.any_eq_false];intro i hi h;have h1:=hx i hi;have h2:=hr i (SL.1 h);omega
 simp only[bG,je,fD,hy,hb,hs,k,a,fst1,RQ,Sx,SU,SV]
 split<;>rfl
structure Mech where
 card:Int
 frm:List Int
 noise:List Int
 out:List Int
structure Causal where
 grain:Int
 roots:List (List Int)
 nodes:List Mech
structure Node where
 card:Int
 parents:List Int
 rows:List (List Int)
structure Net where
 grain:Int
 nodes:List Node
structure Factor where
 vars:List Int
 cards:List Int
 w:List Int
instance : Rp Mech:=Rp.via λm:Mech=>(m.card,m.frm,m.noise,m.out)
instance : Rp Causal:=Rp.via λm:Causal=>(m.grain,m.roots,m.nodes)
instance : Rp Node:=Rp.via λm:Node=>(m.card,m.parents,m.rows)
instance : Rp Net:=Rp.via λm:Net=>(m.grain,m.nodes)
instance : Rp Factor:=Rp.via λm:Factor=>(m.vars,m.cards,m.w)
section
variable {P:Nat->Prop}{k:Nat}{h:H}{cs:List AV}
theorem eL{m:Node}:Rp.rp P k h m cs↔∃a b,cs=[T8 m.card,a,b]/\SlR P k h m.parents a/\SlR P k h m.rows b:=by
 constructor
 ·rintro⟨c1,c,rfl,h1,d1,d2,rfl,⟨a,rfl,h2⟩,⟨b,rfl,h3⟩⟩;rw[aG.1 h1];exact⟨a,b,rfl,h2,h3⟩
 ·rintro⟨a,b,rfl,h2,h3⟩;exact⟨[T8 m.card],[a,b],rfl,aG.2 rfl,[a],[b],rfl,⟨a,rfl,h2⟩,⟨b,rfl,h3⟩⟩
theorem jK{m:Net}:Rp.rp P k h m cs↔∃a,cs=[T8 m.grain,a]/\SlR P k h m.nodes a:=by
 constructor
 ·rintro⟨c1,b,rfl,h1,⟨a,rfl,h2⟩⟩;rw[aG.1 h1];exact⟨a,rfl,h2⟩
 ·rintro⟨a,rfl,h2⟩;exact⟨[T8 m.grain],[a],rfl,aG.2 rfl,⟨a,rfl,h2⟩⟩
end
theorem SlR.len{α:Type} [Rp α]{P:Nat->Prop}{k:Nat}{h:H}{l:List α}{v:AV}(r:SlR P k h l v)(g:G):bY .slice v g=.val (T8 (l.length:Int)):=by obtain⟨rows,h1,h2⟩:=r.rows;rw[jH h1,h2.len]
theorem SlR.tree{α:Type} [Rp α]{k k':Nat}{h h':H}{l:List α}{v:AV}(r:SlR NoP k h l v)(hk:k<=k'):SlR NoP k' h' l v:=by obtain⟨w,hw,q⟩:=Rp.tree (P:=NoP) (k':=k') (h':=h') (show Rp.rp NoP k h l [v] from ⟨v,rfl,r⟩) hk;injection hw with hw;subst hw;exact q
theorem bj{α:Type} [Rp α]{P:Nat->Prop}{k:Nat}{h:H}{l:List α}(r:SlR P k h l v)(d:Nat)(hd:Rp.dp (List α)<=20:=by decide) :
  ∃v',Hx.snap h d aD v=some v'/\∀h',SlR NoP (max k d) h' l v':=by
 obtain⟨v',e,w,hw,q⟩:=qu (bi l hd) (by decide) d (show One l P k h v from ⟨v,rfl,r⟩);injection hw with hw;subst hw;exact⟨v',e,λh'=>q.tree (Qq _)⟩
theorem SlR.all{α:Type} [Rp α]{k:Nat}{h:H}{l:List α}(r:SlR NoP k h l v) :
  ∃rows:List (List AV),(∀h',am h' (Rp.sz α) v=some rows)/\rows.length=l.length/\(∀(i:Nat) (x:α),l[i]?=some x->∃row,rows[i]?=some row/\Rp.rp NoP k .nil x row)/\(0<l.length->wx v=true):=by
 have r0:=(r.tree (h':=.nil) (Qq _));obtain⟨rows,h1,h2⟩:=r0.rows;refine⟨rows,λh'=>?_,h2.len.symm,λi x hi=>h2.get hi,λhl=>Md h1 (i:=0) (by rw[<-h2.len];exact hl)⟩;rw[<-h1];exact vS λid ep off len lim e=>by subst e;exact r.2.1.elim
theorem AC{P:Nat->Prop}{k:Nat}{h:H}{l:List Nat}(r:SlR P k h l v):∀x∈l,x<18446744073709551616:=by obtain⟨rows,h1,h2⟩:=r.rows;intro x hx;obtain⟨i,hi,e⟩:=RP.1 hx;obtain⟨row,h3,h4⟩:=h2.get (i:=i) (a:=x) (by rw[Qr hi,e]);exact (EQ.1 h4).2
theorem iI(p:Nat->Bool)(j:Nat):(List.range (j+1)).all p=((List.range j).all p&&p j):=by rw[Ry,List.all_append];simp
section
def Els(g:G)(b:Nat)(v:AV):Nat->Prop:=λi=>b<=i/\i<g.nx/\vid v≠some i
def OwnT{α:Type} [Rp α](g:G)(b:Nat)(k:Nat)(v:AV)(l:List α):Prop:=∃rows,Own g b v (Rp.sz α) rows/\All2 (Rp.rp (Els g b v) k g.h) l rows
variable {α:Type} [Rp α]{g g':G}{b k:Nat}{v:AV}{l:List α}
theorem OwnT.nils:OwnT g b k .nils ([]:List α):=⟨[],.inl ⟨rfl,rfl⟩,trivial⟩
theorem OwnT.sl(h:OwnT g b k v l)(hl:l.length<9223372036854775808):SlR (λi=>b<=i/\i<g.nx) k g.h l v:=by obtain⟨rows,h1,h2⟩:=h;exact Own.sl h1 hl (h2.mono λx cs r=>Rp.mono r (λi hi=>⟨⟨hi.1,hi.2.1⟩,rfl⟩) (Qq _)) λi hi=>h1.lt hi
theorem OwnT.fr(h:OwnT g b k v l)(hn:g.nx<=g'.nx)(hf:∀i,b<=i->i<g.nx->g'.h.get i=g.h.get i):OwnT g' b k v l:=by obtain⟨rows,h1,h2⟩:=h;exact⟨rows,h1.fr hn λi hi=>hf i (h1.lt hi).1 (h1.lt hi).2,h2.mono λx cs r=>Rp.mono r (λi hi=>⟨⟨hi.1,QR hi.2.1 hn,hi.2.2⟩,hf i hi.1 hi.2.1⟩) (Qq _)⟩
theorem OwnT.step(h:OwnT g b k v l)(f:Fr g g'):OwnT g' b k v l:=h.fr f.1 λi _ hi=>f.2 i hi
theorem OwnT.lt(h:OwnT g b k v l){i:Nat}(hi:vid v=some i):b<=i/\i<g.nx:=by obtain⟨rows,h1,-⟩:=h;exact h1.lt hi
theorem vG{x:AV}{y:α}{cs:List AV}{bytes:Nat}{K:AV->G->Prop}{D:ADf->Prop}(hv:OwnT g b k v l)(hx:am g.h (Rp.sz α) x=some [cs])(hy:Rp.rp (Els g b v) k g.h y cs)(hb:b<=g.nx)
  (hr:(l.length+1)*bytes<=aS)
  (kk:∀v' g',OwnT g' b k v' (l++[y])->g.nx<=g'.nx->(∀i,i<g.nx->vid v≠some i->g'.h.get i=g.h.get i)->(vid v'=vid v\/∃i,vid v'=some i/\g.nx<=i)->(∀i∈g'.lg,i∈g.lg\/b<=i)->K v' g') :
  (cQ (Rp.sz α) bytes v x g).sat K g D:=by
 obtain⟨rows,h1,h2⟩:=hv;refine bg (new:=[cs]) h1 hx hb (by rw[<-h2.len];exact hr) λv' g' hv' hn hf hvid hlg=>kk v' g' ⟨rows++[cs],hv',?_⟩ hn hf hvid hlg;have up:∀(z:α) (c:List AV),Rp.rp (Els g b v) k g.h z c->Rp.rp (Els g' b v') k g'.h z c:=λz c r=>Rp.mono r (λi hi=>⟨⟨hi.1,QR hi.2.1 hn,λe=>by
  rcases hvid with e2|⟨j,e2,a⟩
  ·rw[e2]at e;exact hi.2.2 e
  ·rw[e2]at e;injection e with e;subst e;have:=hi.2.1;omega⟩,hf i hi.2.1 hi.2.2⟩) (Qq _)
 exact (h2.mono up).append ⟨up y cs hy,trivial⟩
end
theorem rQ{C:Cfg}{nt:Nat}{rd:Option Nat}{c:Code}{t:T}{df:List ADf}{Q:QT}(h:wp C d rd (bZ C nt c) Q t df g):((I C).code nt d rd c t df g).sat Q:=by rw[DU];exact KX _ _ _ _ _ h
end
end Hx
section
section
namespace Hx
open Go
noncomputable section
theorem ae{α:Type}{l:List α}{j:Nat}(h:j<l.length):∃x,l[j]?=some x/\l.take (j+1)=l.take j++[x]/\x∈l :=
 ⟨l[j],Qr h,by rw[List.take_add_one,Qr h];rfl,RS h⟩
def S.Pd(l:List Int):Int:=l.foldl (λs x=>IntKind.wrap .i64 (s*x)) 1
theorem Mk[XOc]{d:Nat}{g:G}{v:AV}(hd:0<d)(hv:x9 g.h v)(hl:(nq g.h v).length<9223372036854775808) :
  ay C0 d 48 [v] g=.val (T8 (S.Pd (nq g.h v))):=by
 obtain⟨v',e,hr,k⟩:=Io hv hl d;generalize nq g.h v=l at hr k hl ⊢;rw[wh];refine jf za (xs:=[v']) (by simp only[aF,e]) (by simp[py]) hd ?_;simp only[sz,simprocAttr,py];refine GG hl k (λj t df g=>df=[]/\tat t 3=T8 (S.Pd (l.take j))) ⟨rfl,by simp[sx,S.Pd]⟩ (by simp[sx]) (by simp[sx]) (by decide)
  (by rintro j t df g v s (rfl|rfl|rfl|rfl|rfl|rfl|rfl)<;>simp[sx]) ?_ ?_
 ·rintro j t df g b ⟨rfl,h3⟩ h4 h0;obtain⟨x,hx,a,hm⟩:=ae b;simp only[sz,simprocAttr,hr,h0,h3,h4,hx,b,QA,Qv,RK,ci,a,S.Pd,SS,SN,List.foldl_nil]
 ·rintro t df g ⟨rfl,h3⟩ -;rw[QV]at h3;simp only[sz,simprocAttr,p6,h3]
end
end Hx
end
section
namespace Hx
open Go
noncomputable section
def S.Pm(l:List Int)(n:Int)(i:Nat):Bool:=decide (0<=l[i]?.getD 0)&&decide (l[i]?.getD 0<n)&&(i == 0 || decide (l[i - 1]?.getD 0<l[i]?.getD 0))
def S.OF(l:List Int)(n:Int):Bool:=(List.range l.length).all (S.Pm l n)
end
end Hx
end
section
namespace Hx
open Go
noncomputable section
def S.O8(n:Nat):Nat:=1*2 ^ n % 18446744073709551616
def S.OL(l:List Int):Nat:=l.foldl (λs x=>s ||| S.O8 x.toNat) 0
theorem xn(n:Nat):S.O8 n<18446744073709551616:=So _ (by decide)
theorem vM{α:Type}(f:α->Nat)(hf:∀a,f a<18446744073709551616):∀(l:List α) (s:Nat),s<18446744073709551616->l.foldl (λs x=>s ||| f x) s<18446744073709551616
 |[],_,h=>h
 |a::l,s,h=>vM f hf l _ (J2 h (hf a))
theorem wM(l:List Int):S.OL l<18446744073709551616:=vM _ (λa=>xn _) l 0 (by decide)
theorem HB(l:List Int)(x:Int):S.OL (l++[x])=S.OL l ||| S.O8 x.toNat:=by simp[S.OL]
theorem vH(k':IntKind)(n:Nat):cx .shl (T_ 1) (.int k' (n:Int))=.val (T_ (S.O8 n:Int)):=Lc k' 1 n
end
end Hx
end
section
namespace Hx
open Go
noncomputable section
def S.PK(s v:Nat):Bool:=s / 2 ^ v &&& 1 == 1
def S.Pf(p:List Nat)(s:Nat)(j:Nat):Nat:=(List.range j).foldl (λs v=>if S.PK s v then s ||| p[v]?.getD 0 else s) s
def S.up(p:List Nat)(s:Nat)(j:Nat):Nat:=(List.range j).foldl (λs _=>S.Pf p s p.length) s
theorem mm(p:List Nat)(s j:Nat):S.Pf p s (j+1)=if S.PK (S.Pf p s j) j then S.Pf p s j ||| p[j]?.getD 0 else S.Pf p s j:=by unfold S.Pf;rw[Ry,SS];rfl
theorem pO(p:List Nat)(s j:Nat):S.up p s (j+1)=S.Pf p (S.up p s j) p.length:=by unfold S.up;rw[Ry,SS];rfl
def S.Pt(p:List Nat):Bool:=(List.range p.length).all λv=>!S.PK (S.up p (p[v]?.getD 0) p.length) v
end
end Hx
end
section
namespace Hx
open Go
noncomputable section
def S.OB(l:List Int):Int:=l.foldl (·*·) 1
theorem u_(l:List Int)(x:Int):S.OB (l++[x])=S.OB l*x:=by simp[S.OB]
theorem oO{a b:Nat}(h:a<=b):(4:Int) ^ a<=4 ^ b:=by
 obtain⟨c,rfl⟩:∃c,b=a+c:=⟨b - a,by omega⟩
 induction c with
 |zero=>exact SQ _
 | succ c ih =>
  have:=ih (by omega);rw[show a+(c+1)=(a+c)+1 from rfl,Int.pow_succ];have h0:(0:Int)<=4 ^ (a+c):=Int.le_of_lt (Int.pow_pos (by decide));omega
theorem eo(a:Int)(l:List Int):S.OB (a::l)=a*S.OB l:=by
 have:∀(l:List Int) (s:Int),l.foldl (·*·) s=s*l.foldl (·*·) 1:=by
  intro l
  induction l with
  |nil=>intro s;simp
  |cons x l ih=>intro s;rw[SN,ih,SN,ih (1*x),Tl,Te]
 unfold S.OB;rw[SN,this,Tl]
theorem dq:∀{l:List Int},(∀x∈l,1<=x/\x<=4)->1<=S.OB l/\S.OB l<=4 ^ l.length
 |[],_=>⟨by decide,by decide⟩
 | a::l,h=>by
  obtain⟨h1,h2⟩:=dq (l:=l) λx hx=>h x (by simp[hx]);obtain⟨h3,h4⟩:=h a (by simp);rw[eo,Rd,Int.pow_succ,Int.mul_comm (4 ^ l.length)];constructor
  ·have:=SK h3 h1 (by decide) (by omega);simpa using this
  ·exact SK h4 h2 (by omega) (by decide)
theorem yT(l:List Int)(x:Int):(l++[x]).sum=l.sum+x:=by simp
end
end Hx
end
section
namespace Hx
open Go
noncomputable section
def S.P9(m:Causal)(p:Int):Int:=(m.nodes[p.toNat]?.map (·.card)).getD 0
def S.Qg(m:Causal)(r:Int):Int:=(m.roots[r.toNat]?.map λr=>(r.length:Int)).getD 0
end
end Hx
end
section
namespace Hx
open Go
noncomputable section
def S.PI(a b:Nat):Nat:=a ^^^ (a &&& b)
theorem Nb{n:Nat}(h:n<64):S.O8 n=2 ^ n:=by unfold S.O8;rw[RH,Tc];exact Nat.pow_lt_pow_right (a:=2) (by decide) h
end
end Hx
end
section
namespace Hx
open Go
noncomputable section
def S.Qk(m:Causal)(x:Mech):List Int:=x.frm.map (S.P9 m)++x.noise.map (S.Qg m)
end
end Hx
end
section
namespace Hx
open Go
noncomputable section
def S.Qd(m:Causal):Int:=S.OB (m.roots.map λr=>(r.length:Int))
end
end Hx
end
section
namespace Hx
open Go
def Sub(a s:Nat):Prop:=∀v,a.testBit v=true->s.testBit v=true
theorem tY(s v:Nat):S.PK s v=s.testBit v:=by rw[Nat.testBit_eq_decide_div_mod_eq,S.PK,Nat.and_one_is_mod];rw[SM,beq_iff_eq,decide_eq_true_iff]
theorem zL{a s:Nat}:S.PI a s=0↔Sub a s:=by
 constructor
 ·intro h v hv;have:=congrArg (·.testBit v) h;simp[S.PI,hv]at this;exact this
 ·intro h;refine Nat.eq_of_testBit_eq λv=>?_;have:=h v;simp only[S.PI,Nat.testBit_xor,Nat.testBit_and,Nat.zero_testBit];cases ha:a.testBit v
  ·rfl
  ·rw[this ha];rfl
theorem rE(a b v:Nat):(a ||| b).testBit v=(a.testBit v || b.testBit v):=Nat.testBit_or a b v
theorem xp{n:Nat}(h:n<64)(v:Nat):(S.O8 n).testBit v=decide (n=v):=by rw[Nb h,Nat.testBit_two_pow]
section
variable {p:List Nat}
def Par(p:List Nat)(v:Nat):Nat:=p[v]?.getD 0
def Cl(p:List Nat)(s:Nat):Prop:=∀v,v<p.length->s.testBit v=true->Sub (Par p v) s
theorem Av{s t:Nat}(hc:Cl p t)(h:Sub s t):∀j,j<=p.length->Sub (S.Pf p s j) t
 |0,_=>h
 | j+1,hj=>by
  have ih:=Av hc h j (by omega);rw[mm]
  split
  ·rename_i hb;rw[tY]at hb;intro v hv;rw[rE,Rg]at hv;rcases hv with hv|hv
   ·exact ih v hv
   ·exact hc j (by omega) (ih j hb) v hv
  ·exact ih
theorem Fc{s t:Nat}(hc:Cl p t)(h:Sub s t):∀j,Sub (S.up p s j) t
 |0=>h
 |j+1=>by rw[pO];exact Av hc (Fc hc h j) _ (Qq _)
def GP(p:List Nat)(s:Nat):Prop:=Cl p s/\∀v,v<p.length->s.testBit v=true->(S.up p (Par p v) p.length).testBit v=false
theorem xf:S.Pt p=true↔∀v,v<p.length->(S.up p (Par p v) p.length).testBit v=false:=by
 unfold S.Pt;rw[QB];constructor
 ·intro h v hv;have:=h v (QE.2 hv);rw[tY]at this;simpa [Par] using this
 ·intro h v hv;have:=h v (QE.1 hv);rw[tY];simpa [Par] using this
def bct(s:Nat):Nat->Nat
 |0=>0
 |n+1=>bct s n+(if s.testBit n then 1 else 0)
theorem DZ(s:Nat):∀n,bct s n<=n
 |0=>Qq _
 |n+1=>by have:=DZ s n;unfold bct;split<;>omega
theorem BO{a s:Nat}(h:Sub a s):∀n,bct a n<=bct s n
 |0=>Qq _
 | n+1=>by
  have:=BO h n;unfold bct
  split
  ·rename_i hb;rw[Qw (h n hb)];omega
  ·split<;>omega
theorem Ip{a s:Nat}(h:Sub a s){v:Nat}(hv:s.testBit v=true)(ha:a.testBit v=false):∀n,v<n->bct a n<bct s n
 |0,h0=>by omega
 | n+1,hn=>by
  unfold bct
  by_cases hvn:v=n
  ·subst hvn;have:=BO h v;rw[Qw hv,ha];simp;omega
  ·have:=Ip h hv ha n (by omega)
   split
   ·rename_i hb;rw[Qw (h n hb)];omega
   ·split<;>omega
theorem BM{s:Nat}:∀n,bct s n=n->∀v,v<n->s.testBit v=true
 |0,_,v,h=>by omega
 | n+1,h,v,hv=>by
  unfold bct at h;have:=DZ s n
  split at h
  ·rename_i hb
   by_cases e:v=n
   ·subst e;exact hb
   ·exact BM n (by omega) v (by omega)
  ·omega
theorem ut{a s:Nat}(h:Sub a s)(h':Sub s a):a=s:=Nat.eq_of_testBit_eq λv=>by
 cases ha:a.testBit v
 ·cases hs:s.testBit v
  ·rfl
  ·rw[h' v hs]at ha;cases ha
 ·rw[h v ha]
theorem NM{a s:Nat}(h:Sub a s):a<=s:=by
 have:a ||| s=s:=Nat.eq_of_testBit_eq λv=>by
  rw[rE];cases ha:a.testBit v
  ·simp
  ·rw[h v ha];rfl
 rw[<-this];exact Nat.left_le_or
theorem pN(s:Nat):∀j,Sub s (S.Pf p s j)
 |0=>λ_ h=>h
 | j+1=>by
  have ih:=pN s j;rw[mm]
  split
  ·intro v hv;rw[rE,ih v hv];rfl
  ·exact ih
theorem Fb{s:Nat}{j k:Nat}(h:j<=k):Sub (S.Pf p s j) (S.Pf p s k):=by
 induction h with
 |refl=>exact λ_ h=>h
 | step _ ih =>
  rw[mm]
  split
  ·intro v hv;rw[rE,ih v hv];rfl
  ·exact ih
theorem G6{s:Nat}(h:S.Pf p s p.length=s):Cl p s:=by
 intro v hv hb u hu;have h1:(S.Pf p s v).testBit v=true:=pN s v v hb;have h2:(S.Pf p s (v+1)).testBit u=true:=by rw[mm,tY,h1,Qw rfl,rE];have:(p[v]?.getD 0).testBit u=true:=hu;rw[this];simp
 have:=Fb (p:=p) (s:=s) (show v+1<=p.length by omega) u h2;rwa [h]at this
theorem KI{s n v:Nat}(h:s<2 ^ n)(hv:s.testBit v=true):v<n:=by
 rcases Se v n with h1|h1
 ·exact h1
 ·rw[Nat.testBit_lt_two_pow (QR h (R4 (by decide) h1))]at hv;cases hv
theorem Oj{f:Nat->Nat}{n:Nat}(hm:∀j,Sub (f j) (f (j+1)))(hb:∀j,f j<2 ^ n)(hs:∀j,f (j+1)=f j->f (j+2)=f (j+1)):f (n+1)=f n:=by
 have key:∀j,j<=bct (f j) n\/f (j+1)=f j:=by
  intro j
  induction j with
  |zero=>exact .inl (Q_ _)
  | succ j ih =>
   rcases ih with ih|ih
   ·by_cases e:f (j+1)=f j
    ·exact .inr (hs j e)
    ·left;have:∃v,(f (j+1)).testBit v=true/\(f j).testBit v=false:=by
      apply RJ;intro k;apply e;refine ut (λv hv=>?_) (hm j);cases hc:(f j).testBit v
      ·exact absurd ⟨v,hv,hc⟩ k
      ·rfl
     obtain⟨v,h1,h2⟩:=this;have:=Ip (hm j) h1 h2 n (KI (hb _) h1);omega
   ·exact .inr (hs j ih)
 rcases key n with h|h
 ·have hc:bct (f n) n=n:=by have:=DZ (f n) n;omega
  refine ut (λv hv=>?_) (hm n);exact BM n hc v (KI (hb _) hv)
 ·exact h
theorem Nt{a b n:Nat}(h:a<2 ^ n)(h':b<2 ^ n):a ||| b<2 ^ n:=Nat.or_lt_two_pow h h'
theorem ED{v:Nat}(hp:∀x∈p,x<2 ^ p.length):Par p v<2 ^ p.length:=by
 unfold Par;cases h:p[v]? with
 |none=>exact Nat.pow_pos (by decide)
 |some x=>exact hp x (Qx h)
theorem Au(hp:∀x∈p,x<2 ^ p.length){s:Nat}(hs:s<2 ^ p.length):∀j,S.Pf p s j<2 ^ p.length
 |0=>hs
 | j+1=>by
  have ih:=Au hp hs j;rw[mm]
  split
  ·exact Nt ih (ED hp)
  ·exact ih
theorem KL(hp:∀x∈p,x<2 ^ p.length){s:Nat}(hs:s<2 ^ p.length):∀j,S.up p s j<2 ^ p.length
 |0=>hs
 |j+1=>by rw[pO];exact Au hp (KL hp hs j) _
theorem Id(hp:∀x∈p,x<2 ^ p.length){s:Nat}(hs:s<2 ^ p.length):Cl p (S.up p s p.length):=by
 apply G6;rw[<-pO];exact Oj (f:=λj=>S.up p s j) (λj=>by rw[pO];exact pN _ _) (λj=>KL hp hs j) (λj e=>by
  have e:S.up p s (j+1)=S.up p s j:=e;show S.up p s (j+1+1)=S.up p s (j+1);rw[pO,e,<-pO,e])
theorem By{s:Nat}:∀j,Sub s (S.up p s j)
 |0=>λ_ h=>h
 |j+1=>λv hv=>by rw[pO];exact pN _ _ v (By j v hv)
end
end Hx
end
section
namespace Hx
open Go
noncomputable section
theorem mb{a b:List Nat}(h:∀i∈a,∀j∈b,i≠j):meets a b=false:=by simp only[meets,List.any_eq_false];intro i hi hc;exact h i hi i (SL.1 hc) rfl
theorem eO{x y:Foot}(hb:x.lk.big=false)(hb2:y.lk.big=false)(hs:x.lk.sr=[])(hs2:y.lk.sr=[])(h1:∀i∈x.wr,∀j∈y.wr,i≠j)(h2:∀i∈x.wr,∀j∈y.lk.rd,i≠j)(h3:∀i∈y.wr,∀j∈x.lk.rd,i≠j) :
  bG x y=true:=by
 have h:=mb h1;have k:=mb h2;have a:=mb h3;have b:meets y.wr x.wr=false:=mb λi hi j hj e=>h1 j hj i hi e.symm;have c:∀l:List Nat,meets l []=false:=λl=>by simp[meets]
 simp only[bG,je,fD,hb,hb2,hs,hs2,h,k,a,b,c,fst1,RQ,Sx,SU,SG]
 split<;>split<;>rfl
end
end Hx
end
section
namespace Hx
open Go
noncomputable section
theorem rC{g:G}{b sz bytes:Nat}{zero:List AV}{k1 k2:IntKind}{n:Nat}{K:AV->G->Prop}{D:ADf->Prop}(hn:n<=aS)(hb:n*bytes<=aS)(hg:b<=g.nx)
  (k:∀v' g',Own g' b v' sz (List.replicate n zero)->g'.nx=g.nx+1->(∀i,i<g.nx->g'.h.get i=g.h.get i)->vid v'=some g.nx->g'.lg=g.nx::g.lg->K v' g') :
  (yk sz bytes zero (.int k1 (n:Int)) (.int k2 (n:Int)) g).sat K g D:=by
 show (match bN aS (.int k2 (.ofNat n)) with
  | some cn=>match bN cn (.int k1 (.ofNat n)) with
   |some ln=>ak (Nat.ble (cn*bytes) aS) (OR.upd (.hsl g.nx 0 0 ln none) (g.new (Tq sz (eH cn zero)))) .fail
   |none=>.fail
  |none=>.fail).sat K g D
 simp only[bN,aa,Q6,Qw hn,Qq,Qw hb,if_true];refine k _ _ (.inr ⟨g.nx,0,false,hg,by simp,by simp,by simp[a9,eH]⟩) (by simp) (λi hi=>?_) rfl (by simp);rw[G.new_h,ax _ _ _ (by omega)]
end
end Hx
end
section
namespace Hx
open Go
noncomputable section
theorem N4(n sz id ep i off:Nat)(k:IntKind){j:Nat}(h:j<n):Nm n sz (.hptr id ep i off) (.int k (j:Int))=.val (.hptr id ep i (off+j*sz)):=by show ak (Nat.blt j n) (OR.val (.hptr id ep i (off+j*sz))) .fail=_;rw[aa,Qw (by simpa using h)]
def u8v(x:UInt8):AV:=.int .u8 (x.toNat:Int)
theorem KA(l:List UInt8)(h:H)(d:Nat):snap h d aD (.agg (l.map u8v))=some (.agg (l.map u8v)):=by
 have:∀l:List UInt8,aF (Hx.snap h d 23) (l.map u8v)=some (l.map u8v):=λl=>by
  induction l with
  |nil=>rfl
  | cons x l ih =>
   simp only[Sv,aF,ih,show Hx.snap h d 23 (u8v x)=some (u8v x) from rfl]
 show (match aF (Hx.snap h d 23) (l.map u8v) with|some ys=>some (AV.agg ys)|none=>none)=_;rw[this]
end
end Hx
end
section
namespace Hx
open Go
noncomputable section
def Raw(w:AV):Prop:=w=.nils\/∃rows,w=.tsl 0 1 rows
end
end Hx
end
section
namespace Hx
open Go
noncomputable section
end
end Hx
end
section
namespace Hx
open Go
noncomputable section
abbrev DT:Type:=List UInt8×UInt16×List UInt8
def S.Pw(us:List UInt8):List Int:=(us.take 5).map λu=>1+(u.toNat:Int) % 4
theorem Kn{P:Nat->Prop}{k:Nat}{h:H}{x:UInt16}{cs:List AV}:Rp.rp P k h x cs↔cs=[.int .u16 (x.toNat:Int)]:=by simp[Rp.rp]
theorem sg{P:Nat->Prop}{k:Nat}{h:H}{x:DT}{cs:List AV}:Rp.rp P k h x cs↔∃a b,cs=[a,.int .u16 (x.2.1.toNat:Int),b]/\SlR P k h x.1 a/\SlR P k h x.2.2 b:=by
 constructor
 ·rintro⟨c1,c,rfl,⟨a,rfl,h1⟩,d,e,rfl,h2,⟨b,rfl,h3⟩⟩;rw[Kn.1 h2];exact⟨a,b,rfl,h1,h3⟩
 ·rintro⟨a,b,rfl,h1,h2⟩;exact⟨[a],[_,b],rfl,⟨a,rfl,h1⟩,[_],[b],rfl,Kn.2 rfl,⟨b,rfl,h2⟩⟩
theorem He[XOc]{d k:Nat}{g:G}{P:Nat->Prop}{v:AV}{x:DT}(hd:0<d)(hm:Agg x P k g.h v) :
  ∃r,ay C0 d 91 [v] g=.val r/\IT 0 (S.Pw x.1) r:=by
 obtain⟨v',e,cs,rfl,hc⟩:=qu (jk x) (by decide) d hm;obtain⟨a,b,rfl,f,hB⟩:=sg.1 hc;obtain⟨rows,n,E,A,F⟩:=f.all;have n:∀h',am h' 1 a=some rows:=n;rw[o_];refine bK qE (xs:=[.agg [a,.int .u16 (x.2.1.toNat:Int),b]]) (by simp only[aF,e]) (by simp[f_]) (bi _) (by decide) hd ?_;have hL:(S.Pw x.1).length=min x.1.length 5:=by simp[S.Pw];omega
 simp only[sz,simprocAttr,f_,jr];refine d7 (min x.1.length 5) (by omega) (λj t df g=>df=[]/\tat t 1=T9 0/\g.h.get 0=Tq 3 [[a,.int .u16 (x.2.1.toNat:Int),b]]/\1<=g.nx/\∃u,tat t 3=u/\Own g 1 u 1 (((S.Pw x.1).take j).map ci))
  ⟨rfl,by simp[sx],by simp[sx],by simp[sx],_,rfl,.inl ⟨by simp[sx],rfl⟩⟩ (by simp[sx]) (by decide)
  (by rintro j t df g v s (rfl|rfl|rfl)<;>simp[sx]) ?_ ?_ ?_
 ·rintro j t df g q ⟨rfl,h1,hg,c,u,h3,hu⟩ h4
  by_cases hlt:(j:Int)<(x.1.length:Int)
  ·have:decide ((j:Int)<((min x.1.length 5:Nat):Int))=decide ((j:Int)<5):=by congr 1;apply propext;omega
   simp only[sz,simprocAttr,h1,h4,hg,f.len,hlt,this];exact⟨c,u,h3,hu⟩
  ·have:decide ((j:Int)<((min x.1.length 5:Nat):Int))=false:=Rs (by omega);simp only[sz,simprocAttr,h1,h4,hg,f.len,hlt,this];exact⟨c,u,h3,hu⟩
 ·rintro j t df g q ⟨rfl,h1,hg,c,u,h3,hu⟩ h4;obtain⟨y,o,-,-⟩:=ae (l:=x.1) (j:=j) (by omega);obtain⟨z,hz,i,-⟩:=ae (l:=S.Pw x.1) (j:=j) (by omega);have m:z=1+(y.toNat:Int) % 4:=by
   have:(S.Pw x.1)[j]?=some (1+(y.toNat:Int) % 4):=by simp[S.Pw,show j<5 by omega,o]
   rw[this]at hz;injection hz with hz;exact hz.symm
  obtain⟨row,p,B⟩:=A j y o;rw[di.1 B]at p;have hlt:j<rows.length:=by omega
  have w:y.toNat<256:=y.toNat_lt;have C:0<=(y.toNat:Int) % 4:=by omega
  have D:(y.toNat:Int) % 4<4:=by omega
  simp only[sz,simprocAttr,h1,h3,h4,hg,n,hlt,p,gQ .u8 (show (0:Int)<=(y.toNat:Int) by omega) (show (0:Int)<4 by decide),aB (show -9223372036854775808<=(y.toNat:Int) % 4 by omega) (show (y.toNat:Int) % 4<9223372036854775808 by omega),aB (show -9223372036854775808<=1+(y.toNat:Int) % 4 by omega) (show 1+(y.toNat:Int) % 4<9223372036854775808 by omega)];refine bg (new:=[ci (1+(y.toNat:Int) % 4)]) (hu.step (Fr.new _ _)) (by simp[sx,sy,ci]) (by simp) (by simp[aS];omega) λv2 g2 hv2 n2 f2 _ l2=>?_;simp only[sz,simprocAttr,h1,h4];refine⟨?_,?_,_,rfl,?_⟩
  ·rw[f2 0 (by simp) (λe=>by have:=(hu.lt e).1;omega),G.new_h,ax _ _ _ (by omega),hg]
  ·simp at n2;omega
  ·rw[i,m];simpa [ci] using hv2
 ·rintro t df g ⟨rfl,h1,hg,c,u,h3,hu⟩;rw[QF (by omega)]at hu;simp only[sz,simprocAttr,ja,h3];exact⟨_,hu.ints (by omega)⟩
end
end Hx
end
section
namespace Hx
open Go
noncomputable section
theorem EY{g:G}{b sz:Nat}{u:AV}{rows:List (List AV)}(hu:Own g b u sz rows){n:Nat}(hn:n<=rows.length) :
  ∃y,kG sz u none (some (T8 (n:Int))) g=.val y/\am g.h sz y=some (rows.take n):=by
 rcases hu with⟨rfl,rfl⟩|⟨id,ep,lo,h1,h2,rfl,h3⟩
 ·have:n=0:=by simpa using hn
  subst this;exact⟨.nils,rfl,rfl⟩
 ·simp only[kG,jj,h3,Q2,Q2,Rz,aq,Rn,aa,Q6,Qq,if_true,aQ,RT,R6];simp only[bN];rw[show ak (n.ble rows.length) (some n) none=some n from by rw[aa,Qw (by simpa using hn)]];dsimp only
  by_cases h0:rows=[]
  ·subst h0;have:n=0:=by simpa using hn
   subst this;cases lo
   ·exact⟨_,rfl,rfl⟩
   ·exact⟨_,rfl,pI _ _ _ _⟩
  ·have hb:rows.length.beq 0=false:=by cases rows with|nil=>exact absurd rfl h0|cons a l=>rfl
   rw[hb];refine⟨_,rfl,?_⟩;rw[ba,h3,cg,Qw (by omega),Sa]
theorem yO{g:G}{b sz:Nat}{u:AV}{rows:List (List AV)}(hu:Own g b u sz rows){n:Nat}(hn:n<=rows.length) :
  ∃y,kG sz u (some (T8 (n:Int))) none g=.val y/\am g.h sz y=some (rows.drop n):=by
 rcases hu with⟨rfl,rfl⟩|⟨id,ep,lo,h1,h2,rfl,h3⟩
 ·have:n=0:=by simpa using hn
  subst this;exact⟨.nils,rfl,rfl⟩
 ·simp only[kG,jj,h3,Q2,Q2,Rz,aq,Rn,aa,Q6,Qq,if_true,aQ,RT,R6];simp only[bN];rw[show ak (n.ble rows.length) (some n) none=some n from by rw[aa,Qw (by simpa using hn)]];dsimp only
  by_cases h0:rows.length=n
  ·subst h0;rw[Qw (Q2 _),List.drop_length];cases lo
   ·exact⟨_,rfl,rfl⟩
   ·exact⟨_,rfl,pI _ _ _ _⟩
  ·rw[Qu (λe=>h0 (Ro e))];refine⟨_,rfl,?_⟩;rw[ba,h3,cg,Qw (by omega),QF (by simp)]
def S.Ps(os:List UInt8)(k:Nat):Nat:=if k<os.length then ((os[k]?.map UInt8.toNat).getD 0) % (k+1) else 0
def S.OX(os:List UInt8):Nat->List Int
 |0=>[]
 |k+1=>(S.OX os k).take (S.Ps os k)++(k:Int)::(S.OX os k).drop (S.Ps os k)
theorem oJ(os:List UInt8):∀k,(S.OX os k).length=k
 |0=>rfl
 |k+1=>by simp only[S.OX,Q3,Rd,QZ,Si,oJ os k];omega
theorem yC[XOc]{d k:Nat}{g:G}{P:Nat->Prop}{v:AV}{x:DT}(hd:0<d)(hm:Agg x P k g.h v) :
  ∃r,ay C0 d 47 [v] g=.val r/\IT 0 (S.OX x.2.2 (min x.1.length 5)) r:=by
 obtain⟨v',e,cs,rfl,hc⟩:=qu (jk x) (by decide) d hm;obtain⟨a,b,rfl,B,hB⟩:=sg.1 hc;have o:∀g:G,Agg x NoP (max k d) g.h (.agg [a,.int .u16 (x.2.1.toNat:Int),b]):=λg=>⟨_,rfl,sg.2 ⟨a,b,rfl,B.tree (Qq _),hB.tree (Qq _)⟩⟩;obtain⟨rows,w,N,I,O⟩:=hB.all;have w:∀h',am h' 1 b=some rows:=w;rw[j_];refine bK lH (xs:=[.agg [a,.int .u16 (x.2.1.toNat:Int),b]]) (by simp only[aF,e]) (by simp[cT]) (bi _) (by decide) hd ?_;have hL:(S.Pw x.1).length=min x.1.length 5:=by simp[S.Pw];omega
 simp only[sz,simprocAttr,cT,eK];refine d7 (min x.1.length 5) (by omega) (λj t df g=>df=[]/\tat t 1=T9 0/\g.h.get 0=Tq 3 [[a,.int .u16 (x.2.1.toNat:Int),b]]/\1<=g.nx/\∃u,tat t 3=u/\Own g 1 u 1 ((S.OX x.2.2 j).map ci))
  ⟨rfl,by simp[sx],by simp[sx],by simp[sx],_,rfl,.inl ⟨by simp[sx],rfl⟩⟩ (by simp[sx]) (by decide)
  (by rintro j t df g v s (rfl|rfl|rfl)<;>simp[sx]) ?_ ?_ ?_
 ·rintro j t df g D ⟨rfl,h1,hg,c,u,h3,hu⟩ h4;simp only[sz,simprocAttr,h1,h4,hg];refine bL (He (RA d) (o _)) λr hr=>?_;simp only[sz,simprocAttr,h1,h4,hg,(hr.sl .nil).len,hL];exact⟨c,u,h3,hu⟩
 ·rintro j t df g D ⟨rfl,h1,hg,c,u,h3,hu⟩ h4;have F:((S.OX x.2.2 j).map ci).length=j:=by rw[QA,oJ]
  have E:S.Ps x.2.2 j<=j:=by
   unfold S.Ps;split
   ·have:=So (((x.2.2)[j]?.map UInt8.toNat).getD 0) (show 0<j+1 by omega);omega
   ·omega
  have key:∀(t:T) (Q:QT),tat t 1=T9 0->tat t 3=u->tat t 4=T8 (j:Int)->tat t 5=T8 (S.Ps x.2.2 j:Int) ->
    (∀(t':T) (g':G),tat t' 1=T9 0->tat t' 4=T8 (j:Int)->g'.h.get 0=Tq 3 [[a,.int .u16 (x.2.1.toNat:Int),b]]->1<=g'.nx->(∃u,tat t' 3=u/\Own g' 1 u 1 ((S.OX x.2.2 (j+1)).map ci))->Q .norm t' [] g') ->
    wp C0 (d+1) none cA Q t [] g:=by
   intro t Q h1 h3 h4 h5 kk;obtain⟨R,J,w1⟩:=EY hu (n:=S.Ps x.2.2 j) (by omega);simp only[sz,simprocAttr,cA,h3,h5,Sn,Sd,J];refine bg (rows:=[]) (b:=1) (.inl ⟨rfl,rfl⟩) w1 c (by simp[aS];omega) λv1 g1 hv1 n1 f1 vid1 _=>?_;simp only[sz,simprocAttr,h4];refine bg (new:=[ci (j:Int)]) (hv1.step (Fr.new _ _)) (by simp[sx,sy,ci]) (by simp) (by simp[aS,oJ];omega) λv2 g2 hv2 n2 f2 vid2 _=>?_;have p:Own g1 1 u 1 ((S.OX x.2.2 j).map ci):=hu.fr n1 λi hi=>f1 i (hu.lt hi).2 (by simp[vid]);have m:∀i,i<g.nx->vid v1≠some i:=λi hi e=>by
    rcases vid1 with h|⟨i',h,C⟩
    ·rw[h]at e;cases e
    ·rw[h]at e;injection e with e;omega
   have q:Own g2 1 u 1 ((S.OX x.2.2 j).map ci):=p.fr (by simp at n2;omega) λi hi=>by have hlt:=(hu.lt hi).2;rw[f2 i (by simp;omega) (m i hlt),G.new_h,ax _ _ _ (by omega)]
   obtain⟨U,K,L⟩:=yO q (n:=S.Ps x.2.2 j) (by omega);simp only[sz,simprocAttr,h3,h5,Sn,Sd,K];refine bg hv2 L (by simp at n2;omega) (by simp[aS,oJ];omega) λv3 g3 hv3 n3 f3 _ _=>?_;simp only[sz,simprocAttr];refine kk _ _ (by simp[sx,h1]) (by simp[sx,h4]) ?_ (by simp at n2;omega) ⟨_,rfl,?_⟩
   ·rw[f3 0 (by simp at n2;omega) (λe=>by have:=(hv2.lt e).1;omega),f2 0 (by simp) (m 0 (by omega)),G.new_h,ax _ _ _ (by omega),f1 0 (by omega) (by simp[vid]),hg]
   ·simp only[sx,↓reduceIte];simpa [S.OX,List.map_take,List.map_drop] using hv3
  simp only[sz,simprocAttr,h1,h4,hg,hB.len];refine mE (λhb=>?_) (λhb=>?_)
  ·have l:j<x.2.2.length:=by simp at hb;omega
   obtain⟨y,z⟩:∃y,x.2.2[j]?=some y:=⟨_,Qr l⟩;obtain⟨row,A,M⟩:=I j y z;rw[di.1 M]at A;have H:y.toNat<256:=y.toNat_lt;have hlt:j<rows.length:=by omega
   have f:((S.Ps x.2.2 j:Nat):Int)=(y.toNat:Int) % ((j:Int)+1):=by unfold S.Ps;rw[Qw l,z];simp
   simp only[sz,simprocAttr,h1,h4,hg,w,hlt,A,aB (show -9223372036854775808<=(y.toNat:Int) by omega) (show (y.toNat:Int)<9223372036854775808 by omega),aB (show -9223372036854775808<=(j:Int)+1 by omega) (show (j:Int)+1<9223372036854775808 by omega),gQ .i64 (show (0:Int)<=(y.toNat:Int) by omega) (show 0<(j:Int)+1 by omega)];refine key _ _ (by simp[sx,h1]) (by simp[sx,h3]) (by simp[sx,h4]) (by simp[sx,f]) λt' g' e1 e4 e0 en eu=>?_;simp only[sy,e1,e4,e0];exact⟨en,eu⟩
  ·have f:S.Ps x.2.2 j=0:=by unfold S.Ps;rw[Qu];simp at hb;omega
   simp only[sx];refine key _ _ (by simp[sx,h1]) (by simp[sx,h3]) (by simp[sx,h4]) (by simp[sx,f]) λt' g' e1 e4 e0 en eu=>?_;simp only[sy,e1,e4,e0];exact⟨en,eu⟩
 ·rintro t df g ⟨rfl,h1,hg,c,u,h3,hu⟩;simp only[sz,simprocAttr,ed,h3];exact⟨_,hu.ints (by rw[oJ];omega)⟩
end
end Hx
end
section
namespace Hx
open Go
noncomputable section
def S.PD(cards:List Int):List Int->Nat->List Int×Bool
 |vals,0=>(vals,false)
 |vals,k+1=>if (vals[k]?.getD 0)+1<(cards[k]?.getD 0) then (vals.set k ((vals[k]?.getD 0)+1),true) else S.PD cards (vals.set k 0) k
def S.PL(cards vals:List Int):List Int×Bool:=S.PD cards vals vals.length
end
end Hx
end
section
namespace Hx
open Go
noncomputable section
def S.P6(cards:List Int):Nat->List Int->List (List Int)
 |0,_=>[]
 |f+1,v=>v::(if (S.PL cards v).2 then S.P6 cards f (S.PL cards v).1 else [])
def S.Qm(cards:List Int):List (List Int):=S.P6 cards (S.OB cards).toNat (List.replicate cards.length 0)
end
end Hx
end
section
namespace Hx
open Go
noncomputable section
def S.PS(l:List Int)(h:Int):Int:=l.foldr (λc q=>q / c) h
def S.PU(l:List Int)(h:Int)(i:Nat):Int:=S.PS (l.drop (i+1)) h % l[i]?.getD 1
def S.OE(l:List Int)(h:Int):List Int:=(List.range l.length).map (S.PU l h)
end
end Hx
end
section
namespace Hx
open Go
noncomputable section
def S.OC:List Int->List Int->Int
 |_::cs,v::vs=>v*S.OB cs+S.OC cs vs
 |_,_=>0
def InC(cards vals:List Int):Prop:=All2 (λc v=>(0:Int)<=v/\v<c) cards vals
theorem bz:∀{cards vals:List Int},(∀c∈cards,1<=c/\c<=4)->InC cards vals->0<=S.OC cards vals/\S.OC cards vals<S.OB cards
 |[],[],_,_=>⟨SQ _,by decide⟩
 | c::cs,v::vs,hc,h=>by obtain⟨a,b⟩:=bz (cards:=cs) (vals:=vs) (λx hx=>hc x (by simp[hx])) h.2;obtain⟨k,-⟩:=dq (l:=cs) λx hx=>hc x (by simp[hx]);have hv:=h.1;rw[eo];show 0<=v*S.OB cs+S.OC cs vs/\v*S.OB cs+S.OC cs vs<c*S.OB cs;have h1:0<=v*S.OB cs:=Sm hv.1 (by omega);have h2:(v+1)*S.OB cs<=c*S.OB cs:=RD (by omega) (by omega);rw[SJ,Tl]at h2;omega
 |[],_::_,_,h=>h.elim
 |_::_,[],_,h=>h.elim
theorem InC.drop:∀{cards vals:List Int} (j:Nat),InC cards vals->InC (cards.drop j) (vals.drop j)
 |_,_,0,h=>h
 |[],[],j+1,_=>trivial
 |_::_,_::_,j+1,h=>InC.drop j h.2
 |[],_::_,_,h=>h.elim
 |_::_,[],_,h=>h.elim
theorem InC.len{cards vals:List Int}(h:InC cards vals):vals.length=cards.length:=(All2.len h).symm
end
end Hx
end
section
namespace Hx
open Go
noncomputable section
theorem lj{l:List Int}(hc:∀c∈l,1<=c/\c<=4)(hl:l.length<=13):S.Pd l=S.OB l:=by
 have pw:∀n,n<=13->(4:Int) ^ n<=67108864:=λn hn=>by
  have:=oO hn;have e:(4:Int) ^ 13=67108864:=by decide
  omega
 have key:∀j,j<=l.length->S.Pd (l.take j)=S.OB (l.take j):=by
  intro j
  induction j with
  |zero=>intro _;rfl
  | succ j ih =>
   intro k;obtain⟨x,hx,h,hm⟩:=ae (l:=l) (j:=j) (by omega);have ih:=ih (by omega);have hb:=dq (l:=l.take (j+1)) λy hy=>hc y (Q8 hy);have:=pw (l.take (j+1)).length (by simp;omega);rw[h]at hb this ⊢;rw[u_]at hb ⊢;show S.Pd (l.take j++[x])=_;unfold S.Pd at ih ⊢;rw[SS,ih];show IntKind.wrap .i64 (S.OB (l.take j)*x)=_;rw[aB (by omega) (by omega)]
 have:=key l.length (Qq _);rwa [QV]at this
end
end Hx
end
section
namespace Hx
open Go
def S.Qe(x:Mech)(roots:List Int)(V:Nat->Int):List Int:=(x.frm.map λq=>V q.toNat)++(x.noise.map λr=>roots[r.toNat]?.getD 0)
def S.P_(m:Causal)(roots act:List Int)(V:Nat->Int)(i:Nat)(x:Mech):Int:=if 0<=act[i]?.getD 0 then act[i]?.getD 0 else x.out[(S.OC (S.Qk m x) (S.Qe x roots V)).toNat]?.getD 0
def Sol(m:Causal)(roots act:List Int)(V:Nat->Int):Prop:=∀(i:Nat) (x:Mech),m.nodes[i]?=some x->V i=S.P_ m roots act V i x
noncomputable def S.V(m:Causal)(roots act:List Int):Nat->Int:=Classical.epsilon (Sol m roots act)
noncomputable def S.Qn(m:Causal)(roots act:List Int):List Int:=(List.range m.nodes.length).map (S.V m roots act)
theorem A0{cards vals:List Int}(hl:cards.length=vals.length)(h:∀(i:Nat) c v,cards[i]?=some c->vals[i]?=some v->0<=v/\v<c):InC cards vals:=by
 induction cards generalizing vals with
 | nil=>cases vals with
  |nil=>trivial
  |cons v vals=>simp at hl
 | cons c cards ih=>cases vals with
  |nil=>simp at hl
  |cons v vals=>exact⟨h 0 c v rfl rfl,ih (by simpa using hl) λi c' v' h1 h2=>h (i+1) c' v' (by simpa using h1) (by simpa using h2)⟩
theorem InC.get{cards vals:List Int}(h:InC cards vals){i:Nat}{c:Int}(hc:cards[i]?=some c):∃v,vals[i]?=some v/\0<=v/\v<c:=All2.get h hc
def S.PJ(cs vs:List Int)(a:Int):Int:=(cs.zip vs).foldl (λa p=>a*p.1+p.2) a
theorem td:∀(cs vs:List Int) (a:Int),cs.length=vs.length->S.PJ cs vs a=a*S.OB cs+S.OC cs vs
 |[],[],a,_=>by simp[S.PJ,S.OB,S.OC]
 | c::cs,v::vs,a,h=>by show S.PJ cs vs (a*c+v)=_;rw[td cs vs _ (by simpa using h),eo];show _=_+(v*S.OB cs+S.OC cs vs);rw[SJ,Te,Int.add_assoc]
 |[],_::_,_,h=>by simp at h
 |_::_,[],_,h=>by simp at h
end Hx
end
section
namespace Hx
open Go
noncomputable section
def hz(cs vs:List Int)(j:Nat):Int:=((cs.zip vs).take j).foldl (λa p=>a*p.1+p.2) 0
theorem InC.take{cards vals:List Int}(h:InC cards vals)(j:Nat):InC (cards.take j) (vals.take j):=All2.take h j
section
variable {d k:Nat}{m:Causal}{roots act:List Int}{V:Nat->Int}{a b w u:AV}{p1 p2 p3 p4 iu:Nat}{hid:Int}{r:Nat->Nat}
end
end
end Hx
end
section
namespace Hx
open Go
noncomputable section
theorem aP(ag:Bool)(n l sz off:Nat)(row:List AV)(g:G):qf ag n (.tptr l sz [row] 0 off) g=orV (bX ag n row off):=rfl
section
variable {d:Nat}{m:Causal}{a b:AV}
end
end
end Hx
end
section
namespace Hx
open Go
noncomputable section
theorem jB{C:Cfg}{d:Nat}{r:List SR}{t:T}{g:G}{K:AV->G->Prop}{id:Nat}(hg:g.h.get id=.dfr true)(h:qo r t (g.put id (.dfr false)) λvs=>K (eg vs) (g.put id (.dfr false))):kg C d r t [.mark id] g K:=by
 unfold kg;have:dM (I C) d [.mark id] g=some (g.put id (.dfr false)):=by simp only[dM,G.get_eq,hg]
 rw[this];exact h
end
end Hx
end
section
namespace Hx
open Go
noncomputable section
def Fam(g:G)(b K:Nat)(V:Nat->AV)(W:Nat->List (List AV)):Prop :=
 (∀k,k<K->Own g b (V k) 1 (W k))/\∀k l,k<K->l<K->k≠l->∀id,vid (V k)=some id->vid (V l)≠some id
def Oy(c:Nat->Int)(V:Nat->AV)(i:Nat):List AV:=[T8 (c i),V (3*i+1),V (3*i+2),V (3*i+3)]
def Kl(n:Nat)(c:Nat->Int)(V:Nat->AV):List (List AV):=(List.range n).map (Oy c V)
structure ME where
 (n p4 q i5 p7 i9 b:Nat)
 (nv w5 w9 e7:AV)
 (gr:Int)
 (row0:List AV)
 (prow:List (List AV))
 (us:List UInt8)
structure ME.Ok (e:ME):Prop where
 ord:1<e.q/\e.q<e.p4/\e.p4<e.i5/\e.i5<e.p7/\e.p7<e.i9/\e.i9<e.b
 n1:1<=e.n/\e.n<=4
 g1:2<=e.gr/\e.gr<=12
 vn:vid e.nv=some e.q
 v5:vid e.w5=some e.i5
 v9:vid e.w9=some e.i9
 l7:SlR NoP 0 .nil e.us e.e7
structure MI (e:ME) (g:G) (V:Nat->AV) (W:Nat->List (List AV)) (c:Nat->Int) (ow:List Bool) (cap:Nat):Prop where
 h0:g.h.get 0=Tq 5 [e.row0]
 h1:g.h.get 1=Tq 3 [[T8 0,.nils,.nils]]
 hN:Own g 0 e.nv 4 (Kl e.n c V)
 h4:g.h.get e.p4=Tq 3 [[T8 e.gr,V 0,e.nv]]
 h5:Own g 0 e.w5 4 e.prow
 h7:∃cc:Int,0<=cc/\cc<=(cap:Int)/\g.h.get e.p7=Tq 2 [[e.e7,T8 cc]]
 h9:Own g 0 e.w9 1 (ow.map λx=>[.bool x])
 fam:Fam g e.b (3*e.n+1) V W
 nx:e.b<=g.nx
section
variable {e:ME}{g g':G}{V:Nat->AV}{W:Nat->List (List AV)}{c:Nat->Int}{ow:List Bool}{cap:Nat}
theorem mT{v:AV}{i j:Nat}(h:vid v=some i)(h':vid v=some j):i=j:=by rw[h]at h';injection h'
structure MP (e:ME) (g:G) (V V':Nat->AV) (W:Nat->List (List AV)) (c:Nat->Int) (ow:List Bool) (cap:Nat):Prop where
 h0:g.h.get 0=Tq 5 [e.row0]
 h1:g.h.get 1=Tq 3 [[T8 0,.nils,.nils]]
 hN:Own g 0 e.nv 4 (Kl e.n c V)
 h4:g.h.get e.p4=Tq 3 [[T8 e.gr,V 0,e.nv]]
 h5:Own g 0 e.w5 4 e.prow
 h7:∃cc:Int,0<=cc/\cc<=(cap:Int)/\g.h.get e.p7=Tq 2 [[e.e7,T8 cc]]
 h9:Own g 0 e.w9 1 (ow.map λx=>[.bool x])
 fam:Fam g e.b (3*e.n+1) V' W
 nx:e.b<=g.nx
end
end
end Hx
end
section
namespace Hx
open Go
noncomputable section
structure MD (e:ME) (W:Nat->List (List AV)) (R:List (List Int)) (F N O:Nat->List Int):Prop where
 r:All2 (Rp.rp NoP 0 .nil) R (W 0)
 f:∀i,i<e.n->W (3*i+1)=(F i).map ci
 n:∀i,i<e.n->W (3*i+2)=(N i).map ci
 o:∀i,i<e.n->W (3*i+3)=(O i).map ci
end
end Hx
end
section
namespace Hx
open Go
noncomputable section
end
end Hx
end
section
namespace Hx
open Go
noncomputable section
theorem uE{α β γ:Type}{R:β->γ->Prop}{f:α->β}{h:α->γ}:∀{l:List α},(∀x∈l,R (f x) (h x))->All2 R (l.map f) (l.map h)
 |[],_=>trivial
 |a::l,hl=>⟨hl a (by simp),uE λx hx=>hl x (by simp[hx])⟩
end
end Hx
end
section
namespace Hx
open Go
noncomputable section
theorem SlR.wide{α:Type} [Rp α]{P:Nat->Prop}{k k':Nat}{h h':H}{l:List α}{v:AV}(r:SlR NoP k h l v)(hk:k<=k'):SlR P k' h' l v:=by obtain⟨w,hw,q⟩:=Rp.tree (P:=P) (k':=k') (h':=h') (show Rp.rp NoP k h l [v] from ⟨v,rfl,r⟩) hk;injection hw with hw;subst hw;exact q
structure M0 (n p4 q i5 p7:Nat) (nv w5 cl:AV) (row0:List AV) (prow:List (List AV)) (gr:Int) (g:G) (cf:Nat->Int):Prop where
 h0:g.h.get 0=Tq 5 [row0]
 h1:g.h.get 1=Tq 3 [[T8 0,.nils,.nils]]
 hN:Own g 2 nv 4 (Kl n cf λ_=>.nils)
 h4:g.h.get p4=Tq 3 [[T8 gr,.nils,nv]]
 h5:Own g 2 w5 4 prow
 h7:g.h.get p7=Tq 2 [[cl,T8 0]]
 nx:p7<g.nx
section
variable {n p4 q i5 p7:Nat}{nv w5 cl:AV}{row0:List AV}{prow:List (List AV)}{gr:Int}{g g':G}{cf cf':Nat->Int}
end
end
end Hx
end
section
namespace Hx
open Go
noncomputable section
def eid:AV->Option Nat
 |.hsl id _ _ _ _=>some id
 |.hptr id _ _ _=>some id
 |_=>none
def Bx(g:G)(b:Nat)(v:AV)(row:List AV):Prop:=∃id,b<=id/\id<g.nx/\v=T9 id/\g.h.get id=Tq row.length [row]
inductive En where
 |sl (sz:Nat) (rows:List (List AV))
 |bx (row:List AV)
def En.ok(g:G)(b:Nat)(v:AV):En->Prop
 |.sl sz rows=>Own g b v sz rows
 |.bx row=>Bx g b v row
theorem iQ{g:G}{b:Nat}{v:AV}{sz:Nat}{rows:List (List AV)}(h:Own g b v sz rows):eid v=vid v:=by rcases h with⟨rfl,-⟩|⟨id,ep,lo,h1,h2,rfl,h3⟩<;>rfl
theorem En.lt{g:G}{b:Nat}{v:AV}{e:En}(h:e.ok g b v){i:Nat}(hi:eid v=some i):b<=i/\i<g.nx:=by
 cases e with
 | sl sz rows =>
  have h:Own g b v sz rows:=h;rw[iQ h]at hi;exact h.lt hi
 | bx row =>
  obtain⟨id,h1,h2,rfl,h3⟩:=h;injection hi with hi;subst hi;exact⟨h1,h2⟩
theorem En.fr{g g':G}{b:Nat}{v:AV}{e:En}(h:e.ok g b v)(hn:g.nx<=g'.nx)(hf:∀i,eid v=some i->g'.h.get i=g.h.get i):e.ok g' b v:=by
 cases e with
 | sl sz rows =>
  have h:Own g b v sz rows:=h;exact h.fr hn λi hi=>hf i (by rw[iQ h];exact hi)
 | bx row =>
  obtain⟨id,h1,h2,rfl,h3⟩:=h;exact⟨id,h1,by omega,rfl,by rw[hf id rfl,h3]⟩
section
variable {κ:Type}
structure Hp (g:G) (b:Nat) (L:κ->Prop) (V:κ->AV) (E:κ->En):Prop where
 ok:∀k,L k->(E k).ok g b (V k)
 sep:∀k l,L k->L l->k≠l->∀id,eid (V k)=some id->eid (V l)≠some id
 nx:b<=g.nx
variable {g g':G}{b:Nat}{L L':κ->Prop}{V:κ->AV}{E:κ->En}{k:κ}
theorem Hp.sub(h:Hp g b L V E)(hl:∀k,L' k->L k):Hp g b L' V E:=⟨λk hk=>h.ok k (hl k hk),λk l hk hl2=>h.sep k l (hl k hk) (hl l hl2),h.nx⟩
theorem Hp.step(h:Hp g b L V E)(hn:g.nx<=g'.nx)(hf:∀i,b<=i->i<g.nx->g'.h.get i=g.h.get i):Hp g' b L V E :=
 ⟨λk hk=>En.fr (h.ok k hk) hn λi hi=>hf i (En.lt (h.ok k hk) hi).1 (En.lt (h.ok k hk) hi).2,h.sep,QW h.nx hn⟩
theorem Hp.same(h:Hp g b L V E)(hf:g'.h=g.h)(hn:g.nx<=g'.nx):Hp g' b L V E:=h.step hn λi _ _=>by rw[hf]
theorem Hp.own(h:Hp g b L V E)(hk:L k){sz:Nat}{rows:List (List AV)}(he:E k=.sl sz rows):Own g b (V k) sz rows:=by have:=h.ok k hk;rw[he]at this;exact this
theorem Hp.box(h:Hp g b L V E)(hk:L k){row:List AV}(he:E k=.bx row):Bx g b (V k) row:=by have:=h.ok k hk;rw[he]at this;exact this
end
section
variable {κ:Type} [DecidableEq κ]
def ups{α:Type}(f:κ->α)(k:κ)(x:α):κ->α:=λj=>if j=k then x else f j
theorem aH{α:Type}(f:κ->α)(k:κ)(x:α):ups f k x k=x:=Qw rfl
theorem an{α:Type}(f:κ->α){k j:κ}(x:α)(h:j≠k):ups f k x j=f j:=Qu h
theorem NN{α:Type}{f:κ->α}{k:κ}{x:α}(h:f k=x):ups f k x=f:=by
 funext j;by_cases e:j=k
 ·subst e;rw[aH,h]
 ·exact an _ _ e
variable {g g':G}{b:Nat}{L L':κ->Prop}{V:κ->AV}{E:κ->En}{k:κ}
theorem Hp.set(h:Hp g b L V E){v':AV}{e':En}(hk:L k)(ho:e'.ok g' b v')(hn:g.nx<=g'.nx)(hf:∀i,b<=i->i<g.nx->eid (V k)≠some i->g'.h.get i=g.h.get i)
  (hv:eid v'=eid (V k)\/∃i,eid v'=some i/\g.nx<=i):Hp g' b L (ups V k v') (ups E k e'):=by
 refine⟨λj hj=>?_,λj l hj hl hne id e1 e2=>?_,QW h.nx hn⟩
 ·by_cases e:j=k
  ·subst e;rw[aH,aH];exact ho
  ·rw[an _ _ e,an _ _ e];exact En.fr (h.ok j hj) hn λi hi=>hf i (En.lt (h.ok j hj) hi).1 (En.lt (h.ok j hj) hi).2 λe2=>h.sep j k hj hk e i hi e2
 ·have key:∀j,L j->j≠k->∀id,eid (V j)=some id->eid v'≠some id:=λj hj hne id e1 e2=>by
   rcases hv with hv|⟨i,hv,hi⟩
   ·exact h.sep j k hj hk hne id e1 (hv ▸ e2)
   ·rw[hv]at e2;injection e2 with e2;have:=(En.lt (h.ok j hj) e1).2;omega
  by_cases a:j=k
  ·subst a;rw[aH]at e1;rw[an _ _ (R0 hne)]at e2;exact key l hl (R0 hne) id e2 e1
  ·rw[an _ _ a]at e1
   by_cases c:l=k
   ·subst c;rw[aH]at e2;exact key j hj a id e1 e2
   ·rw[an _ _ c]at e2;exact h.sep j l hj hl hne id e1 e2
theorem Hp.add(h:Hp g b L V E){v':AV}{e':En}(hk:¬L k)(ho:e'.ok g' b v')(hn:g.nx<=g'.nx)(hf:∀i,b<=i->i<g.nx->g'.h.get i=g.h.get i)
  (hv:∀i,eid v'=some i->g.nx<=i) (hl:∀j,L' j->L j\/j=k):Hp g' b L' (ups V k v') (ups E k e'):=by
 refine⟨λj a=>?_,λj l a hl2 hne id e1 e2=>?_,QW h.nx hn⟩
 ·rcases hl j a with a|rfl
  ·have e:j≠k:=λe=>hk (e ▸ a);rw[an _ _ e,an _ _ e];exact En.fr (h.ok j a) hn λi hi=>hf i (En.lt (h.ok j a) hi).1 (En.lt (h.ok j a) hi).2
  ·rw[aH,aH];exact ho
 ·have key:∀j,L j->∀id,eid (V j)=some id->eid v'≠some id:=λj a id e1 e2=>by have:=hv id e2;have:=(En.lt (h.ok j a) e1).2;omega
  rcases hl j a with a|rfl
  ·have e:j≠k:=λe=>hk (e ▸ a);rw[an _ _ e]at e1;rcases hl l hl2 with hl2|rfl
   ·have e':l≠k:=λe=>hk (e ▸ hl2);rw[an _ _ e']at e2;exact h.sep j l a hl2 hne id e1 e2
   ·rw[aH]at e2;exact key j a id e1 e2
  ·rw[aH]at e1;rcases hl l hl2 with hl2|rfl
   ·have e':l≠j:=λe=>hne e.symm;rw[an _ _ e']at e2;exact key l hl2 id e2 e1
   ·exact hne rfl
theorem Hp.put(h:Hp g b L V E)(hk:L k){sz n i off:Nat}{rows:List (List AV)}{row row':List AV}(he:E k=.sl sz rows){x:AV}{K:AV->G->Prop}{D:ADf->Prop}(hr:rows[i]?=some row)
  (hl:x.cells.length=n) (ht:x.isTup=false) (hp:cj row off x.cells=some row')
  (kk:∀g',Hp g' b L V (ups E k (.sl sz (rows.set i row')))->g'.nx=g.nx->(∀i,i<b->g'.h.get i=g.h.get i)->(∀i,eid (V k)≠some i->g'.h.get i=g.h.get i)->K .undef g'):(mj n (kX sz (V k) i off) x g).sat K g D:=by
 have ho:=h.own hk he;refine ct ho hr hl ht hp λg' hv' hn hf=>?_;have:=h.set hk (e':=.sl sz (rows.set i row')) hv' (by omega) (λi _ hi hne=>hf i (by rw[<-iQ ho];exact hne)) (.inl rfl);rw[NN (f:=V) rfl]at this;exact kk g' this hn (λi hi=>hf i λe=>by have:=(ho.lt e).1;omega) λi hne=>hf i (by rw[<-iQ ho];exact hne)
end
end
end Hx
end
section
namespace Hx
open Go
noncomputable section
theorem jQ{C:Cfg}{d:Nat}{rd:Option Nat}{l:List SI}{b:SC}{Q:QT}{t:T}{df:List ADf}{g:G}{P:PT}(h1:wpO C d rd l P t df g)(h2:∀t df g,P t df g->wp C d rd b Q t df g):wp C d rd (T7 (.ops l) b) Q t df g:=by
 rw[dt];have:wp C d rd (.ops l) (λe t df g=>e=.norm/\P t df g) t df g:=by rw[BE];simpa using h1
 refine cw _ this ?_;rintro e t df g ⟨rfl,h⟩;exact h2 t df g h
structure Bnd (K:Nat) (m:Causal):Prop where
 r:m.roots.length<=K
 rr:∀x∈m.roots,x.length<=K
 n:m.nodes.length<=K
 f:∀x∈m.nodes,x.frm.length<=K/\x.noise.length<=K/\x.out.length<=K
abbrev Ky:Type:=Nat×Nat
structure BD (K R n:Nat) (V:Ky->AV) (E:Ky->En) (Rt:Nat->List Int) (c:Nat->Int) (F:Nat->Nat->List Int):Prop where
 r:∀i,i<R->E (0,i)=.sl 1 ((Rt i).map ci)/\(Rt i).length<=K
 f:∀q i,1<=q->q<=3->i<n->E (q,i)=.sl 1 ((F q i).map ci)/\(F q i).length<=K
 rs:E (4,0)=.sl 1 ((List.range R).map λi=>[V (0,i)])
 ns:E (4,1)=.sl 4 ((List.range n).map λi=>[T8 (c i),V (1,i),V (2,i),V (3,i)])
end
end Hx
end
section
namespace Hx
open Go
noncomputable section
structure TI (g:G) (q:Nat) (m:Causal) (k1 k2 act u1 u2 u3:AV) (A B W:List Int):Prop where
 a1:g.h.get 1=Tq 1 [[act]]
 a2:g.h.get 2=Tq 3 [[.nils,.nils,.nils]]
 a4:g.h.get 4=Tq 4 [[T8 m.grain,k1,k2,T8 (S.Qd m)]]
 bq:g.h.get q=Tq 3 [[u1,u2,u3]]
 o1:Own g 5 u1 1 (A.map ci)
 o2:Own g 5 u2 1 (B.map ci)
 o3:Own g 5 u3 1 (W.map ci)
 q5:5<=q/\q<g.nx
 n1:∀i,vid u1=some i->i≠q/\vid u2≠some i/\vid u3≠some i
 n2:∀i,vid u2=some i->i≠q/\vid u3≠some i
 n3:∀i,vid u3=some i->i≠q
section
variable {g g':G}{q:Nat}{m:Causal}{k1 k2 act u1 u2 u3:AV}{A B W:List Int}
end
end
end Hx
end
section
namespace Hx
open Go
noncomputable section
theorem pg{C:Cfg}{d:Nat}{rd:Option Nat}{a b:SC}{Q:QT}{t:T}{df:List ADf}{g:G}{P:PT}(h1:wp C d rd a (λe t df g=>e=.norm/\P t df g) t df g)(h2:∀t df g,P t df g->wp C d rd b Q t df g):wp C d rd (.seq a b) Q t df g:=by rw[dt];refine cw _ h1 ?_;rintro e t df g ⟨rfl,h⟩;exact h2 t df g h
end
end Hx
end
section
namespace Hx
open Go
noncomputable section
abbrev QI:=Int×Int
theorem BJ{x:QI}{P:Nat->Prop}{k:Nat}{h:H}{v:AV}:Agg x P k h v↔v=.agg [T8 x.1,T8 x.2]:=by
 constructor
 ·rintro⟨cs,rfl,hc⟩;obtain⟨a,b,rfl,h1,h2⟩:=Gn.1 hc;rw[aG.1 h1,aG.1 h2];rfl
 ·rintro rfl;exact⟨_,rfl,Gn.2 ⟨[T8 x.1],[T8 x.2],rfl,aG.2 rfl,aG.2 rfl⟩⟩
def S.PN(n d:Nat):QI:=(((n / Nat.gcd n d:Nat):Int),((d / Nat.gcd n d:Nat):Int))
end
end Hx
end
section
namespace Hx
open Go
noncomputable section
theorem Mf(a:ADf)(K:AV->G->Prop)(g:G)(D:ADf->Prop):(OR.dfr a).sat K g D=D a:=rfl
theorem LD(W:PT)(t:T)(df:List ADf)(g:G)(a:ADf):kD W none t df g a=W t (a::df) g:=rfl
theorem HX{C:Cfg}{d n:Nat}{t:T}{g:G}{f:Nat}{first cap:List AV}(h:tat t n=.clo f first cap):SO.run C d none t g (.raw (.defer ⟨.value (.tmp n),#[],#[]⟩))=.dfr (.call (.clo f [] cap) (first++[])):=by
 have:(gp AV.undef n).run t=.clo f first cap:=by rw[gp_run];exact h
 simp only[SO.run,bS,cOp,aN,bP,this]
theorem EV{C:Cfg}{d n:Nat}{t:T}{g:G}{f:Nat}{first cap:List AV}(h:tat t n=.clo f first cap):(bS C (.defer ⟨.value (.tmp n),#[],#[]⟩)).run (I C) d none t g=.dfr (.call (.clo f [] cap) (first++[])):=HX h
theorem Hf{C:Cfg}{d:Nat}{r:List SR}{t:T}{g g':G}{K:AV->G->Prop}{f:Nat}{cap:List AV}{v:AV}(hc:(I C).call d f cap g=.ok v g')(h:qo r t g' λvs=>K (eg vs) g'):kg C d r t [.call (.clo f [] cap) []] g K:=by
 unfold kg;have:dM (I C) d [.call (.clo f [] cap) []] g=some g':=by simp only[dM,QU,hc]
 rw[this];exact h
theorem Dj{C:Cfg}{d:Nat}{rd:Option Nat}{t:T}{g:G}:SO.run C d rd t g (.raw (.call ⟨.builtin .recover,#[],#[]⟩))=.val .nili:=rfl
end
end Hx
end
section
namespace Hx
open Go
noncomputable section
end
end Hx
end
section
namespace Hx
open Go
noncomputable section
end
end Hx
end
section
namespace Hx
open Go
noncomputable section
end
end Hx
end
section
namespace Hx
open Go
noncomputable section
def S.PV(vals e:List Int)(i:Nat):Bool:=decide (e[i]?.getD 0<0) || decide (e[i]?.getD 0=vals[i]?.getD 0)
def S.PO(vals e:List Int):Bool:=(List.range e.length).all (S.PV vals e)
end
end Hx
end
section
namespace Hx
open Go
noncomputable section
theorem SlR.far8{α:Type} [Rp α]{P:Nat->Prop}{k:Nat}{h h':H}{l:List α}{v:AV}(r:SlR P k h l v)(hf:∀i,P i->h'.get i=h.get i):SlR P k h' l v:=by obtain⟨w,e,q⟩:=Rp.mono (P':=P) (k':=k) (h':=h') (show Rp.rp P k h l [v] from ⟨v,rfl,r⟩) (λi hi=>⟨hi,hf i hi⟩) (Qq _);injection e with e;subst e;exact q
end
end Hx
end
section
namespace Hx
open Go
noncomputable section
end
end Hx
end
section
namespace Hx
open Go
noncomputable section
def S.Qo(s a:List Int):List Int:=(List.range s.length).map λi=>if a[i]?.getD 0<0 then -1 else s[i]?.getD 0
end
end Hx
end
section
namespace Hx
open Go
noncomputable section
theorem uq{α:Type}{C:α->Prop}{S:α->VS}{j:Nat}(h:∀a,Snb (S a) j):Snb (λP k h v=>∃a,C a/\S a P k h v) j :=
 ⟨λ{P k hh v n} d r hn=>by
  obtain⟨a,c,r⟩:=r;obtain⟨v',e,r'⟩:=(h a).snap d r hn;exact⟨v',e,a,c,r'⟩,λ{k hh v n} r hn=>by
  obtain⟨a,c,r⟩:=r;exact (h a).tag r hn⟩
theorem rY:∀{A L:List Nat},A.Nodup->(∀v∈A,v∈L)->A.length<=L.length
 |[],_,_,_=>Q_ _
 | a::A,L,hA,h=>by rw[List.nodup_cons]at hA;have ha:=h a (by simp);have:=rY (A:=A) (L:=L.erase a) hA.2 λv hv=>(List.mem_erase_of_ne (λe=>hA.1 (by rw[<-e];exact hv))).2 (h v (by simp[hv]));rw[List.length_erase_of_mem ha]at this;have:=List.length_pos_of_mem ha;simp only[Rd];omega
def Ord(p:List Nat)(L:List Nat):Prop:=(∀v,v<p.length->v∈L)/\∀(i v:Nat),L[i]?=some v->v<p.length/\∀q,(Par p v).testBit q=true->q∈L.take i
def GS(p:List Nat)(L:List Nat):Prop:=L.Nodup/\∀(i v:Nat),L[i]?=some v->v<p.length/\∀q,(Par p v).testBit q=true->q∈L.take i
theorem J3{p L:List Nat}(h:GS p L):L.length<=p.length:=by
 have:=rY (L:=List.range p.length) h.1 λv hv=>by obtain⟨i,hi,rfl⟩:=RP.1 hv;exact QE.2 (h.2 i _ (Qr hi)).1
 simpa using this
theorem HF{p L:List Nat}(h:GS p L){v:Nat}(hv:v ∉ L)(hl:v<p.length)(hp:∀q,(Par p v).testBit q=true->q∈L):GS p (L++[v]):=by
 refine⟨?_,λi u hu=>?_⟩
 ·rw[List.nodup_append];exact⟨h.1,by simp,λa ha b hb=>by simp at hb;subst hb;exact λe=>hv (e ▸ ha)⟩
 ·rcases Se i L.length with hi|hi
  ·rw[QK hi]at hu;obtain⟨h1,h2⟩:=h.2 i u hu;exact⟨h1,λq hq=>by rw[List.take_append_of_le_length (by omega)];exact h2 q hq⟩
  ·rw[QL hi]at hu;have:i=L.length:=by have:=(Qs.1 hu).1;simp at this;omega
   subst this;simp at hu;subst hu;exact⟨hl,λq hq=>by rw[List.take_left];exact hp q hq⟩
theorem HE{p L:List Nat}(h:GS p L)(hl:p.length<=L.length):Ord p L:=by
 refine⟨λv hv=>?_,h.2⟩
 by_cases hm:v∈L
 ·exact hm
 ·have:=rY (A:=v::L) (L:=List.range p.length) (List.nodup_cons.2 ⟨hm,h.1⟩) λu hu=>by
   rcases Rh.1 hu with rfl|hu
   ·exact QE.2 hv
   ·obtain⟨i,hi,rfl⟩:=RP.1 hu;exact QE.2 (h.2 i _ (Qr hi)).1
  simp at this;omega
theorem LJ{p L:List Nat}(h:GS p L)(hl:L.length<p.length):∃v,v<p.length/\v ∉ L:=by
 by_cases hh:∃v,v<p.length/\v ∉ L
 ·exact hh
 ·exfalso;have:=rY (A:=List.range p.length) (L:=L) List.nodup_range λv hv=>by
   by_cases h':v∈L
   ·exact h'
   ·exact absurd ⟨v,QE.1 hv,h'⟩ hh
  simp at this;omega
def M9(D:Nat)(L:List Nat):Prop:=D<18446744073709551616/\∀v,D.testBit v=true↔v∈L
theorem HZ{D:Nat}{L:List Nat}(h:M9 D L){v:Nat}(hv:v<64):M9 (D ||| S.O8 v) (L++[v]):=by
 refine⟨J2 h.1 (xn v),λu=>?_⟩;rw[rE,xp hv,Rg,h.2,QM,Q7,RR];constructor
 ·rintro (h|h)
  ·exact .inl h
  ·exact .inr h.symm
 ·rintro (h|h)
  ·exact .inl h
  ·exact .inr h.symm
end
end Hx
end
section
namespace Hx
open Go
noncomputable section
end
end Hx
end
section
namespace Hx
open Go
noncomputable section
theorem MF{g g':G}(hn:g.nx<=g'.nx)(h:∀i,i<g.nx->g'.h.get i=g.h.get i):Fr g g':=⟨hn,h⟩
theorem DH{C:Cfg}{d:Nat}{rd:Option Nat}{body:SC}{c ti k B b:Nat}{Q:QT}{m:Nat}{lim:Int}(hlim:lim=(m:Int))(hm:m<9223372036854775808)(J:Nat->PT){t:T}{df:List ADf}{g:G}
  (h0:J 0 t df g) (hi:tat t ti=T8 0) (hc:c≠ti/\b≠B)
  (hJ:∀j t df g v s,s=c\/s=ti\/s=k->J j t df g->J j (ei t s v) df g)
  (step:∀j t df g,j<m->J j t df g->tat t ti=T8 (j:Int)->wp C d rd body (kR (λt df g=>J (j+1) t df g/\tat t ti=T8 (j:Int)) b Q) t df g)
  (fin:∀t df g,J m t df g->Q (.exit B) t df g) :
  wpL (wp C d rd (T7 (.ops [o c (.bin .lss (.t ti) (.k (T8 lim)))]) (T7 (.cond (.t c) .skip (.exit B)) (T7 (.blk b body) (.ops [o k (.bin .add (.t ti) (.k (T8 1))),o ti (.mv (.t k))]))))) Q t df g:=by
 subst hlim;obtain⟨c1,f⟩:=hc;refine tD (λn t df g=>∃j:Nat,n=m - j/\j<=m/\J j t df g/\tat t ti=T8 (j:Int)) m ⟨0,by omega,by omega,h0,hi⟩ ?_;rintro n t df g ⟨j,rfl,i,a,h1⟩;simp only[sz,simprocAttr,h1];refine⟨λhq=>?_,λhq=>?_⟩
 ·have hlt:j<m:=by simpa using hq
  simp only[sx];refine cw _ (step j _ df g hlt (hJ _ _ _ _ _ _ (.inl rfl) a) (by simp only[b_];rw[Qu (R0 c1),h1])) λe t df g h=>?_;have key:J (j+1) t df g/\tat t ti=T8 (j:Int)->wp C d rd (.ops [o k (.bin .add (.t ti) (.k (T8 1))),o ti (.mv (.t k))])
    (kL (λn t df g=>∃j:Nat,n=m - j/\j<=m/\J j t df g/\tat t ti=T8 (j:Int)) (m - j) Q) t df g:=by
   rintro⟨a1,a2⟩;simp only[sz,simprocAttr,a2];refine⟨_,?_,j+1,rfl,by omega,hJ _ _ _ _ _ _ (.inr (.inl rfl)) (hJ _ _ _ _ _ _ (.inr (.inr rfl)) a1),?_⟩
   ·omega
   ·rw[aB (by omega) (by omega)];rfl
  cases e with
  |norm=>exact key h
  |ret=>exact h
  | exit x =>
   rw[pB]at h;rw[rV]
   split at h
   ·rename_i e;rw[Qw e];exact key h
   ·rename_i e;rw[Qu e];exact h
 ·have:j=m:=by simp at hq;omega
  subst this;simp only[sx];exact fin _ _ _ (hJ _ _ _ _ _ _ (.inl rfl) a)
section
variable {m:Causal}{c1 c2 l w c9 v35 ls v48:AV}{al:List Int}{hid kk:Int}{p:Nat}
end
end
end Hx
end
section
namespace Hx
open Go
noncomputable section
theorem Eu(l:List Int)(j:Nat)(x:Int):(l.map ci).set j (ci x)=(l.set j x).map ci:=by rw[RX]
end
end Hx
end
section
namespace Hx
open Go
noncomputable section
theorem wT{x y:Nat}(hy:0<y):cx .rem (T8 (x:Int)) (T8 (y:Int))=.val (T8 ((x % y:Nat):Int)):=by rw[gQ .i64 (SZ x) (by omega),<-Ta]
end
end Hx
end
section
namespace Hx
open Go
noncomputable section
theorem LM{x:Nat}(h:x<9223372036854775808):unV .neg (T8 (x:Int))=.val (T8 (-(x:Int))):=by
 have e:unV .neg (T8 (x:Int))=.val (T8 (IntKind.wrap .i64 (-(x:Int)))):=by
  cases x with
  |zero=>rfl
  | succ n =>
   show orV (oP (Op.unary .neg (.int .i64 (.ofNat (n+1)))))=_;unfold oP Op.unary
   rfl
 rw[e,aB (by omega) (by omega)]
theorem Bi{x y:Nat}(hx:x<9223372036854775808)(hy:0<y):cx .quo (T8 (x:Int)) (T8 (y:Int))=.val (T8 ((x / y:Nat):Int)):=by have h:x / y<=x:=Nat.div_le_self _ _;rw[K_ .i64 (SZ x) (by omega),<-Int.natCast_ediv];generalize x / y=z at h;rw[aB (by omega) (by omega)]
end
end Hx
end
section
namespace Hx
open Go
noncomputable section
def S.Pu:List Int->Int
 |[]=>0
 |x::l=>x+10000*S.Pu l
end
end Hx
end
section
namespace Hx
open Go
noncomputable section
theorem Oh{w:AV}{l:List Int}{k:Nat}(hw:SlR NoP k .nil l w)(hne:l≠[]){c:Nat}(hc:c<=l.length) :
  ∃w',(∀g,kG 1 w none (some (T8 (c:Int))) g=.val w')/\SlR NoP k .nil (l.take c) w':=by
 have hlt:(l.take c).length<9223372036854775808:=by have:=hw.1;rw[QZ];omega
 have h:=hw.2;unfold SlV at h
 split at h
 ·exact absurd h hne
 ·exact absurd h hne
 ·rename_i t s rows;obtain⟨h0,h1,h2⟩:=h;have a:=h2.len;have hs:s=1:=by
   rcases h1 with e|e
   ·exact e
   ·rw[e]at a;simp at a;exact absurd a hne
  subst hs;refine⟨.tsl t 1 (rows.take c),λg=>?_,hlt,h0,.inl rfl,h2.take c⟩;show orV (match aQ (a7 rows) (a7 rows) (some (T8 (.ofNat c))) with
   |none=>none
   | some h=>match aQ 0 h none with
    |none=>none
    |some l=>ak (Nat.beq 1 1) (some (.tsl t 1 (fY (h - l) (eR l rows)))) none)=_
  have:aQ (a7 rows) (a7 rows) (some (T8 (.ofNat c)))=some c:=by show ak (Nat.ble c (a7 rows)) (some c) none=_;rw[aa,Qw];rw[aq,<-a];simp;omega
  rw[this];show orV (ak (Nat.beq 1 1) (some (AV.tsl t 1 (fY (c - 0) (eR 0 rows)))) none)=_;rw[show Nat.beq 1 1=true from rfl,bif'_true,be,bc,Sa,R6];rfl
 ·exact h.1.elim
 ·exact h.elim
end
end Hx
end
section
namespace Hx
open Go
noncomputable section
end
end Hx
end
section
namespace Hx
open Go
noncomputable section
end
end Hx
end
section
namespace Hx
open Go
noncomputable section
structure S.tI (bl:List Int) (n i:Nat) (V ai:Int) (k:Nat) (c:Int) (L:List Int):Prop where
 len:L.length=n
 rng:∀x∈L,0<=x/\x<10000
 zer:∀j,i+bl.length<=j->i+k<=j->L[j]?.getD 0=0
 kle:k<=bl.length+1
 c0:0<=c
 c1:c<10000
 ce:k=bl.length+1->c=0
 cs:k=0->c=0
 eq:S.Pu L+c*10000 ^ (i+k)=V+ai*10000 ^ i*S.Pu (bl.take k)
structure S.tO (al bl:List Int) (i:Nat) (L:List Int):Prop where
 len:L.length=al.length+bl.length
 rng:∀x∈L,0<=x/\x<10000
 zer:∀j,i+bl.length<=j->L[j]?.getD 0=0
 eq:S.Pu L=S.Pu (al.take i)*S.Pu bl
structure S.mI (al bl:List Int) (i:Nat) (r:Int) (L:List Int):Prop where
 len:L.length=i
 rng:∀x∈L,0<=x/\x<10000
 r01:r=0\/r=1
 eq:S.Pu L=S.Pu (al.take i) - S.Pu (bl.take i)+r*10000 ^ i
end
end Hx
end
section
namespace Hx
open Go
noncomputable section
theorem ID{x y:Int}(h0:0<=x)(h1:x<9223372036854775808)(hy:0<y):cx .rem (T8 x) (T8 y)=.val (T8 (x % y)):=by obtain⟨n,rfl⟩:=QD h0;obtain⟨m,rfl⟩:=QD (by omega:0<=y);have:=wT (x:=n) (y:=m) (by omega);rw[this,Ta]
theorem IC{x y:Int}(h0:0<=x)(h1:x<9223372036854775808)(hy:0<y):cx .quo (T8 x) (T8 y)=.val (T8 (x / y)):=by obtain⟨n,rfl⟩:=QD h0;obtain⟨m,rfl⟩:=QD (by omega:0<=y);have:=Bi (x:=n) (y:=m) (by omega) (by omega);rw[this,Int.natCast_ediv]
end
end Hx
end
section
namespace Hx
open Go
noncomputable section
structure S.qI (x b n:Nat) (i:Nat) (L:List Int):Prop where
 len:L.length=n
 rng:∀z∈L,0<=z/\z<10000
 eq:S.Pu (L.drop i)=((x / 10000 ^ i / b:Nat):Int)
end
end Hx
end
section
namespace Hx
open Go
noncomputable section
theorem Mn{w:AV}{l:List Int}{k:Nat}(hw:SlR NoP k .nil l w)(hne:l≠[]){c:Nat}(hc:c<=l.length) :
  ∃w',(∀g,kG 1 w (some (T8 (c:Int))) none g=.val w')/\SlR NoP k .nil (l.drop c) w':=by
 have hlt:(l.drop c).length<9223372036854775808:=by have:=hw.1;rw[Si];omega
 have h:=hw.2;unfold SlV at h
 split at h
 ·exact absurd h hne
 ·exact absurd h hne
 ·rename_i t s rows;obtain⟨h0,h1,h2⟩:=h;have a:=h2.len;have hs:s=1:=by
   rcases h1 with e|e
   ·exact e
   ·rw[e]at a;simp at a;exact absurd a hne
  subst hs;refine⟨.tsl t 1 (rows.drop c),λg=>?_,hlt,h0,.inl rfl,h2.drop c⟩;show orV (match aQ (a7 rows) (a7 rows) none with
   |none=>none
   | some h=>match aQ 0 h (some (T8 (.ofNat c))) with
    |none=>none
    |some l=>ak (Nat.beq 1 1) (some (.tsl t 1 (fY (h - l) (eR l rows)))) none)=_
  show orV (match aQ 0 (a7 rows) (some (T8 (.ofNat c))) with
    |none=>none
    |some l=>ak (Nat.beq 1 1) (some (.tsl t 1 (fY (a7 rows - l) (eR l rows)))) none)=_
  have:aQ 0 (a7 rows) (some (T8 (.ofNat c)))=some c:=by show ak (Nat.ble c (a7 rows)) (some c) none=_;rw[aa,Qw];rw[aq,<-a];simp;omega
  rw[this];show orV (ak (Nat.beq 1 1) (some (AV.tsl t 1 (fY (a7 rows - c) (eR c rows)))) none)=_;rw[show Nat.beq 1 1=true from rfl,bif'_true,be,bc,QF (by rw[Si,aq];exact Qq _)];rfl
 ·exact h.1.elim
 ·exact h.elim
end
end Hx
end
section
namespace Hx
open Go
noncomputable section
theorem SlR.wd{α:Type} [Rp α]{P P':Nat->Prop}{k:Nat}{h h':H}{l:List α}{v:AV}(r:SlR P k h l v)(hf:∀i,P i->P' i/\h'.get i=h.get i):SlR P' k h' l v:=by obtain⟨w,hw,q⟩:=Rp.mono (k':=k) (P':=P') (h':=h') (show Rp.rp P k h l [v] from ⟨v,rfl,r⟩) hf (Qq _);injection hw with hw;subst hw;exact q
end
end Hx
end
section
namespace Hx
open Go
noncomputable section
theorem Hs{x y:Nat}(hy:0<y):0<Nat.gcd x y/\Nat.gcd x y<=y/\x / Nat.gcd x y<=x/\y / Nat.gcd x y<=y :=
 ⟨Nat.gcd_pos_of_pos_right x hy,Nat.le_of_dvd hy (Nat.gcd_dvd_right x y),Nat.div_le_self _ _,Nat.div_le_self _ _⟩
end
end Hx
end
section
namespace Hx
open Go
noncomputable section
abbrev P3:Nat->Prop:=λi=>3<=i
end
end Hx
end
section
namespace Hx
open Go
noncomputable section
end
end Hx
end
section
namespace Hx
open Go
noncomputable section
structure HS (m:Causal) (c1 c2 la lb lc:AV) (p q:Nat) (gb g:G):Prop where
 fr:Fr gb g
 mp:g.h.get p=Tq 3 [[T8 m.grain,c1,c2]]
 ml:g.h.get q=Tq 3 [[la,lb,lc]]
 pn:p<gb.nx
 q0:gb.nx<=q
 qn:q<g.nx
section
variable {m:Causal}{c1 c2 la lb lc w c28 vi c90 vj:AV}{A B Z:List Int}{p q:Nat}
end
end
end Hx
end
end
namespace Hx
open Go
noncomputable section
variable {k d:Nat}{g:G}{v:AV}{P:Nat->Prop}{l vals:List Int}
section
variable {p:List Nat}
theorem zS:GP p 0:=⟨λv _ hb=>by simp at hb,λv _ hb=>by simp at hb⟩
theorem Cr{q:Nat}(ih:GP p q){j:Nat}(hj:j<64)(hd:Sub (Par p j) q):GP p (q ||| S.O8 j):=by
 refine⟨λv hv hb=>?_,λv hv hb=>?_⟩
 ·intro u hu;rw[rE,xp hj,Rg,QM]at hb;rw[rE,Rg];rcases hb with hb|hb
  ·exact .inl (ih.1 v hv hb u hu)
  ·subst hb;exact .inl (hd u hu)
 ·rw[rE,xp hj,Rg,QM]at hb;cases hq:q.testBit v
  ·rw[hq]at hb;simp at hb;subst hb;rw[<-Sf];intro hu;have:=Fc ih.1 hd p.length j hu;rw[hq]at this;cases this
  ·exact ih.2 v hv hq
theorem tF{q:Nat}(h:GP p q)(hf:∀v,v<p.length->q.testBit v=true):S.Pt p=true :=
 xf.2 λv hv=>h.2 v hv (hf v hv)
theorem AD(hp:∀x∈p,x<2 ^ p.length)(h:S.Pt p=true){T:Nat}(hst:∀v,v<p.length->T.testBit v=false->¬Sub (Par p v) T):∀v,v<p.length->T.testBit v=true:=by
 rw[xf]at h;have none:∀r v,v<p.length->T.testBit v=false->S.up p (Par p v) p.length=r->False:=by
  intro r
  induction r using Nat.strongRecOn with
  | _ r ih =>
   intro v hv hb hr;have d:=hst v hv hb;have:∃u,(Par p v).testBit u=true/\T.testBit u=false:=by
    apply RJ;intro c;apply d;intro u hu;cases hc:T.testBit u
    ·exact absurd ⟨u,hu,hc⟩ c
    ·rfl
   obtain⟨u,hu,f⟩:=this;have k:u<p.length:=KI (ED hp) hu;have hcl:=Id hp (s:=Par p v) (ED hp);have a:(S.up p (Par p v) p.length).testBit u=true:=By _ u hu;have b:Sub (S.up p (Par p u) p.length) (S.up p (Par p v) p.length):=Fc hcl (hcl u k a) _;have hlt:S.up p (Par p u) p.length<S.up p (Par p v) p.length:=by refine Nat.lt_of_le_of_ne (NM b) λe=>?_;have:=h u k;rw[e,a]at this;cases this
   exact ih _ (by omega) u k f rfl
 intro v hv;cases hc:T.testBit v
 ·exact (none _ v hv hc rfl).elim
 ·rfl
end
theorem ug:∀a b:List Int,S.OB (a++b)=S.OB a*S.OB b
 |[],b=>by simp[S.OB]
 |x::a,b=>by rw[QQ,eo,eo,ug a b,Te]
theorem wJ:∀{a va:List Int} (b vb:List Int),a.length=va.length->S.OC (a++b) (va++vb)=S.OC a va*S.OB b+S.OC b vb
 |[],[],b,vb,_=>by simp[S.OC]
 |[],_::_,_,_,h=>by simp at h
 |_::_,[],_,_,h=>by simp at h
 | c::a,v::va,b,vb,h=>by rw[QQ,QQ,S.OC,S.OC,wJ b vb (by simpa using h),ug,SJ,Te];omega
theorem C_:∀{cs vs:List Int} (a:Int),(∀c∈cs,1<=c)->InC cs vs->S.PS cs (a*S.OB cs+S.OC cs vs)=a
 |[],[],a,_,_=>by simp[S.PS,S.OB,S.OC]
 |[],_::_,_,_,h=>by cases h
 |_::_,[],_,_,h=>by cases h
 | c::cs,v::vs,a,hc,h=>by
  obtain⟨⟨h1,h2⟩,h3⟩:=h;have ih:=C_ (cs:=cs) (vs:=vs) (a*c+v) (λx hx=>hc x (by simp[hx])) h3;have e:a*S.OB (c::cs)+S.OC (c::cs) (v::vs)=(a*c+v)*S.OB cs+S.OC cs vs:=by rw[eo,S.OC,SJ,Te];omega
  rw[e];show S.PS cs _ / c=a;rw[ih,Int.add_comm,Int.add_mul_ediv_right _ _ (by omega),Int.ediv_eq_zero_of_lt h1 h2];omega
theorem zM:∀{cs vs:List Int} (a:Int) (i:Nat),(∀c∈cs,1<=c)->InC cs vs->i<cs.length->S.PU cs (a*S.OB cs+S.OC cs vs) i=vs[i]?.getD 0
 |[],_,_,_,_,_,hi=>by simp at hi
 |_::_,[],_,_,_,h,_=>by cases h
 | c::cs,v::vs,a,i,hc,h,hi=>by
  obtain⟨⟨h1,h2⟩,h3⟩:=h;have k:∀x∈cs,1<=x:=λx hx=>hc x (by simp[hx]);have e:a*S.OB (c::cs)+S.OC (c::cs) (v::vs)=(a*c+v)*S.OB cs+S.OC cs vs:=by rw[eo,S.OC,SJ,Te];omega
  rw[e];cases i with
  | zero =>
   show S.PS cs _ % c=v;rw[C_ _ k h3,Int.add_comm,Int.add_mul_emod_self_right,Int.emod_eq_of_lt h1 h2]
  | succ i =>
   have:=zM (a*c+v) i k h3 (by simpa using hi);simpa [S.PU] using this
theorem cd{cs vs:List Int}(hc:∀c∈cs,1<=c)(h:InC cs vs):S.OE cs (S.OC cs vs)=vs:=by
 have hl:=h.len;refine List.ext_getElem (by simp[S.OE,hl]) λi h1 h2=>?_;have hi:i<cs.length:=by simpa [S.OE] using h1
 have:=zM 0 i hc h hi;rw[Int.zero_mul,Int.zero_add,Qr h2,Qz]at this;simp[S.OE,this]
theorem bu{cs:List Int}(hc:∀c∈cs,1<=c)(h:Int):InC cs (S.OE cs h):=by refine A0 (by simp[S.OE]) λi c v h1 h2=>?_;have hi:=(Qs.1 h1).1;rw[S.OE,Qv,SE hi,RK,RN]at h2;have k:=hc c (Qx h1);rw[<-h2,S.PU,h1,Qz];exact⟨Tf _ (by omega),SY _ (by omega)⟩
theorem h_(cs:List Int)(h:Int):(S.OE cs h).length=cs.length:=by simp[S.OE]
theorem Ag:∀{cs:List Int},(∀c∈cs,1<=c)->1<=S.OB cs
 |[],_=>by decide
 | c::cs,h=>by rw[eo];have h1:=h c (by simp);have h2:=Ag (cs:=cs) λx hx=>h x (by simp[hx]);exact Int.le_trans h1 (by have:=Int.mul_le_mul_of_nonneg_left h2 (show 0<=c by omega);omega)
theorem rh:∀(cs:List Int) (n:Nat),S.OC cs (List.replicate n 0)=0
 |[],n=>by cases n<;>rfl
 |_::_,0=>rfl
 |c::cs,n+1=>by rw[RI,S.OC,rh cs n];simp
theorem wK:∀{cs vs:List Int},cs.length=vs.length->(∀(i:Nat) (c:Int),cs[i]?=some c->vs[i]?.getD 0=c - 1)->S.OC cs vs=S.OB cs - 1
 |[],[],_,_=>by decide
 |[],_::_,h,_=>by simp at h
 |_::_,[],h,_=>by simp at h
 | c::cs,v::vs,hl,h=>by
  have h0:=h 0 c rfl;have ih:=wK (cs:=cs) (vs:=vs) (by simpa using hl) λi x hx=>by have:=h (i+1) x (by simpa using hx);simpa using this
  simp at h0;rw[S.OC,ih,eo,h0,Int.sub_mul];omega
theorem Cw{cs vs:List Int}(hl:cs.length=vs.length){i:Nat}{x:Int}(hi:vs[i]?=some x)(hm:∀(j:Nat) (c:Int),i<j->cs[j]?=some c->vs[j]?.getD 0=c - 1) :
  S.OC cs (vs.take i++(x+1)::List.replicate (vs.length - (i+1)) 0)=S.OC cs vs+1:=by
 have h:=(Qs.1 hi).1;obtain⟨c,hc⟩:∃c,cs[i]?=some c:=⟨_,Qr (by omega)⟩;have e1:cs=cs.take i++c::cs.drop (i+1):=by have:=Sp (l:=cs) (i:=i) (by omega);rw[Qr (by omega),RN]at hc;rw[<-hc,<-this,Rk]
 have e2:vs=vs.take i++x::vs.drop (i+1):=by have:=Sp (l:=vs) (i:=i) h;rw[Qr h,RN]at hi;rw[<-hi,<-this,Rk]
 have hlt:(cs.take i).length=(vs.take i).length:=by simp[hl]
 have k:S.OC (cs.drop (i+1)) (vs.drop (i+1))=S.OB (cs.drop (i+1)) - 1:=by refine wK (by simp[hl]) λj d hj=>?_;rw[Ra]at hj ⊢;exact hm _ d (by omega) hj
 have h1:S.OC cs vs=S.OC (cs.take i) (vs.take i)*S.OB (c::cs.drop (i+1))+(x*S.OB (cs.drop (i+1))+S.OC (cs.drop (i+1)) (vs.drop (i+1))):=by
  conv=>lhs;rw[e1,e2,wJ _ _ hlt,S.OC]
 have h2:S.OC cs (vs.take i++(x+1)::List.replicate (vs.length - (i+1)) 0)=S.OC (cs.take i) (vs.take i)*S.OB (c::cs.drop (i+1))+((x+1)*S.OB (cs.drop (i+1))+0):=by
  conv=>lhs;rw[e1,wJ _ _ hlt,S.OC,rh]
 rw[h2,h1,k,SJ];omega
section
variable {n:Net}
def S.Oz(n:Net):List Int:=n.nodes.map (·.card)
def S.OA(cs ps:List Int):List Int:=ps.map λp=>cs[p.toNat]?.getD 0
def S.OI(n:Net):List Nat:=n.nodes.map λx=>S.OL x.parents
def S.Pb(gr card:Int)(r:List Int):Bool:=decide ((r.length:Int)=card)&&r.all (λx=>decide (0<=x)&&decide (x<=gr))&&decide (r.sum=gr)
def S.PY(k:Int)(x:Node):Bool:=decide (1<=x.card)&&decide (x.card<=4)&&S.OF x.parents k
def S.PZ(n:Net)(x:Node):Bool:=decide ((x.rows.length:Int)=S.OB (S.OA (S.Oz n) x.parents))&&x.rows.all (S.Pb n.grain x.card)
def S.Pj(n:Net):Bool:=decide (1<=n.grain)&&decide (n.grain<=60)&&decide (1<=n.nodes.length)&&decide (n.nodes.length<=8)&&n.nodes.all (S.PY n.nodes.length)&&decide (S.OB (S.Oz n)<=1024)&&S.Pt (S.OI n)&&n.nodes.all (S.PZ n)
structure NR (n:Net):Prop where
 g1:1<=n.grain
 g2:n.grain<=60
 l1:1<=n.nodes.length
 l2:n.nodes.length<=8
 card:∀x∈n.nodes,1<=x.card/\x.card<=4
 places:∀x∈n.nodes,S.OF x.parents n.nodes.length=true
 worlds:S.OB (S.Oz n)<=1024
 acyc:S.Pt (S.OI n)=true
 rows:∀x∈n.nodes,(x.rows.length:Int)=S.OB (S.OA (S.Oz n) x.parents)
 row:∀x∈n.nodes,∀r∈x.rows,(r.length:Int)=x.card/\(∀y∈r,0<=y/\y<=n.grain)/\r.sum=n.grain
theorem md:S.Pj n=true↔NR n:=by
 simp only[S.Pj,S.PY,S.PZ,S.Pb,Qt,QM,QB];constructor
 ·rintro⟨⟨⟨⟨⟨⟨⟨a,b⟩,c⟩,d⟩,e⟩,f⟩,g⟩,h⟩;exact⟨a,b,c,d,λx hx=>(e x hx).1,λx hx=>(e x hx).2,f,g,λx hx=>(h x hx).1,λx hx r hr=>⟨((h x hx).2 r hr).1.1,((h x hx).2 r hr).1.2,((h x hx).2 r hr).2⟩⟩
 ·rintro⟨a,b,c,d,e1,e2,f,g,h1,h2⟩;exact⟨⟨⟨⟨⟨⟨⟨a,b⟩,c⟩,d⟩,λx hx=>⟨e1 x hx,e2 x hx⟩⟩,f⟩,g⟩,λx hx=>⟨h1 x hx,λr hr=>⟨⟨(h2 x hx r hr).1,(h2 x hx r hr).2.1⟩,(h2 x hx r hr).2.2⟩⟩⟩
theorem aZ{k:Int}(h:S.OF l k=true):∀x∈l,0<=x/\x<k:=by
 intro x hx;obtain⟨i,hi,he⟩:=RP.1 hx;have:=QB.1 h i (QE.2 hi);have e:l[i]?.getD 0=x:=by rw[Qr hi,he];rfl
 simp only[S.Pm,Qt,QM,e]at this;omega
theorem yD{k:Int}(h:S.OF l k=true){i:Nat}{x y:Int}(hx:l[i]?=some x)(hy:l[i+1]?=some y):x<y:=by have hi:=(Qs.1 hy).1;have:=QB.1 h (i+1) (QE.2 hi);simp only[S.Pm,Qt,QM,hy,Qz,S2,hx]at this;simp at this;omega
theorem bH{k:Int}(h:S.OF l k=true)(hk:0<=k):(l.length:Int)<=k:=by
 have key:∀(i:Nat) (x:Int),l[i]?=some x->(i:Int)<=x:=by
  intro i
  induction i with
  |zero=>intro x hx;have:=aZ h x (Qx hx);omega
  | succ i ih =>
   intro x hx;have hi:=(Qs.1 hx).1;have h1:=ih l[i] (Qr (by omega));have:=yD h (Qr (show i<l.length by omega)) hx;omega
 by_cases hl:l.length=0
 ·omega
 ·have h1:=key (l.length - 1) l[l.length - 1] (Qr (by omega));have h2:=aZ h _ (RS (show l.length - 1<l.length by omega));omega
theorem NR.cs(h:NR n):∀c∈S.Oz n,1<=c/\c<=4:=λc hc=>by obtain⟨x,hx,rfl⟩:=Rb.1 hc;exact h.card x hx
theorem aw(n:Net):(S.Oz n).length=n.nodes.length:=by simp[S.Oz]
theorem bF{cs ps:List Int}(hc:∀c∈cs,1<=c/\c<=4)(hp:∀p∈ps,0<=p/\p<cs.length):∀c∈S.OA cs ps,1<=c/\c<=4:=λc h=>by obtain⟨p,h1,rfl⟩:=Rb.1 h;have h2:=hp p h1;rw[Qr (by omega),Qz];exact hc _ (RS _)
theorem d6{cs ps:List Int}(h:InC cs vals)(hp:∀p∈ps,0<=p/\p<cs.length):InC (S.OA cs ps) (S.OA vals ps):=by refine A0 (by simp[S.OA]) λi c v h1 h2=>?_;simp only[S.OA,Qv,Option.map_eq_some_iff]at h1 h2;obtain⟨p,h3,rfl⟩:=h1;obtain⟨p',h4,rfl⟩:=h2;rw[h3]at h4;injection h4 with h4;subst h4;have h5:=hp p (Qx h3);have h6:cs[p.toNat]?=some cs[p.toNat]:=Qr (by omega);obtain⟨v,h7,h8⟩:=h.get h6;rw[h6,h7,Qz,Qz];exact h8
theorem EE(cs a b:List Int):S.OA cs (a++b)=S.OA cs a++S.OA cs b:=by simp[S.OA]
def S.O9(n:Net)(vals:List Int)(v:Nat):Int:=match n.nodes[v]? with
 |none=>1
 |some x=>(x.rows[(S.OC (S.OA (S.Oz n) x.parents) (S.OA vals x.parents)).toNat]?.getD [])[(vals[v]?.getD 0).toNat]?.getD 0
def S.PQ(n:Net)(vals:List Int):Int:=S.OB ((List.range n.nodes.length).map (S.O9 n vals))
theorem NR.pin(h:NR n){x:Node}(hx:x∈n.nodes):∀p∈x.parents,0<=p/\p<(S.Oz n).length:=λp hp=>by rw[aw];exact aZ (h.places x hx) p hp
theorem Ci(h:NR n)(hv:InC (S.Oz n) vals){v:Nat}{x:Node}(hx:n.nodes[v]?=some x) :
  ∃(i:Nat) (r:List Int) (c y:Int),S.OC (S.OA (S.Oz n) x.parents) (S.OA vals x.parents)=(i:Int)/\i<x.rows.length/\x.rows[i]?=some r/\vals[v]?=some c/\0<=c/\c<x.card/\r[c.toNat]?=some y/\S.O9 n vals v=y/\0<=y/\y<=n.grain:=by
 have hm:=Qx hx;have hi:=bz (bF h.cs (h.pin hm)) (d6 hv (h.pin hm));rw[<-h.rows x hm]at hi;obtain⟨i,he⟩:=QD hi.1;have k:i<x.rows.length:=by omega
 have hc:(S.Oz n)[v]?=some x.card:=by simp[S.Oz,hx]
 obtain⟨c,h1,h2,h3⟩:=hv.get hc;obtain⟨b,a,-⟩:=h.row x hm x.rows[i] (RS k);have hcl:c.toNat<(x.rows[i]).length:=by omega
 refine⟨i,x.rows[i],c,(x.rows[i])[c.toNat],he,k,Qr k,h1,h2,h3,Qr hcl,?_,a _ (RS hcl)⟩;simp only[S.O9,hx,he,h1,S6,Qr k,Qz,Qr hcl]
theorem uh:∀{l:List Int},(∀x∈l,0<=x/\x<=60)->0<=S.OB l/\S.OB l<=60 ^ l.length
 |[],_=>by decide
 | x::l,h=>by have h1:=uh (l:=l) λy hy=>h y (by simp[hy]);have h2:=h x (by simp);rw[eo,Rd,Int.pow_succ,Int.mul_comm x];refine⟨Sm h1.1 h2.1,Int.le_trans (Int.mul_le_mul_of_nonneg_left h2.2 h1.1) (RD h1.2 (by decide))⟩
theorem Of(h:k<=8):(60:Int) ^ k<=167961600000000:=by
 have hk:k=0\/k=1\/k=2\/k=3\/k=4\/k=5\/k=6\/k=7\/k=8:=by omega
 rcases hk with rfl|rfl|rfl|rfl|rfl|rfl|rfl|rfl|rfl<;>decide
theorem Hk(h:NR n)(hv:InC (S.Oz n) vals){v:Nat}(hi:v<n.nodes.length):0<=S.O9 n vals v/\S.O9 n vals v<=60:=by obtain⟨i,r,c,y,-,-,-,-,-,-,-,e,a,b⟩:=Ci h hv (Qr hi);have:=h.g2;omega
theorem sR(h:NR n)(hv:InC (S.Oz n) vals){j:Nat}(hj:j<=n.nodes.length):0<=S.OB ((List.range j).map (S.O9 n vals))/\S.OB ((List.range j).map (S.O9 n vals))<=167961600000000:=by
 have h1:=uh (l:=(List.range j).map (S.O9 n vals)) λx hx=>by obtain⟨i,hi,rfl⟩:=Rb.1 hx;exact Hk h hv (by have:=QE.1 hi;omega)
 have h2:=Of (k:=((List.range j).map (S.O9 n vals)).length) (by have:=h.l2;simp;omega);omega
theorem Fg(n:Net)(vals:List Int)(j:Nat):S.OB ((List.range (j+1)).map (S.O9 n vals))=S.OB ((List.range j).map (S.O9 n vals))*S.O9 n vals j:=by rw[Ry,Rx,List.map_singleton,u_]
def S.OH(n:Net)(p:Nat->Bool):Nat->Int
 |0=>0
 |j+1=>S.OH n p j+if p j then S.PQ n (S.OE (S.Oz n) (j:Int)) else 0
theorem nA(h:NR n)(hv:InC (S.Oz n) vals):0<=S.PQ n vals/\S.PQ n vals<=167961600000000:=sR h hv (Qq _)
theorem tA{n:Net}(h:NR n)(p:Nat->Bool):∀j:Nat,0<=S.OH n p j/\S.OH n p j<=167961600000000*j
 |0=>by simp[S.OH]
 | j+1=>by
  have ih:=tA h p j;have hw:=nA h (bu (λc hc=>(h.cs c hc).1) (j:Int));rw[S.OH]
  split<;>omega
theorem yS{n:Net}{p q:Nat->Bool}:∀{j:Nat},(∀i,i<j->p i=q i)->S.OH n p j=S.OH n q j
 |0,_=>rfl
 |j+1,h=>by rw[S.OH,S.OH,yS λi hi=>h i (by omega),h j (by omega)]
def S.OD(n:Net):Nat:=(S.OB (S.Oz n)).toNat
def S.Pq(n:Net)(e:List Int):Int:=S.OH n (λw=>S.PO (S.OE (S.Oz n) (w:Int)) e) (S.OD n)
theorem NR.wl(h:NR n):1<=S.OD n/\S.OD n<=1024/\((S.OD n:Nat):Int)=S.OB (S.Oz n):=by have h1:=Ag λc hc=>(h.cs c hc).1;have h2:=h.worlds;unfold S.OD;omega
theorem CS(h:NR n)(e:List Int):0<=S.Pq n e/\S.Pq n e<=171992678400000000:=by have h1:=tA h (λw=>S.PO (S.OE (S.Oz n) (w:Int)) e) (S.OD n);have h2:=h.wl;unfold S.Pq;omega
def S.Pc(n:Net)(e:List Int):Bool:=decide (e.length=n.nodes.length)&&(List.range e.length).all λv=>decide (-1<=e[v]?.getD 0)&&decide (e[v]?.getD 0<(S.Oz n)[v]?.getD 0)
def S.Pe(n:Net)(e:List Int):Int:=if S.Pj n then (if S.Pc n e then 0 else 2) else 50
end
section
variable {b card:Nat}
def S.PW(b card p:Nat):Nat:=p / (b*card)*b+p % b
def S.PX(b card p:Nat):Nat:=p / b % card
def S.Qb(rows:List (List Int))(b card t:Nat):List Int:=(List.range (rows.length*card)).map λp=>if S.PW b card p*card+S.PX b card p<t then (rows[S.PW b card p]?.getD [])[S.PX b card p]?.getD 0 else 0
def S.Qc(rows:List (List Int))(b card:Nat):List Int:=(List.range (rows.length*card)).map λp=>(rows[S.PW b card p]?.getD [])[S.PX b card p]?.getD 0
end
def S.P7(ps:List Int)(k:Nat)(v:Int):List Int:=ps.take k++v::ps.drop k
section
variable {h:H}
abbrev Az:Type:=UInt8×UInt8×List UInt8
abbrev uD:Type:=UInt8×List Az×List UInt8
abbrev vD:Type:=UInt8×UInt8×UInt8×Int
theorem An{x:Az}{cs:List AV}:Rp.rp P k h x cs↔∃a,cs=[u8v x.1,u8v x.2.1,a]/\SlR P k h x.2.2 a:=by
 constructor
 ·rintro⟨c1,b,rfl,h1,c,d,rfl,h2,⟨a,rfl,h4⟩⟩;rw[di.1 h1,di.1 h2];exact⟨a,rfl,h4⟩
 ·rintro⟨a,rfl,h4⟩;exact⟨[_],[_,a],rfl,di.2 rfl,[_],[a],rfl,di.2 rfl,⟨a,rfl,h4⟩⟩
theorem Al{x:uD}{cs:List AV}:Rp.rp P k h x cs↔∃a b,cs=[u8v x.1,a,b]/\SlR P k h x.2.1 a/\SlR P k h x.2.2 b:=by
 constructor
 ·rintro⟨c1,c,rfl,h1,d,e,rfl,⟨a,rfl,ha⟩,⟨b,rfl,hb⟩⟩;rw[di.1 h1];exact⟨a,b,rfl,ha,hb⟩
 ·rintro⟨a,b,rfl,ha,hb⟩;exact⟨[_],[a,b],rfl,di.2 rfl,[a],[b],rfl,⟨a,rfl,ha⟩,⟨b,rfl,hb⟩⟩
theorem Di{x:vD}{cs:List AV}:Rp.rp P k h x cs↔cs=[u8v x.1,u8v x.2.1,u8v x.2.2.1,T8 x.2.2.2]:=by
 constructor
 ·rintro⟨c1,a,rfl,h1,b,c,rfl,h2,d,e,rfl,h3,h4⟩;rw[di.1 h1,di.1 h2,di.1 h3,aG.1 h4];rfl
 ·rintro rfl;exact⟨[_],[_,_,_],rfl,di.2 rfl,[_],[_,_],rfl,di.2 rfl,[_],[_],rfl,di.2 rfl,aG.2 rfl⟩
end
theorem Nv[XOc]{k2:Nat}{P2:Nat->Prop}{w:AV}{p:List Int}(hd:0<d)(hv:SlR P k g.h l v)(hw:SlR P2 k2 g.h p w)(hp:p.length<1073741824)(hin:∀x∈p,0<=x/\x<l.length) :
  ∃r,ay C0 d 68 [v,w] g=.val r/\IT 0 (S.OA l p) r:=by
 obtain⟨v',e1,o⟩:=bj hv d;obtain⟨w',e2,f⟩:=bj hw d;rw[y6];refine bK Ch (xs:=[v',w']) (by simp only[aF,e1,e2]) (by simp[ta]) (bi _) (by decide) hd ?_;simp only[sz,simprocAttr,ta];have n2:=λg=>(f .nil).len g;have ra:∀h',am h' 1 v'=some (l.map ci):=λh'=>(o h').ints;have rb:∀h',am h' 1 w'=some (p.map ci):=λh'=>(f h').ints;refine GG (v:=w') (m:=p.length) (by omega) n2 (λj t df g=>df=[]/\St t [(0,v')]/\∃u,tat t 5=u/\Own g 0 u 1 ((S.OA l (p.take j)).map ci)) ⟨rfl,by simp[St,sx],_,rfl,.inl ⟨by simp[sx],by simp[S.OA]⟩⟩ (by simp[sx]) (by simp[sx]) (by decide)
  (by rintro j t df g v s (rfl|rfl|rfl|rfl|rfl|rfl|rfl)<;>simp[sx,St]) ?_ ?_
 ·rintro j t df g1 e ⟨rfl,⟨h0,-⟩,u,h5,hu⟩ h6 h1;obtain⟨x,hx,b,hm⟩:=ae e;obtain⟨c,i⟩:=hin x hm;obtain⟨n,rfl⟩:=QD c;have a:n<l.length:=by omega
  simp only[sz,simprocAttr,ra,rb,h0,h1,h5,h6,hx,e,a,QA,Qv,RK,ci,Qr a];refine bg (new:=[ci l[n]]) (hu.step (Fr.new _ _)) (by simp[sx,sy,ci]) (by simp) (by simp[aS,S.OA];omega) λv2 g2 hv2 n2 f2 _ l2=>?_;simp only[sz,simprocAttr,h0,h1,h6,St];refine⟨_,rfl,?_⟩;rw[b];simpa [a,ci,S.OA] using hv2
 ·rintro t df g1 ⟨rfl,⟨h0,-⟩,u,h5,hu⟩ -;rw[QV]at hu;simp only[sz,simprocAttr,sK,h5];exact⟨_,hu.ints (by simp[S.OA];omega)⟩
theorem HN[XOc]{n:Net}(hd:0<d)(hm:Agg n P k g.h v)(hn:n.nodes.length<1073741824) :
  ∃r,ay C0 d 92 [v] g=.val r/\IT 0 (S.Oz n) r:=by
 obtain⟨v',e,cs,rfl,hc⟩:=qu (jk n) (by decide) d hm;obtain⟨b,rfl,hN⟩:=jK.1 hc;obtain⟨rows,i,w,p,q⟩:=hN.all;have i:∀h',am h' 3 b=some rows:=i;rw[uN];refine bK xN (xs:=[.agg [T8 n.grain,b]]) (by simp only[aF,e]) (by simp[nf]) (bi _) (by decide) hd ?_;simp only[sz,simprocAttr,nf,p_,n_];refine d7 n.nodes.length (by omega) (λj t df g=>df=[]/\tat t 1=T9 0/\g.h.get 0=Tq 2 [[T8 n.grain,b]]/\1<=g.nx/\∃u,tat t 3=u/\Own g 1 u 1 (((n.nodes.take j).map (·.card)).map ci))
  ⟨rfl,by simp[sx],by simp[sx],by simp[sx],_,rfl,.inl ⟨by simp[sx],rfl⟩⟩ (by simp[sx]) (by decide)
  (by rintro j t df g v s (rfl|rfl|rfl)<;>simp[sx]) ?_ ?_ ?_
 ·rintro j t df g l ⟨rfl,h1,hg,a,u,h3,hu⟩ h4;simp only[sz,simprocAttr,h1,h4,hg,hN.len];exact⟨a,u,h3,hu⟩
 ·rintro j t df g l ⟨rfl,h1,hg,a,u,h3,hu⟩ h4;obtain⟨x,hx,f,hm⟩:=ae l;obtain⟨row,o,q2⟩:=p j x hx;obtain⟨a',b',rfl,m,-⟩:=eL.1 q2;have hlt:j<rows.length:=by omega
  have c:=q (by omega);simp only[sz,simprocAttr,h1,h3,h4,hg,i,hlt,o,c];refine bg (new:=[ci x.card]) (hu.step (Fr.new _ _)) (by simp[sx,sy,ci]) (by simp) (by simp[aS];omega) λv2 g2 hv2 n2 f2 _ l2=>?_;simp only[sz,simprocAttr,h1,h4];refine⟨?_,?_,_,rfl,?_⟩
  ·rw[f2 0 (by simp) (λe=>by have:=(hu.lt e).1;omega),G.new_h,ax _ _ _ (by omega),hg]
  ·simp at n2;omega
  ·rw[f];simpa [ci] using hv2
 ·rintro t df g ⟨rfl,h1,hg,a,u,h3,hu⟩;rw[QV]at hu;simp only[sz,simprocAttr,oa,h3];exact⟨_,hu.ints (by simp;omega)⟩
theorem HG[XOc]{n:Net}{i:Nat}{x:Node}(hd:0<d)(hm:Agg n P k g.h v)(hn:n.nodes.length<1073741824)(hx:n.nodes[i]?=some x)(hl:x.parents.length<1073741824)(hin:∀p∈x.parents,0<=p/\p<n.nodes.length) :
  ∃r,ay C0 d 49 [v,T8 (i:Int)] g=.val r/\IT 0 (S.OA (S.Oz n) x.parents) r:=by
 obtain⟨v',e,cs,rfl,hc⟩:=qu (jk n) (by decide) d hm;have f:=hc;obtain⟨b,rfl,hN⟩:=jK.1 hc;have j:∀h,Agg n NoP (max k d) h (.agg [T8 n.grain,b]):=λh=>⟨_,rfl,Rp.tree f (Qq _)⟩;obtain⟨rows,o,y,t,u⟩:=hN.all;have o:∀h',am h' 3 b=some rows:=o;obtain⟨row,s,q2⟩:=t i x hx;obtain⟨a',b',rfl,a,-⟩:=eL.1 q2;have q:=(Qs.1 hx).1;have hlt:i<rows.length:=by omega
 have m:=u (by omega);rw[pd];refine bK qF (xs:=[.agg [T8 n.grain,b],T8 (i:Int)]) (by simp only[aF,e,iK 0]) (by simp[gc]) (bi _) (by decide) hd ?_;simp only[sz,simprocAttr,gc,jx];refine bL (HN (RA d) (j _) hn) λrc hrc=>?_;have c:=λg=>Nv (d:=d+1) (g:=g) (P:=NoP) (P2:=NoP) (k:=0) (k2:=max k d) (l:=S.Oz n) (p:=x.parents) (RA d) (hrc.sl g.h) (a.tree (h':=g.h) (Qq _)) hl (λp hp=>by rw[aw];exact hin p hp);simp only[sz,simprocAttr,o,hlt,s,m];refine bL (c _) λr hr=>?_;simp only[sz,simprocAttr];obtain⟨w,hw,hs⟩:=hr;exact⟨_,w,hw,hs.tree (Qq _)⟩
theorem Ko[XOc](hd:0<d)(hv:SlR P k g.h l v):ay C0 d 48 [v] g=.val (T8 (S.Pd l)):=by have b:=FN hv.ints;have:=Mk hd (Hv hv.ints) (by rw[b];exact hv.1);rwa [b]at this
theorem mc{n:Net}(d:Nat)(hm:Agg n NoP 0 g.h v):∃b rows,v=.agg [T8 n.grain,b]/\Hx.snap g.h d aD v=some v/\(∀h,Agg n NoP 0 h v)/\SlR NoP 0 .nil n.nodes b/\(∀h,am h 3 b=some rows)/\rows.length=n.nodes.length /\
  (∀(i:Nat) (x:Node),n.nodes[i]?=some x->∃pa ra,rows[i]?=some [T8 x.card,pa,ra]/\i<rows.length/\SlR NoP 0 .nil x.parents pa/\SlR NoP 0 .nil x.rows ra)/\(0<n.nodes.length->wx b=true):=by
 have e:=tH d hm;obtain⟨cs,rfl,hc⟩:=hm;have c:=hc;obtain⟨b,rfl,hN⟩:=jK.1 hc;have hN:=hN.tree (h':=.nil) (Qq _);obtain⟨rows,l,f,m,o⟩:=hN.all;refine⟨b,rows,rfl,e,λh=>⟨_,rfl,Rp.tree c (Qq _)⟩,hN,l,f,λi x hx=>?_,o⟩;obtain⟨row,j,q2⟩:=m i x hx;obtain⟨a',b',rfl,k,a⟩:=eL.1 q2;exact⟨a',b',j,by rw[f];exact (Qs.1 hx).1,k,a⟩
theorem pJ{l:List (List Int)}{b:AV}(hb:SlR NoP k .nil l b):∃rows:List (List AV),(∀h,am h 1 b=some rows)/\rows.length=l.length/\(∀(i:Nat) (r:List Int),l[i]?=some r->∃z,rows[i]?=some [z]/\i<rows.length/\SlR NoP k .nil r z)/\(0<l.length->wx b=true):=by obtain⟨rows,d,a,e,f⟩:=hb.all;refine⟨rows,d,a,λi r hr=>?_,f⟩;obtain⟨row,c,q2⟩:=e i r hr;obtain⟨z,rfl,hz⟩:=ch.1 q2;exact⟨z,c,by rw[a];exact (Qs.1 hr).1,hz⟩
section
variable {d:Nat}{b pa ra z:AV}{gr card:Int}{r:List Int}
def LR5(v:Nat)(q:Nat):List (Nat×AV):=[(1,T9 0),(6,T8 (v:Int)),(7,T9 q)]
structure RJ1 (gr:Int) (r:List Int) (v q i j:Nat) (t:T):Prop where
 st:St t ((8,T8 (i:Int))::LR5 v q)
 s9:tat t 9=T8 (r.take j).sum
 all:∀y∈r.take j,0<=y/\y<=gr
structure RJ4 (gr card:Int) (rws:List (List Int)) (v q j:Nat) (t:T):Prop where
 st:St t (LR5 v q)
 all:∀r∈rws.take j,S.Pb gr card r=true
structure RJ0 (n:Net) (b:AV) (j:Nat) (t:T) (g:G):Prop where
 st:St t [(1,T9 0),(3,T8 (S.OB ((S.Oz n).take j)))]
 hg:g.h.get 0=Tq 2 [[T8 n.grain,b]]
 nx:1<=g.nx
 all:∀x∈n.nodes.take j,S.PY n.nodes.length x=true
structure RJ6 (n:Net) (b:AV) (j:Nat) (t:T) (g:G):Prop where
 st:St t [(1,T9 0)]
 hg:g.h.get 0=Tq 2 [[T8 n.grain,b]]
 nx:1<=g.nx
 all:∀x∈n.nodes.take j,S.PZ n x=true
end
end
end Hx
