/- A part of the proof: an interpreter over abstract values, shown right against the model, and what the functions of the chapter compute on it. -/
import Derived.Test.YtkbieohddgjioaaRows
import Derived.KernelRfl
import Derived.Test.YtkbieohddgjioaaHx7
set_option linter.unusedVariables false
set_option linter.unusedSimpArgs false
set_option linter.unnecessarySimpa false
section
namespace Go.Proofs.Ytkbieohddgjioaa.Gen
open Hx
noncomputable def cfg0:Cfg:={ P:=Try.prog,iso:=λf=>Nat.testBit 1248737599929224379307642159617802239 f,ext:=λ_=>none,glob:=λ_=>none }
theorem cfg0Ok:CfgOk cfg0:=CfgOk.plain (by kernel_rfl) (by kernel_rfl)
noncomputable def cfgA:Cfg:=cfg0.add 69 (Dc cfg0 1000 69)
theorem cfgAOk:CfgOk cfgA:=cfg0Ok.add (BJ cfg0Ok)
noncomputable def cfg:Cfg:=cfgA.add 27 (Dc cfgA 1000 27)
theorem cfgOk:CfgOk cfg:=cfgAOk.add (BJ cfgAOk)
theorem wakes_run:am (sem cfg 20000) 1 G.empty 7 []=.val (.bool true):=by kernel_rfl
noncomputable def cfg1:Cfg:=cfg0.add 7 (tT (.bool true))
theorem cfg1Ok:CfgOk cfg1:=cfg0Ok.add (ExtOk.cfg (C:=cfg) (C':=cfg0) rfl rfl (CU cfgOk wakes_run))
end Go.Proofs.Ytkbieohddgjioaa.Gen
end
section
namespace Hx
open Go
set_option maxRecDepth 100000
noncomputable section
def C0:Cfg:=Go.Proofs.Ytkbieohddgjioaa.Gen.cfg1
abbrev N.ap:Nat:=12
abbrev N.aK:Nat:=15
abbrev N.aL:Nat:=41
abbrev N.be:Nat:=42
abbrev N.aM:Nat:=39
abbrev N.aq:Nat:=40
abbrev N.bf:Nat:=67
abbrev N.bc:Nat:=3
abbrev N.aN:Nat:=10
abbrev N.bg:Nat:=7
abbrev N.aa:Nat:=80
abbrev N.aO:Nat:=35
abbrev N.aP:Nat:=38
abbrev N.au:Nat:=77
abbrev N.aw:Nat:=64
abbrev N.ax:Nat:=84
abbrev N.ae:Nat:=96
abbrev N.aQ:Nat:=78
abbrev N.aR:Nat:=62
abbrev N.aS:Nat:=61
abbrev N.ak:Nat:=30
abbrev N.aT:Nat:=43
abbrev N.am:Nat:=31
abbrev N.aU:Nat:=44
abbrev N.ay:Nat:=34
abbrev N.aV:Nat:=63
abbrev N.aA:Nat:=8
abbrev N.af:Nat:=46
abbrev N.aB:Nat:=32
abbrev N.aC:Nat:=45
abbrev N.an:Nat:=16
abbrev N.aW:Nat:=68
abbrev N.ah:Nat:=33
abbrev N.aD:Nat:=17
abbrev N.aE:Nat:=14
abbrev N.aF:Nat:=47
abbrev N.ac:Nat:=11
abbrev N.aG:Nat:=13
abbrev N.aX:Nat:=9
abbrev N.aY:Nat:=19
abbrev N.aZ:Nat:=37
abbrev N.aH:Nat:=18
abbrev N.aI:Nat:=36
abbrev N.a7:Nat:=65
abbrev N.a9:Nat:=66
abbrev N.bh:Nat:=87
abbrev N.bi:Nat:=88
abbrev N.bj:Nat:=86
abbrev N.a_:Nat:=85
abbrev N.bk:Nat:=90
abbrev N.bm:Nat:=92
abbrev N.bp:Nat:=91
abbrev N.aJ:Nat:=79
abbrev N.bu:Nat:=89
def bz:SC:=sQ [o 57 (.bin .lss (.t 56) (qI 4))] (.seq (.cond (.t 57) (.skip) (.exit 2)) (.seq (.blk 3 (sQ [o 58 (.ix false 4 1 (.t 55) (.t 56)),oM 18 58] (.seq (.quiet [o 59 (.load true 2 (.t 16)),oM 60 18,o 61 (.call N.ap [.t 59,.t 60]),o 62 (.load true 2 (.t 16)),oM 63 18,o 64 (.call N.aG [.t 62,.t 63]),o 65 (.bin .neq (.t 61) (.t 64))]) (.cond (.t 65) (sQ [o 12 (.mv (.k (.bool false)))] (.ret)) (.skip))))) (.ops [oA 66 56,oM 56 66])))
def dP:SC:=.ops [oA 128 83,oM 83 128]
def b_:SC:=sQ [o 84 (.bin .lss (.t 83) (qI 3))] (.seq (.cond (.t 84) (.skip) (.exit 4)) (.seq (.blk 5 (sQ [o 85 (.ix false 3 1 (.t 82) (.t 83)),oM 20 85] (sQ [o 87 (.load true 2 (.t 16)),oM 88 20,o 89 (.call N.aK [.t 87,.t 88]),oM 86 89,o 90 (.ext (.t 86) 0),o 91 (.ext (.t 86) 1),oM 21 90,oM 22 91] (.blk 6 (sQ [o 93 (.load true 2 (.t 16)),o 94 (.call N.an [.t 93]),o 95 (.not (.t 94)),oM 92 95] (.cond (.t 92) (sQ [oM 96 22,o 97 (.bin .neq (.t 96) (qI 50)),oM 98 97,og 99 98 false (.mv (.t 21)),og 100 98 false (.len .slice (.t 99)),og 101 98 false (.bin .gtr (.t 100) (qI 0)),o 102 (.pick (.t 98) (.k (.bool true)) (.t 101))] (.cond (.t 102) (sQ [o 12 (.mv (.k (.bool false)))] (.ret)) (.skip))) (sQ [oM 104 20,oF 105 1 16,oL 106 105,oN 107 106,o 108 (.call N.aD [.t 104,.t 107,.k (.int .i64 (-1))]),o 109 (.not (.t 108)),oM 103 109] (.cond (.t 103) (sQ [oM 110 22,o 111 (.bin .neq (.t 110) (qI 2)),oM 112 111,og 113 112 false (.mv (.t 21)),og 114 112 false (.len .slice (.t 113)),og 115 112 false (.bin .gtr (.t 114) (qI 0)),o 116 (.pick (.t 112) (.k (.bool true)) (.t 115))] (.cond (.t 116) (sQ [o 12 (.mv (.k (.bool false)))] (.ret)) (.skip))) (sQ [oM 118 22,o 119 (.bin .neq (.t 118) (qI 0)),oM 120 119,og 121 120 false (.mv (.t 21)),og 122 120 false (.load true 2 (.t 16)),og 123 120 false (.mv (.t 20)),og 124 120 false (.call N.aY [.t 122,.t 123]),og 125 120 false (.call N.aH [.t 121,.t 124]),og 126 120 false (.not (.t 125)),o 127 (.pick (.t 120) (.k (.bool true)) (.t 126)),oM 117 127] (.cond (.t 117) (sQ [o 12 (.mv (.k (.bool false)))] (.ret)) (.skip))))))))))) dP))
def cd:SC:=.seq (.quiet [oF 67 1 13,oL 68 67,oN 69 68,o 70 (.load true 8 (.t 8)),o 71 (.call N.aE [.t 69,.k (.int .i64 (-1)),.t 70]),oF 72 1 16,oL 73 72,oN 74 73,o 75 (.load true 8 (.t 8)),o 76 (.call N.aE [.t 74,.k (.int .i64 (-1)),.t 75]),oM 77 5,oM 78 5,oN 79 78,o 80 (.mn (.t 79) (qI 10)),o 81 (.slc 1 (.t 77) [] [.t 80]),o 82 (.build [.nils,.nils,.nils] [(0,1),(1,1),(2,1)] [.t 71,.t 76,.t 81]),oK 83 0]) (.blk 4 (.loop b_))
def dQ:SC:=.ops [oA 129 35,oM 35 129]
def dO:SC:=sQ [o 36 (.bin .lss (.t 35) (qI 2))] (.seq (.cond (.t 36) (.skip) (.exit 0)) (.seq (.blk 1 (sQ [o 37 (.ix true 2 2 (.t 34) (.t 35)),o 16 (.alloc [.int .i64 0,.nils]),oz (.store 2 (.t 16) (.t 37))] (.seq (.seq (.quiet [oM 38 14,o 39 (.ixa 2 3 (.t 9) (qI 0)),o 40 (.load true 3 (.t 39)),oM 41 14,o 42 (.call N.ac [.t 40,.t 41]),o 43 (.ixa 2 3 (.t 9) (qI 1)),o 44 (.load true 3 (.t 43)),o 45 (.ixa 2 3 (.t 9) (qI 0)),o 46 (.load true 3 (.t 45)),oM 47 14,o 48 (.call N.ac [.t 46,.t 47]),o 49 (.call N.ac [.t 44,.t 48]),oM 50 4,oM 51 4,oN 52 51,o 53 (.mn (.t 52) (qI 20)),o 54 (.slc 3 (.t 50) [] [.t 53]),o 55 (.build [.nils,.nils,.nils,.nils] [(0,1),(1,1),(2,1),(3,1)] [.t 38,.t 42,.t 49,.t 54]),oK 56 0]) (.blk 2 (.loop bz))) cd))) dQ))
def dR:SC:=sQ [o 12 (.mv (.k (.bool true)))] (.ret)
def eK:SC:=.seq (sQ [o 23 (.call N.bg []),o 24 (.not (.t 23))] (.cond (.t 24) (sQ [o 12 (.mv (.k (.bool false)))] (.ret)) (.skip))) (sQ [o 25 (.load true 3 (.t 6)),o 26 (.call N.aA [.t 25]),o 13 (.alloc [.int .i64 0,.nils]),oz (.store 2 (.t 13) (.t 26))] (sQ [oF 27 1 13,oL 28 27,oN 29 28,o 30 (.load true 8 (.t 8)),o 31 (.call N.aX [.t 29,.t 30]),oM 14 31] (.seq (sQ [o 32 (.load true 3 (.t 6)),o 33 (.load true 4 (.t 7)),o 34 (.call N.aN [.t 32,.t 33]),oK 35 0] (.blk 0 (.loop dO))) dR)))
def cY:SF:=⟨130,[.tm 12],sQ [o 6 (.box (.t 0)),o 7 (.box (.t 1)),o 8 (.box (.t 2)),o 9 (.box (.t 3)),o 12 (.mv (.k (.bool false)))] eK⟩
def nX:SC:=sQ [oM 65 6,oM 66 9,o 67 (.bin .mul (.t 65) (.t 66)),oM 6 67] (.feet [0,1,0,0,12,28,0,127,255,511] [oF 68 1 4,oL 69 68,oM 70 5,oM 71 7,oX 72 70 71,oL 73 72,oM 74 9,o 75 (.ixs 3 (.t 69) (.t 73)),oF 76 0 75,oz (.store 1 (.t 76) (.t 74))])
def nY:SC:=sQ [oF 50 0 8,oL 51 50,o 52 (.bin .rem (.t 51) (.k (.int .u8 2))),o 53 (.conv .i64 (.t 52)),o 54 (.bin .add (qI 2) (.t 53)),oM 9 54] (.seq (sQ [oM 55 6,oM 56 9,o 57 (.bin .mul (.t 55) (.t 56)),oM 58 3,o 59 (.bin .sub (.t 58) (qI 1)),oM 60 7,o 61 (.bin .sub (.t 59) (.t 60)),o 62 (.conv .u64 (.t 61)),o 63 (.bin .shl (.t 57) (.t 62)),o 64 (.bin .gtr (.t 63) (qI 100))] (.cond (.t 64) (.ops [oK 9 2]) (.skip))) nX)
def ip:SC:=.ops [oM 38 7,oA 39 38,oM 7 39]
def dT:SC:=.seq (sQ [oM 35 7,oM 36 3,o 37 (.bin .lss (.t 35) (.t 36))] (.cond (.t 37) (.skip) (.exit 0))) (.seq (.blk 1 (sQ [o 8 (.alloc [.int .u8 0,.int .u8 0,.nils])] (.seq (sQ [oM 40 7,oF 41 1 1,oL 42 41,oN 43 42,o 44 (.bin .lss (.t 40) (.t 43))] (.cond (.t 44) (.ops [oF 45 1 1,oL 46 45,oM 47 7,o 48 (.ixs 3 (.t 46) (.t 47)),o 49 (.load true 3 (.t 48)),oz (.store 3 (.t 8) (.t 49))]) (.skip))) nY))) ip)
def iq:SC:=.ops [oM 104 14,oA 105 104,oM 14 105]
def dU:SC:=.seq (sQ [oM 101 14,oM 102 10,o 103 (.bin .lss (.t 101) (.t 102))] (.cond (.t 103) (.skip) (.exit 6))) (.seq (.blk 7 (sQ [oM 106 5,oM 107 14,oX 108 106 107,oL 109 108,oM 110 13,o 111 (.bin .eql (.t 109) (.t 110)),oM 112 111,og 113 112 true (.fad 1 (.t 11)),og 114 112 true (.load false 1 (.t 113)),og 115 112 true (.mv (.t 14)),og 116 112 true (.conv .u64 (.t 115)),og 117 112 true (.bin .shr (.t 114) (.t 116)),og 118 112 true (.bin .and (.t 117) (.k (.int .u8 1))),og 119 112 true (.bin .eql (.t 118) (.k (.int .u8 1))),o 120 (.pick (.t 112) (.t 119) (.k (.bool false))),oM 121 120,og 122 121 true (.fad 1 (.t 4)),og 123 121 true (.load false 1 (.t 122)),og 124 121 true (.mv (.t 12)),og 125 121 true (.ixs 3 (.t 123) (.t 124)),og 126 121 true (.fad 1 (.t 125)),og 127 121 true (.load false 1 (.t 126)),og 128 121 true (.len .slice (.t 127)),og 129 121 true (.bin .lss (.t 128) (qI 3)),o 130 (.pick (.t 121) (.t 129) (.k (.bool false)))] (.cond (.t 130) (.feet [0,1,0,0,8,0,56,120,248,0,512,2040,4095,8191,16383] [oF 131 1 4,oL 132 131,oM 133 12,oF 134 1 4,oL 135 134,oM 136 12,o 137 (.ixs 3 (.t 135) (.t 136)),oF 138 1 137,oL 139 138,oM 140 13,o 141 (.bsl 1 1 [.int .i64 0] [0] [.t 140]),o 142 (.app 1 8 (.t 139) (.t 141)),o 143 (.ixs 3 (.t 132) (.t 133)),oF 144 1 143,oz (.store 1 (.t 144) (.t 142))]) (.skip)))) iq)
def ir:SC:=.ops [oM 99 13,oA 100 99,oM 13 100]
def dV:SC:=.seq (sQ [oM 96 13,oM 97 3,o 98 (.bin .lss (.t 96) (.t 97))] (.cond (.t 98) (.skip) (.exit 4))) (.seq (.blk 5 (sQ [oK 14 0] (.blk 6 (.loop dU)))) ir)
def dW:SC:=.seq (sQ [oM 145 15,o 146 (.load true 2 (.t 4)),oM 147 12,o 148 (.call N.aB [.t 146,.t 147]),o 149 (.call N.am [.t 148]),o 150 (.bin .lss (.t 145) (.t 149))] (.cond (.t 150) (.skip) (.exit 8))) (.seq (.blk 9 (.feet [0,1,0,0,8,0,56,120,248,0,512,0,2048,0,14336,30720,63488,0,131072,0,0,1048576,0,7340032,15728640,32505856,66060288,133693440,268434944,536870400,1073741816,2147483647,4294967295,8589934591] [oF 153 1 4,oL 154 153,oM 155 12,oF 156 1 4,oL 157 156,oM 158 12,o 159 (.ixs 3 (.t 157) (.t 158)),oF 160 2 159,oL 161 160,oF 162 0 4,oL 163 162,oF 164 1 4,oL 165 164,oM 166 12,o 167 (.ixs 3 (.t 165) (.t 166)),oF 168 0 167,oL 169 168,oF 170 2 11,oL 171 170,oM 172 15,oF 173 1 4,oL 174 173,oM 175 12,o 176 (.ixs 3 (.t 174) (.t 175)),oF 177 0 176,oL 178 177,oA 179 178,o 180 (.bin .mul (.t 172) (.t 179)),o 181 (.call N.ah [.t 163,.t 169,.t 171,.t 180]),o 182 (.bsl 1 1 [.nils] [0] [.t 181]),o 183 (.app 1 24 (.t 161) (.t 182)),o 184 (.ixs 3 (.t 154) (.t 155)),oF 185 2 184,oz (.store 1 (.t 185) (.t 183))])) (.ops [oM 151 15,oA 152 151,oM 15 152]))
def it:SC:=sQ [oK 15 0] (.blk 8 (.loop dW))
def gJ:SC:=sQ [oM 92 5,oM 93 10,oX 94 92 93,oL 95 94,oM 12 95] (.seq (sQ [oK 13 0] (.blk 4 (.loop dV))) it)
def gK:SC:=.ops [oM 80 10,oA 81 80,oM 10 81]
def dH:SC:=.seq (sQ [oM 77 10,oM 78 3,o 79 (.bin .lss (.t 77) (.t 78))] (.cond (.t 79) (.skip) (.exit 2))) (.seq (.blk 3 (sQ [o 11 (.alloc [.int .u8 0,.int .u8 0,.nils])] (.seq (sQ [oM 82 10,oF 83 1 1,oL 84 83,oN 85 84,o 86 (.bin .lss (.t 82) (.t 85))] (.cond (.t 86) (.ops [oF 87 1 1,oL 88 87,oM 89 10,o 90 (.ixs 3 (.t 88) (.t 89)),o 91 (.load true 3 (.t 90)),oz (.store 3 (.t 11) (.t 91))]) (.skip))) gJ))) gK)
def gL:SC:=sQ [o 186 (.load true 2 (.t 4)),oz (.store 2 (.t 2) (.t 186))] (.ret)
def gM:SC:=.seq (sQ [oK 10 0] (.blk 2 (.loop dH))) gL
def jd:SC:=sQ [oF 16 1 1,oL 17 16,oN 18 17,o 19 (.mx (.t 18) (qI 1)),o 20 (.mn (.t 19) (qI 5)),oM 3 20] (.seq (.feet [0,1,3,7,15,0,32,127,0,511] [oF 21 0 1,oL 22 21,o 23 (.bin .rem (.t 22) (.k (.int .u8 60))),o 24 (.conv .i64 (.t 23)),o 25 (.bin .add (qI 1) (.t 24)),oM 26 3,o 27 (.mks 3 56 [.int .i64 0,.nils,.nils] (.t 26) (.t 26)),o 28 (.build [.int .i64 0,.nils] [(0,1),(1,1)] [.t 25,.t 27]),o 4 (.alloc [.int .i64 0,.nils]),oz (.store 2 (.t 4) (.t 28))]) (.seq (.feet [0,1,0,4,15,31,63] [oM 29 3,o 30 (.mks 1 1 [.int .u8 0] (.t 29) (.t 29)),oF 31 2 1,oL 32 31,o 33 (.build [.nils,.int .u16 0,.nils] [(0,1),(2,1)] [.t 30,.t 32]),o 34 (.call N.ak [.t 33]),oM 5 34]) (sQ [oK 6 1] (.seq (sQ [oK 7 0] (.blk 0 (.loop dT))) gM))))
def gq:SF:=⟨187,[.cell true 2 2],sQ [o 1 (.box (.t 0)),o 2 (.alloc [.int .i64 0,.nils])] jd⟩
def ku:SC:=.seq (sQ [oM 13 7,oM 14 0,o 15 (.bin .lss (.t 13) (.t 14))] (.cond (.t 15) (.skip) (.exit 0))) (.seq (.blk 1 (sQ [oM 18 5,oM 19 7,o 20 (.ixa 8 1 (.t 3) (qI 7)),oL 21 20,o 22 (.conv .i64 (.t 21)),o 23 (.bin .add (.t 19) (.t 22)),oM 24 0,o 25 (.bin .rem (.t 23) (.t 24)),o 26 (.build [.int .i64 0,.int .i64 0,.int .i64 0] [(0,1),(1,1),(2,1)] [.t 25,.k (.int .i64 (-1)),.k (.int .i64 (-1))]),o 27 (.bsl 3 1 [.int .i64 0,.int .i64 0,.int .i64 0] [0] [.t 26]),o 28 (.app 3 24 (.t 18) (.t 27)),oM 5 28] (.ops [oM 29 6,oM 30 7,o 31 (.bsl 1 1 [.int .i64 0] [0] [.t 30]),o 32 (.app 1 8 (.t 29) (.t 31)),oM 6 32]))) (.ops [oM 16 7,oA 17 16,oM 7 17]))
def ky:SC:=.ops [oM 77 12,oA 78 77,oM 12 78]
def gv:SC:=.seq (sQ [oM 73 12,oM 74 6,oN 75 74,o 76 (.bin .lss (.t 73) (.t 75))] (.cond (.t 76) (.skip) (.exit 4))) (.seq (.blk 5 (sQ [oM 79 12,oM 80 9,o 81 (.bin .neq (.t 79) (.t 80)),oM 82 81,og 83 82 true (.mv (.t 12)),og 84 82 true (.mv (.t 10)),og 85 82 true (.bin .neq (.t 83) (.t 84)),o 86 (.pick (.t 82) (.t 85) (.k (.bool false)))] (.cond (.t 86) (.ops [oM 87 11,oM 88 6,oM 89 12,oX 90 88 89,oL 91 90,o 92 (.bsl 1 1 [.int .i64 0] [0] [.t 91]),o 93 (.app 1 8 (.t 87) (.t 92)),oM 11 93]) (.skip)))) ky)
def kz:SC:=.ops [oM 94 11,oM 95 5,oN 96 95,o 97 (.bin .sub (.t 96) (qI 1)),o 98 (.bsl 1 1 [.int .i64 0] [0] [.t 97]),o 99 (.app 1 8 (.t 94) (.t 98)),oM 6 99]
def kC:SC:=.ops [oM 37 8,oA 38 37,oM 8 38]
def kv:SC:=.seq (sQ [oM 33 8,oM 34 0,o 35 (.bin .sub (.t 34) (qI 1)),o 36 (.bin .lss (.t 33) (.t 35))] (.cond (.t 36) (.skip) (.exit 2))) (.seq (.blk 3 (sQ [oM 39 8,o 40 (.ixa 8 1 (.t 3) (.t 39)),oL 41 40,o 42 (.conv .i64 (.t 41)),oM 43 6,oN 44 43,o 45 (.bin .rem (.t 42) (.t 44)),oM 9 45] (sQ [oM 46 9,oA 47 46,oM 48 8,o 49 (.ixa 8 1 (.t 3) (.t 48)),oL 50 49,o 51 (.bin .quo (.t 50) (.k (.int .u8 8))),o 52 (.conv .i64 (.t 51)),oM 53 6,oN 54 53,o 55 (.bin .sub (.t 54) (qI 1)),o 56 (.bin .rem (.t 52) (.t 55)),o 57 (.bin .add (.t 47) (.t 56)),oM 58 6,oN 59 58,o 60 (.bin .rem (.t 57) (.t 59)),oM 10 60] (.seq (.feet [0,0,0,6,14,0,0,96,224,510,1022,2047,4095] [oM 61 5,oM 62 6,oM 63 9,oX 64 62 63,oL 65 64,oM 66 6,oM 67 10,oX 68 66 67,oL 69 68,o 70 (.build [.int .i64 0,.int .i64 0,.int .i64 0] [(0,1),(1,1),(2,1)] [.k (.int .i64 (-1)),.t 65,.t 69]),o 71 (.bsl 3 1 [.int .i64 0,.int .i64 0,.int .i64 0] [0] [.t 70]),o 72 (.app 3 24 (.t 61) (.t 71)),oM 5 72]) (sQ [o 11 (.mv (.k (.nils)))] (.seq (sQ [oK 12 0] (.blk 4 (.loop gv))) kz)))))) kC)
def kG:SC:=sQ [oM 100 5,oM 4 100] (.ret)
def kH:SC:=.seq (sQ [oK 8 0] (.blk 2 (.loop kv))) kG
def l4:SC:=sQ [o 5 (.mv (.k (.nils)))] (sQ [o 6 (.mv (.k (.nils)))] (.seq (sQ [oK 7 0] (.blk 0 (.loop ku))) kH))
def jI:SF:=⟨101,[.tm 4],sQ [o 3 (.box (.t 1)),o 4 (.mv (.k (.nils)))] l4⟩
def nV:SC:=sQ [o 6 (.load true 3 (.t 2)),o 7 (.call N.aA [.t 6]),o 5 (.alloc [.int .i64 0,.nils]),oz (.store 2 (.t 5) (.t 7))] (.seq (.feet [0,0,0,6,15,31] [o 8 (.load true 2 (.t 5)),o 9 (.load true 4 (.t 3)),o 10 (.load true 2 (.t 5)),o 11 (.call N.ay [.t 9,.t 10]),o 12 (.build [.int .i64 0,.nils,.int .i64 0,.nils] [(0,2),(2,2)] [.t 8,.t 11]),oz (.store 4 (.t 4) (.t 12))]) (.ret))
def mz:SF:=⟨13,[.cell true 4 4],sQ [o 2 (.box (.t 0)),o 3 (.box (.t 1)),o 4 (.alloc [.int .i64 0,.nils,.int .i64 0,.nils])] nV⟩
def dl:SC:=sQ [oM 80 5,oM 4 80] (.ret)
def ko:SC:=sQ [o 5 (.mv (.k (.nils)))] (sQ [oM 8 5,oM 9 1,o 10 (.app 3 24 (.t 8) (.t 9)),oM 5 10] (.seq (sQ [oM 11 5,oN 12 11,o 13 (.bin .eql (.t 12) (qI 0))] (.cond (.t 13) (sQ [oM 14 5,oM 4 14] (.ret)) (.skip))) (sQ [oM 15 5,oF 16 1 2,oL 17 16,o 18 (.conv .i64 (.t 17)),oM 19 5,oN 20 19,o 21 (.bin .rem (.t 18) (.t 20)),o 22 (.ixs 3 (.t 15) (.t 21)),oM 6 22] (.seq (sQ [oF 23 0 2,oL 24 23,o 25 (.bin .rem (.t 24) (.k (.int .u8 6)))] (.blk 0 (sQ [o 42 (.bin .eql (.t 25) (.k (.int .u8 0))),oM 41 42] (.cond (.t 41) (.ops [oM 43 6,oF 44 2 2,oL 45 44,o 46 (.nilc (.t 43)),oF 47 0 46,oz (.store 1 (.t 47) (.t 45))]) (sQ [o 49 (.bin .eql (.t 25) (.k (.int .u8 1))),oM 48 49] (.cond (.t 48) (.ops [oM 50 6,oF 51 2 2,oL 52 51,o 53 (.nilc (.t 50)),oF 54 1 53,oz (.store 1 (.t 54) (.t 52))]) (sQ [o 56 (.bin .eql (.t 25) (.k (.int .u8 2))),oM 55 56] (.cond (.t 55) (.ops [oM 57 6,oF 58 2 2,oL 59 58,o 60 (.nilc (.t 57)),oF 61 2 60,oz (.store 1 (.t 61) (.t 59))]) (sQ [o 63 (.bin .eql (.t 25) (.k (.int .u8 3))),oM 62 63] (.cond (.t 62) (.ops [oM 64 5,oM 65 5,oN 66 65,o 67 (.bin .sub (.t 66) (qI 1)),o 68 (.slc 3 (.t 64) [] [.t 67]),oM 5 68]) (sQ [o 70 (.bin .eql (.t 25) (.k (.int .u8 4))),oM 69 70] (.cond (.t 69) (.ops [oM 71 5,oM 72 5,oN 73 72,o 74 (.bin .sub (.t 73) (qI 1)),oF 75 2 2,oL 76 75,o 77 (.build [.int .i64 0,.int .i64 0,.int .i64 0] [(0,1),(1,1),(2,1)] [.k (.int .i64 (-1)),.t 74,.t 76]),o 78 (.bsl 3 1 [.int .i64 0,.int .i64 0,.int .i64 0] [0] [.t 77]),o 79 (.app 3 24 (.t 71) (.t 78)),oM 5 79]) (sQ [oM 26 6,o 27 (.nilc (.t 26)),oF 28 1 27,oL 29 28,oM 7 29] (sQ [oM 30 6,oM 31 6,o 32 (.nilc (.t 31)),oF 33 2 32,oL 34 33,o 35 (.nilc (.t 30)),oF 36 1 35,oz (.store 1 (.t 36) (.t 34))] (.ops [oM 37 6,oM 38 7,o 39 (.nilc (.t 37)),oF 40 2 39,oz (.store 1 (.t 40) (.t 38))]))))))))))))))) dl))))
def iP:SF:=⟨81,[.tm 4],sQ [o 2 (.box (.t 0)),o 4 (.mv (.k (.nils)))] ko⟩
def nU:SC:=.ops [oA 121 32,oM 32 121]
def ik:SC:=sQ [o 33 (.bin .lss (.t 32) (.t 31))] (.seq (.cond (.t 33) (.skip) (.exit 0)) (.seq (.blk 1 (sQ [oM 34 32,o 35 (.ixs 3 (.t 30) (.t 32)),o 36 (.load true 3 (.t 35)),o 10 (.alloc [.int .i64 0,.int .i64 0,.int .i64 0]),oM 9 34,oz (.store 3 (.t 10) (.t 36))] (.blk 2 (sQ [oF 42 0 10,oL 43 42,o 44 (.bin .eql (.t 43) (qI (-1))),oM 41 44] (.cond (.t 41) (.seq (sQ [oF 45 1 10,oL 46 45,o 47 (.bin .lss (.t 46) (qI 0)),oM 48 47,og 49 48 false (.fad 1 (.t 10)),og 50 48 false (.load false 1 (.t 49)),og 51 48 false (.mv (.t 9)),og 52 48 false (.bin .geq (.t 50) (.t 51)),o 53 (.pick (.t 48) (.k (.bool true)) (.t 52)),oM 54 53,og 55 54 false (.fad 2 (.t 10)),og 56 54 false (.load false 1 (.t 55)),og 57 54 false (.bin .lss (.t 56) (qI 0)),o 58 (.pick (.t 54) (.k (.bool true)) (.t 57)),oM 59 58,og 60 59 false (.fad 2 (.t 10)),og 61 59 false (.load false 1 (.t 60)),og 62 59 false (.mv (.t 9)),og 63 59 false (.bin .geq (.t 61) (.t 62)),o 64 (.pick (.t 59) (.k (.bool true)) (.t 63)),oM 65 64,og 66 65 false (.fad 1 (.t 10)),og 67 65 false (.load false 1 (.t 66)),og 68 65 false (.fad 2 (.t 10)),og 69 65 false (.load false 1 (.t 68)),og 70 65 false (.bin .eql (.t 67) (.t 69)),o 71 (.pick (.t 65) (.k (.bool true)) (.t 70)),oM 72 71,og 73 72 false (.mv (.t 8)),og 74 72 false (.fad 1 (.t 10)),og 75 72 false (.load false 1 (.t 74)),og 76 72 false (.ixs 1 (.t 73) (.t 75)),og 77 72 false (.load false 1 (.t 76)),o 78 (.pick (.t 72) (.k (.bool true)) (.t 77)),oM 79 78,og 80 79 false (.mv (.t 8)),og 81 79 false (.fad 2 (.t 10)),og 82 79 false (.load false 1 (.t 81)),og 83 79 false (.ixs 1 (.t 80) (.t 82)),og 84 79 false (.load false 1 (.t 83)),o 85 (.pick (.t 79) (.k (.bool true)) (.t 84))] (.cond (.t 85) (sQ [oK 4 130] (.ret)) (.skip))) (.feet [0,0,2,0,0,16,7,71,255,511] [oM 86 8,oF 87 1 10,oL 88 87,oM 89 8,oF 90 2 10,oL 91 90,oX 92 86 88,oz (.store 1 (.t 92) (.k (.bool true))),oX 93 89 91,oz (.store 1 (.t 93) (.k (.bool true)))])) (sQ [oF 95 0 10,oL 96 95,o 97 (.bin .lss (.t 96) (qI 0)),oM 98 97,og 99 98 false (.fad 0 (.t 10)),og 100 98 false (.load false 1 (.t 99)),og 101 98 false (.mv (.t 6)),og 102 98 false (.bin .geq (.t 100) (.t 101)),o 103 (.pick (.t 98) (.k (.bool true)) (.t 102)),oM 104 103,og 105 104 false (.fad 1 (.t 10)),og 106 104 false (.load false 1 (.t 105)),og 107 104 false (.bin .neq (.t 106) (qI (-1))),o 108 (.pick (.t 104) (.k (.bool true)) (.t 107)),oM 109 108,og 110 109 false (.fad 2 (.t 10)),og 111 109 false (.load false 1 (.t 110)),og 112 109 false (.bin .neq (.t 111) (qI (-1))),o 113 (.pick (.t 109) (.k (.bool true)) (.t 112)),oM 114 113,og 115 114 false (.mv (.t 7)),og 116 114 false (.fad 0 (.t 10)),og 117 114 false (.load false 1 (.t 116)),og 118 114 false (.ixs 1 (.t 115) (.t 117)),og 119 114 false (.load false 1 (.t 118)),o 120 (.pick (.t 114) (.k (.bool true)) (.t 119)),oM 94 120] (.cond (.t 94) (sQ [oK 4 130] (.ret)) (.ops [oM 37 7,oF 38 0 10,oL 39 38,oX 40 37 39,oz (.store 1 (.t 40) (.k (.bool true)))])))))))) nU))
def cK:SC:=.seq (sQ [oM 122 7,o 123 (.call N.aI [.t 122,.k (.bool false)]),oM 124 123,og 125 124 false (.mv (.t 8)),og 126 124 false (.mv (.t 1)),og 127 124 false (.len .slice (.t 126)),og 128 124 false (.bin .sub (.t 127) (qI 1)),og 129 124 false (.slc 1 (.t 125) [] [.t 128]),og 130 124 false (.call N.aI [.t 129,.k (.bool false)]),o 131 (.pick (.t 124) (.k (.bool true)) (.t 130))] (.cond (.t 131) (sQ [oK 4 130] (.ret)) (.skip))) (sQ [oK 4 0] (.ret))
def i_:SC:=.seq (sQ [o 11 (.load true 2 (.t 2)),o 12 (.call N.aO [.t 11]),oM 5 12] (sQ [oM 13 5,o 14 (.bin .neq (.t 13) (qI 0))] (.cond (.t 14) (sQ [oM 15 5,oM 4 15] (.ret)) (.skip)))) (sQ [oF 16 1 2,oL 17 16,oN 18 17,oM 6 18] (.seq (sQ [oM 19 1,oN 20 19,oM 21 6,o 22 (.bin .mul (qI 2) (.t 21)),o 23 (.bin .sub (.t 22) (qI 1)),o 24 (.bin .neq (.t 20) (.t 23))] (.cond (.t 24) (sQ [oK 4 130] (.ret)) (.skip))) (.seq (.feet [0,1,0,4,12,3,63] [oM 25 6,o 26 (.mks 1 1 [.bool false] (.t 25) (.t 25)),oM 27 1,oN 28 27,o 29 (.mks 1 1 [.bool false] (.t 28) (.t 28)),oM 7 26,oM 8 29]) (.seq (sQ [oM 30 1,oN 31 30,oK 32 0] (.blk 0 (.loop ik))) cK))))
def gg:SF:=⟨132,[.tm 4],sQ [o 2 (.box (.t 0)),oK 4 0] i_⟩
def fp:SC:=.seq (sQ [o 5 (.load true 2 (.t 2)),o 6 (.call N.an [.t 5]),o 7 (.not (.t 6))] (.cond (.t 7) (sQ [oK 4 50] (.ret)) (.skip))) (.seq (sQ [oM 8 1,oF 9 1 2,oL 10 9,oN 11 10,o 12 (.call N.aZ [.t 8,.t 11]),o 13 (.not (.t 12))] (.cond (.t 13) (sQ [oK 4 130] (.ret)) (.skip))) (sQ [oK 4 0] (.ret)))
def lA:SF:=⟨14,[.tm 4],sQ [o 2 (.box (.t 0)),oK 4 0] fp⟩
def qJ:SC:=.seq (sQ [oM 11 8,oM 12 0,o 13 (.bin .lss (.t 11) (.t 12))] (.cond (.t 13) (.skip) (.exit 0))) (.seq (.blk 1 (.seq (sQ [oM 16 8,oM 17 1,o 18 (.bin .eql (.t 16) (.t 17))] (.cond (.t 18) (.exit 1) (.skip))) (sQ [oM 19 8,o 20 (.bin .rem (.t 19) (qI 8)),o 21 (.ixa 8 1 (.t 5) (.t 20)),oL 22 21,o 23 (.conv .i64 (.t 22)),oM 24 7,oN 25 24,oA 26 25,o 27 (.bin .rem (.t 23) (.t 26)),oM 9 27] (sQ [o 10 (.mv (.k (.nils)))] (sQ [oM 28 10,oM 29 7,oM 30 9,o 31 (.slc 1 (.t 29) [] [.t 30]),o 32 (.app 1 8 (.t 28) (.t 31)),oM 33 8,o 34 (.bsl 1 1 [.int .i64 0] [0] [.t 33]),o 35 (.app 1 8 (.t 32) (.t 34)),oM 10 35] (.ops [oM 36 10,oM 37 7,oM 38 9,o 39 (.slc 1 (.t 37) [.t 38] []),o 40 (.app 1 8 (.t 36) (.t 39)),oM 7 40])))))) (.ops [oM 14 8,oA 15 14,oM 8 15]))
def kh:SC:=sQ [oM 41 7,oM 6 41] (.ret)
def lY:SC:=sQ [o 7 (.mv (.k (.nils)))] (.seq (sQ [oK 8 0] (.blk 0 (.loop qJ))) kh)
def jG:SF:=⟨42,[.tm 6],sQ [o 5 (.box (.t 2)),o 6 (.mv (.k (.nils)))] lY⟩
def eO:SC:=sQ [o 32 (.bin .lss (.t 31) (.t 30))] (.seq (.cond (.t 32) (.skip) (.exit 0)) (.seq (.blk 1 (sQ [oM 33 31,oX 34 29 31,oL 35 34,oM 9 33,oM 10 35] (sQ [oM 36 8,oM 37 8,o 38 (.nilc (.t 37)),oF 39 0 38,oL 40 39,oM 41 9,o 42 (.build [.int .i64 0,.int .i64 0,.int .i64 0] [(0,1),(1,1),(2,1)] [.t 41,.k (.int .i64 (-1)),.k (.int .i64 (-1))]),o 43 (.bsl 3 1 [.int .i64 0,.int .i64 0,.int .i64 0] [0] [.t 42]),o 44 (.app 3 24 (.t 40) (.t 43)),o 45 (.nilc (.t 36)),oF 46 0 45,oz (.store 1 (.t 46) (.t 44))] (.feet [0,0,2,6,14,0,0,0,128,448,992,2016,4094,8191,16383,32767] [oM 47 8,oM 48 8,o 49 (.nilc (.t 48)),oF 50 1 49,oL 51 50,oM 52 9,oM 53 10,oM 54 9,o 55 (.bin .shl (.k (.int .u64 1)) (.t 54)),o 56 (.bin .or (.t 53) (.t 55)),o 57 (.build [.int .i64 0,.int .u64 0] [(0,1),(1,1)] [.t 52,.t 56]),o 58 (.bsl 2 1 [.int .i64 0,.int .u64 0] [0] [.t 57]),o 59 (.app 2 16 (.t 51) (.t 58)),o 60 (.nilc (.t 47)),oF 61 1 60,oz (.store 1 (.t 61) (.t 59))])))) (.ops [oA 62 31,oM 31 62])))
def eP:SC:=sQ [o 66 (.bin .lss (.t 65) (.t 64))] (.seq (.cond (.t 66) (.skip) (.exit 2)) (.seq (.blk 3 (sQ [oX 67 63 65,oL 68 67,o 12 (.alloc [.int .i64 0]),oz (.store 1 (.t 12) (.t 68))] (.ops [oM 69 8,o 70 (.mkf N.aL [] [.t 12]),o 71 (.call N.aq [.t 69,.t 70])]))) (.ops [oA 72 65,oM 65 72])))
def ja:SC:=sQ [oM 73 8,o 74 (.call N.aq [.t 73,.k (.clo 42 [] [])])] (sQ [oM 75 8,o 76 (.nilc (.t 75)),oF 77 0 76,oL 78 77,oM 4 78,oK 5 0] (.ret))
def jc:SC:=.seq (sQ [oM 63 1,oN 64 63,oK 65 0] (.blk 2 (.loop eP))) ja
def jy:SC:=sQ [o 14 (.load true 2 (.t 2)),o 15 (.call N.aP [.t 14]),oM 13 15,o 16 (.ext (.t 13) 0),o 17 (.ext (.t 13) 1),oM 6 16,oM 7 17] (.seq (sQ [oM 18 7,o 19 (.bin .neq (.t 18) (qI 0))] (.cond (.t 19) (sQ [oM 20 7,o 4 (.mv (.k (.nils))),oM 5 20] (.ret)) (.skip))) (.seq (sQ [oM 21 1,oF 22 1 2,oL 23 22,oN 24 23,o 25 (.call N.aM [.t 21,.t 24]),o 26 (.not (.t 25))] (.cond (.t 26) (sQ [o 4 (.mv (.k (.nils))),oK 5 2] (.ret)) (.skip))) (sQ [o 27 (.build [.nils,.nils] [] []),o 28 (.box (.t 27)),oM 8 28] (.seq (sQ [oM 29 6,oN 30 29,oK 31 0] (.blk 0 (.loop eO))) jc))))
def gU:SF:=⟨79,[.tm 4,.tm 5],sQ [o 2 (.box (.t 0)),o 4 (.mv (.k (.nils))),oK 5 0] jy⟩
def lR:SC:=.seq (sQ [oM 31 4,oF 32 1 1,oL 33 32,oN 34 33,o 35 (.bin .lss (.t 31) (.t 34))] (.cond (.t 35) (.skip) (.exit 0))) (.seq (.blk 1 (sQ [oF 38 1 1,oL 39 38,oM 40 4,o 41 (.ixs 3 (.t 39) (.t 40)),o 42 (.load true 3 (.t 41)),o 5 (.alloc [.int .i64 0,.nils,.nils]),oz (.store 3 (.t 5) (.t 42))] (.seq (sQ [oF 43 0 5,oL 44 43,o 45 (.bin .lss (.t 44) (qI 1)),oM 46 45,og 47 46 false (.fad 0 (.t 5)),og 48 46 false (.load false 1 (.t 47)),og 49 46 false (.bin .gtr (.t 48) (qI 4)),o 50 (.pick (.t 46) (.k (.bool true)) (.t 49)),oM 51 50,og 52 51 false (.fad 1 (.t 5)),og 53 51 false (.load false 1 (.t 52)),og 54 51 false (.fad 1 (.t 1)),og 55 51 false (.load false 1 (.t 54)),og 56 51 false (.len .slice (.t 55)),og 57 51 false (.call N.aT [.t 53,.t 56]),og 58 51 false (.not (.t 57)),o 59 (.pick (.t 51) (.k (.bool true)) (.t 58))] (.cond (.t 59) (sQ [o 2 (.mv (.k (.bool false)))] (.ret)) (.skip))) (.ops [oM 60 3,oF 61 0 5,oL 62 61,o 63 (.bin .mul (.t 60) (.t 62)),oM 3 63])))) (.ops [oM 36 4,oA 37 36,oM 4 37]))
def gV:SC:=.seq (sQ [oM 108 10,oF 109 2 7,oL 110 109,oM 111 8,oX 112 110 111,oL 113 112,oN 114 113,o 115 (.bin .lss (.t 108) (.t 114))] (.cond (.t 115) (.skip) (.exit 6))) (.seq (.blk 7 (.seq (.seq (.quiet [oF 118 2 7,oL 119 118,oM 120 8,oX 121 119 120,oL 122 121,oM 123 10,oX 124 122 123,oL 125 124,o 126 (.bin .lss (.t 125) (qI 0)),oM 127 126,og 128 127 false (.fad 2 (.t 7)),og 129 127 false (.load false 1 (.t 128)),og 130 127 false (.mv (.t 8)),og 131 127 false (.ixs 1 (.t 129) (.t 130)),og 132 127 false (.load false 1 (.t 131)),og 133 127 false (.mv (.t 10)),og 134 127 false (.ixs 1 (.t 132) (.t 133)),og 135 127 false (.load false 1 (.t 134)),og 136 127 false (.fad 0 (.t 1)),og 137 127 false (.load false 1 (.t 136)),og 138 127 false (.bin .gtr (.t 135) (.t 137)),o 139 (.pick (.t 127) (.k (.bool true)) (.t 138))]) (.cond (.t 139) (sQ [o 2 (.mv (.k (.bool false)))] (.ret)) (.skip))) (.ops [oM 140 9,oF 141 2 7,oL 142 141,oM 143 8,oX 144 142 143,oL 145 144,oM 146 10,oX 147 145 146,oL 148 147,o 149 (.bin .add (.t 140) (.t 148)),oM 9 149]))) (.ops [oM 116 10,oA 117 116,oM 10 117]))
def gY:SC:=sQ [oM 150 9,oF 151 0 1,oL 152 151,o 153 (.bin .neq (.t 150) (.t 152))] (.cond (.t 153) (sQ [o 2 (.mv (.k (.bool false)))] (.ret)) (.skip))
def lU:SC:=.ops [oM 97 8,oA 98 97,oM 8 98]
def gW:SC:=.seq (sQ [oM 92 8,oF 93 2 7,oL 94 93,oN 95 94,o 96 (.bin .lss (.t 92) (.t 95))] (.cond (.t 96) (.skip) (.exit 4))) (.seq (.blk 5 (.seq (.seq (.quiet [oF 99 2 7,oL 100 99,oM 101 8,oX 102 100 101,oL 103 102,oN 104 103,oF 105 0 7,oL 106 105,o 107 (.bin .neq (.t 104) (.t 106))]) (.cond (.t 107) (sQ [o 2 (.mv (.k (.bool false)))] (.ret)) (.skip))) (sQ [oK 9 0] (.seq (sQ [oK 10 0] (.blk 6 (.loop gV))) gY)))) lU)
def lV:SC:=.ops [oM 77 6,oA 78 77,oM 6 78]
def lT:SC:=.seq (sQ [oM 72 6,oF 73 1 1,oL 74 73,oN 75 74,o 76 (.bin .lss (.t 72) (.t 75))] (.cond (.t 76) (.skip) (.exit 2))) (.seq (.blk 3 (sQ [oF 79 1 1,oL 80 79,oM 81 6,o 82 (.ixs 3 (.t 80) (.t 81)),o 83 (.load true 3 (.t 82)),o 7 (.alloc [.int .i64 0,.nils,.nils]),oz (.store 3 (.t 7) (.t 83))] (.seq (.seq (.quiet [oF 84 2 7,oL 85 84,oN 86 85,o 87 (.load true 2 (.t 1)),oM 88 6,o 89 (.call N.aB [.t 87,.t 88]),o 90 (.call N.am [.t 89]),o 91 (.bin .neq (.t 86) (.t 90))]) (.cond (.t 91) (sQ [o 2 (.mv (.k (.bool false)))] (.ret)) (.skip))) (sQ [oK 8 0] (.blk 4 (.loop gW)))))) lV)
def lW:SC:=sQ [o 2 (.mv (.k (.bool true)))] (.ret)
def lX:SC:=.seq (sQ [oM 64 3,o 65 (.bin .gtr (.t 64) (qI 1024)),oM 66 65,og 67 66 false (.load true 2 (.t 1)),og 68 66 false (.call N.aC [.t 67]),og 69 66 false (.call N.aU [.t 68]),og 70 66 false (.not (.t 69)),o 71 (.pick (.t 66) (.k (.bool true)) (.t 70))] (.cond (.t 71) (sQ [o 2 (.mv (.k (.bool false)))] (.ret)) (.skip))) (.seq (sQ [oK 6 0] (.blk 2 (.loop lT))) lW)
def nf:SC:=.seq (sQ [oF 11 0 1,oL 12 11,o 13 (.bin .lss (.t 12) (qI 1)),oM 14 13,og 15 14 false (.fad 0 (.t 1)),og 16 14 false (.load false 1 (.t 15)),og 17 14 false (.bin .gtr (.t 16) (qI 60)),o 18 (.pick (.t 14) (.k (.bool true)) (.t 17)),oM 19 18,og 20 19 false (.fad 1 (.t 1)),og 21 19 false (.load false 1 (.t 20)),og 22 19 false (.len .slice (.t 21)),og 23 19 false (.bin .lss (.t 22) (qI 1)),o 24 (.pick (.t 19) (.k (.bool true)) (.t 23)),oM 25 24,og 26 25 false (.fad 1 (.t 1)),og 27 25 false (.load false 1 (.t 26)),og 28 25 false (.len .slice (.t 27)),og 29 25 false (.bin .gtr (.t 28) (qI 8)),o 30 (.pick (.t 25) (.k (.bool true)) (.t 29))] (.cond (.t 30) (sQ [o 2 (.mv (.k (.bool false)))] (.ret)) (.skip))) (sQ [oK 3 1] (.seq (sQ [oK 4 0] (.blk 0 (.loop lR))) lX))
def lz:SF:=⟨154,[.tm 2],sQ [o 1 (.box (.t 0)),o 2 (.mv (.k (.bool false)))] nf⟩
def gt:SC:=.seq (sQ [oM 9 8,oM 10 0,oN 11 10,o 12 (.bin .lss (.t 9) (.t 11))] (.cond (.t 12) (.skip) (.exit 0))) (.seq (.blk 1 (.seq (sQ [oM 15 0,oM 16 8,oX 17 15 16,oL 18 17,o 19 (.bin .lss (.t 18) (qI 0)),oM 20 19,og 21 20 false (.mv (.t 0)),og 22 20 false (.mv (.t 8)),og 23 20 false (.ixs 1 (.t 21) (.t 22)),og 24 20 false (.load false 1 (.t 23)),og 25 20 false (.mv (.t 1)),og 26 20 false (.bin .geq (.t 24) (.t 25)),o 27 (.pick (.t 20) (.k (.bool true)) (.t 26)),oM 28 27,og 29 28 false (.mv (.t 0)),og 30 28 false (.mv (.t 8)),og 31 28 false (.ixs 1 (.t 29) (.t 30)),og 32 28 false (.load false 1 (.t 31)),og 33 28 false (.mv (.t 2)),og 34 28 false (.bin .eql (.t 32) (.t 33)),o 35 (.pick (.t 28) (.k (.bool true)) (.t 34)),oM 36 35,og 37 36 false (.mv (.t 7)),og 38 36 false (.mv (.t 0)),og 39 36 false (.mv (.t 8)),og 40 36 false (.ixs 1 (.t 38) (.t 39)),og 41 36 false (.load false 1 (.t 40)),og 42 36 false (.call N.af [.t 37,.t 41]),o 43 (.pick (.t 36) (.k (.bool true)) (.t 42))] (.cond (.t 43) (sQ [o 6 (.mv (.k (.bool false)))] (.ret)) (.skip))) (.ops [oM 44 7,oM 45 0,oM 46 8,oX 47 45 46,oL 48 47,o 49 (.conv .u64 (.t 48)),o 50 (.bin .shl (.k (.int .u64 1)) (.t 49)),o 51 (.bin .or (.t 44) (.t 50)),oM 7 51]))) (.ops [oM 13 8,oA 14 13,oM 8 14]))
def gu:SC:=.seq (sQ [oM 52 2,o 53 (.bin .geq (.t 52) (qI 0))] (.cond (.t 53) (sQ [oM 54 0,oN 55 54,oM 56 1,o 57 (.bin .sub (.t 56) (qI 1)),o 58 (.bin .eql (.t 55) (.t 57)),oM 6 58] (.ret)) (.skip))) (sQ [oM 59 0,oN 60 59,oM 61 1,o 62 (.bin .eql (.t 60) (.t 61)),oM 6 62] (.ret))
def eS:SF:=⟨63,[.tm 6],sQ [o 6 (.mv (.k (.bool false)))] (sQ [o 7 (.mv (.k (.int .u64 0)))] (.seq (sQ [oK 8 0] (.blk 0 (.loop gt))) gu))⟩
def nq:SC:=.seq (sQ [oM 11 5,oM 12 0,oN 13 12,o 14 (.bin .lss (.t 11) (.t 13))] (.cond (.t 14) (.skip) (.exit 0))) (.seq (.blk 1 (.seq (.quiet [oM 17 0,oM 18 5,o 19 (.ixs 3 (.t 17) (.t 18)),o 20 (.load true 3 (.t 19)),oM 21 1,oM 22 5,o 23 (.ixs 3 (.t 21) (.t 22)),o 24 (.load true 3 (.t 23)),o 25 (.eq true (.flat [.int .i64,.int .i64,.int .i64]) (.t 20) (.t 24))]) (.cond (.t 25) (sQ [o 4 (.mv (.k (.bool false)))] (.ret)) (.skip)))) (.ops [oM 15 5,oA 16 15,oM 5 16]))
def ny:SC:=sQ [o 4 (.mv (.k (.bool true)))] (.ret)
def mE:SF:=⟨26,[.tm 4],sQ [o 4 (.mv (.k (.bool false)))] (.seq (sQ [oM 6 0,oN 7 6,oM 8 1,oN 9 8,o 10 (.bin .neq (.t 7) (.t 9))] (.cond (.t 10) (sQ [o 4 (.mv (.k (.bool false)))] (.ret)) (.skip))) (.seq (sQ [oK 5 0] (.blk 0 (.loop nq))) ny))⟩
def iQ:SC:=.seq (sQ [oM 14 8,oF 15 1 2,oL 16 15,oN 17 16,o 18 (.bin .lss (.t 14) (.t 17))] (.cond (.t 18) (.skip) (.exit 0))) (.seq (.blk 1 (sQ [oM 21 5,oM 22 8,o 23 (.build [.int .i64 0,.int .i64 0,.int .i64 0] [(0,1),(1,1),(2,1)] [.t 22,.k (.int .i64 (-1)),.k (.int .i64 (-1))]),o 24 (.bsl 3 1 [.int .i64 0,.int .i64 0,.int .i64 0] [0] [.t 23]),o 25 (.app 3 24 (.t 21) (.t 24)),oM 5 25] (sQ [oM 26 6,o 27 (.load true 2 (.t 2)),oM 28 8,o 29 (.call N.aF [.t 27,.t 28]),o 30 (.bsl 1 1 [.int .u64 0] [0] [.t 29]),o 31 (.app 1 8 (.t 26) (.t 30)),oM 6 31] (.ops [oM 32 7,o 33 (.bsl 1 1 [.bool false] [0] [.k (.bool true)]),o 34 (.app 1 1 (.t 32) (.t 33)),oM 7 34])))) (.ops [oM 19 8,oA 20 19,oM 8 20]))
def nh:SC:=.ops [oM 45 11,oA 46 45,oM 11 46]
def iS:SC:=.seq (sQ [oM 41 11,oM 42 5,oN 43 42,o 44 (.bin .lss (.t 41) (.t 43))] (.cond (.t 44) (.skip) (.exit 4))) (.seq (.blk 5 (.seq (.quiet [oM 47 7,oM 48 11,oX 49 47 48,oL 50 49,oM 51 50,og 52 51 true (.mv (.t 9)),og 53 51 true (.mv (.t 1)),og 54 51 true (.len .slice (.t 53)),og 55 51 true (.bin .eql (.t 52) (.t 54)),og 56 51 true (.mv (.t 55)),og 57 56 false (.mv (.t 6)),og 58 56 false (.mv (.t 11)),og 59 56 false (.ixs 1 (.t 57) (.t 58)),og 60 56 false (.load false 1 (.t 59)),og 61 56 false (.mv (.t 1)),og 62 56 false (.mv (.t 9)),og 63 56 false (.ixs 1 (.t 61) (.t 62)),og 64 56 false (.load false 1 (.t 63)),og 65 56 false (.call N.af [.t 60,.t 64]),og 66 51 true (.pick (.t 56) (.k (.bool true)) (.t 65)),o 67 (.pick (.t 51) (.t 66) (.k (.bool false)))]) (.cond (.t 67) (.ops [oM 68 10,oM 69 11,o 70 (.bsl 1 1 [.int .i64 0] [0] [.t 69]),o 71 (.app 1 8 (.t 68) (.t 70)),oM 10 71]) (.skip)))) nh)
def ni:SC:=sQ [oM 86 5,oM 87 13,oM 88 10,oM 89 12,oX 90 88 89,oL 91 90,o 92 (.build [.int .i64 0,.int .i64 0,.int .i64 0] [(0,1),(1,1),(2,1)] [.k (.int .i64 (-1)),.t 87,.t 91]),o 93 (.bsl 3 1 [.int .i64 0,.int .i64 0,.int .i64 0] [0] [.t 92]),o 94 (.app 3 24 (.t 86) (.t 93)),oM 5 94] (.seq (.feet [0,0,0,6,14,0,0,0,192,448,992,2016,4094,8190,16383,32767] [oM 95 6,oM 96 6,oM 97 13,oX 98 96 97,oL 99 98,oM 100 6,oM 101 10,oM 102 12,oX 103 101 102,oL 104 103,oX 105 100 104,oL 106 105,o 107 (.bin .or (.t 99) (.t 106)),o 108 (.bsl 1 1 [.int .u64 0] [0] [.t 107]),o 109 (.app 1 8 (.t 95) (.t 108)),oM 6 109]) (sQ [oM 110 7,oM 111 13,oX 112 110 111,oz (.store 1 (.t 112) (.k (.bool false)))] (sQ [oM 113 7,oM 114 10,oM 115 12,oX 116 114 115,oL 117 116,oX 118 113 117,oz (.store 1 (.t 118) (.k (.bool false)))] (.ops [oM 119 7,o 120 (.bsl 1 1 [.bool false] [0] [.k (.bool true)]),o 121 (.app 1 1 (.t 119) (.t 120)),oM 7 121]))))
def nj:SC:=.ops [oM 76 12,oA 77 76,oM 12 77]
def iT:SC:=.seq (sQ [oM 72 12,oM 73 10,oN 74 73,o 75 (.bin .lss (.t 72) (.t 74))] (.cond (.t 75) (.skip) (.exit 6))) (.seq (.blk 7 (sQ [oM 78 10,o 79 (.ixs 1 (.t 78) (qI 0)),oL 80 79,oM 13 80] (.seq (sQ [oM 81 12,o 82 (.bin .gtr (.t 81) (qI 1))] (.cond (.t 82) (.ops [oM 83 5,oN 84 83,o 85 (.bin .sub (.t 84) (qI 1)),oM 13 85]) (.skip))) ni))) nj)
def nk:SC:=sQ [oK 12 1] (.blk 6 (.loop iT))
def nm:SC:=.ops [oM 39 9,oA 40 39,oM 9 40]
def iV:SC:=.seq (sQ [oM 35 9,oM 36 1,oN 37 36,o 38 (.bin .leq (.t 35) (.t 37))] (.cond (.t 38) (.skip) (.exit 2))) (.seq (.blk 3 (sQ [o 10 (.mv (.k (.nils)))] (.seq (sQ [oK 11 0] (.blk 4 (.loop iS))) nk))) nm)
def np:SC:=sQ [oM 122 5,oM 4 122] (.ret)
def l6:SC:=.seq (sQ [oK 9 0] (.blk 2 (.loop iV))) np
def om:SC:=sQ [o 5 (.mv (.k (.nils)))] (sQ [o 6 (.mv (.k (.nils)))] (sQ [o 7 (.mv (.k (.nils)))] (.seq (sQ [oK 8 0] (.blk 0 (.loop iQ))) l6)))
def mD:SF:=⟨123,[.tm 4],sQ [o 2 (.box (.t 0)),o 4 (.mv (.k (.nils)))] om⟩
def bP:SC:=sQ [o 6 (.mv (.k (.nils)))] (sQ [oM 28 6,oM 29 3,oM 30 5,o 31 (.slc 1 (.t 29) [] [.t 30]),o 32 (.app 1 8 (.t 28) (.t 31)),oM 33 4,o 34 (.bsl 1 1 [.int .i64 0] [0] [.t 33]),o 35 (.app 1 8 (.t 32) (.t 34)),oM 6 35] (.ops [oM 36 6,oM 37 3,oM 38 5,o 39 (.slc 1 (.t 37) [.t 38] []),o 40 (.app 1 8 (.t 36) (.t 39)),oM 3 40]))
def iM:SC:=.ops [oM 12 4,oA 13 12,oM 4 13]
def iK:SC:=.seq (sQ [oM 7 4,o 8 (.load true 3 (.t 1)),o 9 (.call N.aS [.t 8]),oN 10 9,o 11 (.bin .lss (.t 7) (.t 10))] (.cond (.t 11) (.skip) (.exit 0))) (.seq (.blk 1 (sQ [oK 5 0] (.seq (sQ [oM 14 4,oF 15 2 1,oL 16 15,oN 17 16,o 18 (.bin .lss (.t 14) (.t 17))] (.cond (.t 18) (.ops [oF 19 2 1,oL 20 19,oM 21 4,oX 22 20 21,oL 23 22,o 24 (.conv .i64 (.t 23)),oM 25 4,oA 26 25,o 27 (.bin .rem (.t 24) (.t 26)),oM 5 27]) (.skip))) bP))) iM)
def dA:SC:=sQ [oM 41 3,oM 2 41] (.ret)
def dK:SC:=sQ [o 3 (.mv (.k (.nils)))] (.seq (sQ [oK 4 0] (.blk 0 (.loop iK))) dA)
def cD:SF:=⟨42,[.tm 2],sQ [o 1 (.box (.t 0)),o 2 (.mv (.k (.nils)))] dK⟩
def s8:SC:=.seq (sQ [oM 5 4,oM 6 0,oN 7 6,o 8 (.bin .lss (.t 5) (.t 7))] (.cond (.t 8) (.skip) (.exit 0))) (.seq (.blk 1 (.ops [oM 11 3,oM 12 0,oM 13 4,oX 14 12 13,oL 15 14,o 16 (.bin .mul (.t 11) (.t 15)),oM 3 16])) (.ops [oM 9 4,oA 10 9,oM 4 10]))
def m9:SC:=sQ [oM 17 3,oM 2 17] (.ret)
def mC:SF:=⟨18,[.tm 2],sQ [oK 2 0] (sQ [oK 3 1] (.seq (sQ [oK 4 0] (.blk 0 (.loop s8))) m9))⟩
def gN:SC:=.seq (.quiet [o 5 (.load true 2 (.t 2)),o 6 (.call N.aV [.t 5]),oF 7 1 2,oL 8 7,oM 9 1,o 10 (.ixs 3 (.t 8) (.t 9)),oF 11 1 10,oL 12 11,o 13 (.call N.aR [.t 6,.t 12]),oM 4 13]) (.ret)
def eR:SF:=⟨14,[.tm 4],sQ [o 2 (.box (.t 0)),o 4 (.mv (.k (.nils)))] gN⟩
def n7:SC:=.ops [oM 39 10,oM 40 9,oM 41 11,oX 42 40 41,oL 43 42,o 44 (.bin .add (.t 39) (.t 43)),oM 10 44]
def n9:SC:=.ops [oM 20 11,oA 21 20,oM 11 21]
def jE:SC:=.seq (sQ [oM 17 11,oM 18 1,o 19 (.bin .lss (.t 17) (.t 18))] (.cond (.t 19) (.skip) (.exit 0))) (.seq (.blk 1 (.seq (sQ [oM 22 2,oN 23 22,o 24 (.bin .gtr (.t 23) (qI 0))] (.cond (.t 24) (.ops [oM 25 9,oM 26 11,oM 27 2,oM 28 3,oM 29 11,o 30 (.bin .add (.t 28) (.t 29)),oM 31 2,oN 32 31,o 33 (.bin .rem (.t 30) (.t 32)),oX 34 27 33,oL 35 34,o 36 (.bin .rem (.t 35) (.k (.int .u8 8))),o 37 (.conv .i64 (.t 36)),oX 38 25 26,oz (.store 1 (.t 38) (.t 37))]) (.skip))) n7)) n9)
def n_:SC:=.ops [oM 68 12,oM 69 9,oM 70 14,oX 71 69 70,oL 72 71,o 73 (.bin .sub (.t 68) (.t 72)),oM 12 73]
def od:SC:=.ops [oM 49 14,oA 50 49,oM 14 50]
def jF:SC:=.seq (sQ [oM 46 14,oM 47 1,o 48 (.bin .lss (.t 46) (.t 47))] (.cond (.t 48) (.skip) (.exit 2))) (.seq (.blk 3 (.seq (sQ [oM 51 9,oM 52 14,oX 53 51 52,oL 54 53,o 55 (.bin .gtr (.t 54) (qI 0))] (.cond (.t 55) (sQ [oM 56 9,oM 57 14,oM 58 0,oM 59 9,oM 60 14,oX 61 59 60,oL 62 61,o 63 (.bin .mul (.t 58) (.t 62)),oM 64 10,o 65 (.bin .quo (.t 63) (.t 64)),oX 66 56 57,oz (.store 1 (.t 66) (.t 65))] (.ops [oM 67 14,oM 13 67])) (.skip))) n_)) od)
def oe:SC:=sQ [oM 74 9,oM 75 13,oM 76 9,oM 77 13,oX 78 76 77,oL 79 78,oM 80 12,o 81 (.bin .add (.t 79) (.t 80)),oX 82 74 75,oz (.store 1 (.t 82) (.t 81))] (sQ [oM 83 9,oM 8 83] (.ret))
def oh:SC:=sQ [oM 45 0,oM 12 45,oK 13 0] (.seq (sQ [oK 14 0] (.blk 2 (.loop jF))) oe)
def nZ:SF:=⟨84,[.tm 8],sQ [o 8 (.mv (.k (.nils)))] (sQ [oM 15 1,o 16 (.mks 1 8 [.int .i64 0] (.t 15) (.t 15)),oM 9 16] (sQ [oK 10 0] (.seq (sQ [oK 11 0] (.blk 0 (.loop jE))) oh)))⟩
def fF:SC:=.seq (sQ [oM 39 8,oF 40 1 3,oL 41 40,oM 42 6,o 43 (.ixs 3 (.t 41) (.t 42)),oF 44 2 43,oL 45 44,oN 46 45,o 47 (.bin .lss (.t 39) (.t 46))] (.cond (.t 47) (.skip) (.exit 2))) (.seq (.blk 3 (sQ [o 9 (.mv (.k (.nils)))] (.feet [0,1,0,0,8,0,56,120,248,0,1016,2040,4092,8188,16383,32767,65535] [oF 50 2 7,oL 51 50,oM 52 9,oF 53 1 3,oL 54 53,oM 55 6,o 56 (.ixs 3 (.t 54) (.t 55)),oF 57 2 56,oL 58 57,oM 59 8,oX 60 58 59,oL 61 60,o 62 (.app 1 8 (.t 52) (.t 61)),o 63 (.bsl 1 1 [.nils] [0] [.t 62]),o 64 (.app 1 24 (.t 51) (.t 63)),oF 65 2 7,oz (.store 1 (.t 65) (.t 64))]))) (.ops [oM 48 8,oA 49 48,oM 8 49]))
def jC:SC:=.ops [oM 66 5,o 67 (.load true 3 (.t 7)),o 68 (.bsl 3 1 [.int .i64 0,.nils,.nils] [0] [.t 67]),o 69 (.app 3 56 (.t 66) (.t 68)),oM 5 69]
def jD:SC:=.ops [oM 20 6,oA 21 20,oM 6 21]
def fG:SC:=.seq (sQ [oM 15 6,oF 16 1 3,oL 17 16,oN 18 17,o 19 (.bin .lss (.t 15) (.t 18))] (.cond (.t 19) (.skip) (.exit 0))) (.seq (.blk 1 (sQ [oF 22 1 3,oL 23 22,oM 24 6,o 25 (.ixs 3 (.t 23) (.t 24)),oF 26 0 25,oL 27 26,o 28 (.build [.int .i64 0,.nils,.nils] [(0,1)] [.t 27]),o 7 (.alloc [.int .i64 0,.nils,.nils]),oz (.store 3 (.t 7) (.t 28))] (.seq (.feet [0,1,0,4,0,28,60,124,255,511,1023] [oF 29 1 7,oL 30 29,oF 31 1 3,oL 32 31,oM 33 6,o 34 (.ixs 3 (.t 32) (.t 33)),oF 35 1 34,oL 36 35,o 37 (.app 1 8 (.t 30) (.t 36)),oF 38 1 7,oz (.store 1 (.t 38) (.t 37))]) (.seq (sQ [oK 8 0] (.blk 2 (.loop fF))) jC)))) jD)
def dj:SC:=.seq (sQ [oM 264 12,oM 265 13,o 266 (.bin .lss (.t 264) (.t 265))] (.cond (.t 266) (.skip) (.exit 5))) (.seq (.blk 6 (sQ [oM 269 10,o 270 (.nilc (.t 269)),oF 271 2 270,oL 272 271,oM 273 11,oX 274 272 273,oL 275 274,oM 276 12,oX 277 275 276,oL 278 277,oM 14 278] (.seq (.feet [0,1,3,7,0,31,63,0,0,256,768,1792,0,7936,16128,0,65280,130816,262143,524287] [oM 279 10,o 280 (.nilc (.t 279)),oF 281 2 280,oL 282 281,oM 283 11,oX 284 282 283,oL 285 284,oM 286 12,oM 287 10,o 288 (.nilc (.t 287)),oF 289 2 288,oL 290 289,oM 291 11,oX 292 290 291,oL 293 292,oM 294 13,oX 295 293 294,oL 296 295,oX 297 285 286,oz (.store 1 (.t 297) (.t 296))]) (sQ [oM 298 10,o 299 (.nilc (.t 298)),oF 300 2 299,oL 301 300,oM 302 11,oX 303 301 302,oL 304 303,oM 305 13,oM 306 14,oX 307 304 305,oz (.store 1 (.t 307) (.t 306))] (.ops [oM 308 13,o 309 (.bin .sub (.t 308) (qI 1)),oM 13 309]))))) (.ops [oM 267 12,oA 268 267,oM 12 268]))
def dk:SC:=sQ [o 322 (.load true 2 (.t 3)),oz (.store 2 (.t 4) (.t 322))] (.ret)
def fH:SC:=.seq (sQ [oF 99 0 2,oL 100 99,o 101 (.bin .rem (.t 100) (.k (.int .u8 12)))] (.blk 4 (sQ [o 111 (.bin .eql (.t 101) (.k (.int .u8 0))),oM 110 111] (.cond (.t 110) (.ops [oF 112 3 2,oL 113 112,oF 114 0 3,oz (.store 1 (.t 114) (.t 113))]) (sQ [o 116 (.bin .eql (.t 101) (.k (.int .u8 1))),oM 115 116] (.cond (.t 115) (.ops [oM 117 10,oF 118 3 2,oL 119 118,o 120 (.nilc (.t 117)),oF 121 0 120,oz (.store 1 (.t 121) (.t 119))]) (sQ [o 123 (.bin .eql (.t 101) (.k (.int .u8 2))),oM 122 123] (.cond (.t 122) (.feet [0,0,2,6,14,0,32,96,254,511,1023,2047] [oM 124 10,oM 125 10,o 126 (.nilc (.t 125)),oF 127 1 126,oL 128 127,oF 129 3 2,oL 130 129,o 131 (.bsl 1 1 [.int .i64 0] [0] [.t 130]),o 132 (.app 1 8 (.t 128) (.t 131)),o 133 (.nilc (.t 124)),oF 134 1 133,oz (.store 1 (.t 134) (.t 132))]) (sQ [o 136 (.bin .eql (.t 101) (.k (.int .u8 3))),oM 135 136] (.cond (.t 135) (.ops [oM 137 10,o 138 (.nilc (.t 137)),oF 139 1 138,oz (.store 1 (.t 139) (.k (.nils)))]) (sQ [o 141 (.bin .eql (.t 101) (.k (.int .u8 4))),oM 140 141] (.cond (.t 140) (.feet [0,0,2,6,14,0,32,96,224,510,1023,2047,4095] [oM 142 10,oM 143 10,o 144 (.nilc (.t 143)),oF 145 2 144,oL 146 145,oF 147 3 2,oL 148 147,o 149 (.bsl 1 1 [.int .i64 0] [0] [.t 148]),o 150 (.bsl 1 1 [.nils] [0] [.t 149]),o 151 (.app 1 24 (.t 146) (.t 150)),o 152 (.nilc (.t 142)),oF 153 2 152,oz (.store 1 (.t 153) (.t 151))]) (sQ [o 155 (.bin .eql (.t 101) (.k (.int .u8 5))),oM 154 155] (.cond (.t 154) (sQ [oM 156 11,o 157 (.bin .geq (.t 156) (qI 0))] (.cond (.t 157) (.ops [oM 158 10,oM 159 10,o 160 (.nilc (.t 159)),oF 161 2 160,oL 162 161,oM 163 11,o 164 (.slc 1 (.t 162) [] [.t 163]),o 165 (.nilc (.t 158)),oF 166 2 165,oz (.store 1 (.t 166) (.t 164))]) (.skip))) (sQ [o 168 (.bin .eql (.t 101) (.k (.int .u8 6))),oM 167 168] (.cond (.t 167) (sQ [oM 169 11,o 170 (.bin .geq (.t 169) (qI 0)),oM 171 170,og 172 171 true (.mv (.t 10)),og 173 171 true (.nilc (.t 172)),og 174 171 true (.fad 2 (.t 173)),og 175 171 true (.load false 1 (.t 174)),og 176 171 true (.mv (.t 11)),og 177 171 true (.ixs 1 (.t 175) (.t 176)),og 178 171 true (.load false 1 (.t 177)),og 179 171 true (.len .slice (.t 178)),og 180 171 true (.bin .gtr (.t 179) (qI 0)),o 181 (.pick (.t 171) (.t 180) (.k (.bool false)))] (.cond (.t 181) (.feet [0,1,3,7,0,31,63,0,128,511,1023] [oM 182 10,o 183 (.nilc (.t 182)),oF 184 2 183,oL 185 184,oM 186 11,oX 187 185 186,oL 188 187,oF 189 3 2,oL 190 189,o 191 (.ixs 1 (.t 188) (qI 0)),oz (.store 1 (.t 191) (.t 190))]) (.skip))) (sQ [o 193 (.bin .eql (.t 101) (.k (.int .u8 7))),oM 192 193] (.cond (.t 192) (sQ [oM 194 11,o 195 (.bin .geq (.t 194) (qI 0))] (.cond (.t 195) (.feet [0,1,3,7,0,0,32,96,224,0,992,2016,0,8160,16383,32767] [oM 196 10,o 197 (.nilc (.t 196)),oF 198 2 197,oL 199 198,oM 200 11,oM 201 10,o 202 (.nilc (.t 201)),oF 203 2 202,oL 204 203,oM 205 11,oX 206 204 205,oL 207 206,o 208 (.bsl 1 1 [.int .i64 0] [0] [.k (.int .i64 0)]),o 209 (.app 1 8 (.t 207) (.t 208)),oX 210 199 200,oz (.store 1 (.t 210) (.t 209))]) (.skip))) (sQ [o 212 (.bin .eql (.t 101) (.k (.int .u8 8))),oM 211 212] (.cond (.t 211) (sQ [oM 213 11,o 214 (.bin .geq (.t 213) (qI 0)),oM 215 214,og 216 215 true (.mv (.t 10)),og 217 215 true (.nilc (.t 216)),og 218 215 true (.fad 2 (.t 217)),og 219 215 true (.load false 1 (.t 218)),og 220 215 true (.mv (.t 11)),og 221 215 true (.ixs 1 (.t 219) (.t 220)),og 222 215 true (.load false 1 (.t 221)),og 223 215 true (.len .slice (.t 222)),og 224 215 true (.bin .gtr (.t 223) (qI 0)),o 225 (.pick (.t 215) (.t 224) (.k (.bool false)))] (.cond (.t 225) (.seq (.feet [0,1,3,7,0,0,32,96,224,0,992,2016,4064,8160,16383,32767] [oM 226 10,o 227 (.nilc (.t 226)),oF 228 2 227,oL 229 228,oM 230 11,oM 231 10,o 232 (.nilc (.t 231)),oF 233 2 232,oL 234 233,oM 235 11,oX 236 234 235,oL 237 236,oN 238 237,o 239 (.mks 1 8 [.int .i64 0] (.t 238) (.t 238)),oX 240 229 230,oz (.store 1 (.t 240) (.t 239))]) (.feet [0,1,3,7,0,31,63,0,128,511,1023] [oM 241 10,o 242 (.nilc (.t 241)),oF 243 2 242,oL 244 243,oM 245 11,oX 246 244 245,oL 247 246,oF 248 0 3,oL 249 248,o 250 (.ixs 1 (.t 247) (qI 0)),oz (.store 1 (.t 250) (.t 249))])) (.skip))) (sQ [o 252 (.bin .eql (.t 101) (.k (.int .u8 9))),oM 251 252] (.cond (.t 251) (sQ [oM 253 11,o 254 (.bin .geq (.t 253) (qI 0))] (.cond (.t 254) (.seq (.quiet [oM 255 10,o 256 (.nilc (.t 255)),oF 257 2 256,oL 258 257,oM 259 11,oX 260 258 259,oL 261 260,oN 262 261,o 263 (.bin .sub (.t 262) (qI 1)),oK 12 0,oM 13 263]) (.blk 5 (.loop dj))) (.skip))) (sQ [o 311 (.bin .eql (.t 101) (.k (.int .u8 10))),oM 310 311] (.cond (.t 310) (.ops [oF 312 1 3,oL 313 312,oF 314 0 3,oL 315 314,o 316 (.bsl 1 1 [.int .i64 0] [0] [.t 315]),o 317 (.bsl 1 1 [.nils] [0] [.t 316]),o 318 (.build [.int .i64 0,.nils,.nils] [(0,1),(2,1)] [.k (.int .i64 1),.t 317]),o 319 (.bsl 3 1 [.int .i64 0,.nils,.nils] [0] [.t 318]),o 320 (.app 3 56 (.t 313) (.t 319)),oF 321 1 3,oz (.store 1 (.t 321) (.t 320))]) (.ops [oF 102 1 3,oL 103 102,oF 104 1 3,oL 105 104,oN 106 105,o 107 (.bin .sub (.t 106) (qI 1)),o 108 (.slc 3 (.t 103) [] [.t 107]),oF 109 1 3,oz (.store 1 (.t 109) (.t 108))]))))))))))))))))))))))))) dk
def fI:SC:=sQ [oM 70 5,oF 71 1 3,oz (.store 1 (.t 71) (.t 70))] (.seq (sQ [oM 72 5,oN 73 72,o 74 (.bin .eql (.t 73) (qI 0))] (.cond (.t 74) (sQ [o 75 (.load true 2 (.t 3)),oz (.store 2 (.t 4) (.t 75))] (.ret)) (.skip))) (sQ [oM 76 5,oF 77 1 2,oL 78 77,o 79 (.conv .i64 (.t 78)),oM 80 5,oN 81 80,o 82 (.bin .rem (.t 79) (.t 81)),o 83 (.ixs 3 (.t 76) (.t 82)),oM 10 83] (sQ [oK 11 (-1)] (.seq (sQ [oM 84 10,o 85 (.nilc (.t 84)),oF 86 2 85,oL 87 86,oN 88 87,o 89 (.bin .gtr (.t 88) (qI 0))] (.cond (.t 89) (.quiet [oF 90 2 2,oL 91 90,o 92 (.conv .i64 (.t 91)),oM 93 10,o 94 (.nilc (.t 93)),oF 95 2 94,oL 96 95,oN 97 96,o 98 (.bin .rem (.t 92) (.t 97)),oM 11 98]) (.skip))) fH))))
def kg:SC:=sQ [o 5 (.mv (.k (.nils)))] (.seq (sQ [oK 6 0] (.blk 0 (.loop fG))) fI)
def iO:SF:=⟨323,[.cell true 2 4],sQ [o 2 (.box (.t 0)),o 3 (.box (.t 1)),o 4 (.alloc [.int .i64 0,.nils])] kg⟩
def pE:SC:=sQ [o 6 (.load true 2 (.t 1)),o 7 (.call N.aw [.t 6]),oM 5 7,o 8 (.ext (.t 5) 0),o 9 (.ext (.t 5) 1),o 3 (.alloc [.int .i64 0,.nils,.nils,.nils,.nils]),oz (.store 5 (.t 3) (.t 8)),oM 4 9] (sQ [oM 10 4,oM 2 10] (.ret))
def nW:SF:=⟨11,[.tm 2],sQ [o 1 (.box (.t 0)),oK 2 0] pE⟩
def cE:SF:=⟨9,[.tm 4],sQ [o 4 (.mv (.k (.bool false)))] (sQ [oM 5 0,oM 6 1,o 7 (.call N.a7 [.t 5,.t 6]),o 8 (.bin .geq (.t 7) (qI 0)),oM 4 8] (.ret))⟩
def l9:SC:=.ops [oM 88 10,oA 89 88,oM 10 89]
def gZ:SC:=.seq (sQ [oM 84 10,oM 85 0,oN 86 85,o 87 (.bin .lss (.t 84) (.t 86))] (.cond (.t 87) (.skip) (.exit 2))) (.seq (.blk 3 (.seq (.seq (.quiet [oM 90 10,oM 91 5,o 92 (.bin .neq (.t 90) (.t 91)),oM 93 92,og 94 93 true (.mv (.t 7)),o 95 (.pick (.t 93) (.t 94) (.k (.bool false))),oM 96 95,og 97 96 true (.mv (.t 0)),og 98 96 true (.mv (.t 10)),og 99 96 true (.ixs 3 (.t 97) (.t 98)),og 100 96 true (.fad 0 (.t 99)),og 101 96 true (.load false 1 (.t 100)),og 102 96 true (.fad 0 (.t 6)),og 103 96 true (.load false 1 (.t 102)),og 104 96 true (.bin .eql (.t 101) (.t 103)),o 105 (.pick (.t 96) (.t 104) (.k (.bool false)))]) (.cond (.t 105) (sQ [o 4 (.mv (.k (.bool false)))] (.ret)) (.skip))) (sQ [oM 106 0,oM 107 10,o 108 (.ixs 3 (.t 106) (.t 107)),oF 109 0 108,oL 110 109,o 111 (.bin .eql (.t 110) (qI (-1))),oM 112 111,og 113 112 true (.mv (.t 0)),og 114 112 true (.mv (.t 10)),og 115 112 true (.ixs 3 (.t 113) (.t 114)),og 116 112 true (.fad 1 (.t 115)),og 117 112 true (.load false 1 (.t 116)),og 118 112 true (.mv (.t 5)),og 119 112 true (.bin .eql (.t 117) (.t 118)),og 120 112 true (.mv (.t 119)),og 121 120 false (.mv (.t 0)),og 122 120 false (.mv (.t 10)),og 123 120 false (.ixs 3 (.t 121) (.t 122)),og 124 120 false (.fad 2 (.t 123)),og 125 120 false (.load false 1 (.t 124)),og 126 120 false (.mv (.t 5)),og 127 120 false (.bin .eql (.t 125) (.t 126)),og 128 112 true (.pick (.t 120) (.k (.bool true)) (.t 127)),o 129 (.pick (.t 112) (.t 128) (.k (.bool false)))] (.cond (.t 129) (.ops [oM 130 9,oA 131 130,oM 9 131]) (.skip))))) l9)
def c7:SC:=sQ [oM 132 5,oM 133 0,oN 134 133,o 135 (.bin .sub (.t 134) (qI 1)),o 136 (.bin .lss (.t 132) (.t 135)),oM 137 136,og 138 137 true (.mv (.t 9)),og 139 137 true (.bin .neq (.t 138) (qI 1)),o 140 (.pick (.t 137) (.t 139) (.k (.bool false))),oM 141 140,og 142 141 false (.mv (.t 5)),og 143 141 false (.mv (.t 0)),og 144 141 false (.len .slice (.t 143)),og 145 141 false (.bin .sub (.t 144) (qI 1)),og 146 141 false (.bin .eql (.t 142) (.t 145)),og 147 141 false (.mv (.t 146)),og 148 147 true (.mv (.t 9)),og 149 147 true (.bin .neq (.t 148) (qI 0)),og 150 141 false (.pick (.t 147) (.t 149) (.k (.bool false))),o 151 (.pick (.t 141) (.k (.bool true)) (.t 150))] (.cond (.t 151) (sQ [o 4 (.mv (.k (.bool false)))] (.ret)) (.skip))
def l_:SC:=.ops [oM 21 5,oA 22 21,oM 5 22]
def l8:SC:=.seq (sQ [oM 17 5,oM 18 0,oN 19 18,o 20 (.bin .lss (.t 17) (.t 19))] (.cond (.t 20) (.skip) (.exit 0))) (.seq (.blk 1 (sQ [oM 23 0,oM 24 5,o 25 (.ixs 3 (.t 23) (.t 24)),o 26 (.load true 3 (.t 25)),o 6 (.alloc [.int .i64 0,.int .i64 0,.int .i64 0]),oz (.store 3 (.t 6) (.t 26))] (sQ [oF 27 0 6,oL 28 27,o 29 (.bin .geq (.t 28) (qI 0)),oM 30 29,og 31 30 true (.fad 0 (.t 6)),og 32 30 true (.load false 1 (.t 31)),og 33 30 true (.mv (.t 1)),og 34 30 true (.bin .lss (.t 32) (.t 33)),o 35 (.pick (.t 30) (.t 34) (.k (.bool false))),oM 36 35,og 37 36 true (.fad 1 (.t 6)),og 38 36 true (.load false 1 (.t 37)),og 39 36 true (.bin .eql (.t 38) (qI (-1))),o 40 (.pick (.t 36) (.t 39) (.k (.bool false))),oM 41 40,og 42 41 true (.fad 2 (.t 6)),og 43 41 true (.load false 1 (.t 42)),og 44 41 true (.bin .eql (.t 43) (qI (-1))),o 45 (.pick (.t 41) (.t 44) (.k (.bool false))),oM 7 45] (sQ [oF 46 0 6,oL 47 46,o 48 (.bin .eql (.t 47) (qI (-1))),oM 49 48,og 50 49 true (.fad 1 (.t 6)),og 51 49 true (.load false 1 (.t 50)),og 52 49 true (.bin .geq (.t 51) (qI 0)),o 53 (.pick (.t 49) (.t 52) (.k (.bool false))),oM 54 53,og 55 54 true (.fad 1 (.t 6)),og 56 54 true (.load false 1 (.t 55)),og 57 54 true (.mv (.t 5)),og 58 54 true (.bin .lss (.t 56) (.t 57)),o 59 (.pick (.t 54) (.t 58) (.k (.bool false))),oM 60 59,og 61 60 true (.fad 2 (.t 6)),og 62 60 true (.load false 1 (.t 61)),og 63 60 true (.bin .geq (.t 62) (qI 0)),o 64 (.pick (.t 60) (.t 63) (.k (.bool false))),oM 65 64,og 66 65 true (.fad 2 (.t 6)),og 67 65 true (.load false 1 (.t 66)),og 68 65 true (.mv (.t 5)),og 69 65 true (.bin .lss (.t 67) (.t 68)),o 70 (.pick (.t 65) (.t 69) (.k (.bool false))),oM 71 70,og 72 71 true (.fad 1 (.t 6)),og 73 71 true (.load false 1 (.t 72)),og 74 71 true (.fad 2 (.t 6)),og 75 71 true (.load false 1 (.t 74)),og 76 71 true (.bin .neq (.t 73) (.t 75)),o 77 (.pick (.t 71) (.t 76) (.k (.bool false))),oM 8 77] (.seq (sQ [oM 78 7,o 79 (.not (.t 78)),oM 80 79,og 81 80 true (.mv (.t 8)),og 82 80 true (.not (.t 81)),o 83 (.pick (.t 80) (.t 82) (.k (.bool false)))] (.cond (.t 83) (sQ [o 4 (.mv (.k (.bool false)))] (.ret)) (.skip))) (sQ [oK 9 0] (.seq (sQ [oK 10 0] (.blk 2 (.loop gZ))) c7))))))) l_)
def ma:SC:=sQ [o 4 (.mv (.k (.bool true)))] (.ret)
def ia:SF:=⟨152,[.tm 4],sQ [o 4 (.mv (.k (.bool false)))] (.seq (sQ [oM 11 0,oN 12 11,oM 13 1,o 14 (.bin .mul (qI 2) (.t 13)),o 15 (.bin .sub (.t 14) (qI 1)),o 16 (.bin .neq (.t 12) (.t 15))] (.cond (.t 16) (sQ [o 4 (.mv (.k (.bool false)))] (.ret)) (.skip))) (.seq (sQ [oK 5 0] (.blk 0 (.loop l8))) ma))⟩
def mX:SC:=sQ [o 7 (.load true 2 (.t 1)),o 8 (.call N.aw [.t 7]),oM 6 8,o 9 (.ext (.t 6) 0),o 10 (.ext (.t 6) 1),o 4 (.alloc [.int .i64 0,.nils,.nils,.nils,.nils]),oz (.store 5 (.t 4) (.t 9)),oM 5 10] (sQ [oF 11 3 4,oL 12 11,oM 13 5,oM 2 12,oM 3 13] (.ret))
def k_:SF:=⟨14,[.tm 2,.tm 3],sQ [o 1 (.box (.t 0)),o 2 (.mv (.k (.nils))),oK 3 0] mX⟩
def gi:SC:=sQ [o 15 (.bin .lss (.t 14) (.t 13))] (.seq (.cond (.t 15) (.skip) (.exit 0)) (.seq (.blk 1 (sQ [oX 16 12 14,oL 17 16,oM 7 17] (.seq (sQ [oM 18 7,o 19 (.bin .lss (.t 18) (qI 0)),oM 20 19,og 21 20 false (.mv (.t 7)),og 22 20 false (.mv (.t 1)),og 23 20 false (.bin .geq (.t 21) (.t 22)),o 24 (.pick (.t 20) (.k (.bool true)) (.t 23)),oM 25 24,og 26 25 false (.mv (.t 5)),og 27 25 false (.mv (.t 7)),og 28 25 false (.bin .shr (.t 26) (.t 27)),og 29 25 false (.bin .and (.t 28) (.k (.int .u64 1))),og 30 25 false (.bin .eql (.t 29) (.k (.int .u64 1))),o 31 (.pick (.t 25) (.k (.bool true)) (.t 30))] (.cond (.t 31) (sQ [o 4 (.mv (.k (.bool false)))] (.ret)) (.skip))) (.ops [oM 32 5,oM 33 7,o 34 (.bin .shl (.k (.int .u64 1)) (.t 33)),o 35 (.bin .or (.t 32) (.t 34)),oM 5 35])))) (.ops [oA 36 14,oM 14 36])))
def gk:SC:=sQ [o 4 (.mv (.k (.bool true)))] (.ret)
def cU:SF:=⟨37,[.tm 4],sQ [o 4 (.mv (.k (.bool false)))] (.seq (sQ [oM 8 0,oN 9 8,oM 10 1,o 11 (.bin .neq (.t 9) (.t 10))] (.cond (.t 11) (sQ [o 4 (.mv (.k (.bool false)))] (.ret)) (.skip))) (sQ [o 5 (.mv (.k (.int .u64 0)))] (.seq (sQ [oM 12 0,oN 13 12,oK 14 0] (.blk 0 (.loop gi))) gk)))⟩
def eI:SC:=.ops [oA 31 16,oM 16 31]
def cx:SC:=sQ [o 17 (.bin .lss (.t 16) (.t 15))] (.seq (.cond (.t 17) (.skip) (.exit 0)) (.seq (.blk 1 (sQ [o 18 (.ixs 2 (.t 14) (.t 16)),o 19 (.load true 2 (.t 18)),o 7 (.alloc [.int .i64 0,.int .u64 0]),oz (.store 2 (.t 7) (.t 19))] (sQ [oM 20 1,o 21 (.load true 2 (.t 7)),o 22 (.dyn (.t 20) [.t 21])] (.cond (.t 22) (.ops [oM 23 4,o 24 (.load true 2 (.t 7)),o 25 (.bsl 2 1 [.int .i64 0,.int .u64 0] [0] [.t 24]),o 26 (.app 2 16 (.t 23) (.t 25)),oM 4 26]) (.ops [oM 27 5,o 28 (.load true 2 (.t 7)),o 29 (.bsl 2 1 [.int .i64 0,.int .u64 0] [0] [.t 28]),o 30 (.app 2 16 (.t 27) (.t 29)),oM 5 30]))))) eI))
def cy:SC:=sQ [o 42 (.bin .lss (.t 41) (.t 40))] (.seq (.cond (.t 42) (.skip) (.exit 2)) (.seq (.blk 3 (sQ [o 43 (.ixs 2 (.t 39) (.t 41)),o 44 (.load true 2 (.t 43)),o 10 (.alloc [.int .i64 0,.int .u64 0]),oz (.store 2 (.t 10) (.t 44))] (.seq (.feet [0,0,2,6,14,0,32,0,128,480,992,2046,4095,8191,16383] [oM 45 0,oM 46 0,o 47 (.nilc (.t 46)),oF 48 0 47,oL 49 48,oF 50 0 8,oL 51 50,oF 52 0 10,oL 53 52,o 54 (.build [.int .i64 0,.int .i64 0,.int .i64 0] [(0,1),(1,1),(2,1)] [.k (.int .i64 (-1)),.t 51,.t 53]),o 55 (.bsl 3 1 [.int .i64 0,.int .i64 0,.int .i64 0] [0] [.t 54]),o 56 (.app 3 24 (.t 49) (.t 55)),o 57 (.nilc (.t 45)),oF 58 0 57,oz (.store 1 (.t 58) (.t 56))]) (.feet [0,1,3,7,15,31,0,64,0,256,960,2047,4095] [oM 59 0,o 60 (.nilc (.t 59)),oF 61 0 60,oL 62 61,oN 63 62,o 64 (.bin .sub (.t 63) (qI 1)),oF 65 1 8,oL 66 65,oF 67 1 10,oL 68 67,o 69 (.bin .or (.t 66) (.t 68)),o 70 (.build [.int .i64 0,.int .u64 0] [(0,1),(1,1)] [.t 64,.t 69]),oz (.store 2 (.t 8) (.t 70))])))) (.ops [oA 71 41,oM 41 71])))
def eJ:SC:=sQ [oM 72 0,oM 73 5,o 74 (.load true 2 (.t 8)),o 75 (.bsl 2 1 [.int .i64 0,.int .u64 0] [0] [.t 74]),o 76 (.app 2 16 (.t 73) (.t 75)),o 77 (.nilc (.t 72)),oF 78 1 77,oz (.store 1 (.t 78) (.t 76))] (.ops [oM 79 0,o 80 (.nilc (.t 79)),oF 81 1 80,oL 82 81,o 83 (.call N.a9 [.t 82,.k (.clo 67 [] [])])])
def cz:SC:=.seq (sQ [oM 32 4,oN 33 32,o 34 (.bin .eql (.t 33) (qI 0))] (.cond (.t 34) (.ret) (.skip))) (sQ [oM 35 4,o 36 (.ixs 2 (.t 35) (qI 0)),o 37 (.load true 2 (.t 36)),o 8 (.alloc [.int .i64 0,.int .u64 0]),oz (.store 2 (.t 8) (.t 37))] (.seq (sQ [oM 38 4,o 39 (.slc 2 (.t 38) [.k (.int .i64 1)] []),oN 40 39,oK 41 0] (.blk 2 (.loop cy))) eJ))
def di:SF:=⟨84,[],sQ [o 4 (.mv (.k (.nils))),o 5 (.mv (.k (.nils)))] (.seq (sQ [oM 11 0,o 12 (.nilc (.t 11)),oF 13 1 12,oL 14 13,oN 15 14,oK 16 0] (.blk 0 (.loop cx))) cz)⟩
def il:SC:=sQ [oF 4 1 2,oL 5 4,oL 6 1,o 7 (.bin .shr (.t 5) (.t 6)),o 8 (.bin .and (.t 7) (.k (.int .u64 1))),o 9 (.bin .eql (.t 8) (.k (.int .u64 1))),oM 3 9] (.ret)
def fD:SF:=⟨10,[.tm 3],sQ [o 2 (.box (.t 0)),o 3 (.mv (.k (.bool false)))] il⟩
def im:SC:=sQ [o 2 (.mv (.k (.bool true)))] (.ret)
def fE:SF:=⟨3,[.tm 2],sQ [o 1 (.box (.t 0)),o 2 (.mv (.k (.bool false)))] im⟩
def qH:SC:=.seq (sQ [oM 6 5,oM 7 0,oN 8 7,o 9 (.bin .lss (.t 6) (.t 8))] (.cond (.t 9) (.skip) (.exit 0))) (.seq (.blk 1 (.seq (.quiet [oM 12 0,oM 13 5,oX 14 12 13,oL 15 14,o 16 (.bin .lss (.t 15) (qI 0)),oM 17 16,og 18 17 false (.mv (.t 0)),og 19 17 false (.mv (.t 5)),og 20 17 false (.ixs 1 (.t 18) (.t 19)),og 21 17 false (.load false 1 (.t 20)),og 22 17 false (.mv (.t 1)),og 23 17 false (.bin .geq (.t 21) (.t 22)),o 24 (.pick (.t 17) (.k (.bool true)) (.t 23)),oM 25 24,og 26 25 false (.mv (.t 5)),og 27 25 false (.bin .gtr (.t 26) (qI 0)),og 28 25 false (.mv (.t 27)),og 29 28 true (.mv (.t 0)),og 30 28 true (.mv (.t 5)),og 31 28 true (.ixs 1 (.t 29) (.t 30)),og 32 28 true (.load false 1 (.t 31)),og 33 28 true (.mv (.t 0)),og 34 28 true (.mv (.t 5)),og 35 28 true (.bin .sub (.t 34) (qI 1)),og 36 28 true (.ixs 1 (.t 33) (.t 35)),og 37 28 true (.load false 1 (.t 36)),og 38 28 true (.bin .leq (.t 32) (.t 37)),og 39 25 false (.pick (.t 28) (.t 38) (.k (.bool false))),o 40 (.pick (.t 25) (.k (.bool true)) (.t 39))]) (.cond (.t 40) (sQ [o 4 (.mv (.k (.bool false)))] (.ret)) (.skip)))) (.ops [oM 10 5,oA 11 10,oM 5 11]))
def ke:SC:=sQ [o 4 (.mv (.k (.bool true)))] (.ret)
def jA:SF:=⟨41,[.tm 4],sQ [o 4 (.mv (.k (.bool false)))] (.seq (sQ [oK 5 0] (.blk 0 (.loop qH))) ke)⟩
def pZ:SC:=.seq (sQ [oM 4 3,oM 5 0,oN 6 5,o 7 (.bin .lss (.t 4) (.t 6))] (.cond (.t 7) (.skip) (.exit 0))) (.seq (.blk 1 (sQ [oM 10 0,oM 11 0,oM 12 3,oX 13 11 12,oL 14 13,o 15 (.call N.aW [.t 10,.t 14]),oM 16 3,o 17 (.call N.af [.t 15,.t 16])] (.cond (.t 17) (sQ [o 2 (.mv (.k (.bool false)))] (.ret)) (.skip)))) (.ops [oM 8 3,oA 9 8,oM 3 9]))
def jB:SC:=sQ [o 2 (.mv (.k (.bool true)))] (.ret)
def iN:SF:=⟨18,[.tm 2],sQ [o 2 (.mv (.k (.bool false)))] (.seq (sQ [oK 3 0] (.blk 0 (.loop pZ))) jB)⟩
def nD:SC:=.seq (sQ [oM 14 6,oF 15 1 1,oL 16 15,oM 17 4,o 18 (.ixs 3 (.t 16) (.t 17)),oF 19 1 18,oL 20 19,oN 21 20,o 22 (.bin .lss (.t 14) (.t 21))] (.cond (.t 22) (.skip) (.exit 2))) (.seq (.blk 3 (.ops [oM 25 5,oF 26 1 1,oL 27 26,oM 28 4,o 29 (.ixs 3 (.t 27) (.t 28)),oF 30 1 29,oL 31 30,oM 32 6,oX 33 31 32,oL 34 33,o 35 (.conv .u64 (.t 34)),o 36 (.bin .shl (.k (.int .u64 1)) (.t 35)),o 37 (.bin .or (.t 25) (.t 36)),oM 5 37])) (.ops [oM 23 6,oA 24 23,oM 6 24]))
def gO:SC:=.ops [oM 38 3,oM 39 5,o 40 (.bsl 1 1 [.int .u64 0] [0] [.t 39]),o 41 (.app 1 8 (.t 38) (.t 40)),oM 3 41]
def nF:SC:=.ops [oM 12 4,oA 13 12,oM 4 13]
def nE:SC:=.seq (sQ [oM 7 4,oF 8 1 1,oL 9 8,oN 10 9,o 11 (.bin .lss (.t 7) (.t 10))] (.cond (.t 11) (.skip) (.exit 0))) (.seq (.blk 1 (sQ [o 5 (.mv (.k (.int .u64 0)))] (.seq (sQ [oK 6 0] (.blk 2 (.loop nD))) gO))) nF)
def gP:SC:=sQ [oM 42 3,oM 2 42] (.ret)
def iy:SC:=sQ [o 3 (.mv (.k (.nils)))] (.seq (sQ [oK 4 0] (.blk 0 (.loop nE))) gP)
def fJ:SF:=⟨43,[.tm 2],sQ [o 1 (.box (.t 0)),o 2 (.mv (.k (.nils)))] iy⟩
def p_:SF:=⟨11,[.tm 4],sQ [o 4 (.mv (.k (.bool false)))] (sQ [oM 5 0,oM 6 1,o 7 (.conv .u64 (.t 6)),o 8 (.bin .shr (.t 5) (.t 7)),o 9 (.bin .and (.t 8) (.k (.int .u64 1))),o 10 (.bin .eql (.t 9) (.k (.int .u64 1))),oM 4 10] (.ret))⟩
def lZ:SC:=sQ [o 5 (.load true 2 (.t 2)),o 6 (.call N.aC [.t 5]),oM 7 1,oX 8 6 7,oL 9 8,oM 10 1,o 11 (.conv .u64 (.t 10)),o 12 (.bin .shl (.k (.int .u64 1)) (.t 11)),o 13 (.bin .or (.t 9) (.t 12)),oM 4 13] (.ret)
def jH:SF:=⟨14,[.tm 4],sQ [o 2 (.box (.t 0)),o 4 (.mv (.k (.int .u64 0)))] lZ⟩
def mB:SC:=.seq (sQ [oM 5 4,oF 6 0 1,oL 7 6,oN 8 7,o 9 (.bin .lss (.t 5) (.t 8)),oM 10 9,og 11 10 true (.mv (.t 4)),og 12 10 true (.bin .lss (.t 11) (qI 5)),o 13 (.pick (.t 10) (.t 12) (.k (.bool false)))] (.cond (.t 13) (.skip) (.exit 0))) (.seq (.blk 1 (.ops [oM 16 3,oF 17 0 1,oL 18 17,oM 19 4,oX 20 18 19,oL 21 20,o 22 (.bin .rem (.t 21) (.k (.int .u8 4))),o 23 (.conv .i64 (.t 22)),o 24 (.bin .add (qI 1) (.t 23)),o 25 (.bsl 1 1 [.int .i64 0] [0] [.t 24]),o 26 (.app 1 8 (.t 16) (.t 25)),oM 3 26])) (.ops [oM 14 4,oA 15 14,oM 4 15]))
def gn:SC:=sQ [oM 27 3,oM 2 27] (.ret)
def gI:SC:=sQ [o 3 (.mv (.k (.nils)))] (.seq (sQ [oK 4 0] (.blk 0 (.loop mB))) gn)
def eQ:SF:=⟨28,[.tm 2],sQ [o 1 (.box (.t 0)),o 2 (.mv (.k (.nils)))] gI⟩
def vq:SC:=.seq (sQ [oM 7 6,oM 8 1,oN 9 8,o 10 (.bin .lss (.t 7) (.t 9))] (.cond (.t 10) (.skip) (.exit 0))) (.seq (.blk 1 (.ops [oM 13 5,oM 14 0,oM 15 1,oM 16 6,oX 17 15 16,oL 18 17,oX 19 14 18,oL 20 19,o 21 (.bsl 1 1 [.int .i64 0] [0] [.t 20]),o 22 (.app 1 8 (.t 13) (.t 21)),oM 5 22])) (.ops [oM 11 6,oA 12 11,oM 6 12]))
def pH:SC:=sQ [oM 23 5,oM 4 23] (.ret)
def pY:SF:=⟨24,[.tm 4],sQ [o 4 (.mv (.k (.nils)))] (sQ [o 5 (.mv (.k (.nils)))] (.seq (sQ [oK 6 0] (.blk 0 (.loop vq))) pH))⟩
def lP:SC:=.seq (sQ [oM 5 4,oF 6 1 1,oL 7 6,oN 8 7,o 9 (.bin .lss (.t 5) (.t 8))] (.cond (.t 9) (.skip) (.exit 0))) (.seq (.blk 1 (.ops [oM 12 3,oF 13 1 1,oL 14 13,oM 15 4,o 16 (.ixs 3 (.t 14) (.t 15)),oF 17 0 16,oL 18 17,o 19 (.bsl 1 1 [.int .i64 0] [0] [.t 18]),o 20 (.app 1 8 (.t 12) (.t 19)),oM 3 20])) (.ops [oM 10 4,oA 11 10,oM 4 11]))
def lQ:SC:=sQ [oM 21 3,oM 2 21] (.ret)
def m_:SC:=sQ [o 3 (.mv (.k (.nils)))] (.seq (sQ [oK 4 0] (.blk 0 (.loop lP))) lQ)
def lw:SF:=⟨22,[.tm 2],sQ [o 1 (.box (.t 0)),o 2 (.mv (.k (.nils)))] m_⟩
def li:SC:=sQ [o 51 (.bin .lss (.t 50) (.t 49))] (.seq (.cond (.t 51) (.skip) (.exit 0)) (.seq (.blk 1 (sQ [oM 52 50,o 53 (.ixs 3 (.t 48) (.t 50)),o 54 (.load true 3 (.t 53)),o 7 (.alloc [.int .i64 0,.nils,.nils]),oM 6 52,oz (.store 3 (.t 7) (.t 54))] (.seq (sQ [oF 55 0 7,oL 56 55,o 57 (.bin .lss (.t 56) (qI 1)),oM 58 57,og 59 58 false (.fad 0 (.t 7)),og 60 58 false (.load false 1 (.t 59)),og 61 58 false (.bin .gtr (.t 60) (qI 4)),o 62 (.pick (.t 58) (.k (.bool true)) (.t 61))] (.cond (.t 62) (sQ [o 63 (.build [.int .i64 0,.nils,.nils,.nils,.nils] [] []),oz (.store 5 (.t 2) (.t 63)),oK 3 50] (.ret)) (.skip))) (sQ [oF 64 2 4,oL 65 64,oM 66 6,oF 67 0 7,oL 68 67,oX 69 65 66,oz (.store 1 (.t 69) (.t 68))] (.ops [oM 70 5,oF 71 0 7,oL 72 71,o 73 (.bin .mul (.t 70) (.t 72)),oM 5 73]))))) (.ops [oA 74 50,oM 50 74])))
def lp:SC:=sQ [o 91 (.bin .lss (.t 90) (.t 89))] (.seq (.cond (.t 91) (.skip) (.exit 4)) (.seq (.blk 5 (sQ [oX 92 88 90,oL 93 92,oM 12 93] (.seq (sQ [oM 94 12,oM 95 10,o 96 (.bin .leq (.t 94) (.t 95)),oM 97 96,og 98 97 false (.mv (.t 12)),og 99 97 false (.fad 0 (.t 4)),og 100 97 false (.fad 1 (.t 99)),og 101 97 false (.load false 1 (.t 100)),og 102 97 false (.len .slice (.t 101)),og 103 97 false (.bin .geq (.t 98) (.t 102)),o 104 (.pick (.t 97) (.k (.bool true)) (.t 103)),oM 105 104,og 106 105 false (.mv (.t 12)),og 107 105 false (.mv (.t 8)),og 108 105 false (.bin .eql (.t 106) (.t 107)),o 109 (.pick (.t 105) (.k (.bool true)) (.t 108))] (.cond (.t 109) (sQ [o 110 (.build [.int .i64 0,.nils,.nils,.nils,.nils] [] []),oz (.store 5 (.t 2) (.t 110)),oK 3 50] (.ret)) (.skip))) (sQ [oM 111 12,oM 10 111] (.feet [0,1,0,7,15,0,32,127,255,511] [oF 112 3 4,oL 113 112,oM 114 8,oX 115 113 114,oL 116 115,oM 117 12,o 118 (.bin .shl (.k (.int .u64 1)) (.t 117)),o 119 (.bin .or (.t 116) (.t 118)),oX 120 113 114,oz (.store 1 (.t 120) (.t 119))]))))) (.ops [oA 121 90,oM 90 121])))
def lr:SC:=sQ [o 122 (.load true 5 (.t 4)),o 123 (.load true 3 (.t 9)),o 124 (.call N.au [.t 122,.t 123]),o 125 (.not (.t 124))] (.cond (.t 125) (sQ [o 126 (.build [.int .i64 0,.nils,.nils,.nils,.nils] [] []),oz (.store 5 (.t 2) (.t 126)),oK 3 50] (.ret)) (.skip))
def pF:SC:=.ops [oA 127 82,oM 82 127]
def lq:SC:=sQ [o 83 (.bin .lss (.t 82) (.t 81))] (.seq (.cond (.t 83) (.skip) (.exit 2)) (.seq (.blk 3 (sQ [oM 84 82,o 85 (.ixs 3 (.t 80) (.t 82)),o 86 (.load true 3 (.t 85)),o 9 (.alloc [.int .i64 0,.nils,.nils]),oM 8 84,oz (.store 3 (.t 9) (.t 86))] (sQ [oK 10 (-1)] (.seq (sQ [oF 87 1 9,oL 88 87,oN 89 88,oK 90 0] (.blk 4 (.loop lp))) lr)))) pF))
def lu:SC:=sQ [oF 129 3 4,oL 130 129,o 131 (.call N.aQ [.t 130]),oM 128 131,o 132 (.ext (.t 128) 0),o 133 (.ext (.t 128) 1),oM 13 132,oM 14 133] (.seq (sQ [oM 134 14,o 135 (.not (.t 134))] (.cond (.t 135) (sQ [o 136 (.build [.int .i64 0,.nils,.nils,.nils,.nils] [] []),oz (.store 5 (.t 2) (.t 136)),oK 3 50] (.ret)) (.skip))) (sQ [oM 137 13,oF 138 4 4,oz (.store 1 (.t 138) (.t 137))] (sQ [o 139 (.load true 5 (.t 4)),oz (.store 5 (.t 2) (.t 139)),oK 3 0] (.ret))))
def pG:SC:=.seq (sQ [oM 75 5,o 76 (.bin .gtr (.t 75) (qI 1024))] (.cond (.t 76) (sQ [o 77 (.build [.int .i64 0,.nils,.nils,.nils,.nils] [] []),oz (.store 5 (.t 2) (.t 77)),oK 3 50] (.ret)) (.skip))) (.seq (sQ [oF 78 0 4,oF 79 1 78,oL 80 79,oN 81 80,oK 82 0] (.blk 2 (.loop lq))) lu)
def qF:SC:=.seq (sQ [oF 15 0 1,oL 16 15,o 17 (.bin .lss (.t 16) (qI 1)),oM 18 17,og 19 18 false (.fad 0 (.t 1)),og 20 18 false (.load false 1 (.t 19)),og 21 18 false (.bin .gtr (.t 20) (qI 60)),o 22 (.pick (.t 18) (.k (.bool true)) (.t 21)),oM 23 22,og 24 23 false (.fad 1 (.t 1)),og 25 23 false (.load false 1 (.t 24)),og 26 23 false (.len .slice (.t 25)),og 27 23 false (.bin .lss (.t 26) (qI 1)),o 28 (.pick (.t 23) (.k (.bool true)) (.t 27)),oM 29 28,og 30 29 false (.fad 1 (.t 1)),og 31 29 false (.load false 1 (.t 30)),og 32 29 false (.len .slice (.t 31)),og 33 29 false (.bin .gtr (.t 32) (qI 8)),o 34 (.pick (.t 29) (.k (.bool true)) (.t 33))] (.cond (.t 34) (sQ [o 35 (.build [.int .i64 0,.nils,.nils,.nils,.nils] [] []),oz (.store 5 (.t 2) (.t 35)),oK 3 50] (.ret)) (.skip))) (.seq (.feet [0,0,2,6,14,0,32,96,224,511,0,2047] [o 36 (.load true 2 (.t 1)),oF 37 1 1,oL 38 37,oN 39 38,o 40 (.mks 1 8 [.int .i64 0] (.t 39) (.t 39)),oF 41 1 1,oL 42 41,oN 43 42,o 44 (.mks 1 8 [.int .u64 0] (.t 43) (.t 43)),o 45 (.build [.int .i64 0,.nils,.nils,.nils,.nils] [(0,2),(2,1),(3,1)] [.t 36,.t 40,.t 44]),o 4 (.alloc [.int .i64 0,.nils,.nils,.nils,.nils]),oz (.store 5 (.t 4) (.t 45))]) (sQ [oK 5 1] (.seq (sQ [oF 46 0 4,oF 47 1 46,oL 48 47,oN 49 48,oK 50 0] (.blk 0 (.loop li))) pG)))
def jz:SF:=⟨140,[.cell true 5 2,.tm 3],sQ [o 1 (.box (.t 0)),o 2 (.alloc [.int .i64 0,.nils,.nils,.nils,.nils]),oK 3 0] qF⟩
def eL:SC:=sQ [o 9 (.bin .lss (.t 8) (.t 7))] (.seq (.cond (.t 9) (.skip) (.exit 0)) (.seq (.blk 1 (sQ [oM 10 8,oM 5 10] (sQ [oM 11 1,oM 12 0,oM 13 5,oX 14 12 13,oL 15 14,o 16 (.eq false .bool (.t 11) (.t 15))] (.cond (.t 16) (sQ [oM 17 5,oM 4 17] (.ret)) (.skip))))) (.ops [oA 18 8,oM 8 18])))
def eM:SC:=sQ [oK 4 (-1)] (.ret)
def dm:SF:=⟨19,[.tm 4],sQ [oK 4 0] (.seq (sQ [oM 6 0,oN 7 6,oK 8 0] (.blk 0 (.loop eL))) eM)⟩
def aO:SF:=⟨14,[],sQ [oM 5 0,oN 6 5,oM 4 6] (.ops [oM 7 0,oM 8 4,oM 9 4,o 10 (.conv .u64 (.t 9)),o 11 (.call N.aa [.t 10]),oM 12 1,o 13 (.call N.aJ [.t 7,.k (.int .i64 0),.t 8,.t 11,.t 12])])⟩
def dN:SC:=sQ [oF 5 0 2,oL 6 5,oF 7 0 3,oL 8 7,o 9 (.bin .sub (.t 6) (.t 8)),oM 4 9] (.ret)
def cP:SF:=⟨10,[.tm 4],sQ [o 2 (.box (.t 0)),o 3 (.box (.t 1)),oK 4 0] dN⟩
def vz:SC:=.ops [oM 17 6,oA 18 17,oM 6 18]
def vv:SC:=.seq (sQ [oM 13 6,oM 14 0,oN 15 14,o 16 (.bin .lss (.t 13) (.t 15))] (.cond (.t 16) (.skip) (.exit 2))) (.seq (.blk 3 (sQ [oM 19 1,oM 20 6,o 21 (.call N.af [.t 19,.t 20])] (.cond (.t 21) (.ops [oM 22 1,oM 23 0,oM 24 6,oX 25 23 24,oL 26 25,o 27 (.bin .or (.t 22) (.t 26)),oM 1 27]) (.skip)))) vz)
def vA:SC:=.ops [oM 11 5,oA 12 11,oM 5 12]
def vy:SC:=.seq (sQ [oM 7 5,oM 8 0,oN 9 8,o 10 (.bin .lss (.t 7) (.t 9))] (.cond (.t 10) (.skip) (.exit 0))) (.seq (.blk 1 (sQ [oK 6 0] (.blk 2 (.loop vv)))) vA)
def pI:SC:=sQ [oM 28 1,oM 4 28] (.ret)
def qa:SF:=⟨29,[.tm 4],sQ [o 4 (.mv (.k (.int .u64 0)))] (.seq (sQ [oK 5 0] (.blk 0 (.loop vy))) pI)⟩
def fU:SC:=sQ [o 17 (.bin .lss (.t 16) (.t 15))] (.seq (.cond (.t 17) (.skip) (.exit 0)) (.seq (.blk 1 (sQ [oX 18 14 16,oL 19 18,oM 7 19] (.ops [oM 20 5,oF 21 2 2,oL 22 21,oM 23 7,oX 24 22 23,oL 25 24,o 26 (.bin .mul (.t 20) (.t 25)),oM 5 26]))) (.ops [oA 27 16,oM 16 27])))
def fT:SC:=.ops [oM 9 36]
def cZ:SC:=sQ [o 43 (.bin .lss (.t 42) (.t 41))] (.seq (.cond (.t 43) (.skip) (.exit 4)) (.seq (.blk 5 (sQ [oX 44 40 42,oL 45 44,oM 12 45] (.seq (sQ [oM 46 12,o 47 (.bin .lss (.t 46) (qI 0)),oM 48 47,og 49 48 false (.mv (.t 12)),og 50 48 false (.mv (.t 10)),og 51 48 false (.bin .gtr (.t 49) (.t 50)),o 52 (.pick (.t 48) (.k (.bool true)) (.t 51))] (.cond (.t 52) (sQ [oz (.store 1 (.t 4) (.k (.bool false)))] (.ret)) (.skip))) (.ops [oM 53 10,oM 54 12,o 55 (.bin .sub (.t 53) (.t 54)),oM 10 55])))) (.ops [oA 56 42,oM 42 56])))
def bI:SC:=sQ [oM 57 9,oN 58 57,oF 59 0 3,oL 60 59,o 61 (.bin .neq (.t 58) (.t 60)),oM 62 61,og 63 62 false (.mv (.t 10)),og 64 62 false (.bin .neq (.t 63) (qI 0)),o 65 (.pick (.t 62) (.k (.bool true)) (.t 64))] (.cond (.t 65) (sQ [oz (.store 1 (.t 4) (.k (.bool false)))] (.ret)) (.skip))
def fV:SC:=.blk 3 (sQ [oF 37 0 2,oF 38 0 37,oL 39 38,oM 10 39] (.seq (sQ [oM 40 9,oN 41 40,oK 42 0] (.blk 4 (.loop cZ))) bI))
def fW:SC:=sQ [oz (.store 1 (.t 4) (.k (.bool true)))] (.ret)
def fX:SC:=.seq (sQ [oF 28 2 3,oL 29 28,oN 30 29,oM 31 5,o 32 (.bin .neq (.t 30) (.t 31))] (.cond (.t 32) (sQ [oz (.store 1 (.t 4) (.k (.bool false)))] (.ret)) (.skip))) (.seq (sQ [o 33 (.load true 3 (.t 3)),o 34 (.call N.ax [.t 33])] (.blk 2 (.rng 66 (.t 34) [35,36] fT fV))) fW)
def gm:SC:=sQ [oK 5 1] (.seq (sQ [oF 13 1 3,oL 14 13,oN 15 14,oK 16 0] (.blk 0 (.loop fU))) fX)
def dS:SF:=⟨66,[.cell false 1 4],sQ [o 2 (.box (.t 0)),o 3 (.box (.t 1)),o 4 (.alloc [.bool false])] gm⟩
def mZ:SC:=sQ [o 19 (.bin .lss (.t 18) (.t 17))] (.seq (.cond (.t 19) (.skip) (.exit 2)) (.seq (.blk 3 (sQ [oM 20 18,oX 21 16 18,oL 22 21,oM 6 20,oM 7 22] (sQ [oM 23 5,oM 24 6,o 25 (.bin .shr (.t 23) (.t 24)),o 26 (.bin .and (.t 25) (.k (.int .u64 1))),o 27 (.bin .eql (.t 26) (.k (.int .u64 0))),oM 28 27,og 29 28 true (.mv (.t 7)),og 30 28 true (.mv (.t 5)),og 31 28 true (.bin .andNot (.t 29) (.t 30)),og 32 28 true (.bin .eql (.t 31) (.k (.int .u64 0))),o 33 (.pick (.t 28) (.t 32) (.k (.bool false)))] (.cond (.t 33) (sQ [oM 34 4,oM 35 6,o 36 (.bsl 1 1 [.int .i64 0] [0] [.t 35]),o 37 (.app 1 8 (.t 34) (.t 36)),oM 4 37] (sQ [oM 38 5,oM 39 6,o 40 (.bin .shl (.k (.int .u64 1)) (.t 39)),o 41 (.bin .or (.t 38) (.t 40)),oM 5 41] (.exit 1))) (.skip))))) (.ops [oA 42 18,oM 18 42])))
def m7:SC:=sQ [o 2 (.mv (.k (.nils))),o 3 (.mv (.k (.bool false)))] (.ret)
def m6:SC:=.seq (sQ [oM 11 4,oN 12 11,oM 13 0,oN 14 13,o 15 (.bin .lss (.t 12) (.t 14))] (.cond (.t 15) (.skip) (.exit 0))) (.blk 1 (.seq (sQ [oM 16 0,oN 17 16,oK 18 0] (.blk 2 (.loop mZ))) m7))
def m8:SC:=sQ [oM 43 4,oM 2 43,o 3 (.mv (.k (.bool true)))] (.ret)
def mA:SF:=⟨44,[.tm 2,.tm 3],sQ [o 2 (.mv (.k (.nils))),o 3 (.mv (.k (.bool false)))] (sQ [oM 8 0,oN 9 8,o 10 (.mks 1 8 [.int .i64 0] (qI 0) (.t 9)),oM 4 10,o 5 (.mv (.k (.int .u64 0)))] (.seq (.skip) (.seq (.blk 0 (.loop m6)) m8)))⟩
def dq:SC:=.seq (.seq (.feet [0,1,3,7,7,7,39,119,247,7,7,1543,3591,8191,16383,32767,65535] [oM 81 1,o 82 (.bin .gtr (.t 81) (qI 0)),oM 83 82,og 84 83 true (.mv (.t 4)),og 85 83 true (.mv (.t 0)),og 86 83 true (.mv (.t 1)),og 87 83 true (.bin .sub (.t 86) (qI 1)),og 88 83 true (.ixs 2 (.t 85) (.t 87)),og 89 83 true (.load true 2 (.t 88)),og 90 83 true (.mv (.t 0)),og 91 83 true (.mv (.t 13)),og 92 83 true (.ixs 2 (.t 90) (.t 91)),og 93 83 true (.load true 2 (.t 92)),og 94 83 true (.dyn (.t 84) [.t 89,.t 93]),og 95 83 true (.bin .lss (.t 94) (qI 0)),og 96 83 true (.not (.t 95)),o 97 (.pick (.t 83) (.t 96) (.k (.bool false)))]) (.cond (.t 97) (sQ [oM 98 0,oM 99 1,oM 100 2,oM 101 13,oM 102 4,o 103 (.call N.bp [.t 98,.t 99,.t 100,.t 101,.t 102]),oM 15 103] (sQ [oM 104 15,oM 1 104] (.exit 1))) (.skip))) (sQ [oM 106 0,oM 107 1,oM 108 2,oM 109 13,oM 110 4,o 111 (.call N.bm [.t 106,.t 107,.t 108,.t 109,.t 110]),oM 105 111,o 112 (.ext (.t 105) 0),o 113 (.ext (.t 105) 1),oM 16 112,oM 17 113] (sQ [oM 114 17,oM 11 114] (sQ [oM 115 16,oM 116 1,o 117 (.bin .sub (.t 115) (.t 116)),oM 118 2,oM 119 16,o 120 (.bin .sub (.t 118) (.t 119)),oM 18 117,oM 19 120] (sQ [oM 121 12,o 122 (.bin .quo (.t 121) (qI 8)),oM 20 122] (sQ [oM 123 18,oM 124 19,o 125 (.bin .lss (.t 123) (.t 124))] (.cond (.t 125) (sQ [oM 126 18,oM 127 20,o 128 (.bin .geq (.t 126) (.t 127)),oM 10 128] (sQ [oM 129 0,oM 130 1,oM 131 16,oM 132 3,oM 133 4,o 134 (.call N.aJ [.t 129,.t 130,.t 131,.t 132,.t 133])] (.ops [oM 135 16,oA 136 135,oM 1 136]))) (sQ [oM 137 19,oM 138 20,o 139 (.bin .geq (.t 137) (.t 138)),oM 10 139] (sQ [oM 140 0,oM 141 16,oA 142 141,oM 143 2,oM 144 3,oM 145 4,o 146 (.call N.aJ [.t 140,.t 142,.t 143,.t 144,.t 145])] (.ops [oM 147 16,oM 2 147])))))))))
def dt:SC:=.seq (sQ [oM 68 10,oM 69 68,og 70 69 true (.mv (.t 11)),o 71 (.pick (.t 69) (.t 70) (.k (.bool false))),oM 72 71,og 73 72 true (.mv (.t 14)),og 74 72 true (.bin .eql (.t 73) (qI 1)),o 75 (.pick (.t 72) (.t 74) (.k (.bool false)))] (.cond (.t 75) (sQ [oM 76 0,oM 77 1,oM 78 2,oM 79 4,o 80 (.call N.bk [.t 76,.t 77,.t 78,.t 79])] (.cond (.t 80) (.ret) (.skip))) (.skip))) dq
def du:SC:=sQ [oM 48 0,oM 49 1,oM 50 2,oM 51 4,o 52 (.call N.bi [.t 48,.t 49,.t 50,.t 51]),oM 47 52,o 53 (.ext (.t 47) 0),o 54 (.ext (.t 47) 1),oM 13 53,oM 14 54] (.seq (sQ [oM 55 14,o 56 (.bin .eql (.t 55) (qI 2))] (.cond (.t 56) (sQ [oM 57 0,oM 58 1,oM 59 2,oM 60 4,o 61 (.call N.bu [.t 57,.t 58,.t 59,.t 60])] (sQ [oM 62 2,o 63 (.bin .sub (.t 62) (qI 1)),oM 64 13,oM 65 1,o 66 (.bin .sub (.t 64) (.t 65)),o 67 (.bin .sub (.t 63) (.t 66)),oM 13 67] (.ops [oK 14 1]))) (.skip))) dt)
def bA:SC:=.blk 1 (sQ [oM 21 2,oM 22 1,o 23 (.bin .sub (.t 21) (.t 22)),oM 12 23] (.seq (sQ [oM 24 12,o 25 (.bin .leq (.t 24) (qI 12))] (.cond (.t 25) (sQ [oM 26 0,oM 27 1,oM 28 2,oM 29 4,o 30 (.call N.a_ [.t 26,.t 27,.t 28,.t 29])] (.ret)) (.skip))) (.seq (sQ [oM 31 3,o 32 (.bin .eql (.t 31) (qI 0))] (.cond (.t 32) (sQ [oM 33 0,oM 34 1,oM 35 2,oM 36 4,o 37 (.call N.bj [.t 33,.t 34,.t 35,.t 36])] (.ret)) (.skip))) (.seq (sQ [oM 38 10,o 39 (.not (.t 38))] (.cond (.t 39) (sQ [oM 40 0,oM 41 1,oM 42 2,oM 43 4,o 44 (.call N.bh [.t 40,.t 41,.t 42,.t 43])] (.ops [oM 45 3,o 46 (.bin .sub (.t 45) (qI 1)),oM 3 46])) (.skip))) du))))
def aY:SF:=⟨148,[],sQ [o 10 (.mv (.k (.bool true)))] (sQ [o 11 (.mv (.k (.bool true)))] (.blk 0 (.loop bA)))⟩
def qG:SC:=sQ [o 3 (.mkf N.ae [] [.t 1]),oM 2 3] (.ret)
def pX:SF:=⟨4,[.tm 2],sQ [o 1 (.box (.t 0)),o 2 (.mv (.k (.nilf)))] qG⟩
def aE:SC:=.seq (.seq (.feet [0,0,3,7,15,15,15,111,239,15,15,1039,3599,7695,16383,32767,65535] [oM 18 9,oM 19 1,o 20 (.bin .gtr (.t 18) (.t 19)),oM 21 20,og 22 21 true (.mv (.t 3)),og 23 21 true (.mv (.t 0)),og 24 21 true (.mv (.t 9)),og 25 21 true (.ixs 2 (.t 23) (.t 24)),og 26 21 true (.load true 2 (.t 25)),og 27 21 true (.mv (.t 0)),og 28 21 true (.mv (.t 9)),og 29 21 true (.bin .sub (.t 28) (qI 1)),og 30 21 true (.ixs 2 (.t 27) (.t 29)),og 31 21 true (.load true 2 (.t 30)),og 32 21 true (.dyn (.t 22) [.t 26,.t 31]),og 33 21 true (.bin .lss (.t 32) (qI 0)),o 34 (.pick (.t 21) (.t 33) (.k (.bool false)))]) (.cond (.t 34) (.skip) (.exit 2))) (.seq (.blk 3 (.feet [0,0,0,0,8,0,0,64,224,480,0,0,3072,7168,16355,32739,65535,131071] [oM 37 0,oM 38 9,oM 39 0,oM 40 9,o 41 (.bin .sub (.t 40) (qI 1)),oM 42 0,oM 43 9,o 44 (.bin .sub (.t 43) (qI 1)),o 45 (.ixs 2 (.t 42) (.t 44)),o 46 (.load true 2 (.t 45)),oM 47 0,oM 48 9,o 49 (.ixs 2 (.t 47) (.t 48)),o 50 (.load true 2 (.t 49)),o 51 (.ixs 2 (.t 37) (.t 38)),oz (.store 2 (.t 51) (.t 46)),o 52 (.ixs 2 (.t 39) (.t 41)),oz (.store 2 (.t 52) (.t 50))])) (.ops [oM 35 9,o 36 (.bin .sub (.t 35) (qI 1)),oM 9 36]))
def bf:SC:=.ops [oM 15 8,oA 16 15,oM 8 16]
def be:SC:=.seq (sQ [oM 12 8,oM 13 2,o 14 (.bin .lss (.t 12) (.t 13))] (.cond (.t 14) (.skip) (.exit 0))) (.seq (.blk 1 (sQ [oM 17 8,oM 9 17] (.blk 2 (.loop aE)))) bf)
def aT:SF:=⟨53,[],sQ [oM 10 1,oA 11 10,oM 8 11] (.blk 0 (.loop be))⟩
def mY:SC:=sQ [o 9 (.bin .lss (.t 8) (.t 7))] (.seq (.cond (.t 9) (.skip) (.exit 0)) (.seq (.blk 1 (sQ [oM 10 8,oX 11 6 8,oL 12 11,oM 3 10,oM 4 12] (sQ [oM 13 0,oM 14 3,oM 15 4,o 16 (.dyn (.t 13) [.t 14,.t 15]),o 17 (.not (.t 16))] (.cond (.t 17) (.ret) (.skip))))) (.ops [oA 18 8,oM 8 18])))
def eA:SF:=⟨19,[],sQ [oF 5 2 1,oL 6 5,oN 7 6,oK 8 0] (.blk 0 (.loop mY))⟩
theorem kZ:nFn C0 N.bc=some cY:=by kernel_rfl
theorem pW:nFn C0 N.aA=some gq:=by kernel_rfl
theorem nN (d:Nat)(xs:List AV)(g:G):ay C0 d N.aA xs g=am (I C0) d g N.aA xs:=by kernel_rfl
theorem sZ:nFn C0 N.aX=some jI:=by kernel_rfl
theorem qB (d:Nat)(xs:List AV)(g:G):ay C0 d N.aX xs g=am (I C0) d g N.aX xs:=by kernel_rfl
theorem u_:nFn C0 N.aN=some mz:=by kernel_rfl
theorem sO (d:Nat)(xs:List AV)(g:G):ay C0 d N.aN xs g=am (I C0) d g N.aN xs:=by kernel_rfl
theorem rM:nFn C0 N.ac=some iP:=by kernel_rfl
theorem pR (d:Nat)(xs:List AV)(g:G):ay C0 d N.ac xs g=am (I C0) d g N.ac xs:=by kernel_rfl
theorem pV:nFn C0 N.ap=some gg:=by kernel_rfl
theorem nM (d:Nat)(xs:List AV)(g:G):ay C0 d N.ap xs g=am (I C0) d g N.ap xs:=by kernel_rfl
theorem tZ:nFn C0 N.aG=some lA:=by kernel_rfl
theorem rH (d:Nat)(xs:List AV)(g:G):ay C0 d N.aG xs g=am (I C0) d g N.aG xs:=by kernel_rfl
theorem sX:nFn C0 N.aE=some jG:=by kernel_rfl
theorem qz (d:Nat)(xs:List AV)(g:G):ay C0 d N.aE xs g=am (I C0) d g N.aE xs:=by kernel_rfl
theorem qE:nFn C0 N.aK=some gU:=by kernel_rfl
theorem px (d:Nat)(xs:List AV)(g:G):ay C0 d N.aK xs g=am (I C0) d g N.aK xs:=by kernel_rfl
theorem tY:nFn C0 N.an=some lz:=by kernel_rfl
theorem rG (d:Nat)(xs:List AV)(g:G):ay C0 d N.an xs g=am (I C0) d g N.an xs:=by kernel_rfl
theorem nT:nFn C0 N.aD=some eS:=by kernel_rfl
theorem mr (d:Nat)(xs:List AV)(g:G):ay C0 d N.aD xs g=am (I C0) d g N.aD xs:=by kernel_rfl
theorem vp:nFn C0 N.aH=some mE:=by kernel_rfl
theorem sT (d:Nat)(xs:List AV)(g:G):ay C0 d N.aH xs g=am (I C0) d g N.aH xs:=by kernel_rfl
theorem vo:nFn C0 N.aY=some mD:=by kernel_rfl
theorem sS (d:Nat)(xs:List AV)(g:G):ay C0 d N.aY xs g=am (I C0) d g N.aY xs:=by kernel_rfl
theorem jv:nFn C0 N.ak=some cD:=by kernel_rfl
theorem iW (t:T)(g:G)(xs:List Od):SO.foot C0 t g (.call N.ak xs)=af ((iA t xs).flatMap (aH g.h aF)):=by kernel_rfl
theorem iI (d:Nat)(xs:List AV)(g:G):ay C0 d N.ak xs g=am (I C0) d g N.ak xs:=by kernel_rfl
theorem vg:nFn C0 N.am=some mC:=by kernel_rfl
theorem sR (d:Nat)(xs:List AV)(g:G):ay C0 d N.am xs g=am (I C0) d g N.am xs:=by kernel_rfl
theorem nS:nFn C0 N.aB=some eR:=by kernel_rfl
theorem mq (d:Nat)(xs:List AV)(g:G):ay C0 d N.aB xs g=am (I C0) d g N.aB xs:=by kernel_rfl
theorem xn:nFn C0 N.ah=some nZ:=by kernel_rfl
theorem t_ (t:T)(g:G)(xs:List Od):SO.foot C0 t g (.call N.ah xs)=af ((iA t xs).flatMap (aH g.h aF)):=by kernel_rfl
theorem tM (d:Nat)(xs:List AV)(g:G):ay C0 d N.ah xs g=am (I C0) d g N.ah xs:=by kernel_rfl
theorem rL:nFn C0 N.ay=some iO:=by kernel_rfl
theorem qd (t:T)(g:G)(xs:List Od):SO.foot C0 t g (.call N.ay xs)=af ((iA t xs).flatMap (aH g.h aF)):=by kernel_rfl
theorem pQ (d:Nat)(xs:List AV)(g:G):ay C0 d N.ay xs g=am (I C0) d g N.ay xs:=by kernel_rfl
theorem xl:nFn C0 N.aO=some nW:=by kernel_rfl
theorem tL (d:Nat)(xs:List AV)(g:G):ay C0 d N.aO xs g=am (I C0) d g N.aO xs:=by kernel_rfl
theorem jx:nFn C0 N.aI=some cE:=by kernel_rfl
theorem iJ (d:Nat)(xs:List AV)(g:G):ay C0 d N.aI xs g=am (I C0) d g N.aI xs:=by kernel_rfl
theorem t7:nFn C0 N.aZ=some ia:=by kernel_rfl
theorem rI (d:Nat)(xs:List AV)(g:G):ay C0 d N.aZ xs g=am (I C0) d g N.aZ xs:=by kernel_rfl
theorem tW:nFn C0 N.aP=some k_:=by kernel_rfl
theorem rE (d:Nat)(xs:List AV)(g:G):ay C0 d N.aP xs g=am (I C0) d g N.aP xs:=by kernel_rfl
theorem nQ:nFn C0 N.aM=some cU:=by kernel_rfl
theorem mm (d:Nat)(xs:List AV)(g:G):ay C0 d N.aM xs g=am (I C0) d g N.aM xs:=by kernel_rfl
theorem lN:nFn C0 N.aq=some di:=by kernel_rfl
theorem j5 (d:Nat)(xs:List AV)(g:G):ay C0 d N.aq xs g=orF ((I C0).call d N.aq xs g):=by kernel_rfl
theorem py:nFn C0 N.aL=some fD:=by kernel_rfl
theorem pz:nFn C0 N.be=some fE:=by kernel_rfl
theorem sW:nFn C0 N.aT=some jA:=by kernel_rfl
theorem qy (d:Nat)(xs:List AV)(g:G):ay C0 d N.aT xs g=am (I C0) d g N.aT xs:=by kernel_rfl
theorem rK:nFn C0 N.aU=some iN:=by kernel_rfl
theorem pP (d:Nat)(xs:List AV)(g:G):ay C0 d N.aU xs g=am (I C0) d g N.aU xs:=by kernel_rfl
theorem pA:nFn C0 N.aC=some fJ:=by kernel_rfl
theorem nB (d:Nat)(xs:List AV)(g:G):ay C0 d N.aC xs g=am (I C0) d g N.aC xs:=by kernel_rfl
theorem yI:nFn C0 N.af=some p_:=by kernel_rfl
theorem uX (d:Nat)(xs:List AV)(g:G):ay C0 d N.af xs g=am (I C0) d g N.af xs:=by kernel_rfl
theorem sY:nFn C0 N.aF=some jH:=by kernel_rfl
theorem qA (d:Nat)(xs:List AV)(g:G):ay C0 d N.aF xs g=am (I C0) d g N.aF xs:=by kernel_rfl
theorem nR:nFn C0 N.aS=some eQ:=by kernel_rfl
theorem mo (d:Nat)(xs:List AV)(g:G):ay C0 d N.aS xs g=am (I C0) d g N.aS xs:=by kernel_rfl
theorem yH:nFn C0 N.aR=some pY:=by kernel_rfl
theorem uW (d:Nat)(xs:List AV)(g:G):ay C0 d N.aR xs g=am (I C0) d g N.aR xs:=by kernel_rfl
theorem tX:nFn C0 N.aV=some lw:=by kernel_rfl
theorem rF (d:Nat)(xs:List AV)(g:G):ay C0 d N.aV xs g=am (I C0) d g N.aV xs:=by kernel_rfl
theorem yF:nFn C0 N.aw=some jz:=by kernel_rfl
theorem uU (d:Nat)(xs:List AV)(g:G):ay C0 d N.aw xs g=am (I C0) d g N.aw xs:=by kernel_rfl
theorem lO:nFn C0 N.a7=some dm:=by kernel_rfl
theorem j6 (d:Nat)(xs:List AV)(g:G):ay C0 d N.a7 xs g=am (I C0) d g N.a7 xs:=by kernel_rfl
theorem bZ:nFn C0 N.a9=some aO:=by kernel_rfl
theorem j8:nFn C0 N.bf=some cP:=by kernel_rfl
theorem yJ:nFn C0 N.aW=some qa:=by kernel_rfl
theorem uY (d:Nat)(xs:List AV)(g:G):ay C0 d N.aW xs g=am (I C0) d g N.aW xs:=by kernel_rfl
theorem nC:nFn C0 N.au=some dS:=by kernel_rfl
theorem lK (d:Nat)(xs:List AV)(g:G):ay C0 d N.au xs g=am (I C0) d g N.au xs:=by kernel_rfl
theorem ve:nFn C0 N.aQ=some mA:=by kernel_rfl
theorem sP (d:Nat)(xs:List AV)(g:G):ay C0 d N.aQ xs g=am (I C0) d g N.aQ xs:=by kernel_rfl
theorem dG:nFn C0 N.aJ=some aY:=by kernel_rfl
theorem yG:nFn C0 N.ax=some pX:=by kernel_rfl
theorem uV (d:Nat)(xs:List AV)(g:G):ay C0 d N.ax xs g=am (I C0) d g N.ax xs:=by kernel_rfl
theorem cO:nFn C0 N.a_=some aT:=by kernel_rfl
theorem cw (d:Nat)(xs:List AV)(g:G):ay C0 d N.a_ xs g=orF ((I C0).call d N.a_ xs g):=by kernel_rfl
theorem vd:nFn C0 N.ae=some eA:=by kernel_rfl
theorem mV {α:Type}{f:Nat->α->Nat->α->Bool}{i:Nat}{x:α}:∀{l:List α} {j:Nat},(∀b y,l[b]?=some y->f i x (j+b) y=true)->eo f i x j l=true
 | [],_,_=>rfl
 | y::r,j,h=>by simp only[eo,Bool.and_eq_true];refine ⟨by simpa using h 0 y rfl,mV λb z hb=>?_⟩;have:=h (b+1) z (by simpa using hb);rwa [show j+(b+1)=j+1+b by omega] at this
theorem sg {α:Type}{f:Nat->α->Nat->α->Bool}:∀{l:List α} {i:Nat},(∀a b x y,a<b->l[a]?=some x->l[b]?=some y->f (i+a) x (i+b) y=true)->ii f i l=true
 | [],_,_=>rfl
 | x::r,i,h=>by
  simp only[ii,Bool.and_eq_true];refine ⟨mV λb y hb=>?_,sg λa b x' y hab ha hb=>?_⟩
  ·have:=h 0 (b+1) x y (by omega) rfl (by simpa using hb);rwa [Nat.add_zero,show i+(b+1)=i+1+b by omega] at this
  ·have:=h (a+1) (b+1) x' y (by omega) (by simpa using ha) (by simpa using hb);rwa [show i+(a+1)=i+1+a by omega,show i+(b+1)=i+1+b by omega] at this
theorem sJ {pm:List Nat}:∀{l:List Foot} {i:Nat},(∀f∈l,f.lk.sr=[])->oI pm i l=true
 | [],_,_=>rfl
 | x::r,i,h=>by simp only[oI,h x (by simp)];exact sJ λf hf=>h f (by simp[hf])
def FE (pm:List Nat)(ws:List Bool)(L:List (Nat×Nat))(i j:Nat):Bool:=(pm.getD j 0).testBit i || (!(ws.getD i false)&&!(ws.getD j false)) || L.contains (i,j)
def He (pm:List Nat)(ws:List Bool)(L:List (Nat×Nat)):Bool:=(List.range ws.length).all λj=>(List.range j).all λi=>FE pm ws L i j
theorem aC {pm:List Nat}{fs:List Foot}(ws:List Bool)(L:List (Nat×Nat))(hw:All2 (λ(f:Foot) (w:Bool)=>f.lk.sr=[]/\(w=false->f.wr=[])) fs ws)(hd:He pm ws L=true)
  (hL:∀p∈L,∀x y,fs[p.1]?=some x->fs[p.2]?=some y->cQ x y=true):mF pm fs=true:=by
 unfold mF;rw[aa,if_pos]
 ·exact sJ λf hf=>by obtain ⟨i,hi,rfl⟩:=List.mem_iff_getElem.1 hf;obtain ⟨w,-,h⟩:=hw.get (List.getElem?_eq_getElem hi);exact h.1
 ·refine sg λa b x y hab ha hb=>?_;simp only[Nat.zero_add];obtain ⟨wa,hwa,ka⟩:=hw.get ha;obtain ⟨wb,hwb,kb⟩:=hw.get hb;have hbl:=(List.getElem?_eq_some_iff.1 hwb).1;have:=List.all_eq_true.1 (List.all_eq_true.1 hd b (List.mem_range.2 hbl)) a (List.mem_range.2 hab);simp only[FE,Bool.or_eq_true] at this;rcases this with (h | h) | h
  ·rw[h,Bool.true_or]
  ·simp only[List.getD_eq_getElem?_getD,hwa,hwb,Option.getD_some,Bool.and_eq_true,Bool.not_eq_true'] at h;have ex:=ka.2 h.1;have ey:=kb.2 h.2;simp only[cQ,jL,g9,ex,ey,Bool.and_self,Bool.or_true]
  ·rw[hL (a,b) (List.contains_iff_mem.1 h) x y ha hb,Bool.or_true]
structure Mech where
 card:Int
 frm:List Int
 noise:List Int
 out:List Int
structure Causal where
 grain:Int
 roots:List (List Int)
 nodes:List Mech
structure Node where
 card:Int
 parents:List Int
 rows:List (List Int)
structure Net where
 grain:Int
 nodes:List Node
structure Factor where
 vars:List Int
 cards:List Int
 w:List Int
instance : Rp Mech:=Rp.via λm:Mech=>(m.card,m.frm,m.noise,m.out)
instance : Rp Causal:=Rp.via λm:Causal=>(m.grain,m.roots,m.nodes)
instance : Rp Node:=Rp.via λm:Node=>(m.card,m.parents,m.rows)
instance : Rp Net:=Rp.via λm:Net=>(m.grain,m.nodes)
instance : Rp Factor:=Rp.via λm:Factor=>(m.vars,m.cards,m.w)
section
variable {P:Nat->Prop}{k:Nat}{h:H}{cs:List AV}
theorem dy {m:Node}:Rp.rp P k h m cs↔∃a b,cs=[.int .i64 m.card,a,b]/\SlR P k h m.parents a/\SlR P k h m.rows b:=by
 constructor
 ·rintro ⟨c1,c2,rfl,h1,d1,d2,rfl,⟨a,rfl,h2⟩,⟨b,rfl,h3⟩⟩;rw[bj.1 h1];exact ⟨a,b,rfl,h2,h3⟩
 ·rintro ⟨a,b,rfl,h2,h3⟩;exact ⟨[.int .i64 m.card],[a,b],rfl,bj.2 rfl,[a],[b],rfl,⟨a,rfl,h2⟩,⟨b,rfl,h3⟩⟩
theorem eU {m:Net}:Rp.rp P k h m cs↔∃a,cs=[.int .i64 m.grain,a]/\SlR P k h m.nodes a:=by
 constructor
 ·rintro ⟨c1,c2,rfl,h1,⟨a,rfl,h2⟩⟩;rw[bj.1 h1];exact ⟨a,rfl,h2⟩
 ·rintro ⟨a,rfl,h2⟩;exact ⟨[.int .i64 m.grain],[a],rfl,bj.2 rfl,⟨a,rfl,h2⟩⟩
end
theorem SlR.len {α:Type} [Rp α]{P:Nat->Prop}{k:Nat}{h:H}{l:List α}{v:AV}(r:SlR P k h l v)(g:G):d8 .slice v g=.val (.int .i64 (l.length:Int)):=by obtain ⟨rows,h1,h2⟩:=r.rows;rw[dC h1,h2.len]
theorem SlR.tree {α:Type} [Rp α]{k k':Nat}{h h':H}{l:List α}{v:AV}(r:SlR NoP k h l v)(hk:k<=k'):SlR NoP k' h' l v:=by obtain ⟨w,hw,q⟩:=Rp.tree (P:=NoP) (k':=k') (h':=h') (show Rp.rp NoP k h l [v] from ⟨v,rfl,r⟩) hk;injection hw with hw;subst hw;exact q
theorem dF {α:Type} [Rp α]{P:Nat->Prop}{k:Nat}{h:H}{l:List α}{v:AV}(r:SlR P k h l v)(d:Nat)(hd:Rp.dp (List α)<=20:=by decide) :
  ∃v',Hx.snap h d aF v=some v'/\∀h',SlR NoP (max k d) h' l v':=by
 obtain ⟨v',e,w,hw,q⟩:=nL (bL l hd) (by decide) d (show One l P k h v from ⟨v,rfl,r⟩);injection hw with hw;subst hw;exact ⟨v',e,λh'=>q.tree (Nat.le_refl _)⟩
theorem SlR.all {α:Type} [Rp α]{k:Nat}{h:H}{l:List α}{v:AV}(r:SlR NoP k h l v) :
  ∃rows:List (List AV),(∀h',ak h' (Rp.sz α) v=some rows)/\rows.length=l.length/\(∀(i:Nat) (x:α),l[i]?=some x->∃row,rows[i]?=some row/\Rp.rp NoP k .nil x row)/\(0<l.length->jU v=true):=by
 have r0:=(r.tree (h':=.nil) (Nat.le_refl _));obtain ⟨rows,h1,h2⟩:=r0.rows;refine ⟨rows,λh'=>?_,h2.len.symm,λi x hi=>h2.get hi,λhl=>q9 h1 (i:=0) (by rw[<-h2.len];exact hl)⟩;rw[<-h1];exact sF λid ep off len lim e=>by subst e;exact r.2.1.elim
abbrev UT (k:Nat)(l:List Nat)(r:AV):Prop:=One l NoP k .nil r
theorem UT.sl {k:Nat}{l:List Nat}{r:AV}(h:UT k l r)(h':H):SlR NoP k h' l r:=by obtain ⟨w,hw,q⟩:=h;injection hw with hw;subst hw;exact q.tree (Nat.le_refl _)
theorem mi {P:Nat->Prop}{k:Nat}{h:H}{l:List Nat}{v:AV}(r:SlR P k h l v):∀x∈l,x<18446744073709551616:=by obtain ⟨rows,h1,h2⟩:=r.rows;intro x hx;obtain ⟨i,hi,e⟩:=List.mem_iff_getElem.1 hx;obtain ⟨row,h3,h4⟩:=h2.get (i:=i) (a:=x) (by rw[List.getElem?_eq_getElem hi,e]);exact (rR.1 h4).2
theorem Own.nats {g:G}{b:Nat}{v:AV}{l:List Nat}{k:Nat}(h:Own g b v 1 (l.map cu))(hl:l.length<9223372036854775808)(hb:∀x∈l,x<18446744073709551616):One l (λ_=>True) k g.h v:=by
 refine ⟨v,rfl,Own.sl (α:=Nat) h hl ?_ λ_ _=>trivial⟩;clear h hl
 induction l with
 | nil=>trivial
 | cons a l ih=>exact ⟨rR.2 ⟨rfl,hb a (by simp)⟩,ih λx hx=>hb x (by simp[hx])⟩
theorem nI (p:Nat->Bool)(j:Nat):(List.range (j+1)).all p=((List.range j).all p&&p j):=by rw[List.range_succ,List.all_append];simp
theorem mW {p:Nat->Bool}{j n:Nat}(h:j<n)(hp:p j=false):(List.range n).all p=false:=by rw[List.all_eq_false];exact ⟨j,List.mem_range.2 h,by rw[hp];decide⟩
end
end Hx
end
section
namespace Hx
open Go
noncomputable section
theorem vO {C:Cfg}{nt d:Nat}{rd:Option Nat}{c:Code}{t:T}{df:List ADf}{g:G}{Q:QT}(h:wp C d rd (ec C nt c) Q t df g):((I C).code nt d rd c t df g).sat Q:=by rw[zZ];exact Ie _ _ _ _ _ h
end
end Hx
end
