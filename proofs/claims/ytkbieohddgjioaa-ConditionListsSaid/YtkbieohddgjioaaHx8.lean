/- A part of the proof: an interpreter over abstract values, shown right against the model, and what the functions of the chapter compute on it. -/
import Derived.Test.YtkbieohddgjioaaRows
import Derived.KernelRfl
import Derived.Test.YtkbieohddgjioaaHx7
set_option linter.unusedVariables false
set_option linter.unusedSimpArgs false
set_option linter.unnecessarySimpa false
section
namespace Go.Proofs.Ytkbieohddgjioaa.Gen
open Hx
noncomputable def cfg0:Cfg:={ P:=Try.prog,iso:=λf=>Nat.testBit 1248737599929224379307642159617802239 f,ext:=λ_=>none,glob:=λ_=>none }
theorem cfg0Ok:CfgOk cfg0:=CfgOk.plain (by kernel_rfl) (by kernel_rfl)
noncomputable def cfgA:Cfg:=cfg0.add 69 (zW cfg0 1000 69)
theorem cfgAOk:CfgOk cfgA:=cfg0Ok.add (yw cfg0Ok)
noncomputable def cfg:Cfg:=cfgA.add 27 (zW cfgA 1000 27)
theorem cfgOk:CfgOk cfg:=cfgAOk.add (yw cfgAOk)
theorem wakes_run:am (sem cfg 20000) 1 G.empty 7 []=.val (.bool true):=by kernel_rfl
noncomputable def cfg1:Cfg:=cfg0.add 7 (p6 (.bool true))
theorem cfg1Ok:CfgOk cfg1:=cfg0Ok.add (ExtOk.cfg (C:=cfg) (C':=cfg0) rfl rfl (zF cfgOk wakes_run))
end Go.Proofs.Ytkbieohddgjioaa.Gen
end
section
namespace Hx
open Go
set_option maxRecDepth 100000
noncomputable section
def C0:Cfg:=Go.Proofs.Ytkbieohddgjioaa.Gen.cfg1
abbrev N.ac:Nat:=12
abbrev N.ay:Nat:=15
abbrev N.aA:Nat:=41
abbrev N.aR:Nat:=42
abbrev N.aB:Nat:=39
abbrev N.am:Nat:=40
abbrev N.aS:Nat:=67
abbrev N.aQ:Nat:=4
abbrev N.ah:Nat:=20
abbrev N.aT:Nat:=7
abbrev N.aa:Nat:=80
abbrev N.aC:Nat:=35
abbrev N.aD:Nat:=38
abbrev N.an:Nat:=77
abbrev N.ap:Nat:=64
abbrev N.aq:Nat:=84
abbrev N.ae:Nat:=96
abbrev N.aE:Nat:=78
abbrev N.aF:Nat:=62
abbrev N.aG:Nat:=61
abbrev N.ak:Nat:=30
abbrev N.au:Nat:=31
abbrev N.aH:Nat:=63
abbrev N.aI:Nat:=8
abbrev N.aJ:Nat:=32
abbrev N.af:Nat:=33
abbrev N.aK:Nat:=14
abbrev N.aL:Nat:=11
abbrev N.aM:Nat:=9
abbrev N.aw:Nat:=36
abbrev N.aN:Nat:=65
abbrev N.aO:Nat:=66
abbrev N.aU:Nat:=87
abbrev N.aV:Nat:=88
abbrev N.aW:Nat:=86
abbrev N.aP:Nat:=85
abbrev N.aX:Nat:=90
abbrev N.aY:Nat:=92
abbrev N.aZ:Nat:=91
abbrev N.ax:Nat:=79
abbrev N.a7:Nat:=89
def bP:SC:=sQ [o 56 (.bin .lss (.t 55) (.t 54))] (.seq (.cond (.t 56) (.skip) (.exit 0)) (.seq (.blk 1 (sQ [oM 57 55,oM 12 57] (.seq (.quiet [oM 58 10,oM 59 12,o 60 (.ixs 3 (.t 58) (.t 59)),o 61 (.load true 3 (.t 60)),oM 62 12,o 63 (.call N.ah [.t 62]),o 64 (.eq true (.flat [.int .i64,.int .i64,.int .i64]) (.t 61) (.t 63))]) (.cond (.t 64) (sQ [o 8 (.mv (.k (.bool false)))] (.ret)) (.skip))))) (.ops [oA 65 55,oM 55 65])))
def dN:SC:=.ops [oA 149 86,oM 86 149]
def bQ:SC:=sQ [o 87 (.bin .lss (.t 86) (.t 85))] (.seq (.cond (.t 87) (.skip) (.exit 2)) (.seq (.blk 3 (sQ [o 88 (.ixs 3 (.t 84) (.t 86)),o 89 (.load true 3 (.t 88)),o 17 (.alloc [.int .i64 0,.int .i64 0,.int .i64 0]),oz (.store 3 (.t 17) (.t 89))] (.blk 4 (sQ [oF 105 0 17,oL 106 105,o 107 (.bin .geq (.t 106) (qI 0)),oM 108 107,og 109 108 true (.fad 0 (.t 17)),og 110 108 true (.load false 1 (.t 109)),og 111 108 true (.fad 1 (.t 9)),og 112 108 true (.load false 1 (.t 111)),og 113 108 true (.len .slice (.t 112)),og 114 108 true (.bin .lss (.t 110) (.t 113)),o 115 (.pick (.t 108) (.t 114) (.k (.bool false))),oM 104 115] (.cond (.t 104) (.ops [oM 116 14,oF 117 0 17,oL 118 117,o 119 (.bin .shl (.k (.int .u64 1)) (.t 118)),o 120 (.bin .or (.t 116) (.t 119)),oM 14 120]) (sQ [oF 122 0 17,oL 123 122,o 124 (.bin .neq (.t 123) (qI (-1))),oM 125 124,og 126 125 false (.fad 1 (.t 17)),og 127 125 false (.load false 1 (.t 126)),og 128 125 false (.bin .lss (.t 127) (qI 0)),o 129 (.pick (.t 125) (.k (.bool true)) (.t 128)),oM 130 129,og 131 130 false (.fad 2 (.t 17)),og 132 130 false (.load false 1 (.t 131)),og 133 130 false (.bin .lss (.t 132) (qI 0)),o 134 (.pick (.t 130) (.k (.bool true)) (.t 133)),oM 135 134,og 136 135 false (.fad 1 (.t 17)),og 137 135 false (.load false 1 (.t 136)),og 138 135 false (.mv (.t 13)),og 139 135 false (.len .slice (.t 138)),og 140 135 false (.bin .geq (.t 137) (.t 139)),o 141 (.pick (.t 135) (.k (.bool true)) (.t 140)),oM 142 141,og 143 142 false (.fad 2 (.t 17)),og 144 142 false (.load false 1 (.t 143)),og 145 142 false (.mv (.t 13)),og 146 142 false (.len .slice (.t 145)),og 147 142 false (.bin .geq (.t 144) (.t 146)),o 148 (.pick (.t 142) (.k (.bool true)) (.t 147)),oM 121 148] (.cond (.t 121) (sQ [o 8 (.mv (.k (.bool false)))] (.ret)) (sQ [oM 90 15,oF 91 1 17,oL 92 91,oX 93 90 92,oL 94 93,oA 95 94,oX 96 90 92,oz (.store 1 (.t 96) (.t 95))] (.ops [oM 97 15,oF 98 2 17,oL 99 98,oX 100 97 99,oL 101 100,oA 102 101,oX 103 97 99,oz (.store 1 (.t 103) (.t 102))]))))))))) dN))
def bS:SC:=sQ [o 153 (.bin .lss (.t 152) (.t 151))] (.seq (.cond (.t 153) (.skip) (.exit 5)) (.seq (.blk 6 (sQ [oM 154 152,oX 155 150 152,oL 156 155,oM 18 154,oM 19 156] (sQ [oM 157 18,oM 158 15,oN 159 158,o 160 (.bin .sub (.t 159) (qI 1)),o 161 (.bin .lss (.t 157) (.t 160)),oM 162 161,og 163 162 true (.mv (.t 19)),og 164 162 true (.bin .neq (.t 163) (qI 1)),o 165 (.pick (.t 162) (.t 164) (.k (.bool false))),oM 166 165,og 167 166 false (.mv (.t 18)),og 168 166 false (.mv (.t 15)),og 169 166 false (.len .slice (.t 168)),og 170 166 false (.bin .sub (.t 169) (qI 1)),og 171 166 false (.bin .eql (.t 167) (.t 170)),og 172 166 false (.mv (.t 171)),og 173 172 true (.mv (.t 19)),og 174 172 true (.bin .neq (.t 173) (qI 0)),og 175 166 false (.pick (.t 172) (.t 174) (.k (.bool false))),o 176 (.pick (.t 166) (.k (.bool true)) (.t 175))] (.cond (.t 176) (sQ [o 8 (.mv (.k (.bool false)))] (.ret)) (.skip))))) (.ops [oA 177 152,oM 152 177])))
def dO:SC:=sQ [oM 178 14,oF 179 1 9,oL 180 179,oN 181 180,o 182 (.bin .shl (.k (.int .u64 1)) (.t 181)),o 183 (.bin .sub (.t 182) (.k (.int .u64 1))),o 184 (.bin .eql (.t 178) (.t 183)),oM 8 184] (.ret)
def dP:SC:=.seq (sQ [oM 150 15,oN 151 150,oK 152 0] (.blk 5 (.loop bS))) dO
def bT:SC:=.seq (.quiet [o 66 (.load true 3 (.t 7)),oF 67 1 9,oL 68 67,oN 69 68,o 70 (.load true 8 (.t 6)),o 71 (.call N.aM [.t 69,.t 70]),o 72 (.call N.aL [.t 66,.t 71]),oM 13 72]) (.seq (sQ [o 73 (.load true 2 (.t 9)),oM 74 13,o 75 (.call N.ac [.t 73,.t 74]),o 76 (.bin .neq (.t 75) (qI 0))] (.cond (.t 76) (sQ [o 77 (.load true 2 (.t 9)),oM 78 13,o 79 (.call N.ac [.t 77,.t 78]),o 80 (.bin .eql (.t 79) (qI 130)),oM 8 80] (.ret)) (.skip))) (sQ [o 14 (.mv (.k (.int .u64 0)))] (sQ [oM 81 13,oN 82 81,o 83 (.mks 1 8 [.int .i64 0] (.t 82) (.t 82)),oM 15 83] (.seq (sQ [oM 84 13,oN 85 84,oK 86 0] (.blk 2 (.loop bQ))) dP))))
def dY:SC:=.seq (sQ [o 20 (.call N.aT []),o 21 (.not (.t 20))] (.cond (.t 21) (sQ [o 8 (.mv (.k (.bool false)))] (.ret)) (.skip))) (sQ [o 22 (.load true 3 (.t 4)),o 23 (.call N.aI [.t 22]),o 9 (.alloc [.int .i64 0,.nils]),oz (.store 2 (.t 9) (.t 23))] (.seq (.quiet [o 25 (.load true 2 (.t 9)),oF 26 1 9,oL 27 26,oN 28 27,o 29 (.load true 8 (.t 5)),o 30 (.call N.aK [.t 28,.k (.int .i64 (-1)),.t 29]),o 31 (.call N.ay [.t 25,.t 30]),oM 24 31,o 32 (.ext (.t 24) 0),o 33 (.ext (.t 24) 1),oM 10 32,oM 11 33]) (.seq (sQ [oM 34 11,o 35 (.bin .neq (.t 34) (qI 0)),oM 36 35,og 37 36 false (.load true 2 (.t 9)),og 38 36 false (.mv (.t 10)),og 39 36 false (.call N.ac [.t 37,.t 38]),og 40 36 false (.bin .neq (.t 39) (qI 0)),o 41 (.pick (.t 36) (.k (.bool true)) (.t 40)),oM 42 41,og 43 42 false (.mv (.t 10)),og 44 42 false (.len .slice (.t 43)),og 45 42 false (.fad 1 (.t 9)),og 46 42 false (.load false 1 (.t 45)),og 47 42 false (.len .slice (.t 46)),og 48 42 false (.bin .mul (qI 2) (.t 47)),og 49 42 false (.bin .sub (.t 48) (qI 1)),og 50 42 false (.bin .neq (.t 44) (.t 49)),o 51 (.pick (.t 42) (.k (.bool true)) (.t 50))] (.cond (.t 51) (sQ [o 8 (.mv (.k (.bool false)))] (.ret)) (.skip))) (.seq (sQ [oF 52 1 9,oL 53 52,oN 54 53,oK 55 0] (.blk 0 (.loop bP))) bT))))
def cM:SF:=⟨185,[.tm 8],sQ [o 4 (.box (.t 0)),o 5 (.box (.t 1)),o 6 (.box (.t 2)),o 7 (.box (.t 3)),o 8 (.mv (.k (.bool false)))] dY⟩
def lw:SC:=sQ [oM 65 6,oM 66 9,o 67 (.bin .mul (.t 65) (.t 66)),oM 6 67] (.feet [0,1,0,0,12,28,0,127,255,511] [oF 68 1 4,oL 69 68,oM 70 5,oM 71 7,oX 72 70 71,oL 73 72,oM 74 9,o 75 (.ixs 3 (.t 69) (.t 73)),oF 76 0 75,oz (.store 1 (.t 76) (.t 74))])
def lz:SC:=sQ [oF 50 0 8,oL 51 50,o 52 (.bin .rem (.t 51) (.k (.int .u8 2))),o 53 (.conv .i64 (.t 52)),o 54 (.bin .add (qI 2) (.t 53)),oM 9 54] (.seq (sQ [oM 55 6,oM 56 9,o 57 (.bin .mul (.t 55) (.t 56)),oM 58 3,o 59 (.bin .sub (.t 58) (qI 1)),oM 60 7,o 61 (.bin .sub (.t 59) (.t 60)),o 62 (.conv .u64 (.t 61)),o 63 (.bin .shl (.t 57) (.t 62)),o 64 (.bin .gtr (.t 63) (qI 100))] (.cond (.t 64) (.ops [oK 9 2]) (.skip))) lw)
def fX:SC:=.ops [oM 38 7,oA 39 38,oM 7 39]
def dl:SC:=.seq (sQ [oM 35 7,oM 36 3,o 37 (.bin .lss (.t 35) (.t 36))] (.cond (.t 37) (.skip) (.exit 0))) (.seq (.blk 1 (sQ [o 8 (.alloc [.int .u8 0,.int .u8 0,.nils])] (.seq (sQ [oM 40 7,oF 41 1 1,oL 42 41,oN 43 42,o 44 (.bin .lss (.t 40) (.t 43))] (.cond (.t 44) (.ops [oF 45 1 1,oL 46 45,oM 47 7,o 48 (.ixs 3 (.t 46) (.t 47)),o 49 (.load true 3 (.t 48)),oz (.store 3 (.t 8) (.t 49))]) (.skip))) lz))) fX)
def fY:SC:=.ops [oM 104 14,oA 105 104,oM 14 105]
def dm:SC:=.seq (sQ [oM 101 14,oM 102 10,o 103 (.bin .lss (.t 101) (.t 102))] (.cond (.t 103) (.skip) (.exit 6))) (.seq (.blk 7 (sQ [oM 106 5,oM 107 14,oX 108 106 107,oL 109 108,oM 110 13,o 111 (.bin .eql (.t 109) (.t 110)),oM 112 111,og 113 112 true (.fad 1 (.t 11)),og 114 112 true (.load false 1 (.t 113)),og 115 112 true (.mv (.t 14)),og 116 112 true (.conv .u64 (.t 115)),og 117 112 true (.bin .shr (.t 114) (.t 116)),og 118 112 true (.bin .and (.t 117) (.k (.int .u8 1))),og 119 112 true (.bin .eql (.t 118) (.k (.int .u8 1))),o 120 (.pick (.t 112) (.t 119) (.k (.bool false))),oM 121 120,og 122 121 true (.fad 1 (.t 4)),og 123 121 true (.load false 1 (.t 122)),og 124 121 true (.mv (.t 12)),og 125 121 true (.ixs 3 (.t 123) (.t 124)),og 126 121 true (.fad 1 (.t 125)),og 127 121 true (.load false 1 (.t 126)),og 128 121 true (.len .slice (.t 127)),og 129 121 true (.bin .lss (.t 128) (qI 3)),o 130 (.pick (.t 121) (.t 129) (.k (.bool false)))] (.cond (.t 130) (.feet [0,1,0,0,8,0,56,120,248,0,512,2040,4095,8191,16383] [oF 131 1 4,oL 132 131,oM 133 12,oF 134 1 4,oL 135 134,oM 136 12,o 137 (.ixs 3 (.t 135) (.t 136)),oF 138 1 137,oL 139 138,oM 140 13,o 141 (.bsl 1 1 [.int .i64 0] [0] [.t 140]),o 142 (.app 1 8 (.t 139) (.t 141)),o 143 (.ixs 3 (.t 132) (.t 133)),oF 144 1 143,oz (.store 1 (.t 144) (.t 142))]) (.skip)))) fY)
def fZ:SC:=.ops [oM 99 13,oA 100 99,oM 13 100]
def dq:SC:=.seq (sQ [oM 96 13,oM 97 3,o 98 (.bin .lss (.t 96) (.t 97))] (.cond (.t 98) (.skip) (.exit 4))) (.seq (.blk 5 (sQ [oK 14 0] (.blk 6 (.loop dm)))) fZ)
def dt:SC:=.seq (sQ [oM 145 15,o 146 (.load true 2 (.t 4)),oM 147 12,o 148 (.call N.aJ [.t 146,.t 147]),o 149 (.call N.au [.t 148]),o 150 (.bin .lss (.t 145) (.t 149))] (.cond (.t 150) (.skip) (.exit 8))) (.seq (.blk 9 (.feet [0,1,0,0,8,0,56,120,248,0,512,0,2048,0,14336,30720,63488,0,131072,0,0,1048576,0,7340032,15728640,32505856,66060288,133693440,268434944,536870400,1073741816,2147483647,4294967295,8589934591] [oF 153 1 4,oL 154 153,oM 155 12,oF 156 1 4,oL 157 156,oM 158 12,o 159 (.ixs 3 (.t 157) (.t 158)),oF 160 2 159,oL 161 160,oF 162 0 4,oL 163 162,oF 164 1 4,oL 165 164,oM 166 12,o 167 (.ixs 3 (.t 165) (.t 166)),oF 168 0 167,oL 169 168,oF 170 2 11,oL 171 170,oM 172 15,oF 173 1 4,oL 174 173,oM 175 12,o 176 (.ixs 3 (.t 174) (.t 175)),oF 177 0 176,oL 178 177,oA 179 178,o 180 (.bin .mul (.t 172) (.t 179)),o 181 (.call N.af [.t 163,.t 169,.t 171,.t 180]),o 182 (.bsl 1 1 [.nils] [0] [.t 181]),o 183 (.app 1 24 (.t 161) (.t 182)),o 184 (.ixs 3 (.t 154) (.t 155)),oF 185 2 184,oz (.store 1 (.t 185) (.t 183))])) (.ops [oM 151 15,oA 152 151,oM 15 152]))
def f8:SC:=sQ [oK 15 0] (.blk 8 (.loop dt))
def fw:SC:=sQ [oM 92 5,oM 93 10,oX 94 92 93,oL 95 94,oM 12 95] (.seq (sQ [oK 13 0] (.blk 4 (.loop dq))) f8)
def fy:SC:=.ops [oM 80 10,oA 81 80,oM 10 81]
def c8:SC:=.seq (sQ [oM 77 10,oM 78 3,o 79 (.bin .lss (.t 77) (.t 78))] (.cond (.t 79) (.skip) (.exit 2))) (.seq (.blk 3 (sQ [o 11 (.alloc [.int .u8 0,.int .u8 0,.nils])] (.seq (sQ [oM 82 10,oF 83 1 1,oL 84 83,oN 85 84,o 86 (.bin .lss (.t 82) (.t 85))] (.cond (.t 86) (.ops [oF 87 1 1,oL 88 87,oM 89 10,o 90 (.ixs 3 (.t 88) (.t 89)),o 91 (.load true 3 (.t 90)),oz (.store 3 (.t 11) (.t 91))]) (.skip))) fw))) fy)
def fC:SC:=sQ [o 186 (.load true 2 (.t 4)),oz (.store 2 (.t 2) (.t 186))] (.ret)
def fD:SC:=.seq (sQ [oK 10 0] (.blk 2 (.loop c8))) fC
def gF:SC:=sQ [oF 16 1 1,oL 17 16,oN 18 17,o 19 (.mx (.t 18) (qI 1)),o 20 (.mn (.t 19) (qI 5)),oM 3 20] (.seq (.feet [0,1,3,7,15,0,32,127,0,511] [oF 21 0 1,oL 22 21,o 23 (.bin .rem (.t 22) (.k (.int .u8 60))),o 24 (.conv .i64 (.t 23)),o 25 (.bin .add (qI 1) (.t 24)),oM 26 3,o 27 (.mks 3 56 [.int .i64 0,.nils,.nils] (.t 26) (.t 26)),o 28 (.build [.int .i64 0,.nils] [(0,1),(1,1)] [.t 25,.t 27]),o 4 (.alloc [.int .i64 0,.nils]),oz (.store 2 (.t 4) (.t 28))]) (.seq (.feet [0,1,0,4,15,31,63] [oM 29 3,o 30 (.mks 1 1 [.int .u8 0] (.t 29) (.t 29)),oF 31 2 1,oL 32 31,o 33 (.build [.nils,.int .u16 0,.nils] [(0,1),(2,1)] [.t 30,.t 32]),o 34 (.call N.ak [.t 33]),oM 5 34]) (sQ [oK 6 1] (.seq (sQ [oK 7 0] (.blk 0 (.loop dl))) fD))))
def eZ:SF:=⟨187,[.cell true 2 2],sQ [o 1 (.box (.t 0)),o 2 (.alloc [.int .i64 0,.nils])] gF⟩
def iP:SC:=.seq (sQ [oM 13 7,oM 14 0,o 15 (.bin .lss (.t 13) (.t 14))] (.cond (.t 15) (.skip) (.exit 0))) (.seq (.blk 1 (sQ [oM 18 5,oM 19 7,o 20 (.ixa 8 1 (.t 3) (qI 7)),oL 21 20,o 22 (.conv .i64 (.t 21)),o 23 (.bin .add (.t 19) (.t 22)),oM 24 0,o 25 (.bin .rem (.t 23) (.t 24)),o 26 (.build [.int .i64 0,.int .i64 0,.int .i64 0] [(0,1),(1,1),(2,1)] [.t 25,.k (.int .i64 (-1)),.k (.int .i64 (-1))]),o 27 (.bsl 3 1 [.int .i64 0,.int .i64 0,.int .i64 0] [0] [.t 26]),o 28 (.app 3 24 (.t 18) (.t 27)),oM 5 28] (.ops [oM 29 6,oM 30 7,o 31 (.bsl 1 1 [.int .i64 0] [0] [.t 30]),o 32 (.app 1 8 (.t 29) (.t 31)),oM 6 32]))) (.ops [oM 16 7,oA 17 16,oM 7 17]))
def iS:SC:=.ops [oM 77 12,oA 78 77,oM 12 78]
def e6:SC:=.seq (sQ [oM 73 12,oM 74 6,oN 75 74,o 76 (.bin .lss (.t 73) (.t 75))] (.cond (.t 76) (.skip) (.exit 4))) (.seq (.blk 5 (sQ [oM 79 12,oM 80 9,o 81 (.bin .neq (.t 79) (.t 80)),oM 82 81,og 83 82 true (.mv (.t 12)),og 84 82 true (.mv (.t 10)),og 85 82 true (.bin .neq (.t 83) (.t 84)),o 86 (.pick (.t 82) (.t 85) (.k (.bool false)))] (.cond (.t 86) (.ops [oM 87 11,oM 88 6,oM 89 12,oX 90 88 89,oL 91 90,o 92 (.bsl 1 1 [.int .i64 0] [0] [.t 91]),o 93 (.app 1 8 (.t 87) (.t 92)),oM 11 93]) (.skip)))) iS)
def iT:SC:=.ops [oM 94 11,oM 95 5,oN 96 95,o 97 (.bin .sub (.t 96) (qI 1)),o 98 (.bsl 1 1 [.int .i64 0] [0] [.t 97]),o 99 (.app 1 8 (.t 94) (.t 98)),oM 6 99]
def iV:SC:=.ops [oM 37 8,oA 38 37,oM 8 38]
def iQ:SC:=.seq (sQ [oM 33 8,oM 34 0,o 35 (.bin .sub (.t 34) (qI 1)),o 36 (.bin .lss (.t 33) (.t 35))] (.cond (.t 36) (.skip) (.exit 2))) (.seq (.blk 3 (sQ [oM 39 8,o 40 (.ixa 8 1 (.t 3) (.t 39)),oL 41 40,o 42 (.conv .i64 (.t 41)),oM 43 6,oN 44 43,o 45 (.bin .rem (.t 42) (.t 44)),oM 9 45] (sQ [oM 46 9,oA 47 46,oM 48 8,o 49 (.ixa 8 1 (.t 3) (.t 48)),oL 50 49,o 51 (.bin .quo (.t 50) (.k (.int .u8 8))),o 52 (.conv .i64 (.t 51)),oM 53 6,oN 54 53,o 55 (.bin .sub (.t 54) (qI 1)),o 56 (.bin .rem (.t 52) (.t 55)),o 57 (.bin .add (.t 47) (.t 56)),oM 58 6,oN 59 58,o 60 (.bin .rem (.t 57) (.t 59)),oM 10 60] (.seq (.feet [0,0,0,6,14,0,0,96,224,510,1022,2047,4095] [oM 61 5,oM 62 6,oM 63 9,oX 64 62 63,oL 65 64,oM 66 6,oM 67 10,oX 68 66 67,oL 69 68,o 70 (.build [.int .i64 0,.int .i64 0,.int .i64 0] [(0,1),(1,1),(2,1)] [.k (.int .i64 (-1)),.t 65,.t 69]),o 71 (.bsl 3 1 [.int .i64 0,.int .i64 0,.int .i64 0] [0] [.t 70]),o 72 (.app 3 24 (.t 61) (.t 71)),oM 5 72]) (sQ [o 11 (.mv (.k (.nils)))] (.seq (sQ [oK 12 0] (.blk 4 (.loop e6))) iT)))))) iV)
def iW:SC:=sQ [oM 100 5,oM 4 100] (.ret)
def iX:SC:=.seq (sQ [oK 8 0] (.blk 2 (.loop iQ))) iW
def jG:SC:=sQ [o 5 (.mv (.k (.nils)))] (sQ [o 6 (.mv (.k (.nils)))] (.seq (sQ [oK 7 0] (.blk 0 (.loop iP))) iX))
def ib:SF:=⟨101,[.tm 4],sQ [o 3 (.box (.t 1)),o 4 (.mv (.k (.nils)))] jG⟩
def cN:SC:=sQ [oM 80 5,oM 4 80] (.ret)
def iO:SC:=sQ [o 5 (.mv (.k (.nils)))] (sQ [oM 8 5,oM 9 1,o 10 (.app 3 24 (.t 8) (.t 9)),oM 5 10] (.seq (sQ [oM 11 5,oN 12 11,o 13 (.bin .eql (.t 12) (qI 0))] (.cond (.t 13) (sQ [oM 14 5,oM 4 14] (.ret)) (.skip))) (sQ [oM 15 5,oF 16 1 2,oL 17 16,o 18 (.conv .i64 (.t 17)),oM 19 5,oN 20 19,o 21 (.bin .rem (.t 18) (.t 20)),o 22 (.ixs 3 (.t 15) (.t 21)),oM 6 22] (.seq (sQ [oF 23 0 2,oL 24 23,o 25 (.bin .rem (.t 24) (.k (.int .u8 6)))] (.blk 0 (sQ [o 42 (.bin .eql (.t 25) (.k (.int .u8 0))),oM 41 42] (.cond (.t 41) (.ops [oM 43 6,oF 44 2 2,oL 45 44,o 46 (.nilc (.t 43)),oF 47 0 46,oz (.store 1 (.t 47) (.t 45))]) (sQ [o 49 (.bin .eql (.t 25) (.k (.int .u8 1))),oM 48 49] (.cond (.t 48) (.ops [oM 50 6,oF 51 2 2,oL 52 51,o 53 (.nilc (.t 50)),oF 54 1 53,oz (.store 1 (.t 54) (.t 52))]) (sQ [o 56 (.bin .eql (.t 25) (.k (.int .u8 2))),oM 55 56] (.cond (.t 55) (.ops [oM 57 6,oF 58 2 2,oL 59 58,o 60 (.nilc (.t 57)),oF 61 2 60,oz (.store 1 (.t 61) (.t 59))]) (sQ [o 63 (.bin .eql (.t 25) (.k (.int .u8 3))),oM 62 63] (.cond (.t 62) (.ops [oM 64 5,oM 65 5,oN 66 65,o 67 (.bin .sub (.t 66) (qI 1)),o 68 (.slc 3 (.t 64) [] [.t 67]),oM 5 68]) (sQ [o 70 (.bin .eql (.t 25) (.k (.int .u8 4))),oM 69 70] (.cond (.t 69) (.ops [oM 71 5,oM 72 5,oN 73 72,o 74 (.bin .sub (.t 73) (qI 1)),oF 75 2 2,oL 76 75,o 77 (.build [.int .i64 0,.int .i64 0,.int .i64 0] [(0,1),(1,1),(2,1)] [.k (.int .i64 (-1)),.t 74,.t 76]),o 78 (.bsl 3 1 [.int .i64 0,.int .i64 0,.int .i64 0] [0] [.t 77]),o 79 (.app 3 24 (.t 71) (.t 78)),oM 5 79]) (sQ [oM 26 6,o 27 (.nilc (.t 26)),oF 28 1 27,oL 29 28,oM 7 29] (sQ [oM 30 6,oM 31 6,o 32 (.nilc (.t 31)),oF 33 2 32,oL 34 33,o 35 (.nilc (.t 30)),oF 36 1 35,oz (.store 1 (.t 36) (.t 34))] (.ops [oM 37 6,oM 38 7,o 39 (.nilc (.t 37)),oF 40 2 39,oz (.store 1 (.t 40) (.t 38))]))))))))))))))) cN))))
def gn:SF:=⟨81,[.tm 4],sQ [o 2 (.box (.t 0)),o 4 (.mv (.k (.nils)))] iO⟩
def lq:SC:=.ops [oA 121 32,oM 32 121]
def fU:SC:=sQ [o 33 (.bin .lss (.t 32) (.t 31))] (.seq (.cond (.t 33) (.skip) (.exit 0)) (.seq (.blk 1 (sQ [oM 34 32,o 35 (.ixs 3 (.t 30) (.t 32)),o 36 (.load true 3 (.t 35)),o 10 (.alloc [.int .i64 0,.int .i64 0,.int .i64 0]),oM 9 34,oz (.store 3 (.t 10) (.t 36))] (.blk 2 (sQ [oF 42 0 10,oL 43 42,o 44 (.bin .eql (.t 43) (qI (-1))),oM 41 44] (.cond (.t 41) (.seq (sQ [oF 45 1 10,oL 46 45,o 47 (.bin .lss (.t 46) (qI 0)),oM 48 47,og 49 48 false (.fad 1 (.t 10)),og 50 48 false (.load false 1 (.t 49)),og 51 48 false (.mv (.t 9)),og 52 48 false (.bin .geq (.t 50) (.t 51)),o 53 (.pick (.t 48) (.k (.bool true)) (.t 52)),oM 54 53,og 55 54 false (.fad 2 (.t 10)),og 56 54 false (.load false 1 (.t 55)),og 57 54 false (.bin .lss (.t 56) (qI 0)),o 58 (.pick (.t 54) (.k (.bool true)) (.t 57)),oM 59 58,og 60 59 false (.fad 2 (.t 10)),og 61 59 false (.load false 1 (.t 60)),og 62 59 false (.mv (.t 9)),og 63 59 false (.bin .geq (.t 61) (.t 62)),o 64 (.pick (.t 59) (.k (.bool true)) (.t 63)),oM 65 64,og 66 65 false (.fad 1 (.t 10)),og 67 65 false (.load false 1 (.t 66)),og 68 65 false (.fad 2 (.t 10)),og 69 65 false (.load false 1 (.t 68)),og 70 65 false (.bin .eql (.t 67) (.t 69)),o 71 (.pick (.t 65) (.k (.bool true)) (.t 70)),oM 72 71,og 73 72 false (.mv (.t 8)),og 74 72 false (.fad 1 (.t 10)),og 75 72 false (.load false 1 (.t 74)),og 76 72 false (.ixs 1 (.t 73) (.t 75)),og 77 72 false (.load false 1 (.t 76)),o 78 (.pick (.t 72) (.k (.bool true)) (.t 77)),oM 79 78,og 80 79 false (.mv (.t 8)),og 81 79 false (.fad 2 (.t 10)),og 82 79 false (.load false 1 (.t 81)),og 83 79 false (.ixs 1 (.t 80) (.t 82)),og 84 79 false (.load false 1 (.t 83)),o 85 (.pick (.t 79) (.k (.bool true)) (.t 84))] (.cond (.t 85) (sQ [oK 4 130] (.ret)) (.skip))) (.feet [0,0,2,0,0,16,7,71,255,511] [oM 86 8,oF 87 1 10,oL 88 87,oM 89 8,oF 90 2 10,oL 91 90,oX 92 86 88,oz (.store 1 (.t 92) (.k (.bool true))),oX 93 89 91,oz (.store 1 (.t 93) (.k (.bool true)))])) (sQ [oF 95 0 10,oL 96 95,o 97 (.bin .lss (.t 96) (qI 0)),oM 98 97,og 99 98 false (.fad 0 (.t 10)),og 100 98 false (.load false 1 (.t 99)),og 101 98 false (.mv (.t 6)),og 102 98 false (.bin .geq (.t 100) (.t 101)),o 103 (.pick (.t 98) (.k (.bool true)) (.t 102)),oM 104 103,og 105 104 false (.fad 1 (.t 10)),og 106 104 false (.load false 1 (.t 105)),og 107 104 false (.bin .neq (.t 106) (qI (-1))),o 108 (.pick (.t 104) (.k (.bool true)) (.t 107)),oM 109 108,og 110 109 false (.fad 2 (.t 10)),og 111 109 false (.load false 1 (.t 110)),og 112 109 false (.bin .neq (.t 111) (qI (-1))),o 113 (.pick (.t 109) (.k (.bool true)) (.t 112)),oM 114 113,og 115 114 false (.mv (.t 7)),og 116 114 false (.fad 0 (.t 10)),og 117 114 false (.load false 1 (.t 116)),og 118 114 false (.ixs 1 (.t 115) (.t 117)),og 119 114 false (.load false 1 (.t 118)),o 120 (.pick (.t 114) (.k (.bool true)) (.t 119)),oM 94 120] (.cond (.t 94) (sQ [oK 4 130] (.ret)) (.ops [oM 37 7,oF 38 0 10,oL 39 38,oX 40 37 39,oz (.store 1 (.t 40) (.k (.bool true)))])))))))) lq))
def bZ:SC:=.seq (sQ [oM 122 7,o 123 (.call N.aw [.t 122,.k (.bool false)]),oM 124 123,og 125 124 false (.mv (.t 8)),og 126 124 false (.mv (.t 1)),og 127 124 false (.len .slice (.t 126)),og 128 124 false (.bin .sub (.t 127) (qI 1)),og 129 124 false (.slc 1 (.t 125) [] [.t 128]),og 130 124 false (.call N.aw [.t 129,.k (.bool false)]),o 131 (.pick (.t 124) (.k (.bool true)) (.t 130))] (.cond (.t 131) (sQ [oK 4 130] (.ret)) (.skip))) (sQ [oK 4 0] (.ret))
def gz:SC:=.seq (sQ [o 11 (.load true 2 (.t 2)),o 12 (.call N.aC [.t 11]),oM 5 12] (sQ [oM 13 5,o 14 (.bin .neq (.t 13) (qI 0))] (.cond (.t 14) (sQ [oM 15 5,oM 4 15] (.ret)) (.skip)))) (sQ [oF 16 1 2,oL 17 16,oN 18 17,oM 6 18] (.seq (sQ [oM 19 1,oN 20 19,oM 21 6,o 22 (.bin .mul (qI 2) (.t 21)),o 23 (.bin .sub (.t 22) (qI 1)),o 24 (.bin .neq (.t 20) (.t 23))] (.cond (.t 24) (sQ [oK 4 130] (.ret)) (.skip))) (.seq (.feet [0,1,0,4,12,3,63] [oM 25 6,o 26 (.mks 1 1 [.bool false] (.t 25) (.t 25)),oM 27 1,oN 28 27,o 29 (.mks 1 1 [.bool false] (.t 28) (.t 28)),oM 7 26,oM 8 29]) (.seq (sQ [oM 30 1,oN 31 30,oK 32 0] (.blk 0 (.loop fU))) bZ))))
def eT:SF:=⟨132,[.tm 4],sQ [o 2 (.box (.t 0)),oK 4 0] gz⟩
def nD:SC:=.seq (sQ [oM 11 8,oM 12 0,o 13 (.bin .lss (.t 11) (.t 12))] (.cond (.t 13) (.skip) (.exit 0))) (.seq (.blk 1 (.seq (sQ [oM 16 8,oM 17 1,o 18 (.bin .eql (.t 16) (.t 17))] (.cond (.t 18) (.exit 1) (.skip))) (sQ [oM 19 8,o 20 (.bin .rem (.t 19) (qI 8)),o 21 (.ixa 8 1 (.t 5) (.t 20)),oL 22 21,o 23 (.conv .i64 (.t 22)),oM 24 7,oN 25 24,oA 26 25,o 27 (.bin .rem (.t 23) (.t 26)),oM 9 27] (sQ [o 10 (.mv (.k (.nils)))] (sQ [oM 28 10,oM 29 7,oM 30 9,o 31 (.slc 1 (.t 29) [] [.t 30]),o 32 (.app 1 8 (.t 28) (.t 31)),oM 33 8,o 34 (.bsl 1 1 [.int .i64 0] [0] [.t 33]),o 35 (.app 1 8 (.t 32) (.t 34)),oM 10 35] (.ops [oM 36 10,oM 37 7,oM 38 9,o 39 (.slc 1 (.t 37) [.t 38] []),o 40 (.app 1 8 (.t 36) (.t 39)),oM 7 40])))))) (.ops [oM 14 8,oA 15 14,oM 8 15]))
def iN:SC:=sQ [oM 41 7,oM 6 41] (.ret)
def jF:SC:=sQ [o 7 (.mv (.k (.nils)))] (.seq (sQ [oK 8 0] (.blk 0 (.loop nD))) iN)
def ia:SF:=⟨42,[.tm 6],sQ [o 5 (.box (.t 2)),o 6 (.mv (.k (.nils)))] jF⟩
def dT:SC:=sQ [o 32 (.bin .lss (.t 31) (.t 30))] (.seq (.cond (.t 32) (.skip) (.exit 0)) (.seq (.blk 1 (sQ [oM 33 31,oX 34 29 31,oL 35 34,oM 9 33,oM 10 35] (sQ [oM 36 8,oM 37 8,o 38 (.nilc (.t 37)),oF 39 0 38,oL 40 39,oM 41 9,o 42 (.build [.int .i64 0,.int .i64 0,.int .i64 0] [(0,1),(1,1),(2,1)] [.t 41,.k (.int .i64 (-1)),.k (.int .i64 (-1))]),o 43 (.bsl 3 1 [.int .i64 0,.int .i64 0,.int .i64 0] [0] [.t 42]),o 44 (.app 3 24 (.t 40) (.t 43)),o 45 (.nilc (.t 36)),oF 46 0 45,oz (.store 1 (.t 46) (.t 44))] (.feet [0,0,2,6,14,0,0,0,128,448,992,2016,4094,8191,16383,32767] [oM 47 8,oM 48 8,o 49 (.nilc (.t 48)),oF 50 1 49,oL 51 50,oM 52 9,oM 53 10,oM 54 9,o 55 (.bin .shl (.k (.int .u64 1)) (.t 54)),o 56 (.bin .or (.t 53) (.t 55)),o 57 (.build [.int .i64 0,.int .u64 0] [(0,1),(1,1)] [.t 52,.t 56]),o 58 (.bsl 2 1 [.int .i64 0,.int .u64 0] [0] [.t 57]),o 59 (.app 2 16 (.t 51) (.t 58)),o 60 (.nilc (.t 47)),oF 61 1 60,oz (.store 1 (.t 61) (.t 59))])))) (.ops [oA 62 31,oM 31 62])))
def dU:SC:=sQ [o 66 (.bin .lss (.t 65) (.t 64))] (.seq (.cond (.t 66) (.skip) (.exit 2)) (.seq (.blk 3 (sQ [oX 67 63 65,oL 68 67,o 12 (.alloc [.int .i64 0]),oz (.store 1 (.t 12) (.t 68))] (.ops [oM 69 8,o 70 (.mkf N.aA [] [.t 12]),o 71 (.call N.am [.t 69,.t 70])]))) (.ops [oA 72 65,oM 65 72])))
def gD:SC:=sQ [oM 73 8,o 74 (.call N.am [.t 73,.k (.clo 42 [] [])])] (sQ [oM 75 8,o 76 (.nilc (.t 75)),oF 77 0 76,oL 78 77,oM 4 78,oK 5 0] (.ret))
def gE:SC:=.seq (sQ [oM 63 1,oN 64 63,oK 65 0] (.blk 2 (.loop dU))) gD
def g_:SC:=sQ [o 14 (.load true 2 (.t 2)),o 15 (.call N.aD [.t 14]),oM 13 15,o 16 (.ext (.t 13) 0),o 17 (.ext (.t 13) 1),oM 6 16,oM 7 17] (.seq (sQ [oM 18 7,o 19 (.bin .neq (.t 18) (qI 0))] (.cond (.t 19) (sQ [oM 20 7,o 4 (.mv (.k (.nils))),oM 5 20] (.ret)) (.skip))) (.seq (sQ [oM 21 1,oF 22 1 2,oL 23 22,oN 24 23,o 25 (.call N.aB [.t 21,.t 24]),o 26 (.not (.t 25))] (.cond (.t 26) (sQ [o 4 (.mv (.k (.nils))),oK 5 2] (.ret)) (.skip))) (sQ [o 27 (.build [.nils,.nils] [] []),o 28 (.box (.t 27)),oM 8 28] (.seq (sQ [oM 29 6,oN 30 29,oK 31 0] (.blk 0 (.loop dT))) gE))))
def fI:SF:=⟨79,[.tm 4,.tm 5],sQ [o 2 (.box (.t 0)),o 4 (.mv (.k (.nils))),oK 5 0] g_⟩
def lr:SC:=sQ [oM 3 0,o 4 (.build [.int .i64 0,.int .i64 0,.int .i64 0] [(0,1),(1,1),(2,1)] [.t 3,.k (.int .i64 (-1)),.k (.int .i64 (-1))]),oz (.store 3 (.t 2) (.t 4))] (.ret)
def j4:SF:=⟨5,[.cell true 3 2],sQ [o 2 (.alloc [.int .i64 0,.int .i64 0,.int .i64 0])] lr⟩
def bA:SC:=sQ [o 6 (.mv (.k (.nils)))] (sQ [oM 28 6,oM 29 3,oM 30 5,o 31 (.slc 1 (.t 29) [] [.t 30]),o 32 (.app 1 8 (.t 28) (.t 31)),oM 33 4,o 34 (.bsl 1 1 [.int .i64 0] [0] [.t 33]),o 35 (.app 1 8 (.t 32) (.t 34)),oM 6 35] (.ops [oM 36 6,oM 37 3,oM 38 5,o 39 (.slc 1 (.t 37) [.t 38] []),o 40 (.app 1 8 (.t 36) (.t 39)),oM 3 40]))
def gm:SC:=.ops [oM 12 4,oA 13 12,oM 4 13]
def gk:SC:=.seq (sQ [oM 7 4,o 8 (.load true 3 (.t 1)),o 9 (.call N.aG [.t 8]),oN 10 9,o 11 (.bin .lss (.t 7) (.t 10))] (.cond (.t 11) (.skip) (.exit 0))) (.seq (.blk 1 (sQ [oK 5 0] (.seq (sQ [oM 14 4,oF 15 2 1,oL 16 15,oN 17 16,o 18 (.bin .lss (.t 14) (.t 17))] (.cond (.t 18) (.ops [oF 19 2 1,oL 20 19,oM 21 4,oX 22 20 21,oL 23 22,o 24 (.conv .i64 (.t 23)),oM 25 4,oA 26 25,o 27 (.bin .rem (.t 24) (.t 26)),oM 5 27]) (.skip))) bA))) gm)
def cV:SC:=sQ [oM 41 3,oM 2 41] (.ret)
def dc:SC:=sQ [o 3 (.mv (.k (.nils)))] (.seq (sQ [oK 4 0] (.blk 0 (.loop gk))) cV)
def bU:SF:=⟨42,[.tm 2],sQ [o 1 (.box (.t 0)),o 2 (.mv (.k (.nils)))] dc⟩
def pq:SC:=.seq (sQ [oM 5 4,oM 6 0,oN 7 6,o 8 (.bin .lss (.t 5) (.t 7))] (.cond (.t 8) (.skip) (.exit 0))) (.seq (.blk 1 (.ops [oM 11 3,oM 12 0,oM 13 4,oX 14 12 13,oL 15 14,o 16 (.bin .mul (.t 11) (.t 15)),oM 3 16])) (.ops [oM 9 4,oA 10 9,oM 4 10]))
def kK:SC:=sQ [oM 17 3,oM 2 17] (.ret)
def j7:SF:=⟨18,[.tm 2],sQ [oK 2 0] (sQ [oK 3 1] (.seq (sQ [oK 4 0] (.blk 0 (.loop pq))) kK))⟩
def fE:SC:=.seq (.quiet [o 5 (.load true 2 (.t 2)),o 6 (.call N.aH [.t 5]),oF 7 1 2,oL 8 7,oM 9 1,o 10 (.ixs 3 (.t 8) (.t 9)),oF 11 1 10,oL 12 11,o 13 (.call N.aF [.t 6,.t 12]),oM 4 13]) (.ret)
def dW:SF:=⟨14,[.tm 4],sQ [o 2 (.box (.t 0)),o 4 (.mv (.k (.nils)))] fE⟩
def lB:SC:=.ops [oM 39 10,oM 40 9,oM 41 11,oX 42 40 41,oL 43 42,o 44 (.bin .add (.t 39) (.t 43)),oM 10 44]
def lC:SC:=.ops [oM 20 11,oA 21 20,oM 11 21]
def hZ:SC:=.seq (sQ [oM 17 11,oM 18 1,o 19 (.bin .lss (.t 17) (.t 18))] (.cond (.t 19) (.skip) (.exit 0))) (.seq (.blk 1 (.seq (sQ [oM 22 2,oN 23 22,o 24 (.bin .gtr (.t 23) (qI 0))] (.cond (.t 24) (.ops [oM 25 9,oM 26 11,oM 27 2,oM 28 3,oM 29 11,o 30 (.bin .add (.t 28) (.t 29)),oM 31 2,oN 32 31,o 33 (.bin .rem (.t 30) (.t 32)),oX 34 27 33,oL 35 34,o 36 (.bin .rem (.t 35) (.k (.int .u8 8))),o 37 (.conv .i64 (.t 36)),oX 38 25 26,oz (.store 1 (.t 38) (.t 37))]) (.skip))) lB)) lC)
def lD:SC:=.ops [oM 68 12,oM 69 9,oM 70 14,oX 71 69 70,oL 72 71,o 73 (.bin .sub (.t 68) (.t 72)),oM 12 73]
def lE:SC:=.ops [oM 49 14,oA 50 49,oM 14 50]
def h_:SC:=.seq (sQ [oM 46 14,oM 47 1,o 48 (.bin .lss (.t 46) (.t 47))] (.cond (.t 48) (.skip) (.exit 2))) (.seq (.blk 3 (.seq (sQ [oM 51 9,oM 52 14,oX 53 51 52,oL 54 53,o 55 (.bin .gtr (.t 54) (qI 0))] (.cond (.t 55) (sQ [oM 56 9,oM 57 14,oM 58 0,oM 59 9,oM 60 14,oX 61 59 60,oL 62 61,o 63 (.bin .mul (.t 58) (.t 62)),oM 64 10,o 65 (.bin .quo (.t 63) (.t 64)),oX 66 56 57,oz (.store 1 (.t 66) (.t 65))] (.ops [oM 67 14,oM 13 67])) (.skip))) lD)) lE)
def lF:SC:=sQ [oM 74 9,oM 75 13,oM 76 9,oM 77 13,oX 78 76 77,oL 79 78,oM 80 12,o 81 (.bin .add (.t 79) (.t 80)),oX 82 74 75,oz (.store 1 (.t 82) (.t 81))] (sQ [oM 83 9,oM 8 83] (.ret))
def lG:SC:=sQ [oM 45 0,oM 12 45,oK 13 0] (.seq (sQ [oK 14 0] (.blk 2 (.loop h_))) lF)
def lA:SF:=⟨84,[.tm 8],sQ [o 8 (.mv (.k (.nils)))] (sQ [oM 15 1,o 16 (.mks 1 8 [.int .i64 0] (.t 15) (.t 15)),oM 9 16] (sQ [oK 10 0] (.seq (sQ [oK 11 0] (.blk 0 (.loop hZ))) lG)))⟩
def mA:SC:=sQ [o 6 (.load true 2 (.t 1)),o 7 (.call N.ap [.t 6]),oM 5 7,o 8 (.ext (.t 5) 0),o 9 (.ext (.t 5) 1),o 3 (.alloc [.int .i64 0,.nils,.nils,.nils,.nils]),oz (.store 5 (.t 3) (.t 8)),oM 4 9] (sQ [oM 10 4,oM 2 10] (.ret))
def lu:SF:=⟨11,[.tm 2],sQ [o 1 (.box (.t 0)),oK 2 0] mA⟩
def bV:SF:=⟨9,[.tm 4],sQ [o 4 (.mv (.k (.bool false)))] (sQ [oM 5 0,oM 6 1,o 7 (.call N.aN [.t 5,.t 6]),o 8 (.bin .geq (.t 7) (qI 0)),oM 4 8] (.ret))⟩
def kz:SC:=sQ [o 7 (.load true 2 (.t 1)),o 8 (.call N.ap [.t 7]),oM 6 8,o 9 (.ext (.t 6) 0),o 10 (.ext (.t 6) 1),o 4 (.alloc [.int .i64 0,.nils,.nils,.nils,.nils]),oz (.store 5 (.t 4) (.t 9)),oM 5 10] (sQ [oF 11 3 4,oL 12 11,oM 13 5,oM 2 12,oM 3 13] (.ret))
def je:SF:=⟨14,[.tm 2,.tm 3],sQ [o 1 (.box (.t 0)),o 2 (.mv (.k (.nils))),oK 3 0] kz⟩
def eU:SC:=sQ [o 15 (.bin .lss (.t 14) (.t 13))] (.seq (.cond (.t 15) (.skip) (.exit 0)) (.seq (.blk 1 (sQ [oX 16 12 14,oL 17 16,oM 7 17] (.seq (sQ [oM 18 7,o 19 (.bin .lss (.t 18) (qI 0)),oM 20 19,og 21 20 false (.mv (.t 7)),og 22 20 false (.mv (.t 1)),og 23 20 false (.bin .geq (.t 21) (.t 22)),o 24 (.pick (.t 20) (.k (.bool true)) (.t 23)),oM 25 24,og 26 25 false (.mv (.t 5)),og 27 25 false (.mv (.t 7)),og 28 25 false (.bin .shr (.t 26) (.t 27)),og 29 25 false (.bin .and (.t 28) (.k (.int .u64 1))),og 30 25 false (.bin .eql (.t 29) (.k (.int .u64 1))),o 31 (.pick (.t 25) (.k (.bool true)) (.t 30))] (.cond (.t 31) (sQ [o 4 (.mv (.k (.bool false)))] (.ret)) (.skip))) (.ops [oM 32 5,oM 33 7,o 34 (.bin .shl (.k (.int .u64 1)) (.t 33)),o 35 (.bin .or (.t 32) (.t 34)),oM 5 35])))) (.ops [oA 36 14,oM 14 36])))
def eV:SC:=sQ [o 4 (.mv (.k (.bool true)))] (.ret)
def cx:SF:=⟨37,[.tm 4],sQ [o 4 (.mv (.k (.bool false)))] (.seq (sQ [oM 8 0,oN 9 8,oM 10 1,o 11 (.bin .neq (.t 9) (.t 10))] (.cond (.t 11) (sQ [o 4 (.mv (.k (.bool false)))] (.ret)) (.skip))) (sQ [o 5 (.mv (.k (.int .u64 0)))] (.seq (sQ [oM 12 0,oN 13 12,oK 14 0] (.blk 0 (.loop eU))) eV)))⟩
def dL:SC:=.ops [oA 31 16,oM 16 31]
def bM:SC:=sQ [o 17 (.bin .lss (.t 16) (.t 15))] (.seq (.cond (.t 17) (.skip) (.exit 0)) (.seq (.blk 1 (sQ [o 18 (.ixs 2 (.t 14) (.t 16)),o 19 (.load true 2 (.t 18)),o 7 (.alloc [.int .i64 0,.int .u64 0]),oz (.store 2 (.t 7) (.t 19))] (sQ [oM 20 1,o 21 (.load true 2 (.t 7)),o 22 (.dyn (.t 20) [.t 21])] (.cond (.t 22) (.ops [oM 23 4,o 24 (.load true 2 (.t 7)),o 25 (.bsl 2 1 [.int .i64 0,.int .u64 0] [0] [.t 24]),o 26 (.app 2 16 (.t 23) (.t 25)),oM 4 26]) (.ops [oM 27 5,o 28 (.load true 2 (.t 7)),o 29 (.bsl 2 1 [.int .i64 0,.int .u64 0] [0] [.t 28]),o 30 (.app 2 16 (.t 27) (.t 29)),oM 5 30]))))) dL))
def bN:SC:=sQ [o 42 (.bin .lss (.t 41) (.t 40))] (.seq (.cond (.t 42) (.skip) (.exit 2)) (.seq (.blk 3 (sQ [o 43 (.ixs 2 (.t 39) (.t 41)),o 44 (.load true 2 (.t 43)),o 10 (.alloc [.int .i64 0,.int .u64 0]),oz (.store 2 (.t 10) (.t 44))] (.seq (.feet [0,0,2,6,14,0,32,0,128,480,992,2046,4095,8191,16383] [oM 45 0,oM 46 0,o 47 (.nilc (.t 46)),oF 48 0 47,oL 49 48,oF 50 0 8,oL 51 50,oF 52 0 10,oL 53 52,o 54 (.build [.int .i64 0,.int .i64 0,.int .i64 0] [(0,1),(1,1),(2,1)] [.k (.int .i64 (-1)),.t 51,.t 53]),o 55 (.bsl 3 1 [.int .i64 0,.int .i64 0,.int .i64 0] [0] [.t 54]),o 56 (.app 3 24 (.t 49) (.t 55)),o 57 (.nilc (.t 45)),oF 58 0 57,oz (.store 1 (.t 58) (.t 56))]) (.feet [0,1,3,7,15,31,0,64,0,256,960,2047,4095] [oM 59 0,o 60 (.nilc (.t 59)),oF 61 0 60,oL 62 61,oN 63 62,o 64 (.bin .sub (.t 63) (qI 1)),oF 65 1 8,oL 66 65,oF 67 1 10,oL 68 67,o 69 (.bin .or (.t 66) (.t 68)),o 70 (.build [.int .i64 0,.int .u64 0] [(0,1),(1,1)] [.t 64,.t 69]),oz (.store 2 (.t 8) (.t 70))])))) (.ops [oA 71 41,oM 41 71])))
def dM:SC:=sQ [oM 72 0,oM 73 5,o 74 (.load true 2 (.t 8)),o 75 (.bsl 2 1 [.int .i64 0,.int .u64 0] [0] [.t 74]),o 76 (.app 2 16 (.t 73) (.t 75)),o 77 (.nilc (.t 72)),oF 78 1 77,oz (.store 1 (.t 78) (.t 76))] (.ops [oM 79 0,o 80 (.nilc (.t 79)),oF 81 1 80,oL 82 81,o 83 (.call N.aO [.t 82,.k (.clo 67 [] [])])])
def bO:SC:=.seq (sQ [oM 32 4,oN 33 32,o 34 (.bin .eql (.t 33) (qI 0))] (.cond (.t 34) (.ret) (.skip))) (sQ [oM 35 4,o 36 (.ixs 2 (.t 35) (qI 0)),o 37 (.load true 2 (.t 36)),o 8 (.alloc [.int .i64 0,.int .u64 0]),oz (.store 2 (.t 8) (.t 37))] (.seq (sQ [oM 38 4,o 39 (.slc 2 (.t 38) [.k (.int .i64 1)] []),oN 40 39,oK 41 0] (.blk 2 (.loop bN))) dM))
def cL:SF:=⟨84,[],sQ [o 4 (.mv (.k (.nils))),o 5 (.mv (.k (.nils)))] (.seq (sQ [oM 11 0,o 12 (.nilc (.t 11)),oF 13 1 12,oL 14 13,oN 15 14,oK 16 0] (.blk 0 (.loop bM))) bO)⟩
def fV:SC:=sQ [oF 4 1 2,oL 5 4,oL 6 1,o 7 (.bin .shr (.t 5) (.t 6)),o 8 (.bin .and (.t 7) (.k (.int .u64 1))),o 9 (.bin .eql (.t 8) (.k (.int .u64 1))),oM 3 9] (.ret)
def ej:SF:=⟨10,[.tm 3],sQ [o 2 (.box (.t 0)),o 3 (.mv (.k (.bool false)))] fV⟩
def fW:SC:=sQ [o 2 (.mv (.k (.bool true)))] (.ret)
def eo:SF:=⟨3,[.tm 2],sQ [o 1 (.box (.t 0)),o 2 (.mv (.k (.bool false)))] fW⟩
def j6:SC:=.seq (sQ [oM 5 4,oF 6 0 1,oL 7 6,oN 8 7,o 9 (.bin .lss (.t 5) (.t 8)),oM 10 9,og 11 10 true (.mv (.t 4)),og 12 10 true (.bin .lss (.t 11) (qI 5)),o 13 (.pick (.t 10) (.t 12) (.k (.bool false)))] (.cond (.t 13) (.skip) (.exit 0))) (.seq (.blk 1 (.ops [oM 16 3,oF 17 0 1,oL 18 17,oM 19 4,oX 20 18 19,oL 21 20,o 22 (.bin .rem (.t 21) (.k (.int .u8 4))),o 23 (.conv .i64 (.t 22)),o 24 (.bin .add (qI 1) (.t 23)),o 25 (.bsl 1 1 [.int .i64 0] [0] [.t 24]),o 26 (.app 1 8 (.t 16) (.t 25)),oM 3 26])) (.ops [oM 14 4,oA 15 14,oM 4 15]))
def eX:SC:=sQ [oM 27 3,oM 2 27] (.ret)
def fu:SC:=sQ [o 3 (.mv (.k (.nils)))] (.seq (sQ [oK 4 0] (.blk 0 (.loop j6))) eX)
def dV:SF:=⟨28,[.tm 2],sQ [o 1 (.box (.t 0)),o 2 (.mv (.k (.nils)))] fu⟩
def rk:SC:=.seq (sQ [oM 7 6,oM 8 1,oN 9 8,o 10 (.bin .lss (.t 7) (.t 9))] (.cond (.t 10) (.skip) (.exit 0))) (.seq (.blk 1 (.ops [oM 13 5,oM 14 0,oM 15 1,oM 16 6,oX 17 15 16,oL 18 17,oX 19 14 18,oL 20 19,o 21 (.bsl 1 1 [.int .i64 0] [0] [.t 20]),o 22 (.app 1 8 (.t 13) (.t 21)),oM 5 22])) (.ops [oM 11 6,oA 12 11,oM 6 12]))
def mD:SC:=sQ [oM 23 5,oM 4 23] (.ret)
def mT:SF:=⟨24,[.tm 4],sQ [o 4 (.mv (.k (.nils)))] (sQ [o 5 (.mv (.k (.nils)))] (.seq (sQ [oK 6 0] (.blk 0 (.loop rk))) mD))⟩
def jD:SC:=.seq (sQ [oM 5 4,oF 6 1 1,oL 7 6,oN 8 7,o 9 (.bin .lss (.t 5) (.t 8))] (.cond (.t 9) (.skip) (.exit 0))) (.seq (.blk 1 (.ops [oM 12 3,oF 13 1 1,oL 14 13,oM 15 4,o 16 (.ixs 3 (.t 14) (.t 15)),oF 17 0 16,oL 18 17,o 19 (.bsl 1 1 [.int .i64 0] [0] [.t 18]),o 20 (.app 1 8 (.t 12) (.t 19)),oM 3 20])) (.ops [oM 10 4,oA 11 10,oM 4 11]))
def jE:SC:=sQ [oM 21 3,oM 2 21] (.ret)
def kM:SC:=sQ [o 3 (.mv (.k (.nils)))] (.seq (sQ [oK 4 0] (.blk 0 (.loop jD))) jE)
def jk:SF:=⟨22,[.tm 2],sQ [o 1 (.box (.t 0)),o 2 (.mv (.k (.nils)))] kM⟩
def jf:SC:=sQ [o 51 (.bin .lss (.t 50) (.t 49))] (.seq (.cond (.t 51) (.skip) (.exit 0)) (.seq (.blk 1 (sQ [oM 52 50,o 53 (.ixs 3 (.t 48) (.t 50)),o 54 (.load true 3 (.t 53)),o 7 (.alloc [.int .i64 0,.nils,.nils]),oM 6 52,oz (.store 3 (.t 7) (.t 54))] (.seq (sQ [oF 55 0 7,oL 56 55,o 57 (.bin .lss (.t 56) (qI 1)),oM 58 57,og 59 58 false (.fad 0 (.t 7)),og 60 58 false (.load false 1 (.t 59)),og 61 58 false (.bin .gtr (.t 60) (qI 4)),o 62 (.pick (.t 58) (.k (.bool true)) (.t 61))] (.cond (.t 62) (sQ [o 63 (.build [.int .i64 0,.nils,.nils,.nils,.nils] [] []),oz (.store 5 (.t 2) (.t 63)),oK 3 50] (.ret)) (.skip))) (sQ [oF 64 2 4,oL 65 64,oM 66 6,oF 67 0 7,oL 68 67,oX 69 65 66,oz (.store 1 (.t 69) (.t 68))] (.ops [oM 70 5,oF 71 0 7,oL 72 71,o 73 (.bin .mul (.t 70) (.t 72)),oM 5 73]))))) (.ops [oA 74 50,oM 50 74])))
def jg:SC:=sQ [o 91 (.bin .lss (.t 90) (.t 89))] (.seq (.cond (.t 91) (.skip) (.exit 4)) (.seq (.blk 5 (sQ [oX 92 88 90,oL 93 92,oM 12 93] (.seq (sQ [oM 94 12,oM 95 10,o 96 (.bin .leq (.t 94) (.t 95)),oM 97 96,og 98 97 false (.mv (.t 12)),og 99 97 false (.fad 0 (.t 4)),og 100 97 false (.fad 1 (.t 99)),og 101 97 false (.load false 1 (.t 100)),og 102 97 false (.len .slice (.t 101)),og 103 97 false (.bin .geq (.t 98) (.t 102)),o 104 (.pick (.t 97) (.k (.bool true)) (.t 103)),oM 105 104,og 106 105 false (.mv (.t 12)),og 107 105 false (.mv (.t 8)),og 108 105 false (.bin .eql (.t 106) (.t 107)),o 109 (.pick (.t 105) (.k (.bool true)) (.t 108))] (.cond (.t 109) (sQ [o 110 (.build [.int .i64 0,.nils,.nils,.nils,.nils] [] []),oz (.store 5 (.t 2) (.t 110)),oK 3 50] (.ret)) (.skip))) (sQ [oM 111 12,oM 10 111] (.feet [0,1,0,7,15,0,32,127,255,511] [oF 112 3 4,oL 113 112,oM 114 8,oX 115 113 114,oL 116 115,oM 117 12,o 118 (.bin .shl (.k (.int .u64 1)) (.t 117)),o 119 (.bin .or (.t 116) (.t 118)),oX 120 113 114,oz (.store 1 (.t 120) (.t 119))]))))) (.ops [oA 121 90,oM 90 121])))
def ji:SC:=sQ [o 122 (.load true 5 (.t 4)),o 123 (.load true 3 (.t 9)),o 124 (.call N.an [.t 122,.t 123]),o 125 (.not (.t 124))] (.cond (.t 125) (sQ [o 126 (.build [.int .i64 0,.nils,.nils,.nils,.nils] [] []),oz (.store 5 (.t 2) (.t 126)),oK 3 50] (.ret)) (.skip))
def mB:SC:=.ops [oA 127 82,oM 82 127]
def jh:SC:=sQ [o 83 (.bin .lss (.t 82) (.t 81))] (.seq (.cond (.t 83) (.skip) (.exit 2)) (.seq (.blk 3 (sQ [oM 84 82,o 85 (.ixs 3 (.t 80) (.t 82)),o 86 (.load true 3 (.t 85)),o 9 (.alloc [.int .i64 0,.nils,.nils]),oM 8 84,oz (.store 3 (.t 9) (.t 86))] (sQ [oK 10 (-1)] (.seq (sQ [oF 87 1 9,oL 88 87,oN 89 88,oK 90 0] (.blk 4 (.loop jg))) ji)))) mB))
def jj:SC:=sQ [oF 129 3 4,oL 130 129,o 131 (.call N.aE [.t 130]),oM 128 131,o 132 (.ext (.t 128) 0),o 133 (.ext (.t 128) 1),oM 13 132,oM 14 133] (.seq (sQ [oM 134 14,o 135 (.not (.t 134))] (.cond (.t 135) (sQ [o 136 (.build [.int .i64 0,.nils,.nils,.nils,.nils] [] []),oz (.store 5 (.t 2) (.t 136)),oK 3 50] (.ret)) (.skip))) (sQ [oM 137 13,oF 138 4 4,oz (.store 1 (.t 138) (.t 137))] (sQ [o 139 (.load true 5 (.t 4)),oz (.store 5 (.t 2) (.t 139)),oK 3 0] (.ret))))
def mC:SC:=.seq (sQ [oM 75 5,o 76 (.bin .gtr (.t 75) (qI 1024))] (.cond (.t 76) (sQ [o 77 (.build [.int .i64 0,.nils,.nils,.nils,.nils] [] []),oz (.store 5 (.t 2) (.t 77)),oK 3 50] (.ret)) (.skip))) (.seq (sQ [oF 78 0 4,oF 79 1 78,oL 80 79,oN 81 80,oK 82 0] (.blk 2 (.loop jh))) jj)
def nB:SC:=.seq (sQ [oF 15 0 1,oL 16 15,o 17 (.bin .lss (.t 16) (qI 1)),oM 18 17,og 19 18 false (.fad 0 (.t 1)),og 20 18 false (.load false 1 (.t 19)),og 21 18 false (.bin .gtr (.t 20) (qI 60)),o 22 (.pick (.t 18) (.k (.bool true)) (.t 21)),oM 23 22,og 24 23 false (.fad 1 (.t 1)),og 25 23 false (.load false 1 (.t 24)),og 26 23 false (.len .slice (.t 25)),og 27 23 false (.bin .lss (.t 26) (qI 1)),o 28 (.pick (.t 23) (.k (.bool true)) (.t 27)),oM 29 28,og 30 29 false (.fad 1 (.t 1)),og 31 29 false (.load false 1 (.t 30)),og 32 29 false (.len .slice (.t 31)),og 33 29 false (.bin .gtr (.t 32) (qI 8)),o 34 (.pick (.t 29) (.k (.bool true)) (.t 33))] (.cond (.t 34) (sQ [o 35 (.build [.int .i64 0,.nils,.nils,.nils,.nils] [] []),oz (.store 5 (.t 2) (.t 35)),oK 3 50] (.ret)) (.skip))) (.seq (.feet [0,0,2,6,14,0,32,96,224,511,0,2047] [o 36 (.load true 2 (.t 1)),oF 37 1 1,oL 38 37,oN 39 38,o 40 (.mks 1 8 [.int .i64 0] (.t 39) (.t 39)),oF 41 1 1,oL 42 41,oN 43 42,o 44 (.mks 1 8 [.int .u64 0] (.t 43) (.t 43)),o 45 (.build [.int .i64 0,.nils,.nils,.nils,.nils] [(0,2),(2,1),(3,1)] [.t 36,.t 40,.t 44]),o 4 (.alloc [.int .i64 0,.nils,.nils,.nils,.nils]),oz (.store 5 (.t 4) (.t 45))]) (sQ [oK 5 1] (.seq (sQ [oF 46 0 4,oF 47 1 46,oL 48 47,oN 49 48,oK 50 0] (.blk 0 (.loop jf))) mC)))
def hY:SF:=⟨140,[.cell true 5 2,.tm 3],sQ [o 1 (.box (.t 0)),o 2 (.alloc [.int .i64 0,.nils,.nils,.nils,.nils]),oK 3 0] nB⟩
def dQ:SC:=sQ [o 9 (.bin .lss (.t 8) (.t 7))] (.seq (.cond (.t 9) (.skip) (.exit 0)) (.seq (.blk 1 (sQ [oM 10 8,oM 5 10] (sQ [oM 11 1,oM 12 0,oM 13 5,oX 14 12 13,oL 15 14,o 16 (.eq false .bool (.t 11) (.t 15))] (.cond (.t 16) (sQ [oM 17 5,oM 4 17] (.ret)) (.skip))))) (.ops [oA 18 8,oM 8 18])))
def dR:SC:=sQ [oK 4 (-1)] (.ret)
def cO:SF:=⟨19,[.tm 4],sQ [oK 4 0] (.seq (sQ [oM 6 0,oN 7 6,oK 8 0] (.blk 0 (.loop dQ))) dR)⟩
def aL:SF:=⟨14,[],sQ [oM 5 0,oN 6 5,oM 4 6] (.ops [oM 7 0,oM 8 4,oM 9 4,o 10 (.conv .u64 (.t 9)),o 11 (.call N.aa [.t 10]),oM 12 1,o 13 (.call N.ax [.t 7,.k (.int .i64 0),.t 8,.t 11,.t 12])])⟩
def dj:SC:=sQ [oF 5 0 2,oL 6 5,oF 7 0 3,oL 8 7,o 9 (.bin .sub (.t 6) (.t 8)),oM 4 9] (.ret)
def cm:SF:=⟨10,[.tm 4],sQ [o 2 (.box (.t 0)),o 3 (.box (.t 1)),oK 4 0] dj⟩
def eI:SC:=sQ [o 17 (.bin .lss (.t 16) (.t 15))] (.seq (.cond (.t 17) (.skip) (.exit 0)) (.seq (.blk 1 (sQ [oX 18 14 16,oL 19 18,oM 7 19] (.ops [oM 20 5,oF 21 2 2,oL 22 21,oM 23 7,oX 24 22 23,oL 25 24,o 26 (.bin .mul (.t 20) (.t 25)),oM 5 26]))) (.ops [oA 27 16,oM 16 27])))
def eH:SC:=.ops [oM 9 36]
def cF:SC:=sQ [o 43 (.bin .lss (.t 42) (.t 41))] (.seq (.cond (.t 43) (.skip) (.exit 4)) (.seq (.blk 5 (sQ [oX 44 40 42,oL 45 44,oM 12 45] (.seq (sQ [oM 46 12,o 47 (.bin .lss (.t 46) (qI 0)),oM 48 47,og 49 48 false (.mv (.t 12)),og 50 48 false (.mv (.t 10)),og 51 48 false (.bin .gtr (.t 49) (.t 50)),o 52 (.pick (.t 48) (.k (.bool true)) (.t 51))] (.cond (.t 52) (sQ [oz (.store 1 (.t 4) (.k (.bool false)))] (.ret)) (.skip))) (.ops [oM 53 10,oM 54 12,o 55 (.bin .sub (.t 53) (.t 54)),oM 10 55])))) (.ops [oA 56 42,oM 42 56])))
def br:SC:=sQ [oM 57 9,oN 58 57,oF 59 0 3,oL 60 59,o 61 (.bin .neq (.t 58) (.t 60)),oM 62 61,og 63 62 false (.mv (.t 10)),og 64 62 false (.bin .neq (.t 63) (qI 0)),o 65 (.pick (.t 62) (.k (.bool true)) (.t 64))] (.cond (.t 65) (sQ [oz (.store 1 (.t 4) (.k (.bool false)))] (.ret)) (.skip))
def eJ:SC:=.blk 3 (sQ [oF 37 0 2,oF 38 0 37,oL 39 38,oM 10 39] (.seq (sQ [oM 40 9,oN 41 40,oK 42 0] (.blk 4 (.loop cF))) br))
def eK:SC:=sQ [oz (.store 1 (.t 4) (.k (.bool true)))] (.ret)
def eL:SC:=.seq (sQ [oF 28 2 3,oL 29 28,oN 30 29,oM 31 5,o 32 (.bin .neq (.t 30) (.t 31))] (.cond (.t 32) (sQ [oz (.store 1 (.t 4) (.k (.bool false)))] (.ret)) (.skip))) (.seq (sQ [o 33 (.load true 3 (.t 3)),o 34 (.call N.aq [.t 33])] (.blk 2 (.rng 66 (.t 34) [35,36] eH eJ))) eK)
def eW:SC:=sQ [oK 5 1] (.seq (sQ [oF 13 1 3,oL 14 13,oN 15 14,oK 16 0] (.blk 0 (.loop eI))) eL)
def dk:SF:=⟨66,[.cell false 1 4],sQ [o 2 (.box (.t 0)),o 3 (.box (.t 1)),o 4 (.alloc [.bool false])] eW⟩
def kG:SC:=sQ [o 19 (.bin .lss (.t 18) (.t 17))] (.seq (.cond (.t 19) (.skip) (.exit 2)) (.seq (.blk 3 (sQ [oM 20 18,oX 21 16 18,oL 22 21,oM 6 20,oM 7 22] (sQ [oM 23 5,oM 24 6,o 25 (.bin .shr (.t 23) (.t 24)),o 26 (.bin .and (.t 25) (.k (.int .u64 1))),o 27 (.bin .eql (.t 26) (.k (.int .u64 0))),oM 28 27,og 29 28 true (.mv (.t 7)),og 30 28 true (.mv (.t 5)),og 31 28 true (.bin .andNot (.t 29) (.t 30)),og 32 28 true (.bin .eql (.t 31) (.k (.int .u64 0))),o 33 (.pick (.t 28) (.t 32) (.k (.bool false)))] (.cond (.t 33) (sQ [oM 34 4,oM 35 6,o 36 (.bsl 1 1 [.int .i64 0] [0] [.t 35]),o 37 (.app 1 8 (.t 34) (.t 36)),oM 4 37] (sQ [oM 38 5,oM 39 6,o 40 (.bin .shl (.k (.int .u64 1)) (.t 39)),o 41 (.bin .or (.t 38) (.t 40)),oM 5 41] (.exit 1))) (.skip))))) (.ops [oA 42 18,oM 18 42])))
def kI:SC:=sQ [o 2 (.mv (.k (.nils))),o 3 (.mv (.k (.bool false)))] (.ret)
def kH:SC:=.seq (sQ [oM 11 4,oN 12 11,oM 13 0,oN 14 13,o 15 (.bin .lss (.t 12) (.t 14))] (.cond (.t 15) (.skip) (.exit 0))) (.blk 1 (.seq (sQ [oM 16 0,oN 17 16,oK 18 0] (.blk 2 (.loop kG))) kI))
def kJ:SC:=sQ [oM 43 4,oM 2 43,o 3 (.mv (.k (.bool true)))] (.ret)
def j5:SF:=⟨44,[.tm 2,.tm 3],sQ [o 2 (.mv (.k (.nils))),o 3 (.mv (.k (.bool false)))] (sQ [oM 8 0,oN 9 8,o 10 (.mks 1 8 [.int .i64 0] (qI 0) (.t 9)),oM 4 10,o 5 (.mv (.k (.int .u64 0)))] (.seq (.skip) (.seq (.blk 0 (.loop kH)) kJ)))⟩
def cP:SC:=.seq (.seq (.feet [0,1,3,7,7,7,39,119,247,7,7,1543,3591,8191,16383,32767,65535] [oM 81 1,o 82 (.bin .gtr (.t 81) (qI 0)),oM 83 82,og 84 83 true (.mv (.t 4)),og 85 83 true (.mv (.t 0)),og 86 83 true (.mv (.t 1)),og 87 83 true (.bin .sub (.t 86) (qI 1)),og 88 83 true (.ixs 2 (.t 85) (.t 87)),og 89 83 true (.load true 2 (.t 88)),og 90 83 true (.mv (.t 0)),og 91 83 true (.mv (.t 13)),og 92 83 true (.ixs 2 (.t 90) (.t 91)),og 93 83 true (.load true 2 (.t 92)),og 94 83 true (.dyn (.t 84) [.t 89,.t 93]),og 95 83 true (.bin .lss (.t 94) (qI 0)),og 96 83 true (.not (.t 95)),o 97 (.pick (.t 83) (.t 96) (.k (.bool false)))]) (.cond (.t 97) (sQ [oM 98 0,oM 99 1,oM 100 2,oM 101 13,oM 102 4,o 103 (.call N.aZ [.t 98,.t 99,.t 100,.t 101,.t 102]),oM 15 103] (sQ [oM 104 15,oM 1 104] (.exit 1))) (.skip))) (sQ [oM 106 0,oM 107 1,oM 108 2,oM 109 13,oM 110 4,o 111 (.call N.aY [.t 106,.t 107,.t 108,.t 109,.t 110]),oM 105 111,o 112 (.ext (.t 105) 0),o 113 (.ext (.t 105) 1),oM 16 112,oM 17 113] (sQ [oM 114 17,oM 11 114] (sQ [oM 115 16,oM 116 1,o 117 (.bin .sub (.t 115) (.t 116)),oM 118 2,oM 119 16,o 120 (.bin .sub (.t 118) (.t 119)),oM 18 117,oM 19 120] (sQ [oM 121 12,o 122 (.bin .quo (.t 121) (qI 8)),oM 20 122] (sQ [oM 123 18,oM 124 19,o 125 (.bin .lss (.t 123) (.t 124))] (.cond (.t 125) (sQ [oM 126 18,oM 127 20,o 128 (.bin .geq (.t 126) (.t 127)),oM 10 128] (sQ [oM 129 0,oM 130 1,oM 131 16,oM 132 3,oM 133 4,o 134 (.call N.ax [.t 129,.t 130,.t 131,.t 132,.t 133])] (.ops [oM 135 16,oA 136 135,oM 1 136]))) (sQ [oM 137 19,oM 138 20,o 139 (.bin .geq (.t 137) (.t 138)),oM 10 139] (sQ [oM 140 0,oM 141 16,oA 142 141,oM 143 2,oM 144 3,oM 145 4,o 146 (.call N.ax [.t 140,.t 142,.t 143,.t 144,.t 145])] (.ops [oM 147 16,oM 2 147])))))))))
def cQ:SC:=.seq (sQ [oM 68 10,oM 69 68,og 70 69 true (.mv (.t 11)),o 71 (.pick (.t 69) (.t 70) (.k (.bool false))),oM 72 71,og 73 72 true (.mv (.t 14)),og 74 72 true (.bin .eql (.t 73) (qI 1)),o 75 (.pick (.t 72) (.t 74) (.k (.bool false)))] (.cond (.t 75) (sQ [oM 76 0,oM 77 1,oM 78 2,oM 79 4,o 80 (.call N.aX [.t 76,.t 77,.t 78,.t 79])] (.cond (.t 80) (.ret) (.skip))) (.skip))) cP
def cR:SC:=sQ [oM 48 0,oM 49 1,oM 50 2,oM 51 4,o 52 (.call N.aV [.t 48,.t 49,.t 50,.t 51]),oM 47 52,o 53 (.ext (.t 47) 0),o 54 (.ext (.t 47) 1),oM 13 53,oM 14 54] (.seq (sQ [oM 55 14,o 56 (.bin .eql (.t 55) (qI 2))] (.cond (.t 56) (sQ [oM 57 0,oM 58 1,oM 59 2,oM 60 4,o 61 (.call N.a7 [.t 57,.t 58,.t 59,.t 60])] (sQ [oM 62 2,o 63 (.bin .sub (.t 62) (qI 1)),oM 64 13,oM 65 1,o 66 (.bin .sub (.t 64) (.t 65)),o 67 (.bin .sub (.t 63) (.t 66)),oM 13 67] (.ops [oK 14 1]))) (.skip))) cQ)
def bh:SC:=.blk 1 (sQ [oM 21 2,oM 22 1,o 23 (.bin .sub (.t 21) (.t 22)),oM 12 23] (.seq (sQ [oM 24 12,o 25 (.bin .leq (.t 24) (qI 12))] (.cond (.t 25) (sQ [oM 26 0,oM 27 1,oM 28 2,oM 29 4,o 30 (.call N.aP [.t 26,.t 27,.t 28,.t 29])] (.ret)) (.skip))) (.seq (sQ [oM 31 3,o 32 (.bin .eql (.t 31) (qI 0))] (.cond (.t 32) (sQ [oM 33 0,oM 34 1,oM 35 2,oM 36 4,o 37 (.call N.aW [.t 33,.t 34,.t 35,.t 36])] (.ret)) (.skip))) (.seq (sQ [oM 38 10,o 39 (.not (.t 38))] (.cond (.t 39) (sQ [oM 40 0,oM 41 1,oM 42 2,oM 43 4,o 44 (.call N.aU [.t 40,.t 41,.t 42,.t 43])] (.ops [oM 45 3,o 46 (.bin .sub (.t 45) (qI 1)),oM 3 46])) (.skip))) cR))))
def aU:SF:=⟨148,[],sQ [o 10 (.mv (.k (.bool true)))] (sQ [o 11 (.mv (.k (.bool true)))] (.blk 0 (.loop bh)))⟩
def nC:SC:=sQ [o 3 (.mkf N.ae [] [.t 1]),oM 2 3] (.ret)
def mS:SF:=⟨4,[.tm 2],sQ [o 1 (.box (.t 0)),o 2 (.mv (.k (.nilf)))] nC⟩
def aw:SC:=.seq (.seq (.feet [0,0,3,7,15,15,15,111,239,15,15,1039,3599,7695,16383,32767,65535] [oM 18 9,oM 19 1,o 20 (.bin .gtr (.t 18) (.t 19)),oM 21 20,og 22 21 true (.mv (.t 3)),og 23 21 true (.mv (.t 0)),og 24 21 true (.mv (.t 9)),og 25 21 true (.ixs 2 (.t 23) (.t 24)),og 26 21 true (.load true 2 (.t 25)),og 27 21 true (.mv (.t 0)),og 28 21 true (.mv (.t 9)),og 29 21 true (.bin .sub (.t 28) (qI 1)),og 30 21 true (.ixs 2 (.t 27) (.t 29)),og 31 21 true (.load true 2 (.t 30)),og 32 21 true (.dyn (.t 22) [.t 26,.t 31]),og 33 21 true (.bin .lss (.t 32) (qI 0)),o 34 (.pick (.t 21) (.t 33) (.k (.bool false)))]) (.cond (.t 34) (.skip) (.exit 2))) (.seq (.blk 3 (.feet [0,0,0,0,8,0,0,64,224,480,0,0,3072,7168,16355,32739,65535,131071] [oM 37 0,oM 38 9,oM 39 0,oM 40 9,o 41 (.bin .sub (.t 40) (qI 1)),oM 42 0,oM 43 9,o 44 (.bin .sub (.t 43) (qI 1)),o 45 (.ixs 2 (.t 42) (.t 44)),o 46 (.load true 2 (.t 45)),oM 47 0,oM 48 9,o 49 (.ixs 2 (.t 47) (.t 48)),o 50 (.load true 2 (.t 49)),o 51 (.ixs 2 (.t 37) (.t 38)),oz (.store 2 (.t 51) (.t 46)),o 52 (.ixs 2 (.t 39) (.t 41)),oz (.store 2 (.t 52) (.t 50))])) (.ops [oM 35 9,o 36 (.bin .sub (.t 35) (qI 1)),oM 9 36]))
def a7:SC:=.ops [oM 15 8,oA 16 15,oM 8 16]
def aZ:SC:=.seq (sQ [oM 12 8,oM 13 2,o 14 (.bin .lss (.t 12) (.t 13))] (.cond (.t 14) (.skip) (.exit 0))) (.seq (.blk 1 (sQ [oM 17 8,oM 9 17] (.blk 2 (.loop aw)))) a7)
def aQ:SF:=⟨53,[],sQ [oM 10 1,oA 11 10,oM 8 11] (.blk 0 (.loop aZ))⟩
def kC:SC:=sQ [o 9 (.bin .lss (.t 8) (.t 7))] (.seq (.cond (.t 9) (.skip) (.exit 0)) (.seq (.blk 1 (sQ [oM 10 8,oX 11 6 8,oL 12 11,oM 3 10,oM 4 12] (sQ [oM 13 0,oM 14 3,oM 15 4,o 16 (.dyn (.t 13) [.t 14,.t 15]),o 17 (.not (.t 16))] (.cond (.t 17) (.ret) (.skip))))) (.ops [oA 18 8,oM 8 18])))
def dG:SF:=⟨19,[],sQ [oF 5 2 1,oL 6 5,oN 7 6,oK 8 0] (.blk 0 (.loop kC))⟩
theorem jB:nFn C0 N.aQ=some cM:=by kernel_rfl
theorem mQ:nFn C0 N.aI=some eZ:=by kernel_rfl
theorem kY (d:Nat)(xs:List AV)(g:G):aG C0 d N.aI xs g=am (I C0) d g N.aI xs:=by kernel_rfl
theorem pp:nFn C0 N.aM=some ib:=by kernel_rfl
theorem nq (d:Nat)(xs:List AV)(g:G):aG C0 d N.aM xs g=am (I C0) d g N.aM xs:=by kernel_rfl
theorem oo:nFn C0 N.aL=some gn:=by kernel_rfl
theorem mL (d:Nat)(xs:List AV)(g:G):aG C0 d N.aL xs g=am (I C0) d g N.aL xs:=by kernel_rfl
theorem mP:nFn C0 N.ac=some eT:=by kernel_rfl
theorem kX (d:Nat)(xs:List AV)(g:G):aG C0 d N.ac xs g=am (I C0) d g N.ac xs:=by kernel_rfl
theorem po:nFn C0 N.aK=some ia:=by kernel_rfl
theorem np (d:Nat)(xs:List AV)(g:G):aG C0 d N.aK xs g=am (I C0) d g N.aK xs:=by kernel_rfl
theorem nA:nFn C0 N.ay=some fI:=by kernel_rfl
theorem mq (d:Nat)(xs:List AV)(g:G):aG C0 d N.ay xs g=am (I C0) d g N.ay xs:=by kernel_rfl
theorem re:nFn C0 N.ah=some j4:=by kernel_rfl
theorem ph (d:Nat)(xs:List AV)(g:G):aG C0 d N.ah xs g=am (I C0) d g N.ah xs:=by kernel_rfl
theorem gZ:nFn C0 N.ak=some bU:=by kernel_rfl
theorem gq (t:T)(g:G)(xs:List Od):SO.foot C0 t g (.call N.ak xs)=af ((gt t xs).flatMap (aC g.h aB)):=by kernel_rfl
theorem gg (d:Nat)(xs:List AV)(g:G):aG C0 d N.ak xs g=am (I C0) d g N.ak xs:=by kernel_rfl
theorem rh:nFn C0 N.au=some j7:=by kernel_rfl
theorem pj (d:Nat)(xs:List AV)(g:G):aG C0 d N.au xs g=am (I C0) d g N.au xs:=by kernel_rfl
theorem lp:nFn C0 N.aJ=some dW:=by kernel_rfl
theorem jX (d:Nat)(xs:List AV)(g:G):aG C0 d N.aJ xs g=am (I C0) d g N.aJ xs:=by kernel_rfl
theorem tu:nFn C0 N.af=some lA:=by kernel_rfl
theorem qf (t:T)(g:G)(xs:List Od):SO.foot C0 t g (.call N.af xs)=af ((gt t xs).flatMap (aC g.h aB)):=by kernel_rfl
theorem pW (d:Nat)(xs:List AV)(g:G):aG C0 d N.af xs g=am (I C0) d g N.af xs:=by kernel_rfl
theorem tp:nFn C0 N.aC=some lu:=by kernel_rfl
theorem pV (d:Nat)(xs:List AV)(g:G):aG C0 d N.aC xs g=am (I C0) d g N.aC xs:=by kernel_rfl
theorem g9:nFn C0 N.aw=some bV:=by kernel_rfl
theorem gi (d:Nat)(xs:List AV)(g:G):aG C0 d N.aw xs g=am (I C0) d g N.aw xs:=by kernel_rfl
theorem qb:nFn C0 N.aD=some je:=by kernel_rfl
theorem oh (d:Nat)(xs:List AV)(g:G):aG C0 d N.aD xs g=am (I C0) d g N.aD xs:=by kernel_rfl
theorem li:nFn C0 N.aB=some cx:=by kernel_rfl
theorem jV (d:Nat)(xs:List AV)(g:G):aG C0 d N.aB xs g=am (I C0) d g N.aB xs:=by kernel_rfl
theorem jA:nFn C0 N.am=some cL:=by kernel_rfl
theorem iH (d:Nat)(xs:List AV)(g:G):aG C0 d N.am xs g=orF ((I C0).call d N.am xs g):=by kernel_rfl
theorem mr:nFn C0 N.aA=some ej:=by kernel_rfl
theorem mu:nFn C0 N.aR=some eo:=by kernel_rfl
theorem lj:nFn C0 N.aG=some dV:=by kernel_rfl
theorem jW (d:Nat)(xs:List AV)(g:G):aG C0 d N.aG xs g=am (I C0) d g N.aG xs:=by kernel_rfl
theorem uG:nFn C0 N.aF=some mT:=by kernel_rfl
theorem qZ (d:Nat)(xs:List AV)(g:G):aG C0 d N.aF xs g=am (I C0) d g N.aF xs:=by kernel_rfl
theorem qc:nFn C0 N.aH=some jk:=by kernel_rfl
theorem ol (d:Nat)(xs:List AV)(g:G):aG C0 d N.aH xs g=am (I C0) d g N.aH xs:=by kernel_rfl
theorem uE:nFn C0 N.ap=some hY:=by kernel_rfl
theorem qX (d:Nat)(xs:List AV)(g:G):aG C0 d N.ap xs g=am (I C0) d g N.ap xs:=by kernel_rfl
theorem jC:nFn C0 N.aN=some cO:=by kernel_rfl
theorem iI (d:Nat)(xs:List AV)(g:G):aG C0 d N.aN xs g=am (I C0) d g N.aN xs:=by kernel_rfl
theorem bF:nFn C0 N.aO=some aL:=by kernel_rfl
theorem iK:nFn C0 N.aS=some cm:=by kernel_rfl
theorem kT:nFn C0 N.an=some dk:=by kernel_rfl
theorem jx (d:Nat)(xs:List AV)(g:G):aG C0 d N.an xs g=am (I C0) d g N.an xs:=by kernel_rfl
theorem rg:nFn C0 N.aE=some j5:=by kernel_rfl
theorem pi (d:Nat)(xs:List AV)(g:G):aG C0 d N.aE xs g=am (I C0) d g N.aE xs:=by kernel_rfl
theorem c7:nFn C0 N.ax=some aU:=by kernel_rfl
theorem uF:nFn C0 N.aq=some mS:=by kernel_rfl
theorem qY (d:Nat)(xs:List AV)(g:G):aG C0 d N.aq xs g=am (I C0) d g N.aq xs:=by kernel_rfl
theorem cj:nFn C0 N.aP=some aQ:=by kernel_rfl
theorem bL (d:Nat)(xs:List AV)(g:G):aG C0 d N.aP xs g=orF ((I C0).call d N.aP xs g):=by kernel_rfl
theorem rf:nFn C0 N.ae=some dG:=by kernel_rfl
theorem ky {α:Type}{f:Nat->α->Nat->α->Bool}{i:Nat}{x:α}:∀{l:List α} {j:Nat},(∀b y,l[b]?=some y->f i x (j+b) y=true)->dD f i x j l=true
 | [],_,_=>rfl
 | y::r,j,h=>by simp only[dD,Bool.and_eq_true];refine ⟨by simpa using h 0 y rfl,ky λb z hb=>?_⟩;have:=h (b+1) z (by simpa using hb);rwa [show j+(b+1)=j+1+b by omega] at this
theorem oI {α:Type}{f:Nat->α->Nat->α->Bool}:∀{l:List α} {i:Nat},(∀a b x y,a<b->l[a]?=some x->l[b]?=some y->f (i+a) x (i+b) y=true)->fS f i l=true
 | [],_,_=>rfl
 | x::r,i,h=>by
  simp only[fS,Bool.and_eq_true];refine ⟨ky λb y hb=>?_,oI λa b x' y hab ha hb=>?_⟩
  ·have:=h 0 (b+1) x y (by omega) rfl (by simpa using hb);rwa [Nat.add_zero,show i+(b+1)=i+1+b by omega] at this
  ·have:=h (a+1) (b+1) x' y (by omega) (by simpa using ha) (by simpa using hb);rwa [show i+(a+1)=i+1+a by omega,show i+(b+1)=i+1+b by omega] at this
theorem pd {pm:List Nat}:∀{l:List Foot} {i:Nat},(∀f∈l,f.lk.sr=[])->lV pm i l=true
 | [],_,_=>rfl
 | x::r,i,h=>by simp only[lV,h x (by simp)];exact pd λf hf=>h f (by simp[hf])
def Co (pm:List Nat)(ws:List Bool)(L:List (Nat×Nat))(i j:Nat):Bool:=(pm.getD j 0).testBit i || (!(ws.getD i false)&&!(ws.getD j false)) || L.contains (i,j)
def DS (pm:List Nat)(ws:List Bool)(L:List (Nat×Nat)):Bool:=(List.range ws.length).all λj=>(List.range j).all λi=>Co pm ws L i j
theorem aW {pm:List Nat}{fs:List Foot}(ws:List Bool)(L:List (Nat×Nat))(hw:All2 (λ(f:Foot) (w:Bool)=>f.lk.sr=[]/\(w=false->f.wr=[])) fs ws)(hd:DS pm ws L=true)
  (hL:∀p∈L,∀x y,fs[p.1]?=some x->fs[p.2]?=some y->cp x y=true):j8 pm fs=true:=by
 unfold j8;rw[aa,if_pos]
 ·exact pd λf hf=>by obtain ⟨i,hi,rfl⟩:=List.mem_iff_getElem.1 hf;obtain ⟨w,-,h⟩:=hw.get (List.getElem?_eq_getElem hi);exact h.1
 ·refine oI λa b x y hab ha hb=>?_;simp only[Nat.zero_add];obtain ⟨wa,hwa,ka⟩:=hw.get ha;obtain ⟨wb,hwb,kb⟩:=hw.get hb;have hbl:=(List.getElem?_eq_some_iff.1 hwb).1;have:=List.all_eq_true.1 (List.all_eq_true.1 hd b (List.mem_range.2 hbl)) a (List.mem_range.2 hab);simp only[Co,Bool.or_eq_true] at this;rcases this with (h | h) | h
  ·rw[h,Bool.true_or]
  ·simp only[List.getD_eq_getElem?_getD,hwa,hwb,Option.getD_some,Bool.and_eq_true,Bool.not_eq_true'] at h;have ex:=ka.2 h.1;have ey:=kb.2 h.2;simp only[cp,ig,fK,ex,ey,Bool.and_self,Bool.or_true]
  ·rw[hL (a,b) (List.contains_iff_mem.1 h) x y ha hb,Bool.or_true]
structure Mech where
 card:Int
 frm:List Int
 noise:List Int
 out:List Int
structure Causal where
 grain:Int
 roots:List (List Int)
 nodes:List Mech
structure Node where
 card:Int
 parents:List Int
 rows:List (List Int)
structure Net where
 grain:Int
 nodes:List Node
structure Factor where
 vars:List Int
 cards:List Int
 w:List Int
instance : Rp Mech:=Rp.via λm:Mech=>(m.card,m.frm,m.noise,m.out)
instance : Rp Causal:=Rp.via λm:Causal=>(m.grain,m.roots,m.nodes)
instance : Rp Node:=Rp.via λm:Node=>(m.card,m.parents,m.rows)
instance : Rp Net:=Rp.via λm:Net=>(m.grain,m.nodes)
instance : Rp Factor:=Rp.via λm:Factor=>(m.vars,m.cards,m.w)
section
variable {P:Nat->Prop}{k:Nat}{h:H}{cs:List AV}
theorem i_ {m:Node}:Rp.rp P k h m cs↔∃a b,cs=[.int .i64 m.card,a,b]/\SlR P k h m.parents a/\SlR P k h m.rows b:=by
 constructor
 ·rintro ⟨c1,c2,rfl,h1,d1,d2,rfl,⟨a,rfl,h2⟩,⟨b,rfl,h3⟩⟩;rw[bj.1 h1];exact ⟨a,b,rfl,h2,h3⟩
 ·rintro ⟨a,b,rfl,h2,h3⟩;exact ⟨[.int .i64 m.card],[a,b],rfl,bj.2 rfl,[a],[b],rfl,⟨a,rfl,h2⟩,⟨b,rfl,h3⟩⟩
theorem lT {m:Net}:Rp.rp P k h m cs↔∃a,cs=[.int .i64 m.grain,a]/\SlR P k h m.nodes a:=by
 constructor
 ·rintro ⟨c1,c2,rfl,h1,⟨a,rfl,h2⟩⟩;rw[bj.1 h1];exact ⟨a,rfl,h2⟩
 ·rintro ⟨a,rfl,h2⟩;exact ⟨[.int .i64 m.grain],[a],rfl,bj.2 rfl,⟨a,rfl,h2⟩⟩
end
theorem SlR.len {α:Type} [Rp α]{P:Nat->Prop}{k:Nat}{h:H}{l:List α}{v:AV}(r:SlR P k h l v)(g:G):eN .slice v g=.val (.int .i64 (l.length:Int)):=by obtain ⟨rows,h1,h2⟩:=r.rows;rw[l8 h1,h2.len]
theorem SlR.tree {α:Type} [Rp α]{k k':Nat}{h h':H}{l:List α}{v:AV}(r:SlR NoP k h l v)(hk:k<=k'):SlR NoP k' h' l v:=by obtain ⟨w,hw,q⟩:=Rp.tree (P:=NoP) (k':=k') (h':=h') (show Rp.rp NoP k h l [v] from ⟨v,rfl,r⟩) hk;injection hw with hw;subst hw;exact q
theorem jT {α:Type} [Rp α]{P:Nat->Prop}{k:Nat}{h:H}{l:List α}{v:AV}(r:SlR P k h l v)(d:Nat)(hd:Rp.dp (List α)<=20:=by decide) :
  ∃v',Hx.snap h d aB v=some v'/\∀h',SlR NoP (max k d) h' l v':=by
 obtain ⟨v',e,w,hw,q⟩:=mJ (cd l hd) (by decide) d (show One l P k h v from ⟨v,rfl,r⟩);injection hw with hw;subst hw;exact ⟨v',e,λh'=>q.tree (Nat.le_refl _)⟩
theorem SlR.all {α:Type} [Rp α]{k:Nat}{h:H}{l:List α}{v:AV}(r:SlR NoP k h l v) :
  ∃rows:List (List AV),(∀h',ah h' (Rp.sz α) v=some rows)/\rows.length=l.length/\(∀(i:Nat) (x:α),l[i]?=some x->∃row,rows[i]?=some row/\Rp.rp NoP k .nil x row)/\(0<l.length->rB v=true):=by
 have r0:=(r.tree (h':=.nil) (Nat.le_refl _));obtain ⟨rows,h1,h2⟩:=r0.rows;refine ⟨rows,λh'=>?_,h2.len.symm,λi x hi=>h2.get hi,λhl=>D9 h1 (i:=0) (by rw[<-h2.len];exact hl)⟩;rw[<-h1];exact o8 λid ep off len lim e=>by subst e;exact r.2.1.elim
theorem s8 {P:Nat->Prop}{k:Nat}{h:H}{l:List Nat}{v:AV}(r:SlR P k h l v):∀x∈l,x<18446744073709551616:=by obtain ⟨rows,h1,h2⟩:=r.rows;intro x hx;obtain ⟨i,hi,e⟩:=List.mem_iff_getElem.1 hx;obtain ⟨row,h3,h4⟩:=h2.get (i:=i) (a:=x) (by rw[List.getElem?_eq_getElem hi,e]);exact (xn.1 h4).2
end
end Hx
end
section
namespace Hx
open Go
noncomputable section
theorem rJ {C:Cfg}{nt d:Nat}{rd:Option Nat}{c:Code}{t:T}{df:List ADf}{g:G}{Q:QT}(h:wp C d rd (dA C nt c) Q t df g):((I C).code nt d rd c t df g).sat Q:=by rw[we];exact ET _ _ _ _ _ h
end
end Hx
end
