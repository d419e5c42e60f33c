/- A part of the proof: an interpreter over abstract values, shown right against the model, and what the functions of the chapter compute on it. -/
import Derived.KernelRfl
import Derived.Test.YtjddchnjpobmkaaHx8
set_option linter.unusedVariables false
set_option linter.unusedSimpArgs false
set_option linter.unnecessarySimpa false
section
namespace Hx
open Go
set_option maxRecDepth 100000
noncomputable section
def C0:Cfg:=Go.Proofs.Ytjddchnjpobmkaa.Gen.cfg1
def l9:Cfg:=Go.Proofs.Ytjddchnjpobmkaa.Gen.cfg0
theorem CX:CfgOk l9:=Go.Proofs.Ytjddchnjpobmkaa.Gen.cfg0Ok
abbrev tII:Nat:=118
abbrev N.a9:Nat:=137
abbrev N.aM:Nat:=142
abbrev N.aU:Nat:=40
abbrev N.ba:Nat:=43
abbrev N.aw:Nat:=41
abbrev N.aP:Nat:=90
abbrev N.aD:Nat:=119
abbrev N.aa:Nat:=130
abbrev N.aZ:Nat:=91
abbrev N.aC:Nat:=88
abbrev N.ae:Nat:=89
abbrev N.af:Nat:=118
abbrev N.aQ:Nat:=79
abbrev N.aK:Nat:=80
abbrev N.bm:Nat:=114
abbrev N.aA:Nat:=113
abbrev N.aR:Nat:=115
abbrev N.aE:Nat:=124
abbrev N.aF:Nat:=23
abbrev N.aI:Nat:=19
abbrev N.aN:Nat:=51
abbrev N.bj:Nat:=65
abbrev N.aW:Nat:=64
abbrev N.aH:Nat:=52
abbrev N.am:Nat:=99
abbrev N.aJ:Nat:=53
abbrev N.aY:Nat:=100
abbrev N.br:Nat:=8
abbrev N.ax:Nat:=22
abbrev N.an:Nat:=66
abbrev N.bw:Nat:=9
abbrev N.aX:Nat:=98
abbrev N.bc:Nat:=97
abbrev N.aL:Nat:=37
abbrev N.ay:Nat:=35
abbrev N.bo:Nat:=120
abbrev N.aO:Nat:=111
abbrev N.au:Nat:=78
abbrev N.aB:Nat:=123
abbrev N.ak:Nat:=133
abbrev N.bi:Nat:=112
abbrev N.bk:Nat:=95
abbrev N.bf:Nat:=94
abbrev N.aG:Nat:=47
abbrev N.aT:Nat:=48
abbrev N.a_:Nat:=96
abbrev N.bg:Nat:=10
abbrev N.bp:Nat:=30
abbrev N.be:Nat:=49
abbrev N.ap:Nat:=50
abbrev N.aS:Nat:=131
abbrev N.ac:Nat:=31
abbrev N.aq:Nat:=42
abbrev N.ah:Nat:=44
abbrev N.bh:Nat:=129
abbrev N.bu:Nat:=132
abbrev N.aV:Nat:=138
def iZ:SC:=.ops [oA 49 37,oM 37 49]
def eF:SC:=sQ [o 38 (.bin .lss (.t 37) (.t 36))] (.seq (.cond (.t 38) (.skip) (.exit 0)) (.seq (.blk 1 (sQ [oM 39 37,oM 10 39] (sQ [oM 40 2,oM 41 10,o 42 (.bin .shr (.t 40) (.t 41)),o 43 (.bin .and (.t 42) (.k (.int .u64 1))),o 44 (.bin .eql (.t 43) (.k (.int .u64 1)))] (.cond (.t 44) (.ops [oM 45 9,oM 46 10,o 47 (.bsl 1 1 [.int .i64 0] [0] [.t 46]),o 48 (.app 1 8 (.t 45) (.t 47)),oM 9 48]) (.skip))))) iZ))
def eK:SC:=sQ [o 87 (.bin .lss (.t 86) (.t 85))] (.seq (.cond (.t 87) (.skip) (.exit 2)) (.seq (.blk 3 (sQ [oM 88 86,oX 89 84 86,oL 90 89,oM 15 88,oM 16 90] (.seq (.feet [0,0,0,4,0,0,32,124,255,511,1023,1023,0,6143,16383] [o 92 (.load true 2 (.t 7)),oM 93 8,oM 94 9,o 95 (.call N.ac [.t 94]),oM 96 15,oM 97 15,oA 98 97,o 99 (.call N.aq [.t 95,.t 96,.t 98]),o 100 (.call N.aI [.t 92,.t 93,.t 99]),oM 91 100,o 101 (.ext (.t 91) 0),o 102 (.ext (.t 91) 1),o 17 (.alloc [.nils,.nils,.nils]),oz (.store 3 (.t 17) (.t 101)),oM 18 102]) (sQ [o 104 (.load true 3 (.t 11)),oM 105 16,o 106 (.call N.ba [.t 104,.t 105]),oM 103 106,o 107 (.ext (.t 103) 0),o 108 (.ext (.t 103) 1),o 19 (.alloc [.nils,.nils,.nils]),oz (.store 3 (.t 19) (.t 107)),oM 20 108] (sQ [oM 109 18,o 110 (.bin .neq (.t 109) (qI 0)),oM 111 110,og 112 111 false (.mv (.t 20)),og 113 111 false (.bin .neq (.t 112) (qI 0)),o 114 (.pick (.t 111) (.k (.bool true)) (.t 113)),oM 115 114,og 116 115 false (.fad 0 (.t 19)),og 117 115 false (.load false 1 (.t 116)),og 118 115 false (.fad 0 (.t 17)),og 119 115 false (.load false 1 (.t 118)),og 120 115 false (.call N.ah [.t 117,.t 119]),og 121 115 false (.not (.t 120)),o 122 (.pick (.t 115) (.k (.bool true)) (.t 121)),oM 123 122,og 124 123 false (.fad 1 (.t 19)),og 125 123 false (.load false 1 (.t 124)),og 126 123 false (.fad 1 (.t 17)),og 127 123 false (.load false 1 (.t 126)),og 128 123 false (.call N.ah [.t 125,.t 127]),og 129 123 false (.not (.t 128)),o 130 (.pick (.t 123) (.k (.bool true)) (.t 129)),oM 131 130,og 132 131 false (.fad 2 (.t 19)),og 133 131 false (.load false 1 (.t 132)),og 134 131 false (.fad 2 (.t 17)),og 135 131 false (.load false 1 (.t 134)),og 136 131 false (.call N.ah [.t 133,.t 135]),og 137 131 false (.not (.t 136)),o 138 (.pick (.t 131) (.k (.bool true)) (.t 137))] (.cond (.t 138) (sQ [o 6 (.mv (.k (.bool false)))] (.ret)) (.skip))))))) (.ops [oA 139 86,oM 86 139])))
def eN:SC:=sQ [o 172 (.bin .lss (.t 171) (.t 170))] (.seq (.cond (.t 172) (.skip) (.exit 6)) (.seq (.blk 7 (sQ [oM 173 171,oX 174 169 171,oL 175 174,oM 25 173,oM 26 175] (sQ [oM 176 26,o 177 (.bin .geq (.t 176) (qI 0)),oM 178 177,og 179 178 true (.mv (.t 23)),og 180 178 true (.mv (.t 25)),og 181 178 true (.ixs 1 (.t 179) (.t 180)),og 182 178 true (.load false 1 (.t 181)),og 183 178 true (.mv (.t 26)),og 184 178 true (.bin .neq (.t 182) (.t 183)),o 185 (.pick (.t 178) (.t 184) (.k (.bool false)))] (.cond (.t 185) (.seq (sQ [oM 186 22,o 187 (.bin .neq (.t 186) (qI 0))] (.cond (.t 187) (sQ [o 6 (.mv (.k (.bool false)))] (.ret)) (.skip))) (sQ [o 23 (.mv (.k (.nils)))] (.exit 6))) (.skip))))) (.ops [oA 188 171,oM 171 188])))
def i8:SC:=.seq (.feet [0,1,3,7,15,7,7,127,255,255,1023,2047,4095] [oM 189 23,o 190 (.eq true .slice (.t 189) (.k (.nils))),oM 191 190,og 192 191 true (.mv (.t 22)),og 193 191 true (.call N.ax [.t 192]),og 194 191 true (.load true 2 (.t 7)),og 195 191 true (.mv (.t 21)),og 196 191 true (.call N.ay [.t 194,.t 195]),og 197 191 true (.ext (.t 196) 0),og 198 191 true (.ext (.t 196) 1),og 199 191 true (.dyn (.t 193) [.t 197,.t 198]),og 200 191 true (.not (.t 199)),o 201 (.pick (.t 191) (.t 200) (.k (.bool false)))]) (.cond (.t 201) (sQ [o 6 (.mv (.k (.bool false)))] (.ret)) (.skip))
def jh:SC:=.ops [oA 202 149,oM 149 202]
def eZ:SC:=sQ [o 150 (.bin .lss (.t 149) (.t 148))] (.seq (.cond (.t 150) (.skip) (.exit 4)) (.seq (.blk 5 (sQ [oM 151 149,oX 152 147 149,oL 153 152,oM 21 151,oM 22 153] (sQ [o 155 (.load true 2 (.t 7)),oM 156 21,o 157 (.call N.aL [.t 155,.t 156]),oM 154 157,o 158 (.ext (.t 154) 0),o 159 (.ext (.t 154) 1),oM 23 158,oM 24 159] (.seq (sQ [oM 160 24,o 161 (.bin .neq (.t 160) (qI 0)),oM 162 161,og 163 162 false (.mv (.t 23)),og 164 162 false (.len .slice (.t 163)),og 165 162 false (.mv (.t 8)),og 166 162 false (.len .slice (.t 165)),og 167 162 false (.bin .neq (.t 164) (.t 166)),o 168 (.pick (.t 162) (.k (.bool true)) (.t 167))] (.cond (.t 168) (sQ [o 6 (.mv (.k (.bool false)))] (.ret)) (.skip))) (.seq (sQ [oM 169 8,oN 170 169,oK 171 0] (.blk 6 (.loop eN))) i8))))) jh))
def i_:SC:=sQ [o 6 (.mv (.k (.bool true)))] (.ret)
def jj:SC:=.seq (sQ [oM 140 9,oN 141 140,oF 142 1 7,oL 143 142,oN 144 143,o 145 (.bin .lss (.t 141) (.t 144))] (.cond (.t 145) (sQ [o 6 (.mv (.k (.bool true)))] (.ret)) (.skip))) (.seq (sQ [oF 146 2 11,oL 147 146,oN 148 147,oK 149 0] (.blk 4 (.loop eZ))) i_)
def jg:SC:=sQ [o 51 (.load true 2 (.t 7)),oM 52 8,oM 53 9,o 54 (.call N.aI [.t 51,.t 52,.t 53]),oM 50 54,o 55 (.ext (.t 50) 0),o 56 (.ext (.t 50) 1),o 11 (.alloc [.nils,.nils,.nils]),oz (.store 3 (.t 11) (.t 55)),oM 12 56] (sQ [o 58 (.load true 2 (.t 7)),oM 59 8,o 60 (.call N.aF [.t 58,.t 59]),oM 57 60,o 61 (.ext (.t 57) 0),o 62 (.ext (.t 57) 1),oM 13 61,oM 14 62] (.seq (.seq (.feet [0,1,3,7,15,31,63,127,255,511,1023,2047,4095,8191,4095,32767,65535,65535,262143,524287,1048575] [oM 63 12,o 64 (.bin .neq (.t 63) (qI 0)),oM 65 64,og 66 65 false (.mv (.t 14)),og 67 65 false (.bin .neq (.t 66) (qI 0)),o 68 (.pick (.t 65) (.k (.bool true)) (.t 67)),oM 69 68,og 70 69 false (.load true 3 (.t 11)),og 71 69 false (.call N.aU [.t 70]),og 72 69 false (.bin .neq (.t 71) (qI 0)),o 73 (.pick (.t 69) (.k (.bool true)) (.t 72)),oM 74 73,og 75 74 false (.mv (.t 13)),og 76 74 false (.call N.ax [.t 75]),og 77 74 false (.load true 3 (.t 11)),og 78 74 false (.call N.aw [.t 77]),og 79 74 false (.ext (.t 78) 0),og 80 74 false (.ext (.t 78) 1),og 81 74 false (.dyn (.t 76) [.t 79,.t 80]),og 82 74 false (.not (.t 81)),o 83 (.pick (.t 74) (.k (.bool true)) (.t 82))]) (.cond (.t 83) (sQ [o 6 (.mv (.k (.bool false)))] (.ret)) (.skip))) (.seq (sQ [oM 84 9,oN 85 84,oK 86 0] (.blk 2 (.loop eK))) jj)))
def jG:SC:=.seq (sQ [o 27 (.call N.bw []),o 28 (.not (.t 27))] (.cond (.t 28) (sQ [o 6 (.mv (.k (.bool false)))] (.ret)) (.skip))) (sQ [o 29 (.load true 3 (.t 3)),o 30 (.call N.bg [.t 29]),o 7 (.alloc [.int .i64 0,.nils]),oz (.store 2 (.t 7) (.t 30))] (sQ [o 31 (.load true 9 (.t 4)),o 32 (.load true 2 (.t 7)),o 33 (.call N.bp [.t 31,.t 32]),oM 8 33] (sQ [o 9 (.mv (.k (.nils)))] (.seq (sQ [oF 34 1 7,oL 35 34,oN 36 35,oK 37 0] (.blk 0 (.loop eF))) jg))))
def gR:SF:=⟨203,[.tm 6],sQ [o 3 (.box (.t 0)),o 4 (.box (.t 1)),o 6 (.mv (.k (.bool false)))] jG⟩
def pH:SC:=sQ [oM 65 6,oM 66 9,o 67 (.bin .mul (.t 65) (.t 66)),oM 6 67] (.feet [0,1,0,0,12,28,0,127,255,511] [oF 68 1 4,oL 69 68,oM 70 5,oM 71 7,oX 72 70 71,oL 73 72,oM 74 9,o 75 (.ixs 3 (.t 69) (.t 73)),oF 76 0 75,oz (.store 1 (.t 76) (.t 74))])
def ql:SC:=sQ [oF 50 0 8,oL 51 50,o 52 (.bin .rem (.t 51) (.k (.int .u8 2))),o 53 (.conv .i64 (.t 52)),o 54 (.bin .add (qI 2) (.t 53)),oM 9 54] (.seq (sQ [oM 55 6,oM 56 9,o 57 (.bin .mul (.t 55) (.t 56)),oM 58 3,o 59 (.bin .sub (.t 58) (qI 1)),oM 60 7,o 61 (.bin .sub (.t 59) (.t 60)),o 62 (.conv .u64 (.t 61)),o 63 (.bin .shl (.t 57) (.t 62)),o 64 (.bin .gtr (.t 63) (qI 100))] (.cond (.t 64) (.ops [oK 9 2]) (.skip))) pH)
def i6:SC:=.ops [oM 38 7,oA 39 38,oM 7 39]
def eP:SC:=.seq (sQ [oM 35 7,oM 36 3,o 37 (.bin .lss (.t 35) (.t 36))] (.cond (.t 37) (.skip) (.exit 0))) (.seq (.blk 1 (sQ [o 8 (.alloc [.int .u8 0,.int .u8 0,.nils])] (.seq (sQ [oM 40 7,oF 41 1 1,oL 42 41,oN 43 42,o 44 (.bin .lss (.t 40) (.t 43))] (.cond (.t 44) (.ops [oF 45 1 1,oL 46 45,oM 47 7,o 48 (.ixs 3 (.t 46) (.t 47)),o 49 (.load true 3 (.t 48)),oz (.store 3 (.t 8) (.t 49))]) (.skip))) ql))) i6)
def jl:SC:=.ops [oM 104 14,oA 105 104,oM 14 105]
def eO:SC:=.seq (sQ [oM 101 14,oM 102 10,o 103 (.bin .lss (.t 101) (.t 102))] (.cond (.t 103) (.skip) (.exit 6))) (.seq (.blk 7 (sQ [oM 106 5,oM 107 14,oX 108 106 107,oL 109 108,oM 110 13,o 111 (.bin .eql (.t 109) (.t 110)),oM 112 111,og 113 112 true (.fad 1 (.t 11)),og 114 112 true (.load false 1 (.t 113)),og 115 112 true (.mv (.t 14)),og 116 112 true (.conv .u64 (.t 115)),og 117 112 true (.bin .shr (.t 114) (.t 116)),og 118 112 true (.bin .and (.t 117) (.k (.int .u8 1))),og 119 112 true (.bin .eql (.t 118) (.k (.int .u8 1))),o 120 (.pick (.t 112) (.t 119) (.k (.bool false))),oM 121 120,og 122 121 true (.fad 1 (.t 4)),og 123 121 true (.load false 1 (.t 122)),og 124 121 true (.mv (.t 12)),og 125 121 true (.ixs 3 (.t 123) (.t 124)),og 126 121 true (.fad 1 (.t 125)),og 127 121 true (.load false 1 (.t 126)),og 128 121 true (.len .slice (.t 127)),og 129 121 true (.bin .lss (.t 128) (qI 3)),o 130 (.pick (.t 121) (.t 129) (.k (.bool false)))] (.cond (.t 130) (.feet [0,1,0,0,8,0,56,120,248,0,512,2040,4095,8191,16383] [oF 131 1 4,oL 132 131,oM 133 12,oF 134 1 4,oL 135 134,oM 136 12,o 137 (.ixs 3 (.t 135) (.t 136)),oF 138 1 137,oL 139 138,oM 140 13,o 141 (.bsl 1 1 [.int .i64 0] [0] [.t 140]),o 142 (.app 1 8 (.t 139) (.t 141)),o 143 (.ixs 3 (.t 132) (.t 133)),oF 144 1 143,oz (.store 1 (.t 144) (.t 142))]) (.skip)))) jl)
def jf:SC:=.ops [oM 99 13,oA 100 99,oM 13 100]
def eV:SC:=.seq (sQ [oM 96 13,oM 97 3,o 98 (.bin .lss (.t 96) (.t 97))] (.cond (.t 98) (.skip) (.exit 4))) (.seq (.blk 5 (sQ [oK 14 0] (.blk 6 (.loop eO)))) jf)
def eB:SC:=.seq (sQ [oM 145 15,o 146 (.load true 2 (.t 4)),oM 147 12,o 148 (.call N.be [.t 146,.t 147]),o 149 (.call N.aT [.t 148]),o 150 (.bin .lss (.t 145) (.t 149))] (.cond (.t 150) (.skip) (.exit 8))) (.seq (.blk 9 (.feet [0,1,0,0,8,0,56,120,248,0,512,0,2048,0,14336,30720,63488,0,131072,0,0,1048576,0,7340032,15728640,32505856,66060288,133693440,268434944,536870400,1073741816,2147483647,4294967295,8589934591] [oF 153 1 4,oL 154 153,oM 155 12,oF 156 1 4,oL 157 156,oM 158 12,o 159 (.ixs 3 (.t 157) (.t 158)),oF 160 2 159,oL 161 160,oF 162 0 4,oL 163 162,oF 164 1 4,oL 165 164,oM 166 12,o 167 (.ixs 3 (.t 165) (.t 166)),oF 168 0 167,oL 169 168,oF 170 2 11,oL 171 170,oM 172 15,oF 173 1 4,oL 174 173,oM 175 12,o 176 (.ixs 3 (.t 174) (.t 175)),oF 177 0 176,oL 178 177,oA 179 178,o 180 (.bin .mul (.t 172) (.t 179)),o 181 (.call N.ap [.t 163,.t 169,.t 171,.t 180]),o 182 (.bsl 1 1 [.nils] [0] [.t 181]),o 183 (.app 1 24 (.t 161) (.t 182)),o 184 (.ixs 3 (.t 154) (.t 155)),oF 185 2 184,oz (.store 1 (.t 185) (.t 183))])) (.ops [oM 151 15,oA 152 151,oM 15 152]))
def je:SC:=sQ [oK 15 0] (.blk 8 (.loop eB))
def ij:SC:=sQ [oM 92 5,oM 93 10,oX 94 92 93,oL 95 94,oM 12 95] (.seq (sQ [oK 13 0] (.blk 4 (.loop eV))) je)
def ip:SC:=.ops [oM 80 10,oA 81 80,oM 10 81]
def d9:SC:=.seq (sQ [oM 77 10,oM 78 3,o 79 (.bin .lss (.t 77) (.t 78))] (.cond (.t 79) (.skip) (.exit 2))) (.seq (.blk 3 (sQ [o 11 (.alloc [.int .u8 0,.int .u8 0,.nils])] (.seq (sQ [oM 82 10,oF 83 1 1,oL 84 83,oN 85 84,o 86 (.bin .lss (.t 82) (.t 85))] (.cond (.t 86) (.ops [oF 87 1 1,oL 88 87,oM 89 10,o 90 (.ixs 3 (.t 88) (.t 89)),o 91 (.load true 3 (.t 90)),oz (.store 3 (.t 11) (.t 91))]) (.skip))) ij))) ip)
def iz:SC:=sQ [o 186 (.load true 2 (.t 4)),oz (.store 2 (.t 2) (.t 186))] (.ret)
def im:SC:=.seq (sQ [oK 10 0] (.blk 2 (.loop d9))) iz
def jI:SC:=sQ [oF 16 1 1,oL 17 16,oN 18 17,o 19 (.mx (.t 18) (qI 1)),o 20 (.mn (.t 19) (qI 5)),oM 3 20] (.seq (.feet [0,1,3,7,15,0,32,127,0,511] [oF 21 0 1,oL 22 21,o 23 (.bin .rem (.t 22) (.k (.int .u8 60))),o 24 (.conv .i64 (.t 23)),o 25 (.bin .add (qI 1) (.t 24)),oM 26 3,o 27 (.mks 3 56 [.int .i64 0,.nils,.nils] (.t 26) (.t 26)),o 28 (.build [.int .i64 0,.nils] [(0,1),(1,1)] [.t 25,.t 27]),o 4 (.alloc [.int .i64 0,.nils]),oz (.store 2 (.t 4) (.t 28))]) (.seq (.feet [0,1,0,4,15,31,63] [oM 29 3,o 30 (.mks 1 1 [.int .u8 0] (.t 29) (.t 29)),oF 31 2 1,oL 32 31,o 33 (.build [.nils,.int .u16 0,.nils] [(0,1),(2,1)] [.t 30,.t 32]),o 34 (.call N.aG [.t 33]),oM 5 34]) (sQ [oK 6 1] (.seq (sQ [oK 7 0] (.blk 0 (.loop eP))) im))))
def h_:SF:=⟨187,[.cell true 2 2],sQ [o 1 (.box (.t 0)),o 2 (.alloc [.int .i64 0,.nils])] jI⟩
def iF:SC:=sQ [o 35 (.bin .lss (.t 34) (.t 33))] (.seq (.cond (.t 35) (.skip) (.exit 0)) (.seq (.blk 1 (sQ [oX 36 32 34,oL 37 36,oM 13 37] (.seq (sQ [oM 38 13,oM 39 10,o 40 (.bin .leq (.t 38) (.t 39)),oM 41 40,og 42 41 false (.mv (.t 13)),og 43 41 false (.fad 0 (.t 8)),og 44 41 false (.fad 1 (.t 43)),og 45 41 false (.load false 1 (.t 44)),og 46 41 false (.len .slice (.t 45)),og 47 41 false (.bin .geq (.t 42) (.t 46)),o 48 (.pick (.t 41) (.k (.bool true)) (.t 47))] (.cond (.t 48) (sQ [o 49 (.build [.nils,.nils,.nils] [] []),oz (.store 3 (.t 6) (.t 49)),oK 7 2] (.ret)) (.skip))) (sQ [oM 50 13,oM 10 50] (.feet [0,0,2,7,15] [oL 51 11,oM 52 13,o 53 (.bin .shl (.k (.int .u64 1)) (.t 52)),o 54 (.bin .or (.t 51) (.t 53)),oz (.store 1 (.t 11) (.t 54))]))))) (.ops [oA 55 34,oM 34 55])))
def iE:SC:=sQ [o 60 (.bin .lss (.t 59) (.t 58))] (.seq (.cond (.t 60) (.skip) (.exit 2)) (.seq (.blk 3 (sQ [oX 61 57 59,oL 62 61,oM 17 62] (sQ [oF 63 0 14,oL 64 63,oM 65 17,o 66 (.bsl 1 1 [.int .i64 0] [0] [.t 65]),o 67 (.app 1 8 (.t 64) (.t 66)),oF 68 0 14,oz (.store 1 (.t 68) (.t 67))] (.seq (.feet [0,1,0,4,12,0,60,124,252,508,1023,2047,4095] [oF 69 1 14,oL 70 69,oF 71 0 8,oF 72 1 71,oL 73 72,oM 74 17,o 75 (.ixs 3 (.t 73) (.t 74)),oF 76 0 75,oL 77 76,o 78 (.bsl 1 1 [.int .i64 0] [0] [.t 77]),o 79 (.app 1 8 (.t 70) (.t 78)),oF 80 1 14,oz (.store 1 (.t 80) (.t 79))]) (.ops [oM 81 15,oF 82 0 8,oF 83 1 82,oL 84 83,oM 85 17,o 86 (.ixs 3 (.t 84) (.t 85)),oF 87 0 86,oL 88 87,o 89 (.bin .mul (.t 81) (.t 88)),oM 15 89]))))) (.ops [oA 90 59,oM 59 90])))
def na:SC:=.ops [o 19 (.alloc [.int .i64 0,.int .i64 0,.nils]),oz (.store 3 (.t 19) (.t 95))]
def nf:SC:=.blk 5 (.feet [0,0,0,4,0,30,63,0,128,511,1023] [oL 96 18,o 97 (.load true 4 (.t 8)),oF 98 2 19,oL 99 98,oL 100 11,o 101 (.call N.aJ [.t 97,.t 99,.t 100]),o 102 (.raw (.lookup 118 (.tmp 96) (.tmp 101) false)),oF 103 1 19,oL 104 103,o 105 (.bin .add (.t 102) (.t 104)),oz (.raw (.mapUpdate 118 (.tmp 96) (.tmp 101) (.tmp 105)))])
def mL:SC:=sQ [o 113 (.bin .lss (.t 112) (.t 111))] (.seq (.cond (.t 113) (.skip) (.exit 6)) (.seq (.blk 7 (sQ [oM 114 112,oM 20 114] (.ops [oF 115 2 14,oL 116 115,oM 117 20,oL 118 18,oM 119 20,o 120 (.raw (.lookup 118 (.tmp 118) (.tmp 119) false)),oX 121 116 117,oz (.store 1 (.t 121) (.t 120))]))) (.ops [oA 122 112,oM 112 122])))
def iK:SC:=sQ [o 123 (.load true 3 (.t 14)),oz (.store 3 (.t 6) (.t 123)),oK 7 0] (.ret)
def iG:SC:=sQ [oM 106 15,o 107 (.mks 1 8 [.int .i64 0] (.t 106) (.t 106)),oF 108 2 14,oz (.store 1 (.t 108) (.t 107))] (.seq (sQ [oF 109 2 14,oL 110 109,oN 111 110,oK 112 0] (.blk 6 (.loop mL))) iK)
def m7:SC:=sQ [o 91 (.raw (.makeMap 118 none)),o 18 (.alloc [.nilm]),oz (.store 1 (.t 18) (.t 91))] (.seq (sQ [o 92 (.load true 4 (.t 8)),oM 93 1,o 94 (.call N.aH [.t 92,.t 93])] (.blk 4 (.rng 124 (.t 94) [95] na nf))) iG)
def np:SC:=sQ [o 56 (.build [.nils,.nils,.nils] [] []),o 14 (.alloc [.nils,.nils,.nils]),oz (.store 3 (.t 14) (.t 56)),oK 15 1] (.seq (sQ [oM 57 2,oN 58 57,oK 59 0] (.blk 2 (.loop iE))) m7)
def oU:SC:=sQ [o 22 (.load true 2 (.t 3)),oM 23 1,o 24 (.bsl 1 1 [.nils] [0] [.t 23]),o 25 (.call N.aN [.t 22,.t 24]),oM 21 25,o 26 (.ext (.t 21) 0),o 27 (.ext (.t 21) 1),o 8 (.alloc [.int .i64 0,.nils,.nils,.nils]),oz (.store 4 (.t 8) (.t 26)),oM 9 27] (.seq (sQ [oM 28 9,o 29 (.bin .neq (.t 28) (qI 0))] (.cond (.t 29) (sQ [o 30 (.build [.nils,.nils,.nils] [] []),oM 31 9,oz (.store 3 (.t 6) (.t 30)),oM 7 31] (.ret)) (.skip))) (sQ [o 11 (.alloc [.int .u64 0]),oK 10 (-1),oz (.store 1 (.t 11) (.k (.int .u64 0)))] (.seq (sQ [oM 32 2,oN 33 32,oK 34 0] (.blk 0 (.loop iF))) np)))
def lZ:SF:=⟨124,[.cell true 3 6,.tm 7],sQ [o 3 (.box (.t 0)),o 6 (.alloc [.nils,.nils,.nils]),oK 7 0] oU⟩
def o9:SC:=sQ [o 3 (.mkf N.an [] [.t 1]),oM 2 3] (.ret)
def mD:SF:=⟨4,[.tm 2],sQ [o 1 (.box (.t 0)),o 2 (.mv (.k (.nilf)))] o9⟩
def px:SC:=sQ [o 9 (.load true 2 (.t 2)),oM 10 1,o 11 (.bsl 1 1 [.nils] [0] [.t 10]),o 12 (.call N.aN [.t 9,.t 11]),oM 8 12,o 13 (.ext (.t 8) 0),o 14 (.ext (.t 8) 1),o 6 (.alloc [.int .i64 0,.nils,.nils,.nils]),oz (.store 4 (.t 6) (.t 13)),oM 7 14] (.seq (sQ [oM 15 7,o 16 (.bin .neq (.t 15) (qI 0))] (.cond (.t 16) (sQ [oM 17 7,oK 4 0,oM 5 17] (.ret)) (.skip))) (sQ [o 18 (.load true 4 (.t 6)),oM 19 1,o 20 (.call N.aW [.t 18,.t 19]),oM 4 20,oK 5 0] (.ret)))
def nQ:SF:=⟨21,[.tm 4,.tm 5],sQ [o 2 (.box (.t 0)),oK 4 0,oK 5 0] px⟩
def fE:SC:=.ops [oM 34 5,oM 35 7,o 36 (.bsl 1 1 [.int .i64 0] [0] [.t 35]),o 37 (.app 1 8 (.t 34) (.t 36)),oM 5 37]
def qR:SC:=.ops [oM 13 6,oA 14 13,oM 6 14]
def qQ:SC:=.seq (sQ [oM 8 6,oF 9 1 3,oL 10 9,oN 11 10,o 12 (.bin .lss (.t 8) (.t 11))] (.cond (.t 12) (.skip) (.exit 0))) (.seq (.blk 1 (sQ [oK 7 (-1)] (.seq (sQ [oF 15 0 2,oL 16 15,oM 17 6,o 18 (.conv .u64 (.t 17)),o 19 (.bin .shr (.t 16) (.t 18)),o 20 (.bin .and (.t 19) (.k (.int .u8 1))),o 21 (.bin .eql (.t 20) (.k (.int .u8 1)))] (.cond (.t 21) (.quiet [oM 22 6,oF 23 1 2,o 24 (.ixa 8 1 (.t 23) (.t 22)),oL 25 24,o 26 (.conv .i64 (.t 25)),oF 27 1 3,oL 28 27,oM 29 6,o 30 (.ixs 3 (.t 28) (.t 29)),oF 31 0 30,oL 32 31,o 33 (.bin .rem (.t 26) (.t 32)),oM 7 33]) (.skip))) fE))) qR)
def jF:SC:=sQ [oM 38 5,oM 4 38] (.ret)
def kV:SC:=sQ [o 5 (.mv (.k (.nils)))] (.seq (sQ [oK 6 0] (.blk 0 (.loop qQ))) jF)
def iB:SF:=⟨39,[.tm 4],sQ [o 2 (.box (.t 0)),o 3 (.box (.t 1)),o 4 (.mv (.k (.nils)))] kV⟩
def be:SF:=⟨8,[.tm 2],sQ [o 2 (.mv (.k (.nils)))] (.seq (sQ [oM 3 0,o 4 (.eq false .slice (.t 3) (.k (.nils)))] (.cond (.t 4) (sQ [o 2 (.mv (.k (.nils)))] (.ret)) (.skip))) (sQ [o 5 (.bsl 1 0 [.int .i64 0] [] []),oM 6 0,o 7 (.app 1 8 (.t 5) (.t 6)),oM 2 7] (.ret)))⟩
def jp:SC:=sQ [o 46 (.bin .lss (.t 45) (.t 44))] (.seq (.cond (.t 46) (.skip) (.exit 2)) (.seq (.blk 3 (sQ [oX 47 43 45,oL 48 47,oM 14 48] (.quiet [oM 49 12,oF 50 2 6,oL 51 50,oM 52 14,oX 53 51 52,oL 54 53,o 55 (.bin .mul (.t 49) (.t 54)),oM 56 8,oM 57 14,oX 58 56 57,oL 59 58,o 60 (.bin .add (.t 55) (.t 59)),oM 12 60]))) (.ops [oA 61 45,oM 45 61])))
def oS:SC:=.quiet [oM 62 9,oF 63 2 11,oL 64 63,oM 65 12,oX 66 64 65,oL 67 66,oM 68 8,oM 69 10,oX 70 68 69,oL 71 70,oX 72 67 71,oL 73 72,o 74 (.bin .mul (.t 62) (.t 73)),oM 9 74]
def oT:SC:=.ops [oA 75 37,oM 37 75]
def oY:SC:=sQ [o 38 (.bin .lss (.t 37) (.t 36))] (.seq (.cond (.t 38) (.skip) (.exit 0)) (.seq (.blk 1 (sQ [oM 39 37,o 40 (.ixs 3 (.t 35) (.t 37)),o 41 (.load true 3 (.t 40)),o 11 (.alloc [.int .i64 0,.nils,.nils]),oM 10 39,oz (.store 3 (.t 11) (.t 41))] (sQ [oK 12 0] (.seq (sQ [oF 42 1 11,oL 43 42,oN 44 43,oK 45 0] (.blk 2 (.loop jp))) oS)))) oT))
def o8:SC:=sQ [oM 76 9,oM 4 76,oK 5 0] (.ret)
def qk:SC:=sQ [o 16 (.load true 2 (.t 2)),o 17 (.call N.au [.t 16]),oM 15 17,o 18 (.ext (.t 15) 0),o 19 (.ext (.t 15) 1),o 6 (.alloc [.int .i64 0,.nils,.nils,.nils,.nils]),oz (.store 5 (.t 6) (.t 18)),oM 7 19] (.seq (sQ [oM 20 7,o 21 (.bin .neq (.t 20) (qI 0))] (.cond (.t 21) (sQ [oM 22 7,oK 4 0,oM 5 22] (.ret)) (.skip))) (sQ [oF 24 2 6,oL 25 24,oM 26 1,o 27 (.call N.aK [.t 25,.t 26]),oM 23 27,o 28 (.ext (.t 23) 0),o 29 (.ext (.t 23) 1),oM 8 28,oM 7 29] (.seq (sQ [oM 30 7,o 31 (.bin .neq (.t 30) (qI 0))] (.cond (.t 31) (sQ [oM 32 7,oK 4 0,oM 5 32] (.ret)) (.skip))) (sQ [oK 9 1] (.seq (sQ [oF 33 0 6,oF 34 1 33,oL 35 34,oN 36 35,oK 37 0] (.blk 0 (.loop oY))) o8)))))
def ox:SF:=⟨77,[.tm 4,.tm 5],sQ [o 2 (.box (.t 0)),oK 4 0,oK 5 0] qk⟩
def qq:SC:=sQ [o 9 (.load true 2 (.t 2)),o 10 (.call N.au [.t 9]),oM 8 10,o 11 (.ext (.t 8) 0),o 12 (.ext (.t 8) 1),o 6 (.alloc [.int .i64 0,.nils,.nils,.nils,.nils]),oz (.store 5 (.t 6) (.t 11)),oM 7 12] (.seq (sQ [oM 13 7,o 14 (.bin .neq (.t 13) (qI 0))] (.cond (.t 14) (sQ [oM 15 7,o 4 (.mv (.k (.nils))),oM 5 15] (.ret)) (.skip))) (sQ [oF 16 2 6,oL 17 16,oM 18 1,o 19 (.call N.aK [.t 17,.t 18]),o 20 (.ext (.t 19) 0),o 21 (.ext (.t 19) 1),oM 4 20,oM 5 21] (.ret)))
def oH:SF:=⟨22,[.tm 4,.tm 5],sQ [o 2 (.box (.t 0)),o 4 (.mv (.k (.nils))),oK 5 0] qq⟩
def nh:SC:=sQ [o 6 (.load true 3 (.t 1)),o 7 (.call N.aC [.t 6]),oM 5 7,o 8 (.ext (.t 5) 0),o 9 (.ext (.t 5) 1),o 3 (.alloc [.nils,.nils,.nils,.nils]),oz (.store 4 (.t 3) (.t 8)),oM 4 9] (sQ [oM 10 4,oM 2 10] (.ret))
def j9:SF:=⟨11,[.tm 2],sQ [o 1 (.box (.t 0)),oK 2 0] nh⟩
def nC:SC:=sQ [o 8 (.load true 3 (.t 1)),o 9 (.call N.aC [.t 8]),oM 7 9,o 10 (.ext (.t 7) 0),o 11 (.ext (.t 7) 1),o 4 (.alloc [.nils,.nils,.nils,.nils]),oz (.store 4 (.t 4) (.t 10)),oM 5 11] (.seq (sQ [oM 12 5,o 13 (.bin .neq (.t 12) (qI 0))] (.cond (.t 13) (sQ [oM 14 5,oK 2 0,oM 3 14] (.ret)) (.skip))) (sQ [o 16 (.load true 4 (.t 4)),o 17 (.build [.nilf] [(0,1)] [.k (.clo 90 [] [])]),o 18 (.call N.ae [.t 16,.k (.nils),.t 17]),oM 15 18,o 19 (.ext (.t 15) 0),o 20 (.ext (.t 15) 1),o 6 (.alloc [.nils,.nils,.nils]),oz (.store 3 (.t 6) (.t 19)),oM 5 20] (.seq (sQ [oM 21 5,o 22 (.bin .neq (.t 21) (qI 0))] (.cond (.t 22) (sQ [oM 23 5,oK 2 0,oM 3 23] (.ret)) (.skip))) (sQ [oF 24 2 6,oL 25 24,o 26 (.ixs 1 (.t 25) (qI 0)),oL 27 26,oM 2 27,oK 3 0] (.ret)))))
def j7:SF:=⟨28,[.tm 2,.tm 3],sQ [o 1 (.box (.t 0)),oK 2 0,oK 3 0] nC⟩
def lL:SC:=sQ [o 6 (.load true 3 (.t 2)),oM 7 1,o 8 (.build [.nilf] [(0,1)] [.k (.clo 90 [] [])]),o 9 (.call N.aZ [.t 6,.t 7,.t 8]),o 10 (.ext (.t 9) 0),o 11 (.ext (.t 9) 1),oz (.store 3 (.t 4) (.t 10)),oM 5 11] (.ret)
def jx:SF:=⟨12,[.cell true 3 4,.tm 5],sQ [o 2 (.box (.t 0)),o 4 (.alloc [.nils,.nils,.nils]),oK 5 0] lL⟩
def gC:SC:=sQ [o 14 (.bin .lss (.t 13) (.t 12))] (.seq (.cond (.t 14) (.skip) (.exit 0)) (.seq (.blk 1 (sQ [oM 15 13,oM 5 15] (.seq (.quiet [oM 16 0,oM 17 5,oX 18 16 17,oL 19 18,oM 20 1,oM 21 5,oX 22 20 21,oL 23 22,o 24 (.bin .neq (.t 19) (.t 23))]) (.cond (.t 24) (sQ [o 4 (.mv (.k (.bool false)))] (.ret)) (.skip))))) (.ops [oA 25 13,oM 13 25])))
def gv:SC:=sQ [o 4 (.mv (.k (.bool true)))] (.ret)
def eQ:SF:=⟨26,[.tm 4],sQ [o 4 (.mv (.k (.bool false)))] (.seq (sQ [oM 6 0,oN 7 6,oM 8 1,oN 9 8,o 10 (.bin .neq (.t 7) (.t 9))] (.cond (.t 10) (sQ [o 4 (.mv (.k (.bool false)))] (.ret)) (.skip))) (.seq (sQ [oM 11 0,oN 12 11,oK 13 0] (.blk 0 (.loop gC))) gv))⟩
def ch:SC:=sQ [o 6 (.mv (.k (.nils)))] (sQ [oM 28 6,oM 29 3,oM 30 5,o 31 (.slc 1 (.t 29) [] [.t 30]),o 32 (.app 1 8 (.t 28) (.t 31)),oM 33 4,o 34 (.bsl 1 1 [.int .i64 0] [0] [.t 33]),o 35 (.app 1 8 (.t 32) (.t 34)),oM 6 35] (.ops [oM 36 6,oM 37 3,oM 38 5,o 39 (.slc 1 (.t 37) [.t 38] []),o 40 (.app 1 8 (.t 36) (.t 39)),oM 3 40]))
def js:SC:=.ops [oM 12 4,oA 13 12,oM 4 13]
def jy:SC:=.seq (sQ [oM 7 4,o 8 (.load true 3 (.t 1)),o 9 (.call N.bf [.t 8]),oN 10 9,o 11 (.bin .lss (.t 7) (.t 10))] (.cond (.t 11) (.skip) (.exit 0))) (.seq (.blk 1 (sQ [oK 5 0] (.seq (sQ [oM 14 4,oF 15 2 1,oL 16 15,oN 17 16,o 18 (.bin .lss (.t 14) (.t 17))] (.cond (.t 18) (.ops [oF 19 2 1,oL 20 19,oM 21 4,oX 22 20 21,oL 23 22,o 24 (.conv .i64 (.t 23)),oM 25 4,oA 26 25,o 27 (.bin .rem (.t 24) (.t 26)),oM 5 27]) (.skip))) ch))) js)
def dZ:SC:=sQ [oM 41 3,oM 2 41] (.ret)
def ea:SC:=sQ [o 3 (.mv (.k (.nils)))] (.seq (sQ [oK 4 0] (.blk 0 (.loop jy))) dZ)
def cQ:SF:=⟨42,[.tm 2],sQ [o 1 (.box (.t 0)),o 2 (.mv (.k (.nils)))] ea⟩
def u0:SC:=.seq (sQ [oM 5 4,oM 6 0,oN 7 6,o 8 (.bin .lss (.t 5) (.t 7))] (.cond (.t 8) (.skip) (.exit 0))) (.seq (.blk 1 (.ops [oM 11 3,oM 12 0,oM 13 4,oX 14 12 13,oL 15 14,o 16 (.bin .mul (.t 11) (.t 15)),oM 3 16])) (.ops [oM 9 4,oA 10 9,oM 4 10]))
def oV:SC:=sQ [oM 17 3,oM 2 17] (.ret)
def oD:SF:=⟨18,[.tm 2],sQ [oK 2 0] (sQ [oK 3 1] (.seq (sQ [oK 4 0] (.blk 0 (.loop u0))) oV))⟩
def iv:SC:=.seq (.quiet [o 5 (.load true 2 (.t 2)),o 6 (.call N.a_ [.t 5]),oF 7 1 2,oL 8 7,oM 9 1,o 10 (.ixs 3 (.t 8) (.t 9)),oF 11 1 10,oL 12 11,o 13 (.call N.bk [.t 6,.t 12]),oM 4 13]) (.ret)
def fy:SF:=⟨14,[.tm 4],sQ [o 2 (.box (.t 0)),o 4 (.mv (.k (.nils)))] iv⟩
def qp:SC:=.ops [oM 39 10,oM 40 9,oM 41 11,oX 42 40 41,oL 43 42,o 44 (.bin .add (.t 39) (.t 43)),oM 10 44]
def pJ:SC:=.ops [oM 20 11,oA 21 20,oM 11 21]
def kG:SC:=.seq (sQ [oM 17 11,oM 18 1,o 19 (.bin .lss (.t 17) (.t 18))] (.cond (.t 19) (.skip) (.exit 0))) (.seq (.blk 1 (.seq (sQ [oM 22 2,oN 23 22,o 24 (.bin .gtr (.t 23) (qI 0))] (.cond (.t 24) (.ops [oM 25 9,oM 26 11,oM 27 2,oM 28 3,oM 29 11,o 30 (.bin .add (.t 28) (.t 29)),oM 31 2,oN 32 31,o 33 (.bin .rem (.t 30) (.t 32)),oX 34 27 33,oL 35 34,o 36 (.bin .rem (.t 35) (.k (.int .u8 8))),o 37 (.conv .i64 (.t 36)),oX 38 25 26,oz (.store 1 (.t 38) (.t 37))]) (.skip))) qp)) pJ)
def qr:SC:=.ops [oM 68 12,oM 69 9,oM 70 14,oX 71 69 70,oL 72 71,o 73 (.bin .sub (.t 68) (.t 72)),oM 12 73]
def qi:SC:=.ops [oM 49 14,oA 50 49,oM 14 50]
def lB:SC:=.seq (sQ [oM 46 14,oM 47 1,o 48 (.bin .lss (.t 46) (.t 47))] (.cond (.t 48) (.skip) (.exit 2))) (.seq (.blk 3 (.seq (sQ [oM 51 9,oM 52 14,oX 53 51 52,oL 54 53,o 55 (.bin .gtr (.t 54) (qI 0))] (.cond (.t 55) (sQ [oM 56 9,oM 57 14,oM 58 0,oM 59 9,oM 60 14,oX 61 59 60,oL 62 61,o 63 (.bin .mul (.t 58) (.t 62)),oM 64 10,o 65 (.bin .quo (.t 63) (.t 64)),oX 66 56 57,oz (.store 1 (.t 66) (.t 65))] (.ops [oM 67 14,oM 13 67])) (.skip))) qr)) qi)
def qa:SC:=sQ [oM 74 9,oM 75 13,oM 76 9,oM 77 13,oX 78 76 77,oL 79 78,oM 80 12,o 81 (.bin .add (.t 79) (.t 80)),oX 82 74 75,oz (.store 1 (.t 82) (.t 81))] (sQ [oM 83 9,oM 8 83] (.ret))
def qj:SC:=sQ [oM 45 0,oM 12 45,oK 13 0] (.seq (sQ [oK 14 0] (.blk 2 (.loop lB))) qa)
def qb:SF:=⟨84,[.tm 8],sQ [o 8 (.mv (.k (.nils)))] (sQ [oM 15 1,o 16 (.mks 1 8 [.int .i64 0] (.t 15) (.t 15)),oM 9 16] (sQ [oK 10 0] (.seq (sQ [oK 11 0] (.blk 0 (.loop kG))) qj)))⟩
def qv:SC:=sQ [o 28 (.bin .lss (.t 27) (.t 26))] (.seq (.cond (.t 28) (.skip) (.exit 0)) (.seq (.blk 1 (sQ [oX 29 25 27,oL 30 29,oM 9 30] (sQ [o 31 (.load true 2 (.t 2)),oM 32 9,o 33 (.call N.aX [.t 31,.t 32]),oM 10 33] (sQ [oM 34 10,o 35 (.bin .neq (.t 34) (qI 0))] (.cond (.t 35) (sQ [o 36 (.build [.int .i64 0,.nils,.nils,.nils] [] []),oM 37 10,oz (.store 4 (.t 4) (.t 36)),oM 5 37] (.ret)) (.skip)))))) (.ops [oA 38 27,oM 27 38])))
def jZ:SC:=.seq (sQ [oM 64 15,o 65 (.bin .geq (.t 64) (qI 0))] (.cond (.t 65) (.skip) (.exit 4))) (.seq (.blk 5 (.seq (.feet [0,1,0,7,15,0,32,0,224,480,0,2047,4095] [oF 68 3 11,oL 69 68,oM 70 12,oX 71 69 70,oL 72 71,oF 73 0 13,oL 74 73,oM 75 15,oX 76 74 75,oL 77 76,oM 78 14,oX 79 72 77,oz (.store 1 (.t 79) (.t 78))]) (.ops [oM 80 14,oF 81 1 13,oL 82 81,oM 83 15,oX 84 82 83,oL 85 84,o 86 (.bin .mul (.t 80) (.t 85)),oM 14 86]))) (.ops [oM 66 15,o 67 (.bin .sub (.t 66) (qI 1)),oM 15 67]))
def qe:SC:=.ops [oA 87 47,oM 47 87]
def lj:SC:=sQ [o 48 (.bin .lss (.t 47) (.t 46))] (.seq (.cond (.t 48) (.skip) (.exit 2)) (.seq (.blk 3 (sQ [oM 49 47,o 50 (.ixs 3 (.t 45) (.t 47)),o 51 (.load true 3 (.t 50)),o 13 (.alloc [.nils,.nils,.nils]),oM 12 49,oz (.store 3 (.t 13) (.t 51))] (.seq (.feet [0,1,0,0,8,24,56,127,255] [oF 52 3 11,oL 53 52,oM 54 12,oF 55 1 2,oL 56 55,oN 57 56,o 58 (.mks 1 8 [.int .i64 0] (.t 57) (.t 57)),oX 59 53 54,oz (.store 1 (.t 59) (.t 58))]) (sQ [oK 14 1] (sQ [oF 60 0 13,oL 61 60,oN 62 61,o 63 (.bin .sub (.t 62) (qI 1)),oM 15 63] (.blk 4 (.loop jZ))))))) qe))
def pB:SC:=sQ [o 88 (.load true 4 (.t 11)),oz (.store 4 (.t 4) (.t 88)),oK 5 0] (.ret)
def pS:SC:=.seq (.feet [0,0,0,4,12,31,0,127] [o 39 (.load true 2 (.t 2)),oM 40 6,oM 41 6,oN 42 41,o 43 (.mks 1 24 [.nils] (.t 42) (.t 42)),o 44 (.build [.int .i64 0,.nils,.nils,.nils] [(0,2),(2,1),(3,1)] [.t 39,.t 40,.t 43]),o 11 (.alloc [.int .i64 0,.nils,.nils,.nils]),oz (.store 4 (.t 11) (.t 44))]) (.seq (sQ [oM 45 6,oN 46 45,oK 47 0] (.blk 2 (.loop lj))) pB)
def q_:SC:=sQ [o 17 (.load true 2 (.t 2)),o 18 (.call N.bc [.t 17]),oM 16 18,o 19 (.ext (.t 16) 0),o 20 (.ext (.t 16) 1),oM 6 19,oM 7 20] (.seq (sQ [oM 21 7,o 22 (.bin .neq (.t 21) (qI 0))] (.cond (.t 22) (sQ [o 23 (.build [.int .i64 0,.nils,.nils,.nils] [] []),oM 24 7,oz (.store 4 (.t 4) (.t 23)),oM 5 24] (.ret)) (.skip))) (.seq (sQ [oM 25 1,oN 26 25,oK 27 0] (.blk 0 (.loop qv))) pS))
def pU:SF:=⟨89,[.cell true 4 4,.tm 5],sQ [o 2 (.box (.t 0)),o 4 (.alloc [.int .i64 0,.nils,.nils,.nils]),oK 5 0] q_⟩
def d_:SC:=sQ [o 5 (.mkf N.am [] [.t 2,.t 3]),oM 4 5] (.ret)
def cR:SF:=⟨6,[.tm 4],sQ [o 2 (.box (.t 0)),o 3 (.box (.t 1)),o 4 (.mv (.k (.nilf)))] d_⟩
def eW:SC:=.ops [oA 33 12,oM 12 33]
def eD:SC:=sQ [o 13 (.bin .lss (.t 12) (.t 11))] (.seq (.cond (.t 13) (.skip) (.exit 0)) (.seq (.blk 1 (sQ [oM 14 12,oX 15 10 12,oL 16 15,oM 8 14,oM 9 16] (sQ [oM 17 2,oM 18 8,o 19 (.bin .shr (.t 17) (.t 18)),o 20 (.bin .and (.t 19) (.k (.int .u64 1))),o 21 (.bin .eql (.t 20) (.k (.int .u64 1)))] (.cond (.t 21) (.ops [oM 22 7,oF 23 0 3,oF 24 1 23,oL 25 24,oM 26 8,o 27 (.ixs 3 (.t 25) (.t 26)),oF 28 0 27,oL 29 28,o 30 (.bin .mul (.t 22) (.t 29)),oM 31 9,o 32 (.bin .add (.t 30) (.t 31)),oM 7 32]) (.skip))))) eW))
def eT:SC:=sQ [oM 34 7,oM 6 34] (.ret)
def fw:SC:=sQ [oK 7 0] (.seq (sQ [oM 10 1,oN 11 10,oK 12 0] (.blk 0 (.loop eD))) eT)
def dz:SF:=⟨35,[.tm 6],sQ [o 3 (.box (.t 0)),oK 6 0] fw⟩
def fI:SC:=.ops [o 6 (.alloc [.int .i64 0,.int .i64 0,.nils]),oz (.store 3 (.t 6) (.t 10))]
def fQ:SC:=.blk 1 (.ops [oL 11 5,oF 12 1 6,oL 13 12,o 14 (.bin .add (.t 11) (.t 13)),oz (.store 1 (.t 5) (.t 14))])
def fM:SC:=sQ [oL 15 5,oM 4 15] (.ret)
def gH:SC:=sQ [o 5 (.alloc [.int .i64 0]),oz (.store 1 (.t 5) (qI 0))] (.seq (sQ [o 7 (.load true 4 (.t 2)),oM 8 1,o 9 (.call N.aH [.t 7,.t 8])] (.blk 0 (.rng 16 (.t 9) [10] fI fQ))) fM)
def d7:SF:=⟨16,[.tm 4],sQ [o 2 (.box (.t 0)),oK 4 0] gH⟩
def j8:SC:=sQ [o 11 (.bin .lss (.t 10) (.t 9))] (.seq (.cond (.t 11) (.skip) (.exit 0)) (.seq (.blk 1 (sQ [oM 12 10,oX 13 8 10,oL 14 13,oM 6 12,oM 7 14] (sQ [oM 15 7] (.blk 2 (.seq (sQ [o 17 (.bin .eql (.t 15) (qI (-1))),oM 16 17] (.cond (.t 16) (.skip) (.ops [oM 18 0,oM 19 6,oX 20 18 19,oL 21 20,o 22 (.bin .eql (.t 15) (.t 21)),oM 16 22]))) (.cond (.t 16) (.skip) (sQ [o 5 (.mv (.k (.bool false)))] (.exit 0)))))))) (.ops [oA 23 10,oM 10 23])))
def fY:SC:=sQ [oM 24 5,oM 4 24] (.ret)
def jr:SF:=⟨25,[.tm 4],sQ [o 4 (.mv (.k (.bool false)))] (sQ [o 5 (.mv (.k (.bool true)))] (.seq (.skip) (.seq (sQ [oM 8 1,oN 9 8,oK 10 0] (.blk 0 (.loop j8))) fY)))⟩
def ju:SF:=⟨13,[.tm 5],sQ [o 5 (.mv (.k (.bool false)))] (sQ [oM 6 0,oL 7 2,o 8 (.bin .eql (.t 6) (.t 7)),oM 9 8,og 10 9 true (.mv (.t 1)),og 11 9 true (.bin .eql (.t 10) (qI 0)),o 12 (.pick (.t 9) (.t 11) (.k (.bool false))),oM 5 12] (.ret))⟩
def my:SC:=sQ [o 51 (.bin .lss (.t 50) (.t 49))] (.seq (.cond (.t 51) (.skip) (.exit 0)) (.seq (.blk 1 (sQ [oM 52 50,o 53 (.ixs 3 (.t 48) (.t 50)),o 54 (.load true 3 (.t 53)),o 7 (.alloc [.int .i64 0,.nils,.nils]),oM 6 52,oz (.store 3 (.t 7) (.t 54))] (.seq (sQ [oF 55 0 7,oL 56 55,o 57 (.bin .lss (.t 56) (qI 1)),oM 58 57,og 59 58 false (.fad 0 (.t 7)),og 60 58 false (.load false 1 (.t 59)),og 61 58 false (.bin .gtr (.t 60) (qI 4)),o 62 (.pick (.t 58) (.k (.bool true)) (.t 61))] (.cond (.t 62) (sQ [o 63 (.build [.int .i64 0,.nils,.nils,.nils,.nils] [] []),oz (.store 5 (.t 2) (.t 63)),oK 3 50] (.ret)) (.skip))) (sQ [oF 64 2 4,oL 65 64,oM 66 6,oF 67 0 7,oL 68 67,oX 69 65 66,oz (.store 1 (.t 69) (.t 68))] (.ops [oM 70 5,oF 71 0 7,oL 72 71,o 73 (.bin .mul (.t 70) (.t 72)),oM 5 73]))))) (.ops [oA 74 50,oM 50 74])))
def mJ:SC:=sQ [o 91 (.bin .lss (.t 90) (.t 89))] (.seq (.cond (.t 91) (.skip) (.exit 4)) (.seq (.blk 5 (sQ [oX 92 88 90,oL 93 92,oM 12 93] (.seq (sQ [oM 94 12,oM 95 10,o 96 (.bin .leq (.t 94) (.t 95)),oM 97 96,og 98 97 false (.mv (.t 12)),og 99 97 false (.fad 0 (.t 4)),og 100 97 false (.fad 1 (.t 99)),og 101 97 false (.load false 1 (.t 100)),og 102 97 false (.len .slice (.t 101)),og 103 97 false (.bin .geq (.t 98) (.t 102)),o 104 (.pick (.t 97) (.k (.bool true)) (.t 103)),oM 105 104,og 106 105 false (.mv (.t 12)),og 107 105 false (.mv (.t 8)),og 108 105 false (.bin .eql (.t 106) (.t 107)),o 109 (.pick (.t 105) (.k (.bool true)) (.t 108))] (.cond (.t 109) (sQ [o 110 (.build [.int .i64 0,.nils,.nils,.nils,.nils] [] []),oz (.store 5 (.t 2) (.t 110)),oK 3 50] (.ret)) (.skip))) (sQ [oM 111 12,oM 10 111] (.feet [0,1,0,7,15,0,32,127,255,511] [oF 112 3 4,oL 113 112,oM 114 8,oX 115 113 114,oL 116 115,oM 117 12,o 118 (.bin .shl (.k (.int .u64 1)) (.t 117)),o 119 (.bin .or (.t 116) (.t 118)),oX 120 113 114,oz (.store 1 (.t 120) (.t 119))]))))) (.ops [oA 121 90,oM 90 121])))
def mh:SC:=sQ [o 122 (.load true 5 (.t 4)),o 123 (.load true 3 (.t 9)),o 124 (.call N.aO [.t 122,.t 123]),o 125 (.not (.t 124))] (.cond (.t 125) (sQ [o 126 (.build [.int .i64 0,.nils,.nils,.nils,.nils] [] []),oz (.store 5 (.t 2) (.t 126)),oK 3 50] (.ret)) (.skip))
def rx:SC:=.ops [oA 127 82,oM 82 127]
def lX:SC:=sQ [o 83 (.bin .lss (.t 82) (.t 81))] (.seq (.cond (.t 83) (.skip) (.exit 2)) (.seq (.blk 3 (sQ [oM 84 82,o 85 (.ixs 3 (.t 80) (.t 82)),o 86 (.load true 3 (.t 85)),o 9 (.alloc [.int .i64 0,.nils,.nils]),oM 8 84,oz (.store 3 (.t 9) (.t 86))] (sQ [oK 10 (-1)] (.seq (sQ [oF 87 1 9,oL 88 87,oN 89 88,oK 90 0] (.blk 4 (.loop mJ))) mh)))) rx))
def mj:SC:=sQ [oF 129 3 4,oL 130 129,o 131 (.call N.bi [.t 130]),oM 128 131,o 132 (.ext (.t 128) 0),o 133 (.ext (.t 128) 1),oM 13 132,oM 14 133] (.seq (sQ [oM 134 14,o 135 (.not (.t 134))] (.cond (.t 135) (sQ [o 136 (.build [.int .i64 0,.nils,.nils,.nils,.nils] [] []),oz (.store 5 (.t 2) (.t 136)),oK 3 50] (.ret)) (.skip))) (sQ [oM 137 13,oF 138 4 4,oz (.store 1 (.t 138) (.t 137))] (sQ [o 139 (.load true 5 (.t 4)),oz (.store 5 (.t 2) (.t 139)),oK 3 0] (.ret))))
def rt:SC:=.seq (sQ [oM 75 5,o 76 (.bin .gtr (.t 75) (qI 1024))] (.cond (.t 76) (sQ [o 77 (.build [.int .i64 0,.nils,.nils,.nils,.nils] [] []),oz (.store 5 (.t 2) (.t 77)),oK 3 50] (.ret)) (.skip))) (.seq (sQ [oF 78 0 4,oF 79 1 78,oL 80 79,oN 81 80,oK 82 0] (.blk 2 (.loop lX))) mj)
def sK:SC:=.seq (sQ [oF 15 0 1,oL 16 15,o 17 (.bin .lss (.t 16) (qI 1)),oM 18 17,og 19 18 false (.fad 0 (.t 1)),og 20 18 false (.load false 1 (.t 19)),og 21 18 false (.bin .gtr (.t 20) (qI 60)),o 22 (.pick (.t 18) (.k (.bool true)) (.t 21)),oM 23 22,og 24 23 false (.fad 1 (.t 1)),og 25 23 false (.load false 1 (.t 24)),og 26 23 false (.len .slice (.t 25)),og 27 23 false (.bin .lss (.t 26) (qI 1)),o 28 (.pick (.t 23) (.k (.bool true)) (.t 27)),oM 29 28,og 30 29 false (.fad 1 (.t 1)),og 31 29 false (.load false 1 (.t 30)),og 32 29 false (.len .slice (.t 31)),og 33 29 false (.bin .gtr (.t 32) (qI 8)),o 34 (.pick (.t 29) (.k (.bool true)) (.t 33))] (.cond (.t 34) (sQ [o 35 (.build [.int .i64 0,.nils,.nils,.nils,.nils] [] []),oz (.store 5 (.t 2) (.t 35)),oK 3 50] (.ret)) (.skip))) (.seq (.feet [0,0,2,6,14,0,32,96,224,511,0,2047] [o 36 (.load true 2 (.t 1)),oF 37 1 1,oL 38 37,oN 39 38,o 40 (.mks 1 8 [.int .i64 0] (.t 39) (.t 39)),oF 41 1 1,oL 42 41,oN 43 42,o 44 (.mks 1 8 [.int .u64 0] (.t 43) (.t 43)),o 45 (.build [.int .i64 0,.nils,.nils,.nils,.nils] [(0,2),(2,1),(3,1)] [.t 36,.t 40,.t 44]),o 4 (.alloc [.int .i64 0,.nils,.nils,.nils,.nils]),oz (.store 5 (.t 4) (.t 45))]) (sQ [oK 5 1] (.seq (sQ [oF 46 0 4,oF 47 1 46,oL 48 47,oN 49 48,oK 50 0] (.blk 0 (.loop my))) rt)))
def j_:SF:=⟨140,[.cell true 5 2,.tm 3],sQ [o 1 (.box (.t 0)),o 2 (.alloc [.int .i64 0,.nils,.nils,.nils,.nils]),oK 3 0] sK⟩
def nR:SF:=⟨14,[.tm 2,.tm 3],sQ [oK 2 0,oK 3 0] (sQ [oM 7 0,o 8 (.call N.aA [.t 7]),oM 6 8,o 9 (.ext (.t 6) 0),o 10 (.ext (.t 6) 1),oM 4 9,oM 5 10] (.seq (sQ [oM 11 5,o 12 (.not (.t 11))] (.cond (.t 12) (sQ [oK 2 0,oK 3 20] (.ret)) (.skip))) (sQ [oM 13 4,oM 2 13,oK 3 0] (.ret))))⟩
def kU:SF:=⟨29,[.tm 4,.tm 5],sQ [o 4 (.mv (.k (.nils))),oK 5 0] (sQ [oM 9 0,o 10 (.call N.aA [.t 9]),oM 8 10,o 11 (.ext (.t 8) 0),o 12 (.ext (.t 8) 1),oM 6 11,oM 7 12] (.seq (sQ [oM 13 7,o 14 (.not (.t 13))] (.cond (.t 14) (sQ [o 4 (.mv (.k (.nils))),oK 5 20] (.ret)) (.skip))) (.seq (sQ [oM 15 1,o 16 (.bin .lss (.t 15) (qI 0)),oM 17 16,og 18 17 false (.mv (.t 1)),og 19 17 false (.mv (.t 6)),og 20 17 false (.bin .geq (.t 18) (.t 19)),o 21 (.pick (.t 17) (.k (.bool true)) (.t 20))] (.cond (.t 21) (sQ [o 4 (.mv (.k (.nils))),oK 5 2] (.ret)) (.skip))) (sQ [oM 22 0,oN 23 22,oM 24 0,oM 25 6,oM 26 1,o 27 (.call N.aR [.t 24,.t 25,.t 26]),o 28 (.call N.bm [.t 23,.t 27]),oM 4 28,oK 5 0] (.ret)))))⟩
def mT:SC:=sQ [o 43 (.bin .lss (.t 42) (.t 41))] (.seq (.cond (.t 43) (.skip) (.exit 0)) (.seq (.blk 1 (sQ [oX 44 40 42,oL 45 44,oM 8 45] (.seq (sQ [oM 46 8,oM 47 6,o 48 (.bin .leq (.t 46) (.t 47)),oM 49 48,og 50 49 false (.mv (.t 8)),og 51 49 false (.bin .gtr (.t 50) (qI 63)),o 52 (.pick (.t 49) (.k (.bool true)) (.t 51))] (.cond (.t 52) (sQ [o 53 (.build [.nils,.nils,.nils,.nils] [] []),oz (.store 4 (.t 2) (.t 53)),oK 3 30] (.ret)) (.skip))) (.ops [oM 54 8,oM 6 54])))) (.ops [oA 55 42,oM 42 55])))
def nu:SC:=sQ [o 60 (.bin .lss (.t 59) (.t 58))] (.seq (.cond (.t 60) (.skip) (.exit 2)) (.seq (.blk 3 (sQ [oX 61 57 59,oL 62 61,oM 10 62] (sQ [oM 63 10,o 64 (.bin .lss (.t 63) (qI 0)),oM 65 64,og 66 65 false (.mv (.t 10)),og 67 65 false (.bin .gtr (.t 66) (qI 4611686018427387903)),o 68 (.pick (.t 65) (.k (.bool true)) (.t 67))] (.cond (.t 68) (sQ [o 69 (.build [.nils,.nils,.nils,.nils] [] []),oz (.store 4 (.t 2) (.t 69)),oK 3 30] (.ret)) (.skip))))) (.ops [oA 70 59,oM 59 70])))
def mV:SC:=.seq (sQ [oM 78 13,o 79 (.bin .geq (.t 78) (qI 0))] (.cond (.t 79) (.skip) (.exit 4))) (.seq (.blk 5 (sQ [oM 82 11,oM 83 13,oM 84 12,oX 85 82 83,oz (.store 1 (.t 85) (.t 84))] (.ops [oM 86 12,oF 87 1 1,oL 88 87,oM 89 13,oX 90 88 89,oL 91 90,o 92 (.bin .mul (.t 86) (.t 91)),oM 12 92]))) (.ops [oM 80 13,o 81 (.bin .sub (.t 80) (qI 1)),oM 13 81]))
def mS:SC:=sQ [o 93 (.load true 3 (.t 1)),oM 94 11,o 95 (.build [.nils,.nils,.nils,.nils] [(0,3),(3,1)] [.t 93,.t 94]),oz (.store 4 (.t 2) (.t 95)),oK 3 0] (.ret)
def mQ:SC:=sQ [oF 71 1 1,oL 72 71,oN 73 72,o 74 (.mks 1 8 [.int .i64 0] (.t 73) (.t 73)),oM 11 74,oK 12 1] (.seq (sQ [oM 75 11,oN 76 75,o 77 (.bin .sub (.t 76) (qI 1)),oM 13 77] (.blk 4 (.loop mV))) mS)
def nG:SC:=.seq (sQ [oF 56 2 1,oL 57 56,oN 58 57,oK 59 0] (.blk 2 (.loop nu))) mQ
def o6:SC:=sQ [oF 15 1 1,oL 16 15,o 17 (.call N.aQ [.t 16]),oM 14 17,o 18 (.ext (.t 14) 0),o 19 (.ext (.t 14) 1),oM 4 18,oM 5 19] (.seq (sQ [oM 20 5,o 21 (.bin .neq (.t 20) (qI 0)),oM 22 21,og 23 22 false (.fad 0 (.t 1)),og 24 22 false (.load false 1 (.t 23)),og 25 22 false (.len .slice (.t 24)),og 26 22 false (.fad 1 (.t 1)),og 27 22 false (.load false 1 (.t 26)),og 28 22 false (.len .slice (.t 27)),og 29 22 false (.bin .neq (.t 25) (.t 28)),o 30 (.pick (.t 22) (.k (.bool true)) (.t 29)),oM 31 30,og 32 31 false (.fad 2 (.t 1)),og 33 31 false (.load false 1 (.t 32)),og 34 31 false (.len .slice (.t 33)),og 35 31 false (.mv (.t 4)),og 36 31 false (.bin .neq (.t 34) (.t 35)),o 37 (.pick (.t 31) (.k (.bool true)) (.t 36))] (.cond (.t 37) (sQ [o 38 (.build [.nils,.nils,.nils,.nils] [] []),oz (.store 4 (.t 2) (.t 38)),oK 3 30] (.ret)) (.skip))) (sQ [oK 6 (-1)] (.seq (sQ [oF 39 0 1,oL 40 39,oN 41 40,oK 42 0] (.blk 0 (.loop mT))) nG)))
def mK:SF:=⟨96,[.cell true 4 2,.tm 3],sQ [o 1 (.box (.t 0)),o 2 (.alloc [.nils,.nils,.nils,.nils]),oK 3 0] o6⟩
def dq:SC:=sQ [o 25 (.bin .lss (.t 24) (.t 23))] (.seq (.cond (.t 25) (.skip) (.exit 0)) (.seq (.blk 1 (sQ [oM 26 24,oX 27 22 24,oL 28 27,oM 10 26,oM 11 28] (.seq (.feet [0,0,0,4,12,0,0,96,252,508,1023,2047] [oM 29 8,oM 30 10,oF 31 0 3,oF 32 1 31,oL 33 32,o 34 (.load true 4 (.t 3)),oM 35 11,o 36 (.call N.af [.t 34,.t 35]),oX 37 33 36,oL 38 37,oX 39 29 30,oz (.store 1 (.t 39) (.t 38))]) (.ops [oM 40 9,oM 41 8,oM 42 10,oX 43 41 42,oL 44 43,o 45 (.bin .mul (.t 40) (.t 44)),oM 9 45])))) (.ops [oA 46 24,oM 24 46])))
def dc:SC:=.seq (sQ [oM 57 15,o 58 (.bin .geq (.t 57) (qI 0))] (.cond (.t 58) (.skip) (.exit 2))) (.seq (.blk 3 (.seq (.feet [0,0,0,0,12,28,62,0,255,511] [oM 61 13,o 62 (.load true 4 (.t 3)),oM 63 1,oM 64 15,oX 65 63 64,oL 66 65,o 67 (.call N.af [.t 62,.t 66]),oM 68 14,oX 69 61 67,oz (.store 1 (.t 69) (.t 68))]) (.ops [oM 70 14,oM 71 8,oM 72 15,oX 73 71 72,oL 74 73,o 75 (.bin .mul (.t 70) (.t 74)),oM 14 75]))) (.ops [oM 59 15,o 60 (.bin .sub (.t 59) (qI 1)),oM 15 60]))
def dg:SC:=sQ [oM 17 81] (.ops [oM 18 82])
def dj:SC:=.blk 5 (.seq (.feet [0,0,0,4,0,0,48,112,0,256,768,0,3840,7936,16380,32764,65532,65532,131071,393215,1048575] [oL 84 12,oM 85 18,oF 86 0 5,oL 87 86,oL 88 12,oM 89 18,oX 90 88 89,oL 91 90,oF 92 0 3,oF 93 2 92,oL 94 93,oM 95 17,oX 96 94 95,oL 97 96,o 98 (.dyn (.t 87) [.t 91,.t 97]),oM 83 98,o 99 (.ext (.t 83) 0),o 100 (.ext (.t 83) 1),oX 101 84 85,oz (.store 1 (.t 101) (.t 99)),oz (.store 1 (.t 16) (.t 100))]) (.blk 6 (sQ [oL 103 16,o 104 (.not (.t 103)),oM 102 104] (.cond (.t 102) (.exit 4) (.skip)))))
def fT:SC:=.seq (sQ [oL 105 16,o 106 (.not (.t 105))] (.cond (.t 106) (sQ [o 107 (.build [.nils,.nils,.nils] [] []),oz (.store 3 (.t 6) (.t 107)),oK 7 6] (.ret)) (.skip))) (sQ [oM 108 1,oM 109 8,oL 110 12,o 111 (.build [.nils,.nils,.nils] [(0,1),(1,1),(2,1)] [.t 108,.t 109,.t 110]),oz (.store 3 (.t 6) (.t 111)),oK 7 0] (.ret))
def dh:SC:=sQ [o 16 (.alloc [.bool false]),oz (.store 1 (.t 16) (.k (.bool true)))] (.seq (.skip) (.seq (sQ [oF 76 0 3,oF 77 1 76,oL 78 77,oM 79 13,o 80 (.call N.aD [.t 78,.t 79])] (.blk 4 (.rng 112 (.t 80) [81,82] dg dj))) fT))
def fP:SC:=.seq (.feet [0,1,0,4,12,28,60,0,131,511,1023] [oM 47 9,o 48 (.mks 1 8 [.int .i64 0] (.t 47) (.t 47)),oF 49 0 3,oF 50 0 49,oL 51 50,oN 52 51,o 53 (.mks 1 8 [.int .i64 0] (.t 52) (.t 52)),o 12 (.alloc [.nils]),oz (.store 1 (.t 12) (.t 48)),oM 13 53,oK 14 1]) (.seq (sQ [oM 54 1,oN 55 54,o 56 (.bin .sub (.t 55) (qI 1)),oM 15 56] (.blk 2 (.loop dc))) dh)
def dK:SC:=sQ [oM 19 1,oN 20 19,o 21 (.mks 1 8 [.int .i64 0] (.t 20) (.t 20)),oM 8 21,oK 9 1] (.seq (sQ [oM 22 1,oN 23 22,oK 24 0] (.blk 0 (.loop dq))) fP)
def bM:SF:=⟨112,[.cell true 3 6,.tm 7],sQ [o 3 (.box (.t 0)),o 5 (.box (.t 2)),o 6 (.alloc [.nils,.nils,.nils]),oK 7 0] dK⟩
def od:SF:=⟨13,[.tm 4,.tm 5],sQ [oK 4 0,o 5 (.mv (.k (.bool false)))] (sQ [oM 6 0,oM 7 1,o 8 (.bin .add (.t 6) (.t 7)),oM 9 0,oM 10 1,o 11 (.bin .add (.t 9) (.t 10)),o 12 (.bin .leq (.t 11) (qI 4611686018427387903)),oM 4 8,oM 5 12] (.ret))⟩
def m9:SC:=sQ [o 12 (.load true 3 (.t 3)),o 13 (.call N.aC [.t 12]),oM 11 13,o 14 (.ext (.t 11) 0),o 15 (.ext (.t 11) 1),o 8 (.alloc [.nils,.nils,.nils,.nils]),oz (.store 4 (.t 8) (.t 14)),oM 9 15] (.seq (sQ [oM 16 9,o 17 (.bin .neq (.t 16) (qI 0))] (.cond (.t 17) (sQ [o 18 (.build [.nils,.nils,.nils] [] []),oM 19 9,oz (.store 3 (.t 6) (.t 18)),oM 7 19] (.ret)) (.skip))) (sQ [o 20 (.load true 4 (.t 8)),oM 21 1,o 22 (.call N.af [.t 20,.t 21]),oM 10 22] (.seq (sQ [oM 23 10,o 24 (.bin .lss (.t 23) (qI 0))] (.cond (.t 24) (sQ [o 25 (.build [.nils,.nils,.nils] [] []),oz (.store 3 (.t 6) (.t 25)),oK 7 4] (.ret)) (.skip))) (.seq (.feet [0,0,2,6,14,0,0,64,254,0,1023,2047,2047,8191,16383] [o 26 (.load true 4 (.t 8)),oF 27 0 8,oF 28 0 27,oL 29 28,o 30 (.call N.ac [.t 29]),oM 31 10,oM 32 10,oA 33 32,o 34 (.call N.aq [.t 30,.t 31,.t 33]),o 35 (.load true 1 (.t 5)),o 36 (.call N.ae [.t 26,.t 34,.t 35]),o 37 (.ext (.t 36) 0),o 38 (.ext (.t 36) 1),oz (.store 3 (.t 6) (.t 37)),oM 7 38]) (.ret)))))
def jY:SF:=⟨39,[.cell true 3 6,.tm 7],sQ [o 3 (.box (.t 0)),o 5 (.box (.t 2)),o 6 (.alloc [.nils,.nils,.nils]),oK 7 0] m9⟩
def nL:SC:=.seq (sQ [oM 5 4,oF 6 0 1,oL 7 6,oN 8 7,o 9 (.bin .lss (.t 5) (.t 8)),oM 10 9,og 11 10 true (.mv (.t 4)),og 12 10 true (.bin .lss (.t 11) (qI 5)),o 13 (.pick (.t 10) (.t 12) (.k (.bool false)))] (.cond (.t 13) (.skip) (.exit 0))) (.seq (.blk 1 (.ops [oM 16 3,oF 17 0 1,oL 18 17,oM 19 4,oX 20 18 19,oL 21 20,o 22 (.bin .rem (.t 21) (.k (.int .u8 4))),o 23 (.conv .i64 (.t 22)),o 24 (.bin .add (qI 1) (.t 23)),o 25 (.bsl 1 1 [.int .i64 0] [0] [.t 24]),o 26 (.app 1 8 (.t 16) (.t 25)),oM 3 26])) (.ops [oM 14 4,oA 15 14,oM 4 15]))
def gZ:SC:=sQ [oM 27 3,oM 2 27] (.ret)
def ir:SC:=sQ [o 3 (.mv (.k (.nils)))] (.seq (sQ [oK 4 0] (.blk 0 (.loop nL))) gZ)
def fB:SF:=⟨28,[.tm 2],sQ [o 1 (.box (.t 0)),o 2 (.mv (.k (.nils)))] ir⟩
def xO:SC:=.seq (sQ [oM 7 6,oM 8 1,oN 9 8,o 10 (.bin .lss (.t 7) (.t 9))] (.cond (.t 10) (.skip) (.exit 0))) (.seq (.blk 1 (.ops [oM 13 5,oM 14 0,oM 15 1,oM 16 6,oX 17 15 16,oL 18 17,oX 19 14 18,oL 20 19,o 21 (.bsl 1 1 [.int .i64 0] [0] [.t 20]),o 22 (.app 1 8 (.t 13) (.t 21)),oM 5 22])) (.ops [oM 11 6,oA 12 11,oM 6 12]))
def q7:SC:=sQ [oM 23 5,oM 4 23] (.ret)
def rG:SF:=⟨24,[.tm 4],sQ [o 4 (.mv (.k (.nils)))] (sQ [o 5 (.mv (.k (.nils)))] (.seq (sQ [oK 6 0] (.blk 0 (.loop xO))) q7))⟩
def mX:SC:=.seq (sQ [oM 5 4,oF 6 1 1,oL 7 6,oN 8 7,o 9 (.bin .lss (.t 5) (.t 8))] (.cond (.t 9) (.skip) (.exit 0))) (.seq (.blk 1 (.ops [oM 12 3,oF 13 1 1,oL 14 13,oM 15 4,o 16 (.ixs 3 (.t 14) (.t 15)),oF 17 0 16,oL 18 17,o 19 (.bsl 1 1 [.int .i64 0] [0] [.t 18]),o 20 (.app 1 8 (.t 12) (.t 19)),oM 3 20])) (.ops [oM 10 4,oA 11 10,oM 4 11]))
def nk:SC:=sQ [oM 21 3,oM 2 21] (.ret)
def oJ:SC:=sQ [o 3 (.mv (.k (.nils)))] (.seq (sQ [oK 4 0] (.blk 0 (.loop mX))) nk)
def me:SF:=⟨22,[.tm 2],sQ [o 1 (.box (.t 0)),o 2 (.mv (.k (.nils)))] oJ⟩
def nF:SC:=sQ [o 24 (.bin .lss (.t 23) (.t 22))] (.seq (.cond (.t 24) (.skip) (.exit 0)) (.seq (.blk 1 (sQ [oM 25 23,oM 7 25] (.ops [oM 26 6,oM 27 7,o 28 (.load true 5 (.t 4)),oM 29 7,o 30 (.call N.bo [.t 28,.t 29]),o 31 (.ixs 3 (.t 26) (.t 27)),oz (.store 3 (.t 31) (.t 30))]))) (.ops [oA 32 23,oM 23 32])))
def nE:SC:=sQ [oM 33 6,oM 2 33,oK 3 0] (.ret)
def o5:SC:=sQ [o 9 (.load true 2 (.t 1)),o 10 (.call N.au [.t 9]),oM 8 10,o 11 (.ext (.t 8) 0),o 12 (.ext (.t 8) 1),o 4 (.alloc [.int .i64 0,.nils,.nils,.nils,.nils]),oz (.store 5 (.t 4) (.t 11)),oM 5 12] (.seq (sQ [oM 13 5,o 14 (.bin .neq (.t 13) (qI 0))] (.cond (.t 14) (sQ [oM 15 5,o 2 (.mv (.k (.nils))),oM 3 15] (.ret)) (.skip))) (sQ [oF 16 0 4,oF 17 1 16,oL 18 17,oN 19 18,o 20 (.mks 3 72 [.nils,.nils,.nils] (.t 19) (.t 19)),oM 6 20] (.seq (sQ [oM 21 6,oN 22 21,oK 23 0] (.blk 0 (.loop nF))) nE)))
def mg:SF:=⟨34,[.tm 2,.tm 3],sQ [o 1 (.box (.t 0)),o 2 (.mv (.k (.nils))),oK 3 0] o5⟩
def gL:SC:=sQ [o 27 (.bin .lss (.t 26) (.t 25))] (.seq (.cond (.t 27) (.skip) (.exit 0)) (.seq (.blk 1 (sQ [oM 28 26,oX 29 24 26,oL 30 29,oM 7 28,oM 8 30] (sQ [oM 31 8,o 32 (.bin .lss (.t 31) (qI (-1))),oM 33 32,og 34 33 false (.mv (.t 8)),og 35 33 false (.fad 2 (.t 5)),og 36 33 false (.load false 1 (.t 35)),og 37 33 false (.mv (.t 7)),og 38 33 false (.ixs 1 (.t 36) (.t 37)),og 39 33 false (.load false 1 (.t 38)),og 40 33 false (.bin .geq (.t 34) (.t 39)),o 41 (.pick (.t 33) (.k (.bool true)) (.t 40))] (.cond (.t 41) (sQ [oK 4 2] (.ret)) (.skip))))) (.ops [oA 42 26,oM 26 42])))
def gP:SC:=sQ [oK 4 0] (.ret)
def iA:SC:=sQ [o 10 (.load true 2 (.t 2)),o 11 (.call N.au [.t 10]),oM 9 11,o 12 (.ext (.t 9) 0),o 13 (.ext (.t 9) 1),o 5 (.alloc [.int .i64 0,.nils,.nils,.nils,.nils]),oz (.store 5 (.t 5) (.t 12)),oM 6 13] (.seq (sQ [oM 14 6,o 15 (.bin .neq (.t 14) (qI 0))] (.cond (.t 15) (sQ [oM 16 6,oM 4 16] (.ret)) (.skip))) (.seq (sQ [oM 17 1,oN 18 17,oF 19 0 5,oF 20 1 19,oL 21 20,oN 22 21,o 23 (.bin .neq (.t 18) (.t 22))] (.cond (.t 23) (sQ [oK 4 2] (.ret)) (.skip))) (.seq (sQ [oM 24 1,oN 25 24,oK 26 0] (.blk 0 (.loop gL))) gP)))
def fA:SF:=⟨43,[.tm 4],sQ [o 2 (.box (.t 0)),oK 4 0] iA⟩
def bB:SC:=.seq (.seq (.quiet [oM 31 6,o 32 (.bin .geq (.t 31) (qI 0)),oM 33 32,og 34 33 true (.mv (.t 4)),og 35 33 true (.mv (.t 6)),og 36 33 true (.ixs 1 (.t 34) (.t 35)),og 37 33 true (.load false 1 (.t 36)),og 38 33 true (.fad 0 (.t 1)),og 39 33 true (.fad 1 (.t 38)),og 40 33 true (.load false 1 (.t 39)),og 41 33 true (.mv (.t 6)),og 42 33 true (.ixs 3 (.t 40) (.t 41)),og 43 33 true (.fad 0 (.t 42)),og 44 33 true (.load false 1 (.t 43)),og 45 33 true (.bin .sub (.t 44) (qI 1)),og 46 33 true (.bin .eql (.t 37) (.t 45)),o 47 (.pick (.t 33) (.t 46) (.k (.bool false)))]) (.cond (.t 47) (.skip) (.exit 2))) (.blk 3 (sQ [oM 48 4,oM 49 6,oX 50 48 49,oz (.store 1 (.t 50) (qI 0))] (.ops [oM 51 6,o 52 (.bin .sub (.t 51) (qI 1)),oM 6 52])))
def bA:SC:=.seq (sQ [oM 53 6,o 54 (.bin .lss (.t 53) (qI 0))] (.cond (.t 54) (.ret) (.skip))) (.ops [oM 55 4,oM 56 6,oX 57 55 56,oL 58 57,oA 59 58,oX 60 55 56,oz (.store 1 (.t 60) (.t 59))])
def bP:SC:=.ops [oM 12 5,oA 13 12,oM 5 13]
def dA:SC:=.seq (.blk 1 (.seq (sQ [oM 14 4,oL 15 2,o 16 (.call N.bj [.t 14,.t 15]),oM 17 16,og 18 17 true (.mv (.t 0)),og 19 17 true (.mv (.t 5)),og 20 17 true (.load true 4 (.t 1)),og 21 17 true (.mv (.t 4)),og 22 17 true (.call N.aY [.t 20,.t 21]),og 23 17 true (.mv (.t 4)),og 24 17 true (.build [.int .i64 0,.int .i64 0,.nils] [(0,1),(1,1),(2,1)] [.t 19,.t 22,.t 23]),og 25 17 true (.dyn (.t 18) [.t 24]),og 26 17 true (.not (.t 25)),o 27 (.pick (.t 17) (.t 26) (.k (.bool false)))] (.cond (.t 27) (.ret) (.skip))) (sQ [oM 28 4,oN 29 28,o 30 (.bin .sub (.t 29) (qI 1)),oM 6 30] (.seq (.blk 2 (.loop bB)) bA)))) bP
def aH:SF:=⟨61,[],sQ [oF 7 0 1,oF 8 1 7,oL 9 8,oN 10 9,o 11 (.mks 1 8 [.int .i64 0] (.t 10) (.t 10)),oM 4 11] (sQ [oK 5 0] (.blk 0 (.loop dA)))⟩
def cG:SC:=sQ [o 23 (.bin .lss (.t 22) (.t 21))] (.seq (.cond (.t 23) (.skip) (.exit 2)) (.seq (.blk 3 (sQ [oX 24 20 22,oL 25 24,oM 10 25] (.quiet [oM 26 8,oM 27 1,oM 28 10,oX 29 27 28,oL 30 29,oF 31 3 2,oL 32 31,oM 33 6,oX 34 32 33,oL 35 34,oM 36 10,oX 37 35 36,oL 38 37,o 39 (.bin .mul (.t 30) (.t 38)),o 40 (.bin .add (.t 26) (.t 39)),oM 8 40]))) (.ops [oA 41 22,oM 22 41])))
def eS:SC:=.ops [oM 42 5,oF 43 2 7,oL 44 43,oM 45 8,oX 46 44 45,oL 47 46,o 48 (.bin .mul (.t 42) (.t 47)),oM 5 48]
def e_:SC:=.ops [oA 49 14,oM 14 49]
def eJ:SC:=sQ [o 15 (.bin .lss (.t 14) (.t 13))] (.seq (.cond (.t 15) (.skip) (.exit 0)) (.seq (.blk 1 (sQ [oM 16 14,o 17 (.ixs 3 (.t 12) (.t 14)),o 18 (.load true 3 (.t 17)),o 7 (.alloc [.nils,.nils,.nils]),oM 6 16,oz (.store 3 (.t 7) (.t 18))] (sQ [oK 8 0] (.seq (sQ [oF 19 0 7,oL 20 19,oN 21 20,oK 22 0] (.blk 2 (.loop cG))) eS)))) e_))
def eC:SC:=sQ [oM 50 5,oM 4 50] (.ret)
def fu:SC:=sQ [oK 5 1] (.seq (sQ [oF 11 2 2,oL 12 11,oN 13 12,oK 14 0] (.blk 0 (.loop eJ))) eC)
def dP:SF:=⟨51,[.tm 4],sQ [o 2 (.box (.t 0)),oK 4 0] fu⟩
def gu:SC:=sQ [o 17 (.bin .lss (.t 16) (.t 15))] (.seq (.cond (.t 17) (.skip) (.exit 0)) (.seq (.blk 1 (sQ [oX 18 14 16,oL 19 18,oM 7 19] (.ops [oM 20 5,oF 21 2 2,oL 22 21,oM 23 7,oX 24 22 23,oL 25 24,o 26 (.bin .mul (.t 20) (.t 25)),oM 5 26]))) (.ops [oA 27 16,oM 16 27])))
def gn:SC:=.ops [oM 9 36]
def dJ:SC:=sQ [o 43 (.bin .lss (.t 42) (.t 41))] (.seq (.cond (.t 43) (.skip) (.exit 4)) (.seq (.blk 5 (sQ [oX 44 40 42,oL 45 44,oM 12 45] (.seq (sQ [oM 46 12,o 47 (.bin .lss (.t 46) (qI 0)),oM 48 47,og 49 48 false (.mv (.t 12)),og 50 48 false (.mv (.t 10)),og 51 48 false (.bin .gtr (.t 49) (.t 50)),o 52 (.pick (.t 48) (.k (.bool true)) (.t 51))] (.cond (.t 52) (sQ [oz (.store 1 (.t 4) (.k (.bool false)))] (.ret)) (.skip))) (.ops [oM 53 10,oM 54 12,o 55 (.bin .sub (.t 53) (.t 54)),oM 10 55])))) (.ops [oA 56 42,oM 42 56])))
def bX:SC:=sQ [oM 57 9,oN 58 57,oF 59 0 3,oL 60 59,o 61 (.bin .neq (.t 58) (.t 60)),oM 62 61,og 63 62 false (.mv (.t 10)),og 64 62 false (.bin .neq (.t 63) (qI 0)),o 65 (.pick (.t 62) (.k (.bool true)) (.t 64))] (.cond (.t 65) (sQ [oz (.store 1 (.t 4) (.k (.bool false)))] (.ret)) (.skip))
def gt:SC:=.blk 3 (sQ [oF 37 0 2,oF 38 0 37,oL 39 38,oM 10 39] (.seq (sQ [oM 40 9,oN 41 40,oK 42 0] (.blk 4 (.loop dJ))) bX))
def gA:SC:=sQ [oz (.store 1 (.t 4) (.k (.bool true)))] (.ret)
def gD:SC:=.seq (sQ [oF 28 2 3,oL 29 28,oN 30 29,oM 31 5,o 32 (.bin .neq (.t 30) (.t 31))] (.cond (.t 32) (sQ [oz (.store 1 (.t 4) (.k (.bool false)))] (.ret)) (.skip))) (.seq (sQ [o 33 (.load true 3 (.t 3)),o 34 (.call N.aB [.t 33])] (.blk 2 (.rng 66 (.t 34) [35,36] gn gt))) gA)
def gO:SC:=sQ [oK 5 1] (.seq (sQ [oF 13 1 3,oL 14 13,oN 15 14,oK 16 0] (.blk 0 (.loop gu))) gD)
def eX:SF:=⟨66,[.cell false 1 4],sQ [o 2 (.box (.t 0)),o 3 (.box (.t 1)),o 4 (.alloc [.bool false])] gO⟩
def o4:SC:=sQ [o 19 (.bin .lss (.t 18) (.t 17))] (.seq (.cond (.t 19) (.skip) (.exit 2)) (.seq (.blk 3 (sQ [oM 20 18,oX 21 16 18,oL 22 21,oM 6 20,oM 7 22] (sQ [oM 23 5,oM 24 6,o 25 (.bin .shr (.t 23) (.t 24)),o 26 (.bin .and (.t 25) (.k (.int .u64 1))),o 27 (.bin .eql (.t 26) (.k (.int .u64 0))),oM 28 27,og 29 28 true (.mv (.t 7)),og 30 28 true (.mv (.t 5)),og 31 28 true (.bin .andNot (.t 29) (.t 30)),og 32 28 true (.bin .eql (.t 31) (.k (.int .u64 0))),o 33 (.pick (.t 28) (.t 32) (.k (.bool false)))] (.cond (.t 33) (sQ [oM 34 4,oM 35 6,o 36 (.bsl 1 1 [.int .i64 0] [0] [.t 35]),o 37 (.app 1 8 (.t 34) (.t 36)),oM 4 37] (sQ [oM 38 5,oM 39 6,o 40 (.bin .shl (.k (.int .u64 1)) (.t 39)),o 41 (.bin .or (.t 38) (.t 40)),oM 5 41] (.exit 1))) (.skip))))) (.ops [oA 42 18,oM 18 42])))
def o7:SC:=sQ [o 2 (.mv (.k (.nils))),o 3 (.mv (.k (.bool false)))] (.ret)
def oO:SC:=.seq (sQ [oM 11 4,oN 12 11,oM 13 0,oN 14 13,o 15 (.bin .lss (.t 12) (.t 14))] (.cond (.t 15) (.skip) (.exit 0))) (.blk 1 (.seq (sQ [oM 16 0,oN 17 16,oK 18 0] (.blk 2 (.loop o4))) o7))
def oQ:SC:=sQ [oM 43 4,oM 2 43,o 3 (.mv (.k (.bool true)))] (.ret)
def nU:SF:=⟨44,[.tm 2,.tm 3],sQ [o 2 (.mv (.k (.nils))),o 3 (.mv (.k (.bool false)))] (sQ [oM 8 0,oN 9 8,o 10 (.mks 1 8 [.int .i64 0] (qI 0) (.t 9)),oM 4 10,o 5 (.mv (.k (.int .u64 0)))] (.seq (.skip) (.seq (.blk 0 (.loop oO)) oQ)))⟩
def ub:SC:=sQ [o 12 (.bin .lss (.t 11) (.t 10))] (.seq (.cond (.t 12) (.skip) (.exit 0)) (.seq (.blk 1 (sQ [oX 13 9 11,oL 14 13,oM 5 14] (.seq (.blk 2 (.seq (sQ [oM 16 5,o 17 (.bin .lss (.t 16) (qI 1)),oM 15 17] (.cond (.t 15) (.skip) (sQ [oM 18 5,o 19 (.bin .gtr (.t 18) (qI 8)),oM 15 19] (.cond (.t 15) (.skip) (.ops [oM 20 2,oM 21 5,o 22 (.bin .mul (.t 20) (.t 21)),o 23 (.bin .gtr (.t 22) (qI 4096)),oM 15 23]))))) (.cond (.t 15) (sQ [oK 2 0,o 3 (.mv (.k (.bool false)))] (.exit 0)) (.skip)))) (.ops [oM 24 2,oM 25 5,o 26 (.bin .mul (.t 24) (.t 25)),oM 2 26])))) (.ops [oA 27 11,oM 11 27])))
def nA:SC:=sQ [oM 28 2,oM 29 3,oM 2 28,oM 3 29] (.ret)
def mF:SF:=⟨30,[.tm 2,.tm 3],sQ [oK 2 0,o 3 (.mv (.k (.bool false)))] (.seq (sQ [oM 6 0,oN 7 6,o 8 (.bin .gtr (.t 7) (qI 12))] (.cond (.t 8) (sQ [oK 2 0,o 3 (.mv (.k (.bool false)))] (.ret)) (.skip))) (sQ [oK 2 1,o 3 (.mv (.k (.bool true)))] (.seq (.skip) (.seq (sQ [oM 9 0,oN 10 9,oK 11 0] (.blk 0 (.loop ub))) nA))))⟩
def iy:SC:=sQ [oM 6 11] (.ops [oM 7 12])
def io:SC:=.blk 1 (.ops [oL 13 5,oM 14 6,oM 15 7,oX 16 13 14,oz (.store 1 (.t 16) (.t 15))])
def it:SC:=sQ [oL 17 5,oM 4 17] (.ret)
def f_:SF:=⟨18,[.tm 4],sQ [o 4 (.mv (.k (.nils)))] (sQ [oM 8 0,o 9 (.mks 1 8 [.int .i64 0] (.t 8) (.t 8)),o 5 (.alloc [.nils]),oz (.store 1 (.t 5) (.t 9))] (.seq (sQ [oM 10 1] (.blk 0 (.rng 18 (.t 10) [11,12] iy io))) it))⟩
def m8:SC:=sQ [o 7 (.mkf N.aE [] [.t 5,.t 4,.t 3]),oM 6 7] (.ret)
def j5:SF:=⟨8,[.tm 6],sQ [o 3 (.box (.t 0)),o 4 (.box (.t 1)),o 5 (.box (.t 2)),o 6 (.mv (.k (.nilf)))] m8⟩
def g_:SC:=sQ [oF 5 0 2,oF 6 0 5,oL 7 6,oM 8 1,o 9 (.call N.bh [.t 7,.t 8]),oM 4 9] (.ret)
def eG:SF:=⟨10,[.tm 4],sQ [o 2 (.box (.t 0)),oK 4 0] g_⟩
def ku:SC:=sQ [o 5 (.mkf N.aa [] [.t 2,.t 3]),oM 4 5] (.ret)
def iC:SF:=⟨6,[.tm 4],sQ [o 2 (.box (.t 0)),o 3 (.box (.t 1)),o 4 (.mv (.k (.nilf)))] ku⟩
def gk:SC:=.ops [oA 65 40,oM 40 65]
def dB:SC:=sQ [o 41 (.bin .lss (.t 40) (.t 39))] (.seq (.cond (.t 41) (.skip) (.exit 0)) (.seq (.blk 1 (sQ [oM 42 40,oX 43 38 40,oL 44 43,oM 10 42,oM 11 44] (.seq (.feet [0,1,0,4,0,28,60,124,255,511,1023] [oF 45 1 8,oL 46 45,oF 47 2 2,oL 48 47,oM 49 11,oX 50 48 49,oL 51 50,o 52 (.bsl 1 1 [.int .i64 0] [0] [.t 51]),o 53 (.app 1 8 (.t 46) (.t 52)),oF 54 1 8,oz (.store 1 (.t 54) (.t 53))]) (sQ [oM 55 10,oM 56 6,o 57 (.bin .gtr (.t 55) (.t 56))] (.cond (.t 57) (.feet [0,0,2,0,14,30,63,127] [oL 58 9,oF 59 2 2,oL 60 59,oM 61 11,oX 62 60 61,oL 63 62,o 64 (.bin .mul (.t 58) (.t 63)),oz (.store 1 (.t 9) (.t 64))]) (.skip)))))) gk))
def dD:SC:=sQ [oM 12 76] (.ops [oM 13 77])
def dN:SC:=sQ [o 81 (.bin .lss (.t 80) (.t 79))] (.seq (.cond (.t 81) (.skip) (.exit 4)) (.seq (.blk 5 (sQ [oM 82 80,oX 83 78 80,oL 84 83,oM 14 82,oM 15 84] (.feet [0,1,0,0,12,0,32,124,0,508,0,2044,0,0,12288,32764,0,131071,262143] [oF 85 2 8,oL 86 85,oM 87 12,oL 88 9,o 89 (.bin .quo (.t 87) (.t 88)),oF 90 0 5,oL 91 90,o 92 (.bin .mul (.t 89) (.t 91)),oM 93 14,o 94 (.bin .add (.t 92) (.t 93)),oL 95 9,o 96 (.bin .mul (.t 94) (.t 95)),oM 97 12,oL 98 9,o 99 (.bin .rem (.t 97) (.t 98)),o 100 (.bin .add (.t 96) (.t 99)),oM 101 15,oX 102 86 100,oz (.store 1 (.t 102) (.t 101))]))) (.ops [oA 103 80,oM 80 103])))
def dF:SC:=.blk 3 (sQ [oM 78 13,oN 79 78,oK 80 0] (.blk 4 (.loop dN)))
def gI:SC:=sQ [o 104 (.load true 3 (.t 8)),oz (.store 3 (.t 4) (.t 104))] (.ret)
def gw:SC:=sQ [oF 66 2 5,oL 67 66,oN 68 67,oF 69 0 5,oL 70 69,o 71 (.bin .mul (.t 68) (.t 70)),o 72 (.mks 1 8 [.int .i64 0] (.t 71) (.t 71)),oF 73 2 8,oz (.store 1 (.t 73) (.t 72))] (.seq (sQ [o 74 (.load true 3 (.t 5)),o 75 (.call N.aB [.t 74])] (.blk 2 (.rng 105 (.t 75) [76,77] dD dF))) gI)
def g9:SC:=sQ [oF 16 0 2,oF 17 1 16,oL 18 17,oM 19 1,o 20 (.ixs 3 (.t 18) (.t 19)),o 21 (.load true 3 (.t 20)),o 5 (.alloc [.int .i64 0,.nils,.nils]),oz (.store 3 (.t 5) (.t 21))] (sQ [oF 23 1 5,oL 24 23,oM 25 1,o 26 (.call N.aS [.t 24,.t 25]),oM 22 26,o 27 (.ext (.t 22) 0),o 28 (.ext (.t 22) 1),oM 6 27,oM 7 28] (sQ [oF 29 1 5,oL 30 29,o 31 (.call N.ac [.t 30]),oM 32 6,oM 33 1,o 34 (.bsl 1 1 [.int .i64 0] [0] [.t 33]),o 35 (.call N.bu [.t 31,.t 32,.t 34]),o 36 (.build [.nils,.nils,.nils] [(0,1)] [.t 35]),o 8 (.alloc [.nils,.nils,.nils]),oz (.store 3 (.t 8) (.t 36))] (sQ [o 9 (.alloc [.int .i64 0]),oz (.store 1 (.t 9) (qI 1))] (.seq (sQ [oF 37 0 8,oL 38 37,oN 39 38,oK 40 0] (.blk 0 (.loop dB))) gw))))
def eo:SF:=⟨105,[.cell true 3 4],sQ [o 2 (.box (.t 0)),o 4 (.alloc [.nils,.nils,.nils])] g9⟩
def td:SC:=sQ [o 3 (.mkf N.ak [] [.t 1]),oM 2 3] (.ret)
def rE:SF:=⟨4,[.tm 2],sQ [o 1 (.box (.t 0)),o 2 (.mv (.k (.nilf)))] td⟩
def jH:SC:=sQ [o 14 (.bin .lss (.t 13) (.t 12))] (.seq (.cond (.t 14) (.skip) (.exit 0)) (.seq (.blk 1 (sQ [oM 15 13,oX 16 11 13,oL 17 16,oM 7 15,oM 8 17] (sQ [oM 18 6,oM 19 8,o 20 (.bin .quo (.t 18) (.t 19)),oM 6 20] (.seq (sQ [oM 21 0,oM 22 7,oM 23 5,oM 24 6,o 25 (.bin .quo (.t 23) (.t 24)),o 26 (.dyn (.t 21) [.t 22,.t 25]),o 27 (.not (.t 26))] (.cond (.t 27) (.ret) (.skip))) (.ops [oM 28 5,oM 29 6,o 30 (.bin .rem (.t 28) (.t 29)),oM 5 30]))))) (.ops [oA 31 13,oM 13 31])))
def cA:SF:=⟨32,[],.seq (.quiet [oL 9 1,oL 10 2,oM 5 9,oM 6 10]) (sQ [oL 11 3,oN 12 11,oK 13 0] (.blk 0 (.loop jH)))⟩
def gE:SC:=sQ [o 9 (.bin .lss (.t 8) (.t 7))] (.seq (.cond (.t 9) (.skip) (.exit 0)) (.seq (.blk 1 (sQ [oM 10 8,oM 5 10] (sQ [oM 11 1,oM 12 0,oM 13 5,oX 14 12 13,oL 15 14,o 16 (.bin .eql (.t 11) (.t 15))] (.cond (.t 16) (sQ [oM 17 5,oM 4 17] (.ret)) (.skip))))) (.ops [oA 18 8,oM 8 18])))
def mW:SC:=sQ [oK 4 (-1)] (.ret)
def fc:SF:=⟨19,[.tm 4],sQ [oK 4 0] (.seq (sQ [oM 6 0,oN 7 6,oK 8 0] (.blk 0 (.loop gE))) mW)⟩
def cP:SC:=.seq (.seq (.quiet [oM 19 7,o 20 (.bin .geq (.t 19) (qI 0)),oM 21 20,og 22 21 true (.mv (.t 4)),og 23 21 true (.mv (.t 7)),og 24 21 true (.ixs 1 (.t 22) (.t 23)),og 25 21 true (.load false 1 (.t 24)),og 26 21 true (.load false 1 (.t 1)),og 27 21 true (.mv (.t 7)),og 28 21 true (.ixs 1 (.t 26) (.t 27)),og 29 21 true (.load false 1 (.t 28)),og 30 21 true (.bin .sub (.t 29) (qI 1)),og 31 21 true (.bin .eql (.t 25) (.t 30)),o 32 (.pick (.t 21) (.t 31) (.k (.bool false)))]) (.cond (.t 32) (.skip) (.exit 2))) (.blk 3 (.seq (.quiet [oM 33 6,oM 34 4,oM 35 7,oX 36 34 35,oL 37 36,oL 38 2,oM 39 7,oX 40 38 39,oL 41 40,o 42 (.bin .mul (.t 37) (.t 41)),o 43 (.bin .sub (.t 33) (.t 42)),oM 6 43]) (sQ [oM 44 4,oM 45 7,oX 46 44 45,oz (.store 1 (.t 46) (qI 0))] (.ops [oM 47 7,o 48 (.bin .sub (.t 47) (qI 1)),oM 7 48]))))
def cK:SC:=.seq (sQ [oM 49 7,o 50 (.bin .lss (.t 49) (qI 0))] (.cond (.t 50) (.ret) (.skip))) (sQ [oM 51 4,oM 52 7,oX 53 51 52,oL 54 53,oA 55 54,oX 56 51 52,oz (.store 1 (.t 56) (.t 55))] (sQ [oM 57 6,oL 58 2,oM 59 7,oX 60 58 59,oL 61 60,o 62 (.bin .add (.t 57) (.t 61)),oM 6 62] (.ops [oM 63 5,oA 64 63,oM 5 64])))
def il:SC:=.blk 1 (.seq (sQ [oM 11 0,oM 12 5,oM 13 6,o 14 (.dyn (.t 11) [.t 12,.t 13]),o 15 (.not (.t 14))] (.cond (.t 15) (.ret) (.skip))) (sQ [oL 16 1,oN 17 16,o 18 (.bin .sub (.t 17) (qI 1)),oM 7 18] (.seq (.blk 2 (.loop cP)) cK)))
def bw:SF:=⟨65,[],sQ [oL 8 1,oN 9 8,o 10 (.mks 1 8 [.int .i64 0] (.t 9) (.t 9)),oM 4 10,oK 5 0,oK 6 0] (.blk 0 (.loop il))⟩
def dG:SC:=.seq (sQ [oM 13 7,oM 14 8,o 15 (.bin .lss (.t 13) (.t 14))] (.cond (.t 15) (.skip) (.exit 0))) (.blk 1 (sQ [oM 16 7,oM 17 8,o 18 (.bin .add (.t 16) (.t 17)),o 19 (.conv .u64 (.t 18)),o 20 (.bin .shr (.t 19) (.k (.int .u64 1))),o 21 (.conv .i64 (.t 20)),oM 9 21] (sQ [oM 22 0,oM 23 9,oX 24 22 23,oL 25 24,oM 26 1,o 27 (.call N.a9 [.t 25,.t 26])] (.cond (.t 27) (.ops [oM 28 9,oA 29 28,oM 7 29]) (.ops [oM 30 9,oM 8 30])))))
def dM:SC:=sQ [oM 31 7,oM 32 7,oM 33 6,o 34 (.bin .lss (.t 32) (.t 33)),oM 35 34,og 36 35 true (.mv (.t 0)),og 37 35 true (.mv (.t 7)),og 38 35 true (.ixs 1 (.t 36) (.t 37)),og 39 35 true (.load false 1 (.t 38)),og 40 35 true (.mv (.t 1)),og 41 35 true (.bin .eql (.t 39) (.t 40)),og 42 35 true (.mv (.t 41)),og 43 42 false (.mv (.t 0)),og 44 42 false (.mv (.t 7)),og 45 42 false (.ixs 1 (.t 43) (.t 44)),og 46 42 false (.load false 1 (.t 45)),og 47 42 false (.call N.aV [.t 46]),og 48 42 false (.mv (.t 47)),og 49 48 true (.mv (.t 1)),og 50 48 true (.call N.aV [.t 49]),og 51 42 false (.pick (.t 48) (.t 50) (.k (.bool false))),og 52 35 true (.pick (.t 42) (.k (.bool true)) (.t 51)),o 53 (.pick (.t 35) (.t 52) (.k (.bool false))),oM 4 31,oM 5 53] (.ret)
def cw:SF:=⟨54,[.tm 4,.tm 5],sQ [oK 4 0,o 5 (.mv (.k (.bool false)))] (sQ [oM 10 0,oN 11 10,oM 6 11] (sQ [oM 12 6,oK 7 0,oM 8 12] (.seq (.blk 0 (.loop dG)) dM)))⟩
def oZ:SC:=sQ [o 9 (.bin .lss (.t 8) (.t 7))] (.seq (.cond (.t 9) (.skip) (.exit 0)) (.seq (.blk 1 (sQ [oM 10 8,oX 11 6 8,oL 12 11,oM 3 10,oM 4 12] (sQ [oM 13 0,oM 14 3,oM 15 4,o 16 (.dyn (.t 13) [.t 14,.t 15]),o 17 (.not (.t 16))] (.cond (.t 17) (.ret) (.skip))))) (.ops [oA 18 8,oM 8 18])))
def fe:SF:=⟨19,[],sQ [oF 5 2 1,oL 6 5,oN 7 6,oK 8 0] (.blk 0 (.loop oZ))⟩
def lU:SF:=⟨17,[.tm 4],sQ [o 4 (.mv (.k (.bool false)))] (sQ [oM 5 0,o 6 (.call N.aM [.t 5]),oM 7 6,og 8 7 true (.mv (.t 1)),og 9 7 true (.call N.aM [.t 8]),og 10 7 true (.not (.t 9)),o 11 (.pick (.t 7) (.t 10) (.k (.bool false))),oM 12 11,og 13 12 false (.mv (.t 0)),og 14 12 false (.mv (.t 1)),og 15 12 false (.bin .lss (.t 13) (.t 14)),o 16 (.pick (.t 12) (.k (.bool true)) (.t 15)),oM 4 16] (.ret))⟩
def gY:SF:=⟨6,[.tm 2],sQ [o 2 (.mv (.k (.bool false)))] (sQ [oM 3 0,oM 4 0,o 5 (.bin .neq (.t 3) (.t 4)),oM 2 5] (.ret))⟩
def lq:SF:=⟨6,[.tm 2],sQ [o 2 (.mv (.k (.bool false)))] (sQ [oM 3 0,oM 4 0,o 5 (.bin .neq (.t 3) (.t 4)),oM 2 5] (.ret))⟩
theorem rB:nFn C0 N.br=some gR:=by kernel_rfl
theorem sg:nFn C0 N.bg=some h_:=by kernel_rfl
theorem qg (d:Nat)(xs:List AV)(g:G):an C0 d N.bg xs g=ap (I C0) d g N.bg xs:=by kernel_rfl
theorem xE:nFn C0 N.aI=some lZ:=by kernel_rfl
theorem t6 (t:T)(g:G)(xs:List Od):SO.foot C0 t g (.call N.aI xs)=ae ((eI t xs).flatMap (ah g.h af)):=by kernel_rfl
theorem tJ (d:Nat)(xs:List AV)(g:G):an C0 d N.aI xs g=ap (I C0) d g N.aI xs:=by kernel_rfl
theorem xq:nFn C0 N.ax=some mD:=by kernel_rfl
theorem nI (t:T)(g:G)(xs:List Od):SO.foot C0 t g (.call N.ax xs)=ae ((eI t xs).flatMap (ah g.h af)):=by kernel_rfl
theorem tL (d:Nat)(xs:List AV)(g:G):an C0 d N.ax xs g=ap (I C0) d g N.ax xs:=by kernel_rfl
theorem xJ:nFn C0 N.aF=some nQ:=by kernel_rfl
theorem uO (d:Nat)(xs:List AV)(g:G):an C0 d N.aF xs g=ap (I C0) d g N.aF xs:=by kernel_rfl
theorem tj:nFn C0 N.bp=some iB:=by kernel_rfl
theorem qT (d:Nat)(xs:List AV)(g:G):an C0 d N.bp xs g=ap (I C0) d g N.bp xs:=by kernel_rfl
theorem dT:nFn l9 N.ac=some be:=by kernel_rfl
theorem gJ (t:T)(g:G)(xs:List Od):SO.foot C0 t g (.call N.ac xs)=ae ((eI t xs).flatMap (ah g.h af)):=by kernel_rfl
theorem dH (d:Nat)(xs:List AV)(g:G):an C0 d N.ac xs g=tH l9 N.ac d xs g:=by kernel_rfl
theorem yh:nFn C0 N.ay=some ox:=by kernel_rfl
theorem uP (t:T)(g:G)(xs:List Od):SO.foot C0 t g (.call N.ay xs)=ae ((eI t xs).flatMap (ah g.h af)):=by kernel_rfl
theorem vv (d:Nat)(xs:List AV)(g:G):an C0 d N.ay xs g=ap (I C0) d g N.ay xs:=by kernel_rfl
theorem ya:nFn C0 N.aL=some oH:=by kernel_rfl
theorem u9 (d:Nat)(xs:List AV)(g:G):an C0 d N.aL xs g=ap (I C0) d g N.aL xs:=by kernel_rfl
theorem uU:nFn C0 N.aU=some j9:=by kernel_rfl
theorem tv (t:T)(g:G)(xs:List Od):SO.foot C0 t g (.call N.aU xs)=ae ((eI t xs).flatMap (ah g.h af)):=by kernel_rfl
theorem tk (d:Nat)(xs:List AV)(g:G):an C0 d N.aU xs g=ap (I C0) d g N.aU xs:=by kernel_rfl
theorem uM:nFn C0 N.aw=some j7:=by kernel_rfl
theorem tA (t:T)(g:G)(xs:List Od):SO.foot C0 t g (.call N.aw xs)=ae ((eI t xs).flatMap (ah g.h af)):=by kernel_rfl
theorem tF (d:Nat)(xs:List AV)(g:G):an C0 d N.aw xs g=ap (I C0) d g N.aw xs:=by kernel_rfl
theorem tG:nFn C0 N.ba=some jx:=by kernel_rfl
theorem rC (d:Nat)(xs:List AV)(g:G):an C0 d N.ba xs g=ap (I C0) d g N.ba xs:=by kernel_rfl
theorem pg:nFn C0 N.ah=some eQ:=by kernel_rfl
theorem nz (d:Nat)(xs:List AV)(g:G):an C0 d N.ah xs g=ap (I C0) d g N.ah xs:=by kernel_rfl
theorem lE:nFn C0 N.aG=some cQ:=by kernel_rfl
theorem jv (t:T)(g:G)(xs:List Od):SO.foot C0 t g (.call N.aG xs)=ae ((eI t xs).flatMap (ah g.h af)):=by kernel_rfl
theorem jt (d:Nat)(xs:List AV)(g:G):an C0 d N.aG xs g=ap (I C0) d g N.aG xs:=by kernel_rfl
theorem yg:nFn C0 N.aT=some oD:=by kernel_rfl
theorem uV (d:Nat)(xs:List AV)(g:G):an C0 d N.aT xs g=ap (I C0) d g N.aT xs:=by kernel_rfl
theorem pt:nFn C0 N.be=some fy:=by kernel_rfl
theorem oE (d:Nat)(xs:List AV)(g:G):an C0 d N.be xs g=ap (I C0) d g N.be xs:=by kernel_rfl
theorem zG:nFn C0 N.ap=some qb:=by kernel_rfl
theorem wB (t:T)(g:G)(xs:List Od):SO.foot C0 t g (.call N.ap xs)=ae ((eI t xs).flatMap (ah g.h af)):=by kernel_rfl
theorem xw (d:Nat)(xs:List AV)(g:G):an C0 d N.ap xs g=ap (I C0) d g N.ap xs:=by kernel_rfl
theorem Af:nFn C0 N.aN=some pU:=by kernel_rfl
theorem wZ (d:Nat)(xs:List AV)(g:G):an C0 d N.aN xs g=ap (I C0) d g N.aN xs:=by kernel_rfl
theorem ki:nFn C0 N.aH=some cR:=by kernel_rfl
theorem jz (d:Nat)(xs:List AV)(g:G):an C0 d N.aH xs g=ap (I C0) d g N.aH xs:=by kernel_rfl
theorem l_:nFn C0 N.aJ=some dz:=by kernel_rfl
theorem kX (t:T)(g:G)(xs:List Od):SO.foot C0 t g (.call N.aJ xs)=ae ((eI t xs).flatMap (ah g.h af)):=by kernel_rfl
theorem j6 (d:Nat)(xs:List AV)(g:G):an C0 d N.aJ xs g=ap (I C0) d g N.aJ xs:=by kernel_rfl
theorem nX:nFn C0 N.aW=some d7:=by kernel_rfl
theorem mG (d:Nat)(xs:List AV)(g:G):an C0 d N.aW xs g=ap (I C0) d g N.aW xs:=by kernel_rfl
theorem t5:nFn C0 N.bj=some jr:=by kernel_rfl
theorem rD (d:Nat)(xs:List AV)(g:G):an C0 d N.bj xs g=ap (I C0) d g N.bj xs:=by kernel_rfl
theorem t_:nFn C0 N.an=some ju:=by kernel_rfl
theorem AX:nFn C0 N.au=some j_:=by kernel_rfl
theorem x9 (d:Nat)(xs:List AV)(g:G):an C0 d N.au xs g=ap (I C0) d g N.au xs:=by kernel_rfl
theorem yf:nFn C0 N.aQ=some nR:=by kernel_rfl
theorem vo (d:Nat)(xs:List AV)(g:G):an C0 d N.aQ xs g=ap (I C0) d g N.aQ xs:=by kernel_rfl
theorem vg:nFn C0 N.aK=some kU:=by kernel_rfl
theorem tx (d:Nat)(xs:List AV)(g:G):an C0 d N.aK xs g=ap (I C0) d g N.aK xs:=by kernel_rfl
theorem vN:nFn C0 N.aC=some mK:=by kernel_rfl
theorem uj (d:Nat)(xs:List AV)(g:G):an C0 d N.aC xs g=ap (I C0) d g N.aC xs:=by kernel_rfl
theorem gV:nFn C0 N.ae=some bM:=by kernel_rfl
theorem lV (t:T)(g:G)(xs:List Od):SO.foot C0 t g (.call N.ae xs)=ae ((eI t xs).flatMap (ah g.h af)):=by kernel_rfl
theorem fL (d:Nat)(xs:List AV)(g:G):an C0 d N.ae xs g=ap (I C0) d g N.ae xs:=by kernel_rfl
theorem yd:nFn C0 N.aP=some od:=by kernel_rfl
theorem uX (d:Nat)(xs:List AV)(g:G):an C0 d N.aP xs g=ap (I C0) d g N.aP xs:=by kernel_rfl
theorem vd:nFn C0 N.aZ=some jY:=by kernel_rfl
theorem sR (d:Nat)(xs:List AV)(g:G):an C0 d N.aZ xs g=ap (I C0) d g N.aZ xs:=by kernel_rfl
theorem pP:nFn C0 N.bf=some fB:=by kernel_rfl
theorem nS (d:Nat)(xs:List AV)(g:G):an C0 d N.bf xs g=ap (I C0) d g N.bf xs:=by kernel_rfl
theorem AB:nFn C0 N.bk=some rG:=by kernel_rfl
theorem xN (d:Nat)(xs:List AV)(g:G):an C0 d N.bk xs g=ap (I C0) d g N.bk xs:=by kernel_rfl
theorem xn:nFn C0 N.a_=some me:=by kernel_rfl
theorem t9 (d:Nat)(xs:List AV)(g:G):an C0 d N.a_ xs g=ap (I C0) d g N.a_ xs:=by kernel_rfl
theorem xh:nFn C0 N.bc=some mg:=by kernel_rfl
theorem tT (d:Nat)(xs:List AV)(g:G):an C0 d N.bc xs g=ap (I C0) d g N.bc xs:=by kernel_rfl
theorem pC:nFn C0 N.aX=some fA:=by kernel_rfl
theorem oe (d:Nat)(xs:List AV)(g:G):an C0 d N.aX xs g=ap (I C0) d g N.aX xs:=by kernel_rfl
theorem jA:nFn C0 N.am=some aH:=by kernel_rfl
theorem mo:nFn C0 N.aY=some dP:=by kernel_rfl
theorem lC (d:Nat)(xs:List AV)(g:G):an C0 d N.aY xs g=ap (I C0) d g N.aY xs:=by kernel_rfl
theorem pd:nFn C0 N.aO=some eX:=by kernel_rfl
theorem mN (d:Nat)(xs:List AV)(g:G):an C0 d N.aO xs g=ap (I C0) d g N.aO xs:=by kernel_rfl
theorem xX:nFn C0 N.bi=some nU:=by kernel_rfl
theorem uQ (d:Nat)(xs:List AV)(g:G):an C0 d N.bi xs g=ap (I C0) d g N.bi xs:=by kernel_rfl
theorem wD:nFn C0 N.aA=some mF:=by kernel_rfl
theorem uf (d:Nat)(xs:List AV)(g:G):an C0 d N.aA xs g=ap (I C0) d g N.aA xs:=by kernel_rfl
theorem qV:nFn C0 N.bm=some f_:=by kernel_rfl
theorem o_ (d:Nat)(xs:List AV)(g:G):an C0 d N.bm xs g=ap (I C0) d g N.bm xs:=by kernel_rfl
theorem uR:nFn C0 N.aR=some j5:=by kernel_rfl
theorem s6 (d:Nat)(xs:List AV)(g:G):an C0 d N.aR xs g=ap (I C0) d g N.aR xs:=by kernel_rfl
theorem pi:nFn C0 N.af=some eG:=by kernel_rfl
theorem gx (t:T)(g:G)(xs:List Od):SO.foot C0 t g (.call N.af xs)=ae ((eI t xs).flatMap (ah g.h af)):=by kernel_rfl
theorem mP (d:Nat)(xs:List AV)(g:G):an C0 d N.af xs g=ap (I C0) d g N.af xs:=by kernel_rfl
theorem sP:nFn C0 N.aD=some iC:=by kernel_rfl
theorem qU (d:Nat)(xs:List AV)(g:G):an C0 d N.aD xs g=ap (I C0) d g N.aD xs:=by kernel_rfl
theorem ph:nFn C0 N.bo=some eo:=by kernel_rfl
theorem ny (d:Nat)(xs:List AV)(g:G):an C0 d N.bo xs g=ap (I C0) d g N.bo xs:=by kernel_rfl
theorem BH:nFn C0 N.aB=some rE:=by kernel_rfl
theorem x_ (d:Nat)(xs:List AV)(g:G):an C0 d N.aB xs g=ap (I C0) d g N.aB xs:=by kernel_rfl
theorem sS:nFn C0 N.aE=some cA:=by kernel_rfl
theorem pf:nFn C0 N.bh=some fc:=by kernel_rfl
theorem nK (d:Nat)(xs:List AV)(g:G):an C0 d N.bh xs g=ap (I C0) d g N.bh xs:=by kernel_rfl
theorem qS:nFn C0 N.aa=some bw:=by kernel_rfl
theorem jq:nFn C0 N.aS=some cw:=by kernel_rfl
theorem iH (d:Nat)(xs:List AV)(g:G):an C0 d N.aS xs g=ap (I C0) d g N.aS xs:=by kernel_rfl
theorem xW:nFn C0 N.ak=some fe:=by kernel_rfl
theorem xD:nFn C0 N.a9=some lU:=by kernel_rfl
theorem ug (d:Nat)(xs:List AV)(g:G):an C0 d N.a9 xs g=ap (I C0) d g N.a9 xs:=by kernel_rfl
theorem rY:nFn C0 N.aV=some gY:=by kernel_rfl
theorem pK (d:Nat)(xs:List AV)(g:G):an C0 d N.aV xs g=ap (I C0) d g N.aV xs:=by kernel_rfl
theorem uS:nFn C0 N.aM=some lq:=by kernel_rfl
theorem sG (d:Nat)(xs:List AV)(g:G):an C0 d N.aM xs g=ap (I C0) d g N.aM xs:=by kernel_rfl
theorem oP {α:Type}{f:Nat->α->Nat->α->Bool}{i:Nat}{x:α}:∀{l:List α} {j:Nat},(∀b y,l[b]?=some y->f i x (j+b) y=true)->fd f i x j l=true
 | [],_,_=>rfl
 | y::r,j,h=>by
  simp only[fd,Bool.and_eq_true]
  refine ⟨by simpa using h 0 y rfl,oP fun b z hb=>?_⟩
  have:=h (b+1) z (by simpa using hb)
  rwa [show j+(b+1)=j+1+b by omega] at this
theorem pN {α:Type}{f:Nat->α->Nat->α->Bool}:∀{l:List α} {i:Nat},(∀a b x y,a<b->l[a]?=some x->l[b]?=some y->f (i+a) x (i+b) y=true)->iW f i l=true
 | [],_,_=>rfl
 | x::r,i,h=>by
  simp only[iW,Bool.and_eq_true]
  refine ⟨oP fun b y hb=>?_,pN fun a b x' y hab ha hb=>?_⟩
  ·have:=h 0 (b+1) x y (by omega) rfl (by simpa using hb)
   rwa [Nat.add_zero,show i+(b+1)=i+1+b by omega] at this
  ·have:=h (a+1) (b+1) x' y (by omega) (by simpa using ha) (by simpa using hb)
   rwa [show i+(a+1)=i+1+a by omega,show i+(b+1)=i+1+b by omega] at this
theorem ux {pm:List Nat}:∀{l:List Foot} {i:Nat},(∀f∈l,f.lk.sr=[])->ji pm i l=true
 | [],_,_=>rfl
 | x::r,i,h=>by
  simp only[ji,h x (by simp)]
  exact ux fun f hf=>h f (by simp[hf])
def Dy (pm:List Nat)(ws:List Bool)(L:List (Nat×Nat))(i j:Nat):Bool:=(pm.getD j 0).testBit i || (!(ws.getD i false)&&!(ws.getD j false)) || L.contains (i,j)
def EW (pm:List Nat)(ws:List Bool)(L:List (Nat×Nat)):Bool:=(List.range ws.length).all fun j=>(List.range j).all fun i=>Dy pm ws L i j
theorem aL {pm:List Nat}{fs:List Foot}(ws:List Bool)(L:List (Nat×Nat))(hw:All2 (fun (f:Foot) (w:Bool)=>f.lk.sr=[]/\(w=false->f.wr=[])) fs ws)(hd:EW pm ws L=true)
  (hL:∀p∈L,∀x y,fs[p.1]?=some x->fs[p.2]?=some y->bm x y=true):jM pm fs=true:=by
 unfold jM
 rw[aa,if_pos]
 ·exact ux fun f hf=>by
   obtain ⟨i,hi,rfl⟩:=List.mem_iff_getElem.1 hf
   obtain ⟨w,-,h⟩:=hw.get (List.getElem?_eq_getElem hi)
   exact h.1
 ·refine pN fun a b x y hab ha hb=>?_
  simp only[Nat.zero_add]
  obtain ⟨wa,hwa,ka⟩:=hw.get ha
  obtain ⟨wb,hwb,kb⟩:=hw.get hb
  have hbl:=(List.getElem?_eq_some_iff.1 hwb).1
  have:=List.all_eq_true.1 (List.all_eq_true.1 hd b (List.mem_range.2 hbl)) a (List.mem_range.2 hab)
  simp only[Dy,Bool.or_eq_true] at this
  rcases this with (h | h) | h
  ·rw[h,Bool.true_or]
  ·simp only[List.getD_eq_getElem?_getD,hwa,hwb,Option.getD_some,Bool.and_eq_true,Bool.not_eq_true'] at h
   have ex:=ka.2 h.1
   have ey:=kb.2 h.2
   simp only[bm,eU,dO,ex,ey,Bool.and_self,Bool.or_true]
  ·rw[hL (a,b) (List.contains_iff_mem.1 h) x y ha hb,Bool.or_true]
structure Mech where
 card:Int
 frm:List Int
 noise:List Int
 out:List Int
structure Causal where
 grain:Int
 roots:List (List Int)
 nodes:List Mech
structure Node where
 card:Int
 parents:List Int
 rows:List (List Int)
structure Net where
 grain:Int
 nodes:List Node
structure Factor where
 vars:List Int
 cards:List Int
 w:List Int
instance : Rp Mech:=Rp.via fun m:Mech=>(m.card,m.frm,m.noise,m.out)
instance : Rp Causal:=Rp.via fun m:Causal=>(m.grain,m.roots,m.nodes)
instance : Rp Node:=Rp.via fun m:Node=>(m.card,m.parents,m.rows)
instance : Rp Net:=Rp.via fun m:Net=>(m.grain,m.nodes)
instance : Rp Factor:=Rp.via fun m:Factor=>(m.vars,m.cards,m.w)
section
variable {P:Nat->Prop}{k:Nat}{h:H}{cs:List AV}
theorem dx {m:Node}:Rp.rp P k h m cs↔∃a b,cs=[.int .i64 m.card,a,b]/\SlR P k h m.parents a/\SlR P k h m.rows b:=by
 constructor
 ·rintro ⟨c1,c2,rfl,h1,d1,d2,rfl,⟨a,rfl,h2⟩,⟨b,rfl,h3⟩⟩
  rw[ay.1 h1];exact ⟨a,b,rfl,h2,h3⟩
 ·rintro ⟨a,b,rfl,h2,h3⟩
  exact ⟨[.int .i64 m.card],[a,b],rfl,ay.2 rfl,[a],[b],rfl,⟨a,rfl,h2⟩,⟨b,rfl,h3⟩⟩
theorem kH {m:Net}:Rp.rp P k h m cs↔∃a,cs=[.int .i64 m.grain,a]/\SlR P k h m.nodes a:=by
 constructor
 ·rintro ⟨c1,c2,rfl,h1,⟨a,rfl,h2⟩⟩
  rw[ay.1 h1];exact ⟨a,rfl,h2⟩
 ·rintro ⟨a,rfl,h2⟩
  exact ⟨[.int .i64 m.grain],[a],rfl,ay.2 rfl,⟨a,rfl,h2⟩⟩
theorem aX {m:Factor}:Rp.rp P k h m cs↔∃a b c,cs=[a,b,c]/\SlR P k h m.vars a/\SlR P k h m.cards b/\SlR P k h m.w c:=by
 constructor
 ·rintro ⟨c1,c2,rfl,⟨a,rfl,h2⟩,e1,e2,rfl,⟨b,rfl,h3⟩,⟨c,rfl,h4⟩⟩
  exact ⟨a,b,c,rfl,h2,h3,h4⟩
 ·rintro ⟨a,b,c,rfl,h2,h3,h4⟩
  exact ⟨[a],[b,c],rfl,⟨a,rfl,h2⟩,[b],[c],rfl,⟨b,rfl,h3⟩,⟨c,rfl,h4⟩⟩
end
theorem SlR.len {α:Type} [Rp α]{P:Nat->Prop}{k:Nat}{h:H}{l:List α}{v:AV}(r:SlR P k h l v)(g:G):ii .slice v g=.val (.int .i64 (l.length:Int)):=by
 obtain ⟨rows,h1,h2⟩:=r.rows
 rw[gG h1,h2.len]
theorem SlR.tree {α:Type} [Rp α]{k k':Nat}{h h':H}{l:List α}{v:AV}(r:SlR NoP k h l v)(hk:k<=k'):SlR NoP k' h' l v:=by
 obtain ⟨w,hw,q⟩:=Rp.tree (P:=NoP) (k':=k') (h':=h') (show Rp.rp NoP k h l [v] from ⟨v,rfl,r⟩) hk
 injection hw with hw;subst hw;exact q
theorem dR {α:Type} [Rp α]{P:Nat->Prop}{k:Nat}{h:H}{l:List α}{v:AV}(r:SlR P k h l v)(d:Nat)(hd:Rp.dp (List α)<=20:=by decide) :
  ∃v',Hx.snap h d af v=some v'/\∀h',SlR NoP (max k d) h' l v':=by
 obtain ⟨v',e,w,hw,q⟩:=pp (aO l hd) (by decide) d (show One l P k h v from ⟨v,rfl,r⟩)
 injection hw with hw;subst hw
 exact ⟨v',e,fun h'=>q.tree (Nat.le_refl _)⟩
theorem SlR.all {α:Type} [Rp α]{k:Nat}{h:H}{l:List α}{v:AV}(r:SlR NoP k h l v) :
  ∃rows:List (List AV),(∀h',am h' (Rp.sz α) v=some rows)/\rows.length=l.length/\(∀(i:Nat) (x:α),l[i]?=some x->∃row,rows[i]?=some row/\Rp.rp NoP k .nil x row)/\(0<l.length->qf v=true):=by
 have r0:=(r.tree (h':=.nil) (Nat.le_refl _))
 obtain ⟨rows,h1,h2⟩:=r0.rows
 refine ⟨rows,fun h'=>?_,h2.len.symm,fun i x hi=>h2.get hi,fun hl=>nW h1 (i:=0) (by rw[<-h2.len];exact hl)⟩
 rw[<-h1]
 exact uv fun id ep off len lim e=>by subst e;exact r.2.1.elim
theorem z_ {P:Nat->Prop}{k:Nat}{h:H}{l:List Nat}{v:AV}(r:SlR P k h l v):∀x∈l,x<18446744073709551616:=by
 obtain ⟨rows,h1,h2⟩:=r.rows
 intro x hx
 obtain ⟨i,hi,e⟩:=List.mem_iff_getElem.1 hx
 obtain ⟨row,h3,h4⟩:=h2.get (i:=i) (a:=x) (by rw[List.getElem?_eq_getElem hi,e])
 exact (C7.1 h4).2
theorem pO (p:Nat->Bool)(j:Nat):(List.range (j+1)).all p=((List.range j).all p&&p j):=by rw[List.range_succ,List.all_append];simp
theorem vp {p:Nat->Bool}{j n:Nat}(h:j<n)(hp:p j=false):(List.range n).all p=false:=by
 rw[List.all_eq_false];exact ⟨j,List.mem_range.2 h,by rw[hp];decide⟩
end
end Hx
end
section
namespace Hx
open Go
noncomputable section
theorem qF {C:Cfg}{nt d:Nat}{rd:Option Nat}{c:Code}{t:T}{df:List ADf}{g:G}{Q:QT}(h:wp C d rd (dY C nt c) Q t df g):((I C).code nt d rd c t df g).sat Q:=by
 rw[CS];exact Lu _ _ _ _ _ h
end
end Hx
end
