/- A part of the proof: an interpreter over abstract values, shown right against the model, and what the functions of the chapter compute on it. -/
import Derived.KernelRfl
import Derived.Test.YteaikmdilmfbeaaGreatHx9
set_option linter.unusedVariables false
set_option linter.unusedSimpArgs false
set_option linter.unnecessarySimpa false
section
namespace Hx
open Go
set_option maxRecDepth 100000
noncomputable section
def C0:Cfg:=Go.Proofs.YteaikmdilmfbeaaGreat.Gen.cfg1
abbrev N.aX:Nat:=167
abbrev N.aH:Nat:=111
abbrev N.aY:Nat:=16
abbrev N.aZ:Nat:=51
abbrev N.a9:Nat:=52
abbrev N.au:Nat:=99
abbrev N.aI:Nat:=101
abbrev N.aJ:Nat:=100
abbrev N.aa:Nat:=132
abbrev N.aK:Nat:=38
abbrev N.a_:Nat:=39
abbrev N.aL:Nat:=81
abbrev N.ba:Nat:=114
abbrev N.bc:Nat:=82
abbrev N.aw:Nat:=83
abbrev N.ae:Nat:=113
abbrev N.ax:Nat:=84
abbrev N.be:Nat:=115
abbrev N.bG:Nat:=10
abbrev N.bI:Nat:=12
abbrev N.aM:Nat:=93
abbrev N.bg:Nat:=112
abbrev N.bh:Nat:=145
abbrev N.aN:Nat:=123
abbrev N.aO:Nat:=87
abbrev N.ay:Nat:=150
abbrev N.af:Nat:=165
abbrev N.bi:Nat:=124
abbrev N.aP:Nat:=85
abbrev N.aQ:Nat:=40
abbrev N.aA:Nat:=162
abbrev N.ah:Nat:=161
abbrev N.aB:Nat:=117
abbrev N.aC:Nat:=147
abbrev N.bj:Nat:=146
abbrev N.aD:Nat:=116
abbrev N.bk:Nat:=164
abbrev N.aR:Nat:=163
abbrev N.ak:Nat:=148
abbrev N.bm:Nat:=68
abbrev N.bo:Nat:=91
abbrev N.aE:Nat:=47
abbrev N.aS:Nat:=48
abbrev N.br:Nat:=92
abbrev N.bu:Nat:=15
abbrev N.bz:Nat:=31
abbrev N.bB:Nat:=49
abbrev N.ap:Nat:=50
abbrev N.bC:Nat:=32
abbrev N.aT:Nat:=159
abbrev N.aq:Nat:=37
abbrev N.bD:Nat:=94
abbrev N.bE:Nat:=129
abbrev N.bH:Nat:=160
abbrev N.aU:Nat:=168
abbrev N.aF:Nat:=97
abbrev N.am:Nat:=96
abbrev N.an:Nat:=131
abbrev N.aV:Nat:=53
abbrev N.bF:Nat:=130
abbrev N.aG:Nat:=98
abbrev N.aW:Nat:=95
def cL:SC:=sQ [o 94 (.bin .lss (.t 93) (.t 92))] (.seq (.cond (.t 94) (.skip) (.exit 0)) (.seq (.blk 1 (sQ [oM 95 93,oX 96 91 93,oL 97 96,oM 16 95,oM 17 97] (.seq (.seq (.quiet [oF 98 1 11,oL 99 98,oM 100 16,oX 101 99 100,oL 102 101,oF 103 1 5,oL 104 103,oM 105 7,oM 106 16,oX 107 105 106,oL 108 107,o 109 (.ixs 3 (.t 104) (.t 108)),oF 110 0 109,oL 111 110,o 112 (.bin .neq (.t 102) (.t 111)),oM 113 112,og 114 113 false (.mv (.t 17)),og 115 113 false (.bin .lss (.t 114) (qI 0)),o 116 (.pick (.t 113) (.k (.bool true)) (.t 115)),oM 117 116,og 118 117 false (.mv (.t 17)),og 119 117 false (.fad 1 (.t 11)),og 120 117 false (.load false 1 (.t 119)),og 121 117 false (.mv (.t 16)),og 122 117 false (.ixs 1 (.t 120) (.t 121)),og 123 117 false (.load false 1 (.t 122)),og 124 117 false (.bin .geq (.t 118) (.t 123)),o 125 (.pick (.t 117) (.k (.bool true)) (.t 124))]) (.cond (.t 125) (sQ [o 4 (.mv (.k (.bool false)))] (.ret)) (.skip))) (.ops [oM 126 15,oF 127 1 11,oL 128 127,oM 129 16,oX 130 128 129,oL 131 130,o 132 (.bin .mul (.t 126) (.t 131)),oM 133 17,o 134 (.bin .add (.t 132) (.t 133)),oM 15 134])))) (.ops [oA 135 93,oM 93 135])))
def cM:SC:=sQ [o 156 (.bin .lss (.t 155) (.t 154))] (.seq (.cond (.t 156) (.skip) (.exit 2)) (.seq (.blk 3 (sQ [oM 157 155,oX 158 153 155,oL 159 158,oM 18 157,oM 19 159] (sQ [oM 160 19,oF 161 2 11,oL 162 161,oM 163 15,oX 164 162 163,oL 165 164,o 166 (.bin .gtr (.t 160) (.t 165)),oM 167 166,og 168 167 false (.mv (.t 19)),og 169 167 false (.fad 2 (.t 11)),og 170 167 false (.load false 1 (.t 169)),og 171 167 false (.mv (.t 15)),og 172 167 false (.ixs 1 (.t 170) (.t 171)),og 173 167 false (.load false 1 (.t 172)),og 174 167 false (.bin .eql (.t 168) (.t 173)),og 175 167 false (.mv (.t 174)),og 176 175 true (.mv (.t 18)),og 177 175 true (.mv (.t 15)),og 178 175 true (.bin .lss (.t 176) (.t 177)),og 179 167 false (.pick (.t 175) (.t 178) (.k (.bool false))),o 180 (.pick (.t 167) (.k (.bool true)) (.t 179))] (.cond (.t 180) (sQ [o 4 (.mv (.k (.bool false)))] (.ret)) (.skip))))) (.ops [oA 181 155,oM 155 181])))
def fm:SC:=sQ [o 4 (.mv (.k (.bool true)))] (.ret)
def fq:SC:=.seq (.seq (.quiet [oM 136 15,oF 137 2 11,oL 138 137,oN 139 138,o 140 (.bin .geq (.t 136) (.t 139)),oM 141 140,og 142 141 false (.load true 2 (.t 9)),og 143 141 false (.fad 2 (.t 11)),og 144 141 false (.load false 1 (.t 143)),og 145 141 false (.mv (.t 15)),og 146 141 false (.ixs 1 (.t 144) (.t 145)),og 147 141 false (.load false 1 (.t 146)),og 148 141 false (.mv (.t 13)),og 149 141 false (.call N.aQ [.t 147,.t 148]),og 150 141 false (.eq true (.flat [.int .i64,.int .i64]) (.t 142) (.t 149)),o 151 (.pick (.t 141) (.k (.bool true)) (.t 150))]) (.cond (.t 151) (sQ [o 4 (.mv (.k (.bool false)))] (.ret)) (.skip))) (.seq (sQ [oF 152 2 11,oL 153 152,oN 154 153,oK 155 0] (.blk 2 (.loop cM))) fm)
def gg:SC:=.seq (sQ [o 20 (.call N.bI []),o 21 (.not (.t 20))] (.cond (.t 21) (sQ [o 4 (.mv (.k (.bool false)))] (.ret)) (.skip))) (sQ [o 22 (.load true 3 (.t 2)),o 23 (.call N.bu [.t 22]),o 5 (.alloc [.int .i64 0,.nils]),oz (.store 2 (.t 5) (.t 23))] (.seq (.quiet [oF 24 0 3,o 25 (.load true 9 (.t 24)),o 26 (.load true 2 (.t 5)),o 27 (.call N.bz [.t 25,.t 26]),oF 28 9 3,oL 29 28,oF 30 1 5,oL 31 30,oN 32 31,o 33 (.call N.bC [.t 29,.t 32]),oM 6 27,oM 7 33]) (sQ [o 35 (.load true 2 (.t 5)),oM 36 6,oM 37 7,o 38 (.call N.aY [.t 35,.t 36,.t 37]),oM 34 38,o 39 (.ext (.t 34) 0),o 40 (.ext (.t 34) 1),o 41 (.ext (.t 34) 2),o 9 (.alloc [.int .i64 0,.int .i64 0]),oM 8 39,oz (.store 2 (.t 9) (.t 40)),oM 10 41] (sQ [o 43 (.load true 2 (.t 5)),oM 44 6,oM 45 7,o 46 (.call N.a_ [.t 43,.t 44,.t 45]),oM 42 46,o 47 (.ext (.t 42) 0),o 48 (.ext (.t 42) 1),o 11 (.alloc [.nils,.nils,.nils]),oz (.store 3 (.t 11) (.t 47)),oM 12 48] (sQ [o 50 (.load true 2 (.t 5)),oM 51 6,o 52 (.call N.aK [.t 50,.t 51]),oM 49 52,o 53 (.ext (.t 49) 0),o 54 (.ext (.t 49) 1),oM 13 53,oM 14 54] (.seq (sQ [oM 55 12,o 56 (.bin .neq (.t 55) (qI 0)),oM 57 56,og 58 57 false (.mv (.t 14)),og 59 57 false (.bin .neq (.t 58) (qI 0)),o 60 (.pick (.t 57) (.k (.bool true)) (.t 59))] (.cond (.t 60) (sQ [o 4 (.mv (.k (.bool false)))] (.ret)) (.skip))) (.seq (sQ [oM 61 10,o 62 (.bin .neq (.t 61) (qI 0))] (.cond (.t 62) (sQ [oM 63 10,o 64 (.bin .eql (.t 63) (qI 7)),oM 65 64,og 66 65 true (.mv (.t 13)),og 67 65 true (.bin .eql (.t 66) (qI 0)),o 68 (.pick (.t 65) (.t 67) (.k (.bool false))),oM 69 68,og 70 69 true (.mv (.t 8)),og 71 69 true (.len .slice (.t 70)),og 72 69 true (.bin .eql (.t 71) (qI 0)),o 73 (.pick (.t 69) (.t 72) (.k (.bool false))),oM 4 73] (.ret)) (.skip))) (.seq (sQ [oM 74 8,oN 75 74,oM 76 7,oN 77 76,o 78 (.bin .neq (.t 75) (.t 77)),oM 79 78,og 80 79 false (.mv (.t 13)),og 81 79 false (.bin .lss (.t 80) (qI 1)),o 82 (.pick (.t 79) (.k (.bool true)) (.t 81)),oM 83 82,og 84 83 false (.fad 1 (.t 11)),og 85 83 false (.load false 1 (.t 84)),og 86 83 false (.len .slice (.t 85)),og 87 83 false (.mv (.t 7)),og 88 83 false (.len .slice (.t 87)),og 89 83 false (.bin .neq (.t 86) (.t 88)),o 90 (.pick (.t 83) (.k (.bool true)) (.t 89))] (.cond (.t 90) (sQ [o 4 (.mv (.k (.bool false)))] (.ret)) (.skip))) (sQ [oK 15 0] (.seq (sQ [oM 91 8,oN 92 91,oK 93 0] (.blk 0 (.loop cL))) fq))))))))))
def dH:SF:=⟨182,[.tm 4],sQ [o 2 (.box (.t 0)),o 3 (.box (.t 1)),o 4 (.mv (.k (.bool false)))] gg⟩
def rQ:SC:=sQ [oM 65 6,oM 66 9,o 67 (.bin .mul (.t 65) (.t 66)),oM 6 67] (.feet [0,1,0,0,12,28,0,127,255,511] [oF 68 1 4,oL 69 68,oM 70 5,oM 71 7,oX 72 70 71,oL 73 72,oM 74 9,o 75 (.ixs 3 (.t 69) (.t 73)),oF 76 0 75,oz (.store 1 (.t 76) (.t 74))])
def rR:SC:=sQ [oF 50 0 8,oL 51 50,o 52 (.bin .rem (.t 51) (.k (.int .u8 2))),o 53 (.conv .i64 (.t 52)),o 54 (.bin .add (qI 2) (.t 53)),oM 9 54] (.seq (sQ [oM 55 6,oM 56 9,o 57 (.bin .mul (.t 55) (.t 56)),oM 58 3,o 59 (.bin .sub (.t 58) (qI 1)),oM 60 7,o 61 (.bin .sub (.t 59) (.t 60)),o 62 (.conv .u64 (.t 61)),o 63 (.bin .shl (.t 57) (.t 62)),o 64 (.bin .gtr (.t 63) (qI 100))] (.cond (.t 64) (.ops [oK 9 2]) (.skip))) rQ)
def j9:SC:=.ops [oM 38 7,oA 39 38,oM 7 39]
def fB:SC:=.seq (sQ [oM 35 7,oM 36 3,o 37 (.bin .lss (.t 35) (.t 36))] (.cond (.t 37) (.skip) (.exit 0))) (.seq (.blk 1 (sQ [o 8 (.alloc [.int .u8 0,.int .u8 0,.nils])] (.seq (sQ [oM 40 7,oF 41 1 1,oL 42 41,oN 43 42,o 44 (.bin .lss (.t 40) (.t 43))] (.cond (.t 44) (.ops [oF 45 1 1,oL 46 45,oM 47 7,o 48 (.ixs 3 (.t 46) (.t 47)),o 49 (.load true 3 (.t 48)),oz (.store 3 (.t 8) (.t 49))]) (.skip))) rR))) j9)
def j_:SC:=.ops [oM 104 14,oA 105 104,oM 14 105]
def fC:SC:=.seq (sQ [oM 101 14,oM 102 10,o 103 (.bin .lss (.t 101) (.t 102))] (.cond (.t 103) (.skip) (.exit 6))) (.seq (.blk 7 (sQ [oM 106 5,oM 107 14,oX 108 106 107,oL 109 108,oM 110 13,o 111 (.bin .eql (.t 109) (.t 110)),oM 112 111,og 113 112 true (.fad 1 (.t 11)),og 114 112 true (.load false 1 (.t 113)),og 115 112 true (.mv (.t 14)),og 116 112 true (.conv .u64 (.t 115)),og 117 112 true (.bin .shr (.t 114) (.t 116)),og 118 112 true (.bin .and (.t 117) (.k (.int .u8 1))),og 119 112 true (.bin .eql (.t 118) (.k (.int .u8 1))),o 120 (.pick (.t 112) (.t 119) (.k (.bool false))),oM 121 120,og 122 121 true (.fad 1 (.t 4)),og 123 121 true (.load false 1 (.t 122)),og 124 121 true (.mv (.t 12)),og 125 121 true (.ixs 3 (.t 123) (.t 124)),og 126 121 true (.fad 1 (.t 125)),og 127 121 true (.load false 1 (.t 126)),og 128 121 true (.len .slice (.t 127)),og 129 121 true (.bin .lss (.t 128) (qI 3)),o 130 (.pick (.t 121) (.t 129) (.k (.bool false)))] (.cond (.t 130) (.feet [0,1,0,0,8,0,56,120,248,0,512,2040,4095,8191,16383] [oF 131 1 4,oL 132 131,oM 133 12,oF 134 1 4,oL 135 134,oM 136 12,o 137 (.ixs 3 (.t 135) (.t 136)),oF 138 1 137,oL 139 138,oM 140 13,o 141 (.bsl 1 1 [.int .i64 0] [0] [.t 140]),o 142 (.app 1 8 (.t 139) (.t 141)),o 143 (.ixs 3 (.t 132) (.t 133)),oF 144 1 143,oz (.store 1 (.t 144) (.t 142))]) (.skip)))) j_)
def kh:SC:=.ops [oM 99 13,oA 100 99,oM 13 100]
def fD:SC:=.seq (sQ [oM 96 13,oM 97 3,o 98 (.bin .lss (.t 96) (.t 97))] (.cond (.t 98) (.skip) (.exit 4))) (.seq (.blk 5 (sQ [oK 14 0] (.blk 6 (.loop fC)))) kh)
def fE:SC:=.seq (sQ [oM 145 15,o 146 (.load true 2 (.t 4)),oM 147 12,o 148 (.call N.bB [.t 146,.t 147]),o 149 (.call N.aS [.t 148]),o 150 (.bin .lss (.t 145) (.t 149))] (.cond (.t 150) (.skip) (.exit 8))) (.seq (.blk 9 (.feet [0,1,0,0,8,0,56,120,248,0,512,0,2048,0,14336,30720,63488,0,131072,0,0,1048576,0,7340032,15728640,32505856,66060288,133693440,268434944,536870400,1073741816,2147483647,4294967295,8589934591] [oF 153 1 4,oL 154 153,oM 155 12,oF 156 1 4,oL 157 156,oM 158 12,o 159 (.ixs 3 (.t 157) (.t 158)),oF 160 2 159,oL 161 160,oF 162 0 4,oL 163 162,oF 164 1 4,oL 165 164,oM 166 12,o 167 (.ixs 3 (.t 165) (.t 166)),oF 168 0 167,oL 169 168,oF 170 2 11,oL 171 170,oM 172 15,oF 173 1 4,oL 174 173,oM 175 12,o 176 (.ixs 3 (.t 174) (.t 175)),oF 177 0 176,oL 178 177,oA 179 178,o 180 (.bin .mul (.t 172) (.t 179)),o 181 (.call N.ap [.t 163,.t 169,.t 171,.t 180]),o 182 (.bsl 1 1 [.nils] [0] [.t 181]),o 183 (.app 1 24 (.t 161) (.t 182)),o 184 (.ixs 3 (.t 154) (.t 155)),oF 185 2 184,oz (.store 1 (.t 185) (.t 183))])) (.ops [oM 151 15,oA 152 151,oM 15 152]))
def ko:SC:=sQ [oK 15 0] (.blk 8 (.loop fE))
def jx:SC:=sQ [oM 92 5,oM 93 10,oX 94 92 93,oL 95 94,oM 12 95] (.seq (sQ [oK 13 0] (.blk 4 (.loop fD))) ko)
def jy:SC:=.ops [oM 80 10,oA 81 80,oM 10 81]
def eL:SC:=.seq (sQ [oM 77 10,oM 78 3,o 79 (.bin .lss (.t 77) (.t 78))] (.cond (.t 79) (.skip) (.exit 2))) (.seq (.blk 3 (sQ [o 11 (.alloc [.int .u8 0,.int .u8 0,.nils])] (.seq (sQ [oM 82 10,oF 83 1 1,oL 84 83,oN 85 84,o 86 (.bin .lss (.t 82) (.t 85))] (.cond (.t 86) (.ops [oF 87 1 1,oL 88 87,oM 89 10,o 90 (.ixs 3 (.t 88) (.t 89)),o 91 (.load true 3 (.t 90)),oz (.store 3 (.t 11) (.t 91))]) (.skip))) jx))) jy)
def jz:SC:=sQ [o 186 (.load true 2 (.t 4)),oz (.store 2 (.t 2) (.t 186))] (.ret)
def jA:SC:=.seq (sQ [oK 10 0] (.blk 2 (.loop eL))) jz
def ld:SC:=sQ [oF 16 1 1,oL 17 16,oN 18 17,o 19 (.mx (.t 18) (qI 1)),o 20 (.mn (.t 19) (qI 5)),oM 3 20] (.seq (.feet [0,1,3,7,15,0,32,127,0,511] [oF 21 0 1,oL 22 21,o 23 (.bin .rem (.t 22) (.k (.int .u8 60))),o 24 (.conv .i64 (.t 23)),o 25 (.bin .add (qI 1) (.t 24)),oM 26 3,o 27 (.mks 3 56 [.int .i64 0,.nils,.nils] (.t 26) (.t 26)),o 28 (.build [.int .i64 0,.nils] [(0,1),(1,1)] [.t 25,.t 27]),o 4 (.alloc [.int .i64 0,.nils]),oz (.store 2 (.t 4) (.t 28))]) (.seq (.feet [0,1,0,4,15,31,63] [oM 29 3,o 30 (.mks 1 1 [.int .u8 0] (.t 29) (.t 29)),oF 31 2 1,oL 32 31,o 33 (.build [.nils,.int .u16 0,.nils] [(0,1),(2,1)] [.t 30,.t 32]),o 34 (.call N.aE [.t 33]),oM 5 34]) (sQ [oK 6 1] (.seq (sQ [oK 7 0] (.blk 0 (.loop fB))) jA))))
def jh:SF:=⟨187,[.cell true 2 2],sQ [o 1 (.box (.t 0)),o 2 (.alloc [.int .i64 0,.nils])] ld⟩
def qC:SC:=sQ [o 14 (.load true 2 (.t 3)),oM 15 1,oM 16 2,o 17 (.call N.aZ [.t 14,.t 15,.t 16]),oM 13 17,o 18 (.ext (.t 13) 0),o 19 (.ext (.t 13) 1),oM 9 18,oM 10 19] (.seq (sQ [oM 20 10,o 21 (.bin .neq (.t 20) (qI 0))] (.cond (.t 21) (sQ [o 22 (.build [.int .i64 0,.int .i64 0] [] []),oM 23 10,o 6 (.mv (.k (.nils))),oz (.store 2 (.t 7) (.t 22)),oM 8 23] (.ret)) (.skip))) (.seq (sQ [oM 24 9,o 25 (.nilc (.t 24)),oF 26 5 25,oL 27 26,o 28 (.bin .eql (.t 27) (qI 0))] (.cond (.t 28) (sQ [o 29 (.build [.int .i64 0,.int .i64 0] [] []),o 6 (.mv (.k (.nils))),oz (.store 2 (.t 7) (.t 29)),oK 8 7] (.ret)) (.skip))) (sQ [oM 31 9,o 32 (.call N.a9 [.t 31]),oM 30 32,o 33 (.ext (.t 30) 0),o 34 (.ext (.t 30) 1),oM 11 33,oM 12 34] (sQ [oM 35 11,oM 36 12,oM 37 9,o 38 (.nilc (.t 37)),oF 39 5 38,oL 40 39,o 41 (.call N.aV [.t 36,.t 40]),oM 6 35,oz (.store 2 (.t 7) (.t 41)),oK 8 0] (.ret)))))
def nL:SF:=⟨42,[.tm 6,.cell true 2 7,.tm 8],sQ [o 3 (.box (.t 0)),o 6 (.mv (.k (.nils))),o 7 (.alloc [.int .i64 0,.int .i64 0]),oK 8 0] qC⟩
def gt:SC:=.ops [oM 34 5,oM 35 7,o 36 (.bsl 1 1 [.int .i64 0] [0] [.t 35]),o 37 (.app 1 8 (.t 34) (.t 36)),oM 5 37]
def tb:SC:=.ops [oM 13 6,oA 14 13,oM 6 14]
def ta:SC:=.seq (sQ [oM 8 6,oF 9 1 3,oL 10 9,oN 11 10,o 12 (.bin .lss (.t 8) (.t 11))] (.cond (.t 12) (.skip) (.exit 0))) (.seq (.blk 1 (sQ [oK 7 (-1)] (.seq (sQ [oF 15 0 2,oL 16 15,oM 17 6,o 18 (.conv .u64 (.t 17)),o 19 (.bin .shr (.t 16) (.t 18)),o 20 (.bin .and (.t 19) (.k (.int .u8 1))),o 21 (.bin .eql (.t 20) (.k (.int .u8 1)))] (.cond (.t 21) (.quiet [oM 22 6,oF 23 1 2,o 24 (.ixa 8 1 (.t 23) (.t 22)),oL 25 24,o 26 (.conv .i64 (.t 25)),oF 27 1 3,oL 28 27,oM 29 6,o 30 (.ixs 3 (.t 28) (.t 29)),oF 31 0 30,oL 32 31,o 33 (.bin .rem (.t 26) (.t 32)),oM 7 33]) (.skip))) gt))) tb)
def lf:SC:=sQ [oM 38 5,oM 4 38] (.ret)
def mj:SC:=sQ [o 5 (.mv (.k (.nils)))] (.seq (sQ [oK 6 0] (.blk 0 (.loop ta))) lf)
def jP:SF:=⟨39,[.tm 4],sQ [o 2 (.box (.t 0)),o 3 (.box (.t 1)),o 4 (.mv (.k (.nils)))] mj⟩
def pp:SC:=.ops [oM 14 6,oA 15 14,oM 6 15]
def po:SC:=.seq (sQ [oM 7 6,oM 8 1,o 9 (.bin .lss (.t 7) (.t 8)),oM 10 9,og 11 10 true (.mv (.t 6)),og 12 10 true (.bin .lss (.t 11) (qI 8)),o 13 (.pick (.t 10) (.t 12) (.k (.bool false)))] (.cond (.t 13) (.skip) (.exit 0))) (.seq (.blk 1 (sQ [oM 16 0,oM 17 6,o 18 (.conv .u64 (.t 17)),o 19 (.bin .shr (.t 16) (.t 18)),o 20 (.bin .and (.t 19) (.k (.int .u8 1))),o 21 (.bin .eql (.t 20) (.k (.int .u8 1)))] (.cond (.t 21) (.ops [oM 22 5,oM 23 6,o 24 (.bsl 1 1 [.int .i64 0] [0] [.t 23]),o 25 (.app 1 8 (.t 22) (.t 24)),oM 5 25]) (.skip)))) pp)
def pq:SC:=sQ [oM 26 5,oM 4 26] (.ret)
def nX:SF:=⟨27,[.tm 4],sQ [o 4 (.mv (.k (.nils)))] (sQ [o 5 (.mv (.k (.nils)))] (.seq (sQ [oK 6 0] (.blk 0 (.loop po))) pq))⟩
def bu:SF:=⟨8,[.tm 2],sQ [o 2 (.mv (.k (.nils)))] (.seq (sQ [oM 3 0,o 4 (.eq false .slice (.t 3) (.k (.nils)))] (.cond (.t 4) (sQ [o 2 (.mv (.k (.nils)))] (.ret)) (.skip))) (sQ [o 5 (.bsl 1 0 [.int .i64 0] [] []),oM 6 0,o 7 (.app 1 8 (.t 5) (.t 6)),oM 2 7] (.ret)))⟩
def rE:SC:=sQ [o 9 (.load true 2 (.t 2)),oM 10 1,o 11 (.bsl 1 1 [.nils] [0] [.t 10]),o 12 (.call N.aL [.t 9,.t 11]),oM 8 12,o 13 (.ext (.t 8) 0),o 14 (.ext (.t 8) 1),o 6 (.alloc [.int .i64 0,.nils,.nils,.nils]),oz (.store 4 (.t 6) (.t 13)),oM 7 14] (.seq (sQ [oM 15 7,o 16 (.bin .neq (.t 15) (qI 0))] (.cond (.t 16) (sQ [oM 17 7,oK 4 0,oM 5 17] (.ret)) (.skip))) (sQ [o 18 (.load true 4 (.t 6)),oM 19 1,o 20 (.call N.bc [.t 18,.t 19]),oM 4 20,oK 5 0] (.ret)))
def pU:SF:=⟨21,[.tm 4,.tm 5],sQ [o 2 (.box (.t 0)),oK 4 0,oK 5 0] rE⟩
def jI:SC:=sQ [o 35 (.bin .lss (.t 34) (.t 33))] (.seq (.cond (.t 35) (.skip) (.exit 0)) (.seq (.blk 1 (sQ [oX 36 32 34,oL 37 36,oM 13 37] (.seq (sQ [oM 38 13,oM 39 10,o 40 (.bin .leq (.t 38) (.t 39)),oM 41 40,og 42 41 false (.mv (.t 13)),og 43 41 false (.fad 0 (.t 8)),og 44 41 false (.fad 1 (.t 43)),og 45 41 false (.load false 1 (.t 44)),og 46 41 false (.len .slice (.t 45)),og 47 41 false (.bin .geq (.t 42) (.t 46)),o 48 (.pick (.t 41) (.k (.bool true)) (.t 47))] (.cond (.t 48) (sQ [o 49 (.build [.nils,.nils,.nils] [] []),oz (.store 3 (.t 6) (.t 49)),oK 7 2] (.ret)) (.skip))) (sQ [oM 50 13,oM 10 50] (.feet [0,0,2,7,15] [oL 51 11,oM 52 13,o 53 (.bin .shl (.k (.int .u64 1)) (.t 52)),o 54 (.bin .or (.t 51) (.t 53)),oz (.store 1 (.t 11) (.t 54))]))))) (.ops [oA 55 34,oM 34 55])))
def jJ:SC:=sQ [o 60 (.bin .lss (.t 59) (.t 58))] (.seq (.cond (.t 60) (.skip) (.exit 2)) (.seq (.blk 3 (sQ [oX 61 57 59,oL 62 61,oM 17 62] (sQ [oF 63 0 14,oL 64 63,oM 65 17,o 66 (.bsl 1 1 [.int .i64 0] [0] [.t 65]),o 67 (.app 1 8 (.t 64) (.t 66)),oF 68 0 14,oz (.store 1 (.t 68) (.t 67))] (.seq (.feet [0,1,0,4,12,0,60,124,252,508,1023,2047,4095] [oF 69 1 14,oL 70 69,oF 71 0 8,oF 72 1 71,oL 73 72,oM 74 17,o 75 (.ixs 3 (.t 73) (.t 74)),oF 76 0 75,oL 77 76,o 78 (.bsl 1 1 [.int .i64 0] [0] [.t 77]),o 79 (.app 1 8 (.t 70) (.t 78)),oF 80 1 14,oz (.store 1 (.t 80) (.t 79))]) (.ops [oM 81 15,oF 82 0 8,oF 83 1 82,oL 84 83,oM 85 17,o 86 (.ixs 3 (.t 84) (.t 85)),oF 87 0 86,oL 88 87,o 89 (.bin .mul (.t 81) (.t 88)),oM 15 89]))))) (.ops [oA 90 59,oM 59 90])))
def oR:SC:=.ops [o 19 (.alloc [.int .i64 0,.int .i64 0,.nils]),oz (.store 3 (.t 19) (.t 95))]
def oS:SC:=.blk 5 (.feet [0,0,0,4,0,30,63,0,128,511,1023] [oL 96 18,o 97 (.load true 4 (.t 8)),oF 98 2 19,oL 99 98,oL 100 11,o 101 (.call N.ax [.t 97,.t 99,.t 100]),o 102 (.raw (.lookup 142 (.tmp 96) (.tmp 101) false)),oF 103 1 19,oL 104 103,o 105 (.bin .add (.t 102) (.t 104)),oz (.raw (.mapUpdate 142 (.tmp 96) (.tmp 101) (.tmp 105)))])
def oT:SC:=sQ [o 113 (.bin .lss (.t 112) (.t 111))] (.seq (.cond (.t 113) (.skip) (.exit 6)) (.seq (.blk 7 (sQ [oM 114 112,oM 20 114] (.ops [oF 115 2 14,oL 116 115,oM 117 20,oL 118 18,oM 119 20,o 120 (.raw (.lookup 142 (.tmp 118) (.tmp 119) false)),oX 121 116 117,oz (.store 1 (.t 121) (.t 120))]))) (.ops [oA 122 112,oM 112 122])))
def jK:SC:=sQ [o 123 (.load true 3 (.t 14)),oz (.store 3 (.t 6) (.t 123)),oK 7 0] (.ret)
def jL:SC:=sQ [oM 106 15,o 107 (.mks 1 8 [.int .i64 0] (.t 106) (.t 106)),oF 108 2 14,oz (.store 1 (.t 108) (.t 107))] (.seq (sQ [oF 109 2 14,oL 110 109,oN 111 110,oK 112 0] (.blk 6 (.loop oT))) jK)
def oU:SC:=sQ [o 91 (.raw (.makeMap 142 none)),o 18 (.alloc [.nilm]),oz (.store 1 (.t 18) (.t 91))] (.seq (sQ [o 92 (.load true 4 (.t 8)),oM 93 1,o 94 (.call N.aw [.t 92,.t 93])] (.blk 4 (.rng 124 (.t 94) [95] oR oS))) jL)
def oV:SC:=sQ [o 56 (.build [.nils,.nils,.nils] [] []),o 14 (.alloc [.nils,.nils,.nils]),oz (.store 3 (.t 14) (.t 56)),oK 15 1] (.seq (sQ [oM 57 2,oN 58 57,oK 59 0] (.blk 2 (.loop jJ))) oU)
def qD:SC:=sQ [o 22 (.load true 2 (.t 3)),oM 23 1,o 24 (.bsl 1 1 [.nils] [0] [.t 23]),o 25 (.call N.aL [.t 22,.t 24]),oM 21 25,o 26 (.ext (.t 21) 0),o 27 (.ext (.t 21) 1),o 8 (.alloc [.int .i64 0,.nils,.nils,.nils]),oz (.store 4 (.t 8) (.t 26)),oM 9 27] (.seq (sQ [oM 28 9,o 29 (.bin .neq (.t 28) (qI 0))] (.cond (.t 29) (sQ [o 30 (.build [.nils,.nils,.nils] [] []),oM 31 9,oz (.store 3 (.t 6) (.t 30)),oM 7 31] (.ret)) (.skip))) (sQ [o 11 (.alloc [.int .u64 0]),oK 10 (-1),oz (.store 1 (.t 11) (.k (.int .u64 0)))] (.seq (sQ [oM 32 2,oN 33 32,oK 34 0] (.blk 0 (.loop jI))) oV)))
def nM:SF:=⟨124,[.cell true 3 6,.tm 7],sQ [o 3 (.box (.t 0)),o 6 (.alloc [.nils,.nils,.nils]),oK 7 0] qD⟩
def uI:SC:=sQ [oM 8 0,oM 9 1,o 10 (.call N.aP [.t 8,.t 9]),oM 7 10,o 11 (.ext (.t 7) 0),o 12 (.ext (.t 7) 1),o 5 (.alloc [.int .i64 0,.int .i64 0]),oz (.store 2 (.t 5) (.t 11)),oM 6 12] (sQ [o 13 (.load true 2 (.t 5)),oz (.store 2 (.t 4) (.t 13))] (.ret))
def tX:SF:=⟨14,[.cell true 2 4],sQ [o 4 (.alloc [.int .i64 0,.int .i64 0])] uI⟩
def cx:SC:=sQ [o 6 (.mv (.k (.nils)))] (sQ [oM 28 6,oM 29 3,oM 30 5,o 31 (.slc 1 (.t 29) [] [.t 30]),o 32 (.app 1 8 (.t 28) (.t 31)),oM 33 4,o 34 (.bsl 1 1 [.int .i64 0] [0] [.t 33]),o 35 (.app 1 8 (.t 32) (.t 34)),oM 6 35] (.ops [oM 36 6,oM 37 3,oM 38 5,o 39 (.slc 1 (.t 37) [.t 38] []),o 40 (.app 1 8 (.t 36) (.t 39)),oM 3 40]))
def kW:SC:=.ops [oM 12 4,oA 13 12,oM 4 13]
def kV:SC:=.seq (sQ [oM 7 4,o 8 (.load true 3 (.t 1)),o 9 (.call N.bo [.t 8]),oN 10 9,o 11 (.bin .lss (.t 7) (.t 10))] (.cond (.t 11) (.skip) (.exit 0))) (.seq (.blk 1 (sQ [oK 5 0] (.seq (sQ [oM 14 4,oF 15 2 1,oL 16 15,oN 17 16,o 18 (.bin .lss (.t 14) (.t 17))] (.cond (.t 18) (.ops [oF 19 2 1,oL 20 19,oM 21 4,oX 22 20 21,oL 23 22,o 24 (.conv .i64 (.t 23)),oM 25 4,oA 26 25,o 27 (.bin .rem (.t 24) (.t 26)),oM 5 27]) (.skip))) cx))) kW)
def eD:SC:=sQ [oM 41 3,oM 2 41] (.ret)
def eQ:SC:=sQ [o 3 (.mv (.k (.nils)))] (.seq (sQ [oK 4 0] (.blk 0 (.loop kV))) eD)
def cV:SF:=⟨42,[.tm 2],sQ [o 1 (.box (.t 0)),o 2 (.mv (.k (.nils)))] eQ⟩
def xh:SC:=.seq (sQ [oM 5 4,oM 6 0,oN 7 6,o 8 (.bin .lss (.t 5) (.t 7))] (.cond (.t 8) (.skip) (.exit 0))) (.seq (.blk 1 (.ops [oM 11 3,oM 12 0,oM 13 4,oX 14 12 13,oL 15 14,o 16 (.bin .mul (.t 11) (.t 15)),oM 3 16])) (.ops [oM 9 4,oA 10 9,oM 4 10]))
def qM:SC:=sQ [oM 17 3,oM 2 17] (.ret)
def pZ:SF:=⟨18,[.tm 2],sQ [oK 2 0] (sQ [oK 3 1] (.seq (sQ [oK 4 0] (.blk 0 (.loop xh))) qM))⟩
def jB:SC:=.seq (.quiet [o 5 (.load true 2 (.t 2)),o 6 (.call N.br [.t 5]),oF 7 1 2,oL 8 7,oM 9 1,o 10 (.ixs 3 (.t 8) (.t 9)),oF 11 1 10,oL 12 11,o 13 (.call N.bm [.t 6,.t 12]),oM 4 13]) (.ret)
def gu:SF:=⟨14,[.tm 4],sQ [o 2 (.box (.t 0)),o 4 (.mv (.k (.nils)))] jB⟩
def rU:SC:=.ops [oM 39 10,oM 40 9,oM 41 11,oX 42 40 41,oL 43 42,o 44 (.bin .add (.t 39) (.t 43)),oM 10 44]
def rV:SC:=.ops [oM 20 11,oA 21 20,oM 11 21]
def mo:SC:=.seq (sQ [oM 17 11,oM 18 1,o 19 (.bin .lss (.t 17) (.t 18))] (.cond (.t 19) (.skip) (.exit 0))) (.seq (.blk 1 (.seq (sQ [oM 22 2,oN 23 22,o 24 (.bin .gtr (.t 23) (qI 0))] (.cond (.t 24) (.ops [oM 25 9,oM 26 11,oM 27 2,oM 28 3,oM 29 11,o 30 (.bin .add (.t 28) (.t 29)),oM 31 2,oN 32 31,o 33 (.bin .rem (.t 30) (.t 32)),oX 34 27 33,oL 35 34,o 36 (.bin .rem (.t 35) (.k (.int .u8 8))),o 37 (.conv .i64 (.t 36)),oX 38 25 26,oz (.store 1 (.t 38) (.t 37))]) (.skip))) rU)) rV)
def rW:SC:=.ops [oM 68 12,oM 69 9,oM 70 14,oX 71 69 70,oL 72 71,o 73 (.bin .sub (.t 68) (.t 72)),oM 12 73]
def rY:SC:=.ops [oM 49 14,oA 50 49,oM 14 50]
def mq:SC:=.seq (sQ [oM 46 14,oM 47 1,o 48 (.bin .lss (.t 46) (.t 47))] (.cond (.t 48) (.skip) (.exit 2))) (.seq (.blk 3 (.seq (sQ [oM 51 9,oM 52 14,oX 53 51 52,oL 54 53,o 55 (.bin .gtr (.t 54) (qI 0))] (.cond (.t 55) (sQ [oM 56 9,oM 57 14,oM 58 0,oM 59 9,oM 60 14,oX 61 59 60,oL 62 61,o 63 (.bin .mul (.t 58) (.t 62)),oM 64 10,o 65 (.bin .quo (.t 63) (.t 64)),oX 66 56 57,oz (.store 1 (.t 66) (.t 65))] (.ops [oM 67 14,oM 13 67])) (.skip))) rW)) rY)
def rZ:SC:=sQ [oM 74 9,oM 75 13,oM 76 9,oM 77 13,oX 78 76 77,oL 79 78,oM 80 12,o 81 (.bin .add (.t 79) (.t 80)),oX 82 74 75,oz (.store 1 (.t 82) (.t 81))] (sQ [oM 83 9,oM 8 83] (.ret))
def r_:SC:=sQ [oM 45 0,oM 12 45,oK 13 0] (.seq (sQ [oK 14 0] (.blk 2 (.loop mq))) rZ)
def rT:SF:=⟨84,[.tm 8],sQ [o 8 (.mv (.k (.nils)))] (sQ [oM 15 1,o 16 (.mks 1 8 [.int .i64 0] (.t 15) (.t 15)),oM 9 16] (sQ [oK 10 0] (.seq (sQ [oK 11 0] (.blk 0 (.loop mo))) r_)))⟩
def cF:SC:=sQ [o 31 (.bin .lss (.t 30) (.t 29))] (.seq (.cond (.t 31) (.skip) (.exit 0)) (.seq (.blk 1 (sQ [oX 32 28 30,oL 33 32,oM 12 33] (.seq (sQ [oM 34 12,oM 35 10,o 36 (.bin .leq (.t 34) (.t 35)),oM 37 36,og 38 37 false (.mv (.t 12)),og 39 37 false (.fad 1 (.t 3)),og 40 37 false (.load false 1 (.t 39)),og 41 37 false (.len .slice (.t 40)),og 42 37 false (.bin .geq (.t 38) (.t 41)),o 43 (.pick (.t 37) (.k (.bool true)) (.t 42))] (.cond (.t 43) (sQ [o 6 (.mv (.k (.nilp))),oK 7 2] (.ret)) (.skip))) (.ops [oM 44 12,oM 10 44])))) (.ops [oA 45 30,oM 30 45])))
def pT:SC:=.ops [oA 66 49,oM 49 66]
def dY:SC:=sQ [o 50 (.bin .lss (.t 49) (.t 48))] (.seq (.cond (.t 50) (.skip) (.exit 2)) (.seq (.blk 3 (sQ [oM 51 49,oM 13 51] (sQ [oM 52 2,oM 53 13,o 54 (.call N.bD [.t 52,.t 53]),o 55 (.not (.t 54))] (.cond (.t 55) (.feet [0,0,2,6,14,0,32,126,255,511,1023] [oL 56 9,oL 57 9,o 58 (.nilc (.t 57)),oF 59 3 58,oL 60 59,oM 61 13,o 62 (.bsl 1 1 [.int .i64 0] [0] [.t 61]),o 63 (.app 1 8 (.t 60) (.t 62)),o 64 (.nilc (.t 56)),oF 65 3 64,oz (.store 1 (.t 65) (.t 63))]) (.skip))))) pT))
def iU:SC:=sQ [oM 14 76] (.ops [oM 15 77])
def dZ:SC:=sQ [o 81 (.bin .lss (.t 80) (.t 79))] (.seq (.cond (.t 81) (.skip) (.exit 6)) (.seq (.blk 7 (sQ [oM 82 80,oX 83 78 80,oL 84 83,oM 16 82,oM 17 84] (sQ [oM 85 17,o 86 (.bin .geq (.t 85) (qI 0)),oM 87 86,og 88 87 true (.mv (.t 17)),og 89 87 true (.mv (.t 15)),og 90 87 true (.mv (.t 16)),og 91 87 true (.ixs 1 (.t 89) (.t 90)),og 92 87 true (.load false 1 (.t 91)),og 93 87 true (.bin .neq (.t 88) (.t 92)),o 94 (.pick (.t 87) (.t 93) (.k (.bool false)))] (.cond (.t 94) (sQ [oL 95 9,o 96 (.nilc (.t 95)),oF 97 4 96,oL 98 97,oM 99 14,oX 100 98 99,oz (.store 1 (.t 100) (qI 0))] (.exit 5)) (.skip))))) (.ops [oA 101 80,oM 80 101])))
def iW:SC:=.feet [0,1,3,7,0,16,48,112,0,496,1008,2047,4095,8191,16383] [oL 102 9,o 103 (.nilc (.t 102)),oF 104 5 103,oL 105 104,oL 106 9,o 107 (.nilc (.t 106)),oF 108 4 107,oL 109 108,oM 110 14,oX 111 109 110,oL 112 111,o 113 (.bin .add (.t 105) (.t 112)),o 114 (.nilc (.t 102)),oF 115 5 114,oz (.store 1 (.t 115) (.t 113))]
def iV:SC:=.blk 5 (.seq (sQ [oL 78 4,oN 79 78,oK 80 0] (.blk 6 (.loop dZ))) iW)
def iX:SC:=sQ [oL 116 9,oM 6 116,oK 7 0] (.ret)
def d6:SC:=.seq (.feet [0,0,2,7,15,31] [oL 67 9,o 68 (.load true 2 (.t 3)),o 69 (.call N.aW [.t 68]),o 70 (.nilc (.t 67)),oF 71 4 70,oz (.store 1 (.t 71) (.t 69))]) (.seq (.skip) (.seq (sQ [oF 72 1 3,oL 73 72,o 74 (.call N.aF [.t 73]),o 75 (.call N.am [.t 74])] (.blk 4 (.rng 117 (.t 75) [76,77] iU iV))) iX))
def iY:SC:=.seq (sQ [oF 46 1 3,oL 47 46,oN 48 47,oK 49 0] (.blk 2 (.loop dY))) d6
def eI:SC:=.seq (sQ [o 18 (.load true 2 (.t 3)),oL 19 4,o 20 (.call N.aM [.t 18,.t 19]),oM 8 20] (sQ [oM 21 8,o 22 (.bin .neq (.t 21) (qI 0))] (.cond (.t 22) (sQ [oM 23 8,o 6 (.mv (.k (.nilp))),oM 7 23] (.ret)) (.skip)))) (sQ [o 24 (.load true 2 (.t 3)),oM 25 2,o 26 (.build [.int .i64 0,.nils,.nils,.nils,.nils,.int .i64 0] [(0,2),(2,1)] [.t 24,.t 25]),o 27 (.box (.t 26)),o 9 (.alloc [.nilp]),oz (.store 1 (.t 9) (.t 27))] (sQ [oK 10 (-1)] (.seq (sQ [oM 28 2,oN 29 28,oK 30 0] (.blk 0 (.loop cF))) iY)))
def dz:SF:=⟨117,[.tm 6,.tm 7],sQ [o 3 (.box (.t 0)),o 4 (.box (.t 1)),o 6 (.mv (.k (.nilp))),oK 7 0] eI⟩
def gz:SC:=sQ [o 5 (.alloc [.int .i64 0,.int .i64 0]),oz (.store 2 (.t 5) (.t 21))] (.ops [oM 6 22])
def gD:SC:=.blk 1 (.feet [0,0,0,6,15,31,0,64,255,511,1023] [oL 23 4,oL 24 1,oM 25 6,o 26 (.call N.aI [.t 24,.t 25]),oX 27 23 26,oL 28 27,oF 29 1 5,oL 30 29,o 31 (.bin .add (.t 28) (.t 30)),oX 32 23 26,oz (.store 1 (.t 32) (.t 31))])
def gC:SC:=sQ [oM 9 40] (.ops [oM 10 41])
def dt:SC:=.blk 3 (.seq (.quiet [oL 42 4,oM 43 9,oX 44 42 43,oL 45 44,oL 46 8,o 47 (.bin .gtr (.t 45) (.t 46))]) (.cond (.t 47) (.feet [0,1,0,0,12,28,3,127] [oM 48 10,o 49 (.call N.aq [.t 48]),oL 50 4,oM 51 9,oX 52 50 51,oL 53 52,oz (.store 1 (.t 7) (.t 49)),oz (.store 1 (.t 8) (.t 53))]) (.skip)))
def gE:SC:=.seq (.quiet [oL 54 7,oL 55 8,oM 2 54,oM 3 55]) (.ret)
def gF:SC:=sQ [o 7 (.alloc [.nils]),o 8 (.alloc [.int .i64 0]),oz (.store 1 (.t 7) (.k (.nils))),oz (.store 1 (.t 8) (qI (-1)))] (.seq (.seq (.quiet [oL 33 1,oL 34 1,o 35 (.nilc (.t 34)),oF 36 2 35,oL 37 36,o 38 (.call N.au [.t 33,.t 37]),o 39 (.call N.am [.t 38])]) (.blk 2 (.rng 56 (.t 39) [40,41] gC dt))) gE)
def im:SC:=.seq (.feet [0,0,2,6,14,31,63,127,0,511] [oL 11 1,oL 12 1,o 13 (.nilc (.t 12)),oF 14 2 13,oL 15 14,o 16 (.call N.au [.t 11,.t 15]),o 17 (.call N.aG [.t 16]),o 18 (.mks 1 8 [.int .i64 0] (.t 17) (.t 17)),o 4 (.alloc [.nils]),oz (.store 1 (.t 4) (.t 18))]) (.seq (sQ [oL 19 1,o 20 (.call N.aJ [.t 19])] (.blk 0 (.rng 56 (.t 20) [21,22] gz gD))) gF)
def eJ:SF:=⟨56,[.tm 2,.tm 3],sQ [o 1 (.box (.t 0)),o 2 (.mv (.k (.nils))),oK 3 0] im⟩
def jQ:SC:=.seq (sQ [oM 12 6,o 13 (.bin .neq (.t 12) (qI 0))] (.cond (.t 13) (.skip) (.exit 0))) (.blk 1 (.quiet [oM 14 6,oM 15 5,oM 16 6,o 17 (.bin .rem (.t 15) (.t 16)),oM 5 14,oM 6 17]))
def px:SC:=.seq (.feet [0,0,3,0,0,24,63,127] [oM 18 0,oM 19 5,o 20 (.bin .quo (.t 18) (.t 19)),oM 21 1,oM 22 5,o 23 (.bin .quo (.t 21) (.t 22)),o 24 (.build [.int .i64 0,.int .i64 0] [(0,1),(1,1)] [.t 20,.t 23]),oz (.store 2 (.t 4) (.t 24))]) (.ret)
def qO:SC:=sQ [oM 7 0,oM 8 0,o 9 (.un .neg (.t 8)),o 10 (.mx (.t 7) (.t 9)),oM 11 1,oM 5 10,oM 6 11] (.seq (.blk 0 (.loop jQ)) px)
def nZ:SF:=⟨25,[.cell true 2 4],sQ [o 4 (.alloc [.int .i64 0,.int .i64 0])] qO⟩
def z_:SC:=.seq (sQ [oM 7 6,oM 8 1,oN 9 8,o 10 (.bin .lss (.t 7) (.t 9))] (.cond (.t 10) (.skip) (.exit 0))) (.seq (.blk 1 (.ops [oM 13 5,oM 14 0,oM 15 1,oM 16 6,oX 17 15 16,oL 18 17,oX 19 14 18,oL 20 19,o 21 (.bsl 1 1 [.int .i64 0] [0] [.t 20]),o 22 (.app 1 8 (.t 13) (.t 21)),oM 5 22])) (.ops [oM 11 6,oA 12 11,oM 6 12]))
def tw:SC:=sQ [oM 23 5,oM 4 23] (.ret)
def tY:SF:=⟨24,[.tm 4],sQ [o 4 (.mv (.k (.nils)))] (sQ [o 5 (.mv (.k (.nils)))] (.seq (sQ [oK 6 0] (.blk 0 (.loop z_))) tw))⟩
def rG:SC:=sQ [o 28 (.bin .lss (.t 27) (.t 26))] (.seq (.cond (.t 28) (.skip) (.exit 0)) (.seq (.blk 1 (sQ [oX 29 25 27,oL 30 29,oM 9 30] (sQ [o 31 (.load true 2 (.t 2)),oM 32 9,o 33 (.call N.aM [.t 31,.t 32]),oM 10 33] (sQ [oM 34 10,o 35 (.bin .neq (.t 34) (qI 0))] (.cond (.t 35) (sQ [o 36 (.build [.int .i64 0,.nils,.nils,.nils] [] []),oM 37 10,oz (.store 4 (.t 4) (.t 36)),oM 5 37] (.ret)) (.skip)))))) (.ops [oA 38 27,oM 27 38])))
def mb:SC:=.seq (sQ [oM 64 15,o 65 (.bin .geq (.t 64) (qI 0))] (.cond (.t 65) (.skip) (.exit 4))) (.seq (.blk 5 (.seq (.feet [0,1,0,7,15,0,32,0,224,480,0,2047,4095] [oF 68 3 11,oL 69 68,oM 70 12,oX 71 69 70,oL 72 71,oF 73 0 13,oL 74 73,oM 75 15,oX 76 74 75,oL 77 76,oM 78 14,oX 79 72 77,oz (.store 1 (.t 79) (.t 78))]) (.ops [oM 80 14,oF 81 1 13,oL 82 81,oM 83 15,oX 84 82 83,oL 85 84,o 86 (.bin .mul (.t 80) (.t 85)),oM 14 86]))) (.ops [oM 66 15,o 67 (.bin .sub (.t 66) (qI 1)),oM 15 67]))
def rH:SC:=.ops [oA 87 47,oM 47 87]
def mc:SC:=sQ [o 48 (.bin .lss (.t 47) (.t 46))] (.seq (.cond (.t 48) (.skip) (.exit 2)) (.seq (.blk 3 (sQ [oM 49 47,o 50 (.ixs 3 (.t 45) (.t 47)),o 51 (.load true 3 (.t 50)),o 13 (.alloc [.nils,.nils,.nils]),oM 12 49,oz (.store 3 (.t 13) (.t 51))] (.seq (.feet [0,1,0,0,8,24,56,127,255] [oF 52 3 11,oL 53 52,oM 54 12,oF 55 1 2,oL 56 55,oN 57 56,o 58 (.mks 1 8 [.int .i64 0] (.t 57) (.t 57)),oX 59 53 54,oz (.store 1 (.t 59) (.t 58))]) (sQ [oK 14 1] (sQ [oF 60 0 13,oL 61 60,oN 62 61,o 63 (.bin .sub (.t 62) (qI 1)),oM 15 63] (.blk 4 (.loop mb))))))) rH))
def rI:SC:=sQ [o 88 (.load true 4 (.t 11)),oz (.store 4 (.t 4) (.t 88)),oK 5 0] (.ret)
def rJ:SC:=.seq (.feet [0,0,0,4,12,31,0,127] [o 39 (.load true 2 (.t 2)),oM 40 6,oM 41 6,oN 42 41,o 43 (.mks 1 24 [.nils] (.t 42) (.t 42)),o 44 (.build [.int .i64 0,.nils,.nils,.nils] [(0,2),(2,1),(3,1)] [.t 39,.t 40,.t 43]),o 11 (.alloc [.int .i64 0,.nils,.nils,.nils]),oz (.store 4 (.t 11) (.t 44))]) (.seq (sQ [oM 45 6,oN 46 45,oK 47 0] (.blk 2 (.loop mc))) rI)
def tp:SC:=sQ [o 17 (.load true 2 (.t 2)),o 18 (.call N.bg [.t 17]),oM 16 18,o 19 (.ext (.t 16) 0),o 20 (.ext (.t 16) 1),oM 6 19,oM 7 20] (.seq (sQ [oM 21 7,o 22 (.bin .neq (.t 21) (qI 0))] (.cond (.t 22) (sQ [o 23 (.build [.int .i64 0,.nils,.nils,.nils] [] []),oM 24 7,oz (.store 4 (.t 4) (.t 23)),oM 5 24] (.ret)) (.skip))) (.seq (sQ [oM 25 1,oN 26 25,oK 27 0] (.blk 0 (.loop rG))) rJ))
def rF:SF:=⟨89,[.cell true 4 4,.tm 5],sQ [o 2 (.box (.t 0)),o 4 (.alloc [.int .i64 0,.nils,.nils,.nils]),oK 5 0] tp⟩
def gG:SC:=.ops [o 6 (.alloc [.int .i64 0,.int .i64 0,.nils]),oz (.store 3 (.t 6) (.t 10))]
def gH:SC:=.blk 1 (.ops [oL 11 5,oF 12 1 6,oL 13 12,o 14 (.bin .add (.t 11) (.t 13)),oz (.store 1 (.t 5) (.t 14))])
def gI:SC:=sQ [oL 15 5,oM 4 15] (.ret)
def io:SC:=sQ [o 5 (.alloc [.int .i64 0]),oz (.store 1 (.t 5) (qI 0))] (.seq (sQ [o 7 (.load true 4 (.t 2)),oM 8 1,o 9 (.call N.aw [.t 7,.t 8])] (.blk 0 (.rng 16 (.t 9) [10] gG gH))) gI)
def eK:SF:=⟨16,[.tm 4],sQ [o 2 (.box (.t 0)),oK 4 0] io⟩
def eN:SC:=sQ [o 5 (.mkf N.ae [] [.t 2,.t 3]),oM 4 5] (.ret)
def cU:SF:=⟨6,[.tm 4],sQ [o 2 (.box (.t 0)),o 3 (.box (.t 1)),o 4 (.mv (.k (.nilf)))] eN⟩
def fc:SC:=.ops [oA 33 12,oM 12 33]
def e_:SC:=sQ [o 13 (.bin .lss (.t 12) (.t 11))] (.seq (.cond (.t 13) (.skip) (.exit 0)) (.seq (.blk 1 (sQ [oM 14 12,oX 15 10 12,oL 16 15,oM 8 14,oM 9 16] (sQ [oM 17 2,oM 18 8,o 19 (.bin .shr (.t 17) (.t 18)),o 20 (.bin .and (.t 19) (.k (.int .u64 1))),o 21 (.bin .eql (.t 20) (.k (.int .u64 1)))] (.cond (.t 21) (.ops [oM 22 7,oF 23 0 3,oF 24 1 23,oL 25 24,oM 26 8,o 27 (.ixs 3 (.t 25) (.t 26)),oF 28 0 27,oL 29 28,o 30 (.bin .mul (.t 22) (.t 29)),oM 31 9,o 32 (.bin .add (.t 30) (.t 31)),oM 7 32]) (.skip))))) fc))
def fe:SC:=sQ [oM 34 7,oM 6 34] (.ret)
def ge:SC:=sQ [oK 7 0] (.seq (sQ [oM 10 1,oN 11 10,oK 12 0] (.blk 0 (.loop e_))) fe)
def dF:SF:=⟨35,[.tm 6],sQ [o 3 (.box (.t 0)),oK 6 0] ge⟩
def rK:SC:=sQ [oM 6 0,o 7 (.bin .lss (.t 6) (qI 0)),oM 8 1,o 9 (.bin .lss (.t 8) (qI 0)),o 10 (.eq true .bool (.t 7) (.t 9)),oM 11 0,o 12 (.call N.aB [.t 11]),oM 13 1,o 14 (.call N.aB [.t 13]),o 15 (.call N.aD [.t 10,.t 12,.t 14]),o 16 (.ext (.t 15) 0),o 17 (.ext (.t 15) 1),oz (.store 2 (.t 4) (.t 16)),oM 5 17] (.ret)
def pW:SF:=⟨18,[.cell true 2 4,.tm 5],sQ [o 4 (.alloc [.int .i64 0,.int .i64 0]),o 5 (.mv (.k (.bool false)))] rK⟩
def nO:SC:=sQ [o 51 (.bin .lss (.t 50) (.t 49))] (.seq (.cond (.t 51) (.skip) (.exit 0)) (.seq (.blk 1 (sQ [oM 52 50,o 53 (.ixs 3 (.t 48) (.t 50)),o 54 (.load true 3 (.t 53)),o 7 (.alloc [.int .i64 0,.nils,.nils]),oM 6 52,oz (.store 3 (.t 7) (.t 54))] (.seq (sQ [oF 55 0 7,oL 56 55,o 57 (.bin .lss (.t 56) (qI 1)),oM 58 57,og 59 58 false (.fad 0 (.t 7)),og 60 58 false (.load false 1 (.t 59)),og 61 58 false (.bin .gtr (.t 60) (qI 4)),o 62 (.pick (.t 58) (.k (.bool true)) (.t 61))] (.cond (.t 62) (sQ [o 63 (.build [.int .i64 0,.nils,.nils,.nils,.nils] [] []),oz (.store 5 (.t 2) (.t 63)),oK 3 50] (.ret)) (.skip))) (sQ [oF 64 2 4,oL 65 64,oM 66 6,oF 67 0 7,oL 68 67,oX 69 65 66,oz (.store 1 (.t 69) (.t 68))] (.ops [oM 70 5,oF 71 0 7,oL 72 71,o 73 (.bin .mul (.t 70) (.t 72)),oM 5 73]))))) (.ops [oA 74 50,oM 50 74])))
def nP:SC:=sQ [o 91 (.bin .lss (.t 90) (.t 89))] (.seq (.cond (.t 91) (.skip) (.exit 4)) (.seq (.blk 5 (sQ [oX 92 88 90,oL 93 92,oM 12 93] (.seq (sQ [oM 94 12,oM 95 10,o 96 (.bin .leq (.t 94) (.t 95)),oM 97 96,og 98 97 false (.mv (.t 12)),og 99 97 false (.fad 0 (.t 4)),og 100 97 false (.fad 1 (.t 99)),og 101 97 false (.load false 1 (.t 100)),og 102 97 false (.len .slice (.t 101)),og 103 97 false (.bin .geq (.t 98) (.t 102)),o 104 (.pick (.t 97) (.k (.bool true)) (.t 103)),oM 105 104,og 106 105 false (.mv (.t 12)),og 107 105 false (.mv (.t 8)),og 108 105 false (.bin .eql (.t 106) (.t 107)),o 109 (.pick (.t 105) (.k (.bool true)) (.t 108))] (.cond (.t 109) (sQ [o 110 (.build [.int .i64 0,.nils,.nils,.nils,.nils] [] []),oz (.store 5 (.t 2) (.t 110)),oK 3 50] (.ret)) (.skip))) (sQ [oM 111 12,oM 10 111] (.feet [0,1,0,7,15,0,32,127,255,511] [oF 112 3 4,oL 113 112,oM 114 8,oX 115 113 114,oL 116 115,oM 117 12,o 118 (.bin .shl (.k (.int .u64 1)) (.t 117)),o 119 (.bin .or (.t 116) (.t 118)),oX 120 113 114,oz (.store 1 (.t 120) (.t 119))]))))) (.ops [oA 121 90,oM 90 121])))
def nR:SC:=sQ [o 122 (.load true 5 (.t 4)),o 123 (.load true 3 (.t 9)),o 124 (.call N.aN [.t 122,.t 123]),o 125 (.not (.t 124))] (.cond (.t 125) (sQ [o 126 (.build [.int .i64 0,.nils,.nils,.nils,.nils] [] []),oz (.store 5 (.t 2) (.t 126)),oK 3 50] (.ret)) (.skip))
def tu:SC:=.ops [oA 127 82,oM 82 127]
def nQ:SC:=sQ [o 83 (.bin .lss (.t 82) (.t 81))] (.seq (.cond (.t 83) (.skip) (.exit 2)) (.seq (.blk 3 (sQ [oM 84 82,o 85 (.ixs 3 (.t 80) (.t 82)),o 86 (.load true 3 (.t 85)),o 9 (.alloc [.int .i64 0,.nils,.nils]),oM 8 84,oz (.store 3 (.t 9) (.t 86))] (sQ [oK 10 (-1)] (.seq (sQ [oF 87 1 9,oL 88 87,oN 89 88,oK 90 0] (.blk 4 (.loop nP))) nR)))) tu))
def nS:SC:=sQ [oF 129 3 4,oL 130 129,o 131 (.call N.bi [.t 130]),oM 128 131,o 132 (.ext (.t 128) 0),o 133 (.ext (.t 128) 1),oM 13 132,oM 14 133] (.seq (sQ [oM 134 14,o 135 (.not (.t 134))] (.cond (.t 135) (sQ [o 136 (.build [.int .i64 0,.nils,.nils,.nils,.nils] [] []),oz (.store 5 (.t 2) (.t 136)),oK 3 50] (.ret)) (.skip))) (sQ [oM 137 13,oF 138 4 4,oz (.store 1 (.t 138) (.t 137))] (sQ [o 139 (.load true 5 (.t 4)),oz (.store 5 (.t 2) (.t 139)),oK 3 0] (.ret))))
def tv:SC:=.seq (sQ [oM 75 5,o 76 (.bin .gtr (.t 75) (qI 1024))] (.cond (.t 76) (sQ [o 77 (.build [.int .i64 0,.nils,.nils,.nils,.nils] [] []),oz (.store 5 (.t 2) (.t 77)),oK 3 50] (.ret)) (.skip))) (.seq (sQ [oF 78 0 4,oF 79 1 78,oL 80 79,oN 81 80,oK 82 0] (.blk 2 (.loop nQ))) nS)
def uG:SC:=.seq (sQ [oF 15 0 1,oL 16 15,o 17 (.bin .lss (.t 16) (qI 1)),oM 18 17,og 19 18 false (.fad 0 (.t 1)),og 20 18 false (.load false 1 (.t 19)),og 21 18 false (.bin .gtr (.t 20) (qI 60)),o 22 (.pick (.t 18) (.k (.bool true)) (.t 21)),oM 23 22,og 24 23 false (.fad 1 (.t 1)),og 25 23 false (.load false 1 (.t 24)),og 26 23 false (.len .slice (.t 25)),og 27 23 false (.bin .lss (.t 26) (qI 1)),o 28 (.pick (.t 23) (.k (.bool true)) (.t 27)),oM 29 28,og 30 29 false (.fad 1 (.t 1)),og 31 29 false (.load false 1 (.t 30)),og 32 29 false (.len .slice (.t 31)),og 33 29 false (.bin .gtr (.t 32) (qI 8)),o 34 (.pick (.t 29) (.k (.bool true)) (.t 33))] (.cond (.t 34) (sQ [o 35 (.build [.int .i64 0,.nils,.nils,.nils,.nils] [] []),oz (.store 5 (.t 2) (.t 35)),oK 3 50] (.ret)) (.skip))) (.seq (.feet [0,0,2,6,14,0,32,96,224,511,0,2047] [o 36 (.load true 2 (.t 1)),oF 37 1 1,oL 38 37,oN 39 38,o 40 (.mks 1 8 [.int .i64 0] (.t 39) (.t 39)),oF 41 1 1,oL 42 41,oN 43 42,o 44 (.mks 1 8 [.int .u64 0] (.t 43) (.t 43)),o 45 (.build [.int .i64 0,.nils,.nils,.nils,.nils] [(0,2),(2,1),(3,1)] [.t 36,.t 40,.t 44]),o 4 (.alloc [.int .i64 0,.nils,.nils,.nils,.nils]),oz (.store 5 (.t 4) (.t 45))]) (sQ [oK 5 1] (.seq (sQ [oF 46 0 4,oF 47 1 46,oL 48 47,oN 49 48,oK 50 0] (.blk 0 (.loop nO))) tv)))
def me:SF:=⟨140,[.cell true 5 2,.tm 3],sQ [o 1 (.box (.t 0)),o 2 (.alloc [.int .i64 0,.nils,.nils,.nils,.nils]),oK 3 0] uG⟩
def pY:SC:=.seq (sQ [oM 5 4,oF 6 0 1,oL 7 6,oN 8 7,o 9 (.bin .lss (.t 5) (.t 8)),oM 10 9,og 11 10 true (.mv (.t 4)),og 12 10 true (.bin .lss (.t 11) (qI 5)),o 13 (.pick (.t 10) (.t 12) (.k (.bool false)))] (.cond (.t 13) (.skip) (.exit 0))) (.seq (.blk 1 (.ops [oM 16 3,oF 17 0 1,oL 18 17,oM 19 4,oX 20 18 19,oL 21 20,o 22 (.bin .rem (.t 21) (.k (.int .u8 4))),o 23 (.conv .i64 (.t 22)),o 24 (.bin .add (qI 1) (.t 23)),o 25 (.bsl 1 1 [.int .i64 0] [0] [.t 24]),o 26 (.app 1 8 (.t 16) (.t 25)),oM 3 26])) (.ops [oM 14 4,oA 15 14,oM 4 15]))
def jg:SC:=sQ [oM 27 3,oM 2 27] (.ret)
def jv:SC:=sQ [o 3 (.mv (.k (.nils)))] (.seq (sQ [oK 4 0] (.blk 0 (.loop pY))) jg)
def gq:SF:=⟨28,[.tm 2],sQ [o 1 (.box (.t 0)),o 2 (.mv (.k (.nils)))] jv⟩
def pi:SC:=.seq (sQ [oM 5 4,oF 6 1 1,oL 7 6,oN 8 7,o 9 (.bin .lss (.t 5) (.t 8))] (.cond (.t 9) (.skip) (.exit 0))) (.seq (.blk 1 (.ops [oM 12 3,oF 13 1 1,oL 14 13,oM 15 4,o 16 (.ixs 3 (.t 14) (.t 15)),oF 17 0 16,oL 18 17,o 19 (.bsl 1 1 [.int .i64 0] [0] [.t 18]),o 20 (.app 1 8 (.t 12) (.t 19)),oM 3 20])) (.ops [oM 10 4,oA 11 10,oM 4 11]))
def pj:SC:=sQ [oM 21 3,oM 2 21] (.ret)
def qN:SC:=sQ [o 3 (.mv (.k (.nils)))] (.seq (sQ [oK 4 0] (.blk 0 (.loop pi))) pj)
def nW:SF:=⟨22,[.tm 2],sQ [o 1 (.box (.t 0)),o 2 (.mv (.k (.nils)))] qN⟩
def iZ:SC:=sQ [o 27 (.bin .lss (.t 26) (.t 25))] (.seq (.cond (.t 27) (.skip) (.exit 0)) (.seq (.blk 1 (sQ [oM 28 26,oX 29 24 26,oL 30 29,oM 7 28,oM 8 30] (sQ [oM 31 8,o 32 (.bin .lss (.t 31) (qI (-1))),oM 33 32,og 34 33 false (.mv (.t 8)),og 35 33 false (.fad 2 (.t 5)),og 36 33 false (.load false 1 (.t 35)),og 37 33 false (.mv (.t 7)),og 38 33 false (.ixs 1 (.t 36) (.t 37)),og 39 33 false (.load false 1 (.t 38)),og 40 33 false (.bin .geq (.t 34) (.t 39)),o 41 (.pick (.t 33) (.k (.bool true)) (.t 40))] (.cond (.t 41) (sQ [oK 4 2] (.ret)) (.skip))))) (.ops [oA 42 26,oM 26 42])))
def i_:SC:=sQ [oK 4 0] (.ret)
def ju:SC:=sQ [o 10 (.load true 2 (.t 2)),o 11 (.call N.aO [.t 10]),oM 9 11,o 12 (.ext (.t 9) 0),o 13 (.ext (.t 9) 1),o 5 (.alloc [.int .i64 0,.nils,.nils,.nils,.nils]),oz (.store 5 (.t 5) (.t 12)),oM 6 13] (.seq (sQ [oM 14 6,o 15 (.bin .neq (.t 14) (qI 0))] (.cond (.t 15) (sQ [oM 16 6,oM 4 16] (.ret)) (.skip))) (.seq (sQ [oM 17 1,oN 18 17,oF 19 0 5,oF 20 1 19,oL 21 20,oN 22 21,o 23 (.bin .neq (.t 18) (.t 22))] (.cond (.t 23) (sQ [oK 4 2] (.ret)) (.skip))) (.seq (sQ [oM 24 1,oN 25 24,oK 26 0] (.blk 0 (.loop iZ))) i_)))
def gm:SF:=⟨43,[.tm 4],sQ [o 2 (.box (.t 0)),oK 4 0] ju⟩
def dQ:SF:=⟨9,[.tm 4],sQ [o 4 (.mv (.k (.bool false)))] (sQ [oM 5 0,oM 6 1,o 7 (.call N.bE [.t 5,.t 6]),o 8 (.bin .geq (.t 7) (qI 0)),oM 4 8] (.ret))⟩
def mr:SC:=.ops [oM 6 19]
def g_:SC:=sQ [o 24 (.bin .lss (.t 23) (.t 22))] (.seq (.cond (.t 24) (.skip) (.exit 2)) (.seq (.blk 3 (sQ [oM 25 23,o 26 (.ixs 3 (.t 21) (.t 23)),o 27 (.load true 3 (.t 26)),o 9 (.alloc [.int .i64 0,.nils,.nils]),oM 8 25,oz (.store 3 (.t 9) (.t 27))] (.quiet [oM 28 7,oF 29 2 9,oL 30 29,oF 31 1 1,oL 32 31,oM 33 8,oM 34 6,o 35 (.call N.bF [.t 32,.t 33,.t 34]),oX 36 30 35,oL 37 36,oM 38 6,oM 39 8,oX 40 38 39,oL 41 40,oX 42 37 41,oL 43 42,o 44 (.bin .mul (.t 28) (.t 43)),oM 7 44]))) (.ops [oA 45 23,oM 23 45])))
def my:SC:=.ops [oL 46 4,oM 47 7,o 48 (.bsl 1 1 [.int .i64 0] [0] [.t 47]),o 49 (.app 1 8 (.t 46) (.t 48)),oz (.store 1 (.t 4) (.t 49))]
def mu:SC:=.blk 1 (sQ [oK 7 1] (.seq (sQ [oF 20 1 1,oL 21 20,oN 22 21,oK 23 0] (.blk 2 (.loop g_))) my))
def mz:SC:=sQ [oL 50 4,oM 2 50] (.ret)
def nm:SC:=sQ [oF 10 1 1,oL 11 10,o 12 (.call N.aF [.t 11]),oM 3 12] (sQ [oM 13 3,o 14 (.call N.aG [.t 13]),o 15 (.mks 1 8 [.int .i64 0] (qI 0) (.t 14)),o 4 (.alloc [.nils]),oz (.store 1 (.t 4) (.t 15))] (.seq (sQ [oM 16 3,o 17 (.call N.am [.t 16])] (.blk 0 (.rng 51 (.t 17) [18,19] mr mu))) mz))
def kX:SF:=⟨51,[.tm 2],sQ [o 1 (.box (.t 0)),o 2 (.mv (.k (.nils)))] nm⟩
def jj:SC:=sQ [o 3 (.mkf N.an [] [.t 1]),oM 2 3] (.ret)
def fG:SF:=⟨4,[.tm 2],sQ [o 1 (.box (.t 0)),o 2 (.mv (.k (.nilf)))] jj⟩
def pt:SC:=sQ [o 12 (.bin .lss (.t 11) (.t 10))] (.seq (.cond (.t 12) (.skip) (.exit 0)) (.seq (.blk 1 (sQ [oM 13 11,o 14 (.ixs 3 (.t 9) (.t 11)),o 15 (.load true 3 (.t 14)),o 5 (.alloc [.int .i64 0,.nils,.nils]),oM 4 13,oz (.store 3 (.t 5) (.t 15))] (.ops [oM 16 3,oM 17 4,oF 18 0 5,oL 19 18,oX 20 16 17,oz (.store 1 (.t 20) (.t 19))]))) (.ops [oA 21 11,oM 11 21])))
def pu:SC:=sQ [oM 22 3,oM 2 22] (.ret)
def nY:SF:=⟨23,[.tm 2],sQ [o 2 (.mv (.k (.nils)))] (sQ [oM 6 0,oN 7 6,o 8 (.mks 1 8 [.int .i64 0] (.t 7) (.t 7)),oM 3 8] (.seq (sQ [oM 9 0,oN 10 9,oK 11 0] (.blk 0 (.loop pt))) pu))⟩
def qP:SC:=sQ [o 9 (.bin .lss (.t 8) (.t 7))] (.seq (.cond (.t 9) (.skip) (.exit 0)) (.seq (.blk 1 (sQ [oX 10 6 8,oL 11 10,oM 5 11] (.ops [oM 12 3,oM 13 5,o 14 (.bin .mul (.t 12) (.t 13)),oM 3 14]))) (.ops [oA 15 8,oM 8 15])))
def qQ:SC:=sQ [oM 16 3,oM 2 16] (.ret)
def p_:SF:=⟨17,[.tm 2],sQ [oK 2 0] (sQ [oK 3 1] (.seq (sQ [oM 6 0,oN 7 6,oK 8 0] (.blk 0 (.loop qP))) qQ))⟩
def fZ:SC:=sQ [o 14 (.bin .lss (.t 13) (.t 12))] (.seq (.cond (.t 14) (.skip) (.exit 0)) (.seq (.blk 1 (sQ [oM 15 13,oX 16 11 13,oL 17 16,oM 6 15,oM 7 17] (.ops [oM 18 5,oM 19 6,oM 20 0,o 21 (.nilc (.t 20)),oF 22 0 21,oF 23 1 22,oL 24 23,oM 25 7,o 26 (.ixs 3 (.t 24) (.t 25)),oF 27 0 26,oL 28 27,oX 29 18 19,oz (.store 1 (.t 29) (.t 28))]))) (.ops [oA 30 13,oM 13 30])))
def f_:SC:=sQ [oM 31 5,oM 4 31] (.ret)
def d7:SF:=⟨32,[.tm 4],sQ [o 4 (.mv (.k (.nils)))] (sQ [oM 8 1,oN 9 8,o 10 (.mks 1 8 [.int .i64 0] (.t 9) (.t 9)),oM 5 10] (.seq (sQ [oM 11 1,oN 12 11,oK 13 0] (.blk 0 (.loop fZ))) f_))⟩
def gc:SC:=sQ [o 3 (.mkf N.aa [] [.t 1]),oM 2 3] (.ret)
def dD:SF:=⟨4,[.tm 2],sQ [o 1 (.box (.t 0)),o 2 (.mv (.k (.nilf)))] gc⟩
def eX:SC:=sQ [o 11 (.bin .lss (.t 10) (.t 9))] (.seq (.cond (.t 11) (.skip) (.exit 0)) (.seq (.blk 1 (sQ [oM 12 10,oX 13 8 10,oL 14 13,oM 6 12,oM 7 14] (.quiet [oM 15 5,oM 16 0,o 17 (.nilc (.t 16)),oF 18 0 17,oF 19 1 18,oL 20 19,oM 21 0,o 22 (.nilc (.t 21)),oF 23 2 22,oL 24 23,oM 25 6,oX 26 24 25,oL 27 26,o 28 (.ixs 3 (.t 20) (.t 27)),oF 29 0 28,oL 30 29,o 31 (.bin .mul (.t 15) (.t 30)),oM 32 7,o 33 (.bin .add (.t 31) (.t 32)),oM 5 33]))) (.ops [oA 34 10,oM 10 34])))
def eZ:SC:=sQ [oM 35 5,oM 4 35] (.ret)
def dC:SF:=⟨36,[.tm 4],sQ [oK 4 0] (sQ [oK 5 0] (.seq (sQ [oM 8 1,oN 9 8,oK 10 0] (.blk 0 (.loop eX))) eZ))⟩
def ma:SF:=⟨6,[.tm 2],sQ [o 2 (.mv (.k (.bool false)))] (sQ [oM 3 0,oM 4 0,o 5 (.bin .neq (.t 3) (.t 4)),oM 2 5] (.ret))⟩
def oY:SC:=sQ [o 24 (.bin .lss (.t 23) (.t 22))] (.seq (.cond (.t 24) (.skip) (.exit 0)) (.seq (.blk 1 (sQ [oM 25 23,oM 7 25] (.ops [oM 26 6,oM 27 7,o 28 (.load true 5 (.t 4)),oM 29 7,o 30 (.call N.bh [.t 28,.t 29]),o 31 (.ixs 3 (.t 26) (.t 27)),oz (.store 3 (.t 31) (.t 30))]))) (.ops [oA 32 23,oM 23 32])))
def oZ:SC:=sQ [oM 33 6,oM 2 33,oK 3 0] (.ret)
def qE:SC:=sQ [o 9 (.load true 2 (.t 1)),o 10 (.call N.aO [.t 9]),oM 8 10,o 11 (.ext (.t 8) 0),o 12 (.ext (.t 8) 1),o 4 (.alloc [.int .i64 0,.nils,.nils,.nils,.nils]),oz (.store 5 (.t 4) (.t 11)),oM 5 12] (.seq (sQ [oM 13 5,o 14 (.bin .neq (.t 13) (qI 0))] (.cond (.t 14) (sQ [oM 15 5,o 2 (.mv (.k (.nils))),oM 3 15] (.ret)) (.skip))) (sQ [oF 16 0 4,oF 17 1 16,oL 18 17,oN 19 18,o 20 (.mks 3 72 [.nils,.nils,.nils] (.t 19) (.t 19)),oM 6 20] (.seq (sQ [oM 21 6,oN 22 21,oK 23 0] (.blk 0 (.loop oY))) oZ)))
def nN:SF:=⟨34,[.tm 2,.tm 3],sQ [o 1 (.box (.t 0)),o 2 (.mv (.k (.nils))),oK 3 0] qE⟩
def bC:SC:=.seq (.seq (.quiet [oM 31 6,o 32 (.bin .geq (.t 31) (qI 0)),oM 33 32,og 34 33 true (.mv (.t 4)),og 35 33 true (.mv (.t 6)),og 36 33 true (.ixs 1 (.t 34) (.t 35)),og 37 33 true (.load false 1 (.t 36)),og 38 33 true (.fad 0 (.t 1)),og 39 33 true (.fad 1 (.t 38)),og 40 33 true (.load false 1 (.t 39)),og 41 33 true (.mv (.t 6)),og 42 33 true (.ixs 3 (.t 40) (.t 41)),og 43 33 true (.fad 0 (.t 42)),og 44 33 true (.load false 1 (.t 43)),og 45 33 true (.bin .sub (.t 44) (qI 1)),og 46 33 true (.bin .eql (.t 37) (.t 45)),o 47 (.pick (.t 33) (.t 46) (.k (.bool false)))]) (.cond (.t 47) (.skip) (.exit 2))) (.blk 3 (sQ [oM 48 4,oM 49 6,oX 50 48 49,oz (.store 1 (.t 50) (qI 0))] (.ops [oM 51 6,o 52 (.bin .sub (.t 51) (qI 1)),oM 6 52])))
def bD:SC:=.seq (sQ [oM 53 6,o 54 (.bin .lss (.t 53) (qI 0))] (.cond (.t 54) (.ret) (.skip))) (.ops [oM 55 4,oM 56 6,oX 57 55 56,oL 58 57,oA 59 58,oX 60 55 56,oz (.store 1 (.t 60) (.t 59))])
def bT:SC:=.ops [oM 12 5,oA 13 12,oM 5 13]
def dE:SC:=.seq (.blk 1 (.seq (sQ [oM 14 4,oL 15 2,o 16 (.call N.ba [.t 14,.t 15]),oM 17 16,og 18 17 true (.mv (.t 0)),og 19 17 true (.mv (.t 5)),og 20 17 true (.load true 4 (.t 1)),og 21 17 true (.mv (.t 4)),og 22 17 true (.call N.be [.t 20,.t 21]),og 23 17 true (.mv (.t 4)),og 24 17 true (.build [.int .i64 0,.int .i64 0,.nils] [(0,1),(1,1),(2,1)] [.t 19,.t 22,.t 23]),og 25 17 true (.dyn (.t 18) [.t 24]),og 26 17 true (.not (.t 25)),o 27 (.pick (.t 17) (.t 26) (.k (.bool false)))] (.cond (.t 27) (.ret) (.skip))) (sQ [oM 28 4,oN 29 28,o 30 (.bin .sub (.t 29) (qI 1)),oM 6 30] (.seq (.blk 2 (.loop bC)) bD)))) bT
def aJ:SF:=⟨61,[],sQ [oF 7 0 1,oF 8 1 7,oL 9 8,oN 10 9,o 11 (.mks 1 8 [.int .i64 0] (.t 10) (.t 10)),oM 4 11] (sQ [oK 5 0] (.blk 0 (.loop dE)))⟩
def md:SC:=sQ [o 11 (.bin .lss (.t 10) (.t 9))] (.seq (.cond (.t 11) (.skip) (.exit 0)) (.seq (.blk 1 (sQ [oM 12 10,oX 13 8 10,oL 14 13,oM 6 12,oM 7 14] (sQ [oM 15 7] (.blk 2 (.seq (sQ [o 17 (.bin .eql (.t 15) (qI (-1))),oM 16 17] (.cond (.t 16) (.skip) (.ops [oM 18 0,oM 19 6,oX 20 18 19,oL 21 20,o 22 (.bin .eql (.t 15) (.t 21)),oM 16 22]))) (.cond (.t 16) (.skip) (sQ [o 5 (.mv (.k (.bool false)))] (.exit 0)))))))) (.ops [oA 23 10,oM 10 23])))
def gZ:SC:=sQ [oM 24 5,oM 4 24] (.ret)
def kT:SF:=⟨25,[.tm 4],sQ [o 4 (.mv (.k (.bool false)))] (sQ [o 5 (.mv (.k (.bool true)))] (.seq (.skip) (.seq (sQ [oM 8 1,oN 9 8,oK 10 0] (.blk 0 (.loop md))) gZ)))⟩
def cK:SC:=sQ [o 23 (.bin .lss (.t 22) (.t 21))] (.seq (.cond (.t 23) (.skip) (.exit 2)) (.seq (.blk 3 (sQ [oX 24 20 22,oL 25 24,oM 10 25] (.quiet [oM 26 8,oM 27 1,oM 28 10,oX 29 27 28,oL 30 29,oF 31 3 2,oL 32 31,oM 33 6,oX 34 32 33,oL 35 34,oM 36 10,oX 37 35 36,oL 38 37,o 39 (.bin .mul (.t 30) (.t 38)),o 40 (.bin .add (.t 26) (.t 39)),oM 8 40]))) (.ops [oA 41 22,oM 22 41])))
def fg:SC:=.ops [oM 42 5,oF 43 2 7,oL 44 43,oM 45 8,oX 46 44 45,oL 47 46,o 48 (.bin .mul (.t 42) (.t 47)),oM 5 48]
def fj:SC:=.ops [oA 49 14,oM 14 49]
def ff:SC:=sQ [o 15 (.bin .lss (.t 14) (.t 13))] (.seq (.cond (.t 15) (.skip) (.exit 0)) (.seq (.blk 1 (sQ [oM 16 14,o 17 (.ixs 3 (.t 12) (.t 14)),o 18 (.load true 3 (.t 17)),o 7 (.alloc [.nils,.nils,.nils]),oM 6 16,oz (.store 3 (.t 7) (.t 18))] (sQ [oK 8 0] (.seq (sQ [oF 19 0 7,oL 20 19,oN 21 20,oK 22 0] (.blk 2 (.loop cK))) fg)))) fj))
def fk:SC:=sQ [oM 50 5,oM 4 50] (.ret)
def gf:SC:=sQ [oK 5 1] (.seq (sQ [oF 11 2 2,oL 12 11,oN 13 12,oK 14 0] (.blk 0 (.loop ff))) fk)
def dG:SF:=⟨51,[.tm 4],sQ [o 2 (.box (.t 0)),oK 4 0] gf⟩
def qL:SC:=sQ [oM 48 9,oM 49 11,o 50 (.build [.int .i64 0,.int .i64 0] [(0,1),(1,1)] [.t 48,.t 49]),oz (.store 2 (.t 6) (.t 50)),o 7 (.mv (.k (.bool true)))] (.ret)
def rP:SC:=sQ [oM 13 1,oM 14 2,o 15 (.call N.bj [.t 13,.t 14]),oM 8 15] (sQ [oM 17 1,oM 18 8,o 19 (.call N.aC [.t 17,.t 18]),oM 16 19,o 20 (.ext (.t 16) 0),o 21 (.ext (.t 16) 1),oM 1 20] (sQ [oM 23 2,oM 24 8,o 25 (.call N.aC [.t 23,.t 24]),oM 22 25,o 26 (.ext (.t 22) 0),o 27 (.ext (.t 22) 1),oM 2 26] (sQ [oM 29 1,o 30 (.call N.ak [.t 29]),oM 28 30,o 31 (.ext (.t 28) 0),o 32 (.ext (.t 28) 1),oM 9 31,oM 10 32] (sQ [oM 34 2,o 35 (.call N.ak [.t 34]),oM 33 35,o 36 (.ext (.t 33) 0),o 37 (.ext (.t 33) 1),oM 11 36,oM 12 37] (.seq (sQ [oM 38 10,o 39 (.not (.t 38)),oM 40 39,og 41 40 false (.mv (.t 12)),og 42 40 false (.not (.t 41)),o 43 (.pick (.t 40) (.k (.bool true)) (.t 42))] (.cond (.t 43) (sQ [o 44 (.build [.int .i64 0,.int .i64 0] [] []),oz (.store 2 (.t 6) (.t 44)),o 7 (.mv (.k (.bool false)))] (.ret)) (.skip))) (.seq (sQ [oM 45 0] (.cond (.t 45) (.ops [oM 46 9,o 47 (.un .neg (.t 46)),oM 9 47]) (.skip))) qL))))))
def pX:SF:=⟨51,[.cell true 2 6,.tm 7],sQ [o 6 (.alloc [.int .i64 0,.int .i64 0]),o 7 (.mv (.k (.bool false)))] rP⟩
def na:SC:=.seq (sQ [oM 5 0,o 6 (.bin .neq (.t 5) (qI 0))] (.cond (.t 6) (.skip) (.exit 0))) (.blk 1 (sQ [oM 7 0,o 8 (.bin .rem (.t 7) (qI 10000)),oM 4 8] (sQ [oM 9 3,oM 10 4,oM 11 4,o 12 (.un .neg (.t 11)),o 13 (.mx (.t 10) (.t 12)),o 14 (.bsl 1 1 [.int .i64 0] [0] [.t 13]),o 15 (.app 1 8 (.t 9) (.t 14)),oM 3 15] (.ops [oM 16 0,o 17 (.bin .quo (.t 16) (qI 10000)),oM 0 17]))))
def nf:SC:=sQ [oM 18 3,oM 2 18] (.ret)
def mh:SF:=⟨19,[.tm 2],sQ [o 2 (.mv (.k (.nils)))] (sQ [o 3 (.mv (.k (.nils)))] (.seq (.blk 0 (.loop na)) nf))⟩
def iB:SC:=sQ [o 17 (.bin .lss (.t 16) (.t 15))] (.seq (.cond (.t 17) (.skip) (.exit 0)) (.seq (.blk 1 (sQ [oX 18 14 16,oL 19 18,oM 7 19] (.ops [oM 20 5,oF 21 2 2,oL 22 21,oM 23 7,oX 24 22 23,oL 25 24,o 26 (.bin .mul (.t 20) (.t 25)),oM 5 26]))) (.ops [oA 27 16,oM 16 27])))
def iA:SC:=.ops [oM 9 36]
def dM:SC:=sQ [o 43 (.bin .lss (.t 42) (.t 41))] (.seq (.cond (.t 43) (.skip) (.exit 4)) (.seq (.blk 5 (sQ [oX 44 40 42,oL 45 44,oM 12 45] (.seq (sQ [oM 46 12,o 47 (.bin .lss (.t 46) (qI 0)),oM 48 47,og 49 48 false (.mv (.t 12)),og 50 48 false (.mv (.t 10)),og 51 48 false (.bin .gtr (.t 49) (.t 50)),o 52 (.pick (.t 48) (.k (.bool true)) (.t 51))] (.cond (.t 52) (sQ [oz (.store 1 (.t 4) (.k (.bool false)))] (.ret)) (.skip))) (.ops [oM 53 10,oM 54 12,o 55 (.bin .sub (.t 53) (.t 54)),oM 10 55])))) (.ops [oA 56 42,oM 42 56])))
def cm:SC:=sQ [oM 57 9,oN 58 57,oF 59 0 3,oL 60 59,o 61 (.bin .neq (.t 58) (.t 60)),oM 62 61,og 63 62 false (.mv (.t 10)),og 64 62 false (.bin .neq (.t 63) (qI 0)),o 65 (.pick (.t 62) (.k (.bool true)) (.t 64))] (.cond (.t 65) (sQ [oz (.store 1 (.t 4) (.k (.bool false)))] (.ret)) (.skip))
def iC:SC:=.blk 3 (sQ [oF 37 0 2,oF 38 0 37,oL 39 38,oM 10 39] (.seq (sQ [oM 40 9,oN 41 40,oK 42 0] (.blk 4 (.loop dM))) cm))
def iD:SC:=sQ [oz (.store 1 (.t 4) (.k (.bool true)))] (.ret)
def iE:SC:=.seq (sQ [oF 28 2 3,oL 29 28,oN 30 29,oM 31 5,o 32 (.bin .neq (.t 30) (.t 31))] (.cond (.t 32) (sQ [oz (.store 1 (.t 4) (.k (.bool false)))] (.ret)) (.skip))) (.seq (sQ [o 33 (.load true 3 (.t 3)),o 34 (.call N.ay [.t 33])] (.blk 2 (.rng 66 (.t 34) [35,36] iA iC))) iD)
def jb:SC:=sQ [oK 5 1] (.seq (sQ [oF 13 1 3,oL 14 13,oN 15 14,oK 16 0] (.blk 0 (.loop iB))) iE)
def fy:SF:=⟨66,[.cell false 1 4],sQ [o 2 (.box (.t 0)),o 3 (.box (.t 1)),o 4 (.alloc [.bool false])] jb⟩
def qG:SC:=sQ [o 19 (.bin .lss (.t 18) (.t 17))] (.seq (.cond (.t 19) (.skip) (.exit 2)) (.seq (.blk 3 (sQ [oM 20 18,oX 21 16 18,oL 22 21,oM 6 20,oM 7 22] (sQ [oM 23 5,oM 24 6,o 25 (.bin .shr (.t 23) (.t 24)),o 26 (.bin .and (.t 25) (.k (.int .u64 1))),o 27 (.bin .eql (.t 26) (.k (.int .u64 0))),oM 28 27,og 29 28 true (.mv (.t 7)),og 30 28 true (.mv (.t 5)),og 31 28 true (.bin .andNot (.t 29) (.t 30)),og 32 28 true (.bin .eql (.t 31) (.k (.int .u64 0))),o 33 (.pick (.t 28) (.t 32) (.k (.bool false)))] (.cond (.t 33) (sQ [oM 34 4,oM 35 6,o 36 (.bsl 1 1 [.int .i64 0] [0] [.t 35]),o 37 (.app 1 8 (.t 34) (.t 36)),oM 4 37] (sQ [oM 38 5,oM 39 6,o 40 (.bin .shl (.k (.int .u64 1)) (.t 39)),o 41 (.bin .or (.t 38) (.t 40)),oM 5 41] (.exit 1))) (.skip))))) (.ops [oA 42 18,oM 18 42])))
def qJ:SC:=sQ [o 2 (.mv (.k (.nils))),o 3 (.mv (.k (.bool false)))] (.ret)
def qH:SC:=.seq (sQ [oM 11 4,oN 12 11,oM 13 0,oN 14 13,o 15 (.bin .lss (.t 12) (.t 14))] (.cond (.t 15) (.skip) (.exit 0))) (.blk 1 (.seq (sQ [oM 16 0,oN 17 16,oK 18 0] (.blk 2 (.loop qG))) qJ))
def qK:SC:=sQ [oM 43 4,oM 2 43,o 3 (.mv (.k (.bool true)))] (.ret)
def pV:SF:=⟨44,[.tm 2,.tm 3],sQ [o 2 (.mv (.k (.nils))),o 3 (.mv (.k (.bool false)))] (sQ [oM 8 0,oN 9 8,o 10 (.mks 1 8 [.int .i64 0] (qI 0) (.t 9)),oM 4 10,o 5 (.mv (.k (.int .u64 0)))] (.seq (.skip) (.seq (.blk 0 (.loop qH)) qK)))⟩
def iF:SC:=sQ [o 9 (.bin .lss (.t 8) (.t 7))] (.seq (.cond (.t 9) (.skip) (.exit 0)) (.seq (.blk 1 (sQ [oM 10 8,oM 5 10] (sQ [oM 11 1,oM 12 0,oM 13 5,oX 14 12 13,oL 15 14,o 16 (.bin .eql (.t 11) (.t 15))] (.cond (.t 16) (sQ [oM 17 5,oM 4 17] (.ret)) (.skip))))) (.ops [oA 18 8,oM 8 18])))
def iG:SC:=sQ [oK 4 (-1)] (.ret)
def fF:SF:=⟨19,[.tm 4],sQ [oK 4 0] (.seq (sQ [oM 6 0,oN 7 6,oK 8 0] (.blk 0 (.loop iF))) iG)⟩
def sg:SC:=sQ [o 17 (.bin .lss (.t 16) (.t 15))] (.seq (.cond (.t 17) (.skip) (.exit 0)) (.seq (.blk 1 (sQ [oX 18 14 16,oL 19 18,oM 9 19] (.quiet [oM 20 7,oM 21 0,oM 22 9,o 23 (.ixs 3 (.t 21) (.t 22)),oF 24 0 23,oL 25 24,o 26 (.bin .mul (.t 20) (.t 25)),oM 27 2,oM 28 9,oX 29 27 28,oL 30 29,o 31 (.bin .add (.t 26) (.t 30)),oM 7 31]))) (.ops [oA 32 16,oM 16 32])))
def si:SC:=sQ [oM 33 7,oM 6 33] (.ret)
def se:SF:=⟨34,[.tm 6],sQ [oK 6 0] (sQ [oK 7 0] (.seq (sQ [oM 10 0,oM 11 1,o 12 (.ixs 3 (.t 10) (.t 11)),oF 13 1 12,oL 14 13,oN 15 14,oK 16 0] (.blk 0 (.loop sg))) si))⟩
def bP:SC:=.seq (.seq (.quiet [oM 18 5,o 19 (.bin .geq (.t 18) (qI 0)),oM 20 19,og 21 20 true (.mv (.t 3)),og 22 20 true (.mv (.t 5)),og 23 20 true (.ixs 1 (.t 21) (.t 22)),og 24 20 true (.load false 1 (.t 23)),og 25 20 true (.load false 1 (.t 1)),og 26 20 true (.mv (.t 5)),og 27 20 true (.ixs 1 (.t 25) (.t 26)),og 28 20 true (.load false 1 (.t 27)),og 29 20 true (.bin .sub (.t 28) (qI 1)),og 30 20 true (.bin .eql (.t 24) (.t 29)),o 31 (.pick (.t 20) (.t 30) (.k (.bool false)))]) (.cond (.t 31) (.skip) (.exit 2))) (.blk 3 (sQ [oM 32 3,oM 33 5,oX 34 32 33,oz (.store 1 (.t 34) (qI 0))] (.ops [oM 35 5,o 36 (.bin .sub (.t 35) (qI 1)),oM 5 36])))
def bQ:SC:=.seq (sQ [oM 37 5,o 38 (.bin .lss (.t 37) (qI 0))] (.cond (.t 38) (.ret) (.skip))) (.ops [oM 39 3,oM 40 5,oX 41 39 40,oL 42 41,oA 43 42,oX 44 39 40,oz (.store 1 (.t 44) (.t 43))])
def cW:SC:=.ops [oM 13 4,oA 14 13,oM 4 14]
def gi:SC:=.seq (sQ [oM 9 0,oM 10 4,oM 11 3,o 12 (.dyn (.t 9) [.t 10,.t 11])] (.cond (.t 12) (.skip) (.exit 0))) (.seq (.blk 1 (sQ [oL 15 1,oN 16 15,o 17 (.bin .sub (.t 16) (qI 1)),oM 5 17] (.seq (.blk 2 (.loop bP)) bQ))) cW)
def aU:SF:=⟨45,[],sQ [oL 6 1,oN 7 6,o 8 (.mks 1 8 [.int .i64 0] (.t 7) (.t 7)),oM 3 8] (sQ [oK 4 0] (.blk 0 (.loop gi)))⟩
def eo:SC:=sQ [oM 4 24] (.ops [oM 5 25])
def ct:SC:=sQ [o 32 (.bin .lss (.t 31) (.t 30))] (.seq (.cond (.t 32) (.skip) (.exit 2)) (.seq (.blk 3 (sQ [oM 33 31,oX 34 29 31,oL 35 34,oM 6 33,oM 7 35] (.feet [0,0,0,0,12,28,63,127] [oL 36 3,oM 37 6,oM 38 5,oM 39 7,oX 40 38 39,oL 41 40,oX 42 36 37,oz (.store 1 (.t 42) (.t 41))]))) (.ops [oA 43 31,oM 31 43])))
def cw:SC:=sQ [o 50 (.bin .lss (.t 49) (.t 48))] (.seq (.cond (.t 50) (.skip) (.exit 4)) (.seq (.blk 5 (sQ [oX 51 47 49,oL 52 51,oM 10 52] (.quiet [oM 53 8,oL 54 1,o 55 (.nilc (.t 54)),oF 56 0 55,oF 57 1 56,oL 58 57,oM 59 10,o 60 (.ixs 3 (.t 58) (.t 59)),oF 61 0 60,oL 62 61,o 63 (.bin .mul (.t 53) (.t 62)),oM 64 5,oM 65 10,oX 66 64 65,oL 67 66,o 68 (.bin .add (.t 63) (.t 67)),oM 8 68]))) (.ops [oA 69 49,oM 49 69])))
def eB:SC:=.seq (.feet [0,0,0,4,12,28,0,124,252,510,0,2047,4095] [oL 70 2,oM 71 8,oL 72 1,o 73 (.nilc (.t 72)),oF 74 4 73,oL 75 74,oM 76 4,oX 77 75 76,oL 78 77,o 79 (.build [.int .i64 0,.int .i64 0] [(0,1),(1,1)] [.t 71,.t 78]),oL 80 3,o 81 (.dyn (.t 70) [.t 79,.t 80]),o 82 (.not (.t 81))]) (.cond (.t 82) (.ret) (.skip))
def eC:SC:=sQ [oK 8 0] (.seq (sQ [oL 44 1,o 45 (.nilc (.t 44)),oF 46 3 45,oL 47 46,oN 48 47,oK 49 0] (.blk 4 (.loop cw))) eB)
def eA:SC:=.blk 1 (.seq (sQ [oL 26 1,o 27 (.nilc (.t 26)),oF 28 2 27,oL 29 28,oN 30 29,oK 31 0] (.blk 2 (.loop ct))) eC)
def eM:SC:=sQ [oL 11 1,o 12 (.nilc (.t 11)),oF 13 2 12,oL 14 13,oN 15 14,o 16 (.mks 1 8 [.int .i64 0] (.t 15) (.t 15)),o 3 (.alloc [.nils]),oz (.store 1 (.t 3) (.t 16))] (sQ [oL 17 1,o 18 (.nilc (.t 17)),oF 19 0 18,oF 20 1 19,oL 21 20,o 22 (.call N.aF [.t 21]),o 23 (.call N.am [.t 22])] (.blk 0 (.rng 83 (.t 23) [24,25] eo eA)))
def aX:SF:=⟨83,[],sQ [o 2 (.box (.t 0))] eM⟩
def ip:SC:=.ops [oA 65 40,oM 40 65]
def dJ:SC:=sQ [o 41 (.bin .lss (.t 40) (.t 39))] (.seq (.cond (.t 41) (.skip) (.exit 0)) (.seq (.blk 1 (sQ [oM 42 40,oX 43 38 40,oL 44 43,oM 10 42,oM 11 44] (.seq (.feet [0,1,0,4,0,28,60,124,255,511,1023] [oF 45 1 8,oL 46 45,oF 47 2 2,oL 48 47,oM 49 11,oX 50 48 49,oL 51 50,o 52 (.bsl 1 1 [.int .i64 0] [0] [.t 51]),o 53 (.app 1 8 (.t 46) (.t 52)),oF 54 1 8,oz (.store 1 (.t 54) (.t 53))]) (sQ [oM 55 10,oM 56 6,o 57 (.bin .gtr (.t 55) (.t 56))] (.cond (.t 57) (.feet [0,0,2,0,14,30,63,127] [oL 58 9,oF 59 2 2,oL 60 59,oM 61 11,oX 62 60 61,oL 63 62,o 64 (.bin .mul (.t 58) (.t 63)),oz (.store 1 (.t 9) (.t 64))]) (.skip)))))) ip))
def dI:SC:=sQ [oM 12 76] (.ops [oM 13 77])
def dK:SC:=sQ [o 81 (.bin .lss (.t 80) (.t 79))] (.seq (.cond (.t 81) (.skip) (.exit 4)) (.seq (.blk 5 (sQ [oM 82 80,oX 83 78 80,oL 84 83,oM 14 82,oM 15 84] (.feet [0,1,0,0,12,0,32,124,0,508,0,2044,0,0,12288,32764,0,131071,262143] [oF 85 2 8,oL 86 85,oM 87 12,oL 88 9,o 89 (.bin .quo (.t 87) (.t 88)),oF 90 0 5,oL 91 90,o 92 (.bin .mul (.t 89) (.t 91)),oM 93 14,o 94 (.bin .add (.t 92) (.t 93)),oL 95 9,o 96 (.bin .mul (.t 94) (.t 95)),oM 97 12,oL 98 9,o 99 (.bin .rem (.t 97) (.t 98)),o 100 (.bin .add (.t 96) (.t 99)),oM 101 15,oX 102 86 100,oz (.store 1 (.t 102) (.t 101))]))) (.ops [oA 103 80,oM 80 103])))
def dL:SC:=.blk 3 (sQ [oM 78 13,oN 79 78,oK 80 0] (.blk 4 (.loop dK)))
def iy:SC:=sQ [o 104 (.load true 3 (.t 8)),oz (.store 3 (.t 4) (.t 104))] (.ret)
def iz:SC:=sQ [oF 66 2 5,oL 67 66,oN 68 67,oF 69 0 5,oL 70 69,o 71 (.bin .mul (.t 68) (.t 70)),o 72 (.mks 1 8 [.int .i64 0] (.t 71) (.t 71)),oF 73 2 8,oz (.store 1 (.t 73) (.t 72))] (.seq (sQ [o 74 (.load true 3 (.t 5)),o 75 (.call N.ay [.t 74])] (.blk 2 (.rng 105 (.t 75) [76,77] dI dL))) iy)
def ja:SC:=sQ [oF 16 0 2,oF 17 1 16,oL 18 17,oM 19 1,o 20 (.ixs 3 (.t 18) (.t 19)),o 21 (.load true 3 (.t 20)),o 5 (.alloc [.int .i64 0,.nils,.nils]),oz (.store 3 (.t 5) (.t 21))] (sQ [oF 23 1 5,oL 24 23,oM 25 1,o 26 (.call N.aT [.t 24,.t 25]),oM 22 26,o 27 (.ext (.t 22) 0),o 28 (.ext (.t 22) 1),oM 6 27,oM 7 28] (sQ [oF 29 1 5,oL 30 29,o 31 (.call N.aq [.t 30]),oM 32 6,oM 33 1,o 34 (.bsl 1 1 [.int .i64 0] [0] [.t 33]),o 35 (.call N.bH [.t 31,.t 32,.t 34]),o 36 (.build [.nils,.nils,.nils] [(0,1)] [.t 35]),o 8 (.alloc [.nils,.nils,.nils]),oz (.store 3 (.t 8) (.t 36))] (sQ [o 9 (.alloc [.int .i64 0]),oz (.store 1 (.t 9) (qI 1))] (.seq (sQ [oF 37 0 8,oL 38 37,oN 39 38,oK 40 0] (.blk 0 (.loop dJ))) iz))))
def fu:SF:=⟨105,[.cell true 3 4],sQ [o 2 (.box (.t 0)),o 4 (.alloc [.nils,.nils,.nils])] ja⟩
def mi:SC:=.seq (sQ [oM 7 1,oN 8 7,o 9 (.bin .gtr (.t 8) (qI 0))] (.cond (.t 9) (.skip) (.exit 0))) (.blk 1 (sQ [oM 11 0,oM 12 1,o 13 (.call N.aC [.t 11,.t 12]),oM 10 13,o 14 (.ext (.t 10) 0),o 15 (.ext (.t 10) 1),oM 5 14,oM 6 15] (sQ [oM 16 1,oM 0 16] (.ops [oM 17 6,oM 1 17]))))
def rO:SC:=sQ [oM 18 0,oM 4 18] (.ret)
def rN:SF:=⟨19,[.tm 4],sQ [o 4 (.mv (.k (.nils)))] (.seq (.blk 0 (.loop mi)) rO)⟩
def eP:SC:=sQ [oM 75 12,oM 76 6,o 77 (.bin .leq (.t 75) (.t 76))] (.cond (.t 77) (.ops [oM 78 10,o 79 (.bin .mul (.t 78) (qI 10000)),oM 80 1,oM 81 12,oX 82 80 81,oL 83 82,o 84 (.bin .add (.t 79) (.t 83)),oM 10 84]) (.skip))
def je:SC:=.ops [oM 61 12,o 62 (.bin .sub (.t 61) (qI 1)),oM 12 62]
def dh:SC:=.seq (sQ [oM 56 12,oM 57 6,o 58 (.bin .sub (.t 57) (qI 1)),o 59 (.mx (qI 0) (.t 58)),o 60 (.bin .geq (.t 56) (.t 59))] (.cond (.t 60) (.skip) (.exit 2))) (.seq (.blk 3 (sQ [oM 63 11,o 64 (.bin .mul (.t 63) (qI 10000)),oM 11 64] (.seq (sQ [oM 65 12,oM 66 8,oN 67 66,o 68 (.bin .lss (.t 65) (.t 67))] (.cond (.t 68) (.ops [oM 69 11,oM 70 8,oM 71 12,oX 72 70 71,oL 73 72,o 74 (.bin .add (.t 69) (.t 73)),oM 11 74]) (.skip))) eP))) je)
def eO:SC:=.seq (sQ [oM 92 13,oM 93 14,o 94 (.bin .lss (.t 92) (.t 93))] (.cond (.t 94) (.skip) (.exit 4))) (.blk 5 (sQ [oM 95 13,oM 96 14,o 97 (.bin .add (.t 95) (.t 96)),oA 98 97,o 99 (.bin .quo (.t 98) (qI 2)),oM 15 99] (sQ [oM 100 1,oM 101 15,o 102 (.bsl 1 1 [.int .i64 0] [0] [.t 101]),o 103 (.call N.aR [.t 100,.t 102]),oM 104 8,o 105 (.call N.aA [.t 103,.t 104]),o 106 (.bin .leq (.t 105) (qI 0))] (.cond (.t 106) (.ops [oM 107 15,oM 13 107]) (.ops [oM 108 15,o 109 (.bin .sub (.t 108) (qI 1)),oM 14 109])))))
def jf:SC:=sQ [oM 110 7,oM 111 9,oM 112 13,oX 113 110 111,oz (.store 1 (.t 113) (.t 112))] (.ops [oM 114 8,oM 115 1,oM 116 13,o 117 (.bsl 1 1 [.int .i64 0] [0] [.t 116]),o 118 (.call N.ah [.t 117]),o 119 (.call N.aR [.t 115,.t 118]),o 120 (.call N.bk [.t 114,.t 119]),oM 8 120])
def ni:SC:=.seq (.quiet [oM 85 11,oM 86 10,oA 87 86,o 88 (.bin .quo (.t 85) (.t 87)),oM 89 11,oM 90 10,o 91 (.bin .quo (.t 89) (.t 90)),oM 13 88,oM 14 91]) (.seq (.blk 4 (.loop eO)) jf)
def nj:SC:=.ops [oM 44 9,o 45 (.bin .sub (.t 44) (qI 1)),oM 9 45]
def nh:SC:=.seq (sQ [oM 42 9,o 43 (.bin .geq (.t 42) (qI 0))] (.cond (.t 43) (.skip) (.exit 0))) (.seq (.blk 1 (sQ [oM 46 0,oM 47 9,oX 48 46 47,oL 49 48,o 50 (.bsl 1 1 [.int .i64 0] [0] [.t 49]),oM 51 8,o 52 (.app 1 8 (.t 50) (.t 51)),o 53 (.call N.ah [.t 52]),oM 8 53] (sQ [oK 10 0,oK 11 0] (.seq (sQ [oM 54 6,oA 55 54,oM 12 55] (.blk 2 (.loop dh))) ni)))) nj)
def nk:SC:=sQ [oM 121 7,o 122 (.call N.ah [.t 121]),oM 123 8,oM 4 122,oM 5 123] (.ret)
def jd:SF:=⟨124,[.tm 4,.tm 5],sQ [o 4 (.mv (.k (.nils))),o 5 (.mv (.k (.nils)))] (sQ [oM 16 1,oN 17 16,o 18 (.bin .sub (.t 17) (qI 1)),oM 6 18] (.seq (sQ [oM 19 0,oN 20 19,oM 21 6,o 22 (.bin .leq (.t 20) (.t 21))] (.cond (.t 22) (sQ [o 23 (.bsl 1 0 [.int .i64 0] [] []),oM 24 0,o 25 (.app 1 8 (.t 23) (.t 24)),o 4 (.mv (.k (.nils))),oM 5 25] (.ret)) (.skip))) (sQ [oM 26 0,oN 27 26,oM 28 6,o 29 (.bin .sub (.t 27) (.t 28)),o 30 (.mks 1 8 [.int .i64 0] (.t 29) (.t 29)),oM 7 30] (sQ [o 31 (.bsl 1 0 [.int .i64 0] [] []),oM 32 0,oM 33 0,oN 34 33,oM 35 6,o 36 (.bin .sub (.t 34) (.t 35)),o 37 (.slc 1 (.t 32) [.t 36] []),o 38 (.app 1 8 (.t 31) (.t 37)),oM 8 38] (.seq (sQ [oM 39 7,oN 40 39,o 41 (.bin .sub (.t 40) (qI 1)),oM 9 41] (.blk 0 (.loop nh))) nk)))))⟩
def pf:SC:=.seq (sQ [oM 13 5,o 14 (.bin .geq (.t 13) (qI 0))] (.cond (.t 14) (.skip) (.exit 0))) (.seq (.blk 1 (.ops [oM 17 4,o 18 (.bin .mul (qI 10000) (.t 17)),oM 19 0,oM 20 5,oX 21 19 20,oL 22 21,o 23 (.bin .add (.t 18) (.t 22)),oM 4 23])) (.ops [oM 15 5,o 16 (.bin .sub (.t 15) (qI 1)),oM 5 16]))
def pg:SC:=sQ [oM 24 4,oM 2 24,o 3 (.mv (.k (.bool true)))] (.ret)
def nV:SF:=⟨25,[.tm 2,.tm 3],sQ [oK 2 0,o 3 (.mv (.k (.bool false)))] (.seq (sQ [oM 6 0,o 7 (.call N.aB [.k (.int .i64 4611686018427387903)]),o 8 (.call N.aA [.t 6,.t 7]),o 9 (.bin .gtr (.t 8) (qI 0))] (.cond (.t 9) (sQ [oK 2 0,o 3 (.mv (.k (.bool false)))] (.ret)) (.skip))) (sQ [oK 4 0] (.seq (sQ [oM 10 0,oN 11 10,o 12 (.bin .sub (.t 11) (qI 1)),oM 5 12] (.blk 0 (.loop pf))) pg)))⟩
def uH:SC:=sQ [o 3 (.mkf N.af [] [.t 1]),oM 2 3] (.ret)
def tW:SF:=⟨4,[.tm 2],sQ [o 1 (.box (.t 0)),o 2 (.mv (.k (.nilf)))] uH⟩
def dO:SC:=.seq (sQ [oM 13 7,oM 14 8,o 15 (.bin .lss (.t 13) (.t 14))] (.cond (.t 15) (.skip) (.exit 0))) (.blk 1 (sQ [oM 16 7,oM 17 8,o 18 (.bin .add (.t 16) (.t 17)),o 19 (.conv .u64 (.t 18)),o 20 (.bin .shr (.t 19) (.k (.int .u64 1))),o 21 (.conv .i64 (.t 20)),oM 9 21] (sQ [oM 22 0,oM 23 9,oX 24 22 23,oL 25 24,oM 26 1,o 27 (.call N.aX [.t 25,.t 26])] (.cond (.t 27) (.ops [oM 28 9,oA 29 28,oM 7 29]) (.ops [oM 30 9,oM 8 30])))))
def dP:SC:=sQ [oM 31 7,oM 32 7,oM 33 6,o 34 (.bin .lss (.t 32) (.t 33)),oM 35 34,og 36 35 true (.mv (.t 0)),og 37 35 true (.mv (.t 7)),og 38 35 true (.ixs 1 (.t 36) (.t 37)),og 39 35 true (.load false 1 (.t 38)),og 40 35 true (.mv (.t 1)),og 41 35 true (.bin .eql (.t 39) (.t 40)),og 42 35 true (.mv (.t 41)),og 43 42 false (.mv (.t 0)),og 44 42 false (.mv (.t 7)),og 45 42 false (.ixs 1 (.t 43) (.t 44)),og 46 42 false (.load false 1 (.t 45)),og 47 42 false (.call N.aU [.t 46]),og 48 42 false (.mv (.t 47)),og 49 48 true (.mv (.t 1)),og 50 48 true (.call N.aU [.t 49]),og 51 42 false (.pick (.t 48) (.t 50) (.k (.bool false))),og 52 35 true (.pick (.t 42) (.k (.bool true)) (.t 51)),o 53 (.pick (.t 35) (.t 52) (.k (.bool false))),oM 4 31,oM 5 53] (.ret)
def cG:SF:=⟨54,[.tm 4,.tm 5],sQ [oK 4 0,o 5 (.mv (.k (.bool false)))] (sQ [oM 10 0,oN 11 10,oM 6 11] (sQ [oM 12 6,oK 7 0,oM 8 12] (.seq (.blk 0 (.loop dO)) dP)))⟩
def rM:SC:=.seq (sQ [oM 3 0,oN 4 3,o 5 (.bin .gtr (.t 4) (qI 0)),oM 6 5,og 7 6 true (.mv (.t 0)),og 8 6 true (.mv (.t 0)),og 9 6 true (.len .slice (.t 8)),og 10 6 true (.bin .sub (.t 9) (qI 1)),og 11 6 true (.ixs 1 (.t 7) (.t 10)),og 12 6 true (.load false 1 (.t 11)),og 13 6 true (.bin .eql (.t 12) (qI 0)),o 14 (.pick (.t 6) (.t 13) (.k (.bool false)))] (.cond (.t 14) (.skip) (.exit 0))) (.blk 1 (.ops [oM 15 0,oM 16 0,oN 17 16,o 18 (.bin .sub (.t 17) (qI 1)),o 19 (.slc 1 (.t 15) [] [.t 18]),oM 0 19]))
def jc:SC:=sQ [oM 20 0,oM 2 20] (.ret)
def rL:SF:=⟨21,[.tm 2],sQ [o 2 (.mv (.k (.nils)))] (.seq (.blk 0 (.loop rM)) jc)⟩
def mf:SC:=.seq (sQ [oM 19 5,o 20 (.bin .geq (.t 19) (qI 0))] (.cond (.t 20) (.skip) (.exit 0))) (.seq (.blk 1 (.seq (.quiet [oM 23 0,oM 24 5,oX 25 23 24,oL 26 25,oM 27 1,oM 28 5,oX 29 27 28,oL 30 29,o 31 (.bin .neq (.t 26) (.t 30))]) (.cond (.t 31) (.seq (.seq (.quiet [oM 32 0,oM 33 5,oX 34 32 33,oL 35 34,oM 36 1,oM 37 5,oX 38 36 37,oL 39 38,o 40 (.bin .lss (.t 35) (.t 39))]) (.cond (.t 40) (sQ [oK 4 (-1)] (.ret)) (.skip))) (sQ [oK 4 1] (.ret))) (.skip)))) (.ops [oM 21 5,o 22 (.bin .sub (.t 21) (qI 1)),oM 5 22]))
def mg:SC:=sQ [oK 4 0] (.ret)
def kU:SF:=⟨41,[.tm 4],sQ [oK 4 0] (.seq (sQ [oM 6 0,oN 7 6,oM 8 1,oN 9 8,o 10 (.bin .neq (.t 7) (.t 9))] (.cond (.t 10) (.seq (sQ [oM 11 0,oN 12 11,oM 13 1,oN 14 13,o 15 (.bin .lss (.t 12) (.t 14))] (.cond (.t 15) (sQ [oK 4 (-1)] (.ret)) (.skip))) (sQ [oK 4 1] (.ret))) (.skip))) (.seq (sQ [oM 16 0,oN 17 16,o 18 (.bin .sub (.t 17) (qI 1)),oM 5 18] (.blk 0 (.loop mf))) mg))⟩
def jN:SC:=sQ [oM 54 5,oM 55 6,oM 56 8,o 57 (.bin .add (.t 55) (.t 56)),oM 58 7,o 59 (.bin .rem (.t 58) (qI 10000)),oX 60 54 57,oz (.store 1 (.t 60) (.t 59))] (.ops [oM 61 7,o 62 (.bin .quo (.t 61) (qI 10000)),oM 7 62])
def jO:SC:=.ops [oM 29 8,oA 30 29,oM 8 30]
def dN:SC:=.seq (sQ [oM 21 8,oM 22 1,oN 23 22,o 24 (.bin .lss (.t 21) (.t 23)),oM 25 24,og 26 25 false (.mv (.t 7)),og 27 25 false (.bin .gtr (.t 26) (qI 0)),o 28 (.pick (.t 25) (.k (.bool true)) (.t 27))] (.cond (.t 28) (.skip) (.exit 2))) (.seq (.blk 3 (sQ [oM 31 7,oM 32 5,oM 33 6,oM 34 8,o 35 (.bin .add (.t 33) (.t 34)),oX 36 32 35,oL 37 36,o 38 (.bin .add (.t 31) (.t 37)),oM 7 38] (.seq (sQ [oM 39 8,oM 40 1,oN 41 40,o 42 (.bin .lss (.t 39) (.t 41))] (.cond (.t 42) (.quiet [oM 43 7,oM 44 0,oM 45 6,oX 46 44 45,oL 47 46,oM 48 1,oM 49 8,oX 50 48 49,oL 51 50,o 52 (.bin .mul (.t 47) (.t 51)),o 53 (.bin .add (.t 43) (.t 52)),oM 7 53]) (.skip))) jN))) jO)
def wh:SC:=.ops [oM 19 6,oA 20 19,oM 6 20]
def o_:SC:=.seq (sQ [oM 15 6,oM 16 0,oN 17 16,o 18 (.bin .lss (.t 15) (.t 17))] (.cond (.t 18) (.skip) (.exit 0))) (.seq (.blk 1 (sQ [oK 7 0] (sQ [oK 8 0] (.blk 2 (.loop dN))))) wh)
def pd:SC:=sQ [oM 63 5,o 64 (.call N.ah [.t 63]),oM 4 64] (.ret)
def nU:SF:=⟨65,[.tm 4],sQ [o 4 (.mv (.k (.nils)))] (sQ [oM 9 0,oN 10 9,oM 11 1,oN 12 11,o 13 (.bin .add (.t 10) (.t 12)),o 14 (.mks 1 8 [.int .i64 0] (.t 13) (.t 13)),oM 5 14] (.seq (sQ [oK 6 0] (.blk 0 (.loop o_))) pd))⟩
def jM:SC:=.ops [oM 35 5,oM 36 8,o 37 (.bsl 1 1 [.int .i64 0] [0] [.t 36]),o 38 (.app 1 8 (.t 35) (.t 37)),oM 5 38]
def fV:SC:=sQ [oK 6 0] (.seq (sQ [oM 31 8,o 32 (.bin .lss (.t 31) (qI 0))] (.cond (.t 32) (sQ [oM 33 8,o 34 (.bin .add (.t 33) (qI 10000)),oM 8 34] (.ops [oK 6 1])) (.skip))) jM)
def wg:SC:=.ops [oM 13 7,oA 14 13,oM 7 14]
def o4:SC:=.seq (sQ [oM 9 7,oM 10 0,oN 11 10,o 12 (.bin .lss (.t 9) (.t 11))] (.cond (.t 12) (.skip) (.exit 0))) (.seq (.blk 1 (sQ [oM 15 0,oM 16 7,oX 17 15 16,oL 18 17,oM 19 6,o 20 (.bin .sub (.t 18) (.t 19)),oM 8 20] (.seq (sQ [oM 21 7,oM 22 1,oN 23 22,o 24 (.bin .lss (.t 21) (.t 23))] (.cond (.t 24) (.ops [oM 25 8,oM 26 1,oM 27 7,oX 28 26 27,oL 29 28,o 30 (.bin .sub (.t 25) (.t 29)),oM 8 30]) (.skip))) fV))) wg)
def o9:SC:=sQ [oM 39 5,o 40 (.call N.ah [.t 39]),oM 4 40] (.ret)
def nT:SF:=⟨41,[.tm 4],sQ [o 4 (.mv (.k (.nils)))] (sQ [o 5 (.mv (.k (.nils)))] (sQ [oK 6 0] (.seq (sQ [oK 7 0] (.blk 0 (.loop o4))) o9)))⟩
def qF:SC:=sQ [o 9 (.bin .lss (.t 8) (.t 7))] (.seq (.cond (.t 9) (.skip) (.exit 0)) (.seq (.blk 1 (sQ [oM 10 8,oX 11 6 8,oL 12 11,oM 3 10,oM 4 12] (sQ [oM 13 0,oM 14 3,oM 15 4,o 16 (.dyn (.t 13) [.t 14,.t 15]),o 17 (.not (.t 16))] (.cond (.t 17) (.ret) (.skip))))) (.ops [oA 18 8,oM 8 18])))
def fU:SF:=⟨19,[],sQ [oF 5 2 1,oL 6 5,oN 7 6,oK 8 0] (.blk 0 (.loop qF))⟩
def nK:SF:=⟨17,[.tm 4],sQ [o 4 (.mv (.k (.bool false)))] (sQ [oM 5 0,o 6 (.call N.aH [.t 5]),oM 7 6,og 8 7 true (.mv (.t 1)),og 9 7 true (.call N.aH [.t 8]),og 10 7 true (.not (.t 9)),o 11 (.pick (.t 7) (.t 10) (.k (.bool false))),oM 12 11,og 13 12 false (.mv (.t 0)),og 14 12 false (.mv (.t 1)),og 15 12 false (.bin .lss (.t 13) (.t 14)),o 16 (.pick (.t 12) (.k (.bool true)) (.t 15)),oM 4 16] (.ret))⟩
def ji:SF:=⟨6,[.tm 2],sQ [o 2 (.mv (.k (.bool false)))] (sQ [oM 3 0,oM 4 0,o 5 (.bin .neq (.t 3) (.t 4)),oM 2 5] (.ret))⟩
theorem nI:nFn C0 N.bG=some dH:=by kernel_rfl
theorem tU:nFn C0 N.bu=some jh:=by kernel_rfl
theorem rm (d:Nat)(xs:List AV)(g:G):ap C0 d N.bu xs g=am (I C0) d g N.bu xs:=by kernel_rfl
theorem yw:nFn C0 N.aY=some nL:=by kernel_rfl
theorem vH (d:Nat)(xs:List AV)(g:G):ap C0 d N.aY xs g=am (I C0) d g N.aY xs:=by kernel_rfl
theorem uF:nFn C0 N.bz=some jP:=by kernel_rfl
theorem s_ (d:Nat)(xs:List AV)(g:G):ap C0 d N.bz xs g=am (I C0) d g N.bz xs:=by kernel_rfl
theorem yD:nFn C0 N.bC=some nX:=by kernel_rfl
theorem vO (d:Nat)(xs:List AV)(g:G):ap C0 d N.bC xs g=am (I C0) d g N.bC xs:=by kernel_rfl
theorem jt:nFn C0 N.aq=some bu:=by kernel_rfl
theorem py (t:T)(g:G)(xs:List Od):SO.foot C0 t g (.call N.aq xs)=ck:=by kernel_rfl
theorem ii (d:Nat)(xs:List AV)(g:G):ap C0 d N.aq xs g=orF ((I C0).call d N.aq xs g):=by kernel_rfl
theorem zT:nFn C0 N.aK=some pU:=by kernel_rfl
theorem wW (d:Nat)(xs:List AV)(g:G):ap C0 d N.aK xs g=am (I C0) d g N.aK xs:=by kernel_rfl
theorem yx:nFn C0 N.a_=some nM:=by kernel_rfl
theorem vI (d:Nat)(xs:List AV)(g:G):ap C0 d N.a_ xs g=am (I C0) d g N.a_ xs:=by kernel_rfl
theorem CU:nFn C0 N.aQ=some tX:=by kernel_rfl
theorem zP (d:Nat)(xs:List AV)(g:G):ap C0 d N.aQ xs g=am (I C0) d g N.aQ xs:=by kernel_rfl
theorem l_:nFn C0 N.aE=some cV:=by kernel_rfl
theorem kY (t:T)(g:G)(xs:List Od):SO.foot C0 t g (.call N.aE xs)=an ((iL t xs).flatMap (aG g.h aI)):=by kernel_rfl
theorem kJ (d:Nat)(xs:List AV)(g:G):ap C0 d N.aE xs g=am (I C0) d g N.aE xs:=by kernel_rfl
theorem zY:nFn C0 N.aS=some pZ:=by kernel_rfl
theorem w_ (d:Nat)(xs:List AV)(g:G):ap C0 d N.aS xs g=am (I C0) d g N.aS xs:=by kernel_rfl
theorem rD:nFn C0 N.bB=some gu:=by kernel_rfl
theorem pN (d:Nat)(xs:List AV)(g:G):ap C0 d N.bB xs g=am (I C0) d g N.bB xs:=by kernel_rfl
theorem BE:nFn C0 N.ap=some rT:=by kernel_rfl
theorem yK (t:T)(g:G)(xs:List Od):SO.foot C0 t g (.call N.ap xs)=an ((iL t xs).flatMap (aG g.h aI)):=by kernel_rfl
theorem xZ (d:Nat)(xs:List AV)(g:G):ap C0 d N.ap xs g=am (I C0) d g N.ap xs:=by kernel_rfl
theorem rA:nFn C0 N.aZ=some dz:=by kernel_rfl
theorem pK (d:Nat)(xs:List AV)(g:G):ap C0 d N.aZ xs g=am (I C0) d g N.aZ xs:=by kernel_rfl
theorem pR:nFn C0 N.a9=some eJ:=by kernel_rfl
theorem nA (d:Nat)(xs:List AV)(g:G):ap C0 d N.a9 xs g=am (I C0) d g N.a9 xs:=by kernel_rfl
theorem yF:nFn C0 N.aV=some nZ:=by kernel_rfl
theorem vQ (d:Nat)(xs:List AV)(g:G):ap C0 d N.aV xs g=am (I C0) d g N.aV xs:=by kernel_rfl
theorem CV:nFn C0 N.bm=some tY:=by kernel_rfl
theorem zQ (d:Nat)(xs:List AV)(g:G):ap C0 d N.bm xs g=am (I C0) d g N.bm xs:=by kernel_rfl
theorem BA:nFn C0 N.aL=some rF:=by kernel_rfl
theorem xW (d:Nat)(xs:List AV)(g:G):ap C0 d N.aL xs g=am (I C0) d g N.aL xs:=by kernel_rfl
theorem pS:nFn C0 N.bc=some eK:=by kernel_rfl
theorem nB (d:Nat)(xs:List AV)(g:G):ap C0 d N.bc xs g=am (I C0) d g N.bc xs:=by kernel_rfl
theorem l9:nFn C0 N.aw=some cU:=by kernel_rfl
theorem kI (d:Nat)(xs:List AV)(g:G):ap C0 d N.aw xs g=am (I C0) d g N.aw xs:=by kernel_rfl
theorem nG:nFn C0 N.ax=some dF:=by kernel_rfl
theorem mD (t:T)(g:G)(xs:List Od):SO.foot C0 t g (.call N.ax xs)=an ((iL t xs).flatMap (aG g.h aI)):=by kernel_rfl
theorem lU (d:Nat)(xs:List AV)(g:G):ap C0 d N.ax xs g=am (I C0) d g N.ax xs:=by kernel_rfl
theorem zW:nFn C0 N.aP=some pW:=by kernel_rfl
theorem wY (d:Nat)(xs:List AV)(g:G):ap C0 d N.aP xs g=am (I C0) d g N.aP xs:=by kernel_rfl
theorem CS:nFn C0 N.aO=some me:=by kernel_rfl
theorem zN (d:Nat)(xs:List AV)(g:G):ap C0 d N.aO xs g=am (I C0) d g N.aO xs:=by kernel_rfl
theorem rC:nFn C0 N.bo=some gq:=by kernel_rfl
theorem pM (d:Nat)(xs:List AV)(g:G):ap C0 d N.bo xs g=am (I C0) d g N.bo xs:=by kernel_rfl
theorem yC:nFn C0 N.br=some nW:=by kernel_rfl
theorem vN (d:Nat)(xs:List AV)(g:G):ap C0 d N.br xs g=am (I C0) d g N.br xs:=by kernel_rfl
theorem rB:nFn C0 N.aM=some gm:=by kernel_rfl
theorem pL (d:Nat)(xs:List AV)(g:G):ap C0 d N.aM xs g=am (I C0) d g N.aM xs:=by kernel_rfl
theorem nJ:nFn C0 N.bD=some dQ:=by kernel_rfl
theorem lX (d:Nat)(xs:List AV)(g:G):ap C0 d N.bD xs g=am (I C0) d g N.bD xs:=by kernel_rfl
theorem we:nFn C0 N.aW=some kX:=by kernel_rfl
theorem t8 (t:T)(g:G)(xs:List Od):SO.foot C0 t g (.call N.aW xs)=ck:=by kernel_rfl
theorem tM (d:Nat)(xs:List AV)(g:G):ap C0 d N.aW xs g=orF ((I C0).call d N.aW xs g):=by kernel_rfl
theorem qY:nFn C0 N.am=some fG:=by kernel_rfl
theorem oH (d:Nat)(xs:List AV)(g:G):ap C0 d N.am xs g=am (I C0) d g N.am xs:=by kernel_rfl
theorem yE:nFn C0 N.aF=some nY:=by kernel_rfl
theorem vP (d:Nat)(xs:List AV)(g:G):ap C0 d N.aF xs g=am (I C0) d g N.aF xs:=by kernel_rfl
theorem zZ:nFn C0 N.aG=some p_:=by kernel_rfl
theorem qR (t:T)(g:G)(xs:List Od):SO.foot C0 t g (.call N.aG xs)=an ((iL t xs).flatMap (aG g.h aI)):=by kernel_rfl
theorem xa (d:Nat)(xs:List AV)(g:G):ap C0 d N.aG xs g=am (I C0) d g N.aG xs:=by kernel_rfl
theorem oP:nFn C0 N.au=some d7:=by kernel_rfl
theorem gk (t:T)(g:G)(xs:List Od):SO.foot C0 t g (.call N.au xs)=an ((iL t xs).flatMap (aG g.h aI)):=by kernel_rfl
theorem m6 (d:Nat)(xs:List AV)(g:G):ap C0 d N.au xs g=am (I C0) d g N.au xs:=by kernel_rfl
theorem nF:nFn C0 N.aJ=some dD:=by kernel_rfl
theorem lT (d:Nat)(xs:List AV)(g:G):ap C0 d N.aJ xs g=am (I C0) d g N.aJ xs:=by kernel_rfl
theorem nE:nFn C0 N.aI=some dC:=by kernel_rfl
theorem mC (t:T)(g:G)(xs:List Od):SO.foot C0 t g (.call N.aI xs)=an ((iL t xs).flatMap (aG g.h aI)):=by kernel_rfl
theorem lS (d:Nat)(xs:List AV)(g:G):ap C0 d N.aI xs g=am (I C0) d g N.aI xs:=by kernel_rfl
theorem xe:nFn C0 N.aH=some ma:=by kernel_rfl
theorem uz (d:Nat)(xs:List AV)(g:G):ap C0 d N.aH xs g=am (I C0) d g N.aH xs:=by kernel_rfl
theorem yy:nFn C0 N.bg=some nN:=by kernel_rfl
theorem vJ (d:Nat)(xs:List AV)(g:G):ap C0 d N.bg xs g=am (I C0) d g N.bg xs:=by kernel_rfl
theorem kN:nFn C0 N.ae=some aJ:=by kernel_rfl
theorem v_:nFn C0 N.ba=some kT:=by kernel_rfl
theorem tK (d:Nat)(xs:List AV)(g:G):ap C0 d N.ba xs g=am (I C0) d g N.ba xs:=by kernel_rfl
theorem nH:nFn C0 N.be=some dG:=by kernel_rfl
theorem lV (d:Nat)(xs:List AV)(g:G):ap C0 d N.be xs g=am (I C0) d g N.be xs:=by kernel_rfl
theorem zX:nFn C0 N.aD=some pX:=by kernel_rfl
theorem wZ (d:Nat)(xs:List AV)(g:G):ap C0 d N.aD xs g=am (I C0) d g N.aD xs:=by kernel_rfl
theorem xf:nFn C0 N.aB=some mh:=by kernel_rfl
theorem uA (d:Nat)(xs:List AV)(g:G):ap C0 d N.aB xs g=am (I C0) d g N.aB xs:=by kernel_rfl
theorem qW:nFn C0 N.aN=some fy:=by kernel_rfl
theorem oE (d:Nat)(xs:List AV)(g:G):ap C0 d N.aN xs g=am (I C0) d g N.aN xs:=by kernel_rfl
theorem zV:nFn C0 N.bi=some pV:=by kernel_rfl
theorem wX (d:Nat)(xs:List AV)(g:G):ap C0 d N.bi xs g=am (I C0) d g N.bi xs:=by kernel_rfl
theorem qX:nFn C0 N.bE=some fF:=by kernel_rfl
theorem oG (d:Nat)(xs:List AV)(g:G):ap C0 d N.bE xs g=am (I C0) d g N.bE xs:=by kernel_rfl
theorem BF:nFn C0 N.bF=some se:=by kernel_rfl
theorem x9 (d:Nat)(xs:List AV)(g:G):ap C0 d N.bF xs g=am (I C0) d g N.bF xs:=by kernel_rfl
theorem oQ:nFn C0 N.an=some aU:=by kernel_rfl
theorem l8:nFn C0 N.aa=some aX:=by kernel_rfl
theorem qV:nFn C0 N.bh=some fu:=by kernel_rfl
theorem oD (d:Nat)(xs:List AV)(g:G):ap C0 d N.bh xs g=am (I C0) d g N.bh xs:=by kernel_rfl
theorem BC:nFn C0 N.bj=some rN:=by kernel_rfl
theorem xY (d:Nat)(xs:List AV)(g:G):ap C0 d N.bj xs g=am (I C0) d g N.bj xs:=by kernel_rfl
theorem xg:nFn C0 N.aC=some jd:=by kernel_rfl
theorem uB (d:Nat)(xs:List AV)(g:G):ap C0 d N.aC xs g=am (I C0) d g N.aC xs:=by kernel_rfl
theorem yB:nFn C0 N.ak=some nV:=by kernel_rfl
theorem vM (d:Nat)(xs:List AV)(g:G):ap C0 d N.ak xs g=am (I C0) d g N.ak xs:=by kernel_rfl
theorem CT:nFn C0 N.ay=some tW:=by kernel_rfl
theorem zO (d:Nat)(xs:List AV)(g:G):ap C0 d N.ay xs g=am (I C0) d g N.ay xs:=by kernel_rfl
theorem kP:nFn C0 N.aT=some cG:=by kernel_rfl
theorem jH (d:Nat)(xs:List AV)(g:G):ap C0 d N.aT xs g=am (I C0) d g N.aT xs:=by kernel_rfl
theorem BB:nFn C0 N.ah=some rL:=by kernel_rfl
theorem xX (d:Nat)(xs:List AV)(g:G):ap C0 d N.ah xs g=orF ((I C0).call d N.ah xs g):=by kernel_rfl
theorem wc:nFn C0 N.aA=some kU:=by kernel_rfl
theorem tL (d:Nat)(xs:List AV)(g:G):ap C0 d N.aA xs g=am (I C0) d g N.aA xs:=by kernel_rfl
theorem yA:nFn C0 N.aR=some nU:=by kernel_rfl
theorem vL (d:Nat)(xs:List AV)(g:G):ap C0 d N.aR xs g=am (I C0) d g N.aR xs:=by kernel_rfl
theorem yz:nFn C0 N.bk=some nT:=by kernel_rfl
theorem vK (d:Nat)(xs:List AV)(g:G):ap C0 d N.bk xs g=am (I C0) d g N.bk xs:=by kernel_rfl
theorem zU:nFn C0 N.af=some fU:=by kernel_rfl
theorem yv:nFn C0 N.aX=some nK:=by kernel_rfl
theorem vG (d:Nat)(xs:List AV)(g:G):ap C0 d N.aX xs g=am (I C0) d g N.aX xs:=by kernel_rfl
theorem tV:nFn C0 N.aU=some ji:=by kernel_rfl
theorem rn (d:Nat)(xs:List AV)(g:G):ap C0 d N.aU xs g=am (I C0) d g N.aU xs:=by kernel_rfl
theorem qB {α:Type}{f:Nat->α->Nat->α->Bool}{i:Nat}{x:α}:∀{l:List α} {j:Nat},(∀b y,l[b]?=some y->f i x (j+b) y=true)->fR f i x j l=true
 | [],_,_=>rfl
 | y::r,j,h=>by simp only[fR,Bool.and_eq_true];refine ⟨by simpa using h 0 y rfl,qB λb z hb=>?_⟩;have:=h (b+1) z (by simpa using hb);rwa [show j+(b+1)=j+1+b by omega] at this
theorem q_ {α:Type}{f:Nat->α->Nat->α->Bool}:∀{l:List α} {i:Nat},(∀a b x y,a<b->l[a]?=some x->l[b]?=some y->f (i+a) x (i+b) y=true)->j8 f i l=true
 | [],_,_=>rfl
 | x::r,i,h=>by
  simp only[j8,Bool.and_eq_true];refine ⟨qB λb y hb=>?_,q_ λa b x' y hab ha hb=>?_⟩
  ·have:=h 0 (b+1) x y (by omega) rfl (by simpa using hb);rwa [Nat.add_zero,show i+(b+1)=i+1+b by omega] at this
  ·have:=h (a+1) (b+1) x' y (by omega) (by simpa using ha) (by simpa using hb);rwa [show i+(a+1)=i+1+a by omega,show i+(b+1)=i+1+b by omega] at this
theorem wT {pm:List Nat}:∀{l:List Foot} {i:Nat},(∀f∈l,f.lk.sr=[])->kG pm i l=true
 | [],_,_=>rfl
 | x::r,i,h=>by simp only[kG,h x (by simp)];exact wT λf hf=>h f (by simp[hf])
def Fb (pm:List Nat)(ws:List Bool)(L:List (Nat×Nat))(i j:Nat):Bool:=(pm.getD j 0).testBit i || (!(ws.getD i false)&&!(ws.getD j false)) || L.contains (i,j)
def GN (pm:List Nat)(ws:List Bool)(L:List (Nat×Nat)):Bool:=(List.range ws.length).all λj=>(List.range j).all λi=>Fb pm ws L i j
theorem aV {pm:List Nat}{fs:List Foot}(ws:List Bool)(L:List (Nat×Nat))(hw:All2 (λ(f:Foot) (w:Bool)=>f.lk.sr=[]/\(w=false->f.wr=[])) fs ws)(hd:GN pm ws L=true)
  (hL:∀p∈L,∀x y,fs[p.1]?=some x->fs[p.2]?=some y->bz x y=true):lA pm fs=true:=by
 unfold lA;rw[aa,if_pos]
 ·exact wT λf hf=>by obtain ⟨i,hi,rfl⟩:=List.mem_iff_getElem.1 hf;obtain ⟨w,-,h⟩:=hw.get (List.getElem?_eq_getElem hi);exact h.1
 ·refine q_ λa b x y hab ha hb=>?_;simp only[Nat.zero_add];obtain ⟨wa,hwa,ka⟩:=hw.get ha;obtain ⟨wb,hwb,kb⟩:=hw.get hb;have hbl:=(List.getElem?_eq_some_iff.1 hwb).1;have:=List.all_eq_true.1 (List.all_eq_true.1 hd b (List.mem_range.2 hbl)) a (List.mem_range.2 hab);simp only[Fb,Bool.or_eq_true] at this;rcases this with (h | h) | h
  ·rw[h,Bool.true_or]
  ·simp only[List.getD_eq_getElem?_getD,hwa,hwb,Option.getD_some,Bool.and_eq_true,Bool.not_eq_true'] at h;have ex:=ka.2 h.1;have ey:=kb.2 h.2;simp only[bz,gK,eF,ex,ey,Bool.and_self,Bool.or_true]
  ·rw[hL (a,b) (List.contains_iff_mem.1 h) x y ha hb,Bool.or_true]
theorem Cr {x y:Foot}{b:Nat}(hx:∀i∈x.wr,b<=i)(hy:y.wr=[])(hb:y.lk.big=false)(hr:∀i∈y.lk.rd,i<b)(hs:y.lk.sr=[]):bz x y=true:=by
 have m1:meets x.wr []=false:=by simp[meets]
 have m2:meets x.wr y.lk.rd=false:=by simp only[meets,List.any_eq_false];intro i hi h;have h1:=hx i hi;have h2:=hr i (List.contains_iff_mem.1 h);omega
 simp only[bz,gK,eF,hy,hb,hs,m1,m2,fst1,List.map_nil,Bool.not_false,Bool.and_self,Bool.and_true]
 split<;>rfl
structure Mech where
 card:Int
 frm:List Int
 noise:List Int
 out:List Int
structure Causal where
 grain:Int
 roots:List (List Int)
 nodes:List Mech
structure Node where
 card:Int
 parents:List Int
 rows:List (List Int)
structure Net where
 grain:Int
 nodes:List Node
structure Factor where
 vars:List Int
 cards:List Int
 w:List Int
instance : Rp Mech:=Rp.via λm:Mech=>(m.card,m.frm,m.noise,m.out)
instance : Rp Causal:=Rp.via λm:Causal=>(m.grain,m.roots,m.nodes)
instance : Rp Node:=Rp.via λm:Node=>(m.card,m.parents,m.rows)
instance : Rp Net:=Rp.via λm:Net=>(m.grain,m.nodes)
instance : Rp Factor:=Rp.via λm:Factor=>(m.vars,m.cards,m.w)
section
variable {P:Nat->Prop}{k:Nat}{h:H}{cs:List AV}
theorem cp {m:Node}:Rp.rp P k h m cs↔∃a b,cs=[.int .i64 m.card,a,b]/\SlR P k h m.parents a/\SlR P k h m.rows b:=by
 constructor
 ·rintro ⟨c1,c2,rfl,h1,d1,d2,rfl,⟨a,rfl,h2⟩,⟨b,rfl,h3⟩⟩;rw[aF.1 h1];exact ⟨a,b,rfl,h2,h3⟩
 ·rintro ⟨a,b,rfl,h2,h3⟩;exact ⟨[.int .i64 m.card],[a,b],rfl,aF.2 rfl,[a],[b],rfl,⟨a,rfl,h2⟩,⟨b,rfl,h3⟩⟩
theorem ib {m:Net}:Rp.rp P k h m cs↔∃a,cs=[.int .i64 m.grain,a]/\SlR P k h m.nodes a:=by
 constructor
 ·rintro ⟨c1,c2,rfl,h1,⟨a,rfl,h2⟩⟩;rw[aF.1 h1];exact ⟨a,rfl,h2⟩
 ·rintro ⟨a,rfl,h2⟩;exact ⟨[.int .i64 m.grain],[a],rfl,aF.2 rfl,⟨a,rfl,h2⟩⟩
theorem iI {m:Factor}:Rp.rp P k h m cs↔∃a b c,cs=[a,b,c]/\SlR P k h m.vars a/\SlR P k h m.cards b/\SlR P k h m.w c:=by
 constructor
 ·rintro ⟨c1,c2,rfl,⟨a,rfl,h2⟩,e1,e2,rfl,⟨b,rfl,h3⟩,⟨c,rfl,h4⟩⟩;exact ⟨a,b,c,rfl,h2,h3,h4⟩
 ·rintro ⟨a,b,c,rfl,h2,h3,h4⟩;exact ⟨[a],[b,c],rfl,⟨a,rfl,h2⟩,[b],[c],rfl,⟨b,rfl,h3⟩,⟨c,rfl,h4⟩⟩
end
theorem SlR.len {α:Type} [Rp α]{P:Nat->Prop}{k:Nat}{h:H}{l:List α}{v:AV}(r:SlR P k h l v)(g:G):dv .slice v g=.val (.int .i64 (l.length:Int)):=by obtain ⟨rows,h1,h2⟩:=r.rows;rw[fW h1,h2.len]
theorem SlR.tree {α:Type} [Rp α]{k k':Nat}{h h':H}{l:List α}{v:AV}(r:SlR NoP k h l v)(hk:k<=k'):SlR NoP k' h' l v:=by obtain ⟨w,hw,q⟩:=Rp.tree (P:=NoP) (k':=k') (h':=h') (show Rp.rp NoP k h l [v] from ⟨v,rfl,r⟩) hk;injection hw with hw;subst hw;exact q
theorem bG {α:Type} [Rp α]{P:Nat->Prop}{k:Nat}{h:H}{l:List α}{v:AV}(r:SlR P k h l v)(d:Nat)(hd:Rp.dp (List α)<=20:=by decide) :
  ∃v',Hx.snap h d aI v=some v'/\∀h',SlR NoP (max k d) h' l v':=by
 obtain ⟨v',e,w,hw,q⟩:=rh (aR l hd) (by decide) d (show One l P k h v from ⟨v,rfl,r⟩);injection hw with hw;subst hw;exact ⟨v',e,λh'=>q.tree (Nat.le_refl _)⟩
theorem SlR.all {α:Type} [Rp α]{k:Nat}{h:H}{l:List α}{v:AV}(r:SlR NoP k h l v) :
  ∃rows:List (List AV),(∀h',ah h' (Rp.sz α) v=some rows)/\rows.length=l.length/\(∀(i:Nat) (x:α),l[i]?=some x->∃row,rows[i]?=some row/\Rp.rp NoP k .nil x row)/\(0<l.length->ug v=true):=by
 have r0:=(r.tree (h':=.nil) (Nat.le_refl _));obtain ⟨rows,h1,h2⟩:=r0.rows;refine ⟨rows,λh'=>?_,h2.len.symm,λi x hi=>h2.get hi,λhl=>B9 h1 (i:=0) (by rw[<-h2.len];exact hl)⟩;rw[<-h1];exact wN λid ep off len lim e=>by subst e;exact r.2.1.elim
theorem Bm {P:Nat->Prop}{k:Nat}{h:H}{l:List Nat}{v:AV}(r:SlR P k h l v):∀x∈l,x<18446744073709551616:=by obtain ⟨rows,h1,h2⟩:=r.rows;intro x hx;obtain ⟨i,hi,e⟩:=List.mem_iff_getElem.1 hx;obtain ⟨row,h3,h4⟩:=h2.get (i:=i) (a:=x) (by rw[List.getElem?_eq_getElem hi,e]);exact (Fm.1 h4).2
theorem eW (p:Nat->Bool)(j:Nat):(List.range (j+1)).all p=((List.range j).all p&&p j):=by rw[List.range_succ,List.all_append];simp
theorem wV {p:Nat->Bool}{j n:Nat}(h:j<n)(hp:p j=false):(List.range n).all p=false:=by rw[List.all_eq_false];exact ⟨j,List.mem_range.2 h,by rw[hp];decide⟩
end
end Hx
end
section
namespace Hx
open Go
noncomputable section
theorem sN {C:Cfg}{nt d:Nat}{rd:Option Nat}{c:Code}{t:T}{df:List ADf}{g:G}{Q:QT}(h:wp C d rd (eE C nt c) Q t df g):((I C).code nt d rd c t df g).sat Q:=by rw[El];exact Nm _ _ _ _ _ h
end
end Hx
end
