/- A part of the proof: an interpreter over abstract values, shown right against the model, and what the functions of the chapter compute on it. -/
import Derived.KernelRfl
import Derived.Test.YtjddchnjpobmkaaHx8
set_option linter.unusedVariables false
set_option linter.unusedSimpArgs false
set_option linter.unnecessarySimpa false
section
namespace Hx
open Go
set_option maxRecDepth 100000
noncomputable section
def C0:Cfg:=Go.Proofs.Ytjddchnjpobmkaa.Gen.cfg1
abbrev tII:Nat:=118
abbrev N.aZ:Nat:=137
abbrev N.aI:Nat:=142
abbrev N.an:Nat:=12
abbrev N.aU:Nat:=51
abbrev N.aP:Nat:=65
abbrev N.ax:Nat:=52
abbrev N.ae:Nat:=99
abbrev N.af:Nat:=53
abbrev N.aX:Nat:=100
abbrev N.ba:Nat:=3
abbrev N.be:Nat:=9
abbrev N.aa:Nat:=54
abbrev N.aW:Nat:=98
abbrev N.aM:Nat:=97
abbrev N.aR:Nat:=120
abbrev N.aK:Nat:=111
abbrev N.aG:Nat:=78
abbrev N.aq:Nat:=123
abbrev N.ac:Nat:=133
abbrev N.a_:Nat:=112
abbrev N.aF:Nat:=95
abbrev N.aV:Nat:=94
abbrev N.ap:Nat:=47
abbrev N.aO:Nat:=121
abbrev N.aQ:Nat:=55
abbrev N.am:Nat:=48
abbrev N.aT:Nat:=103
abbrev N.aS:Nat:=56
abbrev N.aN:Nat:=11
abbrev N.ay:Nat:=96
abbrev N.a8:Nat:=10
abbrev N.ah:Nat:=101
abbrev N.aw:Nat:=49
abbrev N.aL:Nat:=57
abbrev N.au:Nat:=13
abbrev N.a7:Nat:=104
abbrev N.aY:Nat:=102
abbrev N.aB:Nat:=59
abbrev N.aC:Nat:=60
abbrev N.aD:Nat:=58
abbrev N.ak:Nat:=50
abbrev N.aA:Nat:=14
abbrev N.aH:Nat:=61
abbrev N.aE:Nat:=131
abbrev N.a9:Nat:=31
abbrev N.bc:Nat:=132
abbrev N.aJ:Nat:=138
def bM:SC:=sQ [oM 126 14,oM 127 15,o 128 (.bin .neq (.t 126) (.t 127)),oM 129 128,og 130 129 false (.mv (.t 13)),og 131 129 false (.mv (.t 15)),og 132 129 false (.bin .eql (.t 131) (qI 0)),og 133 129 false (.mv (.t 132)),og 134 133 true (.load true 2 (.t 10)),og 135 133 true (.ixa 3 1 (.t 12) (qI 0)),og 136 133 true (.load false 1 (.t 135)),og 137 133 true (.ixa 3 1 (.t 12) (qI 1)),og 138 133 true (.load false 1 (.t 137)),og 139 133 true (.ixa 3 1 (.t 12) (qI 2)),og 140 133 true (.load false 1 (.t 139)),og 141 133 true (.call N.aA [.t 134,.t 136,.t 138,.t 140]),og 142 129 false (.pick (.t 133) (.t 141) (.k (.bool false))),og 143 129 false (.eq true .bool (.t 130) (.t 142)),o 144 (.pick (.t 129) (.k (.bool true)) (.t 143))] (.cond (.t 144) (sQ [o 6 (.mv (.k (.bool false)))] (.ret)) (.skip))
def fK:SC:=.ops [oA 145 70,oM 70 145]
def dh:SC:=sQ [o 71 (.bin .lss (.t 70) (qI 3))] (.seq (.cond (.t 71) (.skip) (.exit 2)) (.seq (.blk 3 (sQ [o 72 (.ix true 3 3 (.t 69) (.t 70)),o 12 (.alloc [.int .u64 0,.int .u64 0,.int .u64 0]),oz (.store 3 (.t 12) (.t 72))] (sQ [o 74 (.load true 2 (.t 10)),o 75 (.ixa 3 1 (.t 12) (qI 0)),oL 76 75,o 77 (.ixa 3 1 (.t 12) (qI 1)),oL 78 77,o 79 (.ixa 3 1 (.t 12) (qI 2)),oL 80 79,o 81 (.call N.an [.t 74,.t 76,.t 78,.t 80]),oM 73 81,o 82 (.ext (.t 73) 0),o 83 (.ext (.t 73) 1),oM 13 82,oM 14 83] (sQ [oK 15 0] (.seq (.blk 4 (sQ [o 85 (.load true 2 (.t 10)),o 86 (.call N.au [.t 85]),o 87 (.not (.t 86)),oM 84 87] (.cond (.t 84) (.ops [oK 15 50]) (sQ [o 89 (.ixa 3 1 (.t 12) (qI 0)),oL 90 89,o 91 (.ixa 3 1 (.t 12) (qI 1)),oL 92 91,o 93 (.bin .or (.t 90) (.t 92)),o 94 (.ixa 3 1 (.t 12) (qI 2)),oL 95 94,o 96 (.bin .or (.t 93) (.t 95)),oF 97 1 10,oL 98 97,oN 99 98,o 100 (.bin .shr (.t 96) (.t 99)),o 101 (.bin .neq (.t 100) (.k (.int .u64 0))),oM 102 101,og 103 102 false (.ixa 3 1 (.t 12) (qI 0)),og 104 102 false (.load false 1 (.t 103)),og 105 102 false (.ixa 3 1 (.t 12) (qI 1)),og 106 102 false (.load false 1 (.t 105)),og 107 102 false (.bin .and (.t 104) (.t 106)),og 108 102 false (.bin .neq (.t 107) (.k (.int .u64 0))),o 109 (.pick (.t 102) (.k (.bool true)) (.t 108)),oM 110 109,og 111 110 false (.ixa 3 1 (.t 12) (qI 0)),og 112 110 false (.load false 1 (.t 111)),og 113 110 false (.ixa 3 1 (.t 12) (qI 2)),og 114 110 false (.load false 1 (.t 113)),og 115 110 false (.bin .and (.t 112) (.t 114)),og 116 110 false (.bin .neq (.t 115) (.k (.int .u64 0))),o 117 (.pick (.t 110) (.k (.bool true)) (.t 116)),oM 118 117,og 119 118 false (.ixa 3 1 (.t 12) (qI 1)),og 120 118 false (.load false 1 (.t 119)),og 121 118 false (.ixa 3 1 (.t 12) (qI 2)),og 122 118 false (.load false 1 (.t 121)),og 123 118 false (.bin .and (.t 120) (.t 122)),og 124 118 false (.bin .neq (.t 123) (.k (.int .u64 0))),o 125 (.pick (.t 118) (.k (.bool true)) (.t 124)),oM 88 125] (.cond (.t 88) (.ops [oK 15 2]) (.skip)))))) bM))))) fK))
def fS:SC:=.ops [oA 146 30,oM 30 146]
def fT:SC:=sQ [o 31 (.bin .lss (.t 30) (qI 2))] (.seq (.cond (.t 31) (.skip) (.exit 0)) (.seq (.blk 1 (sQ [o 32 (.ix true 2 2 (.t 29) (.t 30)),o 10 (.alloc [.int .i64 0,.nils]),oz (.store 2 (.t 10) (.t 32))] (sQ [o 33 (.load true 3 (.t 5)),o 34 (.ixa 3 1 (.t 5) (qI 0)),oL 35 34,oM 36 8,o 37 (.bin .and (.t 35) (.t 36)),o 38 (.ixa 3 1 (.t 5) (qI 1)),oL 39 38,oM 40 8,o 41 (.bin .and (.t 39) (.t 40)),o 42 (.ixa 3 1 (.t 5) (qI 2)),oL 43 42,oM 44 8,o 45 (.bin .and (.t 43) (.t 44)),o 46 (.build [.int .u64 0,.int .u64 0,.int .u64 0] [(0,1),(1,1),(2,1)] [.t 37,.t 41,.t 45]),o 47 (.ixa 3 1 (.t 5) (qI 0)),oL 48 47,oM 49 8,o 50 (.bin .and (.t 48) (.t 49)),o 51 (.ixa 3 1 (.t 5) (qI 1)),oL 52 51,oM 53 8,o 54 (.bin .and (.t 52) (.t 53)),o 55 (.ixa 3 1 (.t 5) (qI 0)),oL 56 55,o 57 (.bin .andNot (.t 54) (.t 56)),o 58 (.ixa 3 1 (.t 5) (qI 2)),oL 59 58,oM 60 8,o 61 (.bin .and (.t 59) (.t 60)),o 62 (.ixa 3 1 (.t 5) (qI 0)),oL 63 62,o 64 (.bin .andNot (.t 61) (.t 63)),o 65 (.ixa 3 1 (.t 5) (qI 1)),oL 66 65,o 67 (.bin .andNot (.t 64) (.t 66)),o 68 (.build [.int .u64 0,.int .u64 0,.int .u64 0] [(0,1),(1,1),(2,1)] [.t 50,.t 57,.t 67]),o 69 (.build [.int .u64 0,.int .u64 0,.int .u64 0,.int .u64 0,.int .u64 0,.int .u64 0,.int .u64 0,.int .u64 0,.int .u64 0] [(0,3),(3,3),(6,3)] [.t 33,.t 46,.t 68]),oK 70 0] (.blk 2 (.loop dh))))) fS))
def fR:SC:=sQ [o 6 (.mv (.k (.bool true)))] (.ret)
def fW:SC:=.seq (sQ [o 16 (.call N.be []),o 17 (.not (.t 16))] (.cond (.t 17) (sQ [o 6 (.mv (.k (.bool false)))] (.ret)) (.skip))) (sQ [o 18 (.load true 3 (.t 3)),o 19 (.call N.a8 [.t 18]),o 7 (.alloc [.int .i64 0,.nils]),oz (.store 2 (.t 7) (.t 19))] (sQ [oF 20 1 7,oL 21 20,oN 22 21,o 23 (.bin .shl (.k (.int .u64 1)) (.t 22)),o 24 (.bin .sub (.t 23) (.k (.int .u64 1))),oM 8 24] (.seq (.seq (.quiet [o 25 (.load true 2 (.t 7)),o 26 (.load true 4 (.t 4)),o 27 (.load true 2 (.t 7)),o 28 (.call N.aN [.t 26,.t 27]),o 29 (.build [.int .i64 0,.nils,.int .i64 0,.nils] [(0,2),(2,2)] [.t 25,.t 28]),oK 30 0]) (.blk 0 (.loop fT))) fR)))
def d_:SF:=⟨147,[.tm 6],sQ [o 3 (.box (.t 0)),o 4 (.box (.t 1)),o 5 (.box (.t 2)),o 6 (.mv (.k (.bool false)))] fW⟩
def oE:SC:=sQ [oM 65 6,oM 66 9,o 67 (.bin .mul (.t 65) (.t 66)),oM 6 67] (.feet [0,1,0,0,12,28,0,127,255,511] [oF 68 1 4,oL 69 68,oM 70 5,oM 71 7,oX 72 70 71,oL 73 72,oM 74 9,o 75 (.ixs 3 (.t 69) (.t 73)),oF 76 0 75,oz (.store 1 (.t 76) (.t 74))])
def oP:SC:=sQ [oF 50 0 8,oL 51 50,o 52 (.bin .rem (.t 51) (.k (.int .u8 2))),o 53 (.conv .i64 (.t 52)),o 54 (.bin .add (qI 2) (.t 53)),oM 9 54] (.seq (sQ [oM 55 6,oM 56 9,o 57 (.bin .mul (.t 55) (.t 56)),oM 58 3,o 59 (.bin .sub (.t 58) (qI 1)),oM 60 7,o 61 (.bin .sub (.t 59) (.t 60)),o 62 (.conv .u64 (.t 61)),o 63 (.bin .shl (.t 57) (.t 62)),o 64 (.bin .gtr (.t 63) (qI 100))] (.cond (.t 64) (.ops [oK 9 2]) (.skip))) oE)
def iM:SC:=.ops [oM 38 7,oA 39 38,oM 7 39]
def dO:SC:=.seq (sQ [oM 35 7,oM 36 3,o 37 (.bin .lss (.t 35) (.t 36))] (.cond (.t 37) (.skip) (.exit 0))) (.seq (.blk 1 (sQ [o 8 (.alloc [.int .u8 0,.int .u8 0,.nils])] (.seq (sQ [oM 40 7,oF 41 1 1,oL 42 41,oN 43 42,o 44 (.bin .lss (.t 40) (.t 43))] (.cond (.t 44) (.ops [oF 45 1 1,oL 46 45,oM 47 7,o 48 (.ixs 3 (.t 46) (.t 47)),o 49 (.load true 3 (.t 48)),oz (.store 3 (.t 8) (.t 49))]) (.skip))) oP))) iM)
def iI:SC:=.ops [oM 104 14,oA 105 104,oM 14 105]
def dR:SC:=.seq (sQ [oM 101 14,oM 102 10,o 103 (.bin .lss (.t 101) (.t 102))] (.cond (.t 103) (.skip) (.exit 6))) (.seq (.blk 7 (sQ [oM 106 5,oM 107 14,oX 108 106 107,oL 109 108,oM 110 13,o 111 (.bin .eql (.t 109) (.t 110)),oM 112 111,og 113 112 true (.fad 1 (.t 11)),og 114 112 true (.load false 1 (.t 113)),og 115 112 true (.mv (.t 14)),og 116 112 true (.conv .u64 (.t 115)),og 117 112 true (.bin .shr (.t 114) (.t 116)),og 118 112 true (.bin .and (.t 117) (.k (.int .u8 1))),og 119 112 true (.bin .eql (.t 118) (.k (.int .u8 1))),o 120 (.pick (.t 112) (.t 119) (.k (.bool false))),oM 121 120,og 122 121 true (.fad 1 (.t 4)),og 123 121 true (.load false 1 (.t 122)),og 124 121 true (.mv (.t 12)),og 125 121 true (.ixs 3 (.t 123) (.t 124)),og 126 121 true (.fad 1 (.t 125)),og 127 121 true (.load false 1 (.t 126)),og 128 121 true (.len .slice (.t 127)),og 129 121 true (.bin .lss (.t 128) (qI 3)),o 130 (.pick (.t 121) (.t 129) (.k (.bool false)))] (.cond (.t 130) (.feet [0,1,0,0,8,0,56,120,248,0,512,2040,4095,8191,16383] [oF 131 1 4,oL 132 131,oM 133 12,oF 134 1 4,oL 135 134,oM 136 12,o 137 (.ixs 3 (.t 135) (.t 136)),oF 138 1 137,oL 139 138,oM 140 13,o 141 (.bsl 1 1 [.int .i64 0] [0] [.t 140]),o 142 (.app 1 8 (.t 139) (.t 141)),o 143 (.ixs 3 (.t 132) (.t 133)),oF 144 1 143,oz (.store 1 (.t 144) (.t 142))]) (.skip)))) iI)
def iO:SC:=.ops [oM 99 13,oA 100 99,oM 13 100]
def dW:SC:=.seq (sQ [oM 96 13,oM 97 3,o 98 (.bin .lss (.t 96) (.t 97))] (.cond (.t 98) (.skip) (.exit 4))) (.seq (.blk 5 (sQ [oK 14 0] (.blk 6 (.loop dR)))) iO)
def ej:SC:=.seq (sQ [oM 145 15,o 146 (.load true 2 (.t 4)),oM 147 12,o 148 (.call N.aw [.t 146,.t 147]),o 149 (.call N.am [.t 148]),o 150 (.bin .lss (.t 145) (.t 149))] (.cond (.t 150) (.skip) (.exit 8))) (.seq (.blk 9 (.feet [0,1,0,0,8,0,56,120,248,0,512,0,2048,0,14336,30720,63488,0,131072,0,0,1048576,0,7340032,15728640,32505856,66060288,133693440,268434944,536870400,1073741816,2147483647,4294967295,8589934591] [oF 153 1 4,oL 154 153,oM 155 12,oF 156 1 4,oL 157 156,oM 158 12,o 159 (.ixs 3 (.t 157) (.t 158)),oF 160 2 159,oL 161 160,oF 162 0 4,oL 163 162,oF 164 1 4,oL 165 164,oM 166 12,o 167 (.ixs 3 (.t 165) (.t 166)),oF 168 0 167,oL 169 168,oF 170 2 11,oL 171 170,oM 172 15,oF 173 1 4,oL 174 173,oM 175 12,o 176 (.ixs 3 (.t 174) (.t 175)),oF 177 0 176,oL 178 177,oA 179 178,o 180 (.bin .mul (.t 172) (.t 179)),o 181 (.call N.ak [.t 163,.t 169,.t 171,.t 180]),o 182 (.bsl 1 1 [.nils] [0] [.t 181]),o 183 (.app 1 24 (.t 161) (.t 182)),o 184 (.ixs 3 (.t 154) (.t 155)),oF 185 2 184,oz (.store 1 (.t 185) (.t 183))])) (.ops [oM 151 15,oA 152 151,oM 15 152]))
def iN:SC:=sQ [oK 15 0] (.blk 8 (.loop ej))
def gS:SC:=sQ [oM 92 5,oM 93 10,oX 94 92 93,oL 95 94,oM 12 95] (.seq (sQ [oK 13 0] (.blk 4 (.loop dW))) iN)
def gY:SC:=.ops [oM 80 10,oA 81 80,oM 10 81]
def dF:SC:=.seq (sQ [oM 77 10,oM 78 3,o 79 (.bin .lss (.t 77) (.t 78))] (.cond (.t 79) (.skip) (.exit 2))) (.seq (.blk 3 (sQ [o 11 (.alloc [.int .u8 0,.int .u8 0,.nils])] (.seq (sQ [oM 82 10,oF 83 1 1,oL 84 83,oN 85 84,o 86 (.bin .lss (.t 82) (.t 85))] (.cond (.t 86) (.ops [oF 87 1 1,oL 88 87,oM 89 10,o 90 (.ixs 3 (.t 88) (.t 89)),o 91 (.load true 3 (.t 90)),oz (.store 3 (.t 11) (.t 91))]) (.skip))) gS))) gY)
def gT:SC:=sQ [o 186 (.load true 2 (.t 4)),oz (.store 2 (.t 2) (.t 186))] (.ret)
def gV:SC:=.seq (sQ [oK 10 0] (.blk 2 (.loop dF))) gT
def jb:SC:=sQ [oF 16 1 1,oL 17 16,oN 18 17,o 19 (.mx (.t 18) (qI 1)),o 20 (.mn (.t 19) (qI 5)),oM 3 20] (.seq (.feet [0,1,3,7,15,0,32,127,0,511] [oF 21 0 1,oL 22 21,o 23 (.bin .rem (.t 22) (.k (.int .u8 60))),o 24 (.conv .i64 (.t 23)),o 25 (.bin .add (qI 1) (.t 24)),oM 26 3,o 27 (.mks 3 56 [.int .i64 0,.nils,.nils] (.t 26) (.t 26)),o 28 (.build [.int .i64 0,.nils] [(0,1),(1,1)] [.t 25,.t 27]),o 4 (.alloc [.int .i64 0,.nils]),oz (.store 2 (.t 4) (.t 28))]) (.seq (.feet [0,1,0,4,15,31,63] [oM 29 3,o 30 (.mks 1 1 [.int .u8 0] (.t 29) (.t 29)),oF 31 2 1,oL 32 31,o 33 (.build [.nils,.int .u16 0,.nils] [(0,1),(2,1)] [.t 30,.t 32]),o 34 (.call N.ap [.t 33]),oM 5 34]) (sQ [oK 6 1] (.seq (sQ [oK 7 0] (.blk 0 (.loop dO))) gV))))
def gv:SF:=⟨187,[.cell true 2 2],sQ [o 1 (.box (.t 0)),o 2 (.alloc [.int .i64 0,.nils])] jb⟩
def fk:SC:=.seq (sQ [oM 39 8,oF 40 1 3,oL 41 40,oM 42 6,o 43 (.ixs 3 (.t 41) (.t 42)),oF 44 2 43,oL 45 44,oN 46 45,o 47 (.bin .lss (.t 39) (.t 46))] (.cond (.t 47) (.skip) (.exit 2))) (.seq (.blk 3 (sQ [o 9 (.mv (.k (.nils)))] (.feet [0,1,0,0,8,0,56,120,248,0,1016,2040,4092,8188,16383,32767,65535] [oF 50 2 7,oL 51 50,oM 52 9,oF 53 1 3,oL 54 53,oM 55 6,o 56 (.ixs 3 (.t 54) (.t 55)),oF 57 2 56,oL 58 57,oM 59 8,oX 60 58 59,oL 61 60,o 62 (.app 1 8 (.t 52) (.t 61)),o 63 (.bsl 1 1 [.nils] [0] [.t 62]),o 64 (.app 1 24 (.t 51) (.t 63)),oF 65 2 7,oz (.store 1 (.t 65) (.t 64))]))) (.ops [oM 48 8,oA 49 48,oM 8 49]))
def j_:SC:=.ops [oM 66 5,o 67 (.load true 3 (.t 7)),o 68 (.bsl 3 1 [.int .i64 0,.nils,.nils] [0] [.t 67]),o 69 (.app 3 56 (.t 66) (.t 68)),oM 5 69]
def ko:SC:=.ops [oM 20 6,oA 21 20,oM 6 21]
def fu:SC:=.seq (sQ [oM 15 6,oF 16 1 3,oL 17 16,oN 18 17,o 19 (.bin .lss (.t 15) (.t 18))] (.cond (.t 19) (.skip) (.exit 0))) (.seq (.blk 1 (sQ [oF 22 1 3,oL 23 22,oM 24 6,o 25 (.ixs 3 (.t 23) (.t 24)),oF 26 0 25,oL 27 26,o 28 (.build [.int .i64 0,.nils,.nils] [(0,1)] [.t 27]),o 7 (.alloc [.int .i64 0,.nils,.nils]),oz (.store 3 (.t 7) (.t 28))] (.seq (.feet [0,1,0,4,0,28,60,124,255,511,1023] [oF 29 1 7,oL 30 29,oF 31 1 3,oL 32 31,oM 33 6,o 34 (.ixs 3 (.t 32) (.t 33)),oF 35 1 34,oL 36 35,o 37 (.app 1 8 (.t 30) (.t 36)),oF 38 1 7,oz (.store 1 (.t 38) (.t 37))]) (.seq (sQ [oK 8 0] (.blk 2 (.loop fk))) j_)))) ko)
def dq:SC:=.seq (sQ [oM 264 12,oM 265 13,o 266 (.bin .lss (.t 264) (.t 265))] (.cond (.t 266) (.skip) (.exit 5))) (.seq (.blk 6 (sQ [oM 269 10,o 270 (.nilc (.t 269)),oF 271 2 270,oL 272 271,oM 273 11,oX 274 272 273,oL 275 274,oM 276 12,oX 277 275 276,oL 278 277,oM 14 278] (.seq (.feet [0,1,3,7,0,31,63,0,0,256,768,1792,0,7936,16128,0,65280,130816,262143,524287] [oM 279 10,o 280 (.nilc (.t 279)),oF 281 2 280,oL 282 281,oM 283 11,oX 284 282 283,oL 285 284,oM 286 12,oM 287 10,o 288 (.nilc (.t 287)),oF 289 2 288,oL 290 289,oM 291 11,oX 292 290 291,oL 293 292,oM 294 13,oX 295 293 294,oL 296 295,oX 297 285 286,oz (.store 1 (.t 297) (.t 296))]) (sQ [oM 298 10,o 299 (.nilc (.t 298)),oF 300 2 299,oL 301 300,oM 302 11,oX 303 301 302,oL 304 303,oM 305 13,oM 306 14,oX 307 304 305,oz (.store 1 (.t 307) (.t 306))] (.ops [oM 308 13,o 309 (.bin .sub (.t 308) (qI 1)),oM 13 309]))))) (.ops [oM 267 12,oA 268 267,oM 12 268]))
def dw:SC:=sQ [o 322 (.load true 2 (.t 3)),oz (.store 2 (.t 4) (.t 322))] (.ret)
def fe:SC:=.seq (sQ [oF 99 0 2,oL 100 99,o 101 (.bin .rem (.t 100) (.k (.int .u8 12)))] (.blk 4 (sQ [o 111 (.bin .eql (.t 101) (.k (.int .u8 0))),oM 110 111] (.cond (.t 110) (.ops [oF 112 3 2,oL 113 112,oF 114 0 3,oz (.store 1 (.t 114) (.t 113))]) (sQ [o 116 (.bin .eql (.t 101) (.k (.int .u8 1))),oM 115 116] (.cond (.t 115) (.ops [oM 117 10,oF 118 3 2,oL 119 118,o 120 (.nilc (.t 117)),oF 121 0 120,oz (.store 1 (.t 121) (.t 119))]) (sQ [o 123 (.bin .eql (.t 101) (.k (.int .u8 2))),oM 122 123] (.cond (.t 122) (.feet [0,0,2,6,14,0,32,96,254,511,1023,2047] [oM 124 10,oM 125 10,o 126 (.nilc (.t 125)),oF 127 1 126,oL 128 127,oF 129 3 2,oL 130 129,o 131 (.bsl 1 1 [.int .i64 0] [0] [.t 130]),o 132 (.app 1 8 (.t 128) (.t 131)),o 133 (.nilc (.t 124)),oF 134 1 133,oz (.store 1 (.t 134) (.t 132))]) (sQ [o 136 (.bin .eql (.t 101) (.k (.int .u8 3))),oM 135 136] (.cond (.t 135) (.ops [oM 137 10,o 138 (.nilc (.t 137)),oF 139 1 138,oz (.store 1 (.t 139) (.k (.nils)))]) (sQ [o 141 (.bin .eql (.t 101) (.k (.int .u8 4))),oM 140 141] (.cond (.t 140) (.feet [0,0,2,6,14,0,32,96,224,510,1023,2047,4095] [oM 142 10,oM 143 10,o 144 (.nilc (.t 143)),oF 145 2 144,oL 146 145,oF 147 3 2,oL 148 147,o 149 (.bsl 1 1 [.int .i64 0] [0] [.t 148]),o 150 (.bsl 1 1 [.nils] [0] [.t 149]),o 151 (.app 1 24 (.t 146) (.t 150)),o 152 (.nilc (.t 142)),oF 153 2 152,oz (.store 1 (.t 153) (.t 151))]) (sQ [o 155 (.bin .eql (.t 101) (.k (.int .u8 5))),oM 154 155] (.cond (.t 154) (sQ [oM 156 11,o 157 (.bin .geq (.t 156) (qI 0))] (.cond (.t 157) (.ops [oM 158 10,oM 159 10,o 160 (.nilc (.t 159)),oF 161 2 160,oL 162 161,oM 163 11,o 164 (.slc 1 (.t 162) [] [.t 163]),o 165 (.nilc (.t 158)),oF 166 2 165,oz (.store 1 (.t 166) (.t 164))]) (.skip))) (sQ [o 168 (.bin .eql (.t 101) (.k (.int .u8 6))),oM 167 168] (.cond (.t 167) (sQ [oM 169 11,o 170 (.bin .geq (.t 169) (qI 0)),oM 171 170,og 172 171 true (.mv (.t 10)),og 173 171 true (.nilc (.t 172)),og 174 171 true (.fad 2 (.t 173)),og 175 171 true (.load false 1 (.t 174)),og 176 171 true (.mv (.t 11)),og 177 171 true (.ixs 1 (.t 175) (.t 176)),og 178 171 true (.load false 1 (.t 177)),og 179 171 true (.len .slice (.t 178)),og 180 171 true (.bin .gtr (.t 179) (qI 0)),o 181 (.pick (.t 171) (.t 180) (.k (.bool false)))] (.cond (.t 181) (.feet [0,1,3,7,0,31,63,0,128,511,1023] [oM 182 10,o 183 (.nilc (.t 182)),oF 184 2 183,oL 185 184,oM 186 11,oX 187 185 186,oL 188 187,oF 189 3 2,oL 190 189,o 191 (.ixs 1 (.t 188) (qI 0)),oz (.store 1 (.t 191) (.t 190))]) (.skip))) (sQ [o 193 (.bin .eql (.t 101) (.k (.int .u8 7))),oM 192 193] (.cond (.t 192) (sQ [oM 194 11,o 195 (.bin .geq (.t 194) (qI 0))] (.cond (.t 195) (.feet [0,1,3,7,0,0,32,96,224,0,992,2016,0,8160,16383,32767] [oM 196 10,o 197 (.nilc (.t 196)),oF 198 2 197,oL 199 198,oM 200 11,oM 201 10,o 202 (.nilc (.t 201)),oF 203 2 202,oL 204 203,oM 205 11,oX 206 204 205,oL 207 206,o 208 (.bsl 1 1 [.int .i64 0] [0] [.k (.int .i64 0)]),o 209 (.app 1 8 (.t 207) (.t 208)),oX 210 199 200,oz (.store 1 (.t 210) (.t 209))]) (.skip))) (sQ [o 212 (.bin .eql (.t 101) (.k (.int .u8 8))),oM 211 212] (.cond (.t 211) (sQ [oM 213 11,o 214 (.bin .geq (.t 213) (qI 0)),oM 215 214,og 216 215 true (.mv (.t 10)),og 217 215 true (.nilc (.t 216)),og 218 215 true (.fad 2 (.t 217)),og 219 215 true (.load false 1 (.t 218)),og 220 215 true (.mv (.t 11)),og 221 215 true (.ixs 1 (.t 219) (.t 220)),og 222 215 true (.load false 1 (.t 221)),og 223 215 true (.len .slice (.t 222)),og 224 215 true (.bin .gtr (.t 223) (qI 0)),o 225 (.pick (.t 215) (.t 224) (.k (.bool false)))] (.cond (.t 225) (.seq (.feet [0,1,3,7,0,0,32,96,224,0,992,2016,4064,8160,16383,32767] [oM 226 10,o 227 (.nilc (.t 226)),oF 228 2 227,oL 229 228,oM 230 11,oM 231 10,o 232 (.nilc (.t 231)),oF 233 2 232,oL 234 233,oM 235 11,oX 236 234 235,oL 237 236,oN 238 237,o 239 (.mks 1 8 [.int .i64 0] (.t 238) (.t 238)),oX 240 229 230,oz (.store 1 (.t 240) (.t 239))]) (.feet [0,1,3,7,0,31,63,0,128,511,1023] [oM 241 10,o 242 (.nilc (.t 241)),oF 243 2 242,oL 244 243,oM 245 11,oX 246 244 245,oL 247 246,oF 248 0 3,oL 249 248,o 250 (.ixs 1 (.t 247) (qI 0)),oz (.store 1 (.t 250) (.t 249))])) (.skip))) (sQ [o 252 (.bin .eql (.t 101) (.k (.int .u8 9))),oM 251 252] (.cond (.t 251) (sQ [oM 253 11,o 254 (.bin .geq (.t 253) (qI 0))] (.cond (.t 254) (.seq (.quiet [oM 255 10,o 256 (.nilc (.t 255)),oF 257 2 256,oL 258 257,oM 259 11,oX 260 258 259,oL 261 260,oN 262 261,o 263 (.bin .sub (.t 262) (qI 1)),oK 12 0,oM 13 263]) (.blk 5 (.loop dq))) (.skip))) (sQ [o 311 (.bin .eql (.t 101) (.k (.int .u8 10))),oM 310 311] (.cond (.t 310) (.ops [oF 312 1 3,oL 313 312,oF 314 0 3,oL 315 314,o 316 (.bsl 1 1 [.int .i64 0] [0] [.t 315]),o 317 (.bsl 1 1 [.nils] [0] [.t 316]),o 318 (.build [.int .i64 0,.nils,.nils] [(0,1),(2,1)] [.k (.int .i64 1),.t 317]),o 319 (.bsl 3 1 [.int .i64 0,.nils,.nils] [0] [.t 318]),o 320 (.app 3 56 (.t 313) (.t 319)),oF 321 1 3,oz (.store 1 (.t 321) (.t 320))]) (.ops [oF 102 1 3,oL 103 102,oF 104 1 3,oL 105 104,oN 106 105,o 107 (.bin .sub (.t 106) (qI 1)),o 108 (.slc 3 (.t 103) [] [.t 107]),oF 109 1 3,oz (.store 1 (.t 109) (.t 108))]))))))))))))))))))))))))) dw
def fj:SC:=sQ [oM 70 5,oF 71 1 3,oz (.store 1 (.t 71) (.t 70))] (.seq (sQ [oM 72 5,oN 73 72,o 74 (.bin .eql (.t 73) (qI 0))] (.cond (.t 74) (sQ [o 75 (.load true 2 (.t 3)),oz (.store 2 (.t 4) (.t 75))] (.ret)) (.skip))) (sQ [oM 76 5,oF 77 1 2,oL 78 77,o 79 (.conv .i64 (.t 78)),oM 80 5,oN 81 80,o 82 (.bin .rem (.t 79) (.t 81)),o 83 (.ixs 3 (.t 76) (.t 82)),oM 10 83] (sQ [oK 11 (-1)] (.seq (sQ [oM 84 10,o 85 (.nilc (.t 84)),oF 86 2 85,oL 87 86,oN 88 87,o 89 (.bin .gtr (.t 88) (qI 0))] (.cond (.t 89) (.quiet [oF 90 2 2,oL 91 90,o 92 (.conv .i64 (.t 91)),oM 93 10,o 94 (.nilc (.t 93)),oF 95 2 94,oL 96 95,oN 97 96,o 98 (.bin .rem (.t 92) (.t 97)),oM 11 98]) (.skip))) fe))))
def kC:SC:=sQ [o 5 (.mv (.k (.nils)))] (.seq (sQ [oK 6 0] (.blk 0 (.loop fu))) fj)
def iS:SF:=⟨323,[.cell true 2 4],sQ [o 2 (.box (.t 0)),o 3 (.box (.t 1)),o 4 (.alloc [.int .i64 0,.nils])] kC⟩
def gF:SC:=.ops [o 14 (.alloc [.int .i64 0,.int .i64 0,.nils]),oz (.store 3 (.t 14) (.t 82))]
def fY:SC:=sQ [o 85 (.bin .lss (.t 84) (qI 4))] (.seq (.cond (.t 85) (.skip) (.exit 2)) (.seq (.blk 3 (sQ [oM 86 84,o 87 (.ix false 4 1 (.t 83) (.t 84)),oM 15 86,oM 16 87] (.feet [0,1,3,0,0,16,0,120,255,0,512,2047,4095] [oM 88 15,o 89 (.ixa 4 1 (.t 13) (.t 88)),oL 90 89,o 91 (.load true 4 (.t 10)),oF 92 2 14,oL 93 92,oM 94 16,o 95 (.call N.af [.t 91,.t 93,.t 94]),o 96 (.raw (.lookup 118 (.tmp 90) (.tmp 95) false)),oF 97 1 14,oL 98 97,o 99 (.bin .add (.t 96) (.t 98)),oz (.raw (.mapUpdate 118 (.tmp 90) (.tmp 95) (.tmp 99)))]))) (.ops [oA 100 84,oM 84 100])))
def gf:SC:=.blk 1 (sQ [o 83 (.load true 4 (.t 12)),oK 84 0] (.blk 2 (.loop fY)))
def f_:SC:=.ops [o 17 (.alloc [.int .i64 0,.int .i64 0,.nils]),oz (.store 3 (.t 17) (.t 103))]
def gA:SC:=sQ [o 106 (.bin .lss (.t 105) (qI 4))] (.seq (.cond (.t 106) (.skip) (.exit 6)) (.seq (.blk 7 (sQ [oM 107 105,o 108 (.ix false 4 1 (.t 104) (.t 105)),oM 19 107,oM 20 108] (.feet [0,0,2,6,0,0,32,0,240,510,1022,2047,4095] [oM 109 19,oM 110 19,o 111 (.ixa 4 1 (.t 13) (.t 110)),oL 112 111,o 113 (.load true 4 (.t 10)),oF 114 2 17,oL 115 114,oM 116 20,o 117 (.call N.af [.t 113,.t 115,.t 116]),o 118 (.raw (.lookup 118 (.tmp 112) (.tmp 117) false)),o 119 (.conv .u64 (.t 118)),o 120 (.ixa 4 1 (.t 18) (.t 109)),oz (.store 1 (.t 120) (.t 119))]))) (.ops [oA 121 105,oM 105 121])))
def gH:SC:=sQ [o 123 (.ixa 4 1 (.t 18) (qI 0)),oL 124 123,o 125 (.ixa 4 1 (.t 18) (qI 1)),oL 126 125,o 127 (.call N.aa [.t 124,.t 126]),oM 122 127,o 128 (.ext (.t 122) 0),o 129 (.ext (.t 122) 1),oM 21 128,oM 22 129] (sQ [o 131 (.ixa 4 1 (.t 18) (qI 2)),oL 132 131,o 133 (.ixa 4 1 (.t 18) (qI 3)),oL 134 133,o 135 (.call N.aa [.t 132,.t 134]),oM 130 135,o 136 (.ext (.t 130) 0),o 137 (.ext (.t 130) 1),oM 23 136,oM 24 137] (sQ [oM 138 23,oM 139 21,o 140 (.bin .neq (.t 138) (.t 139)),oM 141 140,og 142 141 false (.mv (.t 24)),og 143 141 false (.mv (.t 22)),og 144 141 false (.bin .neq (.t 142) (.t 143)),o 145 (.pick (.t 141) (.k (.bool true)) (.t 144))] (.cond (.t 145) (sQ [oz (.store 1 (.t 8) (.k (.bool true))),oz (.store 1 (.t 9) (qI 0))] (.ret)) (.skip))))
def fZ:SC:=.blk 5 (sQ [o 18 (.alloc [.int .u64 0,.int .u64 0,.int .u64 0,.int .u64 0])] (.seq (sQ [o 104 (.load true 4 (.t 12)),oK 105 0] (.blk 6 (.loop gA))) gH))
def kz:SC:=sQ [oz (.store 1 (.t 8) (.k (.bool false))),oz (.store 1 (.t 9) (qI 0))] (.ret)
def lf:SC:=.seq (sQ [o 101 (.load true 4 (.t 10)),o 102 (.call N.ax [.t 101,.k (.nils)])] (.blk 4 (.rng 146 (.t 102) [103] f_ fZ))) kz
def mS:SC:=sQ [o 26 (.load true 2 (.t 4)),o 27 (.call N.aU [.t 26,.k (.nils)]),oM 25 27,o 28 (.ext (.t 25) 0),o 29 (.ext (.t 25) 1),o 10 (.alloc [.int .i64 0,.nils,.nils,.nils]),oz (.store 4 (.t 10) (.t 28)),oM 11 29] (.seq (sQ [oM 30 11,o 31 (.bin .neq (.t 30) (qI 0))] (.cond (.t 31) (sQ [oM 32 11,oz (.store 1 (.t 8) (.k (.bool false))),oz (.store 1 (.t 9) (.t 32))] (.ret)) (.skip))) (.seq (sQ [oM 33 1,oM 34 2,o 35 (.bin .or (.t 33) (.t 34)),oM 36 3,o 37 (.bin .or (.t 35) (.t 36)),oF 38 0 10,oF 39 1 38,oL 40 39,oN 41 40,o 42 (.bin .shr (.t 37) (.t 41)),o 43 (.bin .neq (.t 42) (.k (.int .u64 0))),oM 44 43,og 45 44 false (.mv (.t 1)),og 46 44 false (.mv (.t 2)),og 47 44 false (.bin .and (.t 45) (.t 46)),og 48 44 false (.bin .neq (.t 47) (.k (.int .u64 0))),o 49 (.pick (.t 44) (.k (.bool true)) (.t 48)),oM 50 49,og 51 50 false (.mv (.t 1)),og 52 50 false (.mv (.t 3)),og 53 50 false (.bin .and (.t 51) (.t 52)),og 54 50 false (.bin .neq (.t 53) (.k (.int .u64 0))),o 55 (.pick (.t 50) (.k (.bool true)) (.t 54)),oM 56 55,og 57 56 false (.mv (.t 2)),og 58 56 false (.mv (.t 3)),og 59 56 false (.bin .and (.t 57) (.t 58)),og 60 56 false (.bin .neq (.t 59) (.k (.int .u64 0))),o 61 (.pick (.t 56) (.k (.bool true)) (.t 60))] (.cond (.t 61) (sQ [oz (.store 1 (.t 8) (.k (.bool false))),oz (.store 1 (.t 9) (qI 2))] (.ret)) (.skip))) (sQ [oM 62 1,oM 63 2,o 64 (.bin .or (.t 62) (.t 63)),oM 65 3,o 66 (.bin .or (.t 64) (.t 65)),oM 67 3,oM 68 1,oM 69 3,o 70 (.bin .or (.t 68) (.t 69)),oM 71 2,oM 72 3,o 73 (.bin .or (.t 71) (.t 72)),o 74 (.build [.int .u64 0,.int .u64 0,.int .u64 0,.int .u64 0] [(0,1),(1,1),(2,1),(3,1)] [.t 66,.t 67,.t 70,.t 73]),o 12 (.alloc [.int .u64 0,.int .u64 0,.int .u64 0,.int .u64 0]),oz (.store 4 (.t 12) (.t 74))] (sQ [o 75 (.raw (.makeMap 118 none)),o 76 (.raw (.makeMap 118 none)),o 77 (.raw (.makeMap 118 none)),o 78 (.raw (.makeMap 118 none)),o 79 (.build [.nilm,.nilm,.nilm,.nilm] [(0,1),(1,1),(2,1),(3,1)] [.t 75,.t 76,.t 77,.t 78]),o 13 (.alloc [.nilm,.nilm,.nilm,.nilm]),oz (.store 4 (.t 13) (.t 79))] (.seq (sQ [o 80 (.load true 4 (.t 10)),o 81 (.call N.ax [.t 80,.k (.nils)])] (.blk 0 (.rng 146 (.t 81) [82] gF gf))) lf)))))
def jy:SF:=⟨146,[.cell false 1 8,.cell false 1 9],sQ [o 4 (.box (.t 0)),o 8 (.alloc [.bool false]),o 9 (.alloc [.int .i64 0])] mS⟩
def my:SC:=.seq (sQ [oM 31 4,oF 32 1 1,oL 33 32,oN 34 33,o 35 (.bin .lss (.t 31) (.t 34))] (.cond (.t 35) (.skip) (.exit 0))) (.seq (.blk 1 (sQ [oF 38 1 1,oL 39 38,oM 40 4,o 41 (.ixs 3 (.t 39) (.t 40)),o 42 (.load true 3 (.t 41)),o 5 (.alloc [.int .i64 0,.nils,.nils]),oz (.store 3 (.t 5) (.t 42))] (.seq (sQ [oF 43 0 5,oL 44 43,o 45 (.bin .lss (.t 44) (qI 1)),oM 46 45,og 47 46 false (.fad 0 (.t 5)),og 48 46 false (.load false 1 (.t 47)),og 49 46 false (.bin .gtr (.t 48) (qI 4)),o 50 (.pick (.t 46) (.k (.bool true)) (.t 49)),oM 51 50,og 52 51 false (.fad 1 (.t 5)),og 53 51 false (.load false 1 (.t 52)),og 54 51 false (.fad 1 (.t 1)),og 55 51 false (.load false 1 (.t 54)),og 56 51 false (.len .slice (.t 55)),og 57 51 false (.call N.aQ [.t 53,.t 56]),og 58 51 false (.not (.t 57)),o 59 (.pick (.t 51) (.k (.bool true)) (.t 58))] (.cond (.t 59) (sQ [o 2 (.mv (.k (.bool false)))] (.ret)) (.skip))) (.ops [oM 60 3,oF 61 0 5,oL 62 61,o 63 (.bin .mul (.t 60) (.t 62)),oM 3 63])))) (.ops [oM 36 4,oA 37 36,oM 4 37]))
def ii:SC:=.seq (sQ [oM 108 10,oF 109 2 7,oL 110 109,oM 111 8,oX 112 110 111,oL 113 112,oN 114 113,o 115 (.bin .lss (.t 108) (.t 114))] (.cond (.t 115) (.skip) (.exit 6))) (.seq (.blk 7 (.seq (.seq (.quiet [oF 118 2 7,oL 119 118,oM 120 8,oX 121 119 120,oL 122 121,oM 123 10,oX 124 122 123,oL 125 124,o 126 (.bin .lss (.t 125) (qI 0)),oM 127 126,og 128 127 false (.fad 2 (.t 7)),og 129 127 false (.load false 1 (.t 128)),og 130 127 false (.mv (.t 8)),og 131 127 false (.ixs 1 (.t 129) (.t 130)),og 132 127 false (.load false 1 (.t 131)),og 133 127 false (.mv (.t 10)),og 134 127 false (.ixs 1 (.t 132) (.t 133)),og 135 127 false (.load false 1 (.t 134)),og 136 127 false (.fad 0 (.t 1)),og 137 127 false (.load false 1 (.t 136)),og 138 127 false (.bin .gtr (.t 135) (.t 137)),o 139 (.pick (.t 127) (.k (.bool true)) (.t 138))]) (.cond (.t 139) (sQ [o 2 (.mv (.k (.bool false)))] (.ret)) (.skip))) (.ops [oM 140 9,oF 141 2 7,oL 142 141,oM 143 8,oX 144 142 143,oL 145 144,oM 146 10,oX 147 145 146,oL 148 147,o 149 (.bin .add (.t 140) (.t 148)),oM 9 149]))) (.ops [oM 116 10,oA 117 116,oM 10 117]))
def g9:SC:=sQ [oM 150 9,oF 151 0 1,oL 152 151,o 153 (.bin .neq (.t 150) (.t 152))] (.cond (.t 153) (sQ [o 2 (.mv (.k (.bool false)))] (.ret)) (.skip))
def mu:SC:=.ops [oM 97 8,oA 98 97,oM 8 98]
def ie:SC:=.seq (sQ [oM 92 8,oF 93 2 7,oL 94 93,oN 95 94,o 96 (.bin .lss (.t 92) (.t 95))] (.cond (.t 96) (.skip) (.exit 4))) (.seq (.blk 5 (.seq (.seq (.quiet [oF 99 2 7,oL 100 99,oM 101 8,oX 102 100 101,oL 103 102,oN 104 103,oF 105 0 7,oL 106 105,o 107 (.bin .neq (.t 104) (.t 106))]) (.cond (.t 107) (sQ [o 2 (.mv (.k (.bool false)))] (.ret)) (.skip))) (sQ [oK 9 0] (.seq (sQ [oK 10 0] (.blk 6 (.loop ii))) g9)))) mu)
def mG:SC:=.ops [oM 77 6,oA 78 77,oM 6 78]
def mf:SC:=.seq (sQ [oM 72 6,oF 73 1 1,oL 74 73,oN 75 74,o 76 (.bin .lss (.t 72) (.t 75))] (.cond (.t 76) (.skip) (.exit 2))) (.seq (.blk 3 (sQ [oF 79 1 1,oL 80 79,oM 81 6,o 82 (.ixs 3 (.t 80) (.t 81)),o 83 (.load true 3 (.t 82)),o 7 (.alloc [.int .i64 0,.nils,.nils]),oz (.store 3 (.t 7) (.t 83))] (.seq (.seq (.quiet [oF 84 2 7,oL 85 84,oN 86 85,o 87 (.load true 2 (.t 1)),oM 88 6,o 89 (.call N.aw [.t 87,.t 88]),o 90 (.call N.am [.t 89]),o 91 (.bin .neq (.t 86) (.t 90))]) (.cond (.t 91) (sQ [o 2 (.mv (.k (.bool false)))] (.ret)) (.skip))) (sQ [oK 8 0] (.blk 4 (.loop ie)))))) mG)
def ma:SC:=sQ [o 2 (.mv (.k (.bool true)))] (.ret)
def mD:SC:=.seq (sQ [oM 64 3,o 65 (.bin .gtr (.t 64) (qI 1024)),oM 66 65,og 67 66 false (.load true 2 (.t 1)),og 68 66 false (.call N.aL [.t 67]),og 69 66 false (.call N.aS [.t 68]),og 70 66 false (.not (.t 69)),o 71 (.pick (.t 66) (.k (.bool true)) (.t 70))] (.cond (.t 71) (sQ [o 2 (.mv (.k (.bool false)))] (.ret)) (.skip))) (.seq (sQ [oK 6 0] (.blk 2 (.loop mf))) ma)
def nB:SC:=.seq (sQ [oF 11 0 1,oL 12 11,o 13 (.bin .lss (.t 12) (qI 1)),oM 14 13,og 15 14 false (.fad 0 (.t 1)),og 16 14 false (.load false 1 (.t 15)),og 17 14 false (.bin .gtr (.t 16) (qI 60)),o 18 (.pick (.t 14) (.k (.bool true)) (.t 17)),oM 19 18,og 20 19 false (.fad 1 (.t 1)),og 21 19 false (.load false 1 (.t 20)),og 22 19 false (.len .slice (.t 21)),og 23 19 false (.bin .lss (.t 22) (qI 1)),o 24 (.pick (.t 19) (.k (.bool true)) (.t 23)),oM 25 24,og 26 25 false (.fad 1 (.t 1)),og 27 25 false (.load false 1 (.t 26)),og 28 25 false (.len .slice (.t 27)),og 29 25 false (.bin .gtr (.t 28) (qI 8)),o 30 (.pick (.t 25) (.k (.bool true)) (.t 29))] (.cond (.t 30) (sQ [o 2 (.mv (.k (.bool false)))] (.ret)) (.skip))) (sQ [oK 3 1] (.seq (sQ [oK 4 0] (.blk 0 (.loop my))) mD))
def l6:SF:=⟨154,[.tm 2],sQ [o 1 (.box (.t 0)),o 2 (.mv (.k (.bool false)))] nB⟩
def kM:SC:=.seq (sQ [oM 21 11,o 22 (.load true 2 (.t 4)),o 23 (.call N.aD [.t 22]),o 24 (.bin .lss (.t 21) (.t 23))] (.cond (.t 24) (.skip) (.exit 0))) (.seq (.blk 1 (sQ [oM 27 9,o 28 (.load true 2 (.t 4)),oM 29 11,o 30 (.call N.aB [.t 28,.t 29]),o 31 (.bsl 1 1 [.nils] [0] [.t 30]),o 32 (.app 1 24 (.t 27) (.t 31)),oM 9 32] (.ops [oM 33 10,o 34 (.load true 2 (.t 4)),oM 35 11,o 36 (.call N.aC [.t 34,.t 35]),o 37 (.bsl 1 1 [.int .i64 0] [0] [.t 36]),o 38 (.app 1 8 (.t 33) (.t 37)),oM 10 38]))) (.ops [oM 25 11,oA 26 25,oM 11 26]))
def ld:SC:=.ops [oM 66 16,oA 67 66,oM 16 67]
def gu:SC:=.seq (sQ [oM 64 16,o 65 (.bin .lss (.t 64) (qI 4))] (.cond (.t 65) (.skip) (.exit 6))) (.seq (.blk 7 (.seq (.quiet [oM 68 9,oM 69 15,oX 70 68 69,oL 71 70,oM 72 9,oM 73 12,oX 74 72 73,oL 75 74,oM 76 16,o 77 (.ixa 4 1 (.t 14) (.t 76)),oL 78 77,o 79 (.call N.aH [.t 71,.t 75,.t 78])]) (.cond (.t 79) (.feet [0,0,2,6,0,0,48,112,254,511,1023] [oM 80 16,oM 81 16,o 82 (.ixa 4 1 (.t 13) (.t 81)),oL 83 82,oM 84 10,oM 85 15,oX 86 84 85,oL 87 86,o 88 (.bin .add (.t 83) (.t 87)),o 89 (.ixa 4 1 (.t 13) (.t 80)),oz (.store 1 (.t 89) (.t 88))]) (.skip)))) ld)
def kK:SC:=.ops [oM 62 15,oA 63 62,oM 15 63]
def gJ:SC:=.seq (sQ [oM 58 15,oM 59 9,oN 60 59,o 61 (.bin .lss (.t 58) (.t 60))] (.cond (.t 61) (.skip) (.exit 4))) (.seq (.blk 5 (sQ [oK 16 0] (.blk 6 (.loop gu)))) kK)
def gx:SC:=sQ [o 91 (.ixa 4 1 (.t 13) (qI 0)),oL 92 91,o 93 (.conv .u64 (.t 92)),o 94 (.ixa 4 1 (.t 13) (qI 1)),oL 95 94,o 96 (.conv .u64 (.t 95)),o 97 (.call N.aa [.t 93,.t 96]),oM 90 97,o 98 (.ext (.t 90) 0),o 99 (.ext (.t 90) 1),oM 17 98,oM 18 99] (sQ [o 101 (.ixa 4 1 (.t 13) (qI 2)),oL 102 101,o 103 (.conv .u64 (.t 102)),o 104 (.ixa 4 1 (.t 13) (qI 3)),oL 105 104,o 106 (.conv .u64 (.t 105)),o 107 (.call N.aa [.t 103,.t 106]),oM 100 107,o 108 (.ext (.t 100) 0),o 109 (.ext (.t 100) 1),oM 19 108,oM 20 109] (sQ [oM 110 17,oM 111 19,o 112 (.bin .neq (.t 110) (.t 111)),oM 113 112,og 114 113 false (.mv (.t 18)),og 115 113 false (.mv (.t 20)),og 116 113 false (.bin .neq (.t 114) (.t 115)),o 117 (.pick (.t 113) (.k (.bool true)) (.t 116))] (.cond (.t 117) (sQ [o 8 (.mv (.k (.bool true)))] (.ret)) (.skip))))
def kX:SC:=.ops [oM 43 12,oA 44 43,oM 12 44]
def gw:SC:=.seq (sQ [oM 39 12,oM 40 9,oN 41 40,o 42 (.bin .lss (.t 39) (.t 41))] (.cond (.t 42) (.skip) (.exit 2))) (.seq (.blk 3 (sQ [o 13 (.alloc [.int .i64 0,.int .i64 0,.int .i64 0,.int .i64 0])] (sQ [oM 45 1,oM 46 2,o 47 (.bin .or (.t 45) (.t 46)),oM 48 3,o 49 (.bin .or (.t 47) (.t 48)),oM 50 3,oM 51 1,oM 52 3,o 53 (.bin .or (.t 51) (.t 52)),oM 54 2,oM 55 3,o 56 (.bin .or (.t 54) (.t 55)),o 57 (.build [.int .u64 0,.int .u64 0,.int .u64 0,.int .u64 0] [(0,1),(1,1),(2,1),(3,1)] [.t 49,.t 50,.t 53,.t 56]),o 14 (.alloc [.int .u64 0,.int .u64 0,.int .u64 0,.int .u64 0]),oz (.store 4 (.t 14) (.t 57))] (.seq (sQ [oK 15 0] (.blk 4 (.loop gJ))) gx)))) kX)
def kV:SC:=sQ [o 8 (.mv (.k (.bool false)))] (.ret)
def kJ:SC:=.seq (sQ [oK 12 0] (.blk 2 (.loop gw))) kV
def mO:SC:=sQ [o 9 (.mv (.k (.nils)))] (sQ [o 10 (.mv (.k (.nils)))] (.seq (sQ [oK 11 0] (.blk 0 (.loop kM))) kJ))
def jU:SF:=⟨118,[.tm 8],sQ [o 4 (.box (.t 0)),o 8 (.mv (.k (.bool false)))] mO⟩
def cA:SF:=⟨8,[.tm 2],sQ [o 2 (.mv (.k (.nils)))] (.seq (sQ [oM 3 0,o 4 (.eq false .slice (.t 3) (.k (.nils)))] (.cond (.t 4) (sQ [o 2 (.mv (.k (.nils)))] (.ret)) (.skip))) (sQ [o 5 (.bsl 1 0 [.int .i64 0] [] []),oM 6 0,o 7 (.app 1 8 (.t 5) (.t 6)),oM 2 7] (.ret)))⟩
def bQ:SC:=sQ [o 6 (.mv (.k (.nils)))] (sQ [oM 28 6,oM 29 3,oM 30 5,o 31 (.slc 1 (.t 29) [] [.t 30]),o 32 (.app 1 8 (.t 28) (.t 31)),oM 33 4,o 34 (.bsl 1 1 [.int .i64 0] [0] [.t 33]),o 35 (.app 1 8 (.t 32) (.t 34)),oM 6 35] (.ops [oM 36 6,oM 37 3,oM 38 5,o 39 (.slc 1 (.t 37) [.t 38] []),o 40 (.app 1 8 (.t 36) (.t 39)),oM 3 40]))
def i6:SC:=.ops [oM 12 4,oA 13 12,oM 4 13]
def iZ:SC:=.seq (sQ [oM 7 4,o 8 (.load true 3 (.t 1)),o 9 (.call N.aV [.t 8]),oN 10 9,o 11 (.bin .lss (.t 7) (.t 10))] (.cond (.t 11) (.skip) (.exit 0))) (.seq (.blk 1 (sQ [oK 5 0] (.seq (sQ [oM 14 4,oF 15 2 1,oL 16 15,oN 17 16,o 18 (.bin .lss (.t 14) (.t 17))] (.cond (.t 18) (.ops [oF 19 2 1,oL 20 19,oM 21 4,oX 22 20 21,oL 23 22,o 24 (.conv .i64 (.t 23)),oM 25 4,oA 26 25,o 27 (.bin .rem (.t 24) (.t 26)),oM 5 27]) (.skip))) bQ))) i6)
def dA:SC:=sQ [oM 41 3,oM 2 41] (.ret)
def dM:SC:=sQ [o 3 (.mv (.k (.nils)))] (.seq (sQ [oK 4 0] (.blk 0 (.loop iZ))) dA)
def cw:SF:=⟨42,[.tm 2],sQ [o 1 (.box (.t 0)),o 2 (.mv (.k (.nils)))] dM⟩
def s8:SC:=.seq (sQ [oM 5 4,oM 6 0,oN 7 6,o 8 (.bin .lss (.t 5) (.t 7))] (.cond (.t 8) (.skip) (.exit 0))) (.seq (.blk 1 (.ops [oM 11 3,oM 12 0,oM 13 4,oX 14 12 13,oL 15 14,o 16 (.bin .mul (.t 11) (.t 15)),oM 3 16])) (.ops [oM 9 4,oA 10 9,oM 4 10]))
def nI:SC:=sQ [oM 17 3,oM 2 17] (.ret)
def nq:SF:=⟨18,[.tm 2],sQ [oK 2 0] (sQ [oK 3 1] (.seq (sQ [oK 4 0] (.blk 0 (.loop s8))) nI))⟩
def gQ:SC:=.seq (.quiet [o 5 (.load true 2 (.t 2)),o 6 (.call N.ay [.t 5]),oF 7 1 2,oL 8 7,oM 9 1,o 10 (.ixs 3 (.t 8) (.t 9)),oF 11 1 10,oL 12 11,o 13 (.call N.aF [.t 6,.t 12]),oM 4 13]) (.ret)
def eP:SF:=⟨14,[.tm 4],sQ [o 2 (.box (.t 0)),o 4 (.mv (.k (.nils)))] gQ⟩
def o8:SC:=.ops [oM 39 10,oM 40 9,oM 41 11,oX 42 40 41,oL 43 42,o 44 (.bin .add (.t 39) (.t 43)),oM 10 44]
def o9:SC:=.ops [oM 20 11,oA 21 20,oM 11 21]
def j6:SC:=.seq (sQ [oM 17 11,oM 18 1,o 19 (.bin .lss (.t 17) (.t 18))] (.cond (.t 19) (.skip) (.exit 0))) (.seq (.blk 1 (.seq (sQ [oM 22 2,oN 23 22,o 24 (.bin .gtr (.t 23) (qI 0))] (.cond (.t 24) (.ops [oM 25 9,oM 26 11,oM 27 2,oM 28 3,oM 29 11,o 30 (.bin .add (.t 28) (.t 29)),oM 31 2,oN 32 31,o 33 (.bin .rem (.t 30) (.t 32)),oX 34 27 33,oL 35 34,o 36 (.bin .rem (.t 35) (.k (.int .u8 8))),o 37 (.conv .i64 (.t 36)),oX 38 25 26,oz (.store 1 (.t 38) (.t 37))]) (.skip))) o8)) o9)
def nV:SC:=.ops [oM 68 12,oM 69 9,oM 70 14,oX 71 69 70,oL 72 71,o 73 (.bin .sub (.t 68) (.t 72)),oM 12 73]
def pc:SC:=.ops [oM 49 14,oA 50 49,oM 14 50]
def kr:SC:=.seq (sQ [oM 46 14,oM 47 1,o 48 (.bin .lss (.t 46) (.t 47))] (.cond (.t 48) (.skip) (.exit 2))) (.seq (.blk 3 (.seq (sQ [oM 51 9,oM 52 14,oX 53 51 52,oL 54 53,o 55 (.bin .gtr (.t 54) (qI 0))] (.cond (.t 55) (sQ [oM 56 9,oM 57 14,oM 58 0,oM 59 9,oM 60 14,oX 61 59 60,oL 62 61,o 63 (.bin .mul (.t 58) (.t 62)),oM 64 10,o 65 (.bin .quo (.t 63) (.t 64)),oX 66 56 57,oz (.store 1 (.t 66) (.t 65))] (.ops [oM 67 14,oM 13 67])) (.skip))) nV)) pc)
def oO:SC:=sQ [oM 74 9,oM 75 13,oM 76 9,oM 77 13,oX 78 76 77,oL 79 78,oM 80 12,o 81 (.bin .add (.t 79) (.t 80)),oX 82 74 75,oz (.store 1 (.t 82) (.t 81))] (sQ [oM 83 9,oM 8 83] (.ret))
def ox:SC:=sQ [oM 45 0,oM 12 45,oK 13 0] (.seq (sQ [oK 14 0] (.blk 2 (.loop kr))) oO)
def n_:SF:=⟨84,[.tm 8],sQ [o 8 (.mv (.k (.nils)))] (sQ [oM 15 1,o 16 (.mks 1 8 [.int .i64 0] (.t 15) (.t 15)),oM 9 16] (sQ [oK 10 0] (.seq (sQ [oK 11 0] (.blk 0 (.loop j6))) ox)))⟩
def oQ:SC:=sQ [o 28 (.bin .lss (.t 27) (.t 26))] (.seq (.cond (.t 28) (.skip) (.exit 0)) (.seq (.blk 1 (sQ [oX 29 25 27,oL 30 29,oM 9 30] (sQ [o 31 (.load true 2 (.t 2)),oM 32 9,o 33 (.call N.aW [.t 31,.t 32]),oM 10 33] (sQ [oM 34 10,o 35 (.bin .neq (.t 34) (qI 0))] (.cond (.t 35) (sQ [o 36 (.build [.int .i64 0,.nils,.nils,.nils] [] []),oM 37 10,oz (.store 4 (.t 4) (.t 36)),oM 5 37] (.ret)) (.skip)))))) (.ops [oA 38 27,oM 27 38])))
def jX:SC:=.seq (sQ [oM 64 15,o 65 (.bin .geq (.t 64) (qI 0))] (.cond (.t 65) (.skip) (.exit 4))) (.seq (.blk 5 (.seq (.feet [0,1,0,7,15,0,32,0,224,480,0,2047,4095] [oF 68 3 11,oL 69 68,oM 70 12,oX 71 69 70,oL 72 71,oF 73 0 13,oL 74 73,oM 75 15,oX 76 74 75,oL 77 76,oM 78 14,oX 79 72 77,oz (.store 1 (.t 79) (.t 78))]) (.ops [oM 80 14,oF 81 1 13,oL 82 81,oM 83 15,oX 84 82 83,oL 85 84,o 86 (.bin .mul (.t 80) (.t 85)),oM 14 86]))) (.ops [oM 66 15,o 67 (.bin .sub (.t 66) (qI 1)),oM 15 67]))
def o7:SC:=.ops [oA 87 47,oM 47 87]
def jL:SC:=sQ [o 48 (.bin .lss (.t 47) (.t 46))] (.seq (.cond (.t 48) (.skip) (.exit 2)) (.seq (.blk 3 (sQ [oM 49 47,o 50 (.ixs 3 (.t 45) (.t 47)),o 51 (.load true 3 (.t 50)),o 13 (.alloc [.nils,.nils,.nils]),oM 12 49,oz (.store 3 (.t 13) (.t 51))] (.seq (.feet [0,1,0,0,8,24,56,127,255] [oF 52 3 11,oL 53 52,oM 54 12,oF 55 1 2,oL 56 55,oN 57 56,o 58 (.mks 1 8 [.int .i64 0] (.t 57) (.t 57)),oX 59 53 54,oz (.store 1 (.t 59) (.t 58))]) (sQ [oK 14 1] (sQ [oF 60 0 13,oL 61 60,oN 62 61,o 63 (.bin .sub (.t 62) (qI 1)),oM 15 63] (.blk 4 (.loop jX))))))) o7))
def oG:SC:=sQ [o 88 (.load true 4 (.t 11)),oz (.store 4 (.t 4) (.t 88)),oK 5 0] (.ret)
def oe:SC:=.seq (.feet [0,0,0,4,12,31,0,127] [o 39 (.load true 2 (.t 2)),oM 40 6,oM 41 6,oN 42 41,o 43 (.mks 1 24 [.nils] (.t 42) (.t 42)),o 44 (.build [.int .i64 0,.nils,.nils,.nils] [(0,2),(2,1),(3,1)] [.t 39,.t 40,.t 43]),o 11 (.alloc [.int .i64 0,.nils,.nils,.nils]),oz (.store 4 (.t 11) (.t 44))]) (.seq (sQ [oM 45 6,oN 46 45,oK 47 0] (.blk 2 (.loop jL))) oG)
def pI:SC:=sQ [o 17 (.load true 2 (.t 2)),o 18 (.call N.aM [.t 17]),oM 16 18,o 19 (.ext (.t 16) 0),o 20 (.ext (.t 16) 1),oM 6 19,oM 7 20] (.seq (sQ [oM 21 7,o 22 (.bin .neq (.t 21) (qI 0))] (.cond (.t 22) (sQ [o 23 (.build [.int .i64 0,.nils,.nils,.nils] [] []),oM 24 7,oz (.store 4 (.t 4) (.t 23)),oM 5 24] (.ret)) (.skip))) (.seq (sQ [oM 25 1,oN 26 25,oK 27 0] (.blk 0 (.loop oQ))) oe))
def oY:SF:=⟨89,[.cell true 4 4,.tm 5],sQ [o 2 (.box (.t 0)),o 4 (.alloc [.int .i64 0,.nils,.nils,.nils]),oK 5 0] pI⟩
def dG:SC:=sQ [o 5 (.mkf N.ae [] [.t 2,.t 3]),oM 4 5] (.ret)
def ct:SF:=⟨6,[.tm 4],sQ [o 2 (.box (.t 0)),o 3 (.box (.t 1)),o 4 (.mv (.k (.nilf)))] dG⟩
def dQ:SC:=.ops [oA 33 12,oM 12 33]
def dV:SC:=sQ [o 13 (.bin .lss (.t 12) (.t 11))] (.seq (.cond (.t 13) (.skip) (.exit 0)) (.seq (.blk 1 (sQ [oM 14 12,oX 15 10 12,oL 16 15,oM 8 14,oM 9 16] (sQ [oM 17 2,oM 18 8,o 19 (.bin .shr (.t 17) (.t 18)),o 20 (.bin .and (.t 19) (.k (.int .u64 1))),o 21 (.bin .eql (.t 20) (.k (.int .u64 1)))] (.cond (.t 21) (.ops [oM 22 7,oF 23 0 3,oF 24 1 23,oL 25 24,oM 26 8,o 27 (.ixs 3 (.t 25) (.t 26)),oF 28 0 27,oL 29 28,o 30 (.bin .mul (.t 22) (.t 29)),oM 31 9,o 32 (.bin .add (.t 30) (.t 31)),oM 7 32]) (.skip))))) dQ))
def dZ:SC:=sQ [oM 34 7,oM 6 34] (.ret)
def eJ:SC:=sQ [oK 7 0] (.seq (sQ [oM 10 1,oN 11 10,oK 12 0] (.blk 0 (.loop dV))) dZ)
def cS:SF:=⟨35,[.tm 6],sQ [o 3 (.box (.t 0)),oK 6 0] eJ⟩
def il:SF:=⟨51,[.tm 4,.tm 5],sQ [o 4 (.mv (.k (.int .u64 0))),o 5 (.mv (.k (.int .u64 0)))] (sQ [oM 14 0,o 15 (.bin .and (.t 14) (.k (.int .u64 4294967295))),oM 6 15] (sQ [oM 16 0,o 17 (.bin .shr (.t 16) (.k (.int .u64 32))),oM 7 17] (sQ [oM 18 1,o 19 (.bin .and (.t 18) (.k (.int .u64 4294967295))),oM 8 19] (sQ [oM 20 1,o 21 (.bin .shr (.t 20) (.k (.int .u64 32))),oM 9 21] (sQ [oM 22 6,oM 23 8,o 24 (.bin .mul (.t 22) (.t 23)),oM 10 24] (sQ [oM 25 7,oM 26 8,o 27 (.bin .mul (.t 25) (.t 26)),oM 28 10,o 29 (.bin .shr (.t 28) (.k (.int .u64 32))),o 30 (.bin .add (.t 27) (.t 29)),oM 11 30] (sQ [oM 31 11,o 32 (.bin .and (.t 31) (.k (.int .u64 4294967295))),oM 12 32] (sQ [oM 33 11,o 34 (.bin .shr (.t 33) (.k (.int .u64 32))),oM 13 34] (sQ [oM 35 12,oM 36 6,oM 37 9,o 38 (.bin .mul (.t 36) (.t 37)),o 39 (.bin .add (.t 35) (.t 38)),oM 12 39] (sQ [oM 40 7,oM 41 9,o 42 (.bin .mul (.t 40) (.t 41)),oM 43 13,o 44 (.bin .add (.t 42) (.t 43)),oM 45 12,o 46 (.bin .shr (.t 45) (.k (.int .u64 32))),o 47 (.bin .add (.t 44) (.t 46)),oM 4 47] (sQ [oM 48 0,oM 49 1,o 50 (.bin .mul (.t 48) (.t 49)),oM 5 50] (.ret))))))))))))⟩
def q9:SC:=.seq (sQ [oM 6 5,oM 7 0,oN 8 7,o 9 (.bin .lss (.t 6) (.t 8))] (.cond (.t 9) (.skip) (.exit 0))) (.seq (.blk 1 (.seq (.quiet [oM 12 0,oM 13 5,oX 14 12 13,oL 15 14,o 16 (.bin .lss (.t 15) (qI 0)),oM 17 16,og 18 17 false (.mv (.t 0)),og 19 17 false (.mv (.t 5)),og 20 17 false (.ixs 1 (.t 18) (.t 19)),og 21 17 false (.load false 1 (.t 20)),og 22 17 false (.mv (.t 1)),og 23 17 false (.bin .geq (.t 21) (.t 22)),o 24 (.pick (.t 17) (.k (.bool true)) (.t 23)),oM 25 24,og 26 25 false (.mv (.t 5)),og 27 25 false (.bin .gtr (.t 26) (qI 0)),og 28 25 false (.mv (.t 27)),og 29 28 true (.mv (.t 0)),og 30 28 true (.mv (.t 5)),og 31 28 true (.ixs 1 (.t 29) (.t 30)),og 32 28 true (.load false 1 (.t 31)),og 33 28 true (.mv (.t 0)),og 34 28 true (.mv (.t 5)),og 35 28 true (.bin .sub (.t 34) (qI 1)),og 36 28 true (.ixs 1 (.t 33) (.t 35)),og 37 28 true (.load false 1 (.t 36)),og 38 28 true (.bin .leq (.t 32) (.t 37)),og 39 25 false (.pick (.t 28) (.t 38) (.k (.bool false))),o 40 (.pick (.t 25) (.k (.bool true)) (.t 39))]) (.cond (.t 40) (sQ [o 4 (.mv (.k (.bool false)))] (.ret)) (.skip)))) (.ops [oM 10 5,oA 11 10,oM 5 11]))
def lj:SC:=sQ [o 4 (.mv (.k (.bool true)))] (.ret)
def jN:SF:=⟨41,[.tm 4],sQ [o 4 (.mv (.k (.bool false)))] (.seq (sQ [oK 5 0] (.blk 0 (.loop q9))) lj)⟩
def qf:SC:=.seq (sQ [oM 4 3,oM 5 0,oN 6 5,o 7 (.bin .lss (.t 4) (.t 6))] (.cond (.t 7) (.skip) (.exit 0))) (.seq (.blk 1 (sQ [oM 10 0,oM 11 0,oM 12 3,oX 13 11 12,oL 14 13,o 15 (.call N.aY [.t 10,.t 14]),oM 16 3,o 17 (.call N.ah [.t 15,.t 16])] (.cond (.t 17) (sQ [o 2 (.mv (.k (.bool false)))] (.ret)) (.skip)))) (.ops [oM 8 3,oA 9 8,oM 3 9]))
def jF:SC:=sQ [o 2 (.mv (.k (.bool true)))] (.ret)
def iU:SF:=⟨18,[.tm 2],sQ [o 2 (.mv (.k (.bool false)))] (.seq (sQ [oK 3 0] (.blk 0 (.loop qf))) jF)⟩
def nK:SC:=.seq (sQ [oM 14 6,oF 15 1 1,oL 16 15,oM 17 4,o 18 (.ixs 3 (.t 16) (.t 17)),oF 19 1 18,oL 20 19,oN 21 20,o 22 (.bin .lss (.t 14) (.t 21))] (.cond (.t 22) (.skip) (.exit 2))) (.seq (.blk 3 (.ops [oM 25 5,oF 26 1 1,oL 27 26,oM 28 4,o 29 (.ixs 3 (.t 27) (.t 28)),oF 30 1 29,oL 31 30,oM 32 6,oX 33 31 32,oL 34 33,o 35 (.conv .u64 (.t 34)),o 36 (.bin .shl (.k (.int .u64 1)) (.t 35)),o 37 (.bin .or (.t 25) (.t 36)),oM 5 37])) (.ops [oM 23 6,oA 24 23,oM 6 24]))
def gP:SC:=.ops [oM 38 3,oM 39 5,o 40 (.bsl 1 1 [.int .u64 0] [0] [.t 39]),o 41 (.app 1 8 (.t 38) (.t 40)),oM 3 41]
def nL:SC:=.ops [oM 12 4,oA 13 12,oM 4 13]
def nP:SC:=.seq (sQ [oM 7 4,oF 8 1 1,oL 9 8,oN 10 9,o 11 (.bin .lss (.t 7) (.t 10))] (.cond (.t 11) (.skip) (.exit 0))) (.seq (.blk 1 (sQ [o 5 (.mv (.k (.int .u64 0)))] (.seq (sQ [oK 6 0] (.blk 2 (.loop nK))) gP))) nL)
def gR:SC:=sQ [oM 42 3,oM 2 42] (.ret)
def iF:SC:=sQ [o 3 (.mv (.k (.nils)))] (.seq (sQ [oK 4 0] (.blk 0 (.loop nP))) gR)
def fC:SF:=⟨43,[.tm 2],sQ [o 1 (.box (.t 0)),o 2 (.mv (.k (.nils)))] iF⟩
def mi:SC:=sQ [o 3 (.load true 2 (.t 1)),o 4 (.call N.ay [.t 3]),o 5 (.call N.am [.t 4]),oM 2 5] (.ret)
def jW:SF:=⟨6,[.tm 2],sQ [o 1 (.box (.t 0)),oK 2 0] mi⟩
def mz:SC:=sQ [o 5 (.load true 2 (.t 2)),o 6 (.call N.ay [.t 5]),oM 7 1,o 8 (.call N.aT [.t 6,.t 7]),oM 4 8] (.ret)
def jO:SF:=⟨9,[.tm 4],sQ [o 2 (.box (.t 0)),o 4 (.mv (.k (.nils)))] mz⟩
def kG:SC:=.seq (sQ [oM 11 7,oF 12 1 2,oL 13 12,oN 14 13,o 15 (.bin .lss (.t 11) (.t 14))] (.cond (.t 15) (.skip) (.exit 0))) (.seq (.blk 1 (.quiet [oM 18 6,o 19 (.load true 2 (.t 2)),oM 20 7,oM 21 5,o 22 (.call N.a7 [.t 19,.t 20,.t 21]),oM 23 5,oM 24 7,oX 25 23 24,oL 26 25,oX 27 22 26,oL 28 27,o 29 (.bin .mul (.t 18) (.t 28)),oM 6 29])) (.ops [oM 16 7,oA 17 16,oM 7 17]))
def kY:SC:=sQ [oM 30 6,oM 4 30] (.ret)
def mB:SC:=sQ [o 8 (.load true 2 (.t 2)),oM 9 1,o 10 (.call N.aB [.t 8,.t 9]),oM 5 10] (sQ [oK 6 1] (.seq (sQ [oK 7 0] (.blk 0 (.loop kG))) kY))
def jI:SF:=⟨31,[.tm 4],sQ [o 2 (.box (.t 0)),oK 4 0] mB⟩
def rU:SC:=.seq (sQ [oM 8 7,oM 9 0,oN 10 9,o 11 (.bin .lss (.t 8) (.t 10))] (.cond (.t 11) (.skip) (.exit 0))) (.seq (.blk 1 (.seq (.quiet [oM 14 2,oM 15 7,o 16 (.call N.ah [.t 14,.t 15]),oM 17 16,og 18 17 true (.mv (.t 0)),og 19 17 true (.mv (.t 7)),og 20 17 true (.ixs 1 (.t 18) (.t 19)),og 21 17 true (.load false 1 (.t 20)),og 22 17 true (.mv (.t 1)),og 23 17 true (.mv (.t 7)),og 24 17 true (.ixs 1 (.t 22) (.t 23)),og 25 17 true (.load false 1 (.t 24)),og 26 17 true (.bin .neq (.t 21) (.t 25)),o 27 (.pick (.t 17) (.t 26) (.k (.bool false)))]) (.cond (.t 27) (sQ [o 6 (.mv (.k (.bool false)))] (.ret)) (.skip)))) (.ops [oM 12 7,oA 13 12,oM 7 13]))
def mg:SC:=sQ [o 6 (.mv (.k (.bool true)))] (.ret)
def lO:SF:=⟨28,[.tm 6],sQ [o 6 (.mv (.k (.bool false)))] (.seq (sQ [oK 7 0] (.blk 0 (.loop rU))) mg)⟩
def jv:SC:=sQ [o 11 (.bin .lss (.t 10) (.t 9))] (.seq (.cond (.t 11) (.skip) (.exit 0)) (.seq (.blk 1 (sQ [oM 12 10,oX 13 8 10,oL 14 13,oM 6 12,oM 7 14] (sQ [oM 15 7] (.blk 2 (.seq (sQ [o 17 (.bin .eql (.t 15) (qI (-1))),oM 16 17] (.cond (.t 16) (.skip) (.ops [oM 18 0,oM 19 6,oX 20 18 19,oL 21 20,o 22 (.bin .eql (.t 15) (.t 21)),oM 16 22]))) (.cond (.t 16) (.skip) (sQ [o 5 (.mv (.k (.bool false)))] (.exit 0)))))))) (.ops [oA 23 10,oM 10 23])))
def fm:SC:=sQ [oM 24 5,oM 4 24] (.ret)
def iX:SF:=⟨25,[.tm 4],sQ [o 4 (.mv (.k (.bool false)))] (sQ [o 5 (.mv (.k (.bool true)))] (.seq (.skip) (.seq (sQ [oM 8 1,oN 9 8,oK 10 0] (.blk 0 (.loop jv))) fm)))⟩
def l_:SC:=sQ [o 51 (.bin .lss (.t 50) (.t 49))] (.seq (.cond (.t 51) (.skip) (.exit 0)) (.seq (.blk 1 (sQ [oM 52 50,o 53 (.ixs 3 (.t 48) (.t 50)),o 54 (.load true 3 (.t 53)),o 7 (.alloc [.int .i64 0,.nils,.nils]),oM 6 52,oz (.store 3 (.t 7) (.t 54))] (.seq (sQ [oF 55 0 7,oL 56 55,o 57 (.bin .lss (.t 56) (qI 1)),oM 58 57,og 59 58 false (.fad 0 (.t 7)),og 60 58 false (.load false 1 (.t 59)),og 61 58 false (.bin .gtr (.t 60) (qI 4)),o 62 (.pick (.t 58) (.k (.bool true)) (.t 61))] (.cond (.t 62) (sQ [o 63 (.build [.int .i64 0,.nils,.nils,.nils,.nils] [] []),oz (.store 5 (.t 2) (.t 63)),oK 3 50] (.ret)) (.skip))) (sQ [oF 64 2 4,oL 65 64,oM 66 6,oF 67 0 7,oL 68 67,oX 69 65 66,oz (.store 1 (.t 69) (.t 68))] (.ops [oM 70 5,oF 71 0 7,oL 72 71,o 73 (.bin .mul (.t 70) (.t 72)),oM 5 73]))))) (.ops [oA 74 50,oM 50 74])))
def lQ:SC:=sQ [o 91 (.bin .lss (.t 90) (.t 89))] (.seq (.cond (.t 91) (.skip) (.exit 4)) (.seq (.blk 5 (sQ [oX 92 88 90,oL 93 92,oM 12 93] (.seq (sQ [oM 94 12,oM 95 10,o 96 (.bin .leq (.t 94) (.t 95)),oM 97 96,og 98 97 false (.mv (.t 12)),og 99 97 false (.fad 0 (.t 4)),og 100 97 false (.fad 1 (.t 99)),og 101 97 false (.load false 1 (.t 100)),og 102 97 false (.len .slice (.t 101)),og 103 97 false (.bin .geq (.t 98) (.t 102)),o 104 (.pick (.t 97) (.k (.bool true)) (.t 103)),oM 105 104,og 106 105 false (.mv (.t 12)),og 107 105 false (.mv (.t 8)),og 108 105 false (.bin .eql (.t 106) (.t 107)),o 109 (.pick (.t 105) (.k (.bool true)) (.t 108))] (.cond (.t 109) (sQ [o 110 (.build [.int .i64 0,.nils,.nils,.nils,.nils] [] []),oz (.store 5 (.t 2) (.t 110)),oK 3 50] (.ret)) (.skip))) (sQ [oM 111 12,oM 10 111] (.feet [0,1,0,7,15,0,32,127,255,511] [oF 112 3 4,oL 113 112,oM 114 8,oX 115 113 114,oL 116 115,oM 117 12,o 118 (.bin .shl (.k (.int .u64 1)) (.t 117)),o 119 (.bin .or (.t 116) (.t 118)),oX 120 113 114,oz (.store 1 (.t 120) (.t 119))]))))) (.ops [oA 121 90,oM 90 121])))
def lR:SC:=sQ [o 122 (.load true 5 (.t 4)),o 123 (.load true 3 (.t 9)),o 124 (.call N.aK [.t 122,.t 123]),o 125 (.not (.t 124))] (.cond (.t 125) (sQ [o 126 (.build [.int .i64 0,.nils,.nils,.nils,.nils] [] []),oz (.store 5 (.t 2) (.t 126)),oK 3 50] (.ret)) (.skip))
def pO:SC:=.ops [oA 127 82,oM 82 127]
def lF:SC:=sQ [o 83 (.bin .lss (.t 82) (.t 81))] (.seq (.cond (.t 83) (.skip) (.exit 2)) (.seq (.blk 3 (sQ [oM 84 82,o 85 (.ixs 3 (.t 80) (.t 82)),o 86 (.load true 3 (.t 85)),o 9 (.alloc [.int .i64 0,.nils,.nils]),oM 8 84,oz (.store 3 (.t 9) (.t 86))] (sQ [oK 10 (-1)] (.seq (sQ [oF 87 1 9,oL 88 87,oN 89 88,oK 90 0] (.blk 4 (.loop lQ))) lR)))) pO))
def lK:SC:=sQ [oF 129 3 4,oL 130 129,o 131 (.call N.a_ [.t 130]),oM 128 131,o 132 (.ext (.t 128) 0),o 133 (.ext (.t 128) 1),oM 13 132,oM 14 133] (.seq (sQ [oM 134 14,o 135 (.not (.t 134))] (.cond (.t 135) (sQ [o 136 (.build [.int .i64 0,.nils,.nils,.nils,.nils] [] []),oz (.store 5 (.t 2) (.t 136)),oK 3 50] (.ret)) (.skip))) (sQ [oM 137 13,oF 138 4 4,oz (.store 1 (.t 138) (.t 137))] (sQ [o 139 (.load true 5 (.t 4)),oz (.store 5 (.t 2) (.t 139)),oK 3 0] (.ret))))
def pL:SC:=.seq (sQ [oM 75 5,o 76 (.bin .gtr (.t 75) (qI 1024))] (.cond (.t 76) (sQ [o 77 (.build [.int .i64 0,.nils,.nils,.nils,.nils] [] []),oz (.store 5 (.t 2) (.t 77)),oK 3 50] (.ret)) (.skip))) (.seq (sQ [oF 78 0 4,oF 79 1 78,oL 80 79,oN 81 80,oK 82 0] (.blk 2 (.loop lF))) lK)
def q_:SC:=.seq (sQ [oF 15 0 1,oL 16 15,o 17 (.bin .lss (.t 16) (qI 1)),oM 18 17,og 19 18 false (.fad 0 (.t 1)),og 20 18 false (.load false 1 (.t 19)),og 21 18 false (.bin .gtr (.t 20) (qI 60)),o 22 (.pick (.t 18) (.k (.bool true)) (.t 21)),oM 23 22,og 24 23 false (.fad 1 (.t 1)),og 25 23 false (.load false 1 (.t 24)),og 26 23 false (.len .slice (.t 25)),og 27 23 false (.bin .lss (.t 26) (qI 1)),o 28 (.pick (.t 23) (.k (.bool true)) (.t 27)),oM 29 28,og 30 29 false (.fad 1 (.t 1)),og 31 29 false (.load false 1 (.t 30)),og 32 29 false (.len .slice (.t 31)),og 33 29 false (.bin .gtr (.t 32) (qI 8)),o 34 (.pick (.t 29) (.k (.bool true)) (.t 33))] (.cond (.t 34) (sQ [o 35 (.build [.int .i64 0,.nils,.nils,.nils,.nils] [] []),oz (.store 5 (.t 2) (.t 35)),oK 3 50] (.ret)) (.skip))) (.seq (.feet [0,0,2,6,14,0,32,96,224,511,0,2047] [o 36 (.load true 2 (.t 1)),oF 37 1 1,oL 38 37,oN 39 38,o 40 (.mks 1 8 [.int .i64 0] (.t 39) (.t 39)),oF 41 1 1,oL 42 41,oN 43 42,o 44 (.mks 1 8 [.int .u64 0] (.t 43) (.t 43)),o 45 (.build [.int .i64 0,.nils,.nils,.nils,.nils] [(0,2),(2,1),(3,1)] [.t 36,.t 40,.t 44]),o 4 (.alloc [.int .i64 0,.nils,.nils,.nils,.nils]),oz (.store 5 (.t 4) (.t 45))]) (sQ [oK 5 1] (.seq (sQ [oF 46 0 4,oF 47 1 46,oL 48 47,oN 49 48,oK 50 0] (.blk 0 (.loop l_))) pL)))
def jC:SF:=⟨140,[.cell true 5 2,.tm 3],sQ [o 1 (.box (.t 0)),o 2 (.alloc [.int .i64 0,.nils,.nils,.nils,.nils]),oK 3 0] q_⟩
def m8:SC:=.seq (sQ [oM 5 4,oF 6 0 1,oL 7 6,oN 8 7,o 9 (.bin .lss (.t 5) (.t 8)),oM 10 9,og 11 10 true (.mv (.t 4)),og 12 10 true (.bin .lss (.t 11) (qI 5)),o 13 (.pick (.t 10) (.t 12) (.k (.bool false)))] (.cond (.t 13) (.skip) (.exit 0))) (.seq (.blk 1 (.ops [oM 16 3,oF 17 0 1,oL 18 17,oM 19 4,oX 20 18 19,oL 21 20,o 22 (.bin .rem (.t 21) (.k (.int .u8 4))),o 23 (.conv .i64 (.t 22)),o 24 (.bin .add (qI 1) (.t 23)),o 25 (.bsl 1 1 [.int .i64 0] [0] [.t 24]),o 26 (.app 1 8 (.t 16) (.t 25)),oM 3 26])) (.ops [oM 14 4,oA 15 14,oM 4 15]))
def ge:SC:=sQ [oM 27 3,oM 2 27] (.ret)
def gX:SC:=sQ [o 3 (.mv (.k (.nils)))] (.seq (sQ [oK 4 0] (.blk 0 (.loop m8))) ge)
def eM:SF:=⟨28,[.tm 2],sQ [o 1 (.box (.t 0)),o 2 (.mv (.k (.nils)))] gX⟩
def vG:SC:=.seq (sQ [oM 7 6,oM 8 1,oN 9 8,o 10 (.bin .lss (.t 7) (.t 9))] (.cond (.t 10) (.skip) (.exit 0))) (.seq (.blk 1 (.ops [oM 13 5,oM 14 0,oM 15 1,oM 16 6,oX 17 15 16,oL 18 17,oX 19 14 18,oL 20 19,o 21 (.bsl 1 1 [.int .i64 0] [0] [.t 20]),o 22 (.app 1 8 (.t 13) (.t 21)),oM 5 22])) (.ops [oM 11 6,oA 12 11,oM 6 12]))
def pU:SC:=sQ [oM 23 5,oM 4 23] (.ret)
def qp:SF:=⟨24,[.tm 4],sQ [o 4 (.mv (.k (.nils)))] (sQ [o 5 (.mv (.k (.nils)))] (.seq (sQ [oK 6 0] (.blk 0 (.loop vG))) pU))⟩
def mC:SC:=.seq (sQ [oM 5 4,oF 6 1 1,oL 7 6,oN 8 7,o 9 (.bin .lss (.t 5) (.t 8))] (.cond (.t 9) (.skip) (.exit 0))) (.seq (.blk 1 (.ops [oM 12 3,oF 13 1 1,oL 14 13,oM 15 4,o 16 (.ixs 3 (.t 14) (.t 15)),oF 17 0 16,oL 18 17,o 19 (.bsl 1 1 [.int .i64 0] [0] [.t 18]),o 20 (.app 1 8 (.t 12) (.t 19)),oM 3 20])) (.ops [oM 10 4,oA 11 10,oM 4 11]))
def mH:SC:=sQ [oM 21 3,oM 2 21] (.ret)
def nD:SC:=sQ [o 3 (.mv (.k (.nils)))] (.seq (sQ [oK 4 0] (.blk 0 (.loop mC))) mH)
def lT:SF:=⟨22,[.tm 2],sQ [o 1 (.box (.t 0)),o 2 (.mv (.k (.nils)))] nD⟩
def mP:SC:=sQ [o 24 (.bin .lss (.t 23) (.t 22))] (.seq (.cond (.t 24) (.skip) (.exit 0)) (.seq (.blk 1 (sQ [oM 25 23,oM 7 25] (.ops [oM 26 6,oM 27 7,o 28 (.load true 5 (.t 4)),oM 29 7,o 30 (.call N.aR [.t 28,.t 29]),o 31 (.ixs 3 (.t 26) (.t 27)),oz (.store 3 (.t 31) (.t 30))]))) (.ops [oA 32 23,oM 23 32])))
def mM:SC:=sQ [oM 33 6,oM 2 33,oK 3 0] (.ret)
def nE:SC:=sQ [o 9 (.load true 2 (.t 1)),o 10 (.call N.aG [.t 9]),oM 8 10,o 11 (.ext (.t 8) 0),o 12 (.ext (.t 8) 1),o 4 (.alloc [.int .i64 0,.nils,.nils,.nils,.nils]),oz (.store 5 (.t 4) (.t 11)),oM 5 12] (.seq (sQ [oM 13 5,o 14 (.bin .neq (.t 13) (qI 0))] (.cond (.t 14) (sQ [oM 15 5,o 2 (.mv (.k (.nils))),oM 3 15] (.ret)) (.skip))) (sQ [oF 16 0 4,oF 17 1 16,oL 18 17,oN 19 18,o 20 (.mks 3 72 [.nils,.nils,.nils] (.t 19) (.t 19)),oM 6 20] (.seq (sQ [oM 21 6,oN 22 21,oK 23 0] (.blk 0 (.loop mP))) mM)))
def lZ:SF:=⟨34,[.tm 2,.tm 3],sQ [o 1 (.box (.t 0)),o 2 (.mv (.k (.nils))),oK 3 0] nE⟩
def gn:SC:=sQ [o 27 (.bin .lss (.t 26) (.t 25))] (.seq (.cond (.t 27) (.skip) (.exit 0)) (.seq (.blk 1 (sQ [oM 28 26,oX 29 24 26,oL 30 29,oM 7 28,oM 8 30] (sQ [oM 31 8,o 32 (.bin .lss (.t 31) (qI (-1))),oM 33 32,og 34 33 false (.mv (.t 8)),og 35 33 false (.fad 2 (.t 5)),og 36 33 false (.load false 1 (.t 35)),og 37 33 false (.mv (.t 7)),og 38 33 false (.ixs 1 (.t 36) (.t 37)),og 39 33 false (.load false 1 (.t 38)),og 40 33 false (.bin .geq (.t 34) (.t 39)),o 41 (.pick (.t 33) (.k (.bool true)) (.t 40))] (.cond (.t 41) (sQ [oK 4 2] (.ret)) (.skip))))) (.ops [oA 42 26,oM 26 42])))
def gz:SC:=sQ [oK 4 0] (.ret)
def gW:SC:=sQ [o 10 (.load true 2 (.t 2)),o 11 (.call N.aG [.t 10]),oM 9 11,o 12 (.ext (.t 9) 0),o 13 (.ext (.t 9) 1),o 5 (.alloc [.int .i64 0,.nils,.nils,.nils,.nils]),oz (.store 5 (.t 5) (.t 12)),oM 6 13] (.seq (sQ [oM 14 6,o 15 (.bin .neq (.t 14) (qI 0))] (.cond (.t 15) (sQ [oM 16 6,oM 4 16] (.ret)) (.skip))) (.seq (sQ [oM 17 1,oN 18 17,oF 19 0 5,oF 20 1 19,oL 21 20,oN 22 21,o 23 (.bin .neq (.t 18) (.t 22))] (.cond (.t 23) (sQ [oK 4 2] (.ret)) (.skip))) (.seq (sQ [oM 24 1,oN 25 24,oK 26 0] (.blk 0 (.loop gn))) gz)))
def eQ:SF:=⟨43,[.tm 4],sQ [o 2 (.box (.t 0)),oK 4 0] gW⟩
def bg:SC:=.seq (.seq (.quiet [oM 31 6,o 32 (.bin .geq (.t 31) (qI 0)),oM 33 32,og 34 33 true (.mv (.t 4)),og 35 33 true (.mv (.t 6)),og 36 33 true (.ixs 1 (.t 34) (.t 35)),og 37 33 true (.load false 1 (.t 36)),og 38 33 true (.fad 0 (.t 1)),og 39 33 true (.fad 1 (.t 38)),og 40 33 true (.load false 1 (.t 39)),og 41 33 true (.mv (.t 6)),og 42 33 true (.ixs 3 (.t 40) (.t 41)),og 43 33 true (.fad 0 (.t 42)),og 44 33 true (.load false 1 (.t 43)),og 45 33 true (.bin .sub (.t 44) (qI 1)),og 46 33 true (.bin .eql (.t 37) (.t 45)),o 47 (.pick (.t 33) (.t 46) (.k (.bool false)))]) (.cond (.t 47) (.skip) (.exit 2))) (.blk 3 (sQ [oM 48 4,oM 49 6,oX 50 48 49,oz (.store 1 (.t 50) (qI 0))] (.ops [oM 51 6,o 52 (.bin .sub (.t 51) (qI 1)),oM 6 52])))
def be:SC:=.seq (sQ [oM 53 6,o 54 (.bin .lss (.t 53) (qI 0))] (.cond (.t 54) (.ret) (.skip))) (.ops [oM 55 4,oM 56 6,oX 57 55 56,oL 58 57,oA 59 58,oX 60 55 56,oz (.store 1 (.t 60) (.t 59))])
def bC:SC:=.ops [oM 12 5,oA 13 12,oM 5 13]
def cT:SC:=.seq (.blk 1 (.seq (sQ [oM 14 4,oL 15 2,o 16 (.call N.aP [.t 14,.t 15]),oM 17 16,og 18 17 true (.mv (.t 0)),og 19 17 true (.mv (.t 5)),og 20 17 true (.load true 4 (.t 1)),og 21 17 true (.mv (.t 4)),og 22 17 true (.call N.aX [.t 20,.t 21]),og 23 17 true (.mv (.t 4)),og 24 17 true (.build [.int .i64 0,.int .i64 0,.nils] [(0,1),(1,1),(2,1)] [.t 19,.t 22,.t 23]),og 25 17 true (.dyn (.t 18) [.t 24]),og 26 17 true (.not (.t 25)),o 27 (.pick (.t 17) (.t 26) (.k (.bool false)))] (.cond (.t 27) (.ret) (.skip))) (sQ [oM 28 4,oN 29 28,o 30 (.bin .sub (.t 29) (qI 1)),oM 6 30] (.seq (.blk 2 (.loop bg)) be)))) bC
def aC:SF:=⟨61,[],sQ [oF 7 0 1,oF 8 1 7,oL 9 8,oN 10 9,o 11 (.mks 1 8 [.int .i64 0] (.t 10) (.t 10)),oM 4 11] (sQ [oK 5 0] (.blk 0 (.loop cT)))⟩
def cg:SC:=sQ [o 23 (.bin .lss (.t 22) (.t 21))] (.seq (.cond (.t 23) (.skip) (.exit 2)) (.seq (.blk 3 (sQ [oX 24 20 22,oL 25 24,oM 10 25] (.quiet [oM 26 8,oM 27 1,oM 28 10,oX 29 27 28,oL 30 29,oF 31 3 2,oL 32 31,oM 33 6,oX 34 32 33,oL 35 34,oM 36 10,oX 37 35 36,oL 38 37,o 39 (.bin .mul (.t 30) (.t 38)),o 40 (.bin .add (.t 26) (.t 39)),oM 8 40]))) (.ops [oA 41 22,oM 22 41])))
def eh:SC:=.ops [oM 42 5,oF 43 2 7,oL 44 43,oM 45 8,oX 46 44 45,oL 47 46,o 48 (.bin .mul (.t 42) (.t 47)),oM 5 48]
def dX:SC:=.ops [oA 49 14,oM 14 49]
def d6:SC:=sQ [o 15 (.bin .lss (.t 14) (.t 13))] (.seq (.cond (.t 15) (.skip) (.exit 0)) (.seq (.blk 1 (sQ [oM 16 14,o 17 (.ixs 3 (.t 12) (.t 14)),o 18 (.load true 3 (.t 17)),o 7 (.alloc [.nils,.nils,.nils]),oM 6 16,oz (.store 3 (.t 7) (.t 18))] (sQ [oK 8 0] (.seq (sQ [oF 19 0 7,oL 20 19,oN 21 20,oK 22 0] (.blk 2 (.loop cg))) eh)))) dX))
def ew:SC:=sQ [oM 50 5,oM 4 50] (.ret)
def eK:SC:=sQ [oK 5 1] (.seq (sQ [oF 11 2 2,oL 12 11,oN 13 12,oK 14 0] (.blk 0 (.loop d6))) ew)
def cY:SF:=⟨51,[.tm 4],sQ [o 2 (.box (.t 0)),oK 4 0] eK⟩
def qv:SF:=⟨11,[.tm 4],sQ [o 4 (.mv (.k (.bool false)))] (sQ [oM 5 0,oM 6 1,o 7 (.conv .u64 (.t 6)),o 8 (.bin .shr (.t 5) (.t 7)),o 9 (.bin .and (.t 8) (.k (.int .u64 1))),o 10 (.bin .eql (.t 9) (.k (.int .u64 1))),oM 4 10] (.ret))⟩
def vN:SC:=.ops [oM 17 6,oA 18 17,oM 6 18]
def vO:SC:=.seq (sQ [oM 13 6,oM 14 0,oN 15 14,o 16 (.bin .lss (.t 13) (.t 15))] (.cond (.t 16) (.skip) (.exit 2))) (.seq (.blk 3 (sQ [oM 19 1,oM 20 6,o 21 (.call N.ah [.t 19,.t 20])] (.cond (.t 21) (.ops [oM 22 1,oM 23 0,oM 24 6,oX 25 23 24,oL 26 25,o 27 (.bin .or (.t 22) (.t 26)),oM 1 27]) (.skip)))) vN)
def vy:SC:=.ops [oM 11 5,oA 12 11,oM 5 12]
def v_:SC:=.seq (sQ [oM 7 5,oM 8 0,oN 9 8,o 10 (.bin .lss (.t 7) (.t 9))] (.cond (.t 10) (.skip) (.exit 0))) (.seq (.blk 1 (sQ [oK 6 0] (.blk 2 (.loop vO)))) vy)
def pS:SC:=sQ [oM 28 1,oM 4 28] (.ret)
def pZ:SF:=⟨29,[.tm 4],sQ [o 4 (.mv (.k (.int .u64 0)))] (.seq (sQ [oK 5 0] (.blk 0 (.loop v_))) pS)⟩
def qX:SC:=.seq (sQ [oM 13 6,o 14 (.bin .geq (.t 13) (qI 0))] (.cond (.t 14) (.skip) (.exit 0))) (.seq (.blk 1 (sQ [oM 17 5,oM 18 6,oM 19 1,oM 20 0,oM 21 6,oX 22 20 21,oL 23 22,o 24 (.bin .rem (.t 19) (.t 23)),oX 25 17 18,oz (.store 1 (.t 25) (.t 24))] (.ops [oM 26 1,oM 27 0,oM 28 6,oX 29 27 28,oL 30 29,o 31 (.bin .quo (.t 26) (.t 30)),oM 1 31]))) (.ops [oM 15 6,o 16 (.bin .sub (.t 15) (qI 1)),oM 6 16]))
def kP:SC:=sQ [oM 32 5,oM 4 32] (.ret)
def jR:SF:=⟨33,[.tm 4],sQ [o 4 (.mv (.k (.nils)))] (sQ [oM 7 0,oN 8 7,o 9 (.mks 1 8 [.int .i64 0] (.t 8) (.t 8)),oM 5 9] (.seq (sQ [oM 10 0,oN 11 10,o 12 (.bin .sub (.t 11) (qI 1)),oM 6 12] (.blk 0 (.loop qX))) kP))⟩
def pN:SC:=.seq (.quiet [oF 7 1 3,oL 8 7,oM 9 1,o 10 (.ixs 3 (.t 8) (.t 9)),oF 11 2 10,oL 12 11,o 13 (.load true 2 (.t 3)),oM 14 1,o 15 (.call N.aw [.t 13,.t 14]),oM 16 2,oF 17 1 3,oL 18 17,oM 19 1,o 20 (.ixs 3 (.t 18) (.t 19)),oF 21 1 20,oL 22 21,o 23 (.call N.aF [.t 16,.t 22]),o 24 (.call N.aO [.t 15,.t 23]),oX 25 12 24,oL 26 25,oM 6 26]) (.ret)
def oT:SF:=⟨27,[.tm 6],sQ [o 3 (.box (.t 0)),o 6 (.mv (.k (.nils)))] pN⟩
def fM:SC:=sQ [o 17 (.bin .lss (.t 16) (.t 15))] (.seq (.cond (.t 17) (.skip) (.exit 0)) (.seq (.blk 1 (sQ [oX 18 14 16,oL 19 18,oM 7 19] (.ops [oM 20 5,oF 21 2 2,oL 22 21,oM 23 7,oX 24 22 23,oL 25 24,o 26 (.bin .mul (.t 20) (.t 25)),oM 5 26]))) (.ops [oA 27 16,oM 16 27])))
def fN:SC:=.ops [oM 9 36]
def cX:SC:=sQ [o 43 (.bin .lss (.t 42) (.t 41))] (.seq (.cond (.t 43) (.skip) (.exit 4)) (.seq (.blk 5 (sQ [oX 44 40 42,oL 45 44,oM 12 45] (.seq (sQ [oM 46 12,o 47 (.bin .lss (.t 46) (qI 0)),oM 48 47,og 49 48 false (.mv (.t 12)),og 50 48 false (.mv (.t 10)),og 51 48 false (.bin .gtr (.t 49) (.t 50)),o 52 (.pick (.t 48) (.k (.bool true)) (.t 51))] (.cond (.t 52) (sQ [oz (.store 1 (.t 4) (.k (.bool false)))] (.ret)) (.skip))) (.ops [oM 53 10,oM 54 12,o 55 (.bin .sub (.t 53) (.t 54)),oM 10 55])))) (.ops [oA 56 42,oM 42 56])))
def bN:SC:=sQ [oM 57 9,oN 58 57,oF 59 0 3,oL 60 59,o 61 (.bin .neq (.t 58) (.t 60)),oM 62 61,og 63 62 false (.mv (.t 10)),og 64 62 false (.bin .neq (.t 63) (qI 0)),o 65 (.pick (.t 62) (.k (.bool true)) (.t 64))] (.cond (.t 65) (sQ [oz (.store 1 (.t 4) (.k (.bool false)))] (.ret)) (.skip))
def fF:SC:=.blk 3 (sQ [oF 37 0 2,oF 38 0 37,oL 39 38,oM 10 39] (.seq (sQ [oM 40 9,oN 41 40,oK 42 0] (.blk 4 (.loop cX))) bN))
def fP:SC:=sQ [oz (.store 1 (.t 4) (.k (.bool true)))] (.ret)
def fI:SC:=.seq (sQ [oF 28 2 3,oL 29 28,oN 30 29,oM 31 5,o 32 (.bin .neq (.t 30) (.t 31))] (.cond (.t 32) (sQ [oz (.store 1 (.t 4) (.k (.bool false)))] (.ret)) (.skip))) (.seq (sQ [o 33 (.load true 3 (.t 3)),o 34 (.call N.aq [.t 33])] (.blk 2 (.rng 66 (.t 34) [35,36] fN fF))) fP)
def gy:SC:=sQ [oK 5 1] (.seq (sQ [oF 13 1 3,oL 14 13,oN 15 14,oK 16 0] (.blk 0 (.loop fM))) fI)
def el:SF:=⟨66,[.cell false 1 4],sQ [o 2 (.box (.t 0)),o 3 (.box (.t 1)),o 4 (.alloc [.bool false])] gy⟩
def nG:SC:=sQ [o 19 (.bin .lss (.t 18) (.t 17))] (.seq (.cond (.t 19) (.skip) (.exit 2)) (.seq (.blk 3 (sQ [oM 20 18,oX 21 16 18,oL 22 21,oM 6 20,oM 7 22] (sQ [oM 23 5,oM 24 6,o 25 (.bin .shr (.t 23) (.t 24)),o 26 (.bin .and (.t 25) (.k (.int .u64 1))),o 27 (.bin .eql (.t 26) (.k (.int .u64 0))),oM 28 27,og 29 28 true (.mv (.t 7)),og 30 28 true (.mv (.t 5)),og 31 28 true (.bin .andNot (.t 29) (.t 30)),og 32 28 true (.bin .eql (.t 31) (.k (.int .u64 0))),o 33 (.pick (.t 28) (.t 32) (.k (.bool false)))] (.cond (.t 33) (sQ [oM 34 4,oM 35 6,o 36 (.bsl 1 1 [.int .i64 0] [0] [.t 35]),o 37 (.app 1 8 (.t 34) (.t 36)),oM 4 37] (sQ [oM 38 5,oM 39 6,o 40 (.bin .shl (.k (.int .u64 1)) (.t 39)),o 41 (.bin .or (.t 38) (.t 40)),oM 5 41] (.exit 1))) (.skip))))) (.ops [oA 42 18,oM 18 42])))
def nA:SC:=sQ [o 2 (.mv (.k (.nils))),o 3 (.mv (.k (.bool false)))] (.ret)
def nw:SC:=.seq (sQ [oM 11 4,oN 12 11,oM 13 0,oN 14 13,o 15 (.bin .lss (.t 12) (.t 14))] (.cond (.t 15) (.skip) (.exit 0))) (.blk 1 (.seq (sQ [oM 16 0,oN 17 16,oK 18 0] (.blk 2 (.loop nG))) nA))
def nF:SC:=sQ [oM 43 4,oM 2 43,o 3 (.mv (.k (.bool true)))] (.ret)
def mT:SF:=⟨44,[.tm 2,.tm 3],sQ [o 2 (.mv (.k (.nils))),o 3 (.mv (.k (.bool false)))] (sQ [oM 8 0,oN 9 8,o 10 (.mks 1 8 [.int .i64 0] (qI 0) (.t 9)),oM 4 10,o 5 (.mv (.k (.int .u64 0)))] (.seq (.skip) (.seq (.blk 0 (.loop nw)) nF)))⟩
def fG:SC:=.ops [oA 65 40,oM 40 65]
def cZ:SC:=sQ [o 41 (.bin .lss (.t 40) (.t 39))] (.seq (.cond (.t 41) (.skip) (.exit 0)) (.seq (.blk 1 (sQ [oM 42 40,oX 43 38 40,oL 44 43,oM 10 42,oM 11 44] (.seq (.feet [0,1,0,4,0,28,60,124,255,511,1023] [oF 45 1 8,oL 46 45,oF 47 2 2,oL 48 47,oM 49 11,oX 50 48 49,oL 51 50,o 52 (.bsl 1 1 [.int .i64 0] [0] [.t 51]),o 53 (.app 1 8 (.t 46) (.t 52)),oF 54 1 8,oz (.store 1 (.t 54) (.t 53))]) (sQ [oM 55 10,oM 56 6,o 57 (.bin .gtr (.t 55) (.t 56))] (.cond (.t 57) (.feet [0,0,2,0,14,30,63,127] [oL 58 9,oF 59 2 2,oL 60 59,oM 61 11,oX 62 60 61,oL 63 62,o 64 (.bin .mul (.t 58) (.t 63)),oz (.store 1 (.t 9) (.t 64))]) (.skip)))))) fG))
def cU:SC:=sQ [oM 12 76] (.ops [oM 13 77])
def da:SC:=sQ [o 81 (.bin .lss (.t 80) (.t 79))] (.seq (.cond (.t 81) (.skip) (.exit 4)) (.seq (.blk 5 (sQ [oM 82 80,oX 83 78 80,oL 84 83,oM 14 82,oM 15 84] (.feet [0,1,0,0,12,0,32,124,0,508,0,2044,0,0,12288,32764,0,131071,262143] [oF 85 2 8,oL 86 85,oM 87 12,oL 88 9,o 89 (.bin .quo (.t 87) (.t 88)),oF 90 0 5,oL 91 90,o 92 (.bin .mul (.t 89) (.t 91)),oM 93 14,o 94 (.bin .add (.t 92) (.t 93)),oL 95 9,o 96 (.bin .mul (.t 94) (.t 95)),oM 97 12,oL 98 9,o 99 (.bin .rem (.t 97) (.t 98)),o 100 (.bin .add (.t 96) (.t 99)),oM 101 15,oX 102 86 100,oz (.store 1 (.t 102) (.t 101))]))) (.ops [oA 103 80,oM 80 103])))
def cM:SC:=.blk 3 (sQ [oM 78 13,oN 79 78,oK 80 0] (.blk 4 (.loop da)))
def fE:SC:=sQ [o 104 (.load true 3 (.t 8)),oz (.store 3 (.t 4) (.t 104))] (.ret)
def fL:SC:=sQ [oF 66 2 5,oL 67 66,oN 68 67,oF 69 0 5,oL 70 69,o 71 (.bin .mul (.t 68) (.t 70)),o 72 (.mks 1 8 [.int .i64 0] (.t 71) (.t 71)),oF 73 2 8,oz (.store 1 (.t 73) (.t 72))] (.seq (sQ [o 74 (.load true 3 (.t 5)),o 75 (.call N.aq [.t 74])] (.blk 2 (.rng 105 (.t 75) [76,77] cU cM))) fE)
def gD:SC:=sQ [oF 16 0 2,oF 17 1 16,oL 18 17,oM 19 1,o 20 (.ixs 3 (.t 18) (.t 19)),o 21 (.load true 3 (.t 20)),o 5 (.alloc [.int .i64 0,.nils,.nils]),oz (.store 3 (.t 5) (.t 21))] (sQ [oF 23 1 5,oL 24 23,oM 25 1,o 26 (.call N.aE [.t 24,.t 25]),oM 22 26,o 27 (.ext (.t 22) 0),o 28 (.ext (.t 22) 1),oM 6 27,oM 7 28] (sQ [oF 29 1 5,oL 30 29,o 31 (.call N.a9 [.t 30]),oM 32 6,oM 33 1,o 34 (.bsl 1 1 [.int .i64 0] [0] [.t 33]),o 35 (.call N.bc [.t 31,.t 32,.t 34]),o 36 (.build [.nils,.nils,.nils] [(0,1)] [.t 35]),o 8 (.alloc [.nils,.nils,.nils]),oz (.store 3 (.t 8) (.t 36))] (sQ [o 9 (.alloc [.int .i64 0]),oz (.store 1 (.t 9) (qI 1))] (.seq (sQ [oF 37 0 8,oL 38 37,oN 39 38,oK 40 0] (.blk 0 (.loop cZ))) fL))))
def eg:SF:=⟨105,[.cell true 3 4],sQ [o 2 (.box (.t 0)),o 4 (.alloc [.nils,.nils,.nils])] gD⟩
def sw:SC:=.seq (sQ [oM 11 7,o 12 (.bin .geq (.t 11) (qI 0))] (.cond (.t 12) (.skip) (.exit 0))) (.seq (.blk 1 (sQ [oM 15 5,oM 16 1,oM 17 7,oX 18 16 17,oL 19 18,oM 20 6,o 21 (.bin .mul (.t 19) (.t 20)),o 22 (.bin .add (.t 15) (.t 21)),oM 5 22] (.ops [oM 23 6,oM 24 0,oM 25 7,oX 26 24 25,oL 27 26,o 28 (.bin .mul (.t 23) (.t 27)),oM 6 28]))) (.ops [oM 13 7,o 14 (.bin .sub (.t 13) (qI 1)),oM 7 14]))
def me:SC:=sQ [oM 29 5,oM 4 29] (.ret)
def lV:SF:=⟨30,[.tm 4],sQ [oK 4 0] (sQ [oK 5 0,oK 6 1] (.seq (sQ [oM 8 0,oN 9 8,o 10 (.bin .sub (.t 9) (qI 1)),oM 7 10] (.blk 0 (.loop sw))) me))⟩
def qL:SC:=sQ [o 3 (.mkf N.ac [] [.t 1]),oM 2 3] (.ret)
def p_:SF:=⟨4,[.tm 2],sQ [o 1 (.box (.t 0)),o 2 (.mv (.k (.nilf)))] qL⟩
def cO:SC:=.seq (sQ [oM 13 7,oM 14 8,o 15 (.bin .lss (.t 13) (.t 14))] (.cond (.t 15) (.skip) (.exit 0))) (.blk 1 (sQ [oM 16 7,oM 17 8,o 18 (.bin .add (.t 16) (.t 17)),o 19 (.conv .u64 (.t 18)),o 20 (.bin .shr (.t 19) (.k (.int .u64 1))),o 21 (.conv .i64 (.t 20)),oM 9 21] (sQ [oM 22 0,oM 23 9,oX 24 22 23,oL 25 24,oM 26 1,o 27 (.call N.aZ [.t 25,.t 26])] (.cond (.t 27) (.ops [oM 28 9,oA 29 28,oM 7 29]) (.ops [oM 30 9,oM 8 30])))))
def cQ:SC:=sQ [oM 31 7,oM 32 7,oM 33 6,o 34 (.bin .lss (.t 32) (.t 33)),oM 35 34,og 36 35 true (.mv (.t 0)),og 37 35 true (.mv (.t 7)),og 38 35 true (.ixs 1 (.t 36) (.t 37)),og 39 35 true (.load false 1 (.t 38)),og 40 35 true (.mv (.t 1)),og 41 35 true (.bin .eql (.t 39) (.t 40)),og 42 35 true (.mv (.t 41)),og 43 42 false (.mv (.t 0)),og 44 42 false (.mv (.t 7)),og 45 42 false (.ixs 1 (.t 43) (.t 44)),og 46 42 false (.load false 1 (.t 45)),og 47 42 false (.call N.aJ [.t 46]),og 48 42 false (.mv (.t 47)),og 49 48 true (.mv (.t 1)),og 50 48 true (.call N.aJ [.t 49]),og 51 42 false (.pick (.t 48) (.t 50) (.k (.bool false))),og 52 35 true (.pick (.t 42) (.k (.bool true)) (.t 51)),o 53 (.pick (.t 35) (.t 52) (.k (.bool false))),oM 4 31,oM 5 53] (.ret)
def bU:SF:=⟨54,[.tm 4,.tm 5],sQ [oK 4 0,o 5 (.mv (.k (.bool false)))] (sQ [oM 10 0,oN 11 10,oM 6 11] (sQ [oM 12 6,oK 7 0,oM 8 12] (.seq (.blk 0 (.loop cO)) cQ)))⟩
def nC:SC:=sQ [o 9 (.bin .lss (.t 8) (.t 7))] (.seq (.cond (.t 9) (.skip) (.exit 0)) (.seq (.blk 1 (sQ [oM 10 8,oX 11 6 8,oL 12 11,oM 3 10,oM 4 12] (sQ [oM 13 0,oM 14 3,oM 15 4,o 16 (.dyn (.t 13) [.t 14,.t 15]),o 17 (.not (.t 16))] (.cond (.t 17) (.ret) (.skip))))) (.ops [oA 18 8,oM 8 18])))
def eB:SF:=⟨19,[],sQ [oF 5 2 1,oL 6 5,oN 7 6,oK 8 0] (.blk 0 (.loop nC))⟩
def lL:SF:=⟨17,[.tm 4],sQ [o 4 (.mv (.k (.bool false)))] (sQ [oM 5 0,o 6 (.call N.aI [.t 5]),oM 7 6,og 8 7 true (.mv (.t 1)),og 9 7 true (.call N.aI [.t 8]),og 10 7 true (.not (.t 9)),o 11 (.pick (.t 7) (.t 10) (.k (.bool false))),oM 12 11,og 13 12 false (.mv (.t 0)),og 14 12 false (.mv (.t 1)),og 15 12 false (.bin .lss (.t 13) (.t 14)),o 16 (.pick (.t 12) (.k (.bool true)) (.t 15)),oM 4 16] (.ret))⟩
def fX:SF:=⟨6,[.tm 2],sQ [o 2 (.mv (.k (.bool false)))] (sQ [oM 3 0,oM 4 0,o 5 (.bin .neq (.t 3) (.t 4)),oM 2 5] (.ret))⟩
def jx:SF:=⟨6,[.tm 2],sQ [o 2 (.mv (.k (.bool false)))] (sQ [oM 3 0,oM 4 0,o 5 (.bin .neq (.t 3) (.t 4)),oM 2 5] (.ret))⟩
theorem nN:nFn C0 N.ba=some d_:=by kernel_rfl
theorem qw:nFn C0 N.a8=some gv:=by kernel_rfl
theorem oC (d:Nat)(xs:List AV)(g:G):au C0 d N.a8 xs g=an (I C0) d g N.a8 xs:=by kernel_rfl
theorem rF:nFn C0 N.aN=some iS:=by kernel_rfl
theorem qr (d:Nat)(xs:List AV)(g:G):au C0 d N.aN xs g=an (I C0) d g N.aN xs:=by kernel_rfl
theorem tj:nFn C0 N.an=some jy:=by kernel_rfl
theorem qW (d:Nat)(xs:List AV)(g:G):au C0 d N.an xs g=an (I C0) d g N.an xs:=by kernel_rfl
theorem uO:nFn C0 N.au=some l6:=by kernel_rfl
theorem se (d:Nat)(xs:List AV)(g:G):au C0 d N.au xs g=an (I C0) d g N.au xs:=by kernel_rfl
theorem tb:nFn C0 N.aA=some jU:=by kernel_rfl
theorem qO (d:Nat)(xs:List AV)(g:G):au C0 d N.aA xs g=an (I C0) d g N.aA xs:=by kernel_rfl
theorem nO:nFn C0 N.a9=some cA:=by kernel_rfl
theorem mo (d:Nat)(xs:List AV)(g:G):au C0 d N.a9 xs g=orF ((I C0).call d N.a9 xs g):=by kernel_rfl
theorem jE:nFn C0 N.ap=some cw:=by kernel_rfl
theorem i4 (t:T)(g:G)(xs:List Od):SO.foot C0 t g (.call N.ap xs)=ak ((iJ t xs).flatMap (aF g.h aG)):=by kernel_rfl
theorem iQ (d:Nat)(xs:List AV)(g:G):au C0 d N.ap xs g=an (I C0) d g N.ap xs:=by kernel_rfl
theorem vp:nFn C0 N.am=some nq:=by kernel_rfl
theorem s_ (d:Nat)(xs:List AV)(g:G):au C0 d N.am xs g=an (I C0) d g N.am xs:=by kernel_rfl
theorem oR:nFn C0 N.aw=some eP:=by kernel_rfl
theorem mU (d:Nat)(xs:List AV)(g:G):au C0 d N.aw xs g=an (I C0) d g N.aw xs:=by kernel_rfl
theorem yf:nFn C0 N.ak=some n_:=by kernel_rfl
theorem uP (t:T)(g:G)(xs:List Od):SO.foot C0 t g (.call N.ak xs)=ak ((iJ t xs).flatMap (aF g.h aG)):=by kernel_rfl
theorem uE (d:Nat)(xs:List AV)(g:G):au C0 d N.ak xs g=an (I C0) d g N.ak xs:=by kernel_rfl
theorem xn:nFn C0 N.aU=some oY:=by kernel_rfl
theorem tG (d:Nat)(xs:List AV)(g:G):au C0 d N.aU xs g=an (I C0) d g N.aU xs:=by kernel_rfl
theorem ke:nFn C0 N.ax=some ct:=by kernel_rfl
theorem iV (d:Nat)(xs:List AV)(g:G):au C0 d N.ax xs g=an (I C0) d g N.ax xs:=by kernel_rfl
theorem l8:nFn C0 N.af=some cS:=by kernel_rfl
theorem eA (t:T)(g:G)(xs:List Od):SO.foot C0 t g (.call N.af xs)=ak ((iJ t xs).flatMap (aF g.h aG)):=by kernel_rfl
theorem jQ (d:Nat)(xs:List AV)(g:G):au C0 d N.af xs g=an (I C0) d g N.af xs:=by kernel_rfl
theorem qB:nFn C0 N.aa=some il:=by kernel_rfl
theorem pH (d:Nat)(xs:List AV)(g:G):au C0 d N.aa xs g=an (I C0) d g N.aa xs:=by kernel_rfl
theorem tv:nFn C0 N.aQ=some jN:=by kernel_rfl
theorem qM (d:Nat)(xs:List AV)(g:G):au C0 d N.aQ xs g=an (I C0) d g N.aQ xs:=by kernel_rfl
theorem rT:nFn C0 N.aS=some iU:=by kernel_rfl
theorem qm (d:Nat)(xs:List AV)(g:G):au C0 d N.aS xs g=an (I C0) d g N.aS xs:=by kernel_rfl
theorem pG:nFn C0 N.aL=some fC:=by kernel_rfl
theorem nQ (d:Nat)(xs:List AV)(g:G):au C0 d N.aL xs g=an (I C0) d g N.aL xs:=by kernel_rfl
theorem ta:nFn C0 N.aD=some jW:=by kernel_rfl
theorem qY (d:Nat)(xs:List AV)(g:G):au C0 d N.aD xs g=an (I C0) d g N.aD xs:=by kernel_rfl
theorem tf:nFn C0 N.aB=some jO:=by kernel_rfl
theorem rx (d:Nat)(xs:List AV)(g:G):au C0 d N.aB xs g=an (I C0) d g N.aB xs:=by kernel_rfl
theorem tu:nFn C0 N.aC=some jI:=by kernel_rfl
theorem rA (d:Nat)(xs:List AV)(g:G):au C0 d N.aC xs g=an (I C0) d g N.aC xs:=by kernel_rfl
theorem tZ:nFn C0 N.aH=some lO:=by kernel_rfl
theorem so (d:Nat)(xs:List AV)(g:G):au C0 d N.aH xs g=an (I C0) d g N.aH xs:=by kernel_rfl
theorem rY:nFn C0 N.aP=some iX:=by kernel_rfl
theorem qg (d:Nat)(xs:List AV)(g:G):au C0 d N.aP xs g=an (I C0) d g N.aP xs:=by kernel_rfl
theorem y7:nFn C0 N.aG=some jC:=by kernel_rfl
theorem vC (d:Nat)(xs:List AV)(g:G):au C0 d N.aG xs g=an (I C0) d g N.aG xs:=by kernel_rfl
theorem nY:nFn C0 N.aV=some eM:=by kernel_rfl
theorem mX (d:Nat)(xs:List AV)(g:G):au C0 d N.aV xs g=an (I C0) d g N.aV xs:=by kernel_rfl
theorem yV:nFn C0 N.aF=some qp:=by kernel_rfl
theorem vM (d:Nat)(xs:List AV)(g:G):au C0 d N.aF xs g=an (I C0) d g N.aF xs:=by kernel_rfl
theorem ua:nFn C0 N.ay=some lT:=by kernel_rfl
theorem rI (d:Nat)(xs:List AV)(g:G):au C0 d N.ay xs g=an (I C0) d g N.ay xs:=by kernel_rfl
theorem uC:nFn C0 N.aM=some lZ:=by kernel_rfl
theorem sB (d:Nat)(xs:List AV)(g:G):au C0 d N.aM xs g=an (I C0) d g N.aM xs:=by kernel_rfl
theorem nT:nFn C0 N.aW=some eQ:=by kernel_rfl
theorem nj (d:Nat)(xs:List AV)(g:G):au C0 d N.aW xs g=an (I C0) d g N.aW xs:=by kernel_rfl
theorem i_:nFn C0 N.ae=some aC:=by kernel_rfl
theorem lr:nFn C0 N.aX=some cY:=by kernel_rfl
theorem jK (d:Nat)(xs:List AV)(g:G):au C0 d N.aX xs g=an (I C0) d g N.aX xs:=by kernel_rfl
theorem zq:nFn C0 N.ah=some qv:=by kernel_rfl
theorem vz (d:Nat)(xs:List AV)(g:G):au C0 d N.ah xs g=an (I C0) d g N.ah xs:=by kernel_rfl
theorem yL:nFn C0 N.aY=some pZ:=by kernel_rfl
theorem vV (d:Nat)(xs:List AV)(g:G):au C0 d N.aY xs g=an (I C0) d g N.aY xs:=by kernel_rfl
theorem tp:nFn C0 N.aT=some jR:=by kernel_rfl
theorem rq (d:Nat)(xs:List AV)(g:G):au C0 d N.aT xs g=an (I C0) d g N.aT xs:=by kernel_rfl
theorem xM:nFn C0 N.a7=some oT:=by kernel_rfl
theorem uu (d:Nat)(xs:List AV)(g:G):au C0 d N.a7 xs g=an (I C0) d g N.a7 xs:=by kernel_rfl
theorem nR:nFn C0 N.aK=some el:=by kernel_rfl
theorem mN (d:Nat)(xs:List AV)(g:G):au C0 d N.aK xs g=an (I C0) d g N.aK xs:=by kernel_rfl
theorem vJ:nFn C0 N.a_=some mT:=by kernel_rfl
theorem tw (d:Nat)(xs:List AV)(g:G):au C0 d N.a_ xs g=an (I C0) d g N.a_ xs:=by kernel_rfl
theorem nM:nFn C0 N.aR=some eg:=by kernel_rfl
theorem mF (d:Nat)(xs:List AV)(g:G):au C0 d N.aR xs g=an (I C0) d g N.aR xs:=by kernel_rfl
theorem uU:nFn C0 N.aO=some lV:=by kernel_rfl
theorem sg (d:Nat)(xs:List AV)(g:G):au C0 d N.aO xs g=an (I C0) d g N.aO xs:=by kernel_rfl
theorem zI:nFn C0 N.aq=some p_:=by kernel_rfl
theorem vD (d:Nat)(xs:List AV)(g:G):au C0 d N.aq xs g=an (I C0) d g N.aq xs:=by kernel_rfl
theorem i7:nFn C0 N.aE=some bU:=by kernel_rfl
theorem ij (d:Nat)(xs:List AV)(g:G):au C0 d N.aE xs g=an (I C0) d g N.aE xs:=by kernel_rfl
theorem vE:nFn C0 N.ac=some eB:=by kernel_rfl
theorem uG:nFn C0 N.aZ=some lL:=by kernel_rfl
theorem sC (d:Nat)(xs:List AV)(g:G):au C0 d N.aZ xs g=an (I C0) d g N.aZ xs:=by kernel_rfl
theorem qa:nFn C0 N.aJ=some fX:=by kernel_rfl
theorem od (d:Nat)(xs:List AV)(g:G):au C0 d N.aJ xs g=an (I C0) d g N.aJ xs:=by kernel_rfl
theorem te:nFn C0 N.aI=some jx:=by kernel_rfl
theorem rt (d:Nat)(xs:List AV)(g:G):au C0 d N.aI xs g=an (I C0) d g N.aI xs:=by kernel_rfl
theorem nJ {α:Type}{f:Nat->α->Nat->α->Bool}{i:Nat}{x:α}:∀{l:List α} {j:Nat},(∀b y,l[b]?=some y->f i x (j+b) y=true)->eE f i x j l=true
 | [],_,_=>rfl
 | y::r,j,h=>by
  simp only[eE,Bool.and_eq_true]
  refine ⟨by simpa using h 0 y rfl,nJ fun b z hb=>?_⟩
  have:=h (b+1) z (by simpa using hb)
  rwa [show j+(b+1)=j+1+b by omega] at this
theorem o_ {α:Type}{f:Nat->α->Nat->α->Bool}:∀{l:List α} {i:Nat},(∀a b x y,a<b->l[a]?=some x->l[b]?=some y->f (i+a) x (i+b) y=true)->iD f i l=true
 | [],_,_=>rfl
 | x::r,i,h=>by
  simp only[iD,Bool.and_eq_true]
  refine ⟨nJ fun b y hb=>?_,o_ fun a b x' y hab ha hb=>?_⟩
  ·have:=h 0 (b+1) x y (by omega) rfl (by simpa using hb)
   rwa [Nat.add_zero,show i+(b+1)=i+1+b by omega] at this
  ·have:=h (a+1) (b+1) x' y (by omega) (by simpa using ha) (by simpa using hb)
   rwa [show i+(a+1)=i+1+a by omega,show i+(b+1)=i+1+b by omega] at this
theorem sM {pm:List Nat}:∀{l:List Foot} {i:Nat},(∀f∈l,f.lk.sr=[])->iC pm i l=true
 | [],_,_=>rfl
 | x::r,i,h=>by
  simp only[iC,h x (by simp)]
  exact sM fun f hf=>h f (by simp[hf])
def A0 (pm:List Nat)(ws:List Bool)(L:List (Nat×Nat))(i j:Nat):Bool:=(pm.getD j 0).testBit i || (!(ws.getD i false)&&!(ws.getD j false)) || L.contains (i,j)
def Bp (pm:List Nat)(ws:List Bool)(L:List (Nat×Nat)):Bool:=(List.range ws.length).all fun j=>(List.range j).all fun i=>A0 pm ws L i j
theorem aN {pm:List Nat}{fs:List Foot}(ws:List Bool)(L:List (Nat×Nat))(hw:All2 (fun (f:Foot) (w:Bool)=>f.lk.sr=[]/\(w=false->f.wr=[])) fs ws)(hd:Bp pm ws L=true)
  (hL:∀p∈L,∀x y,fs[p.1]?=some x->fs[p.2]?=some y->bS x y=true):jh pm fs=true:=by
 unfold jh
 rw[aa,if_pos]
 ·exact sM fun f hf=>by
   obtain ⟨i,hi,rfl⟩:=List.mem_iff_getElem.1 hf
   obtain ⟨w,-,h⟩:=hw.get (List.getElem?_eq_getElem hi)
   exact h.1
 ·refine o_ fun a b x y hab ha hb=>?_
  simp only[Nat.zero_add]
  obtain ⟨wa,hwa,ka⟩:=hw.get ha
  obtain ⟨wb,hwb,kb⟩:=hw.get hb
  have hbl:=(List.getElem?_eq_some_iff.1 hwb).1
  have:=List.all_eq_true.1 (List.all_eq_true.1 hd b (List.mem_range.2 hbl)) a (List.mem_range.2 hab)
  simp only[A0,Bool.or_eq_true] at this
  rcases this with (h | h) | h
  ·rw[h,Bool.true_or]
  ·simp only[List.getD_eq_getElem?_getD,hwa,hwb,Option.getD_some,Bool.and_eq_true,Bool.not_eq_true'] at h
   have ex:=ka.2 h.1
   have ey:=kb.2 h.2
   simp only[bS,iL,fH,ex,ey,Bool.and_self,Bool.or_true]
  ·rw[hL (a,b) (List.contains_iff_mem.1 h) x y ha hb,Bool.or_true]
structure Mech where
 card:Int
 frm:List Int
 noise:List Int
 out:List Int
structure Causal where
 grain:Int
 roots:List (List Int)
 nodes:List Mech
structure Node where
 card:Int
 parents:List Int
 rows:List (List Int)
structure Net where
 grain:Int
 nodes:List Node
structure Factor where
 vars:List Int
 cards:List Int
 w:List Int
instance : Rp Mech:=Rp.via fun m:Mech=>(m.card,m.frm,m.noise,m.out)
instance : Rp Causal:=Rp.via fun m:Causal=>(m.grain,m.roots,m.nodes)
instance : Rp Node:=Rp.via fun m:Node=>(m.card,m.parents,m.rows)
instance : Rp Net:=Rp.via fun m:Net=>(m.grain,m.nodes)
instance : Rp Factor:=Rp.via fun m:Factor=>(m.vars,m.cards,m.w)
section
variable {P:Nat->Prop}{k:Nat}{h:H}{cs:List AV}
theorem bI {m:Node}:Rp.rp P k h m cs↔∃a b,cs=[.int .i64 m.card,a,b]/\SlR P k h m.parents a/\SlR P k h m.rows b:=by
 constructor
 ·rintro ⟨c1,c2,rfl,h1,d1,d2,rfl,⟨a,rfl,h2⟩,⟨b,rfl,h3⟩⟩
  rw[a_.1 h1];exact ⟨a,b,rfl,h2,h3⟩
 ·rintro ⟨a,b,rfl,h2,h3⟩
  exact ⟨[.int .i64 m.card],[a,b],rfl,a_.2 rfl,[a],[b],rfl,⟨a,rfl,h2⟩,⟨b,rfl,h3⟩⟩
theorem d5 {m:Net}:Rp.rp P k h m cs↔∃a,cs=[.int .i64 m.grain,a]/\SlR P k h m.nodes a:=by
 constructor
 ·rintro ⟨c1,c2,rfl,h1,⟨a,rfl,h2⟩⟩
  rw[a_.1 h1];exact ⟨a,rfl,h2⟩
 ·rintro ⟨a,rfl,h2⟩
  exact ⟨[.int .i64 m.grain],[a],rfl,a_.2 rfl,⟨a,rfl,h2⟩⟩
theorem mr {m:Factor}:Rp.rp P k h m cs↔∃a b c,cs=[a,b,c]/\SlR P k h m.vars a/\SlR P k h m.cards b/\SlR P k h m.w c:=by
 constructor
 ·rintro ⟨c1,c2,rfl,⟨a,rfl,h2⟩,e1,e2,rfl,⟨b,rfl,h3⟩,⟨c,rfl,h4⟩⟩
  exact ⟨a,b,c,rfl,h2,h3,h4⟩
 ·rintro ⟨a,b,c,rfl,h2,h3,h4⟩
  exact ⟨[a],[b,c],rfl,⟨a,rfl,h2⟩,[b],[c],rfl,⟨b,rfl,h3⟩,⟨c,rfl,h4⟩⟩
end
theorem SlR.len {α:Type} [Rp α]{P:Nat->Prop}{k:Nat}{h:H}{l:List α}{v:AV}(r:SlR P k h l v)(g:G):eO .slice v g=.val (.int .i64 (l.length:Int)):=by
 obtain ⟨rows,h1,h2⟩:=r.rows
 rw[bJ h1,h2.len]
theorem SlR.tree {α:Type} [Rp α]{k k':Nat}{h h':H}{l:List α}{v:AV}(r:SlR NoP k h l v)(hk:k<=k'):SlR NoP k' h' l v:=by
 obtain ⟨w,hw,q⟩:=Rp.tree (P:=NoP) (k':=k') (h':=h') (show Rp.rp NoP k h l [v] from ⟨v,rfl,r⟩) hk
 injection hw with hw;subst hw;exact q
theorem dN {α:Type} [Rp α]{P:Nat->Prop}{k:Nat}{h:H}{l:List α}{v:AV}(r:SlR P k h l v)(d:Nat)(hd:Rp.dp (List α)<=20:=by decide) :
  ∃v',Hx.snap h d aG v=some v'/\∀h',SlR NoP (max k d) h' l v':=by
 obtain ⟨v',e,w,hw,q⟩:=lN (bo l hd) (by decide) d (show One l P k h v from ⟨v,rfl,r⟩)
 injection hw with hw;subst hw
 exact ⟨v',e,fun h'=>q.tree (Nat.le_refl _)⟩
theorem SlR.all {α:Type} [Rp α]{k:Nat}{h:H}{l:List α}{v:AV}(r:SlR NoP k h l v) :
  ∃rows:List (List AV),(∀h',ae h' (Rp.sz α) v=some rows)/\rows.length=l.length/\(∀(i:Nat) (x:α),l[i]?=some x->∃row,rows[i]?=some row/\Rp.rp NoP k .nil x row)/\(0<l.length->iB v=true):=by
 have r0:=(r.tree (h':=.nil) (Nat.le_refl _))
 obtain ⟨rows,h1,h2⟩:=r0.rows
 refine ⟨rows,fun h'=>?_,h2.len.symm,fun i x hi=>h2.get hi,fun hl=>pz h1 (i:=0) (by rw[<-h2.len];exact hl)⟩
 rw[<-h1]
 exact sS fun id ep off len lim e=>by subst e;exact r.2.1.elim
abbrev UT (k:Nat)(l:List Nat)(r:AV):Prop:=One l NoP k .nil r
theorem UT.sl {k:Nat}{l:List Nat}{r:AV}(h:UT k l r)(h':H):SlR NoP k h' l r:=by
 obtain ⟨w,hw,q⟩:=h
 injection hw with hw;subst hw;exact q.tree (Nat.le_refl _)
theorem m6 {P:Nat->Prop}{k:Nat}{h:H}{l:List Nat}{v:AV}(r:SlR P k h l v):∀x∈l,x<18446744073709551616:=by
 obtain ⟨rows,h1,h2⟩:=r.rows
 intro x hx
 obtain ⟨i,hi,e⟩:=List.mem_iff_getElem.1 hx
 obtain ⟨row,h3,h4⟩:=h2.get (i:=i) (a:=x) (by rw[List.getElem?_eq_getElem hi,e])
 exact (oD.1 h4).2
theorem Own.nats {g:G}{b:Nat}{v:AV}{l:List Nat}{k:Nat}(h:Own g b v 1 (l.map cu))(hl:l.length<9223372036854775808)(hb:∀x∈l,x<18446744073709551616):One l (fun _=>True) k g.h v:=by
 refine ⟨v,rfl,Own.sl (α:=Nat) h hl ?_ fun _ _=>trivial⟩
 clear h hl
 induction l with
 | nil=>trivial
 | cons a l ih=>exact ⟨oD.2 ⟨rfl,hb a (by simp)⟩,ih fun x hx=>hb x (by simp[hx])⟩
theorem cI (p:Nat->Bool)(j:Nat):(List.range (j+1)).all p=((List.range j).all p&&p j):=by rw[List.range_succ,List.all_append];simp
theorem fc {p:Nat->Bool}{j n:Nat}(h:j<n)(hp:p j=false):(List.range n).all p=false:=by
 rw[List.all_eq_false];exact ⟨j,List.mem_range.2 h,by rw[hp];decide⟩
end
end Hx
end
section
namespace Hx
open Go
noncomputable section
theorem pe {C:Cfg}{nt d:Nat}{rd:Option Nat}{c:Code}{t:T}{df:List ADf}{g:G}{Q:QT}(h:wp C d rd (dy C nt c) Q t df g):((I C).code nt d rd c t df g).sat Q:=by
 rw[AM];exact Ho _ _ _ _ _ h
end
end Hx
end
